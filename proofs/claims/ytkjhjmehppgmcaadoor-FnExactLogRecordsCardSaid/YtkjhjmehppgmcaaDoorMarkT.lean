/- Marks that are texts (markText). -/
import Derived.Test.YtkjhjmehppgmcaaDoorNum
import Derived.Test.YtkjhjmehppgmcaaDoorCrash
namespace Go.Proofs.YtkjhjmehppgmcaaDoor
open Go.RowKit

def digB (k : Nat) : UInt8 := UInt8.ofNat (48 + k % 10)
theorem digB_nat (k : Nat) : ((digB k).toNat : Int) = 48 + (k : Int) % 10 := by
  unfold digB
  have h : 48 + k % 10 < 256 := by have := Nat.mod_lt k (show 0 < 10 by omega); omega
  rw [UInt8.toNat_ofNat_of_lt' (by simpa using h)]; omega
def mkL : Nat → Nat → List UInt8 → List UInt8
  | 0, _, o => o
  | f + 1, k, o => if k = 0 then o else mkL f (k / 10) (digB k :: o)
theorem mkL_zero : ∀ (f : Nat) (o : List UInt8), mkL f 0 o = o
  | 0, _ => rfl
  | f + 1, o => by simp [mkL]
def mkT (k : Nat) : ByteArray := ⟨#[109]⟩ ++ ⟨(mkL 10 k []).toArray⟩

set_option maxRecDepth 100000 in
set_option maxHeartbeats 1000000 in
theorem markText_any (k0 : Nat) (w : World) (h0 : 1 ≤ k0) (h1 : k0 ≤ 100000000) :
    Calls Tryd.prog 59 #[.int .i64 (k0 : Int)] w fun e w' => e = .returned (.string (mkT k0)) ∧ Below w.heap.size w w' := by
  have HF : Hid (mkL 10 k0 (bl ⟨#[]⟩) = mkL 10 k0 []) := rfl
  have hkk : k0 < 10 ^ 10 := by omega
  have d0 : decide ((k0 : Int) ≤ 0) = false := decide_eq_false (by omega)
  have z0 : (⟨#[109]⟩ : ByteArray).size = 1 := rfl
  go_enter Tryd.func59, Tryd.ntmps59
  go_wp2
  go_loopw [0, 3] (fun kk o wr => ∃ (f k : Nat) (x : ByteArray), f ≤ 10 ∧ kk = .int .i64 (k : Int) ∧ o = .string x ∧ k ≤ 100000000 ∧ x.size + f ≤ 10 ∧ Hid (k < 10 ^ f) ∧ Hid (mkL f k (bl x) = mkL 10 k0 []) ∧ (∃ q : Since w.heap.size w, wr = q.val)) (fun kk _ _ => (intOf kk).toNat)
  case atStart => exact ⟨10, k0, ⟨#[]⟩, Nat.le_refl _, rfl, rfl, h1, by decide, hkk, HF, ⟨Since.start _ _, rfl⟩⟩
  case round =>
    obtain ⟨f, k, x, hf, rfl, rfl, hk, hx, HK, HR, ⟨q, rfl⟩⟩ := hrel
    by_cases hpos : 0 < k
    · obtain ⟨f', rfl⟩ : ∃ f', f = f' + 1 := by
        rcases f with _ | f'
        · have h9 := HK.out; simp at h9; omega
        · exact ⟨f', rfl⟩
      have HK2 : Hid (k / 10 < 10 ^ f') := Nat.div_lt_of_lt_mul (by rw [Nat.mul_comm, ← Nat.pow_succ]; exact HK.out)
      have HR2 : Hid (mkL f' (k / 10) (digB k :: bl x) = mkL 10 k0 []) := by
        have h9 := HR.out
        rw [mkL, if_neg (by omega)] at h9; exact h9
      have e1 : (k : Int).tdiv 10 = (k : Int) / 10 := Int.tdiv_eq_ediv_of_nonneg (by omega)
      have e2 : (k : Int).tmod 10 = (k : Int) % 10 := Int.tmod_eq_emod_of_nonneg (by omega)
      have d1 : decide (0 < (k : Int)) = true := decide_eq_true (by omega)
      have d2 : decide (0 < k) = true := decide_eq_true hpos
      have u1 : (48 : Int) + (k : Int) % 10 ≤ 57 := by omega
      have u2 : (48 : Int) ≤ 48 + (k : Int) % 10 := by omega
      have hb := q.go' ((Below.refl w.heap.size q.val).alloc q.size (.cells #[.int .u8 (48 + (k : Int) % 10)] 5))
      have hback0 := fromBytes (W := q.val.alloc (.cells #[.int .u8 (48 + (k : Int) % 10)] 5)) (g := q.val.heap.size) (l := [digB k]) (cap := 1) (fun j hj => by
        obtain rfl : j = 0 := by simpa using hj
        have h9 := (Lies.new q.val 5 #[.int .u8 (48 + (k : Int) % 10)]).cell 0
        rw [h9]
        simp [digB_nat])
      have hb9 := (Below.refl w.heap.size q.val).alloc q.size (.cells #[.int .u8 (48 + (k : Int) % 10)] 5)
      obtain ⟨dg, hdg⟩ : ∃ dg : ByteArray, dg = ⟨[digB k].toArray⟩ := ⟨_, rfl⟩
      have hback1 : (convert 53 9 (.slice (some ⟨q.val.heap.size, 0, none⟩) 1 1)).run Tryd.prog (q.val.alloc (.cells #[.int .u8 (48 + (k : Int) % 10)] 5)) = .ok (.string dg) (q.val.alloc (.cells #[.int .u8 (48 + (k : Int) % 10)] 5)) := by rw [hdg]; exact hback0
      have hdz : dg.size = 1 := by rw [hdg]; rfl
      have HDG : Hid (bl (dg ++ x) = digB k :: bl x) := by rw [Hid, bl_app, hdg, bl_mk]; rfl
      have HPos := Lib.hid hpos
      clear hback0 hdg hpos
      go_wp2
      go_roundw
      case rel => exact ⟨f', k / 10, dg ++ x, by omega, by go_num, rfl, by omega, by rw [size_app]; omega, HK2, by rw [Hid, HDG.out]; exact HR2.out, ⟨q.go' hb9, rfl⟩⟩
      case measure => have h9 := HPos.out; simp [intOf]; omega
    · obtain rfl : k = 0 := by omega
      have HT : Hid (mkT k0 = ⟨#[109]⟩ ++ x) := by
        have h9 := HR.out
        rw [mkL_zero] at h9
        unfold mkT Hid; rw [← h9]; first | rfl | (congr 1; exact (bl_ext rfl).symm)
      clear hpos
      go_wp2
      go_ret
      exact ⟨by rw [HT.out]; rfl, q.below⟩
end Go.Proofs.YtkjhjmehppgmcaaDoor
