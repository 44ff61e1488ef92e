/- BusiestPerson, in the reference and in the program. -/
import Derived.Test.YtegkmjifphcojaaOffBusy
namespace Go.Proofs.Ytegkmjifphcojaa
open Go.RowKit

def busyOk (x : Off) : Bool := goodOff x && decide (0 < x.o.length)
def busyV (x : Off) : Int := if busyOk x then (specBest x.o x.o (0, 0)).1 else 0
theorem specBest_step {l m : List Outing} {k : Nat} (h : k < m.length) (b : Int × Int) : specBest l (m.drop k) b = specBest l (m.drop (k + 1)) (if b.2 < atP l m[k].p ∨ atP l m[k].p = b.2 ∧ m[k].p < b.1 then (m[k].p, atP l m[k].p) else b) := by
  rw [List.drop_eq_getElem_cons h]; rfl

set_option maxHeartbeats 1000000 in
theorem l32Sum_any (x : Off) (st : Int) (w : World) (h : OffR w w.heap.size x) (ol : x.o.length ≤ 8) (ho : ∀ i (hi : i < x.o.length), x.o[i].ok x.t = true) :
    Calls Try.prog 76 #[x.val, .int .i64 st] w fun e w' => e = .returned (.int .i64 (atP x.o st)) ∧ Below w.heap.size w w' := by
  have HO := Lib.hid ho; clear ho
  have HG : Hid (outFrom (fun o => decide (o.p = st)) 0 (x.o.drop 0) = atP x.o st) := rfl
  go_enter Try.func76, Try.ntmps76
  go_wp2
  have hb0 := (Below.refl w.heap.size w).alloc (Nat.le_refl _) (.cells #[.slice x.TA x.t.length x.tc, .slice x.OA x.o.length x.oc, .int .i64 x.got, .int .i64 x.sold, .int .i64 x.missed] 31)
  have hA := box_at h 31
  generalize w.alloc (.cells #[.slice x.TA x.t.length x.tc, .slice x.OA x.o.length x.oc, .int .i64 x.got, .int .i64 x.sold, .int .i64 x.missed] 31) = W at hb0 hA ⊢
  obtain ⟨s0, s1, s2, s3, s4⟩ := hA.s
  have hro := hA.r.os.el
  obtain ⟨OA, hOA⟩ : ∃ A, x.OA = A := ⟨_, rfl⟩
  rw [hOA] at hro
  simp only [hOA] at s1
  clear hOA
  go_loopw [5, 6] (fun s i wr => ∃ (k : Nat) (u : Int), k ≤ x.o.length ∧ i = .int .i64 k ∧ s = .int .i64 u ∧ (0 ≤ u ∧ u ≤ 9999 * (k : Int)) ∧ (∃ q : Since W.heap.size W, wr = q.val) ∧ Hid (outFrom (fun o => decide (o.p = st)) u (x.o.drop k) = atP x.o st)) (fun _ i _ => x.o.length - (intOf i).toNat)
  case atStart => exact ⟨0, 0, Nat.zero_le _, rfl, rfl, by omega, ⟨Since.start _ _, rfl⟩, HG⟩
  case round =>
    obtain ⟨j, u, hj, rfl, rfl, ⟨u0, u1⟩, ⟨p, rfl⟩, HU⟩ := hrel
    by_cases hlj : j < x.o.length
    · obtain ⟨b, off, rfl, hb, hcell⟩ := hro (by omega)
      obtain ⟨e0, e1, e2⟩ := hcell j hlj
      obtain ⟨_, _, x1, x2⟩ := Outing.bounds (HO.out j hlj)
      have HS := Lib.hid (out_step (f := fun o : Outing => decide (o.p = st)) hlj u)
      obtain ⟨r, hre⟩ : ∃ r, r = x.o[j] := ⟨_, rfl⟩
      rw [← hre] at e0 e1 e2 HS x1 x2
      clear hre hcell hro
      by_cases hz : r.p = st
      · have hv : (r.p == st) = true := by simp [hz]
        have HE : Hid (outFrom (fun o => decide (o.p = st)) (u + r.c) (x.o.drop (j + 1)) = atP x.o st) := by
          have h1 := HU.out; rw [HS.out, if_pos (decide_eq_true hz)] at h1; exact h1
        clear hz
        go_wp2
        go_roundw
        case rel => exact ⟨j + 1, u + r.c, by omega, by go_num, rfl, by omega, ⟨p, rfl⟩, HE⟩
        case measure => simp [intOf]; omega
      · have hv : (r.p == st) = false := by simp [hz]
        have HE : Hid (outFrom (fun o => decide (o.p = st)) u (x.o.drop (j + 1)) = atP x.o st) := by
          have h1 := HU.out; rw [HS.out, if_neg (by rw [decide_eq_false hz]; exact Bool.false_ne_true)] at h1; exact h1
        clear hz
        go_wp2
        go_roundw
        case rel => exact ⟨j + 1, u, by omega, by go_num, rfl, by omega, ⟨p, rfl⟩, HE⟩
        case measure => simp [intOf]; omega
    · have HE2 : Hid (u = atP x.o st) := by
        have h1 := HU.out; rw [List.drop_eq_nil_of_le (by omega)] at h1; exact h1
      clear hro
      go_wp2
      go_ret
      exact ⟨by rw [← HE2.out]; rfl, hb0.trans (p.below.mono hb0.size)⟩

set_option maxHeartbeats 2000000 in
theorem specBusiestPerson_any (x : Off) (w : World) (h : OffR w w.heap.size x) :
    Calls Try.prog 23 #[x.val] w fun e w' => e = .returned (.tuple #[.int .i64 (busyV x), .bool (busyOk x)]) ∧ Below w.heap.size w w' := by
  have b1 := (Below.refl w.heap.size w).alloc (Nat.le_refl _) (.cells #[.slice x.TA x.t.length x.tc, .slice x.OA x.o.length x.oc, .int .i64 x.got, .int .i64 x.sold, .int .i64 x.missed] 31)
  have hA := box_at h 31
  have cG := fun W hW => l32Good_any x W hW
  cases hg : goodOff x
  · have HF : Hid (busyV x = 0 ∧ busyOk x = false) := by unfold busyV busyOk; rw [hg]; exact ⟨rfl, rfl⟩
    rw [hg] at cG
    clear hg
    go_enter Try.func23, Try.ntmps23
    go_wp2_with fail
    generalize w.alloc (.cells #[.slice x.TA x.t.length x.tc, .slice x.OA x.o.length x.oc, .int .i64 x.got, .int .i64 x.sold, .int .i64 x.missed] 31) = W at b1 hA ⊢
    refine (cG _ hA.r).mono ?_
    rintro e w1 ⟨rfl, hb⟩
    go_wp2
    go_ret2
    exact ⟨by rw [HF.out.1, HF.out.2]; rfl, bthen b1 hb⟩
  · have G := good_iff.1 hg
    have ol := G.ol
    have cM := fun st W hW => l32Sum_any x st W hW G.ol G.oall
    have HGD : Hid (goodOff x = true) := hg
    rw [hg] at cG
    clear hg G
    by_cases hlen : 0 < x.o.length
    · have HF : Hid (busyV x = (specBest x.o x.o (0, 0)).1 ∧ busyOk x = true) := by
        have : busyOk x = true := by unfold busyOk; rw [HGD.out, decide_eq_true hlen]; rfl
        unfold busyV; rw [this]; exact ⟨rfl, rfl⟩
      have hne : ((x.o.length : Int) == 0) = false := by rw [beq_eq_false_iff_ne]; omega
      have HS0 : Hid (specBest x.o (x.o.drop 0) (0, 0) = specBest x.o x.o (0, 0)) := rfl
      go_enter Try.func23, Try.ntmps23
      go_wp2_with fail
      generalize w.alloc (.cells #[.slice x.TA x.t.length x.tc, .slice x.OA x.o.length x.oc, .int .i64 x.got, .int .i64 x.sold, .int .i64 x.missed] 31) = W at b1 hA ⊢
      obtain ⟨s0, s1, s2, s3, s4⟩ := hA.s
      have hro := hA.r.os.el
      refine (calls_since0 (cG _ hA.r)).mono ?_
      rintro e w1 ⟨rfl, q1, rfl⟩
      go_wp2
      go_loopw [4, 5, 6] (fun bb mm i wr => ∃ (k : Nat) (b : Int × Int), k ≤ x.o.length ∧ i = .int .i64 k ∧ bb = .int .i64 b.1 ∧ mm = .int .i64 b.2 ∧ (∃ q : Since W.heap.size W, wr = q.val) ∧ Hid (specBest x.o (x.o.drop k) b = specBest x.o x.o (0, 0))) (fun _ _ i _ => x.o.length - (intOf i).toNat)
      case atStart => exact ⟨0, (0, 0), Nat.zero_le _, rfl, rfl, rfl, ⟨q1, rfl⟩, HS0⟩
      case round =>
        obtain ⟨k, ⟨b1', b2'⟩, hk, rfl, rfl, rfl, ⟨q, rfl⟩, HR⟩ := hrel
        by_cases hlt : k < x.o.length
        · obtain ⟨b, off, hOA, hb, hcell⟩ := hro (by omega)
          obtain ⟨e0, e1, e2⟩ := hcell k hlt
          have HS := Lib.hid (specBest_step (l := x.o) hlt (b1', b2'))
          obtain ⟨r, hre⟩ : ∃ r, r = x.o[k] := ⟨_, rfl⟩
          rw [← hre] at e0 e1 e2 HS
          have hxe : ({ x with OA := some ⟨b, off, none⟩ } : Off) = x := by rw [← hOA]
          have hRV : ∀ p : Since W.heap.size W, OffR p.val p.val.heap.size { x with OA := some ⟨b, off, none⟩ } := fun p => by rw [hxe]; exact hA.r.at p
          have cM' : ∀ W', OffR W' W'.heap.size { x with OA := some ⟨b, off, none⟩ } → Calls Try.prog 76 #[Off.val { x with OA := some ⟨b, off, none⟩ }, .int .i64 r.p] W' fun e w' => e = .returned (.int .i64 (atP x.o r.p)) ∧ Below W'.heap.size W' w' := fun W' hW' => by rw [hxe] at hW' ⊢; exact cM r.p W' hW'
          simp only [hOA] at s1
          clear hre hcell hro hOA hxe
          simp only at HS
          go_wp2_with fail
          refine (calls_since (Nat.le_refl _) (cM' _ (hRV q))).mono ?_
          rintro e w2 ⟨rfl, q2, rfl⟩
          obtain ⟨V, hV⟩ : ∃ V, atP x.o r.p = V := ⟨_, rfl⟩
          rw [hV] at HS
          rw [hV]
          clear hV
          by_cases h1 : b2' < V
          · rw [if_pos (Or.inl h1)] at HS
            go_wp2
            go_roundw
            case rel => exact ⟨k + 1, (r.p, V), by omega, by go_num, rfl, rfl, ⟨q2, rfl⟩, by have h1 := HR.out; rw [HS.out] at h1; exact h1⟩
            case measure => simp [intOf]; omega
          · by_cases h2 : V = b2' ∧ r.p < b1'
            · rw [if_pos (Or.inr h2)] at HS
              obtain ⟨h3, h4⟩ := h2
              have hv : (V == b2') = true := by simp [h3]
              have H3 := Lib.hid h3; clear h3
              go_wp2
              go_roundw
              case rel => exact ⟨k + 1, (r.p, V), by omega, by go_num, rfl, rfl, ⟨q2, rfl⟩, by have h1 := HR.out; rw [HS.out] at h1; exact h1⟩
              case measure => simp [intOf]; omega
            · rw [if_neg (by intro h; rcases h with h | h; exact h1 h; exact h2 h)] at HS
              by_cases h3 : V = b2'
              · have h4 : ¬ r.p < b1' := fun h => h2 ⟨h3, h⟩
                have hv : (V == b2') = true := by simp [h3]
                clear h2 h3
                go_wp2
                go_roundw
                case rel => exact ⟨k + 1, (b1', b2'), by omega, by go_num, rfl, rfl, ⟨q2, rfl⟩, by have h1 := HR.out; rw [HS.out] at h1; exact h1⟩
                case measure => simp [intOf]; omega
              · have hv : (V == b2') = false := by simp [h3]
                clear h2 h3
                go_wp2
                go_roundw
                case rel => exact ⟨k + 1, (b1', b2'), by omega, by go_num, rfl, rfl, ⟨q2, rfl⟩, by have h1 := HR.out; rw [HS.out] at h1; exact h1⟩
                case measure => simp [intOf]; omega
        · have HE : Hid ((b1', b2') = specBest x.o x.o (0, 0)) := by
            have h1 := HR.out; rw [List.drop_eq_nil_of_le (by omega)] at h1; exact h1
          clear hro
          go_wp2
          go_ret2
          exact ⟨by rw [HF.out.1, HF.out.2, ← HE.out]; rfl, b1.trans (q.below.mono b1.size)⟩
    · have HF : Hid (busyV x = 0 ∧ busyOk x = false) := by
        have : busyOk x = false := by unfold busyOk; rw [decide_eq_false hlen, Bool.and_false]
        unfold busyV; rw [this]; exact ⟨rfl, rfl⟩
      have hne : ((x.o.length : Int) == 0) = true := by rw [beq_iff_eq]; omega
      go_enter Try.func23, Try.ntmps23
      go_wp2_with fail
      generalize w.alloc (.cells #[.slice x.TA x.t.length x.tc, .slice x.OA x.o.length x.oc, .int .i64 x.got, .int .i64 x.sold, .int .i64 x.missed] 31) = W at b1 hA ⊢
      obtain ⟨s0, s1, s2, s3, s4⟩ := hA.s
      refine (calls_since0 (cG _ hA.r)).mono ?_
      rintro e w1 ⟨rfl, q1, rfl⟩
      go_wp2
      go_ret2
      exact ⟨by rw [HF.out.1, HF.out.2]; rfl, b1.trans (q1.below.mono b1.size)⟩
end Go.Proofs.Ytegkmjifphcojaa
