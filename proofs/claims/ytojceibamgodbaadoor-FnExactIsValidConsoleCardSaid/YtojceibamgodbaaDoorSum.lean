/- Checksums and sealed texts, in the reference and in the program. -/
import Derived.Test.YtojceibamgodbaaDoorPlain
import Derived.Test.YtojceibamgodbaaDoorNum
import Derived.Test.YtojceibamgodbaaDoorItoa
namespace Go.Proofs.YtojceibamgodbaaDoor
open Go.RowKit

theorem sum_drop {s : ByteArray} {k h : Nat} (hk : k < s.size) : sumFrom h ((bl s).drop k) = sumFrom ((41 * h + s[k].toNat + 1) % 999979) ((bl s).drop (k + 1)) := by rw [bl_drop hk]; rfl

set_option maxHeartbeats 1000000 in
theorem l1Sum_any (s : ByteArray) (w : World) (hs : s.size ≤ 1000000000) :
    Calls Tryd.prog 102 #[.string s] w fun e w' => e = .returned (.int .i64 (sumL (bl s))) ∧ w = w' := by
  have HF : Hid (sumFrom 7 ((bl s).drop 0) = sumL (bl s)) := rfl
  go_enter Tryd.func102, Tryd.ntmps102
  go_wp2
  go_loop [3, 4] (fun n i => ∃ k h : Nat, k ≤ s.size ∧ i = .int .i64 k ∧ n = .int .i64 h ∧ h < 999979 ∧ Hid (sumFrom h ((bl s).drop k) = sumL (bl s))) (fun _ i => s.size - (intOf i).toNat)
  case atStart => exact ⟨0, 7, Nat.zero_le _, rfl, rfl, by omega, HF⟩
  case round =>
    obtain ⟨k, h, hk, rfl, rfl, hh, HR⟩ := hrel
    by_cases hlt : k < s.size
    · have HD := Lib.hid (sum_drop (h := h) hlt)
      have u1 : (s[k].toNat : Int) ≤ 255 := by have := UInt8.toNat_lt s[k]; omega
      have HM : Hid ((41 * (h : Int) + (s[k].toNat : Int) + 1) % 999979 = (((41 * h + s[k].toNat + 1) % 999979 : Nat) : Int)) := by unfold Hid; omega
      have HB : Hid ((41 * h + s[k].toNat + 1) % 999979 < 999979) := Nat.mod_lt _ (by omega)
      have e1 : (41 * (h : Int) + (s[k].toNat : Int) + 1).tmod 999979 = (41 * (h : Int) + (s[k].toNat : Int) + 1) % 999979 := Int.tmod_eq_emod_of_nonneg (by omega)
      go_wp2
      go_round
      case rel => exact ⟨k + 1, (41 * h + s[k].toNat + 1) % 999979, by omega, by go_num, congrArg _ HM.out, HB.out, by have h1 := HR.out; rw [HD.out] at h1; exact h1⟩
      case measure => simp [intOf]; omega
    · have HK : Hid (h = sumL (bl s)) := by
        have h1 := HR.out
        rw [List.drop_eq_nil_of_le (by rw [bl_size]; omega)] at h1; exact h1
      go_wp2
      go_ret
      exact ⟨by rw [← HK.out]; rfl, rfl⟩

set_option maxHeartbeats 1000000 in
theorem checksum_any (s : ByteArray) (w : World) (hs : s.size ≤ 1000000000) :
    Calls Tryd.prog 100 #[.string s] w fun e w' => e = .returned (.tuple #[.int .i64 (if s.size ≤ 4000 then (sumL (bl s) : Int) else 0), .bool (decide (s.size ≤ 4000))]) ∧ w = w' := by
  by_cases h4 : s.size ≤ 4000
  · have d4 : decide (4000 < (s.size : Int)) = false := decide_eq_false (by omega)
    have HF : Hid (sumFrom 7 ((bl s).drop 0) = sumL (bl s)) := rfl
    rw [if_pos h4, decide_eq_true h4]
    have H4 := Lib.hid h4
    go_enter Tryd.func100, Tryd.ntmps100
    go_wp2
    go_loop [4, 5, 11] (fun n _ i => ∃ k h : Nat, k ≤ s.size ∧ i = .int .i64 k ∧ n = .int .i64 h ∧ h < 999979 ∧ Hid (sumFrom h ((bl s).drop k) = sumL (bl s))) (fun _ _ i => s.size - (intOf i).toNat)
    case atStart => exact ⟨0, 7, Nat.zero_le _, rfl, rfl, by omega, HF⟩
    case round =>
      obtain ⟨k, h, hk, rfl, rfl, hh, HR⟩ := hrel
      by_cases hlt : k < s.size
      · have HD := Lib.hid (sum_drop (h := h) hlt)
        have u1 : (s[k].toNat : Int) ≤ 255 := by have := UInt8.toNat_lt s[k]; omega
        have HM : Hid ((41 * (h : Int) + (s[k].toNat : Int) + 1) % 999979 = (((41 * h + s[k].toNat + 1) % 999979 : Nat) : Int)) := by unfold Hid; omega
        have HB : Hid ((41 * h + s[k].toNat + 1) % 999979 < 999979) := Nat.mod_lt _ (by omega)
        have e1 : (41 * (h : Int) + (s[k].toNat : Int) + 1).tmod 999979 = (41 * (h : Int) + (s[k].toNat : Int) + 1) % 999979 := Int.tmod_eq_emod_of_nonneg (by omega)
        go_wp2
        go_round
        case rel => exact ⟨k + 1, (41 * h + s[k].toNat + 1) % 999979, by omega, by go_num, congrArg _ HM.out, HB.out, by have h1 := HR.out; rw [HD.out] at h1; exact h1⟩
        case measure => simp [intOf]; omega
      · have HK : Hid (h = sumL (bl s)) := by
          have h1 := HR.out
          rw [List.drop_eq_nil_of_le (by rw [bl_size]; omega)] at h1; exact h1
        go_wp2
        go_ret2
        exact ⟨by rw [← HK.out]; rfl, rfl⟩
  · have d4 : decide (4000 < (s.size : Int)) = true := decide_eq_true (by omega)
    rw [if_neg h4, decide_eq_false h4]
    clear h4
    go_enter Tryd.func100, Tryd.ntmps100
    go_wp2
    go_ret2
    exact ⟨rfl, rfl⟩

theorem str_eq {s : ByteArray} {l : List UInt8} (h : bl s = l) : Ending.returned (.string s) = .returned (.string ⟨l.toArray⟩) := by rw [bl_ext h]
theorem l1Seal_any (s : ByteArray) (w : World) (hs : s.size ≤ 1000000000) :
    Calls Tryd.prog 79 #[.string s] w fun e w' => e = .returned (.string ⟨(sealL (bl s)).toArray⟩) ∧ Below w.heap.size w w' := by
  have hl := sumL_lt (bl s)
  have HS := Lib.hid (fun W => l1Sum_any s W hs)
  have HN := Lib.hid (fun W => l1Num_any (sumL (bl s) : Int) W (by omega) (by omega))
  have hsz : (⟨(Lib.itoa (sumL (bl s) : Int)).toArray⟩ : ByteArray).size ≤ 100 := itoa_len (by omega) (by omega)
  obtain ⟨t, ht⟩ : ∃ t : ByteArray, t = ⟨(Lib.itoa (sumL (bl s) : Int)).toArray⟩ := ⟨_, rfl⟩
  rw [← ht] at HN hsz
  have HT : Hid (bl t = Lib.itoa (sumL (bl s) : Int)) := by rw [ht, Hid, bl_mk]
  clear ht
  go_enter Tryd.func79, Tryd.ntmps79
  go_wp2_with (first | (go_at_call 102; refine (HS.out _).mono ?_; rintro e w' ⟨rfl, rfl⟩) | (go_at_call 80; refine (HN.out _).mono ?_; rintro e w1 ⟨rfl, hb1⟩))
  go_ret
  exact ⟨str_eq (by rw [bl_app, bl_app, HT.out]; unfold sealL; simp [bl_lit]), hb1⟩
end Go.Proofs.YtojceibamgodbaaDoor
