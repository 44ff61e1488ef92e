/- Logs in the laws: size, copy, likeness. -/
import Derived.Test.YtojceibamgodbaaDoorLogS
import Derived.Test.YtojceibamgodbaaDoorRecTo
namespace Go.Proofs.YtojceibamgodbaaDoor
open Go.RowKit

def Lg.need (l : Lg) : Nat := l.D.size + l.P.size
theorem lessR_le {n : Nat} {k : Int} (h : (n : Int) ≤ k) : lessR k n = k - n := by unfold lessR; rw [if_pos h]
theorem lessR_gt {n : Nat} {k : Int} (h : ¬ (n : Int) ≤ k) : lessR k n = -1 := by unfold lessR; rw [if_neg h]

set_option maxHeartbeats 1000000 in
theorem szLog_any (l : Lg) (k : Int) (w : World) (h1 : l.D.size ≤ 9223372036854775807) (h2 : l.P.size ≤ 9223372036854775807) (hk : 0 ≤ k) (hk' : k ≤ 1048576) :
    Calls Tryd.prog 33 #[l.val, .int .i64 k] w fun en w' => en = .returned (.int .i64 (lessR k l.need)) ∧ Below w.heap.size w w' := by
  have hb0 := (Below.refl w.heap.size w).alloc (Nat.le_refl _) (.cells #[.string l.D, .string l.P, .int .i64 l.n] 27)
  by_cases ha : (l.D.size : Int) ≤ k
  · have d1 : decide (k - (l.D.size : Int) < 0) = false := decide_eq_false (by omega)
    by_cases hb : (l.D.size : Int) + l.P.size ≤ k
    · have d2 : decide (k - (l.D.size : Int) - (l.P.size : Int) < 0) = false := decide_eq_false (by omega)
      have HN : Hid (lessR k l.need = k - (l.D.size : Int) - (l.P.size : Int)) := by unfold lessR Lg.need Hid; rw [if_pos (by omega)]; omega
      clear hb
      go_enter Tryd.func33, Tryd.ntmps33
      go_wp2
      go_ret
      exact ⟨by rw [HN.out]; rfl, hb0⟩
    · have d2 : decide (k - (l.D.size : Int) - (l.P.size : Int) < 0) = true := decide_eq_true (by omega)
      have HN : Hid (lessR k l.need = -1) := by unfold lessR Lg.need Hid; rw [if_neg (by omega)]
      clear hb
      go_enter Tryd.func33, Tryd.ntmps33
      go_wp2
      go_ret
      exact ⟨by rw [HN.out]; rfl, hb0⟩
  · have d1 : decide (k - (l.D.size : Int) < 0) = true := decide_eq_true (by omega)
    have HN : Hid (lessR k l.need = -1) := by unfold lessR Lg.need Hid; rw [if_neg (by omega)]
    clear ha
    go_enter Tryd.func33, Tryd.ntmps33
    go_wp2
    go_ret
    exact ⟨by rw [HN.out]; rfl, hb0⟩

set_option maxHeartbeats 1000000 in
theorem toLog_any (l : Lg) (w : World) :
    Calls Tryd.prog 36 #[l.val] w fun en w' => en = .returned l.val ∧ Below w.heap.size w w' := by
  go_enter Tryd.func36, Tryd.ntmps36
  go_wp2
  refine bodyPost_ret (v := l.val) (by simp [results, Tryd.results36, go_sem, *]) rfl ⟨rfl, ?_⟩
  repeat (first | exact Below.refl _ _ | refine Below.alloc ?_ (by simp; try omega) _ | refine Below.setCell ?_ (by simp; try omega) _)

set_option maxHeartbeats 1000000 in
theorem eqLog_yes (l : Lg) (w : World) :
    Calls Tryd.prog 40 #[l.val, l.val] w fun en w' => en = .returned (.bool true) ∧ Below w.heap.size w w' := by
  have s0 : (l.D.toList != l.D.toList) = false := by simp
  have s1 : (l.P.toList != l.P.toList) = false := by simp
  have s2 : (l.n != l.n) = false := by simp
  go_enter Tryd.func40, Tryd.ntmps40
  go_wp2
  refine bodyPost_ret (v := .bool true) (by simp [results, Tryd.results40, go_sem, *]) rfl ⟨rfl, ?_⟩
  repeat (first | exact Below.refl _ _ | refine Below.alloc ?_ (by simp; try omega) _ | refine Below.setCell ?_ (by simp; try omega) _)

theorem specIsValidLog_any (l : Lg) (w : World) (hs : l.D.size + l.P.size ≤ 2000000) :
    Calls Tryd.prog 17 #[l.val] w fun en w' => en = .returned (.bool l.ok) ∧ Below w.heap.size w w' := by
  have b1 := (Below.refl w.heap.size w).alloc (Nat.le_refl _) (.cells #[.string l.D, .string l.P, .int .i64 l.n] 36)
  go_enter Tryd.func17, Tryd.ntmps17
  go_wp2_with fail
  refine (l33Log_any l _ hs).mono ?_
  rintro en w1 ⟨rfl, hb1⟩
  go_wp2
  go_ret
  exact ⟨rfl, bthen b1 hb1⟩
theorem implIsValidLog_any (l : Lg) (w : World) (hs : l.D.size + l.P.size ≤ 2000000) (ht : Tab w) :
    Calls Tryd.prog 16 #[l.val] w fun en w' => en = .returned (.bool l.ok) ∧ Below w.heap.size w w' := by
  have b1 := (Below.refl w.heap.size w).alloc (Nat.le_refl _) (.cells #[.string l.D, .string l.P, .int .i64 l.n] 36)
  have ht1 := ht.then b1
  go_enter Tryd.func16, Tryd.ntmps16
  go_wp2_with fail
  refine (isLog_any l _ hs ht1).mono ?_
  rintro en w1 ⟨rfl, hb1⟩
  go_wp2
  go_ret
  exact ⟨rfl, bthen b1 hb1⟩

end Go.Proofs.YtojceibamgodbaaDoor
