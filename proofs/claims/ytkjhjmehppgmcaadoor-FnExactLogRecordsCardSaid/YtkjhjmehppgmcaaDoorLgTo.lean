/- Logs in the laws: size, copy, likeness. -/
import Derived.Test.YtkjhjmehppgmcaaDoorLogS
import Derived.Test.YtkjhjmehppgmcaaDoorRecTo
namespace Go.Proofs.YtkjhjmehppgmcaaDoor
open Go.RowKit

def Lg.need (l : Lg) : Nat := l.D.size + l.P.size
theorem lessR_le {n : Nat} {k : Int} (h : (n : Int) ≤ k) : lessR k n = k - n := by unfold lessR; rw [if_pos h]
theorem lessR_gt {n : Nat} {k : Int} (h : ¬ (n : Int) ≤ k) : lessR k n = -1 := by unfold lessR; rw [if_neg h]

set_option maxHeartbeats 1000000 in
theorem szLog_any (l : Lg) (k : Int) (w : World) (h1 : l.D.size ≤ 9223372036854775807) (h2 : l.P.size ≤ 9223372036854775807) (hk : 0 ≤ k) (hk' : k ≤ 1048576) :
    Calls Tryd.prog 21 #[l.val, .int .i64 k] w fun en w' => en = .returned (.int .i64 (lessR k l.need)) ∧ Below w.heap.size w w' := by
  have hb0 := (Below.refl w.heap.size w).alloc (Nat.le_refl _) (.cells #[.string l.D, .string l.P, .int .i64 l.n] 36)
  by_cases ha : (l.D.size : Int) ≤ k
  · have d1 : decide (k - (l.D.size : Int) < 0) = false := decide_eq_false (by omega)
    by_cases hb : (l.D.size : Int) + l.P.size ≤ k
    · have d2 : decide (k - (l.D.size : Int) - (l.P.size : Int) < 0) = false := decide_eq_false (by omega)
      have HN : Hid (lessR k l.need = k - (l.D.size : Int) - (l.P.size : Int)) := by unfold lessR Lg.need Hid; rw [if_pos (by omega)]; omega
      clear hb
      go_enter Tryd.func21, Tryd.ntmps21
      go_wp2
      go_ret
      exact ⟨by rw [HN.out]; rfl, hb0⟩
    · have d2 : decide (k - (l.D.size : Int) - (l.P.size : Int) < 0) = true := decide_eq_true (by omega)
      have HN : Hid (lessR k l.need = -1) := by unfold lessR Lg.need Hid; rw [if_neg (by omega)]
      clear hb
      go_enter Tryd.func21, Tryd.ntmps21
      go_wp2
      go_ret
      exact ⟨by rw [HN.out]; rfl, hb0⟩
  · have d1 : decide (k - (l.D.size : Int) < 0) = true := decide_eq_true (by omega)
    have HN : Hid (lessR k l.need = -1) := by unfold lessR Lg.need Hid; rw [if_neg (by omega)]
    clear ha
    go_enter Tryd.func21, Tryd.ntmps21
    go_wp2
    go_ret
    exact ⟨by rw [HN.out]; rfl, hb0⟩

set_option maxHeartbeats 1000000 in
theorem toLog_any (l : Lg) (w : World) :
    Calls Tryd.prog 23 #[l.val] w fun en w' => en = .returned l.val ∧ Below w.heap.size w w' := by
  go_enter Tryd.func23, Tryd.ntmps23
  go_wp2
  refine bodyPost_ret (v := l.val) (by simp [results, Tryd.results23, go_sem, *]) rfl ⟨rfl, ?_⟩
  repeat (first | exact Below.refl _ _ | refine Below.alloc ?_ (by simp; try omega) _ | refine Below.setCell ?_ (by simp; try omega) _)

set_option maxHeartbeats 1000000 in
theorem eqLog_yes (l : Lg) (w : World) :
    Calls Tryd.prog 20 #[l.val, l.val] w fun en w' => en = .returned (.bool true) ∧ Below w.heap.size w w' := by
  have s0 : (l.D.toList != l.D.toList) = false := by simp
  have s1 : (l.P.toList != l.P.toList) = false := by simp
  have s2 : (l.n != l.n) = false := by simp
  go_enter Tryd.func20, Tryd.ntmps20
  go_wp2
  refine bodyPost_ret (v := .bool true) (by simp [results, Tryd.results20, go_sem, *]) rfl ⟨rfl, ?_⟩
  repeat (first | exact Below.refl _ _ | refine Below.alloc ?_ (by simp; try omega) _ | refine Below.setCell ?_ (by simp; try omega) _)

theorem specIsValidLog_any (l : Lg) (w : World) (hs : l.D.size + l.P.size ≤ 2000000) :
    Calls Tryd.prog 22 #[l.val] w fun en w' => en = .returned (.bool l.ok) ∧ Below w.heap.size w w' := by
  have b1 := (Below.refl w.heap.size w).alloc (Nat.le_refl _) (.cells #[.string l.D, .string l.P, .int .i64 l.n] 31)
  go_enter Tryd.func22, Tryd.ntmps22
  go_wp2_with fail
  refine (l33Log_any l _ hs).mono ?_
  rintro en w1 ⟨rfl, hb1⟩
  go_wp2
  go_ret
  exact ⟨rfl, bthen b1 hb1⟩
theorem implIsValidLog_any (l : Lg) (w : World) (hs : l.D.size + l.P.size ≤ 2000000) (ht : Tab w) :
    Calls Tryd.prog 24 #[l.val] w fun en w' => en = .returned (.bool l.ok) ∧ Below w.heap.size w w' := by
  have b1 := (Below.refl w.heap.size w).alloc (Nat.le_refl _) (.cells #[.string l.D, .string l.P, .int .i64 l.n] 31)
  have ht1 := ht.then b1
  go_enter Tryd.func24, Tryd.ntmps24
  go_wp2_with fail
  refine (isLog_any l _ hs ht1).mono ?_
  rintro en w1 ⟨rfl, hb1⟩
  go_wp2
  go_ret
  exact ⟨rfl, bthen b1 hb1⟩

set_option maxHeartbeats 1000000 in
set_option linter.unusedVariables false in
theorem lawIsValidLog_any (l : Lg) (w : World) (h1 : l.D.size ≤ 9223372036854775807) (h2 : l.P.size ≤ 9223372036854775807) (h3 : -9223372036854775808 ≤ l.n) (h4 : l.n ≤ 9223372036854775807) (ht : Tab w) :
    Calls Tryd.prog 5 #[l.val] w fun en w' => en = .returned (.bool true) ∧ Below w.heap.size w w' := by
  have b1 := (Below.refl w.heap.size w).alloc (Nat.le_refl _) (.cells #[.string l.D, .string l.P, .int .i64 l.n] 36)
  have L1 := Lies.new w 36 #[.string l.D, .string l.P, .int .i64 l.n]
  have ht1 := ht.then b1
  by_cases hbig : (l.need : Int) ≤ 1048576
  · have HS := Lib.hid (lessR_le hbig)
    have hs : l.D.size + l.P.size ≤ 2000000 := by unfold Lg.need at hbig; omega
    have hn0 : decide ((1048576 : Int) - (l.need : Int) < 0) = false := decide_eq_false (by omega)
    have cS := fun W => specIsValidLog_any l W hs
    have cI := fun W hW => implIsValidLog_any l W hs hW
    generalize l.ok = ok at cS cI
    have hbo : (ok != ok) = false := by simp
    clear hbig
    go_enter Tryd.func5, Tryd.ntmps5
    go_wp2_with fail
    generalize w.alloc (.cells #[.string l.D, .string l.P, .int .i64 l.n] 36) = W at b1 L1 ht1 ⊢
    generalize hg : w.heap.size = g at L1 ⊢
    refine (szLog_any l _ _ h1 h2 (by omega) (by omega)).mono ?_
    rintro en w1 ⟨rfl, hb1⟩
    rw [HS.out]
    have M1 := L1.below hb1 L1.lt
    have c0 := M1.cell 0
    have c1 := M1.cell 1
    have c2 := M1.cell 2
    simp only [List.getElem?_cons_zero, List.getElem?_cons_succ] at c0 c1 c2
    go_wp2_with fail
    refine (toLog_any l _).mono ?_
    rintro en w2 ⟨rfl, hb2⟩
    have M2 := M1.below hb2 M1.lt
    go_wp2_with fail
    refine (cS _).mono ?_
    rintro en w3 ⟨rfl, hb3⟩
    have M3 := M2.below hb3 M2.lt
    clear c0 c1 c2
    have c0 := M3.cell 0
    have c1 := M3.cell 1
    have c2 := M3.cell 2
    simp only [List.getElem?_cons_zero, List.getElem?_cons_succ] at c0 c1 c2
    have ht3 := ((ht1.then hb1).then hb2).then hb3
    go_wp2_with fail
    refine (toLog_any l _).mono ?_
    rintro en w4 ⟨rfl, hb4⟩
    go_wp2_with fail
    refine (cI _ (ht3.then hb4)).mono ?_
    rintro en w5 ⟨rfl, hb5⟩
    go_wp2
    go_ret
    exact ⟨rfl, by rw [← hg] at *; exact bthen b1 (bthen hb1 (bthen hb2 (bthen hb3 (bthen hb4 hb5))))⟩
  · have HS := Lib.hid (lessR_gt hbig)
    clear hbig
    go_enter Tryd.func5, Tryd.ntmps5
    go_wp2_with fail
    refine (szLog_any l _ _ h1 h2 (by omega) (by omega)).mono ?_
    rintro en w1 ⟨rfl, hb1⟩
    rw [HS.out]
    go_wp2
    go_ret
    exact ⟨rfl, bthen b1 hb1⟩
end Go.Proofs.YtkjhjmehppgmcaaDoor
