/- The law FnExactIsValidRecord: the walk. -/
import Derived.Test.YtkjhjmehppgmcaaRecTo
namespace Go.Proofs.Ytkjhjmehppgmcaa
open Go.RowKit

theorem specIsValidRecord_any (e : Rec) (w : World) (h1 : e.c.size ≤ 1000000000) (h2 : e.r.size ≤ 1000000000) :
    Calls Try.prog 5 #[e.val] w fun en w' => en = .returned (.bool e.ok) ∧ Below w.heap.size w w' := by
  have b1 := (Below.refl w.heap.size w).alloc (Nat.le_refl _) (.cells #[.string e.c, .string e.r] 26)
  go_enter Try.func5, Try.ntmps5
  go_wp2_with fail
  refine (l33Good_any e _ h1 h2).mono ?_
  rintro en w1 ⟨rfl, hb1⟩
  go_wp2
  go_ret
  exact ⟨rfl, bthen b1 hb1⟩
theorem implIsValidRecord_any (e : Rec) (w : World) (h1 : e.c.size ≤ 1000000000) (h2 : e.r.size ≤ 1000000000) :
    Calls Try.prog 7 #[e.val] w fun en w' => en = .returned (.bool e.ok) ∧ Below w.heap.size w w' := by
  have b1 := (Below.refl w.heap.size w).alloc (Nat.le_refl _) (.cells #[.string e.c, .string e.r] 26)
  go_enter Try.func7, Try.ntmps7
  go_wp2_with fail
  refine (isRecord_any e _ h1 h2).mono ?_
  rintro en w1 ⟨rfl, hb1⟩
  go_wp2
  go_ret
  exact ⟨rfl, bthen b1 hb1⟩

theorem lessR_ok {n : Nat} (h : (n : Int) ≤ 1048576) : lessR 1048576 n = 1048576 - n := by unfold lessR; rw [if_pos h]
theorem lessR_no {n : Nat} (h : ¬ (n : Int) ≤ 1048576) : lessR 1048576 n = -1 := by unfold lessR; rw [if_neg h]

set_option maxHeartbeats 1000000 in
theorem lawIsValidRecord_any (e : Rec) (w : World) (h1 : e.c.size ≤ 9223372036854775807) (h2 : e.r.size ≤ 9223372036854775807) :
    Calls Try.prog 3 #[e.val] w fun en w' => en = .returned (.bool true) ∧ Below w.heap.size w w' := by
  have b1 := (Below.refl w.heap.size w).alloc (Nat.le_refl _) (.cells #[.string e.c, .string e.r] 23)
  have L1 := Lies.new w 23 #[.string e.c, .string e.r]
  by_cases hbig : (e.need : Int) ≤ 1048576
  · have HS := Lib.hid (lessR_ok hbig)
    have hc : e.c.size ≤ 1000000000 := by unfold Rec.need at hbig; omega
    have hr : e.r.size ≤ 1000000000 := by unfold Rec.need at hbig; omega
    have hn0 : decide ((1048576 : Int) - (e.need : Int) < 0) = false := decide_eq_false (by omega)
    have cS := fun W => specIsValidRecord_any e W hc hr
    have cI := fun W => implIsValidRecord_any e W hc hr
    generalize e.ok = ok at cS cI
    have hbo : (ok != ok) = false := by simp
    clear hbig
    go_enter Try.func3, Try.ntmps3
    go_wp2_with fail
    generalize w.alloc (.cells #[.string e.c, .string e.r] 23) = W at b1 L1 ⊢
    generalize hg : w.heap.size = g at L1 ⊢
    refine (szLogRecord_any e _ _ h1 h2 (by omega) (by omega)).mono ?_
    rintro en w1 ⟨rfl, hb1⟩
    rw [HS.out]
    have M1 := L1.below hb1 L1.lt
    have c0 := M1.cell 0
    have c1 := M1.cell 1
    simp only [List.getElem?_cons_zero, List.getElem?_cons_succ] at c0 c1
    go_wp2_with fail
    refine (toLogRecord_any e _).mono ?_
    rintro en w2 ⟨rfl, hb2⟩
    have M2 := M1.below hb2 M1.lt
    go_wp2_with fail
    refine (cS _).mono ?_
    rintro en w3 ⟨rfl, hb3⟩
    have M3 := M2.below hb3 M2.lt
    clear c0 c1
    have c0 := M3.cell 0
    have c1 := M3.cell 1
    simp only [List.getElem?_cons_zero, List.getElem?_cons_succ] at c0 c1
    go_wp2_with fail
    refine (toLogRecord_any e _).mono ?_
    rintro en w4 ⟨rfl, hb4⟩
    go_wp2_with fail
    refine (cI _).mono ?_
    rintro en w5 ⟨rfl, hb5⟩
    go_wp2
    go_ret
    exact ⟨rfl, by rw [← hg] at *; exact bthen b1 (bthen hb1 (bthen hb2 (bthen hb3 (bthen hb4 hb5))))⟩
  · have HS := Lib.hid (lessR_no hbig)
    clear hbig
    go_enter Try.func3, Try.ntmps3
    go_wp2_with fail
    refine (szLogRecord_any e _ _ h1 h2 (by omega) (by omega)).mono ?_
    rintro en w1 ⟨rfl, hb1⟩
    rw [HS.out]
    go_wp2
    go_ret
    exact ⟨rfl, bthen b1 hb1⟩
end Go.Proofs.Ytkjhjmehppgmcaa
