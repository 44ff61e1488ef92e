/- Records in the laws: size, copy; arguments that came in. -/
import Derived.Test.YtkjhjmehppgmcaaDoorPlain
import Derived.Test.YtkjhjmehppgmcaaDoorOpen
namespace Go.Proofs.YtkjhjmehppgmcaaDoor
open Go.RowKit

def Rec.need (e : Rec) : Nat := e.c.size + e.r.size
def lessR (k : Int) (n : Nat) : Int := if (n : Int) ≤ k then k - n else -1
set_option maxHeartbeats 1000000 in
theorem szLogRecord_any (e : Rec) (k : Int) (w : World) (h1 : e.c.size ≤ 9223372036854775807) (h2 : e.r.size ≤ 9223372036854775807) (hk : 0 ≤ k) (hk' : k ≤ 1048576) :
    Calls Tryd.prog 14 #[e.val, .int .i64 k] w fun en w' => en = .returned (.int .i64 (lessR k e.need)) ∧ Below w.heap.size w w' := by
  have hb0 := (Below.refl w.heap.size w).alloc (Nat.le_refl _) (.cells #[.string e.c, .string e.r] 23)
  by_cases ha : (e.c.size : Int) ≤ k
  · have d1 : decide (k - (e.c.size : Int) < 0) = false := decide_eq_false (by omega)
    by_cases hb : (e.c.size : Int) + e.r.size ≤ k
    · have d2 : decide (k - (e.c.size : Int) - (e.r.size : Int) < 0) = false := decide_eq_false (by omega)
      have HN : Hid (lessR k e.need = k - (e.c.size : Int) - (e.r.size : Int)) := by unfold lessR Rec.need Hid; rw [if_pos (by omega)]; omega
      clear hb
      go_enter Tryd.func14, Tryd.ntmps14
      go_wp2
      go_ret
      exact ⟨by rw [HN.out]; rfl, hb0⟩
    · have d2 : decide (k - (e.c.size : Int) - (e.r.size : Int) < 0) = true := decide_eq_true (by omega)
      have HN : Hid (lessR k e.need = -1) := by unfold lessR Rec.need Hid; rw [if_neg (by omega)]
      clear hb
      go_enter Tryd.func14, Tryd.ntmps14
      go_wp2
      go_ret
      exact ⟨by rw [HN.out]; rfl, hb0⟩
  · have d1 : decide (k - (e.c.size : Int) < 0) = true := decide_eq_true (by omega)
    have HN : Hid (lessR k e.need = -1) := by unfold lessR Rec.need Hid; rw [if_neg (by omega)]
    clear ha
    go_enter Tryd.func14, Tryd.ntmps14
    go_wp2
    go_ret
    exact ⟨by rw [HN.out]; rfl, hb0⟩

set_option maxHeartbeats 1000000 in
theorem toLogRecord_any (e : Rec) (w : World) :
    Calls Tryd.prog 16 #[e.val] w fun en w' => en = .returned e.val ∧ Below w.heap.size w w' := by
  go_enter Tryd.func16, Tryd.ntmps16
  go_wp2
  refine bodyPost_ret (v := e.val) (by simp [results, Tryd.results16, go_sem, *]) rfl ⟨rfl, ?_⟩
  repeat (first | exact Below.refl _ _ | refine Below.alloc ?_ (by simp; try omega) _ | refine Below.setCell ?_ (by simp; try omega) _)
end Go.Proofs.YtkjhjmehppgmcaaDoor
