/- In-range tests; what is left of a bound. -/
import Derived.Test.YtojceibamgodbaaDoorProg
import Derived.Test.YtojceibamgodbaaDoorBase
namespace Go.Proofs.YtojceibamgodbaaDoor
open Go.RowKit

def inR (n lo hi : Int) : Bool := decide (lo ≤ n) && decide (n ≤ hi)
theorem inR_iff {n lo hi : Int} : inR n lo hi = true ↔ lo ≤ n ∧ n ≤ hi := by simp [inR]
theorem inR_no {n lo hi : Int} : inR n lo hi = false ↔ n < lo ∨ hi < n := by
  cases h : inR n lo hi with
  | true => rw [inR_iff] at h; simp; omega
  | false =>
    simp only [true_iff]
    by_cases h' : lo ≤ n ∧ n ≤ hi
    · rw [← inR_iff, h] at h'; cases h'
    · omega
theorem l1In_any (n lo hi : Int) (w : World) : Calls Tryd.prog 52 #[.int .i64 n, .int .i64 lo, .int .i64 hi] w fun e w' => e = .returned (.bool (inR n lo hi)) ∧ w = w' := by
  go_enter Tryd.func52, Tryd.ntmps52
  go_wp2
  all_goals (go_ret; exact ⟨by simp [inR, *]; try omega, rfl⟩)
theorem inRange_any (n lo hi : Int) (w : World) : Calls Tryd.prog 51 #[.int .i64 n, .int .i64 lo, .int .i64 hi] w fun e w' => e = .returned (.bool (inR n lo hi)) ∧ w = w' := by
  go_enter Tryd.func51, Tryd.ntmps51
  go_wp2
  all_goals (go_ret; exact ⟨by simp [inR, *]; try omega, rfl⟩)
def lessen (k : Int) (n : Nat) : Int := if (n : Int) ≤ k then k - n else -1
theorem lessen_no {k : Int} {a b : Nat} (h : k < a) : lessen k (a + b) = -1 := by unfold lessen; rw [if_neg (by omega)]
theorem lessen_yes {k : Int} {a b : Nat} (_h : (a : Int) ≤ k) : lessen k (a + b) = lessen (k - a) b := by
  unfold lessen
  by_cases h : ((a + b : Nat) : Int) ≤ k
  · rw [if_pos h, if_pos (by omega)]; omega
  · rw [if_neg h, if_neg (by omega)]
end Go.Proofs.YtojceibamgodbaaDoor
