/- Lemmas. -/
import Derived.Test.YtoeoimhemojdeaaGreatDoorFc29
import Derived.Test.YtoeoimhemojdeaaGreatDoorFc31

set_option linter.unusedVariables false
set_option linter.unusedSimpArgs false
set_option maxHeartbeats 8000000
open Go.Value renaming int → O, slice → F, string → vw
open Go.IntKind renaming i64 → U
open Go.Proofs.Tryz renaming prog → vx

namespace Go.Proofs.YtoeoimhemojdeaaGreatDoor
open Go.RowKit
theorem nF {x:aO} {l:Lg} (h:dV x l=true):bH x:=by
 unfold dV at h; rw [Bool.and_eq_true] at h; exact bi.1 h.1
end Go.Proofs.YtoeoimhemojdeaaGreatDoor
