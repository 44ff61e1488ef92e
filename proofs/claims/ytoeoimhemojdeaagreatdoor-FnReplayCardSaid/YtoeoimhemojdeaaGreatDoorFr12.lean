/- Lemmas. -/
import Derived.Test.YtoeoimhemojdeaaGreatDoorFr09
import Derived.Test.YtoeoimhemojdeaaGreatDoorFr11

set_option linter.unusedVariables false
set_option linter.unusedSimpArgs false
set_option maxHeartbeats 8000000
open Go.Value renaming int → O, slice → F, string → xh
open Go.IntKind renaming i64 → U
open Go.Proofs.Tryz renaming prog → xi

namespace Go.Proofs.YtoeoimhemojdeaaGreatDoor
open Go.RowKit
theorem oD {x:aN} {l:Lg} (h:eu x l=true):bK x:=by
 unfold eu at h; rw [Bool.and_eq_true] at h; exact bu.1 h.1
end Go.Proofs.YtoeoimhemojdeaaGreatDoor
