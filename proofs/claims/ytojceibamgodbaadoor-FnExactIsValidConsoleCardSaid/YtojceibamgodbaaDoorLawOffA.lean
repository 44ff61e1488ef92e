/- Laws over an office with scalar results: the walks. (Printed by lawgen_off.py) -/
import Derived.Test.YtojceibamgodbaaDoorOffIn
import Derived.Deep.RegionHeld3
namespace Go.Proofs.YtojceibamgodbaaDoor
open Go.RowKit

/-- A copy's office. -/
abbrev Off.copy (x : Off) (g1 g2 : Nat) : Off := { x with TA := some ⟨g1, 0, none⟩, tc := x.t.length, OA := some ⟨g2, 0, none⟩, oc := x.o.length }
theorem copy_reads {x : Off} {w : World} {g1 g2 : Nat} (h1 : Lies w g1 97 (x.t.flatMap Tray.enc)) (h2 : Lies w g2 99 (x.o.flatMap Outing.enc)) (hn : x.t.length ≤ 1048576) (hm : x.o.length ≤ 1048576) : OffR w w.heap.size (x.copy g1 g2) :=
  ⟨lies_trays h1 (show x.t.length ≤ 9223372036854775807 by omega), lies_outings h2 (show x.o.length ≤ 9223372036854775807 by omega)⟩

end Go.Proofs.YtojceibamgodbaaDoor
