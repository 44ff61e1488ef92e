/- IsOffice, StampsIn, StampsOut, in the reference and in the program. -/
import Derived.Test.YtojceibamgodbaaDoorOffImpl4
namespace Go.Proofs.YtojceibamgodbaaDoor
open Go.RowKit

theorem isOfficeValid_any (x : Off) (g : Nat) (w : World) (h : OffAt w w.heap.size g x) :
    Calls Tryd.prog 37 #[.pointer (some ⟨g, 0, none⟩)] w fun e w' => e = .returned (.bool (goodOff x)) ∧ Below w.heap.size w w' := by
  cases hv : (sizesOk x && numsOk x)
  · exact isOfficeValid_no x g w h hv
  · exact isOfficeValid_yes x g w h hv
/-- The box of an office that was handed over by value. -/
theorem box_at {x : Off} {w : World} (h : OffR w w.heap.size x) (t : TypeId) : OffAt (w.alloc (.cells #[.slice x.TA x.t.length x.tc, .slice x.OA x.o.length x.oc, .int .i64 x.got, .int .i64 x.sold, .int .i64 x.missed] t)) (w.alloc (.cells #[.slice x.TA x.t.length x.tc, .slice x.OA x.o.length x.oc, .int .i64 x.got, .int .i64 x.sold, .int .i64 x.missed] t)).heap.size w.heap.size x :=
  OffAt.of (x := x) (Lies.new w t #[.slice x.TA x.t.length x.tc, .slice x.OA x.o.length x.oc, .int .i64 x.got, .int .i64 x.sold, .int .i64 x.missed]) (h.up ((Below.refl w.heap.size w).alloc (Nat.le_refl _) _) (Nat.le_refl _))

def okOf (g : Bool) (v : Int) : Int := if g then v else 0
end Go.Proofs.YtojceibamgodbaaDoor
