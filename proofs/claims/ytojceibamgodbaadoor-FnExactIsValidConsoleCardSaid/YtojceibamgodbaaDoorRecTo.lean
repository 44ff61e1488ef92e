/- Records in the laws: size, copy; arguments that came in. -/
import Derived.Test.YtojceibamgodbaaDoorPlain
import Derived.Test.YtojceibamgodbaaDoorOpen
namespace Go.Proofs.YtojceibamgodbaaDoor
open Go.RowKit

def Rec.need (e : Rec) : Nat := e.c.size + e.r.size
def lessR (k : Int) (n : Nat) : Int := if (n : Int) ≤ k then k - n else -1
end Go.Proofs.YtojceibamgodbaaDoor
