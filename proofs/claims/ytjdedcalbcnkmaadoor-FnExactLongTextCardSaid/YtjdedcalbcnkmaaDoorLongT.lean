/- The long text of a phrase: plain words. -/
import Derived.Test.YtjdedcalbcnkmaaDoorJoinInts
namespace Go.Proofs.YtjdedcalbcnkmaaDoor
open Go.RowKit

def longMark (s : Int) : List UInt8 := if s = 1 then [109, 105, 110, 116] else if s = 2 then [117, 110, 117, 115, 101, 100] else [117, 115, 101, 100]
def withF : List UInt8 := [32, 119, 105, 116, 104, 32, 102, 97, 117, 108, 116, 115, 32]
def longFau : Nat → List Int → List UInt8
  | _, [] => []
  | k, f :: l => (if k = 0 then withF else [44]) ++ Lib.itoa f ++ longFau (k + 1) l
def longPri (p : Int) : List UInt8 := if 0 < p then [32, 97, 116, 32] ++ Lib.itoa p else []
def longT (x : Ph) : List UInt8 := Lib.itoa x.c ++ [32] ++ longMark x.s ++ longFau 0 x.f ++ longPri x.p
theorem longFau_step {l : List Int} {k : Nat} (h : k < l.length) : longFau k (l.drop k) = (if k = 0 then withF else [44]) ++ Lib.itoa l[k] ++ longFau (k + 1) (l.drop (k + 1)) := by
  rw [List.drop_eq_getElem_cons h, longFau]
theorem longFau_tail : ∀ (l : List Int) (k : Nat), longFau (k + 1) l = Lib.joinTail [44] (l.map Lib.itoa)
  | [], _ => rfl
  | f :: l, k => by rw [longFau, longFau_tail l]; simp [Lib.joinTail]
theorem longFau_join (l : List Int) (h : 0 < l.length) : longFau 0 l = withF ++ Lib.join (l.map Lib.itoa) [44] := by
  cases l with
  | nil => simp at h
  | cons f l => rw [longFau, longFau_tail, List.map_cons, Lib.join_cons]; simp
end Go.Proofs.YtjdedcalbcnkmaaDoor
