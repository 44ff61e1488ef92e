/- Lemmas. -/
import Derived.Test.YtoeoimhemojdeaaGreatDoorFs02

set_option linter.unusedVariables false
set_option linter.unusedSimpArgs false
set_option maxHeartbeats 8000000
open Go.Value renaming int → O, slice → F, string → wG
open Go.IntKind renaming i64 → U
open Go.Proofs.Tryz renaming prog → wH

namespace Go.Proofs.YtoeoimhemojdeaaGreatDoor
open Go.RowKit
structure nI (B:Nat) (w:World) (b:Nat) (x:aO):Prop where
 c0:∀ p:ap B w,p.val.cell? ⟨b,0,none⟩=some (F x.TA x.t.length x.tc)
 c1:∀ p:ap B w,p.val.cell? ⟨b,1,none⟩=some (F x.OA x.o.length x.oc)
 c2:∀ p:ap B w,p.val.cell? ⟨b,2,none⟩=some (O U x.gt)
 c3:∀ p:ap B w,p.val.cell? ⟨b,3,none⟩=some (O U x.sd)
 c4:∀ p:ap B w,p.val.cell? ⟨b,4,none⟩=some (O U x.ms)
theorem nI.of {W:World} {g:Nat} {t:TypeId} {x:aO} (h:ai W g t x.enc):nI W.heap.size W g x :=
 ⟨fun p=>(p.cell h.lt).trans (h.cell 0),fun p=>(p.cell h.lt).trans (h.cell 1),fun p=>(p.cell h.lt).trans (h.cell 2),fun p=>(p.cell h.lt).trans (h.cell 3),fun p=>(p.cell h.lt).trans (h.cell 4)⟩
theorem aQ.at {W:World} {x:aO} (h:aQ W W.heap.size x) (q:ap W.heap.size W):aQ q.val q.val.heap.size x:=h.then q.below
theorem ai.new1 (w:World) (o:Obj) (t:TypeId) (cs:Array Value):ai ((w.alloc o).alloc (.cells cs t)) (w.heap.size+1) t cs.toList:=by
 have h:=ai.new (w.alloc o) t cs
 rwa [show (w.alloc o).heap.size=w.heap.size+1 from Array.size_push _] at h
theorem ai.new2 (w:World) (o o' : Obj) (t:TypeId) (cs:Array Value):ai (((w.alloc o).alloc o').alloc (.cells cs t)) (w.heap.size+1+1) t cs.toList:=by
 have h:=ai.new1 (w.alloc o) o' t cs
 rwa [show (w.alloc o).heap.size=w.heap.size+1 from Array.size_push _] at h
end Go.Proofs.YtoeoimhemojdeaaGreatDoor
