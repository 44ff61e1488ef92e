/- Lemmas. -/
import Derived.Test.YtoeoimhemojdeaaGreatDoorFc02

set_option linter.unusedVariables false
set_option linter.unusedSimpArgs false
set_option maxHeartbeats 8000000
open Go.Value renaming int → O, slice → F, string → vw
open Go.IntKind renaming i64 → U
open Go.Proofs.Tryz renaming prog → vx


namespace Go.Proofs.YtoeoimhemojdeaaGreatDoor
open Go.RowKit
theorem anI {a b c d:Prop} (h:a→c) (h1:a→b→d):a ∧ b→c ∧ d:=fun q=>⟨h q.1,h1 q.1 q.2⟩
section
variable {P:Program} {ops:Array Oper} {Q:Exit→Act→World→Prop} {C:(Nat→Bool)→World→Prop} {T:Nat→World→World→Prop} {fr:(Nat→Value)→Act} {k:Nat} {o:Oper} {l:List Oper} {Rs:List ag}
theorem smz (Br:List Nat) (R:Value→World→Prop) (h1:∀ vs L w,kp ops L k→C L w→(∀ (j:Nat) (R':ag),bP .any ops ops.size k j=true→R'.live ops k=true→Rs[k-1-j]?=some R'→j<k→R'.at vs j w)→∀ K:Act→World→Prop,(∀ a' v w',a'=(fr vs).put o.dst v→R v w'→C (Listed.but L k) w'→T k w w'→K a' w')→if Region.wanted o (yielded ops (fr vs).tmps)=true then o.wp P (fr vs) w K Q else K ((fr vs).put o.dst undef) w) (h2:fo P ops Q C T fr (k+1) l (⟨0,fun _ v w=>R v w,Br⟩::Rs)) (hR:∀ i,i≠k→i∉Br→bP .any ops ops.size k i=false→∀ v w w',R v w→T i w w'→R v w':=by ((first | (intro i9 wD hb9 ha9 v w1 w2 hv vV;have hb:=vV (fun hm=>by simp only [mC,mN,oF] at hm hb9;first | (subst hm;first | exact wD rfl | exact hb9 sP | exact absurd (ha9.symm.trans (show bP .any _ _ _ _=true by kernel_rfl)) dD) | (rcases hm with rfl | rfl <;> first | exact wD rfl | exact hb9 sP | exact absurd (ha9.symm.trans (show bP .any _ _ _ _=true by kernel_rfl)) dD) | (rcases hm with rfl | rfl | rfl <;> first | exact wD rfl | exact hb9 sP | exact absurd (ha9.symm.trans (show bP .any _ _ _ _=true by kernel_rfl)) dD));revert hv) | (intro i9 wD hb9 ha9 v w1 w2 hv hb;revert hv));repeat' (first | with_reducible exact id | exact fun q=>q.kept hb (by intro e;injection e;omega) | exact fun q=>q.below hb q.lt | exact fun q=>ac q hb | exact fun q=>ch q hb hgB | exact fun q=>q.below hb | exact fun q=>q.then hb | exact fun q=>q.grown hb hgB | exact fun q=>q.grown hb hgB oM | (with_reducible apply Exists.imp;intro _) | (with_reducible refine anI ?_ fun _=>?_)))):fo P ops Q C T fr k (o::l) Rs:=af Br R hR h1 h2
theorem pmz (Br:List Nat) (D:Nat) (R:Value→Value→World→Prop) (h1:∀ vs L w,kp ops L k→C L w→(∀ (j:Nat) (R':ag),bP .any ops ops.size k j=true→R'.live ops k=true→Rs[k-1-j]?=some R'→j<k→R'.at vs j w)→∀ K:Act→World→Prop,(∀ a' v w',a'=(fr vs).put o.dst v→R (vs D) v w'→C (Listed.but L k) w'→T k w w'→K a' w')→if Region.wanted o (yielded ops (fr vs).tmps)=true then o.wp P (fr vs) w K Q else K ((fr vs).put o.dst undef) w) (h2:fo P ops Q C T fr (k+1) l (⟨D,R,Br⟩::Rs)) (hR:∀ i,i≠k→i∉Br→bP .any ops ops.size k i=false→∀ u v w w',R u v w→T i w w'→R u v w':=by ((first | (intro i9 wD hb9 ha9 u v w1 w2 hv vV;have hb:=vV (fun hm=>by simp only [mC,mN,oF] at hm hb9;first | (subst hm;first | exact wD rfl | exact hb9 sP | exact absurd (ha9.symm.trans (show bP .any _ _ _ _=true by kernel_rfl)) dD) | (rcases hm with rfl | rfl <;> first | exact wD rfl | exact hb9 sP | exact absurd (ha9.symm.trans (show bP .any _ _ _ _=true by kernel_rfl)) dD) | (rcases hm with rfl | rfl | rfl <;> first | exact wD rfl | exact hb9 sP | exact absurd (ha9.symm.trans (show bP .any _ _ _ _=true by kernel_rfl)) dD));revert hv) | (intro i9 wD hb9 ha9 u v w1 w2 hv hb;revert hv));repeat' (first | with_reducible exact id | exact fun q=>q.kept hb (by intro e;injection e;omega) | exact fun q=>q.below hb q.lt | exact fun q=>ac q hb | exact fun q=>ch q hb hgB | exact fun q=>q.below hb | exact fun q=>q.then hb | exact fun q=>q.grown hb hgB | exact fun q=>q.grown hb hgB oM | (with_reducible apply Exists.imp;intro _) | (with_reducible refine anI ?_ fun _=>?_)))) (hD:bP .any ops ops.size k D=true:=by kernel_rfl):fo P ops Q C T fr k (o::l) Rs:=bu Br D R hD hR h1 h2
end
end Go.Proofs.YtoeoimhemojdeaaGreatDoor
