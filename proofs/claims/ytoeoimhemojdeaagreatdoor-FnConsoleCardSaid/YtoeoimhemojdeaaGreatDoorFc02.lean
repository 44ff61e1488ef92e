/- Lemmas. -/
import Derived.Deep.DeepCutAuto
import Derived.Test.YtoeoimhemojdeaaGreatDoorFc01

set_option linter.unusedVariables false
set_option linter.unusedSimpArgs false
set_option maxHeartbeats 8000000
open Go.Value renaming int → O, slice → F, string → vw
open Go.IntKind renaming i64 → U
open Go.Proofs.Tryz renaming prog → vx

namespace Go.Proofs.YtoeoimhemojdeaaGreatDoor
open Go.RowKit
section
variable {P:Program} {ops:Array Oper} {Q:Exit→Act→World→Prop}
def fo (P:Program) (ops:Array Oper) (Q:Exit→Act→World→Prop) (C:(Nat→Bool)→World→Prop) (T:Nat→World→World→Prop) (fr:(Nat→Value)→Act):Nat→List Oper→List ag→Prop
 | k,[],Rs=>∀ vs L w,(∀ j,j < ops.size→L j=true)→C L w→(∀ (j:Nat) (R:ag),R.Br = []→Rs[k - 1 - j]?=some R→j < k→R.at vs j w)→Q .normal (fr vs) w
 | k,o :: l,Rs=>∃ R:ag,R.fine ops k∧R.firm ops T k ∧
  (∀ vs L w,kp ops L k→C L w→(∀ (j:Nat) (R' : ag),bP .any ops ops.size k j=true→R'.live ops k=true→Rs[k - 1 - j]?=some R'→j < k→R'.at vs j w)→∀ K:Act→World→Prop,(∀ a' v w',a'=(fr vs).put o.dst v→R.R (vs R.D) v w'→C (Listed.but L k) w'→T k w w'→K a' w') →
   if Region.wanted o (yielded ops (fr vs).tmps)=true then o.wp P (fr vs) w K Q else K ((fr vs).put o.dst undef) w) ∧
  fo P ops Q C T fr (k+1) l (R :: Rs)
theorem pI {Rs:List ag} {k j:Nat} {R:ag} (hk:Rs.length=k) (h:Rs[k - 1 - j]?=some R) (hj:j < k):Rs.reverse[j]?=some R:=by
 rw [List.getElem?_reverse oM,hk]; exact h
theorem m5 {C:(Nat→Bool)→World→Prop} {T:Nat→World→World→Prop} {fr:(Nat→Value)→Act} : ∀ (l:List Oper) (k:Nat) (Rs:List ag),Rs.length=k→fo P ops Q C T fr k l Rs→eS P ops Q C T fr k l Rs.reverse
 | [],_,_,hk,h=>fun vs L w hL hC hB=>h vs L w hL hC fun j R hb hR hj=>hB j R hb (pI hk hR hj)
 | _ :: l,k,Rs,hk,⟨R,h1,h2,h3,h4⟩=>⟨R,h1,h2,fun vs L w hG hC hB K hK=>h3 vs L w hG hC (fun j R' ha hv hR hj=>hB j R' ha hv (pI hk hR hj)) K hK,by
   have:=m5 l (k+1) (R :: Rs) (by simp [hk]) h4
   rwa [List.reverse_cons] at this⟩
theorem al {id:Nat} {a:Act} {w:World} {l:List Oper} (C:(Nat→Bool)→World→Prop) (T:Nat→World→World→Prop) (hm:P.follows .mixedOrders=true) (yZ:eu l=true) (zI:fF .any l.toArray=true)
  (hC:C (fun _=>false) w.drew) (h:fo P l.toArray Q C T (fun vs=>aw vs l 0 a) 0 l []):(Code.region id l.toArray true).wp P Q a w :=
 lD C T hm yZ zI hC (m5 l 0 [] rfl h)
theorem au {C:(Nat→Bool)→World→Prop} {T:Nat→World→World→Prop} {fr:(Nat→Value)→Act} {k:Nat} {Rs:List ag} (h:∀ vs L w,(∀ j,j < ops.size→L j=true)→C L w→(∀ (j:Nat) (R:ag),R.Br = []→Rs[k - 1 - j]?=some R→j < k→R.at vs j w)→Q .normal (fr vs) w):fo P ops Q C T fr k [] Rs:=h
theorem aa {C:(Nat→Bool)→World→Prop} {T:Nat→World→World→Prop} {fr:(Nat→Value)→Act} {k:Nat} {o:Oper} {l:List Oper} {Rs:List ag} (V:Value)
  (h1:∀ vs L w,kp ops L k→C L w→(∀ (j:Nat) (R' : ag),bP .any ops ops.size k j=true→R'.live ops k=true→Rs[k - 1 - j]?=some R'→j < k→R'.at vs j w)→∀ K:Act→World→Prop,(∀ a' w',a'=(fr vs).put o.dst V→C (Listed.but L k) w'→T k w w'→K a' w') →
   if Region.wanted o (yielded ops (fr vs).tmps)=true then o.wp P (fr vs) w K Q else K ((fr vs).put o.dst undef) w)
  (h2:fo P ops Q C T fr (k+1) l (⟨0,fun _ v _=>v=V,[]⟩ :: Rs)):fo P ops Q C T fr k (o :: l) Rs :=
 ⟨⟨0,fun _ v _=>v=V,[]⟩,.inl (fun _ _ _ _ h=>h),fun _ _ _ _ _ _ _ _ h _=>h,fun vs L w hG hC hB K hK=>h1 vs L w hG hC hB K fun a' w' ha Bh hT=>hK a' V w' ha rfl Bh hT,h2⟩
theorem af {C:(Nat→Bool)→World→Prop} {T:Nat→World→World→Prop} {fr:(Nat→Value)→Act} {k:Nat} {o:Oper} {l:List Oper} {Rs:List ag} (Br:List Nat) (R:Value→World→Prop) (hR:∀ i,i ≠ k→i ∉ Br→bP .any ops ops.size k i=false→∀ v w w',R v w→T i w w'→R v w')
  (h1:∀ vs L w,kp ops L k→C L w→(∀ (j:Nat) (R' : ag),bP .any ops ops.size k j=true→R'.live ops k=true→Rs[k - 1 - j]?=some R'→j < k→R'.at vs j w)→∀ K:Act→World→Prop,(∀ a' v w',a'=(fr vs).put o.dst v→R v w'→C (Listed.but L k) w'→T k w w'→K a' w') →
   if Region.wanted o (yielded ops (fr vs).tmps)=true then o.wp P (fr vs) w K Q else K ((fr vs).put o.dst undef) w)
  (h2:fo P ops Q C T fr (k+1) l (⟨0,fun _ v w=>R v w,Br⟩ :: Rs)):fo P ops Q C T fr k (o :: l) Rs :=
 ⟨⟨0,fun _ v w=>R v w,Br⟩,.inl (fun _ _ _ _ h=>h),fun i hi hb ha _ v w w' h t=>hR i hi hb ha v w w' h t,h1,h2⟩
theorem bu {C:(Nat→Bool)→World→Prop} {T:Nat→World→World→Prop} {fr:(Nat→Value)→Act} {k:Nat} {o:Oper} {l:List Oper} {Rs:List ag} (Br:List Nat) (D:Nat) (R:Value→Value→World→Prop) (hD:bP .any ops ops.size k D=true) (hR:∀ i,i ≠ k→i ∉ Br→bP .any ops ops.size k i=false→∀ u v w w',R u v w→T i w w'→R u v w')
  (h1:∀ vs L w,kp ops L k→C L w→(∀ (j:Nat) (R' : ag),bP .any ops ops.size k j=true→R'.live ops k=true→Rs[k - 1 - j]?=some R'→j < k→R'.at vs j w)→∀ K:Act→World→Prop,(∀ a' v w',a'=(fr vs).put o.dst v→R (vs D) v w'→C (Listed.but L k) w'→T k w w'→K a' w') →
   if Region.wanted o (yielded ops (fr vs).tmps)=true then o.wp P (fr vs) w K Q else K ((fr vs).put o.dst undef) w)
  (h2:fo P ops Q C T fr (k+1) l (⟨D,R,Br⟩ :: Rs)):fo P ops Q C T fr k (o :: l) Rs :=
 ⟨⟨D,R,Br⟩,.inr hD,hR,h1,h2⟩
end
theorem fe {ops:Array Oper} {k:Nat} {Rs:List ag} {vs:Nat→Value} {w:World} (hB:∀ (j:Nat) (R:ag),bP .any ops ops.size k j=true→R.live ops k=true→Rs[k-1-j]?=some R→j<k→R.at vs j w) (j:Nat) {V:Value} (h3:Rs[k-1-j]?=some ⟨0,fun _ v _=>v=V,[]⟩:=by rfl) (h1:bP .any ops ops.size k j=true:=by kernel_rfl) (h4:j<k:=by decide):vs j=V:=ag.eq (hB j _ h1 rfl h3 h4)
theorem fs {ops:Array Oper} {k:Nat} {Rs:List ag} {vs:Nat→Value} {w:World} (hB:∀ (j:Nat) (R:ag),bP .any ops ops.size k j=true→R.live ops k=true→Rs[k-1-j]?=some R→j<k→R.at vs j w) (j:Nat) {R:ag} (h3:Rs[k-1-j]?=some R:=by rfl) (h1:bP .any ops ops.size k j=true:=by kernel_rfl) (h2:R.live ops k=true:=by kernel_rfl) (h4:j<k:=by decide):R.at vs j w:=hB j _ h1 h2 h3 h4
theorem sy {ops:Array Oper} {s k:Nat} {C0 C1:World→Prop} {L:Nat→Bool} {w:World} (hG:kp ops L k) (h:C0 w) (ha:bP .any ops ops.size s k=true:=by kernel_rfl) (vJ:s≠k:=by decide):Sw s C0 C1 (Listed.but L k) w:=Sw.stay hG ha vJ h
theorem sb {ops:Array Oper} {s k:Nat} {C0 C1:World→Prop} {L:Nat→Bool} {w:World} (h:Sw s C0 C1 L w) (hG:kp ops L k) (ha:bP .any ops ops.size s k=true:=by kernel_rfl):C0 w:=Sw.before hG ha h
def Mk (_:Nat):Prop:=True
theorem fmk {ops:Array Oper} {k:Nat} {Rs:List ag} {vs:Nat→Value} {w:World} {j:Nat} (_:Mk j) (hB:∀ (j:Nat) (R:ag),bP .any ops ops.size k j=true→R.live ops k=true→Rs[k-1-j]?=some R→j<k→R.at vs j w) {V:Value} (h3:Rs[k-1-j]?=some ⟨0,fun _ v _=>v=V,[]⟩:=by rfl) (h1:bP .any ops ops.size k j=true:=by kernel_rfl) (h4:j<k:=by decide):vs j=V:=ag.eq (hB j _ h1 rfl h3 h4)
theorem fck {w:World} {g:Nat} {t:TypeId} {cs:List Value} {j:Nat} (_:Mk j) (h:ah w g t cs):w.cell? ⟨g,j,none⟩=cs[j]?:=h.cell j
theorem vp0 {P:Prop} (h:P:=by (intro vs L9 w9 vA vy hB K9 vz;simp only [Act.put,sA,gs0,gs1] at vz;go_simp;first | exact vz _ _ rfl vy bR | exact vz _ _ rfl vy jB)):P:=h
theorem vp0C3 {A:Prop} (hL:A) {P:Prop} (h:A→P:=by (intro hL vs L9 w9 vA vy hB K9 vz;obtain ⟨q0,q1,q2⟩:=cells3 (hL.below vy hL.lt);simp only [Act.put,sA,gs0,gs1] at vz;go_simp;first | exact vz _ _ rfl vy bR | exact vz _ _ rfl vy jB)):P:=h hL
theorem vp0C4 {A:Prop} (hL:A) {P:Prop} (h:A→P:=by (intro hL vs L9 w9 vA vy hB K9 vz;obtain ⟨q0,q1,q2,q3⟩:=cells4 (hL.below vy hL.lt);simp only [Act.put,sA,gs0,gs1] at vz;go_simp;first | exact vz _ _ rfl vy bR | exact vz _ _ rfl vy jB)):P:=h hL
theorem vp1 (j0:Nat) {P:Prop} (h:Mk j0→P:=by (intro m0 vs L9 w9 vA vy hB K9 vz;have d0:=fmk m0 hB;simp only [d0] at vz ⊢;simp only [Act.put,sA,gs0,gs1] at vz;go_simp;first | exact vz _ _ rfl vy bR | exact vz _ _ rfl vy jB)):P:=h trivial
theorem vp1C5 (j0:Nat) {A:Prop} (hL:A) {P:Prop} (h:Mk j0→A→P:=by (intro m0 hL vs L9 w9 vA vy hB K9 vz;have d0:=fmk m0 hB;simp only [d0] at vz ⊢;obtain ⟨q0,q1,q2,q3,q4⟩:=cells5 (hL.below vy hL.lt);simp only [Act.put,sA,gs0,gs1] at vz;go_simp;first | exact vz _ _ rfl vy bR | exact vz _ _ rfl vy jB)):P:=h trivial hL
theorem vp1C8 (j0:Nat) {A:Prop} (hL:A) {P:Prop} (h:Mk j0→A→P:=by (intro m0 hL vs L9 w9 vA vy hB K9 vz;have d0:=fmk m0 hB;simp only [d0] at vz ⊢;obtain ⟨q0,q1,q2,q3,q4,q5,q6,q7⟩:=cells8 (hL.below vy hL.lt);simp only [Act.put,sA,gs0,gs1] at vz;go_simp;first | exact vz _ _ rfl vy bR | exact vz _ _ rfl vy jB)):P:=h trivial hL
theorem vp1c1 (j0:Nat) {A:Prop} (hL:A) (j9:Nat) {P:Prop} (h:Mk j0→A→Mk j9→P:=by (intro m0 hL m9 vs L9 w9 vA vy hB K9 vz;have d0:=fmk m0 hB;simp only [d0] at vz ⊢;have q0:=fck m9 (hL.below vy hL.lt);simp only [gz0,gz1] at q0;simp only [Act.put,sA,gs0,gs1] at vz;go_simp;first | exact vz _ _ rfl vy bR | exact vz _ _ rfl vy jB)):P:=h trivial hL trivial
theorem vp1s (j0:Nat) {A:Prop} (hL:A) {P:Prop} (h:Mk j0→A→P:=by (intro m0 hL vs L9 w9 vA vy hB K9 vz;have d0:=fmk m0 hB;simp only [d0] at vz ⊢;have q0:=hL ⟨w9,vy⟩;try dsimp only at q0;simp only [Act.put,sA,gs0,gs1] at vz;go_simp;first | exact vz _ _ rfl vy bR | exact vz _ _ rfl vy jB)):P:=h trivial hL
theorem vp2 (j0:Nat) (j1:Nat) {P:Prop} (h:Mk j0→Mk j1→P:=by (intro m0 m1 vs L9 w9 vA vy hB K9 vz;have d0:=fmk m0 hB;have d1:=fmk m1 hB;simp only [d0,d1] at vz ⊢;simp only [Act.put,sA,gs0,gs1] at vz;go_simp;first | exact vz _ _ rfl vy bR | exact vz _ _ rfl vy jB)):P:=h trivial trivial
theorem va0 {P:Prop} (h:P:=by (intro vs L9 w9 vA vy hB K9 vz;replace vy:=vy.after vA kZ;simp only [Act.put,sA,gs0,gs1] at vz;go_simp;first | exact vz _ _ rfl (Sw.on vA kZ vy) bR | exact vz _ _ rfl (Sw.on vA kZ vy) jB)):P:=h
theorem va1 (j0:Nat) {P:Prop} (h:Mk j0→P:=by (intro m0 vs L9 w9 vA vy hB K9 vz;replace vy:=vy.after vA kZ;have d0:=fmk m0 hB;simp only [d0] at vz ⊢;simp only [Act.put,sA,gs0,gs1] at vz;go_simp;first | exact vz _ _ rfl (Sw.on vA kZ vy) bR | exact vz _ _ rfl (Sw.on vA kZ vy) jB)):P:=h trivial
theorem vb0 {P:Prop} (h:P:=by (intro vs L9 w9 vA vy hB K9 vz;replace vy:=sb vy vA;simp only [Act.put,sA,gs0,gs1] at vz;go_simp;first | exact vz _ _ rfl (sy vA vy) bR | exact vz _ _ rfl (sy vA vy) jB)):P:=h
theorem vb0C5 {A:Prop} (hL:A) {P:Prop} (h:A→P:=by (intro hL vs L9 w9 vA vy hB K9 vz;replace vy:=sb vy vA;obtain ⟨q0,q1,q2,q3,q4⟩:=cells5 (hL.below vy hL.lt);simp only [Act.put,sA,gs0,gs1] at vz;go_simp;first | exact vz _ _ rfl (sy vA vy) bR | exact vz _ _ rfl (sy vA vy) jB)):P:=h hL
theorem vb0C8 {A:Prop} (hL:A) {P:Prop} (h:A→P:=by (intro hL vs L9 w9 vA vy hB K9 vz;replace vy:=sb vy vA;obtain ⟨q0,q1,q2,q3,q4,q5,q6,q7⟩:=cells8 (hL.below vy hL.lt);simp only [Act.put,sA,gs0,gs1] at vz;go_simp;first | exact vz _ _ rfl (sy vA vy) bR | exact vz _ _ rfl (sy vA vy) jB)):P:=h hL
theorem vb1 (j0:Nat) {P:Prop} (h:Mk j0→P:=by (intro m0 vs L9 w9 vA vy hB K9 vz;replace vy:=sb vy vA;have d0:=fmk m0 hB;simp only [d0] at vz ⊢;simp only [Act.put,sA,gs0,gs1] at vz;go_simp;first | exact vz _ _ rfl (sy vA vy) bR | exact vz _ _ rfl (sy vA vy) jB)):P:=h trivial
theorem vb1C5 (j0:Nat) {A:Prop} (hL:A) {P:Prop} (h:Mk j0→A→P:=by (intro m0 hL vs L9 w9 vA vy hB K9 vz;replace vy:=sb vy vA;have d0:=fmk m0 hB;simp only [d0] at vz ⊢;obtain ⟨q0,q1,q2,q3,q4⟩:=cells5 (hL.below vy hL.lt);simp only [Act.put,sA,gs0,gs1] at vz;go_simp;first | exact vz _ _ rfl (sy vA vy) bR | exact vz _ _ rfl (sy vA vy) jB)):P:=h trivial hL
theorem vb1c1 (j0:Nat) {A:Prop} (hL:A) (j9:Nat) {P:Prop} (h:Mk j0→A→Mk j9→P:=by (intro m0 hL m9 vs L9 w9 vA vy hB K9 vz;replace vy:=sb vy vA;have d0:=fmk m0 hB;simp only [d0] at vz ⊢;have q0:=fck m9 (hL.below vy hL.lt);simp only [gz0,gz1] at q0;simp only [Act.put,sA,gs0,gs1] at vz;go_simp;first | exact vz _ _ rfl (sy vA vy) bR | exact vz _ _ rfl (sy vA vy) jB)):P:=h trivial hL trivial
theorem vb1s (j0:Nat) {A:Prop} (hL:A) {P:Prop} (h:Mk j0→A→P:=by (intro m0 hL vs L9 w9 vA vy hB K9 vz;replace vy:=sb vy vA;have d0:=fmk m0 hB;simp only [d0] at vz ⊢;have q0:=hL ⟨w9,vy⟩;try dsimp only at q0;simp only [Act.put,sA,gs0,gs1] at vz;go_simp;first | exact vz _ _ rfl (sy vA vy) bR | exact vz _ _ rfl (sy vA vy) jB)):P:=h trivial hL
theorem vb2 (j0:Nat) (j1:Nat) {P:Prop} (h:Mk j0→Mk j1→P:=by (intro m0 m1 vs L9 w9 vA vy hB K9 vz;replace vy:=sb vy vA;have d0:=fmk m0 hB;have d1:=fmk m1 hB;simp only [d0,d1] at vz ⊢;simp only [Act.put,sA,gs0,gs1] at vz;go_simp;first | exact vz _ _ rfl (sy vA vy) bR | exact vz _ _ rfl (sy vA vy) jB)):P:=h trivial trivial
theorem vb3 (j0:Nat) (j1:Nat) (j2:Nat) {P:Prop} (h:Mk j0→Mk j1→Mk j2→P:=by (intro m0 m1 m2 vs L9 w9 vA vy hB K9 vz;replace vy:=sb vy vA;have d0:=fmk m0 hB;have d1:=fmk m1 hB;have d2:=fmk m2 hB;simp only [d0,d1,d2] at vz ⊢;simp only [Act.put,sA,gs0,gs1] at vz;go_simp;first | exact vz _ _ rfl (sy vA vy) bR | exact vz _ _ rfl (sy vA vy) jB)):P:=h trivial trivial trivial
theorem vd0 {P:Prop} (h:P:=by (intro vs L9 w9 vA vy hB K9 vz;simp only [Act.put,sA,gs0,gs1] at vz;go_simp;first | exact vz _ _ rfl (vy.stay vA.self dD) gR | exact vz _ _ rfl (vy.stay vA.self dD) jG)):P:=h
theorem vd0D5 {A:Prop} (hL:A) {B:Prop} (hX:B) {P:Prop} (h:A→B→P:=by (intro hL hX vs L9 w9 vA vy hB K9 vz;obtain ⟨q0,q1,q2,q3,q4⟩:=cells5 (vy.lies hL hX);simp only [Act.put,sA,gs0,gs1] at vz;go_simp;first | exact vz _ _ rfl (vy.stay vA.self dD) gR | exact vz _ _ rfl (vy.stay vA.self dD) jG)):P:=h hL hX
theorem vd1 (j0:Nat) {P:Prop} (h:Mk j0→P:=by (intro m0 vs L9 w9 vA vy hB K9 vz;have d0:=fmk m0 hB;simp only [d0] at vz ⊢;simp only [Act.put,sA,gs0,gs1] at vz;go_simp;first | exact vz _ _ rfl (vy.stay vA.self dD) gR | exact vz _ _ rfl (vy.stay vA.self dD) jG)):P:=h trivial
theorem vd1d1 (j0:Nat) {A:Prop} (hL:A) {B:Prop} (hX:B) (j9:Nat) {P:Prop} (h:Mk j0→A→B→Mk j9→P:=by (intro m0 hL hX m9 vs L9 w9 vA vy hB K9 vz;have d0:=fmk m0 hB;simp only [d0] at vz ⊢;have q0:=fck m9 (vy.lies hL hX);simp only [gz0,gz1] at q0;simp only [Act.put,sA,gs0,gs1] at vz;go_simp;first | exact vz _ _ rfl (vy.stay vA.self dD) gR | exact vz _ _ rfl (vy.stay vA.self dD) jG)):P:=h trivial hL hX trivial
theorem vo0 {P:Prop} (h:P:=by (intro vs L9 w9 vA vy hB K9 vz;simp only [Act.put,sA,gs0,gs1] at vz;have xY:=jZ vy;clear vy;go_simp;first | exact vz _ _ rfl (Sw.both dD (fun h=>h) (fun h=>h) xY.out) bR | exact vz _ _ rfl (Sw.both dD (fun h=>h) (fun h=>h) xY.out) jB)):P:=h
theorem vo2 (j0:Nat) (j1:Nat) {P:Prop} (h:Mk j0→Mk j1→P:=by (intro m0 m1 vs L9 w9 vA vy hB K9 vz;have d0:=fmk m0 hB;have d1:=fmk m1 hB;simp only [d0,d1] at vz ⊢;simp only [Act.put,sA,gs0,gs1] at vz;have xY:=jZ vy;clear vy;go_simp;first | exact vz _ _ rfl (Sw.both dD (fun h=>h) (fun h=>h) xY.out) bR | exact vz _ _ rfl (Sw.both dD (fun h=>h) (fun h=>h) xY.out) jB)):P:=h trivial trivial
section
variable {P:Program} {ops:Array Oper} {Q:Exit→Act→World→Prop} {C:(Nat→Bool)→World→Prop} {T:Nat→World→World→Prop} {fr:(Nat→Value)→Act} {k:Nat} {o:Oper} {l:List Oper} {Rs:List ag}
theorem sm0 (Br:List Nat) (R:Value→World→Prop) (h1:∀ vs L w,kp ops L k→C L w→(∀ (j:Nat) (R':ag),bP .any ops ops.size k j=true→R'.live ops k=true→Rs[k-1-j]?=some R'→j<k→R'.at vs j w)→∀ K:Act→World→Prop,(∀ a' v w',a'=(fr vs).put o.dst v→R v w'→C (Listed.but L k) w'→T k w w'→K a' w')→if Region.wanted o (yielded ops (fr vs).tmps)=true then o.wp P (fr vs) w K Q else K ((fr vs).put o.dst undef) w) (h2:fo P ops Q C T fr (k+1) l (⟨0,fun _ v w=>R v w,Br⟩::Rs)) (hR:∀ i,i≠k→i∉Br→bP .any ops ops.size k i=false→∀ v w w',R v w→T i w w'→R v w':=by (intro i9 wD hb9 ha9 v w1 w2 hv vV;exact hv)):fo P ops Q C T fr k (o::l) Rs:=af Br R hR h1 h2
theorem sm (Br:List Nat) (R:Value→World→Prop) (h1:∀ vs L w,kp ops L k→C L w→(∀ (j:Nat) (R':ag),bP .any ops ops.size k j=true→R'.live ops k=true→Rs[k-1-j]?=some R'→j<k→R'.at vs j w)→∀ K:Act→World→Prop,(∀ a' v w',a'=(fr vs).put o.dst v→R v w'→C (Listed.but L k) w'→T k w w'→K a' w')→if Region.wanted o (yielded ops (fr vs).tmps)=true then o.wp P (fr vs) w K Q else K ((fr vs).put o.dst undef) w) (h2:fo P ops Q C T fr (k+1) l (⟨0,fun _ v w=>R v w,Br⟩::Rs)) (hR:∀ i,i≠k→i∉Br→bP .any ops ops.size k i=false→∀ v w w',R v w→T i w w'→R v w':=by ((first | (intro i9 wD hb9 ha9 v w1 w2 hv vV;have hb:=vV (fun hm=>by simp only [mC,mN,oF] at hm hb9;first | (subst hm;first | exact wD rfl | exact hb9 sP | exact absurd (ha9.symm.trans (show bP .any _ _ _ _=true by kernel_rfl)) dD) | (rcases hm with rfl | rfl <;> first | exact wD rfl | exact hb9 sP | exact absurd (ha9.symm.trans (show bP .any _ _ _ _=true by kernel_rfl)) dD) | (rcases hm with rfl | rfl | rfl <;> first | exact wD rfl | exact hb9 sP | exact absurd (ha9.symm.trans (show bP .any _ _ _ _=true by kernel_rfl)) dD));revert hv) | (intro i9 wD hb9 ha9 v w1 w2 hv hb;revert hv));repeat' (first | with_reducible exact id | exact fun q=>q.kept hb (by intro e;injection e;omega) | exact fun q=>q.below hb q.lt | exact fun q=>ac q hb | exact fun q=>ch q hb hgB | exact fun q=>q.below hb | exact fun q=>q.then hb | exact fun q=>q.grown hb hgB | exact fun q=>q.grown hb hgB oM | (with_reducible apply Exists.imp;intro _) | with_reducible apply And.imp))):fo P ops Q C T fr k (o::l) Rs:=af Br R hR h1 h2
theorem pm0 (Br:List Nat) (D:Nat) (R:Value→Value→World→Prop) (h1:∀ vs L w,kp ops L k→C L w→(∀ (j:Nat) (R':ag),bP .any ops ops.size k j=true→R'.live ops k=true→Rs[k-1-j]?=some R'→j<k→R'.at vs j w)→∀ K:Act→World→Prop,(∀ a' v w',a'=(fr vs).put o.dst v→R (vs D) v w'→C (Listed.but L k) w'→T k w w'→K a' w')→if Region.wanted o (yielded ops (fr vs).tmps)=true then o.wp P (fr vs) w K Q else K ((fr vs).put o.dst undef) w) (h2:fo P ops Q C T fr (k+1) l (⟨D,R,Br⟩::Rs)) (hR:∀ i,i≠k→i∉Br→bP .any ops ops.size k i=false→∀ u v w w',R u v w→T i w w'→R u v w':=by (intro i9 wD hb9 ha9 u v w1 w2 hv vV;exact hv)) (hD:bP .any ops ops.size k D=true:=by kernel_rfl):fo P ops Q C T fr k (o::l) Rs:=bu Br D R hD hR h1 h2
theorem pm (Br:List Nat) (D:Nat) (R:Value→Value→World→Prop) (h1:∀ vs L w,kp ops L k→C L w→(∀ (j:Nat) (R':ag),bP .any ops ops.size k j=true→R'.live ops k=true→Rs[k-1-j]?=some R'→j<k→R'.at vs j w)→∀ K:Act→World→Prop,(∀ a' v w',a'=(fr vs).put o.dst v→R (vs D) v w'→C (Listed.but L k) w'→T k w w'→K a' w')→if Region.wanted o (yielded ops (fr vs).tmps)=true then o.wp P (fr vs) w K Q else K ((fr vs).put o.dst undef) w) (h2:fo P ops Q C T fr (k+1) l (⟨D,R,Br⟩::Rs)) (hR:∀ i,i≠k→i∉Br→bP .any ops ops.size k i=false→∀ u v w w',R u v w→T i w w'→R u v w':=by ((first | (intro i9 wD hb9 ha9 u v w1 w2 hv vV;have hb:=vV (fun hm=>by simp only [mC,mN,oF] at hm hb9;first | (subst hm;first | exact wD rfl | exact hb9 sP | exact absurd (ha9.symm.trans (show bP .any _ _ _ _=true by kernel_rfl)) dD) | (rcases hm with rfl | rfl <;> first | exact wD rfl | exact hb9 sP | exact absurd (ha9.symm.trans (show bP .any _ _ _ _=true by kernel_rfl)) dD) | (rcases hm with rfl | rfl | rfl <;> first | exact wD rfl | exact hb9 sP | exact absurd (ha9.symm.trans (show bP .any _ _ _ _=true by kernel_rfl)) dD));revert hv) | (intro i9 wD hb9 ha9 u v w1 w2 hv hb;revert hv));repeat' (first | with_reducible exact id | exact fun q=>q.kept hb (by intro e;injection e;omega) | exact fun q=>q.below hb q.lt | exact fun q=>ac q hb | exact fun q=>ch q hb hgB | exact fun q=>q.below hb | exact fun q=>q.then hb | exact fun q=>q.grown hb hgB | exact fun q=>q.grown hb hgB oM | (with_reducible apply Exists.imp;intro _) | with_reducible apply And.imp))) (hD:bP .any ops ops.size k D=true:=by kernel_rfl):fo P ops Q C T fr k (o::l) Rs:=bu Br D R hD hR h1 h2
end
def jA (L:Nat→Bool):Nat→Nat
 | 0=>0
 | n+1=>jA L n+(if L n=true then 1 else 0)
theorem oV (L:Nat→Bool):∀ n,jA L n≤n
 | 0=>Nat.le_refl _
 | n+1=>by have:=oV L n; rw [jA]; split <;> omega
theorem oq {L:Nat→Bool} {k:Nat} : ∀ n,n≤k→jA (Listed.but L k) n=jA L n
 | 0,_=>rfl
 | n+1,h=>by
  rw [jA,jA,oq n oM]
  have:Listed.but L k n=L n:=by unfold Listed.but; rw [if_neg oM]
  rw [this]
theorem iP {L:Nat→Bool} {k:Nat} (hL:L k=false):∀ n,k < n→jA (Listed.but L k) n=jA L n+1
 | 0,h=>absurd h oM
 | n+1,h=>by
  rw [jA,jA]
  by_cases e:n=k
  ·subst e
   rw [oq n nR,hL]
   have:Listed.but L n n=true:=by unfold Listed.but; rw [if_pos rfl]
   rw [this]; simp
  ·rw [iP hL n oM]
   have:Listed.but L k n=L n:=by unfold Listed.but; rw [if_neg e]
   rw [this]; omega
theorem cl {w w' : World} (h:Below w.heap.size w w') (row:Option Nat):w.grownBy w' row:=⟨h.os,h.tape,h.output,h.size,fun k hk _=>h.block k hk⟩
section
variable {w W:World} {g:Nat} {A:Option Addr} {bs:List UInt8} {cap m:Nat}
theorem eR.below {W' : World} (E:eR w W g A bs cap m) (h:Below W.heap.size W W'):eR w W' g A bs cap m :=
 ⟨E.cur.kept (row:=none) (cl h _) sP,E.rd.keep fun p hp=>h.cell (by have:=E.lt; omega),aB E.gr (cl h _)⟩
theorem eR.drew (E:eR w W g A bs cap m):eR w W.drew g A bs cap m:=⟨E.cur,E.rd.keep fun _ _=>rfl,fB E.gr⟩
structure bU where
 op:Nat
 blk:Option Nat
 P:World→Prop
 st:∀ w w' row,w.grownBy w' row→(blk=none ∨ blk ≠ row)→P w→P w'
def bU.lies (k h:Nat) (t:TypeId) (cs:List Value):bU:=⟨k,some h,fun w=>ah w h t cs,fun _ _ _ hg hb hL=>hL.kept hg (hb.resolve_left sP)⟩
def bU.row (k B:Nat) (t:TypeId) (sz:Nat) (v:Value) (n:Nat) (xs:List Value):bU:=⟨k,v.ownBlock,fun w=>w.ownsRow B t sz v n xs,fun _ _ _ hg hb hL=>hL.kept hg hb⟩
structure Dr (w W:World) (g:Nat) (A:Option Addr) (bs:List UInt8) (cap m K n:Nat) (X:List Nat) (R:List bU) (L:Nat→Bool) (W9:World):Prop where
 env:eR w W9 g A bs cap (m+K * jA L n)
 size:W.heap.size≤W9.heap.size
 keep:∀ k,k < W.heap.size→k ∉ X→W9.heap[k]?=W.heap[k]?
 room:∀ p ∈ R,p.blk ≠ some g∧(L p.op=false→p.P W9)
variable {K n k:Nat} {X:List Nat} {R:List bU} {L:Nat→Bool} {W9:World}
theorem Dr.start (E:eR w W g A bs cap m) (hr:∀ p ∈ R,p.blk ≠ some g∧p.P W):Dr w W g A bs cap m K n X R (fun _=>false) W.drew:=by
 refine ⟨?_,Nat.le_refl _,fun _ _ _=>rfl,fun p hp=>⟨(hr p hp).1,fun _=>p.st W W.drew none (fB (World.grownBy.refl W none)) (by cases p.blk <;> simp) (hr p hp).2⟩⟩
 have:jA (fun _=>false) n=0:=by
  induction n with
  | zero=>rfl
  | succ n ih=>rw [jA,ih]; simp
 rw [this]; exact E.drew
theorem Listed.was {L:Nat→Bool} {k j:Nat} (h:Listed.but L k j=false):L j=false∧j ≠ k:=by
 unfold Listed.but at h
 split at h
 ·cases h
 ·exact ⟨h,by assumption⟩
theorem Dr.stay (h:Dr w W g A bs cap m K n X R L W9) (hL:L k=false) (hk:k < n):Dr w W g A bs cap m K n X R (Listed.but L k) W9 :=
 ⟨h.env.mono (by rw [iP hL n hk,Nat.mul_add]; omega),h.size,h.keep,fun p hp=>⟨(h.room p hp).1,fun hl=>(h.room p hp).2 (Listed.was hl).1⟩⟩
theorem Dr.alloc (h:Dr w W g A bs cap m K n X R L W9) (hL:L k=false) (hk:k < n) (o:Obj):Dr w W g A bs cap m K n X R (Listed.but L k) (W9.alloc o) :=
 ⟨(h.env.alloc o).mono (by rw [iP hL n hk,Nat.mul_add]; omega),jT h.size sP,fun k hk' hX=>(Below.heap_alloc W9 o k (jL hk' h.size)).trans (h.keep k hk' hX),fun p hp=>⟨(h.room p hp).1,fun hl=>p.st _ _ none (World.grownBy_alloc W9 o none) (by cases p.blk <;> simp) ((h.room p hp).2 (Listed.was hl).1)⟩⟩
theorem Dr.call {W8:World} {m' : Nat} (h:Dr w W g A bs cap m K n X R L W9) (hL:L k=false) (hk:k < n) (E:eR w W8 g A bs cap m') (hm:m'≤m+K * jA L n+K) (gr:W9.grownBy W8 (some g)) (hX:g ∈ X):Dr w W g A bs cap m K n X R (Listed.but L k) W8 :=
 ⟨E.mono (by rw [iP hL n hk,Nat.mul_add]; omega),jT h.size gr.size,fun k hk' CV=>(gr.block k (jL hk' h.size) (by intro e; injection e with e; subst e; exact CV hX)).trans (h.keep k hk' CV),fun p hp=>⟨(h.room p hp).1,fun hl=>p.st _ _ _ gr (.inr (h.room p hp).1) ((h.room p hp).2 (Listed.was hl).1)⟩⟩
theorem Dr.below {W8:World} (h:Dr w W g A bs cap m K n X R L W9) (hL:L k=false) (hk:k < n) (hb:Below W9.heap.size W9 W8):Dr w W g A bs cap m K n X R (Listed.but L k) W8 :=
 ⟨(h.env.below hb).mono (by rw [iP hL n hk,Nat.mul_add]; omega),jT h.size hb.size,fun k hk' CV=>(hb.block k (jL hk' h.size)).trans (h.keep k hk' CV),fun p hp=>⟨(h.room p hp).1,fun hl=>p.st _ _ none (cl hb none) (by cases p.blk <;> simp) ((h.room p hp).2 (Listed.was hl).1)⟩⟩
theorem Dr.wrote {W8:World} {row:Option Nat} (h:Dr w W g A bs cap m K n X R L W9) (hL:L k=false) (hk:k < n) (gr:W9.grownBy W8 row) (hw:∀ b,row=some b→w.heap.size≤b∧g < b∧(b ∈ X ∨ W.heap.size≤b)) (hr:∀ p ∈ R,p.blk=row→p.op=k ∨ row=none):Dr w W g A bs cap m K n X R (Listed.but L k) W8:=by
 have hE:eR w W8 g A bs cap (m+K * jA L n):=by
  cases row with
  | none=>exact ⟨h.env.cur.kept gr sP,h.env.rd.keep fun p hp=>eQ gr p (by have:=h.env.lt; omega) sP,aB h.env.gr ⟨gr.os,gr.tape,gr.output,gr.size,fun j hj _=>gr.block j hj sP⟩⟩
  | some b=>exact h.env.wrote gr (hw b rfl).1 (hw b rfl).2.1
 refine ⟨hE.mono (by rw [iP hL n hk,Nat.mul_add]; omega),jT h.size gr.size,fun k hk' CV=>(gr.block k (jL hk' h.size) (by intro e; rcases (hw k e.symm).2.2 with h1 | h1; exact CV h1; omega)).trans (h.keep k hk' CV),fun p hp=>⟨(h.room p hp).1,fun hl=>?_⟩⟩
 obtain ⟨h1,h2⟩:=Listed.was hl
 refine p.st _ _ row gr ?_ ((h.room p hp).2 h1)
 by_cases e:p.blk=row
 ·rcases hr p hp e with h3 | h3
  ·exact absurd h3 h2
  ·exact .inl (e.trans h3)
 ·exact .inr e
theorem Dr.lies {b:Nat} {t:TypeId} {cs:List Value} (h:Dr w W g A bs cap m K n X R L W9) (hL:ah W b t cs) (hX:b ∉ X):ah W9 b t cs:=(h.keep b hL.lt hX).trans hL
theorem Dr.le (h:Dr w W g A bs cap m K n X R L W9):eR w W9 g A bs cap (m+K * n):=h.env.mono (by have:=Nat.mul_le_mul_left K (oV L n); omega)
theorem Dr.cnt (_h:Dr w W g A bs cap m K n X R L W9):m+K * jA L n≤m+K * n:=by have:=Nat.mul_le_mul_left K (oV L n); omega
theorem Dr.owns {B:Nat} {e:TypeId} {sz n' : Nat} {v:Value} {xs:List Value} (h:Dr w W g A bs cap m K n X R L W9) (ho:W.ownsRow B e sz v n' xs) (hX:∀ b,v.ownBlock=some b→b ∉ X):W9.ownsRow B e sz v n' xs:=by
 obtain ⟨h1,h2 | ⟨b,c,cur,hv,hB,hh,hr⟩⟩:=ho
 ·exact ⟨h1,.inl h2⟩
 ·refine ⟨h1,.inr ⟨b,c,cur,hv,hB, ?_,hr⟩⟩
  have hb:b < W.heap.size:=by
   rcases Nat.lt_or_ge b W.heap.size with h3 | h3
   ·exact h3
   ·rw [Array.getElem?_eq_none h3] at hh; cases hh
  rw [h.keep b hb (hX b (by rw [hv]; rfl))]
  exact hh
theorem Dr.reads {k' n' : Nat} {A' : Option Addr} {cs:List Value} (h:Dr w W g A bs cap m K n X R L W9) (hr:bn W W.heap.size k' A' n' cs) (hX:0 < n'→∀ b,A'.map (·.block)=some b→b ∉ X):bn W9 W9.heap.size k' A' n' cs :=
 ⟨hr.len,hr.big,fun hn=>by
  obtain ⟨b,off,e,hb,hc⟩:=hr.at_ hn
  refine ⟨b,off,e,jL hb h.size,fun j u hu=>?_⟩
  rw [World.cell?_of_block (a:=⟨b,off+j,none⟩) (h.keep b hb (hX hn b (by rw [e]; rfl)))]
  exact hc j u hu⟩
end
theorem dY {w W W2 wx:World} {g:Nat} {A:Option Addr} {bs:List UInt8} {cap m m' K n:Nat} {X:List Nat} {R:List bU} {L:Nat→Bool} (G:W.grownBy W2 (some g)) (h:Dr w W2 g A bs cap m K n X R L wx) (hX:∀ k ∈ X,k ≠ g→W.heap.size≤k) (E0:eR w W2 g A bs cap m'):W.grownBy wx (some g) :=
  ⟨h.env.gr.os.trans (E0.gr.os.symm.trans G.os), h.env.gr.tape.trans (E0.gr.tape.symm.trans G.tape), h.env.gr.output.trans (E0.gr.output.symm.trans G.output), jT G.size h.size,
   fun k hk vJ => (h.keep k (jL hk G.size) (fun hm => by have := hX k hm (by intro e; subst e; exact vJ rfl); omega)).trans (G.block k hk vJ)⟩
theorem bj {W W' W'' : World} {g b:Nat} (G:W.grownBy W' (some g)) (hg:W'.grownBy W'' (some b)) (hb:W.heap.size≤b):W.grownBy W'' (some g) :=
 ⟨hg.os.trans G.os,hg.tape.trans G.tape,hg.output.trans G.output,jT G.size hg.size,fun k hk vJ=>(hg.block k (jL hk G.size) iE).trans (G.block k hk vJ)⟩
theorem rZ {W:World} {k n g:Nat} {A:Option Addr} {cs:List Value} {X:List Nat} (hr:bn W W.heap.size k A n cs) (vJ:∀ b,A.map (·.block)=some b→b ≠ g) (hX:∀ k ∈ X,k ≠ g→W.heap.size≤k):0 < n→∀ b,A.map (·.block)=some b→b ∉ X:=fun hn b hb hm=>by
 obtain ⟨b',off,e,hb',_⟩:=hr.at_ hn
 rw [e] at hb
 injection hb with hb
 simp only at hb
 subst hb
 have:=hX _ hm (vJ _ (by rw [e]; rfl))
 omega
theorem bn.gr {W W' : World} {k n g:Nat} {A:Option Addr} {cs:List Value} (hr:bn W W.heap.size k A n cs) (vJ:∀ b,A.map (·.block)=some b→b ≠ g) (hg:W.grownBy W' (some g)):bn W' W'.heap.size k A n cs :=
 ⟨hr.len,hr.big,fun hn=>by
  obtain ⟨b,off,e,hb,hc⟩:=hr.at_ hn
  refine ⟨b,off,e,jL hb hg.size,fun j u hu=>?_⟩
  rw [World.cell?_of_block (a:=⟨b,off+j,none⟩) (hg.block b hb (by intro e'; injection e' with e'; exact vJ b (by rw [e]; rfl) e'))]
  exact hc j u hu⟩
theorem qT {w W:World} {g:Nat} {A:Option Addr} {bs:List UInt8} {cap m:Nat} (E:eR w W g A bs cap m) (b n:Nat) (l:List Int) (hl:l.length=n) (hL:ah W b 3 (bc l)) (vJ:b ≠ g) (h0:0 < n) (hn:n≤100000) (hm:m≤900000000) :
  Calls vx 73 #[.pointer (some ⟨g,0,none⟩),F (some ⟨b,0,none⟩) n n] W fun e w'=>∃ x:Int,e=.returned (O U x)∧eR w w' g A bs cap (m+2)∧W.grownBy w' (some g):=by
 subst hl
 have hi:iw W W.heap.size (some ⟨b,0,none⟩) l:=hL.reads (iO l) oM
 exact (lB g A _ cap _ m bs l _ h0 hn hm E.cur E.rd hi (by intro e; injection e with e; exact vJ e)).mono fun _ _ ⟨x,he,_,hc,hg⟩=>⟨x,he,E.next hc hg,hg⟩
theorem dS {w W:World} {g:Nat} {A:Option Addr} {bs:List UInt8} {cap m K n k:Nat} {X:List Nat} {R:List bU} {L:Nat→Bool} {W9:World} {ops:Array Oper} (hG:kp ops L k) (h:Dr w W g A bs cap m K n X R L W9) (hk:k<n:=by decide):Dr w W g A bs cap m K n X R (Listed.but L k) W9:=h.stay hG.self hk
theorem dC {w W:World} {g:Nat} {A:Option Addr} {bs:List UInt8} {cap m K n k:Nat} {X:List Nat} {R:List bU} {L:Nat→Bool} {W9:World} {ops:Array Oper} {W8:World} {m':Nat} (hG:kp ops L k) (h:Dr w W g A bs cap m K n X R L W9) (E:eR w W8 g A bs cap m') (gr:W9.grownBy W8 (some g)) (hk:k<n:=by decide) (hm:m'≤m+K*jA L n+K:=by (have:=vy.cnt;omega)) (hX:g ∈ X:=by simp):Dr w W g A bs cap m K n X R (Listed.but L k) W8:=h.call hG.self hk E hm gr hX
structure aq where
 k:Int
 c:Int
 deriving DecidableEq,Inhabited
def aq.enc (r:aq):List Value:=[O U r.k,O U r.c]
abbrev aq.val (r:aq):Value:=.agg #[O U r.k,O U r.c]
theorem aq.enc_len (r:aq):r.enc.length=2:=rfl
structure mi (B:Nat) (w:World) (b o:Nat) (r:aq):Prop where
 c0:∀ p:ap B w,p.val.cell? ⟨b,o,none⟩=some (O U r.k)
 c1:∀ p:ap B w,p.val.cell? ⟨b,o+1,none⟩=some (O U r.c)
theorem mi.up {B B' : Nat} {w W:World} {b o:Nat} {r:aq} (h:mi B w b o r) (hb:Below B w W) (hB:B≤B'):mi B' W b o r :=
 ⟨fun p=>h.c0 ⟨p.val,hb.trans (p.below.mono hB)⟩,fun p=>h.c1 ⟨p.val,hb.trans (p.below.mono hB)⟩⟩
theorem mi.of {W:World} {g:Nat} {t:TypeId} {r:aq} (h:ah W g t r.enc):mi W.heap.size W g 0 r :=
 ⟨fun p=>(p.cell h.lt).trans (h.cell 0),fun p=>(p.cell h.lt).trans (h.cell 1)⟩
abbrev fm (w:World) (B:Nat) (A:Option Addr) (l:List aq):Prop:=bn w B 2 A l.length (l.flatMap aq.enc)
theorem fm.el {w:World} {B:Nat} {A:Option Addr} {l:List aq} (h:fm w B A l) (vJ:0 < l.length):∃ b off,A=some ⟨b,off,none⟩∧b < B∧∀ i (hi:i < l.length),mi B w b (off+i * 2) l[i]:=by
 obtain ⟨b,off,e,hb,hc⟩:=h.at_ vJ
 refine ⟨b,off,e,hb,fun i hi=>?_⟩
 have key:∀ j,j < 2→∀ u,(l[i].enc)[j]?=some u→∀ p:ap B w,p.val.cell? ⟨b,off+i * 2+j,none⟩=some u:=fun j hj u hu p=>by
  rw [p.cell hb,Nat.add_assoc]
  exact hc _ u (by rw [eY aq.enc 2 aq.enc_len l i hi j hj]; exact hu)
 exact ⟨key 0 oM _ rfl,key 1 oM _ rfl⟩
theorem qU {W:World} {g:Nat} {t:TypeId} {l:List aq} (h:ah W g t (l.flatMap aq.enc)) (hn:l.length≤9223372036854775807):fm W W.heap.size (some ⟨g,0,none⟩) l :=
 ah.reads h (fO aq.enc 2 aq.enc_len l) hn
theorem dK:(vx.info? 104).map (fun i=>(i.zero,i.size,i.bytes))=some (some (.agg #[O U 0,O U 0]),2,16):=kZ
structure ae where
 k:Int
 p:Int
 c:Int
 deriving DecidableEq,Inhabited
def ae.enc (r:ae):List Value:=[O U r.k,O U r.p,O U r.c]
abbrev ae.val (r:ae):Value:=.agg #[O U r.k,O U r.p,O U r.c]
theorem ae.enc_len (r:ae):r.enc.length=3:=rfl
structure fP (B:Nat) (w:World) (b o:Nat) (r:ae):Prop where
 c0:∀ p:ap B w,p.val.cell? ⟨b,o,none⟩=some (O U r.k)
 c1:∀ p:ap B w,p.val.cell? ⟨b,o+1,none⟩=some (O U r.p)
 c2:∀ p:ap B w,p.val.cell? ⟨b,o+2,none⟩=some (O U r.c)
theorem fP.up {B B' : Nat} {w W:World} {b o:Nat} {r:ae} (h:fP B w b o r) (hb:Below B w W) (hB:B≤B'):fP B' W b o r :=
 ⟨fun p=>h.c0 ⟨p.val,hb.trans (p.below.mono hB)⟩,fun p=>h.c1 ⟨p.val,hb.trans (p.below.mono hB)⟩,fun p=>h.c2 ⟨p.val,hb.trans (p.below.mono hB)⟩⟩
theorem fP.of {W:World} {g:Nat} {t:TypeId} {r:ae} (h:ah W g t r.enc):fP W.heap.size W g 0 r :=
 ⟨fun p=>(p.cell h.lt).trans (h.cell 0),fun p=>(p.cell h.lt).trans (h.cell 1),fun p=>(p.cell h.lt).trans (h.cell 2)⟩
abbrev dZ (w:World) (B:Nat) (A:Option Addr) (l:List ae):Prop:=bn w B 3 A l.length (l.flatMap ae.enc)
theorem dZ.el {w:World} {B:Nat} {A:Option Addr} {l:List ae} (h:dZ w B A l) (vJ:0 < l.length):∃ b off,A=some ⟨b,off,none⟩∧b < B∧∀ i (hi:i < l.length),fP B w b (off+i * 3) l[i]:=by
 obtain ⟨b,off,e,hb,hc⟩:=h.at_ vJ
 refine ⟨b,off,e,hb,fun i hi=>?_⟩
 have key:∀ j,j < 3→∀ u,(l[i].enc)[j]?=some u→∀ p:ap B w,p.val.cell? ⟨b,off+i * 3+j,none⟩=some u:=fun j hj u hu p=>by
  rw [p.cell hb,Nat.add_assoc]
  exact hc _ u (by rw [eY ae.enc 3 ae.enc_len l i hi j hj]; exact hu)
 exact ⟨key 0 oM _ rfl,key 1 oM _ rfl,key 2 oM _ rfl⟩
theorem oW {W:World} {g:Nat} {t:TypeId} {l:List ae} (h:ah W g t (l.flatMap ae.enc)) (hn:l.length≤9223372036854775807):dZ W W.heap.size (some ⟨g,0,none⟩) l :=
 ah.reads h (fO ae.enc 3 ae.enc_len l) hn
theorem ej:(vx.info? 147).map (fun i=>(i.zero,i.size,i.bytes))=some (some (.agg #[O U 0,O U 0,O U 0]),3,24):=kZ
structure aO where
 TA:Option Addr
 t:List aq
 tc:Nat
 OA:Option Addr
 o:List ae
 oc:Nat
 gt:Int
 sd:Int
 ms:Int
def aO.enc (x:aO):List Value:=[F x.TA x.t.length x.tc,F x.OA x.o.length x.oc,O U x.gt,O U x.sd,O U x.ms]
abbrev aO.val (x:aO):Value:=.agg #[F x.TA x.t.length x.tc,F x.OA x.o.length x.oc,O U x.gt,O U x.sd,O U x.ms]
theorem aO.enc_len (x:aO):x.enc.length=5:=rfl
structure aP (w:World) (B:Nat) (x:aO):Prop where
 ts:fm w B x.TA x.t
 os:dZ w B x.OA x.o
section
variable {w w' : World} {B:Nat} {x:aO}
theorem aP.below (h:aP w B x) (hb:Below B w w'):aP w' B x:=⟨bn.below h.ts hb,bn.below h.os hb⟩
theorem aP.mono {B' : Nat} (h:aP w B x) (hB:B≤B'):aP w B' x:=⟨bn.mono h.ts hB,bn.mono h.os hB⟩
theorem aP.up (h:aP w B x) (hb:Below B w w') (hB:B≤w.heap.size):aP w' w'.heap.size x:=⟨bn.up h.ts hb hB,bn.up h.os hb hB⟩
theorem aP.then (h:aP w w.heap.size x) (hb:Below w.heap.size w w'):aP w' w'.heap.size x:=h.up hb nR
end
def aq.ok (r:aq):Bool:=cc r.k 1 99 && cc r.c 0 9999
theorem aq.bounds {r:aq} (h:r.ok=true):(1≤r.k∧r.k≤99)∧0≤r.c∧r.c≤9999:=by
 unfold aq.ok at h; rw [Bool.and_eq_true,bQ,bQ] at h; exact h
def dj:Nat→Int→List aq→Bool
 | _,_,[]=>true
 | n,p,r :: l=>r.ok && (decide (n=0) || decide (p < r.k)) && dj (n+1) r.k l
def fa (l:List aq):Bool:=dj 0 0 l
theorem gy:∀ (l:List aq) (n:Nat) (p:Int),dj n p l=true→∀ i (h:i < l.length),l[i].ok=true
 | r :: l,n,p,hg,i,hi=>by
  simp only [dj,Bool.and_eq_true] at hg
  cases i with
  | zero=>exact hg.1.1
  | succ i=>exact gy l (n+1) r.k hg.2 i (by simpa using hi)
def aS (ts:List aq) (k:Int):Bool:=ts.any fun t=>decide (t.k=k)
def ax (ts:List aq) (k:Int):Int:=bp (fun t:aq=>decide (t.k=k)) 0 ts
theorem dL (ts:List aq) (k:Int):decide (0≤ax ts k)=aS ts k:=mh _ ts 0
def ae.ok (ts:List aq) (r:ae):Bool:=aS ts r.k && cc r.p 1 999 && cc r.c 1 9999
theorem ae.bounds {ts:List aq} {r:ae} (h:r.ok ts=true):aS ts r.k=true∧(1≤r.p∧r.p≤999)∧1≤r.c∧r.c≤9999:=by
 unfold ae.ok at h; rw [Bool.and_eq_true,Bool.and_eq_true,bQ,bQ] at h; exact ⟨h.1.1,h.1.2,h.2⟩
def before (a b:ae):Bool:=decide (a.k < b.k) || decide (a.k=b.k) && decide (a.p < b.p)
def dM (ts:List aq):Option ae→List ae→Bool
 | _,[]=>true
 | p,r :: l=>r.ok ts && (match p with | none=>true | some q=>before q r) && dM ts (some r) l
def eT (ts:List aq) (l:List ae):Bool:=dM ts none l
theorem fQ (ts:List aq):∀ (l:List ae) (p:Option ae),dM ts p l=true→∀ i (h:i < l.length),l[i].ok ts=true
 | r :: l,p,hg,i,hi=>by
  simp only [dM,Bool.and_eq_true] at hg
  cases i with
  | zero=>exact hg.1.1
  | succ i=>exact fQ ts l (some r) hg.2 i (by simpa using hi)
theorem ew {ts:List aq} {k:Int} (wC:∀ i (h:i < ts.length),ts[i].ok=true) (h:aS ts k=true):1≤k∧k≤99:=by
 unfold aS at h
 rw [List.any_eq_true] at h
 obtain ⟨t,ht,hk⟩:=h
 obtain ⟨i,hi,rfl⟩:=List.getElem_of_mem ht
 have:=(aq.bounds (wC i hi)).1
 have e:=of_decide_eq_true hk
 omega
theorem m6 {a b:ae} (ha:1≤a.p∧a.p≤999) (hb:1≤b.p∧b.p≤999):before a b=decide (1000 * a.k+a.p < 1000 * b.k+b.p):=by
 unfold before
 by_cases h1:a.k < b.k
 ·rw [jD h1,Bool.true_or]; exact (jD oM).symm
 ·rw [jE h1,Bool.false_or]
  by_cases h2:a.k=b.k
  ·rw [jD h2,Bool.true_and]
   by_cases h3:a.p < b.p
   ·rw [jD h3]; exact (jD oM).symm
   ·rw [jE h3]; exact (jE oM).symm
  ·rw [jE h2,Bool.false_and]; exact (jE oM).symm
def gh:Int→List aq→Int
 | s,[]=>s
 | s,r :: l=>gh (s+r.c) l
def bG (f:ae→Bool):Int→List ae→Int
 | s,[]=>s
 | s,r :: l=>bG f (if f r then s+r.c else s) l
def cr (l:List aq):Int:=gh 0 l
def aW (f:ae→Bool) (l:List ae):Int:=bG f 0 l
abbrev de:ae→Bool:=fun _=>true
theorem r4 {l:List aq} {k:Nat} (h:k < l.length) (s:Int):gh s (l.drop k)=gh (s+l[k].c) (l.drop (k+1)):=by
 rw [List.drop_eq_getElem_cons h]; rfl
theorem kR {f:ae→Bool} {l:List ae} {k:Nat} (h:k < l.length) (s:Int):bG f s (l.drop k)=bG f (if f l[k] then s+l[k].c else s) (l.drop (k+1)):=by
 rw [List.drop_eq_getElem_cons h]; rfl
theorem jX:∀ (l:List aq) (s:Int),(∀ i (h:i < l.length),l[i].ok=true)→s≤gh s l∧gh s l≤s+9999 * l.length
 | [],s,_=>by simp [gh]
 | r :: l,s,h=>by
  have hr:=(aq.bounds (h 0 sP)).2
  simp only [List.getElem_cons_zero] at hr
  have:=jX l (s+r.c) (fun i hi=>by have:=h (i+1) (by simpa using hi); simpa using this)
  simp only [gh,List.length_cons]
  omega
theorem fC (f:ae→Bool) (ts:List aq):∀ (l:List ae) (s:Int),(∀ i (h:i < l.length),l[i].ok ts=true)→s≤bG f s l∧bG f s l≤s+9999 * l.length
 | [],s,_=>by simp [bG]
 | r :: l,s,h=>by
  have hr:=(ae.bounds (h 0 sP)).2.2
  simp only [List.getElem_cons_zero] at hr
  have:=fC f ts l (if f r then s+r.c else s) (fun i hi=>by have:=h (i+1) (by simpa using hi); simpa using this)
  simp only [bG,List.length_cons]
  cases hf:f r <;> simp only [hf,if_true,if_false,Bool.false_eq_true] at this ⊢ <;> omega
def fb (x:aO):Bool:=decide (x.t.length≤8) && decide (x.o.length≤8)
def iJ (x:aO):Bool:=cc x.gt 0 99999 && cc x.sd 0 99999 && cc x.ms 0 99999
def kS (x:aO):Bool:=decide (x.gt=cr x.t+aW de x.o+x.sd+x.ms)
def an (x:aO):Bool:=fb x && iJ x && fa x.t && eT x.t x.o && kS x
structure bH (x:aO):Prop where
 tl:x.t.length≤8
 ol:x.o.length≤8
 g:0≤x.gt∧x.gt≤99999
 s:0≤x.sd∧x.sd≤99999
 m:0≤x.ms∧x.ms≤99999
 ts:fa x.t=true
 os:eT x.t x.o=true
 sum:x.gt=cr x.t+aW de x.o+x.sd+x.ms
theorem bi {x:aO} : an x=true ↔ bH x:=by
 unfold an fb iJ kS
 simp only [Bool.and_eq_true,bQ,decide_eq_true_eq]
 constructor
 ·rintro ⟨⟨⟨⟨⟨h1,h2⟩,⟨h3,h4⟩,h5⟩,h6⟩,h7⟩,h8⟩
  exact ⟨h1,h2,h3,h4,h5,h6,h7,h8⟩
 ·rintro ⟨h1,h2,h3,h4,h5,h6,h7,h8⟩
  exact ⟨⟨⟨⟨⟨h1,h2⟩,⟨h3,h4⟩,h5⟩,h6⟩,h7⟩,h8⟩
theorem bH.tall {x:aO} (h:bH x):∀ i (hi:i < x.t.length),x.t[i].ok=true:=gy _ _ _ h.ts
theorem bH.oall {x:aO} (h:bH x):∀ i (hi:i < x.o.length),x.o[i].ok x.t=true:=fQ _ _ _ h.os
structure Oc where
 t:List aq
 o:List ae
 gt:Int
 sd:Int
 ms:Int
 deriving DecidableEq,Inhabited
def aO.c (x:aO):Oc:=⟨x.t,x.o,x.gt,x.sd,x.ms⟩
def Oc.at (y:Oc) (TA:Option Addr) (tc:Nat) (OA:Option Addr) (oc:Nat):aO:=⟨TA,y.t,tc,OA,y.o,oc,y.gt,y.sd,y.ms⟩
def Oc.good (y:Oc):Bool:=an (y.at none 0 none 0)
theorem Oc.good_at (y:Oc) (TA:Option Addr) (tc:Nat) (OA:Option Addr) (oc:Nat):an (y.at TA tc OA oc)=y.good:=rfl
theorem aO.good_c (x:aO):x.c.good=an x:=rfl
structure cU where
 kind:Int
 stamp:Int
 person:Int
 value:Int
 deriving DecidableEq,Inhabited
def cU.enc (s:cU):List Value:=[O U s.kind,O U s.stamp,O U s.person,O U s.value]
abbrev cU.val (s:cU):Value:=.agg #[O U s.kind,O U s.stamp,O U s.person,O U s.value]
theorem cU.enc_len (s:cU):s.enc.length=4:=rfl
def cU.okS (s:cU):Bool :=
  (if s.kind = 1 then decide (s.person = 0) && cc s.value 1 9999
   else if s.kind = 2 ∨ s.kind = 3 then cc s.person 1 999 && cc s.value 1 9999
   else if s.kind = 4 then (cc s.person 1 999 || decide (s.person = 0)) && cc s.value 1 9999
   else if s.kind = 5 then cc s.person 1 999 && decide (s.value = 0)
   else if s.kind = 6 then cc s.person 1 999 && cc s.value 1 999
   else false) && cc s.stamp 1 99
def cU.ok (s:cU):Bool :=
  cc s.stamp 1 99 &&
  (if s.kind = 1 then decide (s.person = 0) && cc s.value 1 9999
   else if s.kind = 2 ∨ s.kind = 3 then cc s.person 1 999 && cc s.value 1 9999
   else if s.kind = 4 then cc s.person 0 999 && cc s.value 1 9999
   else if s.kind = 5 then cc s.person 1 999 && decide (s.value = 0)
   else if s.kind = 6 then cc s.person 1 999 && cc s.value 1 999 && decide (s.value ≠ s.person)
   else false)
inductive cU.Is (s:cU):Prop
 | get (hk:s.kind=1) (hp:s.person=0) (hv:1≤s.value∧s.value≤9999)
 | show_ (hk:s.kind=2) (hp:1≤s.person∧s.person≤999) (hv:1≤s.value∧s.value≤9999)
 | back (hk:s.kind=3) (hp:1≤s.person∧s.person≤999) (hv:1≤s.value∧s.value≤9999)
 | sell0 (hk:s.kind=4) (hp:s.person=0) (hv:1≤s.value∧s.value≤9999)
 | sell (hk:s.kind=4) (hp:1≤s.person∧s.person≤999) (hv:1≤s.value∧s.value≤9999)
 | miss (hk:s.kind=5) (hp:1≤s.person∧s.person≤999) (hv:s.value=0)
 | move (hk:s.kind=6) (hp:1≤s.person∧s.person≤999) (hv:1≤s.value∧s.value≤999)
theorem cU.okS_is {s:cU} (h:s.okS=true):(1≤s.stamp∧s.stamp≤99)∧s.Is:=by
 unfold cU.okS at h
 rw [Bool.and_eq_true,bQ] at h
 refine ⟨h.2, ?_⟩
 have h:=h.1
 split at h
 ·rename_i hk; simp only [Bool.and_eq_true,bQ,decide_eq_true_eq] at h; exact .get hk h.1 h.2
 ·split at h
  ·rename_i hk; simp only [Bool.and_eq_true,bQ] at h
   rcases hk with hk | hk
   ·exact .show_ hk h.1 h.2
   ·exact .back hk h.1 h.2
  ·split at h
   ·rename_i hk; simp only [Bool.and_eq_true,Bool.or_eq_true,bQ,decide_eq_true_eq] at h
    rcases h.1 with hp | hp
    ·exact .sell hk hp h.2
    ·exact .sell0 hk hp h.2
   ·split at h
    ·rename_i hk; simp only [Bool.and_eq_true,bQ,decide_eq_true_eq] at h; exact .miss hk h.1 h.2
    ·split at h
     ·rename_i hk; simp only [Bool.and_eq_true,bQ] at h; exact .move hk h.1 h.2
     ·cases h
theorem cU.ok_okS (s:cU):s.ok=(s.okS && !(decide (s.kind=6) && decide (s.value=s.person))):=by
 unfold cU.ok cU.okS
 generalize vX:cc s.stamp 1 99=st
 by_cases h1:s.kind=1
 ·have e:decide (s.kind=6)=false:=jE oM
  rw [if_pos h1,if_pos h1,e]; cases st <;> simp
 ·rw [if_neg h1,if_neg h1]
  by_cases h2:s.kind=2 ∨ s.kind=3
  ·have e:decide (s.kind=6)=false:=jE oM
   rw [if_pos h2,if_pos h2,e]; cases st <;> simp
  ·rw [if_neg h2,if_neg h2]
   by_cases h4:s.kind=4
   ·have e:decide (s.kind=6)=false:=jE oM
    have e2:cc s.person 0 999=(cc s.person 1 999 || decide (s.person=0)):=by
     rw [Bool.eq_iff_iff,Bool.or_eq_true,bQ,bQ,decide_eq_true_eq]; omega
    rw [if_pos h4,if_pos h4,e,e2]; cases st <;> simp
   ·rw [if_neg h4,if_neg h4]
    by_cases h5:s.kind=5
    ·have e:decide (s.kind=6)=false:=jE oM
     rw [if_pos h5,if_pos h5,e]; cases st <;> simp
    ·rw [if_neg h5,if_neg h5]
     by_cases h6:s.kind=6
     ·rw [if_pos h6,if_pos h6,jD h6]
      by_cases h7:s.value=s.person
      ·simp [h7]
      ·simp [h7]; cases st <;> simp
     ·rw [if_neg h6,if_neg h6]; cases st <;> rfl
def dy (ts:List aq) (kd:Int):Nat:=(ts.takeWhile fun t=>decide (t.k < kd)).length
theorem jY (ts:List aq) (kd:Int):dy ts kd≤ts.length:=by
 unfold dy; exact (List.takeWhile_prefix _).length_le
theorem j0 (t:aq) (ts:List aq) (kd:Int):dy (t :: ts) kd=if t.k < kd then dy ts kd+1 else 0:=by
 unfold dy; rw [List.takeWhile_cons]; by_cases h:t.k < kd <;> simp [h]
theorem r5:∀ (ts:List aq) (kd:Int) (i:Nat) (h:i < ts.length),i < dy ts kd→ts[i].k < kd
 | t :: ts,kd,i,h,hi=>by
  rw [j0] at hi
  split at hi
  ·cases i with
   | zero=>assumption
   | succ i=>exact r5 ts kd i (by simpa using h) oM
  ·omega
theorem r6:∀ (ts:List aq) (kd:Int) (h:dy ts kd < ts.length),¬ ts[dy ts kd].k < kd
 | t :: ts,kd,h=>by
  by_cases hk:t.k < kd
  ·have e:dy (t :: ts) kd=dy ts kd+1:=by rw [j0,if_pos hk]
   simp only [e,List.getElem_cons_succ]
   exact r6 ts kd (by simpa [e] using h)
  ·have e:dy (t :: ts) kd=0:=by rw [j0,if_neg hk]
   simp only [e,List.getElem_cons_zero]; exact hk
def vp (ts:List aq):Prop:=ts.Pairwise fun a b=>a.k < b.k
theorem kv:∀ (ts:List aq) (n:Nat) (p:Int),dj n p ts=true→vp ts∧(n ≠ 0→∀ t ∈ ts,p < t.k)
 | [],_,_,_=>⟨List.Pairwise.nil,fun _ t ht=>by cases ht⟩
 | r :: l,n,p,h=>by
  simp only [dj,Bool.and_eq_true,Bool.or_eq_true,decide_eq_true_eq] at h
  obtain ⟨h1,h2⟩:=kv l (n+1) r.k h.2
  have h3:=h2 oM
  refine ⟨List.pairwise_cons.2 ⟨h3,h1⟩,fun hn t ht=>?_⟩
  have hp:p < r.k:=by rcases h.1.2 with h0 | h0; exact absurd h0 hn; exact h0
  rcases List.mem_cons.1 ht with rfl | ht
  ·exact hp
  ·have:=h3 t ht; omega
theorem uB (ts:List aq) (kd:Int) (ha:vp ts) (i:Nat) (h:i < ts.length) (hi:dy ts kd≤i) : ¬ ts[i].k < kd:=by
 have h0:=r6 ts kd oM
 rcases Nat.lt_or_ge (dy ts kd) i with vH | we
 ·have:=List.pairwise_iff_getElem.1 ha (dy ts kd) i oM h vH
  omega
 ·have e:dy ts kd=i:=oM
  simp only [e] at h0; exact h0
def aj (ts:List aq) (kd n:Int):List aq :=
 if 0≤ax ts kd then ts.set (ax ts kd).toNat ⟨(ts.getD (ax ts kd).toNat default).k,(ts.getD (ax ts kd).toNat default).c+n⟩
 else ts.take (dy ts kd)++⟨kd,n⟩ :: ts.drop (dy ts kd)
def ed (ts:List aq) (kd:Int):List aq:=ts.take (dy ts kd)++⟨kd,0⟩ :: ts.drop (dy ts kd)
theorem jC {α:Type} (f:α→Bool) (y:α) (r:List α) (hy:f y=true):∀ (l:List α) (k:Nat),(∀ x ∈ l,f x=false)→bp f k (l++y :: r)=(k+l.length:Nat)
 | [],k,_=>by simp [bp,hy]
 | x :: l,k,h=>by
  rw [List.cons_append,bp,h x sP]
  rw [if_neg sP,jC f y r hy l (k+1) fun y hy=>h y (by simp [hy])]
  simp; omega
theorem m7 {α:Type} (f:α→Bool):∀ (l:List α) (k:Nat),bp f k l < k+l.length
 | [],_=>by simp [bp]; omega
 | x :: l,k=>by
  rw [bp]; split
  ·simp; omega
  ·have:=m7 f l (k+1); simp only [List.length_cons]; omega
theorem lE {ts:List aq} {kd:Int} (h:0≤ax ts kd):(ax ts kd).toNat < ts.length:=by
 have:=m7 (fun t:aq=>decide (t.k=kd)) ts 0
 change ax ts kd < _ at this; omega
theorem mj {ts:List aq} {kd:Int} (h : ¬ 0≤ax ts kd):∀ t ∈ ts,t.k ≠ kd:=by
 have h1:=dL ts kd
 rw [jE h] at h1
 intro t ht e
 have:aS ts kd=true:=by unfold aS; rw [List.any_eq_true]; exact ⟨t,ht,jD e⟩
 rw [this] at h1; cases h1
theorem qV {ts:List aq} {kd:Int} (h : ¬ 0≤ax ts kd):ax (ed ts kd) kd=dy ts kd:=by
 have h0:=mj h
 unfold ax ed
 rw [jC _ _ _ sP _ 0 fun t ht=>by simpa using h0 t (List.mem_of_mem_take ht)]
 simp [List.length_take,Nat.min_eq_left (jY ts kd)]
theorem pJ {ts:List aq} {kd:Int} (n:Int) (h : ¬ 0≤ax ts kd) :
  aj ts kd n=(ed ts kd).set (dy ts kd) ⟨((ed ts kd).getD (dy ts kd) default).k,((ed ts kd).getD (dy ts kd) default).c+n⟩:=by
 unfold aj
 rw [if_neg h]
 have hl:(ts.take (dy ts kd)).length=dy ts kd:=by rw [List.length_take,Nat.min_eq_left (jY ts kd)]
 have e:(ed ts kd).getD (dy ts kd) default=⟨kd,0⟩:=by
  unfold ed
  rw [List.getD_eq_getElem?_getD,List.getElem?_append_right oM,hl,Nat.sub_self]; rfl
 rw [e]
 unfold ed
 rw [List.set_append_right _ _ oM,hl,Nat.sub_self,List.set_cons_zero,Int.zero_add]
theorem dN {a b:ae} : before a b=true ↔ a.k < b.k ∨ a.k=b.k∧a.p < b.p:=by
 unfold before; simp
def nV (os:List ae):Prop:=os.Pairwise fun a b=>before a b=true
theorem kT (ts:List aq):∀ (os:List ae) (p:Option ae),dM ts p os=true→nV os∧∀ q,p=some q→∀ o ∈ os,before q o=true
 | [],_,_=>⟨List.Pairwise.nil,fun _ _ o ho=>by cases ho⟩
 | r :: l,p,h=>by
  simp only [dM,Bool.and_eq_true] at h
  obtain ⟨h1,h2⟩:=kT ts l (some r) h.2
  have h3:=h2 r rfl
  refine ⟨List.pairwise_cons.2 ⟨h3,h1⟩, ?_⟩
  rintro q rfl o ho
  have hq:before q r=true:=h.1.2
  rcases List.mem_cons.1 ho with rfl | ho
  ·exact hq
  ·have:=h3 o ho
   rw [dN] at this hq ⊢; omega
def fc (k p:Int) (o:ae):Bool:=decide (o.k=k) && decide (o.p=p)
theorem ee {k p:Int} {o:ae} : fc k p o=true ↔ o.k=k∧o.p=p:=by unfold fc; simp
def aN (k p:Int):List ae→Int
 | []=>0
 | o :: l=>if fc k p o then o.c else aN k p l
def aL (k p:Int):Int→List ae→List ae
 | c,[]=>if c ≠ 0 then [⟨k,p,c⟩] else []
 | c,o :: l =>
  if before ⟨k,p,0⟩ o=true∧c ≠ 0 then ⟨k,p,c⟩ :: (if fc k p o then aL k p 0 l else o :: aL k p 0 l)
  else if fc k p o then aL k p c l else o :: aL k p c l
theorem m8 {k p:Int} : ∀ l:List ae,(∀ o ∈ l,fc k p o=false)→aL k p 0 l=l
 | [],_=>by simp [aL]
 | o :: l,h=>by
  rw [aL,if_neg sP,h o sP,if_neg sP,m8 l fun q hq=>h q (by simp [hq])]
theorem kU {k p:Int} {o:ae} (h:before ⟨k,p,0⟩ o=true):fc k p o=false:=by
 rw [dN] at h; simp only at h
 rw [Bool.eq_false_iff]; intro e; rw [ee] at e; omega
theorem ov {k p c:Int} (hc:c ≠ 0):∀ l:List ae,(∀ o ∈ l,before ⟨k,p,0⟩ o=true)→aL k p c l=⟨k,p,c⟩ :: l
 | [],_=>by simp [aL,hc]
 | o :: l,h=>by
  have ho:=h o sP
  rw [aL,if_pos ⟨ho,hc⟩,kU ho,if_neg sP,m8 l fun q hq=>kU (h q (by simp [hq]))]
def eM (k p by_:Int):List ae→List ae
 | []=>[⟨k,p,by_⟩]
 | o :: l=>if before o ⟨k,p,0⟩ then o :: eM k p by_ l else if fc k p o then (if o.c+by_=0 then l else ⟨o.k,o.p,o.c+by_⟩ :: l) else ⟨k,p,by_⟩ :: o :: l
theorem gC {k p by_:Int} : ∀ l:List ae,nV l→(aN k p l=0→by_ ≠ 0)→eM k p by_ l=aL k p (aN k p l+by_) l
 | [],_,h=>by
  have hb:by_ ≠ 0:=h rfl
  simp [eM,aL,aN,hb]
 | o :: l,ha,h=>by
  obtain ⟨h1,h2⟩:=List.pairwise_cons.1 ha
  rw [eM]
  by_cases hb:before o ⟨k,p,0⟩=true
  ·have hn:fc k p o=false:=by
    rw [dN] at hb; simp only at hb
    rw [Bool.eq_false_iff]; intro e; rw [ee] at e; omega
   have hr : ¬ before ⟨k,p,0⟩ o=true:=by rw [dN] at hb ⊢; simp only at hb ⊢; omega
   have eo:aN k p (o :: l)=aN k p l:=by rw [aN,hn,if_neg sP]
   rw [eo] at h ⊢
   rw [if_pos hb,gC l h2 h,aL,if_neg (fun e=>hr e.1),hn,if_neg sP]
  ·rw [if_neg hb]
   by_cases hi:fc k p o=true
   ·have hi':=ee.1 hi
    have eo:aN k p (o :: l)=o.c:=by rw [aN,if_pos hi]
    have hr : ¬ before ⟨k,p,0⟩ o=true:=by rw [dN]; simp only; omega
    have hl:∀ q ∈ l,before ⟨k,p,0⟩ q=true:=fun q hq=>by
     have:=h1 q hq; rw [dN] at this ⊢; simp only at this ⊢; omega
    have eA:aL k p (o.c+by_) (o :: l)=aL k p (o.c+by_) l:=by rw [aL,if_neg (fun e=>hr e.1),if_pos hi]
    rw [eo,if_pos hi,eA]
    by_cases hz:o.c+by_=0
    ·rw [if_pos hz,hz,m8 l fun q hq=>kU (hl q hq)]
    ·rw [if_neg hz,ov hz l hl,hi'.1,hi'.2]
   ·have xC:fc k p o=false:=Bool.eq_false_iff.2 hi
    have hr:before ⟨k,p,0⟩ o=true:=by
     rw [dN] at hb ⊢; simp only at hb ⊢
     rw [ee] at hi; omega
    have hl:∀ q ∈ l,before ⟨k,p,0⟩ q=true:=fun q hq=>by
     have:=h1 q hq; rw [dN] at this hr ⊢; simp only at this hr ⊢; omega
    have wC:∀ q ∈ l,fc k p q=false:=fun q hq=>kU (hl q hq)
    have e0:aN k p (o :: l)=0:=by
     have:∀ m:List ae,(∀ q ∈ m,fc k p q=false)→aN k p m=0:=by
      intro m; induction m with
      | nil=>intro _; rfl
      | cons q m ih=>intro hm; rw [aN,hm q sP,if_neg sP]; exact ih fun r hr=>hm r (by simp [hr])
     exact this _ (by intro q hq; rcases List.mem_cons.1 hq with rfl | hq; exact xC; exact wC q hq)
    have hb0:=h e0
    rw [if_neg hi,e0,Int.zero_add,ov hb0 (o :: l) (by intro q hq; rcases List.mem_cons.1 hq with rfl | hq; exact hr; exact hl q hq)]
theorem oX {k p:Int} : ∀ (l:List ae) (c:Int) (o:ae),o ∈ aL k p c l→o ∈ l ∨ o=⟨k,p,c⟩
 | [],c,o,h=>by
  rw [aL] at h; split at h
  ·simp at h; exact .inr h
  ·cases h
 | q :: l,c,o,h=>by
  have up0:∀ o,o ∈ (if fc k p q=true then aL k p 0 l else q :: aL k p 0 l)→o ∈ q :: l:=by
   intro o ho
   have hz:∀ m:List ae,∀ o ∈ aL k p 0 m,o ∈ m:=by
    intro m; induction m with
    | nil=>intro o ho; simp [aL] at ho
    | cons r m ih =>
     intro o ho
     rw [aL,if_neg sP] at ho
     split at ho
     ·exact List.mem_cons_of_mem _ (ih o ho)
     ·rcases List.mem_cons.1 ho with rfl | ho
      ·simp
      ·exact List.mem_cons_of_mem _ (ih o ho)
   split at ho
   ·exact List.mem_cons_of_mem _ (hz l o ho)
   ·rcases List.mem_cons.1 ho with rfl | ho
    ·simp
    ·exact List.mem_cons_of_mem _ (hz l o ho)
  rw [aL] at h
  split at h
  ·rcases List.mem_cons.1 h with rfl | h
   ·exact .inr rfl
   ·exact .inl (up0 o h)
  ·split at h
   ·rcases oX l c o h with h | h
    ·exact .inl (List.mem_cons_of_mem _ h)
    ·exact .inr h
   ·rcases List.mem_cons.1 h with rfl | h
    ·exact .inl sP
    ·rcases oX l c o h with h | h
     ·exact .inl (List.mem_cons_of_mem _ h)
     ·exact .inr h
theorem ff {k p:Int} : ∀ l:List ae,(aL k p 0 l).Sublist l
 | []=>by simp [aL]
 | o :: l=>by
  rw [aL,if_neg sP]
  split
  ·exact (ff l).cons o
  ·exact (ff l).cons_cons o
theorem lF {k p:Int} : ∀ l:List ae,aN k p l=0 ∨ ∃ o ∈ l,fc k p o=true∧o.c=aN k p l
 | []=>.inl rfl
 | o :: l=>by
  rw [aN]; split
  ·rename_i h; exact .inr ⟨o,sP,h,rfl⟩
  ·rcases lF (k:=k) (p:=p) l with h | ⟨q,hq,h⟩
   ·exact .inl h
   ·exact .inr ⟨q,by simp [hq],h⟩
theorem m9 {k p:Int} : ∀ l:List ae,(∀ o ∈ l,fc k p o=false)→aN k p l=0
 | [],_=>rfl
 | o :: l,h=>by rw [aN,h o sP,if_neg sP]; exact m9 l fun q hq=>h q (by simp [hq])
theorem lG {k p:Int} : ∀ (l:List ae) (s:Int),nV l→bG (fc k p) s l=s+aN k p l
 | [],s,_=>by simp [bG,aN]
 | o :: l,s,ha=>by
  obtain ⟨h1,h2⟩:=List.pairwise_cons.1 ha
  rw [bG,aN]
  by_cases hi:fc k p o=true
  ·rw [if_pos hi,if_pos hi,lG l _ h2,m9 l,Int.add_zero]
   intro q hq
   have:=h1 q hq
   rw [dN] at this
   have hi':=ee.1 hi
   rw [Bool.eq_false_iff]; intro e; rw [ee] at e; omega
  ·rw [if_neg hi,if_neg hi]; exact lG l s h2
structure sI (B:Nat) (w:World) (b o:Nat) (r:cU):Prop where
 c0:∀ p:ap B w,p.val.cell? ⟨b,o,none⟩=some (O U r.kind)
 c1:∀ p:ap B w,p.val.cell? ⟨b,o+1,none⟩=some (O U r.stamp)
 c2:∀ p:ap B w,p.val.cell? ⟨b,o+2,none⟩=some (O U r.person)
 c3:∀ p:ap B w,p.val.cell? ⟨b,o+3,none⟩=some (O U r.value)
theorem sI.up {B B' : Nat} {w W:World} {b o:Nat} {r:cU} (h:sI B w b o r) (hb:Below B w W) (hB:B≤B'):sI B' W b o r :=
 ⟨fun p=>h.c0 ⟨p.val,hb.trans (p.below.mono hB)⟩,fun p=>h.c1 ⟨p.val,hb.trans (p.below.mono hB)⟩,fun p=>h.c2 ⟨p.val,hb.trans (p.below.mono hB)⟩,fun p=>h.c3 ⟨p.val,hb.trans (p.below.mono hB)⟩⟩
theorem sI.of {W:World} {g:Nat} {t:TypeId} {r:cU} (h:ah W g t r.enc):sI W.heap.size W g 0 r :=
 ⟨fun p=>(p.cell h.lt).trans (h.cell 0),fun p=>(p.cell h.lt).trans (h.cell 1),fun p=>(p.cell h.lt).trans (h.cell 2),fun p=>(p.cell h.lt).trans (h.cell 3)⟩
abbrev tW (w:World) (B:Nat) (A:Option Addr) (l:List cU):Prop:=bn w B 4 A l.length (l.flatMap cU.enc)
theorem tW.el {w:World} {B:Nat} {A:Option Addr} {l:List cU} (h:tW w B A l) (vJ:0 < l.length):∃ b off,A=some ⟨b,off,none⟩∧b < B∧∀ i (hi:i < l.length),sI B w b (off+i * 4) l[i]:=by
 obtain ⟨b,off,e,hb,hc⟩:=h.at_ vJ
 refine ⟨b,off,e,hb,fun i hi=>?_⟩
 have key:∀ j,j < 4→∀ u,(l[i].enc)[j]?=some u→∀ p:ap B w,p.val.cell? ⟨b,off+i * 4+j,none⟩=some u:=fun j hj u hu p=>by
  rw [p.cell hb,Nat.add_assoc]
  exact hc _ u (by rw [eY cU.enc 4 cU.enc_len l i hi j hj]; exact hu)
 exact ⟨key 0 oM _ rfl,key 1 oM _ rfl,key 2 oM _ rfl,key 3 oM _ rfl⟩
theorem pD {w w' : World} {g:Nat} (hg:w.grownBy w' (some g)) (h:w.heap.size≤g):Below w.heap.size w w' :=
 ⟨hg.os,hg.tape,hg.output,hg.size,fun k hk=>hg.block k hk iE⟩
end Go.Proofs.YtoeoimhemojdeaaGreatDoor
