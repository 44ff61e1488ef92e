/- Lemmas. -/
import Derived.Deep.DeepCutAuto
import Derived.Test.YtoeoimhemojdeaaGreatDoorFs01

set_option linter.unusedVariables false
set_option linter.unusedSimpArgs false
set_option maxHeartbeats 8000000
open Go.Value renaming int → O, slice → F, string → wG
open Go.IntKind renaming i64 → U
open Go.Proofs.Tryz renaming prog → wH

namespace Go.Proofs.YtoeoimhemojdeaaGreatDoor
open Go.RowKit
section
variable {P:Program} {ops:Array Oper} {Q:Exit→Act→World→Prop}
def fB (P:Program) (ops:Array Oper) (Q:Exit→Act→World→Prop) (C:(Nat→Bool)→World→Prop) (T:Nat→World→World→Prop) (fr:(Nat→Value)→Act):Nat→List Oper→List ag→Prop
 | k,[],Rs=>∀ vs L w,(∀ j,j < ops.size→L j=true)→C L w→(∀ (j:Nat) (R:ag),R.Br = []→Rs[k - 1 - j]?=some R→j < k→R.at vs j w)→Q .normal (fr vs) w
 | k,o :: l,Rs=>∃ R:ag,R.fine ops k∧R.firm ops T k ∧
  (∀ vs L w,kM ops L k→C L w→(∀ (j:Nat) (R' : ag),bU .any ops ops.size k j=true→R'.live ops k=true→Rs[k - 1 - j]?=some R'→j < k→R'.at vs j w)→∀ K:Act→World→Prop,(∀ a' v w',a'=(fr vs).put o.dst v→R.R (vs R.D) v w'→C (Listed.but L k) w'→T k w w'→K a' w') →
   if Region.wanted o (yielded ops (fr vs).tmps)=true then o.wp P (fr vs) w K Q else K ((fr vs).put o.dst undef) w) ∧
  fB P ops Q C T fr (k+1) l (R :: Rs)
theorem qv {Rs:List ag} {k j:Nat} {R:ag} (hk:Rs.length=k) (h:Rs[k - 1 - j]?=some R) (hj:j < k):Rs.reverse[j]?=some R:=by
 rw [List.getElem?_reverse oM,hk]; exact h
theorem nD {C:(Nat→Bool)→World→Prop} {T:Nat→World→World→Prop} {fr:(Nat→Value)→Act} : ∀ (l:List Oper) (k:Nat) (Rs:List ag),Rs.length=k→fB P ops Q C T fr k l Rs→fb P ops Q C T fr k l Rs.reverse
 | [],_,_,hk,h=>fun vs L w hL hC hB=>h vs L w hL hC fun j R hb hR hj=>hB j R hb (qv hk hR hj)
 | _ :: l,k,Rs,hk,⟨R,h1,h2,h3,h4⟩=>⟨R,h1,h2,fun vs L w hG hC hB K hK=>h3 vs L w hG hC (fun j R' ha hv hR hj=>hB j R' ha hv (qv hk hR hj)) K hK,by
   have:=nD l (k+1) (R :: Rs) (by simp [hk]) h4
   rwa [List.reverse_cons] at this⟩
theorem al {id:Nat} {a:Act} {w:World} {l:List Oper} (C:(Nat→Bool)→World→Prop) (T:Nat→World→World→Prop) (hm:P.follows .mixedOrders=true) (Ai:eB l=true) (AU:fN .any l.toArray=true)
  (hC:C (fun _=>false) w.drew) (h:fB P l.toArray Q C T (fun vs=>ax vs l 0 a) 0 l []):(Code.region id l.toArray true).wp P Q a w :=
 ma C T hm Ai AU hC (nD l 0 [] rfl h)
theorem ar {C:(Nat→Bool)→World→Prop} {T:Nat→World→World→Prop} {fr:(Nat→Value)→Act} {k:Nat} {Rs:List ag} (h:∀ vs L w,(∀ j,j < ops.size→L j=true)→C L w→(∀ (j:Nat) (R:ag),R.Br = []→Rs[k - 1 - j]?=some R→j < k→R.at vs j w)→Q .normal (fr vs) w):fB P ops Q C T fr k [] Rs:=h
theorem aa {C:(Nat→Bool)→World→Prop} {T:Nat→World→World→Prop} {fr:(Nat→Value)→Act} {k:Nat} {o:Oper} {l:List Oper} {Rs:List ag} (V:Value)
  (h1:∀ vs L w,kM ops L k→C L w→(∀ (j:Nat) (R' : ag),bU .any ops ops.size k j=true→R'.live ops k=true→Rs[k - 1 - j]?=some R'→j < k→R'.at vs j w)→∀ K:Act→World→Prop,(∀ a' w',a'=(fr vs).put o.dst V→C (Listed.but L k) w'→T k w w'→K a' w') →
   if Region.wanted o (yielded ops (fr vs).tmps)=true then o.wp P (fr vs) w K Q else K ((fr vs).put o.dst undef) w)
  (h2:fB P ops Q C T fr (k+1) l (⟨0,fun _ v _=>v=V,[]⟩ :: Rs)):fB P ops Q C T fr k (o :: l) Rs :=
 ⟨⟨0,fun _ v _=>v=V,[]⟩,.inl (fun _ _ _ _ h=>h),fun _ _ _ _ _ _ _ _ h _=>h,fun vs L w hG hC hB K hK=>h1 vs L w hG hC hB K fun a' w' ha CF hT=>hK a' V w' ha rfl CF hT,h2⟩
theorem af {C:(Nat→Bool)→World→Prop} {T:Nat→World→World→Prop} {fr:(Nat→Value)→Act} {k:Nat} {o:Oper} {l:List Oper} {Rs:List ag} (Br:List Nat) (R:Value→World→Prop) (hR:∀ i,i ≠ k→i ∉ Br→bU .any ops ops.size k i=false→∀ v w w',R v w→T i w w'→R v w')
  (h1:∀ vs L w,kM ops L k→C L w→(∀ (j:Nat) (R' : ag),bU .any ops ops.size k j=true→R'.live ops k=true→Rs[k - 1 - j]?=some R'→j < k→R'.at vs j w)→∀ K:Act→World→Prop,(∀ a' v w',a'=(fr vs).put o.dst v→R v w'→C (Listed.but L k) w'→T k w w'→K a' w') →
   if Region.wanted o (yielded ops (fr vs).tmps)=true then o.wp P (fr vs) w K Q else K ((fr vs).put o.dst undef) w)
  (h2:fB P ops Q C T fr (k+1) l (⟨0,fun _ v w=>R v w,Br⟩ :: Rs)):fB P ops Q C T fr k (o :: l) Rs :=
 ⟨⟨0,fun _ v w=>R v w,Br⟩,.inl (fun _ _ _ _ h=>h),fun i hi hb ha _ v w w' h t=>hR i hi hb ha v w w' h t,h1,h2⟩
theorem bf {C:(Nat→Bool)→World→Prop} {T:Nat→World→World→Prop} {fr:(Nat→Value)→Act} {k:Nat} {o:Oper} {l:List Oper} {Rs:List ag} (Br:List Nat) (D:Nat) (R:Value→Value→World→Prop) (hD:bU .any ops ops.size k D=true) (hR:∀ i,i ≠ k→i ∉ Br→bU .any ops ops.size k i=false→∀ u v w w',R u v w→T i w w'→R u v w')
  (h1:∀ vs L w,kM ops L k→C L w→(∀ (j:Nat) (R' : ag),bU .any ops ops.size k j=true→R'.live ops k=true→Rs[k - 1 - j]?=some R'→j < k→R'.at vs j w)→∀ K:Act→World→Prop,(∀ a' v w',a'=(fr vs).put o.dst v→R (vs D) v w'→C (Listed.but L k) w'→T k w w'→K a' w') →
   if Region.wanted o (yielded ops (fr vs).tmps)=true then o.wp P (fr vs) w K Q else K ((fr vs).put o.dst undef) w)
  (h2:fB P ops Q C T fr (k+1) l (⟨D,R,Br⟩ :: Rs)):fB P ops Q C T fr k (o :: l) Rs :=
 ⟨⟨D,R,Br⟩,.inr hD,hR,h1,h2⟩
end
theorem fe {ops:Array Oper} {k:Nat} {Rs:List ag} {vs:Nat→Value} {w:World} (hB:∀ (j:Nat) (R:ag),bU .any ops ops.size k j=true→R.live ops k=true→Rs[k-1-j]?=some R→j<k→R.at vs j w) (j:Nat) {V:Value} (h3:Rs[k-1-j]?=some ⟨0,fun _ v _=>v=V,[]⟩:=by rfl) (h1:bU .any ops ops.size k j=true:=by kernel_rfl) (h4:j<k:=by decide):vs j=V:=ag.eq (hB j _ h1 rfl h3 h4)
theorem fs {ops:Array Oper} {k:Nat} {Rs:List ag} {vs:Nat→Value} {w:World} (hB:∀ (j:Nat) (R:ag),bU .any ops ops.size k j=true→R.live ops k=true→Rs[k-1-j]?=some R→j<k→R.at vs j w) (j:Nat) {R:ag} (h3:Rs[k-1-j]?=some R:=by rfl) (h1:bU .any ops ops.size k j=true:=by kernel_rfl) (h2:R.live ops k=true:=by kernel_rfl) (h4:j<k:=by decide):R.at vs j w:=hB j _ h1 h2 h3 h4
theorem sy {ops:Array Oper} {s k:Nat} {C0 C1:World→Prop} {L:Nat→Bool} {w:World} (hG:kM ops L k) (h:C0 w) (ha:bU .any ops ops.size s k=true:=by kernel_rfl) (wT:s≠k:=by decide):Sw s C0 C1 (Listed.but L k) w:=Sw.stay hG ha wT h
theorem sb {ops:Array Oper} {s k:Nat} {C0 C1:World→Prop} {L:Nat→Bool} {w:World} (h:Sw s C0 C1 L w) (hG:kM ops L k) (ha:bU .any ops ops.size s k=true:=by kernel_rfl):C0 w:=Sw.before hG ha h
def Mk (_:Nat):Prop:=True
theorem fmk {ops:Array Oper} {k:Nat} {Rs:List ag} {vs:Nat→Value} {w:World} {j:Nat} (_:Mk j) (hB:∀ (j:Nat) (R:ag),bU .any ops ops.size k j=true→R.live ops k=true→Rs[k-1-j]?=some R→j<k→R.at vs j w) {V:Value} (h3:Rs[k-1-j]?=some ⟨0,fun _ v _=>v=V,[]⟩:=by rfl) (h1:bU .any ops ops.size k j=true:=by kernel_rfl) (h4:j<k:=by decide):vs j=V:=ag.eq (hB j _ h1 rfl h3 h4)
theorem fck {w:World} {g:Nat} {t:TypeId} {cs:List Value} {j:Nat} (_:Mk j) (h:ai w g t cs):w.cell? ⟨g,j,none⟩=cs[j]?:=h.cell j
theorem vp0 {P:Prop} (h:P:=by (intro vs L9 w9 wK wI hB K9 wJ;simp only [Act.put,sA,gs0,gs1] at wJ;go_simp;first | exact wJ _ _ rfl wI bR | exact wJ _ _ rfl wI jB)):P:=h
theorem vp0C3 {A:Prop} (hL:A) {P:Prop} (h:A→P:=by (intro hL vs L9 w9 wK wI hB K9 wJ;obtain ⟨q0,q1,q2⟩:=cells3 (hL.below wI hL.lt);simp only [Act.put,sA,gs0,gs1] at wJ;go_simp;first | exact wJ _ _ rfl wI bR | exact wJ _ _ rfl wI jB)):P:=h hL
theorem vp0C4 {A:Prop} (hL:A) {P:Prop} (h:A→P:=by (intro hL vs L9 w9 wK wI hB K9 wJ;obtain ⟨q0,q1,q2,q3⟩:=cells4 (hL.below wI hL.lt);simp only [Act.put,sA,gs0,gs1] at wJ;go_simp;first | exact wJ _ _ rfl wI bR | exact wJ _ _ rfl wI jB)):P:=h hL
theorem vp0C8 {A:Prop} (hL:A) {P:Prop} (h:A→P:=by (intro hL vs L9 w9 wK wI hB K9 wJ;obtain ⟨q0,q1,q2,q3,q4,q5,q6,q7⟩:=cells8 (hL.below wI hL.lt);simp only [Act.put,sA,gs0,gs1] at wJ;go_simp;first | exact wJ _ _ rfl wI bR | exact wJ _ _ rfl wI jB)):P:=h hL
theorem vp1 (j0:Nat) {P:Prop} (h:Mk j0→P:=by (intro m0 vs L9 w9 wK wI hB K9 wJ;have d0:=fmk m0 hB;simp only [d0] at wJ ⊢;simp only [Act.put,sA,gs0,gs1] at wJ;go_simp;first | exact wJ _ _ rfl wI bR | exact wJ _ _ rfl wI jB)):P:=h trivial
theorem vp1C5 (j0:Nat) {A:Prop} (hL:A) {P:Prop} (h:Mk j0→A→P:=by (intro m0 hL vs L9 w9 wK wI hB K9 wJ;have d0:=fmk m0 hB;simp only [d0] at wJ ⊢;obtain ⟨q0,q1,q2,q3,q4⟩:=cells5 (hL.below wI hL.lt);simp only [Act.put,sA,gs0,gs1] at wJ;go_simp;first | exact wJ _ _ rfl wI bR | exact wJ _ _ rfl wI jB)):P:=h trivial hL
theorem vp1c1 (j0:Nat) {A:Prop} (hL:A) (j9:Nat) {P:Prop} (h:Mk j0→A→Mk j9→P:=by (intro m0 hL m9 vs L9 w9 wK wI hB K9 wJ;have d0:=fmk m0 hB;simp only [d0] at wJ ⊢;have q0:=fck m9 (hL.below wI hL.lt);simp only [gz0,gz1] at q0;simp only [Act.put,sA,gs0,gs1] at wJ;go_simp;first | exact wJ _ _ rfl wI bR | exact wJ _ _ rfl wI jB)):P:=h trivial hL trivial
theorem vp1s (j0:Nat) {A:Prop} (hL:A) {P:Prop} (h:Mk j0→A→P:=by (intro m0 hL vs L9 w9 wK wI hB K9 wJ;have d0:=fmk m0 hB;simp only [d0] at wJ ⊢;have q0:=hL ⟨w9,wI⟩;try dsimp only at q0;simp only [Act.put,sA,gs0,gs1] at wJ;go_simp;first | exact wJ _ _ rfl wI bR | exact wJ _ _ rfl wI jB)):P:=h trivial hL
theorem vp1w (j0:Nat) {A:Prop} (hL:A) {P:Prop} (h:Mk j0→A→P:=by (intro m0 hL vs L9 w9 wK wI hB K9 wJ;have d0:=fmk m0 hB;simp only [d0] at wJ ⊢;have q0:=hL.out w9 wI;simp only [Act.put,sA,gs0,gs1] at wJ;go_simp;first | exact wJ _ _ rfl wI bR | exact wJ _ _ rfl wI jB)):P:=h trivial hL
theorem vp2 (j0:Nat) (j1:Nat) {P:Prop} (h:Mk j0→Mk j1→P:=by (intro m0 m1 vs L9 w9 wK wI hB K9 wJ;have d0:=fmk m0 hB;have d1:=fmk m1 hB;simp only [d0,d1] at wJ ⊢;simp only [Act.put,sA,gs0,gs1] at wJ;go_simp;first | exact wJ _ _ rfl wI bR | exact wJ _ _ rfl wI jB)):P:=h trivial trivial
theorem vp2w (j0:Nat) (j1:Nat) {A:Prop} (hL:A) {P:Prop} (h:Mk j0→Mk j1→A→P:=by (intro m0 m1 hL vs L9 w9 wK wI hB K9 wJ;have d0:=fmk m0 hB;have d1:=fmk m1 hB;simp only [d0,d1] at wJ ⊢;have q0:=hL.out w9 wI;simp only [Act.put,sA,gs0,gs1] at wJ;go_simp;first | exact wJ _ _ rfl wI bR | exact wJ _ _ rfl wI jB)):P:=h trivial trivial hL
theorem vp3 (j0:Nat) (j1:Nat) (j2:Nat) {P:Prop} (h:Mk j0→Mk j1→Mk j2→P:=by (intro m0 m1 m2 vs L9 w9 wK wI hB K9 wJ;have d0:=fmk m0 hB;have d1:=fmk m1 hB;have d2:=fmk m2 hB;simp only [d0,d1,d2] at wJ ⊢;simp only [Act.put,sA,gs0,gs1] at wJ;go_simp;first | exact wJ _ _ rfl wI bR | exact wJ _ _ rfl wI jB)):P:=h trivial trivial trivial
theorem va0 {P:Prop} (h:P:=by (intro vs L9 w9 wK wI hB K9 wJ;replace wI:=wI.after wK kZ;simp only [Act.put,sA,gs0,gs1] at wJ;go_simp;first | exact wJ _ _ rfl (Sw.on wK kZ wI) bR | exact wJ _ _ rfl (Sw.on wK kZ wI) jB)):P:=h
theorem va1 (j0:Nat) {P:Prop} (h:Mk j0→P:=by (intro m0 vs L9 w9 wK wI hB K9 wJ;replace wI:=wI.after wK kZ;have d0:=fmk m0 hB;simp only [d0] at wJ ⊢;simp only [Act.put,sA,gs0,gs1] at wJ;go_simp;first | exact wJ _ _ rfl (Sw.on wK kZ wI) bR | exact wJ _ _ rfl (Sw.on wK kZ wI) jB)):P:=h trivial
theorem vb0 {P:Prop} (h:P:=by (intro vs L9 w9 wK wI hB K9 wJ;replace wI:=sb wI wK;simp only [Act.put,sA,gs0,gs1] at wJ;go_simp;first | exact wJ _ _ rfl (sy wK wI) bR | exact wJ _ _ rfl (sy wK wI) jB)):P:=h
theorem vb0C5 {A:Prop} (hL:A) {P:Prop} (h:A→P:=by (intro hL vs L9 w9 wK wI hB K9 wJ;replace wI:=sb wI wK;obtain ⟨q0,q1,q2,q3,q4⟩:=cells5 (hL.below wI hL.lt);simp only [Act.put,sA,gs0,gs1] at wJ;go_simp;first | exact wJ _ _ rfl (sy wK wI) bR | exact wJ _ _ rfl (sy wK wI) jB)):P:=h hL
theorem vb0C8 {A:Prop} (hL:A) {P:Prop} (h:A→P:=by (intro hL vs L9 w9 wK wI hB K9 wJ;replace wI:=sb wI wK;obtain ⟨q0,q1,q2,q3,q4,q5,q6,q7⟩:=cells8 (hL.below wI hL.lt);simp only [Act.put,sA,gs0,gs1] at wJ;go_simp;first | exact wJ _ _ rfl (sy wK wI) bR | exact wJ _ _ rfl (sy wK wI) jB)):P:=h hL
theorem vb1 (j0:Nat) {P:Prop} (h:Mk j0→P:=by (intro m0 vs L9 w9 wK wI hB K9 wJ;replace wI:=sb wI wK;have d0:=fmk m0 hB;simp only [d0] at wJ ⊢;simp only [Act.put,sA,gs0,gs1] at wJ;go_simp;first | exact wJ _ _ rfl (sy wK wI) bR | exact wJ _ _ rfl (sy wK wI) jB)):P:=h trivial
theorem vb1C5 (j0:Nat) {A:Prop} (hL:A) {P:Prop} (h:Mk j0→A→P:=by (intro m0 hL vs L9 w9 wK wI hB K9 wJ;replace wI:=sb wI wK;have d0:=fmk m0 hB;simp only [d0] at wJ ⊢;obtain ⟨q0,q1,q2,q3,q4⟩:=cells5 (hL.below wI hL.lt);simp only [Act.put,sA,gs0,gs1] at wJ;go_simp;first | exact wJ _ _ rfl (sy wK wI) bR | exact wJ _ _ rfl (sy wK wI) jB)):P:=h trivial hL
theorem vb1c1 (j0:Nat) {A:Prop} (hL:A) (j9:Nat) {P:Prop} (h:Mk j0→A→Mk j9→P:=by (intro m0 hL m9 vs L9 w9 wK wI hB K9 wJ;replace wI:=sb wI wK;have d0:=fmk m0 hB;simp only [d0] at wJ ⊢;have q0:=fck m9 (hL.below wI hL.lt);simp only [gz0,gz1] at q0;simp only [Act.put,sA,gs0,gs1] at wJ;go_simp;first | exact wJ _ _ rfl (sy wK wI) bR | exact wJ _ _ rfl (sy wK wI) jB)):P:=h trivial hL trivial
theorem vb1s (j0:Nat) {A:Prop} (hL:A) {P:Prop} (h:Mk j0→A→P:=by (intro m0 hL vs L9 w9 wK wI hB K9 wJ;replace wI:=sb wI wK;have d0:=fmk m0 hB;simp only [d0] at wJ ⊢;have q0:=hL ⟨w9,wI⟩;try dsimp only at q0;simp only [Act.put,sA,gs0,gs1] at wJ;go_simp;first | exact wJ _ _ rfl (sy wK wI) bR | exact wJ _ _ rfl (sy wK wI) jB)):P:=h trivial hL
theorem vb2 (j0:Nat) (j1:Nat) {P:Prop} (h:Mk j0→Mk j1→P:=by (intro m0 m1 vs L9 w9 wK wI hB K9 wJ;replace wI:=sb wI wK;have d0:=fmk m0 hB;have d1:=fmk m1 hB;simp only [d0,d1] at wJ ⊢;simp only [Act.put,sA,gs0,gs1] at wJ;go_simp;first | exact wJ _ _ rfl (sy wK wI) bR | exact wJ _ _ rfl (sy wK wI) jB)):P:=h trivial trivial
theorem vb3 (j0:Nat) (j1:Nat) (j2:Nat) {P:Prop} (h:Mk j0→Mk j1→Mk j2→P:=by (intro m0 m1 m2 vs L9 w9 wK wI hB K9 wJ;replace wI:=sb wI wK;have d0:=fmk m0 hB;have d1:=fmk m1 hB;have d2:=fmk m2 hB;simp only [d0,d1,d2] at wJ ⊢;simp only [Act.put,sA,gs0,gs1] at wJ;go_simp;first | exact wJ _ _ rfl (sy wK wI) bR | exact wJ _ _ rfl (sy wK wI) jB)):P:=h trivial trivial trivial
theorem vd0 {P:Prop} (h:P:=by (intro vs L9 w9 wK wI hB K9 wJ;simp only [Act.put,sA,gs0,gs1] at wJ;go_simp;first | exact wJ _ _ rfl (wI.stay wK.self dD) gR | exact wJ _ _ rfl (wI.stay wK.self dD) jG)):P:=h
theorem vd0D5 {A:Prop} (hL:A) {B:Prop} (hX:B) {P:Prop} (h:A→B→P:=by (intro hL hX vs L9 w9 wK wI hB K9 wJ;obtain ⟨q0,q1,q2,q3,q4⟩:=cells5 (wI.lies hL hX);simp only [Act.put,sA,gs0,gs1] at wJ;go_simp;first | exact wJ _ _ rfl (wI.stay wK.self dD) gR | exact wJ _ _ rfl (wI.stay wK.self dD) jG)):P:=h hL hX
theorem vd1 (j0:Nat) {P:Prop} (h:Mk j0→P:=by (intro m0 vs L9 w9 wK wI hB K9 wJ;have d0:=fmk m0 hB;simp only [d0] at wJ ⊢;simp only [Act.put,sA,gs0,gs1] at wJ;go_simp;first | exact wJ _ _ rfl (wI.stay wK.self dD) gR | exact wJ _ _ rfl (wI.stay wK.self dD) jG)):P:=h trivial
theorem vd1d1 (j0:Nat) {A:Prop} (hL:A) {B:Prop} (hX:B) (j9:Nat) {P:Prop} (h:Mk j0→A→B→Mk j9→P:=by (intro m0 hL hX m9 vs L9 w9 wK wI hB K9 wJ;have d0:=fmk m0 hB;simp only [d0] at wJ ⊢;have q0:=fck m9 (wI.lies hL hX);simp only [gz0,gz1] at q0;simp only [Act.put,sA,gs0,gs1] at wJ;go_simp;first | exact wJ _ _ rfl (wI.stay wK.self dD) gR | exact wJ _ _ rfl (wI.stay wK.self dD) jG)):P:=h trivial hL hX trivial
theorem vo0 {P:Prop} (h:P:=by (intro vs L9 w9 wK wI hB K9 wJ;simp only [Act.put,sA,gs0,gs1] at wJ;have zg:=jZ wI;clear wI;go_simp;first | exact wJ _ _ rfl (Sw.both dD (fun h=>h) (fun h=>h) zg.out) bR | exact wJ _ _ rfl (Sw.both dD (fun h=>h) (fun h=>h) zg.out) jB)):P:=h
theorem vo2 (j0:Nat) (j1:Nat) {P:Prop} (h:Mk j0→Mk j1→P:=by (intro m0 m1 vs L9 w9 wK wI hB K9 wJ;have d0:=fmk m0 hB;have d1:=fmk m1 hB;simp only [d0,d1] at wJ ⊢;simp only [Act.put,sA,gs0,gs1] at wJ;have zg:=jZ wI;clear wI;go_simp;first | exact wJ _ _ rfl (Sw.both dD (fun h=>h) (fun h=>h) zg.out) bR | exact wJ _ _ rfl (Sw.both dD (fun h=>h) (fun h=>h) zg.out) jB)):P:=h trivial trivial
theorem anI {a b c d:Prop} (h:a→c) (h1:a→b→d):a ∧ b→c ∧ d:=fun q=>⟨h q.1,h1 q.1 q.2⟩
section
variable {P:Program} {ops:Array Oper} {Q:Exit→Act→World→Prop} {C:(Nat→Bool)→World→Prop} {T:Nat→World→World→Prop} {fr:(Nat→Value)→Act} {k:Nat} {o:Oper} {l:List Oper} {Rs:List ag}
theorem sm0 (Br:List Nat) (R:Value→World→Prop) (h1:∀ vs L w,kM ops L k→C L w→(∀ (j:Nat) (R':ag),bU .any ops ops.size k j=true→R'.live ops k=true→Rs[k-1-j]?=some R'→j<k→R'.at vs j w)→∀ K:Act→World→Prop,(∀ a' v w',a'=(fr vs).put o.dst v→R v w'→C (Listed.but L k) w'→T k w w'→K a' w')→if Region.wanted o (yielded ops (fr vs).tmps)=true then o.wp P (fr vs) w K Q else K ((fr vs).put o.dst undef) w) (h2:fB P ops Q C T fr (k+1) l (⟨0,fun _ v w=>R v w,Br⟩::Rs)) (hR:∀ i,i≠k→i∉Br→bU .any ops ops.size k i=false→∀ v w w',R v w→T i w w'→R v w':=by (intro i9 xG hb9 ha9 v w1 w2 hv xj;exact hv)):fB P ops Q C T fr k (o::l) Rs:=af Br R hR h1 h2
theorem sm (Br:List Nat) (R:Value→World→Prop) (h1:∀ vs L w,kM ops L k→C L w→(∀ (j:Nat) (R':ag),bU .any ops ops.size k j=true→R'.live ops k=true→Rs[k-1-j]?=some R'→j<k→R'.at vs j w)→∀ K:Act→World→Prop,(∀ a' v w',a'=(fr vs).put o.dst v→R v w'→C (Listed.but L k) w'→T k w w'→K a' w')→if Region.wanted o (yielded ops (fr vs).tmps)=true then o.wp P (fr vs) w K Q else K ((fr vs).put o.dst undef) w) (h2:fB P ops Q C T fr (k+1) l (⟨0,fun _ v w=>R v w,Br⟩::Rs)) (hR:∀ i,i≠k→i∉Br→bU .any ops ops.size k i=false→∀ v w w',R v w→T i w w'→R v w':=by ((first | (intro i9 xG hb9 ha9 v w1 w2 hv xj;have hb:=xj (fun hm=>by simp only [mC,mN,oF] at hm hb9;first | (subst hm;first | exact xG rfl | exact hb9 sP | exact absurd (ha9.symm.trans (show bU .any _ _ _ _=true by kernel_rfl)) dD) | (rcases hm with rfl | rfl <;> first | exact xG rfl | exact hb9 sP | exact absurd (ha9.symm.trans (show bU .any _ _ _ _=true by kernel_rfl)) dD) | (rcases hm with rfl | rfl | rfl <;> first | exact xG rfl | exact hb9 sP | exact absurd (ha9.symm.trans (show bU .any _ _ _ _=true by kernel_rfl)) dD));revert hv) | (intro i9 xG hb9 ha9 v w1 w2 hv hb;revert hv));repeat' (first | with_reducible exact id | exact fun q=>q.kept hb (by intro e;injection e;omega) | exact fun q=>q.below hb q.lt | exact fun q=>ac q hb | exact fun q=>cm q hb hgB | exact fun q=>q.below hb | exact fun q=>q.then hb | exact fun q=>q.grown hb hgB | exact fun q=>q.grown hb hgB oM | (with_reducible apply Exists.imp;intro _) | (with_reducible refine anI ?_ fun _=>?_)))):fB P ops Q C T fr k (o::l) Rs:=af Br R hR h1 h2
theorem pm0 (Br:List Nat) (D:Nat) (R:Value→Value→World→Prop) (h1:∀ vs L w,kM ops L k→C L w→(∀ (j:Nat) (R':ag),bU .any ops ops.size k j=true→R'.live ops k=true→Rs[k-1-j]?=some R'→j<k→R'.at vs j w)→∀ K:Act→World→Prop,(∀ a' v w',a'=(fr vs).put o.dst v→R (vs D) v w'→C (Listed.but L k) w'→T k w w'→K a' w')→if Region.wanted o (yielded ops (fr vs).tmps)=true then o.wp P (fr vs) w K Q else K ((fr vs).put o.dst undef) w) (h2:fB P ops Q C T fr (k+1) l (⟨D,R,Br⟩::Rs)) (hR:∀ i,i≠k→i∉Br→bU .any ops ops.size k i=false→∀ u v w w',R u v w→T i w w'→R u v w':=by (intro i9 xG hb9 ha9 u v w1 w2 hv xj;exact hv)) (hD:bU .any ops ops.size k D=true:=by kernel_rfl):fB P ops Q C T fr k (o::l) Rs:=bf Br D R hD hR h1 h2
theorem pm (Br:List Nat) (D:Nat) (R:Value→Value→World→Prop) (h1:∀ vs L w,kM ops L k→C L w→(∀ (j:Nat) (R':ag),bU .any ops ops.size k j=true→R'.live ops k=true→Rs[k-1-j]?=some R'→j<k→R'.at vs j w)→∀ K:Act→World→Prop,(∀ a' v w',a'=(fr vs).put o.dst v→R (vs D) v w'→C (Listed.but L k) w'→T k w w'→K a' w')→if Region.wanted o (yielded ops (fr vs).tmps)=true then o.wp P (fr vs) w K Q else K ((fr vs).put o.dst undef) w) (h2:fB P ops Q C T fr (k+1) l (⟨D,R,Br⟩::Rs)) (hR:∀ i,i≠k→i∉Br→bU .any ops ops.size k i=false→∀ u v w w',R u v w→T i w w'→R u v w':=by ((first | (intro i9 xG hb9 ha9 u v w1 w2 hv xj;have hb:=xj (fun hm=>by simp only [mC,mN,oF] at hm hb9;first | (subst hm;first | exact xG rfl | exact hb9 sP | exact absurd (ha9.symm.trans (show bU .any _ _ _ _=true by kernel_rfl)) dD) | (rcases hm with rfl | rfl <;> first | exact xG rfl | exact hb9 sP | exact absurd (ha9.symm.trans (show bU .any _ _ _ _=true by kernel_rfl)) dD) | (rcases hm with rfl | rfl | rfl <;> first | exact xG rfl | exact hb9 sP | exact absurd (ha9.symm.trans (show bU .any _ _ _ _=true by kernel_rfl)) dD));revert hv) | (intro i9 xG hb9 ha9 u v w1 w2 hv hb;revert hv));repeat' (first | with_reducible exact id | exact fun q=>q.kept hb (by intro e;injection e;omega) | exact fun q=>q.below hb q.lt | exact fun q=>ac q hb | exact fun q=>cm q hb hgB | exact fun q=>q.below hb | exact fun q=>q.then hb | exact fun q=>q.grown hb hgB | exact fun q=>q.grown hb hgB oM | (with_reducible apply Exists.imp;intro _) | (with_reducible refine anI ?_ fun _=>?_)))) (hD:bU .any ops ops.size k D=true:=by kernel_rfl):fB P ops Q C T fr k (o::l) Rs:=bf Br D R hD hR h1 h2
end
def jY (L:Nat→Bool):Nat→Nat
 | 0=>0
 | n+1=>jY L n+(if L n=true then 1 else 0)
theorem pH (L:Nat→Bool):∀ n,jY L n≤n
 | 0=>Nat.le_refl _
 | n+1=>by have:=pH L n; rw [jY]; split <;> omega
theorem pb {L:Nat→Bool} {k:Nat} : ∀ n,n≤k→jY (Listed.but L k) n=jY L n
 | 0,_=>rfl
 | n+1,h=>by
  rw [jY,jY,pb n oM]
  have:Listed.but L k n=L n:=by unfold Listed.but; rw [if_neg oM]
  rw [this]
theorem jc {L:Nat→Bool} {k:Nat} (hL:L k=false):∀ n,k < n→jY (Listed.but L k) n=jY L n+1
 | 0,h=>absurd h oM
 | n+1,h=>by
  rw [jY,jY]
  by_cases e:n=k
  ·subst e
   rw [pb n nR,hL]
   have:Listed.but L n n=true:=by unfold Listed.but; rw [if_pos rfl]
   rw [this]; simp
  ·rw [jc hL n oM]
   have:Listed.but L k n=L n:=by unfold Listed.but; rw [if_neg e]
   rw [this]; omega
theorem cn {w w' : World} (h:Below w.heap.size w w') (row:Option Nat):w.grownBy w' row:=⟨h.os,h.tape,h.output,h.size,fun k hk _=>h.block k hk⟩
section
variable {w W:World} {g:Nat} {A:Option Addr} {bs:List UInt8} {cap m:Nat}
theorem eZ.below {W' : World} (E:eZ w W g A bs cap m) (h:Below W.heap.size W W'):eZ w W' g A bs cap m :=
 ⟨E.cur.kept (row:=none) (cn h _) sP,E.rd.keep fun p hp=>h.cell (by have:=E.lt; omega),aA E.gr (cn h _)⟩
theorem eZ.drew (E:eZ w W g A bs cap m):eZ w W.drew g A bs cap m:=⟨E.cur,E.rd.keep fun _ _=>rfl,fJ E.gr⟩
structure bX where
 op:Nat
 blk:Option Nat
 P:World→Prop
 st:∀ w w' row,w.grownBy w' row→(blk=none ∨ blk ≠ row)→P w→P w'
def bX.lies (k h:Nat) (t:TypeId) (cs:List Value):bX:=⟨k,some h,fun w=>ai w h t cs,fun _ _ _ hg hb hL=>hL.kept hg (hb.resolve_left sP)⟩
def bX.row (k B:Nat) (t:TypeId) (sz:Nat) (v:Value) (n:Nat) (xs:List Value):bX:=⟨k,v.ownBlock,fun w=>w.ownsRow B t sz v n xs,fun _ _ _ hg hb hL=>hL.kept hg hb⟩
structure Dr (w W:World) (g:Nat) (A:Option Addr) (bs:List UInt8) (cap m K n:Nat) (X:List Nat) (R:List bX) (L:Nat→Bool) (W9:World):Prop where
 env:eZ w W9 g A bs cap (m+K * jY L n)
 size:W.heap.size≤W9.heap.size
 keep:∀ k,k < W.heap.size→k ∉ X→W9.heap[k]?=W.heap[k]?
 room:∀ p ∈ R,p.blk ≠ some g∧(L p.op=false→p.P W9)
variable {K n k:Nat} {X:List Nat} {R:List bX} {L:Nat→Bool} {W9:World}
theorem Dr.start (E:eZ w W g A bs cap m) (hr:∀ p ∈ R,p.blk ≠ some g∧p.P W):Dr w W g A bs cap m K n X R (fun _=>false) W.drew:=by
 refine ⟨?_,Nat.le_refl _,fun _ _ _=>rfl,fun p hp=>⟨(hr p hp).1,fun _=>p.st W W.drew none (fJ (World.grownBy.refl W none)) (by cases p.blk <;> simp) (hr p hp).2⟩⟩
 have:jY (fun _=>false) n=0:=by
  induction n with
  | zero=>rfl
  | succ n ih=>rw [jY,ih]; simp
 rw [this]; exact E.drew
theorem Listed.was {L:Nat→Bool} {k j:Nat} (h:Listed.but L k j=false):L j=false∧j ≠ k:=by
 unfold Listed.but at h
 split at h
 ·cases h
 ·exact ⟨h,by assumption⟩
theorem Dr.stay (h:Dr w W g A bs cap m K n X R L W9) (hL:L k=false) (hk:k < n):Dr w W g A bs cap m K n X R (Listed.but L k) W9 :=
 ⟨h.env.mono (by rw [jc hL n hk,Nat.mul_add]; omega),h.size,h.keep,fun p hp=>⟨(h.room p hp).1,fun hl=>(h.room p hp).2 (Listed.was hl).1⟩⟩
theorem Dr.alloc (h:Dr w W g A bs cap m K n X R L W9) (hL:L k=false) (hk:k < n) (o:Obj):Dr w W g A bs cap m K n X R (Listed.but L k) (W9.alloc o) :=
 ⟨(h.env.alloc o).mono (by rw [jc hL n hk,Nat.mul_add]; omega),jT h.size sP,fun k hk' hX=>(Below.heap_alloc W9 o k (jL hk' h.size)).trans (h.keep k hk' hX),fun p hp=>⟨(h.room p hp).1,fun hl=>p.st _ _ none (World.grownBy_alloc W9 o none) (by cases p.blk <;> simp) ((h.room p hp).2 (Listed.was hl).1)⟩⟩
theorem Dr.call {W8:World} {m' : Nat} (h:Dr w W g A bs cap m K n X R L W9) (hL:L k=false) (hk:k < n) (E:eZ w W8 g A bs cap m') (hm:m'≤m+K * jY L n+K) (gr:W9.grownBy W8 (some g)) (hX:g ∈ X):Dr w W g A bs cap m K n X R (Listed.but L k) W8 :=
 ⟨E.mono (by rw [jc hL n hk,Nat.mul_add]; omega),jT h.size gr.size,fun k hk' Ew=>(gr.block k (jL hk' h.size) (by intro e; injection e with e; subst e; exact Ew hX)).trans (h.keep k hk' Ew),fun p hp=>⟨(h.room p hp).1,fun hl=>p.st _ _ _ gr (.inr (h.room p hp).1) ((h.room p hp).2 (Listed.was hl).1)⟩⟩
theorem Dr.below {W8:World} (h:Dr w W g A bs cap m K n X R L W9) (hL:L k=false) (hk:k < n) (hb:Below W9.heap.size W9 W8):Dr w W g A bs cap m K n X R (Listed.but L k) W8 :=
 ⟨(h.env.below hb).mono (by rw [jc hL n hk,Nat.mul_add]; omega),jT h.size hb.size,fun k hk' Ew=>(hb.block k (jL hk' h.size)).trans (h.keep k hk' Ew),fun p hp=>⟨(h.room p hp).1,fun hl=>p.st _ _ none (cn hb none) (by cases p.blk <;> simp) ((h.room p hp).2 (Listed.was hl).1)⟩⟩
theorem Dr.wrote {W8:World} {row:Option Nat} (h:Dr w W g A bs cap m K n X R L W9) (hL:L k=false) (hk:k < n) (gr:W9.grownBy W8 row) (hw:∀ b,row=some b→w.heap.size≤b∧g < b∧(b ∈ X ∨ W.heap.size≤b)) (hr:∀ p ∈ R,p.blk=row→p.op=k ∨ row=none):Dr w W g A bs cap m K n X R (Listed.but L k) W8:=by
 have hE:eZ w W8 g A bs cap (m+K * jY L n):=by
  cases row with
  | none=>exact ⟨h.env.cur.kept gr sP,h.env.rd.keep fun p hp=>fa gr p (by have:=h.env.lt; omega) sP,aA h.env.gr ⟨gr.os,gr.tape,gr.output,gr.size,fun j hj _=>gr.block j hj sP⟩⟩
  | some b=>exact h.env.wrote gr (hw b rfl).1 (hw b rfl).2.1
 refine ⟨hE.mono (by rw [jc hL n hk,Nat.mul_add]; omega),jT h.size gr.size,fun k hk' Ew=>(gr.block k (jL hk' h.size) (by intro e; rcases (hw k e.symm).2.2 with h1 | h1; exact Ew h1; omega)).trans (h.keep k hk' Ew),fun p hp=>⟨(h.room p hp).1,fun hl=>?_⟩⟩
 obtain ⟨h1,h2⟩:=Listed.was hl
 refine p.st _ _ row gr ?_ ((h.room p hp).2 h1)
 by_cases e:p.blk=row
 ·rcases hr p hp e with h3 | h3
  ·exact absurd h3 h2
  ·exact .inl (e.trans h3)
 ·exact .inr e
theorem Dr.lies {b:Nat} {t:TypeId} {cs:List Value} (h:Dr w W g A bs cap m K n X R L W9) (hL:ai W b t cs) (hX:b ∉ X):ai W9 b t cs:=(h.keep b hL.lt hX).trans hL
theorem Dr.le (h:Dr w W g A bs cap m K n X R L W9):eZ w W9 g A bs cap (m+K * n):=h.env.mono (by have:=Nat.mul_le_mul_left K (pH L n); omega)
theorem Dr.cnt (_h:Dr w W g A bs cap m K n X R L W9):m+K * jY L n≤m+K * n:=by have:=Nat.mul_le_mul_left K (pH L n); omega
theorem Dr.owns {B:Nat} {e:TypeId} {sz n' : Nat} {v:Value} {xs:List Value} (h:Dr w W g A bs cap m K n X R L W9) (ho:W.ownsRow B e sz v n' xs) (hX:∀ b,v.ownBlock=some b→b ∉ X):W9.ownsRow B e sz v n' xs:=by
 obtain ⟨h1,h2 | ⟨b,c,cur,hv,hB,hh,hr⟩⟩:=ho
 ·exact ⟨h1,.inl h2⟩
 ·refine ⟨h1,.inr ⟨b,c,cur,hv,hB, ?_,hr⟩⟩
  have hb:b < W.heap.size:=by
   rcases Nat.lt_or_ge b W.heap.size with h3 | h3
   ·exact h3
   ·rw [Array.getElem?_eq_none h3] at hh; cases hh
  rw [h.keep b hb (hX b (by rw [hv]; rfl))]
  exact hh
theorem Dr.reads {k' n' : Nat} {A' : Option Addr} {cs:List Value} (h:Dr w W g A bs cap m K n X R L W9) (hr:bm W W.heap.size k' A' n' cs) (hX:0 < n'→∀ b,A'.map (·.block)=some b→b ∉ X):bm W9 W9.heap.size k' A' n' cs :=
 ⟨hr.len,hr.big,fun hn=>by
  obtain ⟨b,off,e,hb,hc⟩:=hr.at_ hn
  refine ⟨b,off,e,jL hb h.size,fun j u hu=>?_⟩
  rw [World.cell?_of_block (a:=⟨b,off+j,none⟩) (h.keep b hb (hX hn b (by rw [e]; rfl)))]
  exact hc j u hu⟩
end
theorem eh {w W W2 wx:World} {g:Nat} {A:Option Addr} {bs:List UInt8} {cap m m' K n:Nat} {X:List Nat} {R:List bX} {L:Nat→Bool} (G:W.grownBy W2 (some g)) (h:Dr w W2 g A bs cap m K n X R L wx) (hX:∀ k ∈ X,k ≠ g→W.heap.size≤k) (E0:eZ w W2 g A bs cap m'):W.grownBy wx (some g) :=
  ⟨h.env.gr.os.trans (E0.gr.os.symm.trans G.os), h.env.gr.tape.trans (E0.gr.tape.symm.trans G.tape), h.env.gr.output.trans (E0.gr.output.symm.trans G.output), jT G.size h.size,
   fun k hk wT => (h.keep k (jL hk G.size) (fun hm => by have := hX k hm (by intro e; subst e; exact wT rfl); omega)).trans (G.block k hk wT)⟩
theorem bn {W W' W'' : World} {g b:Nat} (G:W.grownBy W' (some g)) (hg:W'.grownBy W'' (some b)) (hb:W.heap.size≤b):W.grownBy W'' (some g) :=
 ⟨hg.os.trans G.os,hg.tape.trans G.tape,hg.output.trans G.output,jT G.size hg.size,fun k hk wT=>(hg.block k (jL hk G.size) iE).trans (G.block k hk wT)⟩
theorem sZ {W:World} {k n g:Nat} {A:Option Addr} {cs:List Value} {X:List Nat} (hr:bm W W.heap.size k A n cs) (wT:∀ b,A.map (·.block)=some b→b ≠ g) (hX:∀ k ∈ X,k ≠ g→W.heap.size≤k):0 < n→∀ b,A.map (·.block)=some b→b ∉ X:=fun hn b hb hm=>by
 obtain ⟨b',off,e,hb',_⟩:=hr.at_ hn
 rw [e] at hb
 injection hb with hb
 simp only at hb
 subst hb
 have:=hX _ hm (wT _ (by rw [e]; rfl))
 omega
theorem bm.gr {W W' : World} {k n g:Nat} {A:Option Addr} {cs:List Value} (hr:bm W W.heap.size k A n cs) (wT:∀ b,A.map (·.block)=some b→b ≠ g) (hg:W.grownBy W' (some g)):bm W' W'.heap.size k A n cs :=
 ⟨hr.len,hr.big,fun hn=>by
  obtain ⟨b,off,e,hb,hc⟩:=hr.at_ hn
  refine ⟨b,off,e,jL hb hg.size,fun j u hu=>?_⟩
  rw [World.cell?_of_block (a:=⟨b,off+j,none⟩) (hg.block b hb (by intro e'; injection e' with e'; exact wT b (by rw [e]; rfl) e'))]
  exact hc j u hu⟩
theorem rO {w W:World} {g:Nat} {A:Option Addr} {bs:List UInt8} {cap m:Nat} (E:eZ w W g A bs cap m) (b n:Nat) (l:List Int) (hl:l.length=n) (hL:ai W b 3 (bi l)) (wT:b ≠ g) (h0:0 < n) (hn:n≤100000) (hm:m≤900000000) :
  Calls wH 73 #[.pointer (some ⟨g,0,none⟩),F (some ⟨b,0,none⟩) n n] W fun e w'=>∃ x:Int,e=.returned (O U x)∧eZ w w' g A bs cap (m+2)∧W.grownBy w' (some g):=by
 subst hl
 have hi:iG W W.heap.size (some ⟨b,0,none⟩) l:=hL.reads (jb l) oM
 exact (l7 g A _ cap _ m bs l _ h0 hn hm E.cur E.rd hi (by intro e; injection e with e; exact wT e)).mono fun _ _ ⟨x,he,_,hc,hg⟩=>⟨x,he,E.next hc hg,hg⟩
theorem dS {w W:World} {g:Nat} {A:Option Addr} {bs:List UInt8} {cap m K n k:Nat} {X:List Nat} {R:List bX} {L:Nat→Bool} {W9:World} {ops:Array Oper} (hG:kM ops L k) (h:Dr w W g A bs cap m K n X R L W9) (hk:k<n:=by decide):Dr w W g A bs cap m K n X R (Listed.but L k) W9:=h.stay hG.self hk
theorem dC {w W:World} {g:Nat} {A:Option Addr} {bs:List UInt8} {cap m K n k:Nat} {X:List Nat} {R:List bX} {L:Nat→Bool} {W9:World} {ops:Array Oper} {W8:World} {m':Nat} (hG:kM ops L k) (h:Dr w W g A bs cap m K n X R L W9) (E:eZ w W8 g A bs cap m') (gr:W9.grownBy W8 (some g)) (hk:k<n:=by decide) (hm:m'≤m+K*jY L n+K:=by (have:=wI.cnt;omega)) (hX:g ∈ X:=by simp):Dr w W g A bs cap m K n X R (Listed.but L k) W8:=h.call hG.self hk E hm gr hX
structure aq where
 k:Int
 c:Int
 deriving DecidableEq,Inhabited
def aq.enc (r:aq):List Value:=[O U r.k,O U r.c]
abbrev aq.val (r:aq):Value:=.agg #[O U r.k,O U r.c]
theorem aq.enc_len (r:aq):r.enc.length=2:=rfl
structure mL (B:Nat) (w:World) (b o:Nat) (r:aq):Prop where
 c0:∀ p:ap B w,p.val.cell? ⟨b,o,none⟩=some (O U r.k)
 c1:∀ p:ap B w,p.val.cell? ⟨b,o+1,none⟩=some (O U r.c)
theorem mL.up {B B' : Nat} {w W:World} {b o:Nat} {r:aq} (h:mL B w b o r) (hb:Below B w W) (hB:B≤B'):mL B' W b o r :=
 ⟨fun p=>h.c0 ⟨p.val,hb.trans (p.below.mono hB)⟩,fun p=>h.c1 ⟨p.val,hb.trans (p.below.mono hB)⟩⟩
theorem mL.of {W:World} {g:Nat} {t:TypeId} {r:aq} (h:ai W g t r.enc):mL W.heap.size W g 0 r :=
 ⟨fun p=>(p.cell h.lt).trans (h.cell 0),fun p=>(p.cell h.lt).trans (h.cell 1)⟩
abbrev fX (w:World) (B:Nat) (A:Option Addr) (l:List aq):Prop:=bm w B 2 A l.length (l.flatMap aq.enc)
theorem fX.el {w:World} {B:Nat} {A:Option Addr} {l:List aq} (h:fX w B A l) (wT:0 < l.length):∃ b off,A=some ⟨b,off,none⟩∧b < B∧∀ i (hi:i < l.length),mL B w b (off+i * 2) l[i]:=by
 obtain ⟨b,off,e,hb,hc⟩:=h.at_ wT
 refine ⟨b,off,e,hb,fun i hi=>?_⟩
 have key:∀ j,j < 2→∀ u,(l[i].enc)[j]?=some u→∀ p:ap B w,p.val.cell? ⟨b,off+i * 2+j,none⟩=some u:=fun j hj u hu p=>by
  rw [p.cell hb,Nat.add_assoc]
  exact hc _ u (by rw [fl aq.enc 2 aq.enc_len l i hi j hj]; exact hu)
 exact ⟨key 0 oM _ rfl,key 1 oM _ rfl⟩
theorem rP {W:World} {g:Nat} {t:TypeId} {l:List aq} (h:ai W g t (l.flatMap aq.enc)) (hn:l.length≤9223372036854775807):fX W W.heap.size (some ⟨g,0,none⟩) l :=
 ai.reads h (fW aq.enc 2 aq.enc_len l) hn
theorem dR:(wH.info? 104).map (fun i=>(i.zero,i.size,i.bytes))=some (some (.agg #[O U 0,O U 0]),2,16):=kZ
structure ae where
 k:Int
 p:Int
 c:Int
 deriving DecidableEq,Inhabited
def ae.enc (r:ae):List Value:=[O U r.k,O U r.p,O U r.c]
abbrev ae.val (r:ae):Value:=.agg #[O U r.k,O U r.p,O U r.c]
theorem ae.enc_len (r:ae):r.enc.length=3:=rfl
structure fY (B:Nat) (w:World) (b o:Nat) (r:ae):Prop where
 c0:∀ p:ap B w,p.val.cell? ⟨b,o,none⟩=some (O U r.k)
 c1:∀ p:ap B w,p.val.cell? ⟨b,o+1,none⟩=some (O U r.p)
 c2:∀ p:ap B w,p.val.cell? ⟨b,o+2,none⟩=some (O U r.c)
theorem fY.up {B B' : Nat} {w W:World} {b o:Nat} {r:ae} (h:fY B w b o r) (hb:Below B w W) (hB:B≤B'):fY B' W b o r :=
 ⟨fun p=>h.c0 ⟨p.val,hb.trans (p.below.mono hB)⟩,fun p=>h.c1 ⟨p.val,hb.trans (p.below.mono hB)⟩,fun p=>h.c2 ⟨p.val,hb.trans (p.below.mono hB)⟩⟩
theorem fY.of {W:World} {g:Nat} {t:TypeId} {r:ae} (h:ai W g t r.enc):fY W.heap.size W g 0 r :=
 ⟨fun p=>(p.cell h.lt).trans (h.cell 0),fun p=>(p.cell h.lt).trans (h.cell 1),fun p=>(p.cell h.lt).trans (h.cell 2)⟩
abbrev eS (w:World) (B:Nat) (A:Option Addr) (l:List ae):Prop:=bm w B 3 A l.length (l.flatMap ae.enc)
theorem eS.el {w:World} {B:Nat} {A:Option Addr} {l:List ae} (h:eS w B A l) (wT:0 < l.length):∃ b off,A=some ⟨b,off,none⟩∧b < B∧∀ i (hi:i < l.length),fY B w b (off+i * 3) l[i]:=by
 obtain ⟨b,off,e,hb,hc⟩:=h.at_ wT
 refine ⟨b,off,e,hb,fun i hi=>?_⟩
 have key:∀ j,j < 3→∀ u,(l[i].enc)[j]?=some u→∀ p:ap B w,p.val.cell? ⟨b,off+i * 3+j,none⟩=some u:=fun j hj u hu p=>by
  rw [p.cell hb,Nat.add_assoc]
  exact hc _ u (by rw [fl ae.enc 3 ae.enc_len l i hi j hj]; exact hu)
 exact ⟨key 0 oM _ rfl,key 1 oM _ rfl,key 2 oM _ rfl⟩
theorem pI {W:World} {g:Nat} {t:TypeId} {l:List ae} (h:ai W g t (l.flatMap ae.enc)) (hn:l.length≤9223372036854775807):eS W W.heap.size (some ⟨g,0,none⟩) l :=
 ai.reads h (fW ae.enc 3 ae.enc_len l) hn
theorem ex:(wH.info? 147).map (fun i=>(i.zero,i.size,i.bytes))=some (some (.agg #[O U 0,O U 0,O U 0]),3,24):=kZ
structure aO where
 TA:Option Addr
 t:List aq
 tc:Nat
 OA:Option Addr
 o:List ae
 oc:Nat
 gt:Int
 sd:Int
 ms:Int
def aO.enc (x:aO):List Value:=[F x.TA x.t.length x.tc,F x.OA x.o.length x.oc,O U x.gt,O U x.sd,O U x.ms]
abbrev aO.val (x:aO):Value:=.agg #[F x.TA x.t.length x.tc,F x.OA x.o.length x.oc,O U x.gt,O U x.sd,O U x.ms]
theorem aO.enc_len (x:aO):x.enc.length=5:=rfl
structure aQ (w:World) (B:Nat) (x:aO):Prop where
 ts:fX w B x.TA x.t
 os:eS w B x.OA x.o
section
variable {w w' : World} {B:Nat} {x:aO}
theorem aQ.below (h:aQ w B x) (hb:Below B w w'):aQ w' B x:=⟨bm.below h.ts hb,bm.below h.os hb⟩
theorem aQ.mono {B' : Nat} (h:aQ w B x) (hB:B≤B'):aQ w B' x:=⟨bm.mono h.ts hB,bm.mono h.os hB⟩
theorem aQ.up (h:aQ w B x) (hb:Below B w w') (hB:B≤w.heap.size):aQ w' w'.heap.size x:=⟨bm.up h.ts hb hB,bm.up h.os hb hB⟩
theorem aQ.then (h:aQ w w.heap.size x) (hb:Below w.heap.size w w'):aQ w' w'.heap.size x:=h.up hb nR
end
def aq.ok (r:aq):Bool:=cg r.k 1 99 && cg r.c 0 9999
theorem aq.bounds {r:aq} (h:r.ok=true):(1≤r.k∧r.k≤99)∧0≤r.c∧r.c≤9999:=by
 unfold aq.ok at h; rw [Bool.and_eq_true,bV,bV] at h; exact h
def du:Nat→Int→List aq→Bool
 | _,_,[]=>true
 | n,p,r :: l=>r.ok && (decide (n=0) || decide (p < r.k)) && du (n+1) r.k l
def fo (l:List aq):Bool:=du 0 0 l
theorem gH:∀ (l:List aq) (n:Nat) (p:Int),du n p l=true→∀ i (h:i < l.length),l[i].ok=true
 | r :: l,n,p,hg,i,hi=>by
  simp only [du,Bool.and_eq_true] at hg
  cases i with
  | zero=>exact hg.1.1
  | succ i=>exact gH l (n+1) r.k hg.2 i (by simpa using hi)
def aS (ts:List aq) (k:Int):Bool:=ts.any fun t=>decide (t.k=k)
def ay (ts:List aq) (k:Int):Int:=bv (fun t:aq=>decide (t.k=k)) 0 ts
theorem dU (ts:List aq) (k:Int):decide (0≤ay ts k)=aS ts k:=mK _ ts 0
def ae.ok (ts:List aq) (r:ae):Bool:=aS ts r.k && cg r.p 1 999 && cg r.c 1 9999
theorem ae.bounds {ts:List aq} {r:ae} (h:r.ok ts=true):aS ts r.k=true∧(1≤r.p∧r.p≤999)∧1≤r.c∧r.c≤9999:=by
 unfold ae.ok at h; rw [Bool.and_eq_true,Bool.and_eq_true,bV,bV] at h; exact ⟨h.1.1,h.1.2,h.2⟩
def before (a b:ae):Bool:=decide (a.k < b.k) || decide (a.k=b.k) && decide (a.p < b.p)
def dV (ts:List aq):Option ae→List ae→Bool
 | _,[]=>true
 | p,r :: l=>r.ok ts && (match p with | none=>true | some q=>before q r) && dV ts (some r) l
def fc (ts:List aq) (l:List ae):Bool:=dV ts none l
theorem fZ (ts:List aq):∀ (l:List ae) (p:Option ae),dV ts p l=true→∀ i (h:i < l.length),l[i].ok ts=true
 | r :: l,p,hg,i,hi=>by
  simp only [dV,Bool.and_eq_true] at hg
  cases i with
  | zero=>exact hg.1.1
  | succ i=>exact fZ ts l (some r) hg.2 i (by simpa using hi)
theorem eC {ts:List aq} {k:Int} (xF:∀ i (h:i < ts.length),ts[i].ok=true) (h:aS ts k=true):1≤k∧k≤99:=by
 unfold aS at h
 rw [List.any_eq_true] at h
 obtain ⟨t,ht,hk⟩:=h
 obtain ⟨i,hi,rfl⟩:=List.getElem_of_mem ht
 have:=(aq.bounds (xF i hi)).1
 have e:=of_decide_eq_true hk
 omega
theorem nE {a b:ae} (ha:1≤a.p∧a.p≤999) (hb:1≤b.p∧b.p≤999):before a b=decide (1000 * a.k+a.p < 1000 * b.k+b.p):=by
 unfold before
 by_cases h1:a.k < b.k
 ·rw [jD h1,Bool.true_or]; exact (jD oM).symm
 ·rw [jE h1,Bool.false_or]
  by_cases h2:a.k=b.k
  ·rw [jD h2,Bool.true_and]
   by_cases h3:a.p < b.p
   ·rw [jD h3]; exact (jD oM).symm
   ·rw [jE h3]; exact (jE oM).symm
  ·rw [jE h2,Bool.false_and]; exact (jE oM).symm
def gz:Int→List aq→Int
 | s,[]=>s
 | s,r :: l=>gz (s+r.c) l
def bJ (f:ae→Bool):Int→List ae→Int
 | s,[]=>s
 | s,r :: l=>bJ f (if f r then s+r.c else s) l
def cJ (l:List aq):Int:=gz 0 l
def aW (f:ae→Bool) (l:List ae):Int:=bJ f 0 l
abbrev dp:ae→Bool:=fun _=>true
theorem tf {l:List aq} {k:Nat} (h:k < l.length) (s:Int):gz s (l.drop k)=gz (s+l[k].c) (l.drop (k+1)):=by
 rw [List.drop_eq_getElem_cons h]; rfl
theorem lv {f:ae→Bool} {l:List ae} {k:Nat} (h:k < l.length) (s:Int):bJ f s (l.drop k)=bJ f (if f l[k] then s+l[k].c else s) (l.drop (k+1)):=by
 rw [List.drop_eq_getElem_cons h]; rfl
theorem kx:∀ (l:List aq) (s:Int),(∀ i (h:i < l.length),l[i].ok=true)→s≤gz s l∧gz s l≤s+9999 * l.length
 | [],s,_=>by simp [gz]
 | r :: l,s,h=>by
  have hr:=(aq.bounds (h 0 sP)).2
  simp only [List.getElem_cons_zero] at hr
  have:=kx l (s+r.c) (fun i hi=>by have:=h (i+1) (by simpa using hi); simpa using this)
  simp only [gz,List.length_cons]
  omega
theorem fK (f:ae→Bool) (ts:List aq):∀ (l:List ae) (s:Int),(∀ i (h:i < l.length),l[i].ok ts=true)→s≤bJ f s l∧bJ f s l≤s+9999 * l.length
 | [],s,_=>by simp [bJ]
 | r :: l,s,h=>by
  have hr:=(ae.bounds (h 0 sP)).2.2
  simp only [List.getElem_cons_zero] at hr
  have:=fK f ts l (if f r then s+r.c else s) (fun i hi=>by have:=h (i+1) (by simpa using hi); simpa using this)
  simp only [bJ,List.length_cons]
  cases hf:f r <;> simp only [hf,if_true,if_false,Bool.false_eq_true] at this ⊢ <;> omega
def fp (x:aO):Bool:=decide (x.t.length≤8) && decide (x.o.length≤8)
def iW (x:aO):Bool:=cg x.gt 0 99999 && cg x.sd 0 99999 && cg x.ms 0 99999
def lw (x:aO):Bool:=decide (x.gt=cJ x.t+aW dp x.o+x.sd+x.ms)
def ao (x:aO):Bool:=fp x && iW x && fo x.t && fc x.t x.o && lw x
structure bK (x:aO):Prop where
 tl:x.t.length≤8
 ol:x.o.length≤8
 g:0≤x.gt∧x.gt≤99999
 s:0≤x.sd∧x.sd≤99999
 m:0≤x.ms∧x.ms≤99999
 ts:fo x.t=true
 os:fc x.t x.o=true
 sum:x.gt=cJ x.t+aW dp x.o+x.sd+x.ms
theorem br {x:aO} : ao x=true ↔ bK x:=by
 unfold ao fp iW lw
 simp only [Bool.and_eq_true,bV,decide_eq_true_eq]
 constructor
 ·rintro ⟨⟨⟨⟨⟨h1,h2⟩,⟨h3,h4⟩,h5⟩,h6⟩,h7⟩,h8⟩
  exact ⟨h1,h2,h3,h4,h5,h6,h7,h8⟩
 ·rintro ⟨h1,h2,h3,h4,h5,h6,h7,h8⟩
  exact ⟨⟨⟨⟨⟨h1,h2⟩,⟨h3,h4⟩,h5⟩,h6⟩,h7⟩,h8⟩
theorem bK.tall {x:aO} (h:bK x):∀ i (hi:i < x.t.length),x.t[i].ok=true:=gH _ _ _ h.ts
theorem bK.oall {x:aO} (h:bK x):∀ i (hi:i < x.o.length),x.o[i].ok x.t=true:=fZ _ _ _ h.os
structure Oc where
 t:List aq
 o:List ae
 gt:Int
 sd:Int
 ms:Int
 deriving DecidableEq,Inhabited
def aO.c (x:aO):Oc:=⟨x.t,x.o,x.gt,x.sd,x.ms⟩
def Oc.at (y:Oc) (TA:Option Addr) (tc:Nat) (OA:Option Addr) (oc:Nat):aO:=⟨TA,y.t,tc,OA,y.o,oc,y.gt,y.sd,y.ms⟩
def Oc.good (y:Oc):Bool:=ao (y.at none 0 none 0)
theorem Oc.good_at (y:Oc) (TA:Option Addr) (tc:Nat) (OA:Option Addr) (oc:Nat):ao (y.at TA tc OA oc)=y.good:=rfl
theorem aO.good_c (x:aO):x.c.good=ao x:=rfl
structure df where
 kind:Int
 stamp:Int
 person:Int
 value:Int
 deriving DecidableEq,Inhabited
def df.enc (s:df):List Value:=[O U s.kind,O U s.stamp,O U s.person,O U s.value]
abbrev df.val (s:df):Value:=.agg #[O U s.kind,O U s.stamp,O U s.person,O U s.value]
theorem df.enc_len (s:df):s.enc.length=4:=rfl
def df.okS (s:df):Bool :=
  (if s.kind = 1 then decide (s.person = 0) && cg s.value 1 9999
   else if s.kind = 2 ∨ s.kind = 3 then cg s.person 1 999 && cg s.value 1 9999
   else if s.kind = 4 then (cg s.person 1 999 || decide (s.person = 0)) && cg s.value 1 9999
   else if s.kind = 5 then cg s.person 1 999 && decide (s.value = 0)
   else if s.kind = 6 then cg s.person 1 999 && cg s.value 1 999
   else false) && cg s.stamp 1 99
def df.ok (s:df):Bool :=
  cg s.stamp 1 99 &&
  (if s.kind = 1 then decide (s.person = 0) && cg s.value 1 9999
   else if s.kind = 2 ∨ s.kind = 3 then cg s.person 1 999 && cg s.value 1 9999
   else if s.kind = 4 then cg s.person 0 999 && cg s.value 1 9999
   else if s.kind = 5 then cg s.person 1 999 && decide (s.value = 0)
   else if s.kind = 6 then cg s.person 1 999 && cg s.value 1 999 && decide (s.value ≠ s.person)
   else false)
inductive df.Is (s:df):Prop
 | get (hk:s.kind=1) (hp:s.person=0) (hv:1≤s.value∧s.value≤9999)
 | show_ (hk:s.kind=2) (hp:1≤s.person∧s.person≤999) (hv:1≤s.value∧s.value≤9999)
 | back (hk:s.kind=3) (hp:1≤s.person∧s.person≤999) (hv:1≤s.value∧s.value≤9999)
 | sell0 (hk:s.kind=4) (hp:s.person=0) (hv:1≤s.value∧s.value≤9999)
 | sell (hk:s.kind=4) (hp:1≤s.person∧s.person≤999) (hv:1≤s.value∧s.value≤9999)
 | miss (hk:s.kind=5) (hp:1≤s.person∧s.person≤999) (hv:s.value=0)
 | move (hk:s.kind=6) (hp:1≤s.person∧s.person≤999) (hv:1≤s.value∧s.value≤999)
theorem df.okS_is {s:df} (h:s.okS=true):(1≤s.stamp∧s.stamp≤99)∧s.Is:=by
 unfold df.okS at h
 rw [Bool.and_eq_true,bV] at h
 refine ⟨h.2, ?_⟩
 have h:=h.1
 split at h
 ·rename_i hk; simp only [Bool.and_eq_true,bV,decide_eq_true_eq] at h; exact .get hk h.1 h.2
 ·split at h
  ·rename_i hk; simp only [Bool.and_eq_true,bV] at h
   rcases hk with hk | hk
   ·exact .show_ hk h.1 h.2
   ·exact .back hk h.1 h.2
  ·split at h
   ·rename_i hk; simp only [Bool.and_eq_true,Bool.or_eq_true,bV,decide_eq_true_eq] at h
    rcases h.1 with hp | hp
    ·exact .sell hk hp h.2
    ·exact .sell0 hk hp h.2
   ·split at h
    ·rename_i hk; simp only [Bool.and_eq_true,bV,decide_eq_true_eq] at h; exact .miss hk h.1 h.2
    ·split at h
     ·rename_i hk; simp only [Bool.and_eq_true,bV] at h; exact .move hk h.1 h.2
     ·cases h
theorem df.ok_okS (s:df):s.ok=(s.okS && !(decide (s.kind=6) && decide (s.value=s.person))):=by
 unfold df.ok df.okS
 generalize xl:cg s.stamp 1 99=st
 by_cases h1:s.kind=1
 ·have e:decide (s.kind=6)=false:=jE oM
  rw [if_pos h1,if_pos h1,e]; cases st <;> simp
 ·rw [if_neg h1,if_neg h1]
  by_cases h2:s.kind=2 ∨ s.kind=3
  ·have e:decide (s.kind=6)=false:=jE oM
   rw [if_pos h2,if_pos h2,e]; cases st <;> simp
  ·rw [if_neg h2,if_neg h2]
   by_cases h4:s.kind=4
   ·have e:decide (s.kind=6)=false:=jE oM
    have e2:cg s.person 0 999=(cg s.person 1 999 || decide (s.person=0)):=by
     rw [Bool.eq_iff_iff,Bool.or_eq_true,bV,bV,decide_eq_true_eq]; omega
    rw [if_pos h4,if_pos h4,e,e2]; cases st <;> simp
   ·rw [if_neg h4,if_neg h4]
    by_cases h5:s.kind=5
    ·have e:decide (s.kind=6)=false:=jE oM
     rw [if_pos h5,if_pos h5,e]; cases st <;> simp
    ·rw [if_neg h5,if_neg h5]
     by_cases h6:s.kind=6
     ·rw [if_pos h6,if_pos h6,jD h6]
      by_cases h7:s.value=s.person
      ·simp [h7]
      ·simp [h7]; cases st <;> simp
     ·rw [if_neg h6,if_neg h6]; cases st <;> rfl
def dI (ts:List aq) (kd:Int):Nat:=(ts.takeWhile fun t=>decide (t.k < kd)).length
theorem ky (ts:List aq) (kd:Int):dI ts kd≤ts.length:=by
 unfold dI; exact (List.takeWhile_prefix _).length_le
theorem kz (t:aq) (ts:List aq) (kd:Int):dI (t :: ts) kd=if t.k < kd then dI ts kd+1 else 0:=by
 unfold dI; rw [List.takeWhile_cons]; by_cases h:t.k < kd <;> simp [h]
theorem th:∀ (ts:List aq) (kd:Int) (i:Nat) (h:i < ts.length),i < dI ts kd→ts[i].k < kd
 | t :: ts,kd,i,h,hi=>by
  rw [kz] at hi
  split at hi
  ·cases i with
   | zero=>assumption
   | succ i=>exact th ts kd i (by simpa using h) oM
  ·omega
theorem ti:∀ (ts:List aq) (kd:Int) (h:dI ts kd < ts.length),¬ ts[dI ts kd].k < kd
 | t :: ts,kd,h=>by
  by_cases hk:t.k < kd
  ·have e:dI (t :: ts) kd=dI ts kd+1:=by rw [kz,if_pos hk]
   simp only [e,List.getElem_cons_succ]
   exact ti ts kd (by simpa [e] using h)
  ·have e:dI (t :: ts) kd=0:=by rw [kz,if_neg hk]
   simp only [e,List.getElem_cons_zero]; exact hk
def wC (ts:List aq):Prop:=ts.Pairwise fun a b=>a.k < b.k
theorem kR:∀ (ts:List aq) (n:Nat) (p:Int),du n p ts=true→wC ts∧(n ≠ 0→∀ t ∈ ts,p < t.k)
 | [],_,_,_=>⟨List.Pairwise.nil,fun _ t ht=>by cases ht⟩
 | r :: l,n,p,h=>by
  simp only [du,Bool.and_eq_true,Bool.or_eq_true,decide_eq_true_eq] at h
  obtain ⟨h1,h2⟩:=kR l (n+1) r.k h.2
  have h3:=h2 oM
  refine ⟨List.pairwise_cons.2 ⟨h3,h1⟩,fun hn t ht=>?_⟩
  have hp:p < r.k:=by rcases h.1.2 with h0 | h0; exact absurd h0 hn; exact h0
  rcases List.mem_cons.1 ht with rfl | ht
  ·exact hp
  ·have:=h3 t ht; omega
theorem vG (ts:List aq) (kd:Int) (ha:wC ts) (i:Nat) (h:i < ts.length) (hi:dI ts kd≤i) : ¬ ts[i].k < kd:=by
 have h0:=ti ts kd oM
 rcases Nat.lt_or_ge (dI ts kd) i with wQ | xq
 ·have:=List.pairwise_iff_getElem.1 ha (dI ts kd) i oM h wQ
  omega
 ·have e:dI ts kd=i:=oM
  simp only [e] at h0; exact h0
def aj (ts:List aq) (kd n:Int):List aq :=
 if 0≤ay ts kd then ts.set (ay ts kd).toNat ⟨(ts.getD (ay ts kd).toNat default).k,(ts.getD (ay ts kd).toNat default).c+n⟩
 else ts.take (dI ts kd)++⟨kd,n⟩ :: ts.drop (dI ts kd)
def ei (ts:List aq) (kd:Int):List aq:=ts.take (dI ts kd)++⟨kd,0⟩ :: ts.drop (dI ts kd)
theorem j9 {α:Type} (f:α→Bool) (y:α) (r:List α) (hy:f y=true):∀ (l:List α) (k:Nat),(∀ x ∈ l,f x=false)→bv f k (l++y :: r)=(k+l.length:Nat)
 | [],k,_=>by simp [bv,hy]
 | x :: l,k,h=>by
  rw [List.cons_append,bv,h x sP]
  rw [if_neg sP,j9 f y r hy l (k+1) fun y hy=>h y (by simp [hy])]
  simp; omega
theorem nF {α:Type} (f:α→Bool):∀ (l:List α) (k:Nat),bv f k l < k+l.length
 | [],_=>by simp [bv]; omega
 | x :: l,k=>by
  rw [bv]; split
  ·simp; omega
  ·have:=nF f l (k+1); simp only [List.length_cons]; omega
theorem mb {ts:List aq} {kd:Int} (h:0≤ay ts kd):(ay ts kd).toNat < ts.length:=by
 have:=nF (fun t:aq=>decide (t.k=kd)) ts 0
 change ay ts kd < _ at this; omega
theorem mM {ts:List aq} {kd:Int} (h : ¬ 0≤ay ts kd):∀ t ∈ ts,t.k ≠ kd:=by
 have h1:=dU ts kd
 rw [jE h] at h1
 intro t ht e
 have:aS ts kd=true:=by unfold aS; rw [List.any_eq_true]; exact ⟨t,ht,jD e⟩
 rw [this] at h1; cases h1
theorem rQ {ts:List aq} {kd:Int} (h : ¬ 0≤ay ts kd):ay (ei ts kd) kd=dI ts kd:=by
 have h0:=mM h
 unfold ay ei
 rw [j9 _ _ _ sP _ 0 fun t ht=>by simpa using h0 t (List.mem_of_mem_take ht)]
 simp [List.length_take,Nat.min_eq_left (ky ts kd)]
theorem qw {ts:List aq} {kd:Int} (n:Int) (h : ¬ 0≤ay ts kd) :
  aj ts kd n=(ei ts kd).set (dI ts kd) ⟨((ei ts kd).getD (dI ts kd) default).k,((ei ts kd).getD (dI ts kd) default).c+n⟩:=by
 unfold aj
 rw [if_neg h]
 have hl:(ts.take (dI ts kd)).length=dI ts kd:=by rw [List.length_take,Nat.min_eq_left (ky ts kd)]
 have e:(ei ts kd).getD (dI ts kd) default=⟨kd,0⟩:=by
  unfold ei
  rw [List.getD_eq_getElem?_getD,List.getElem?_append_right oM,hl,Nat.sub_self]; rfl
 rw [e]
 unfold ei
 rw [List.set_append_right _ _ oM,hl,Nat.sub_self,List.set_cons_zero,Int.zero_add]
theorem dW {a b:ae} : before a b=true ↔ a.k < b.k ∨ a.k=b.k∧a.p < b.p:=by
 unfold before; simp
def oP (os:List ae):Prop:=os.Pairwise fun a b=>before a b=true
theorem ly (ts:List aq):∀ (os:List ae) (p:Option ae),dV ts p os=true→oP os∧∀ q,p=some q→∀ o ∈ os,before q o=true
 | [],_,_=>⟨List.Pairwise.nil,fun _ _ o ho=>by cases ho⟩
 | r :: l,p,h=>by
  simp only [dV,Bool.and_eq_true] at h
  obtain ⟨h1,h2⟩:=ly ts l (some r) h.2
  have h3:=h2 r rfl
  refine ⟨List.pairwise_cons.2 ⟨h3,h1⟩, ?_⟩
  rintro q rfl o ho
  have hq:before q r=true:=h.1.2
  rcases List.mem_cons.1 ho with rfl | ho
  ·exact hq
  ·have:=h3 o ho
   rw [dW] at this hq ⊢; omega
def fq (k p:Int) (o:ae):Bool:=decide (o.k=k) && decide (o.p=p)
theorem ej {k p:Int} {o:ae} : fq k p o=true ↔ o.k=k∧o.p=p:=by unfold fq; simp
def aP (k p:Int):List ae→Int
 | []=>0
 | o :: l=>if fq k p o then o.c else aP k p l
def aM (k p:Int):Int→List ae→List ae
 | c,[]=>if c ≠ 0 then [⟨k,p,c⟩] else []
 | c,o :: l =>
  if before ⟨k,p,0⟩ o=true∧c ≠ 0 then ⟨k,p,c⟩ :: (if fq k p o then aM k p 0 l else o :: aM k p 0 l)
  else if fq k p o then aM k p c l else o :: aM k p c l
theorem nG {k p:Int} : ∀ l:List ae,(∀ o ∈ l,fq k p o=false)→aM k p 0 l=l
 | [],_=>by simp [aM]
 | o :: l,h=>by
  rw [aM,if_neg sP,h o sP,if_neg sP,nG l fun q hq=>h q (by simp [hq])]
theorem lz {k p:Int} {o:ae} (h:before ⟨k,p,0⟩ o=true):fq k p o=false:=by
 rw [dW] at h; simp only at h
 rw [Bool.eq_false_iff]; intro e; rw [ej] at e; omega
theorem pc {k p c:Int} (hc:c ≠ 0):∀ l:List ae,(∀ o ∈ l,before ⟨k,p,0⟩ o=true)→aM k p c l=⟨k,p,c⟩ :: l
 | [],_=>by simp [aM,hc]
 | o :: l,h=>by
  have ho:=h o sP
  rw [aM,if_pos ⟨ho,hc⟩,lz ho,if_neg sP,nG l fun q hq=>lz (h q (by simp [hq]))]
def eW (k p by_:Int):List ae→List ae
 | []=>[⟨k,p,by_⟩]
 | o :: l=>if before o ⟨k,p,0⟩ then o :: eW k p by_ l else if fq k p o then (if o.c+by_=0 then l else ⟨o.k,o.p,o.c+by_⟩ :: l) else ⟨k,p,by_⟩ :: o :: l
theorem gL {k p by_:Int} : ∀ l:List ae,oP l→(aP k p l=0→by_ ≠ 0)→eW k p by_ l=aM k p (aP k p l+by_) l
 | [],_,h=>by
  have hb:by_ ≠ 0:=h rfl
  simp [eW,aM,aP,hb]
 | o :: l,ha,h=>by
  obtain ⟨h1,h2⟩:=List.pairwise_cons.1 ha
  rw [eW]
  by_cases hb:before o ⟨k,p,0⟩=true
  ·have hn:fq k p o=false:=by
    rw [dW] at hb; simp only at hb
    rw [Bool.eq_false_iff]; intro e; rw [ej] at e; omega
   have hr : ¬ before ⟨k,p,0⟩ o=true:=by rw [dW] at hb ⊢; simp only at hb ⊢; omega
   have eo:aP k p (o :: l)=aP k p l:=by rw [aP,hn,if_neg sP]
   rw [eo] at h ⊢
   rw [if_pos hb,gL l h2 h,aM,if_neg (fun e=>hr e.1),hn,if_neg sP]
  ·rw [if_neg hb]
   by_cases hi:fq k p o=true
   ·have hi':=ej.1 hi
    have eo:aP k p (o :: l)=o.c:=by rw [aP,if_pos hi]
    have hr : ¬ before ⟨k,p,0⟩ o=true:=by rw [dW]; simp only; omega
    have hl:∀ q ∈ l,before ⟨k,p,0⟩ q=true:=fun q hq=>by
     have:=h1 q hq; rw [dW] at this ⊢; simp only at this ⊢; omega
    have eA:aM k p (o.c+by_) (o :: l)=aM k p (o.c+by_) l:=by rw [aM,if_neg (fun e=>hr e.1),if_pos hi]
    rw [eo,if_pos hi,eA]
    by_cases hz:o.c+by_=0
    ·rw [if_pos hz,hz,nG l fun q hq=>lz (hl q hq)]
    ·rw [if_neg hz,pc hz l hl,hi'.1,hi'.2]
   ·have yE:fq k p o=false:=Bool.eq_false_iff.2 hi
    have hr:before ⟨k,p,0⟩ o=true:=by
     rw [dW] at hb ⊢; simp only at hb ⊢
     rw [ej] at hi; omega
    have hl:∀ q ∈ l,before ⟨k,p,0⟩ q=true:=fun q hq=>by
     have:=h1 q hq; rw [dW] at this hr ⊢; simp only at this hr ⊢; omega
    have xF:∀ q ∈ l,fq k p q=false:=fun q hq=>lz (hl q hq)
    have e0:aP k p (o :: l)=0:=by
     have:∀ m:List ae,(∀ q ∈ m,fq k p q=false)→aP k p m=0:=by
      intro m; induction m with
      | nil=>intro _; rfl
      | cons q m ih=>intro hm; rw [aP,hm q sP,if_neg sP]; exact ih fun r hr=>hm r (by simp [hr])
     exact this _ (by intro q hq; rcases List.mem_cons.1 hq with rfl | hq; exact yE; exact xF q hq)
    have hb0:=h e0
    rw [if_neg hi,e0,Int.zero_add,pc hb0 (o :: l) (by intro q hq; rcases List.mem_cons.1 hq with rfl | hq; exact hr; exact hl q hq)]
theorem pJ {k p:Int} : ∀ (l:List ae) (c:Int) (o:ae),o ∈ aM k p c l→o ∈ l ∨ o=⟨k,p,c⟩
 | [],c,o,h=>by
  rw [aM] at h; split at h
  ·simp at h; exact .inr h
  ·cases h
 | q :: l,c,o,h=>by
  have up0:∀ o,o ∈ (if fq k p q=true then aM k p 0 l else q :: aM k p 0 l)→o ∈ q :: l:=by
   intro o ho
   have hz:∀ m:List ae,∀ o ∈ aM k p 0 m,o ∈ m:=by
    intro m; induction m with
    | nil=>intro o ho; simp [aM] at ho
    | cons r m ih =>
     intro o ho
     rw [aM,if_neg sP] at ho
     split at ho
     ·exact List.mem_cons_of_mem _ (ih o ho)
     ·rcases List.mem_cons.1 ho with rfl | ho
      ·simp
      ·exact List.mem_cons_of_mem _ (ih o ho)
   split at ho
   ·exact List.mem_cons_of_mem _ (hz l o ho)
   ·rcases List.mem_cons.1 ho with rfl | ho
    ·simp
    ·exact List.mem_cons_of_mem _ (hz l o ho)
  rw [aM] at h
  split at h
  ·rcases List.mem_cons.1 h with rfl | h
   ·exact .inr rfl
   ·exact .inl (up0 o h)
  ·split at h
   ·rcases pJ l c o h with h | h
    ·exact .inl (List.mem_cons_of_mem _ h)
    ·exact .inr h
   ·rcases List.mem_cons.1 h with rfl | h
    ·exact .inl sP
    ·rcases pJ l c o h with h | h
     ·exact .inl (List.mem_cons_of_mem _ h)
     ·exact .inr h
theorem ft {k p:Int} : ∀ l:List ae,(aM k p 0 l).Sublist l
 | []=>by simp [aM]
 | o :: l=>by
  rw [aM,if_neg sP]
  split
  ·exact (ft l).cons o
  ·exact (ft l).cons_cons o
theorem mc {k p:Int} : ∀ l:List ae,aP k p l=0 ∨ ∃ o ∈ l,fq k p o=true∧o.c=aP k p l
 | []=>.inl rfl
 | o :: l=>by
  rw [aP]; split
  ·rename_i h; exact .inr ⟨o,sP,h,rfl⟩
  ·rcases mc (k:=k) (p:=p) l with h | ⟨q,hq,h⟩
   ·exact .inl h
   ·exact .inr ⟨q,by simp [hq],h⟩
theorem nH {k p:Int} : ∀ l:List ae,(∀ o ∈ l,fq k p o=false)→aP k p l=0
 | [],_=>rfl
 | o :: l,h=>by rw [aP,h o sP,if_neg sP]; exact nH l fun q hq=>h q (by simp [hq])
theorem me {k p:Int} : ∀ (l:List ae) (s:Int),oP l→bJ (fq k p) s l=s+aP k p l
 | [],s,_=>by simp [bJ,aP]
 | o :: l,s,ha=>by
  obtain ⟨h1,h2⟩:=List.pairwise_cons.1 ha
  rw [bJ,aP]
  by_cases hi:fq k p o=true
  ·rw [if_pos hi,if_pos hi,me l _ h2,nH l,Int.add_zero]
   intro q hq
   have:=h1 q hq
   rw [dW] at this
   have hi':=ej.1 hi
   rw [Bool.eq_false_iff]; intro e; rw [ej] at e; omega
  ·rw [if_neg hi,if_neg hi]; exact me l s h2
structure tZ (B:Nat) (w:World) (b o:Nat) (r:df):Prop where
 c0:∀ p:ap B w,p.val.cell? ⟨b,o,none⟩=some (O U r.kind)
 c1:∀ p:ap B w,p.val.cell? ⟨b,o+1,none⟩=some (O U r.stamp)
 c2:∀ p:ap B w,p.val.cell? ⟨b,o+2,none⟩=some (O U r.person)
 c3:∀ p:ap B w,p.val.cell? ⟨b,o+3,none⟩=some (O U r.value)
theorem tZ.up {B B' : Nat} {w W:World} {b o:Nat} {r:df} (h:tZ B w b o r) (hb:Below B w W) (hB:B≤B'):tZ B' W b o r :=
 ⟨fun p=>h.c0 ⟨p.val,hb.trans (p.below.mono hB)⟩,fun p=>h.c1 ⟨p.val,hb.trans (p.below.mono hB)⟩,fun p=>h.c2 ⟨p.val,hb.trans (p.below.mono hB)⟩,fun p=>h.c3 ⟨p.val,hb.trans (p.below.mono hB)⟩⟩
theorem tZ.of {W:World} {g:Nat} {t:TypeId} {r:df} (h:ai W g t r.enc):tZ W.heap.size W g 0 r :=
 ⟨fun p=>(p.cell h.lt).trans (h.cell 0),fun p=>(p.cell h.lt).trans (h.cell 1),fun p=>(p.cell h.lt).trans (h.cell 2),fun p=>(p.cell h.lt).trans (h.cell 3)⟩
abbrev uS (w:World) (B:Nat) (A:Option Addr) (l:List df):Prop:=bm w B 4 A l.length (l.flatMap df.enc)
theorem uS.el {w:World} {B:Nat} {A:Option Addr} {l:List df} (h:uS w B A l) (wT:0 < l.length):∃ b off,A=some ⟨b,off,none⟩∧b < B∧∀ i (hi:i < l.length),tZ B w b (off+i * 4) l[i]:=by
 obtain ⟨b,off,e,hb,hc⟩:=h.at_ wT
 refine ⟨b,off,e,hb,fun i hi=>?_⟩
 have key:∀ j,j < 4→∀ u,(l[i].enc)[j]?=some u→∀ p:ap B w,p.val.cell? ⟨b,off+i * 4+j,none⟩=some u:=fun j hj u hu p=>by
  rw [p.cell hb,Nat.add_assoc]
  exact hc _ u (by rw [fl df.enc 4 df.enc_len l i hi j hj]; exact hu)
 exact ⟨key 0 oM _ rfl,key 1 oM _ rfl,key 2 oM _ rfl,key 3 oM _ rfl⟩
theorem lW {w w' : World} {g:Nat} (hg:w.grownBy w' (some g)) (h:w.heap.size≤g):Below w.heap.size w w' :=
 ⟨hg.os,hg.tape,hg.output,hg.size,fun k hk=>hg.block k hk iE⟩
end Go.Proofs.YtoeoimhemojdeaaGreatDoor
