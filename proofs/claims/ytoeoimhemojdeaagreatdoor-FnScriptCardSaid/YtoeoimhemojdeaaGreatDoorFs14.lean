/- Lemmas. -/
import Derived.Test.YtoeoimhemojdeaaGreatDoorFs13

set_option linter.unusedVariables false
set_option linter.unusedSimpArgs false
set_option maxHeartbeats 8000000
open Go.Value renaming int → O, slice → F, string → wG
open Go.IntKind renaming i64 → U
open Go.Proofs.Tryz renaming prog → wH

namespace Go.Proofs.YtoeoimhemojdeaaGreatDoor
open Go.RowKit
theorem aE.then {w w' : World} {B g:Nat} {vt vo:Value} {y:Oc} (h:aE w B g vt vo y) (hb:Below w.heap.size w w'):aE w' B g vt vo y :=
 ⟨h.lies.below hb h.lies.lt,h.hg,ac h.t hb,ac h.o hb⟩
theorem jf {α:Type} (enc:α→List Value) (k:Nat) (hk:∀ x,(enc x).length=k):∀ (l:List α) (i:Nat),(l.take i).flatMap enc=(l.flatMap enc).take (i * k)
 | [],i=>by simp
 | x :: l,0=>by simp
 | x :: l,i+1=>by
  have e:(i+1) * k=(enc x).length+i * k:=by rw [hk,Nat.succ_mul]; omega
  rw [List.take_succ_cons,List.flatMap_cons,List.flatMap_cons,jf enc k hk l i,e,List.take_length_add_append]
theorem jg {α:Type} (enc:α→List Value) (k:Nat) (hk:∀ x,(enc x).length=k):∀ (l:List α) (i:Nat),(l.drop i).flatMap enc=(l.flatMap enc).drop (i * k)
 | [],i=>by simp
 | x :: l,0=>by simp
 | x :: l,i+1=>by
  have e:(i+1) * k=(enc x).length+i * k:=by rw [hk,Nat.succ_mul]; omega
  rw [List.drop_succ_cons,List.flatMap_cons,jg enc k hk l i,e,List.drop_length_add_append]
theorem qB {α:Type} (enc:α→List Value) (k:Nat) (hk:∀ x,(enc x).length=k) (l:List α) (i:Nat) (r:α):(l.take i++r :: l.drop i).flatMap enc=(l.flatMap enc).take (i * k)++enc r++(l.flatMap enc).drop (i * k):=by
 rw [List.flatMap_append,List.flatMap_cons,jf enc k hk,jg enc k hk,List.append_assoc]
theorem uK {α:Type} (enc:α→List Value) (k:Nat) (hk:∀ x,(enc x).length=k) (l:List α) (i:Nat):(l.take i++l.drop (i+1)).flatMap enc=(l.flatMap enc).take (i * k)++(l.flatMap enc).drop (i * k+k):=by
 rw [List.flatMap_append,jf enc k hk,jg enc k hk,Nat.succ_mul]
theorem tP {i:Nat} {c:Int} : ∀ {l:List ae} (h:i < l.length),(l.flatMap ae.enc).set (i * 3+2) (O U c)=(l.set i ⟨l[i].k,l[i].p,c⟩).flatMap ae.enc:=by
 induction i with
 | zero=>intro l h; match l,h with
  | x :: l,_=>simp [ae.enc]
 | succ i ih=>intro l h; match l,h with
  | x :: l,h =>
   simp only [List.flatMap_cons,List.getElem_cons_succ,List.set_cons_succ]
   rw [← ih (by simpa using h),List.set_append_right _ _ (by rw [ae.enc_len]; omega),ae.enc_len]
   congr 2; omega
theorem tQ {i:Nat} {c:Int} : ∀ {l:List aq} (h:i < l.length),(l.flatMap aq.enc).set (i * 2+1) (O U c)=(l.set i ⟨l[i].k,c⟩).flatMap aq.enc:=by
 induction i with
 | zero=>intro l h; match l,h with
  | x :: l,_=>simp [aq.enc]
 | succ i ih=>intro l h; match l,h with
  | x :: l,h =>
   simp only [List.flatMap_cons,List.getElem_cons_succ,List.set_cons_succ]
   rw [← ih (by simpa using h),List.set_append_right _ _ (by rw [aq.enc_len]; omega),aq.enc_len]
   congr 2; omega
def dL (os:List ae) (k p:Int):Nat:=(os.takeWhile fun o=>before o ⟨k,p,0⟩).length
theorem ib (o:ae) (os:List ae) (k p:Int):dL (o :: os) k p=if before o ⟨k,p,0⟩=true then dL os k p+1 else 0:=by
 unfold dL; rw [List.takeWhile_cons]; by_cases h:before o ⟨k,p,0⟩=true <;> simp [h]
theorem tn (os:List ae) (k p:Int):dL os k p≤os.length:=by
 unfold dL; exact (List.takeWhile_prefix _).length_le
theorem pP:∀ (os:List ae) (k p:Int) (i:Nat) (h:i < os.length),i < dL os k p→before os[i] ⟨k,p,0⟩=true
 | o :: os,k,p,i,h,hi=>by
  rw [ib] at hi
  split at hi
  ·cases i with
   | zero=>assumption
   | succ i=>exact pP os k p i (by simpa using h) oM
  ·omega
theorem pQ:∀ (os:List ae) (k p:Int),oP os→∀ (i:Nat) (h:i < os.length),dL os k p≤i→¬ before os[i] ⟨k,p,0⟩=true
 | o :: os,k,p,ha,i,h,hi=>by
  obtain ⟨h1,h2⟩:=List.pairwise_cons.1 ha
  by_cases hb:before o ⟨k,p,0⟩=true
  ·rw [ib,if_pos hb] at hi
   cases i with
   | zero=>omega
   | succ i=>exact pQ os k p h2 i (by simpa using h) oM
  ·cases i with
   | zero=>exact hb
   | succ i =>
    have:=h1 (os[i]'(by simpa using h)) (List.getElem_mem _)
    simp only [List.getElem_cons_succ]
    rw [dW] at this hb ⊢; simp only at hb ⊢; omega
theorem qC {k p b:Int} : ∀ (os:List ae),(∀ h:dL os k p < os.length,fq k p os[dL os k p]=false)→eW k p b os=os.take (dL os k p)++⟨k,p,b⟩ :: os.drop (dL os k p)
 | [],_=>by simp [eW,dL]
 | o :: os,h=>by
  by_cases hb:before o ⟨k,p,0⟩=true
  ·have e:dL (o :: os) k p=dL os k p+1:=by rw [ib,if_pos hb]
   simp only [e] at h ⊢
   rw [eW,if_pos hb,qC os (fun h'=>by have:=h (by simpa using h'); simpa using this),List.take_succ_cons,List.drop_succ_cons,List.cons_append]
  ·have e:dL (o :: os) k p=0:=by rw [ib,if_neg hb]
   simp only [e] at h ⊢
   have:=h sP
   simp only [List.getElem_cons_zero] at this
   rw [eW,if_neg hb,this,if_neg sP]; rfl
theorem qD {k p b:Int} : ∀ (os:List ae) (h:dL os k p < os.length),fq k p os[dL os k p]=true →
  eW k p b os=if os[dL os k p].c+b=0 then os.take (dL os k p)++os.drop (dL os k p+1) else os.set (dL os k p) ⟨os[dL os k p].k,os[dL os k p].p,os[dL os k p].c+b⟩
 | o :: os,h,hi=>by
  by_cases hb:before o ⟨k,p,0⟩=true
  ·have e:dL (o :: os) k p=dL os k p+1:=by rw [ib,if_pos hb]
   simp only [e,List.getElem_cons_succ] at h hi ⊢
   rw [eW,if_pos hb,qD os (by simpa using h) hi,List.take_succ_cons,List.drop_succ_cons,List.cons_append,List.set_cons_succ]
   split <;> rfl
  ·have e:dL (o :: os) k p=0:=by rw [ib,if_neg hb]
   simp only [e,List.getElem_cons_zero] at h hi ⊢
   rw [eW,if_neg hb,if_pos hi]
   split <;> simp
theorem nv {a b:ae} : ju a b < 0 ↔ before a b=true:=by
 have h:=mO a b
 by_cases h0:0≤ju a b
 ·rw [jD h0] at h
  have:before a b=false:=by cases hb:before a b; rfl; rw [hb] at h; cases h
  rw [this]; constructor
  ·intro h; omega
  ·intro h; cases h
 ·rw [jE h0] at h
  have:before a b=true:=by cases hb:before a b; rw [hb] at h; cases h; rfl
  rw [this]; constructor
  ·intro _; rfl
  ·intro _; omega
theorem pg {a:ae} {k p b:Int} : decide (ju a ⟨k,p,b⟩=0)=fq k p a:=by
 rw [Bool.eq_iff_iff,decide_eq_true_eq,ej]
 unfold ju vH iF
 dsimp only
 constructor
 ·intro h
  repeat' split at h
  all_goals first | omega | (constructor <;> omega)
 ·rintro ⟨rfl,rfl⟩
  simp
theorem aE.ne_to {w:World} {B g:Nat} {vt vo:Value} {y:Oc} (h:aE w B g vt vo y):vo.ownBlock ≠ some g:=fun e=>bB h.o h.lies fg e.symm
theorem aE.ne_t {w:World} {B g:Nat} {vt vo:Value} {y:Oc} (h:aE w B g vt vo y):vt.ownBlock ≠ some g:=fun e=>bB h.t h.lies fz e.symm
theorem aE.setO {w w' : World} {B g:Nat} {vt vo vo' : Value} {y:Oc} {os:List ae} (h:aE w B g vt vo y) (hg:w.grownBy w' vo.ownBlock) (ho:w'.ownsRow B 147 3 vo' os.length (os.flatMap ae.enc)) :
  aE (w'.setCell ⟨g,1,none⟩ vo') B g vt vo' { y with o:=os }:=by
 have hL:ai w' g 40 _:=h.lies.kept hg (fun e=>h.ne_to e.symm)
 have ht:=ff h.t h.o tj hg
 exact ⟨hL.set 1 vo',h.hg,am ht hL fz 1 vo',am ho hL fg 1 vo'⟩
theorem ph (t u:ae) (w:World):Calls wH 118 (#[t.val,u.val]++#[]) w fun e w'=>e=.returned (O U (ju t u))∧Below w.heap.size w w':=ik t u w
set_option maxRecDepth 100000 in
theorem rW (B g:Nat) (vt vo:Value) (y:Oc) (k p b:Int) (w:World) (h:aE w B g vt vo y) (hB:B≤w.heap.size) (ha:oP y.o) (hn:y.o.length≤100000) (zt:∀ h:dL y.o k p < y.o.length,fq k p y.o[dL y.o k p]=false) :
  Calls wH 216 #[.pointer (some ⟨g,0,none⟩),O U k,O U p,O U b] w fun e w'=>∃ vo',e=.returned (.tuple #[])∧aE w' B g vt vo' { y with o:=eW k p b y.o }∧Below B w w':=by
 have b1:=bZ w (.cells #[O U k,O U p,O U b] 147)
 have L1:=ai.new w 147 #[O U k,O U p,O U b]
 have h1:=h.then b1
 have HC:=jZ (qC y.o zt (b:=b))
 have Ay:∀ i (h:i < y.o.length),i < dL y.o k p→ju y.o[i] ⟨k,p,b⟩ < 0:=fun i h hi=>nv.2 (pP y.o k p i h hi)
 have BK:∀ i (h:i < y.o.length),dL y.o k p≤i→¬ ju y.o[i] ⟨k,p,b⟩ < 0:=fun i h hi hc=>pQ y.o k p ha i h hi (nv.1 hc)
 have BL:∀ h:dL y.o k p < y.o.length,false=decide (ju y.o[dL y.o k p] ⟨k,p,b⟩=0):=fun h=>by rw [pg,zt h]
 have zY:=tn y.o k p
 obtain ⟨A0,c0,rfl⟩:=az h.o
 have cB:∀ W,Below (w.alloc (.cells #[O U k,O U p,O U b] 147)).heap.size (w.alloc (.cells #[O U k,O U p,O U b] 147)) W→Calls wH 235 #[F A0 y.o.length c0,.agg #[O U k,O U p,O U b],.func (.func 118) #[] #[]] W fun e w'=>e=.returned (.tuple #[O U (dL y.o k p),.bool false])∧Below W.heap.size W w':=fun W hb =>
  lD (fun o=>ju o ⟨k,p,b⟩) ⟨k,p,b⟩ 118 #[] Tryz.call118 A0 c0 y.o W (fun t p=>ph t _ p.val) (aw (h1.then hb).o) oM (dL y.o k p) zY Ay BK false BL (fun _=>rfl)
 generalize dL y.o k p=q at cB HC zY
 clear Ay BK BL zt ha
 go_enter Tryz.func216,Tryz.ntmps216
 go_wp2
 generalize w.alloc (.cells #[O U k,O U p,O U b] 147)=W at b1 L1 h1 cB ⊢
 have zl:∀ r:ap W.heap.size W,r.val.cell? ⟨g,1,none⟩=some (F A0 y.o.length c0):=fun r=>(r.cell h1.lies.lt).trans (h1.lies.cell 1)
 have As:∀ r:ap W.heap.size W,r.val.cell? ⟨w.heap.size,0,none⟩=some (O U k):=fun r=>(r.cell L1.lt).trans (L1.cell 0)
 have Ae:∀ r:ap W.heap.size W,r.val.cell? ⟨w.heap.size,1,none⟩=some (O U p):=fun r=>(r.cell L1.lt).trans (L1.cell 1)
 have Af:∀ r:ap W.heap.size W,r.val.cell? ⟨w.heap.size,2,none⟩=some (O U b):=fun r=>(r.cell L1.lt).trans (L1.cell 2)
 have cB':=fun r:ap W.heap.size W=>cB r.val r.below
 refine au kZ kZ ?_
 repeat (any_goals (first | go_big_quiet_step ((go_at_call 235; refine aC nR (cB' _))) | (refine wpQuiet_step (fun K hK=>?_); go_simp; split <;> (refine hK _ ?_; clear hK K))))
 all_goals (refine wpQuiet_nil ?_; rintro _ ⟨q1,rfl⟩)
 all_goals go_wp2
 have h2:=h1.then q1.below
 have b2:Below w.heap.size w q1.val:=b1.trans (q1.below.mono b1.size)
 clear zl cB cB' h1 b1
 have c1:q1.val.cell? ⟨g,1,none⟩=some (F A0 y.o.length c0):=h2.lies.cell 1
 have e0:=As q1
 have e1:=Ae q1
 have e2:=Af q1
 clear As Ae Af
 have bS:=(Below.refl q1.val.heap.size q1.val).alloc nR (.cells #[O U k,O U p,O U b] 147)
 have hS:aE (q1.val.alloc (.cells #[O U k,O U p,O U b] 147)).drew B g vt (F A0 y.o.length c0) y:=(h2.then bS).then jB.drew
 have Gk:B≤q1.val.heap.size:=jT hB b2.size
 have cI:=oV B (F A0 y.o.length c0) y.o.length (y.o.flatMap ae.enc) (q1.val.alloc (.cells #[O U k,O U p,O U b] 147)).drew hS.o oM q zY ⟨k,p,b⟩ q1.val.heap.size 1 (ai.new q1.val 147 #[O U k,O U p,O U b]).drew (fun e=>by have:=(h2.o.lt _ e).2; omega) (jT Gk bS.size) fu
 rw [show (y.o.flatMap ae.enc).take (q * 3)++ae.enc ⟨k,p,b⟩++(y.o.flatMap ae.enc).drop (q * 3)=(eW k p b y.o).flatMap ae.enc by rw [HC.out,qB ae.enc 3 ae.enc_len]] at cI
 have wR:y.o.length+1=(eW k p b y.o).length:=by rw [HC.out]; simp; omega
 rw [wR] at cI
 have c1':=hS.lies.cell 1
 simp only [gz0,gz1] at c1'
 have HS:=jZ hS; clear hS
 have Jj:=jZ wR; clear wR
 go_region_law (first | (go_simp; go_at_call 236; refine cI.mono ?_; rintro e w9 ⟨v',rfl,HO,ym⟩; obtain ⟨A9,c9,rfl⟩:=az HO; have k1:=(HS.out.lies.kept ym (fun e=>HS.out.ne_to e.symm)).cell 1; have k2:=(HS.out.lies.kept ym (fun e=>HS.out.ne_to e.symm)).frozen 1; simp only [gz0,gz1] at k1))
 all_goals
  go_wp2
  refine bodyPost_ret (results_none rfl _ _ _) rfl ?_
  have hO:=HS.out.setO ym HO
  refine ⟨_,rfl,hO, ?_⟩
  have bq:Below B w (q1.val.alloc (.cells #[O U k,O U p,O U b] 147)).drew:=(b2.mono hB).trans ((bS.drew).mono Gk)
  have b9:Below B w w9:=bq.grown ym (jT Gk bS.size) (fun j hj=>(HS.out.o.lt _ hj).1)
  exact b9.grown (ab (World.grownBy.refl w9 (some g))) (jT hB b9.size) (by rintro _ ⟨⟩; exact HS.out.hg)
set_option maxRecDepth 100000 in
theorem rX (B g:Nat) (vt vo:Value) (y:Oc) (k p b:Int) (w:World) (h:aE w B g vt vo y) (hB:B≤w.heap.size) (ha:oP y.o) (hn:y.o.length≤100000) (wQ:dL y.o k p < y.o.length) (hold:fq k p y.o[dL y.o k p]=true)
  (hc : -1000000000≤y.o[dL y.o k p].c∧y.o[dL y.o k p].c≤1000000000) (hb : -1000000000≤b∧b≤1000000000) :
  Calls wH 216 #[.pointer (some ⟨g,0,none⟩),O U k,O U p,O U b] w fun e w'=>∃ vo',e=.returned (.tuple #[])∧aE w' B g vt vo' { y with o:=eW k p b y.o }∧Below B w w':=by
 have b1:=bZ w (.cells #[O U k,O U p,O U b] 147)
 have L1:=ai.new w 147 #[O U k,O U p,O U b]
 have h1:=h.then b1
 have HC:=jZ (qD y.o wQ hold (b:=b))
 have Ay:∀ i (h:i < y.o.length),i < dL y.o k p→ju y.o[i] ⟨k,p,b⟩ < 0:=fun i h hi=>nv.2 (pP y.o k p i h hi)
 have BK:∀ i (h:i < y.o.length),dL y.o k p≤i→¬ ju y.o[i] ⟨k,p,b⟩ < 0:=fun i h hi hc=>pQ y.o k p ha i h hi (nv.1 hc)
 have BL:∀ h:dL y.o k p < y.o.length,true=decide (ju y.o[dL y.o k p] ⟨k,p,b⟩=0):=fun h=>by rw [pg,hold]
 have zY:=tn y.o k p
 obtain ⟨go,cap,rest,rfl,Mn,Mo,wX⟩:=ch h.o oM
 have cB:∀ W,Below (w.alloc (.cells #[O U k,O U p,O U b] 147)).heap.size (w.alloc (.cells #[O U k,O U p,O U b] 147)) W→Calls wH 235 #[F (some ⟨go,0,none⟩) y.o.length cap,.agg #[O U k,O U p,O U b],.func (.func 118) #[] #[]] W fun e w'=>e=.returned (.tuple #[O U (dL y.o k p),.bool true])∧Below W.heap.size W w':=fun W hb =>
  lD (fun o=>ju o ⟨k,p,b⟩) ⟨k,p,b⟩ 118 #[] Tryz.call118 _ cap y.o W (fun t p=>ph t _ p.val) (aw (h1.then hb).o) oM (dL y.o k p) zY Ay BK true BL (fun e=>by omega)
 have wT : ¬ go=g:=fun e=>h.ne_to (by rw [← e]; rfl)
 have hne' : ¬ g=go:=fun e=>wT e.symm
 obtain ⟨q,hq⟩ : ∃ q,q=dL y.o k p:=⟨_,rfl⟩
 have hlt' : q < y.o.length:=by rw [hq]; exact wQ
 have KR:y.o[dL y.o k p]=y.o[q]:=by congr 1; exact hq.symm
 rw [KR] at hc HC
 rw [← hq] at cB HC zY
 obtain ⟨r,xy⟩ : ∃ r,r=y.o[q]:=⟨_,rfl⟩
 rw [← xy] at hc HC
 clear KR hold BL
 have Gl:(y.o.flatMap ae.enc)[q * 3+2]?=some (O U r.c):=by rw [fl ae.enc 3 ae.enc_len y.o q hlt' 2 oM,← xy]; rfl
 have Gm:=jZ (tP (c:=r.c+b) hlt')
 rw [← xy] at Gm
 have hq3:q * 3+2 < y.o.length * 3:=oM
 clear Ay BK ha xy Mo rest hq wQ
 obtain ⟨zl,FE⟩:=hc
 obtain ⟨wN,wM⟩:=hb
 go_enter Tryz.func216,Tryz.ntmps216
 go_wp2
 generalize w.alloc (.cells #[O U k,O U p,O U b] 147)=W at b1 L1 h1 cB ⊢
 have zl:∀ r:ap W.heap.size W,r.val.cell? ⟨g,1,none⟩=some (F (some ⟨go,0,none⟩) y.o.length cap):=fun r=>(r.cell h1.lies.lt).trans (h1.lies.cell 1)
 have As:∀ r:ap W.heap.size W,r.val.cell? ⟨w.heap.size,0,none⟩=some (O U k):=fun r=>(r.cell L1.lt).trans (L1.cell 0)
 have Ae:∀ r:ap W.heap.size W,r.val.cell? ⟨w.heap.size,1,none⟩=some (O U p):=fun r=>(r.cell L1.lt).trans (L1.cell 1)
 have Af:∀ r:ap W.heap.size W,r.val.cell? ⟨w.heap.size,2,none⟩=some (O U b):=fun r=>(r.cell L1.lt).trans (L1.cell 2)
 have cB':=fun r:ap W.heap.size W=>cB r.val r.below
 refine au kZ kZ ?_
 repeat (any_goals (first | go_big_quiet_step ((go_at_call 235; refine aC nR (cB' _))) | (refine wpQuiet_step (fun K hK=>?_); go_simp; split <;> (refine hK _ ?_; clear hK K))))
 all_goals (refine wpQuiet_nil ?_; rintro _ ⟨q1,rfl⟩)
 have h2:=h1.then q1.below
 have b2:Below w.heap.size w q1.val:=b1.trans (q1.below.mono b1.size)
 have Gk:B≤q1.val.heap.size:=jT hB b2.size
 clear zl cB cB' h1 b1 As Ae Af
 have c1:q1.val.cell? ⟨g,1,none⟩=some (F (some ⟨go,0,none⟩) y.o.length cap):=h2.lies.cell 1
 have c1f:q1.val.frozen? ⟨g,1,none⟩=false:=h2.lies.frozen 1
 have c2:q1.val.cell? ⟨go,q * 3+2,none⟩=some (O U r.c):=(h2.o.cellAt _ hq3).trans Gl
 have c2f:q1.val.frozen? ⟨go,q * 3+2,none⟩=false:=h2.o.frozenAt _
 have xp:=mS h2.o (q * 3+2) (O U (r.c+b)) hq3
 rw [Gm.out] at xp
 have yY:=h2.lies.other (p:=⟨go,q * 3+2,none⟩) hne' (O U (r.c+b))
 have xR:=ff (w':=q1.val.setCell ⟨go,q * 3+2,none⟩ (O U (r.c+b))) h2.t h2.o tj (ab (World.grownBy.refl q1.val (some go)))
 have b3:Below B w (q1.val.setCell ⟨go,q * 3+2,none⟩ (O U (r.c+b))):=(b2.mono hB).grown (ab (World.grownBy.refl q1.val (some go))) Gk (by rintro _ ⟨⟩; exact Mn)
 have s3:q1.val.heap.size≤(q1.val.setCell ⟨go,q * 3+2,none⟩ (O U (r.c+b))).heap.size:=by simp [World.setCell]
 by_cases hz:r.c+b=0
 ·have HZ:=jZ hz
  have hz' : (r.c+b == 0)=true:=by simp [hz]
  clear hz
  rw [if_pos HZ.out] at HC
  have xe:aE (q1.val.setCell ⟨go,q * 3+2,none⟩ (O U (r.c+b))) B g vt (F (some ⟨go,0,none⟩) y.o.length cap) { y with o:=y.o.set q ⟨r.k,r.p,r.c+b⟩ }:=⟨yY,h.hg,xR,by simpa using xp⟩
  have cD:=oW B (F (some ⟨go,0,none⟩) y.o.length cap) y.o.length ((y.o.set q ⟨r.k,r.p,r.c+b⟩).flatMap ae.enc) (q1.val.setCell ⟨go,q * 3+2,none⟩ (O U (r.c+b))) xp oM q hlt' fu
  rw [← uK ae.enc 3 ae.enc_len,List.take_set_of_le nR,List.drop_set_of_lt (Nat.lt_succ_self _),← HC.out] at cD
  have wR:y.o.length - 1=(eW k p b y.o).length:=by rw [HC.out]; simp; omega
  rw [wR] at cD
  have Jj:=jZ wR; clear wR
  have DP:=jZ xe; clear xe
  go_wp2_with fail
  refine cD.mono ?_
  rintro e w9 ⟨v',rfl,HO,ym,_⟩
  obtain ⟨A9,c9,rfl⟩:=az HO
  have wS:=DP.out.lies.kept ym (fun e=>DP.out.ne_to e.symm)
  have k1:=wS.cell 1
  have k2:=wS.frozen 1
  simp only [gz0,gz1] at k1
  have hO:=DP.out.setO ym HO
  have b9:Below B w w9:=b3.grown ym (jT hB b3.size) (fun j hj=>(DP.out.o.lt _ hj).1)
  have b10:=b9.grown (ab (g:=g) (i:=1) (u:=F A9 (eW k p b y.o).length c9) (World.grownBy.refl w9 (some g))) (jT hB b9.size) (by rintro _ ⟨⟩; exact h.hg)
  go_wp2
  go_end0
  exact ⟨_,rfl,hO,b10⟩
 ·have HZ:=jZ hz
  have hz' : (r.c+b == 0)=false:=by simp [hz]
  clear hz
  rw [if_neg HZ.out] at HC
  go_wp2
  go_end0
  exact ⟨_,rfl,⟨yY,h.hg,xR,by rw [HC.out]; simpa using xp⟩,b3⟩
theorem gA (B g:Nat) (vt vo:Value) (y:Oc) (k p b:Int) (w:World) (h:aE w B g vt vo y) (hB:B≤w.heap.size) (ha:oP y.o) (hn:y.o.length≤100000) (hc:∀ o ∈ y.o, -1000000000≤o.c∧o.c≤1000000000) (hb : -1000000000≤b∧b≤1000000000) :
  Calls wH 216 #[.pointer (some ⟨g,0,none⟩),O U k,O U p,O U b] w fun e w'=>∃ vo',e=.returned (.tuple #[])∧aE w' B g vt vo' { y with o:=eW k p b y.o }∧Below B w w':=by
 by_cases h0:∃ h:dL y.o k p < y.o.length,fq k p y.o[dL y.o k p]=true
 ·obtain ⟨wQ,hi⟩:=h0
  exact rX B g vt vo y k p b w h hB ha hn wQ hi (hc _ (List.getElem_mem _)) hb
 ·exact rW B g vt vo y k p b w h hB ha hn (fun h'=>by
   cases hi:fq k p y.o[dL y.o k p]
   ·rfl
   ·exact absurd ⟨h',hi⟩ h0)
def Oc.fin (r:Oc):Option Oc:=if r.good then some r else none
def bj (y:Oc) (s:df):Option Oc :=
 if s.kind=1 then Oc.fin { y with t:=aj y.t s.stamp s.value,gt:=y.gt+s.value }
 else if ¬ 0≤ay y.t s.stamp then none
 else if s.kind=2 then Oc.fin { y with t:=aj y.t s.stamp (-s.value),o:=eW s.stamp s.person s.value y.o }
 else if aP s.stamp s.person y.o=0∧0 < s.person then none
 else if s.kind=3 then Oc.fin { y with t:=aj y.t s.stamp s.value,o:=eW s.stamp s.person (-s.value) y.o }
 else if s.kind=4 then (if s.person=0 then Oc.fin { y with t:=aj y.t s.stamp (-s.value),sd:=y.sd+s.value } else Oc.fin { y with o:=eW s.stamp s.person (-s.value) y.o,sd:=y.sd+s.value })
 else if s.kind=5 then Oc.fin { y with o:=eW s.stamp s.person (-aP s.stamp s.person y.o) y.o,ms:=y.ms+aP s.stamp s.person y.o }
 else Oc.fin { y with o:=eW s.stamp s.value (aP s.stamp s.person y.o) (eW s.stamp s.person (-aP s.stamp s.person y.o) y.o) }
def Oc.zero:Oc:=⟨[],[],0,0,0⟩
def cU (R:Option Oc):Oc:=R.getD Oc.zero
def aF (w:World) (R:Option Oc) (e:Ending) (w' : World):Prop :=
 ∃ TA tc OA oc,e=.returned (.tuple #[aO.val ((cU R).at TA tc OA oc),.bool R.isSome])∧w'.ownsRow w.heap.size 104 2 (F TA (cU R).t.length tc) (cU R).t.length ((cU R).t.flatMap aq.enc) ∧
  w'.ownsRow w.heap.size 147 3 (F OA (cU R).o.length oc) (cU R).o.length ((cU R).o.flatMap ae.enc)∧Below w.heap.size w w'
theorem aF.no {w w' : World} {e:Ending} (he:e=.returned (.tuple #[.agg #[F none 0 0,F none 0 0,O U 0,O U 0,O U 0],.bool false])) (hb:Below w.heap.size w w'):aF w none e w' :=
 ⟨none,0,none,0,he,World.ownsRow_nil _ _ _ _,World.ownsRow_nil _ _ _ _,hb⟩
theorem aF.yes {w w' : World} {e:Ending} {r:Oc} {A1 A2:Option Addr} {a1 a2:Nat} (he:e=.returned (.tuple #[.agg #[F A1 r.t.length a1,F A2 r.o.length a2,O U r.gt,O U r.sd,O U r.ms],.bool true]))
  (h8:w'.ownsRow w.heap.size 104 2 (F A1 r.t.length a1) r.t.length (r.t.flatMap aq.enc)) (h9:w'.ownsRow w.heap.size 147 3 (F A2 r.o.length a2) r.o.length (r.o.flatMap ae.enc)) (hb:Below w.heap.size w w'):aF w (some r) e w' :=
 ⟨A1,a1,A2,a2,he,h8,h9,hb⟩
theorem aE.at_ {w:World} {B g:Nat} {A1 A2:Option Addr} {c1 c2:Nat} {y:Oc} (h:aE w B g (F A1 y.t.length c1) (F A2 y.o.length c2) y):cw w w.heap.size g (y.at A1 c1 A2 c2) :=
 cw.of (x:=y.at A1 c1 A2 c2) h.lies ⟨aw h.t,aw h.o⟩
theorem aE.form {w:World} {B g:Nat} {vt vo:Value} {y:Oc} (h:aE w B g vt vo y):∃ A1 c1 A2 c2,vt=F A1 y.t.length c1∧vo=F A2 y.o.length c2:=by
 obtain ⟨A1,c1,h1⟩:=az h.t
 obtain ⟨A2,c2,h2⟩:=az h.o
 exact ⟨A1,c1,A2,c2,h1,h2⟩
theorem uL (t:ae) (gs:Nat) (kd st pe va:Int) (w:World) (hL:ai w gs 112 [O U kd,O U st,O U pe,O U va]) :
  Calls wH 215 (#[t.val]++#[.pointer (some ⟨gs,0,none⟩)]) w fun e w'=>e=.returned (.bool (fq st pe t))∧Below w.heap.size w w':=by
 show Calls wH 215 #[t.val,.pointer (some ⟨gs,0,none⟩)] w _
 have b1:=bZ w (.cells #[O U t.k,O U t.p,O U t.c] 147)
 have c1:∀ r:ap w.heap.size w,r.val.cell? ⟨gs,1,none⟩=some (O U st):=fun r=>(r.cell hL.lt).trans (hL.cell 1)
 have c2:∀ r:ap w.heap.size w,r.val.cell? ⟨gs,2,none⟩=some (O U pe):=fun r=>(r.cell hL.lt).trans (hL.cell 2)
 have HI:Hid (fq st pe t=(decide (t.k=st) && decide (t.p=pe))):=rfl
 have Cx:=ai.new w 147 #[O U t.k,O U t.p,O U t.c]
 obtain ⟨q,hq⟩ : ∃ q:ap w.heap.size w,w.alloc (.cells #[O U t.k,O U t.p,O U t.c] 147)=q.val:=⟨⟨_,b1⟩,rfl⟩
 rw [hq] at Cx
 obtain ⟨d0,d1⟩:=cells2 Cx
 have yQ:=q.below.size
 by_cases h1:t.k=st
 ·have v1:(t.k == st)=true:=by simp [h1]
  have H1:=jZ h1; clear h1
  by_cases h2:t.p=pe
  ·have v2:(t.p == pe)=true:=by simp [h2]
   have H2:=jZ h2; clear h2
   go_enter Tryz.func215,Tryz.ntmps215
   go_wp2_with (rw [hq])
   all_goals go_ret
   all_goals exact ⟨by rw [HI.out,jD H1.out,jD H2.out]; rfl,q.below⟩
  ·have v2:(t.p == pe)=false:=by simp [h2]
   have H2:=jZ h2; clear h2
   go_enter Tryz.func215,Tryz.ntmps215
   go_wp2_with (rw [hq])
   all_goals go_ret
   all_goals exact ⟨by rw [HI.out,jD H1.out,jE H2.out]; rfl,q.below⟩
 ·have v1:(t.k == st)=false:=by simp [h1]
  have H1:=jZ h1; clear h1
  go_enter Tryz.func215,Tryz.ntmps215
  go_wp2_with (rw [hq])
  all_goals go_ret
  all_goals exact ⟨by rw [HI.out,jE H1.out]; rfl,q.below⟩
theorem rY (t:aq) (kd:Int) (w:World):Calls wH 213 (#[t.val,O U kd]++#[]) w fun e w'=>e=.returned (O U (iF t.k kd))∧Below w.heap.size w w':=by
 show Calls wH 213 #[t.val,O U kd] w _
 have b1:=bZ w (.cells #[O U t.k,O U t.c] 104)
 have hc:=fun W=>kb t.k kd W
 go_enter Tryz.func213,Tryz.ntmps213
 go_wp2_with fail
 refine (hc _).mono ?_
 rintro e w' ⟨rfl,rfl⟩
 go_wp2
 go_ret
 exact ⟨rfl,b1⟩
theorem io {ts:List aq} {kd n:Int} {i:Nat} (h:ay ts kd=i) (hi:i < ts.length):aj ts kd n=ts.set i ⟨ts[i].k,ts[i].c+n⟩:=by
 unfold aj
 rw [h,if_pos oM,Int.toNat_natCast,List.getD_eq_getElem?_getD,List.getElem?_eq_getElem hi]; rfl
theorem aE.setT {w:World} {B g gT cT i:Nat} {vo:Value} {y:Oc} (h:aE w B g (F (some ⟨gT,0,none⟩) y.t.length cT) vo y) (hi:i < y.t.length) (c:Int) :
  aE (w.setCell ⟨gT,i * 2+1,none⟩ (O U c)) B g (F (some ⟨gT,0,none⟩) y.t.length cT) vo { y with t:=y.t.set i ⟨y.t[i].k,c⟩ }∧Below B w (w.setCell ⟨gT,i * 2+1,none⟩ (O U c))∧w.cell? ⟨gT,i * 2+1,none⟩=some (O U y.t[i].c)∧w.frozen? ⟨gT,i * 2+1,none⟩=false:=by
 have hj:i * 2+1 < y.t.length * 2:=oM
 have hB:B≤gT:=(h.t.lt gT rfl).1
 have wQ:gT < w.heap.size:=(h.t.lt gT rfl).2
 have hg:gT ≠ g:=fun e=>h.ne_t (by rw [← e]; rfl)
 have ht:=mS h.t (i * 2+1) (O U c) hj
 rw [tQ hi] at ht
 have wY:w.grownBy (w.setCell ⟨gT,i * 2+1,none⟩ (O U c)) (some gT):=ab (World.grownBy.refl w (some gT))
 refine ⟨⟨h.lies.other (p:=⟨gT,i * 2+1,none⟩) (fun e=>hg e.symm) _,h.hg,by simpa using ht,ff (v':=F (some ⟨gT,0,none⟩) y.t.length cT) h.o h.t (Ne.symm tj) wY⟩, ?_, ?_,h.t.frozenAt _⟩
 ·exact (Below.refl B w).grown wY (Nat.le_of_lt (Nat.lt_of_le_of_lt hB wQ)) (by rintro _ ⟨⟩; exact hB)
 ·rw [h.t.cellAt _ hj,fl aq.enc 2 aq.enc_len y.t i hi 1 oM]; rfl
theorem aE.setT' {w:World} {B g gT cT i:Nat} {vo:Value} {y:Oc} (h:aE w B g (F (some ⟨gT,0,none⟩) y.t.length cT) vo y) (hi:i < y.t.length) (tr:aq) (yj:y.t[i]=tr) (c:Int) :
  aE (w.setCell ⟨gT,i * 2+1,none⟩ (O U c)) B g (F (some ⟨gT,0,none⟩) y.t.length cT) vo { y with t:=y.t.set i ⟨tr.k,c⟩ }∧Below B w (w.setCell ⟨gT,i * 2+1,none⟩ (O U c))∧w.cell? ⟨gT,i * 2+1,none⟩=some (O U tr.c)∧w.frozen? ⟨gT,i * 2+1,none⟩=false:=by
 subst yj; exact h.setT hi c
theorem aE.setN {w:World} {B g:Nat} {vt vo:Value} {y:Oc} (h:aE w B g vt vo y) (c:Int) :
  aE (w.setCell ⟨g,2,none⟩ (O U c)) B g vt vo { y with gt:=c }∧aE (w.setCell ⟨g,3,none⟩ (O U c)) B g vt vo { y with sd:=c }∧aE (w.setCell ⟨g,4,none⟩ (O U c)) B g vt vo { y with ms:=c } :=
 ⟨⟨h.lies.set 2 _,h.hg,am h.t h.lies fz 2 _,am h.o h.lies fg 2 _⟩,⟨h.lies.set 3 _,h.hg,am h.t h.lies fz 3 _,am h.o h.lies fg 3 _⟩,⟨h.lies.set 4 _,h.hg,am h.t h.lies fz 4 _,am h.o h.lies fg 4 _⟩⟩
theorem aE.belowN {w:World} {B g:Nat} {vt vo:Value} {y:Oc} (h:aE w B g vt vo y) (i:Nat) (u:Value):Below B w (w.setCell ⟨g,i,none⟩ u) :=
 (Below.refl B w).grown (ab (World.grownBy.refl w (some g))) (Nat.le_of_lt (Nat.lt_of_le_of_lt h.hg h.lies.lt)) (by rintro _ ⟨⟩; exact h.hg)
theorem bK.asc {x:aO} (h:bK x):oP x.o:=(ly x.t x.o none h.os).1
theorem bK.at_ {x:aO} (h:bK x) (st pe:Int):aW (fq st pe) x.o=aP st pe x.o:=by
 have:=me (k:=st) (p:=pe) x.o 0 h.asc
 rwa [Int.zero_add] at this
theorem bK.at_bd {x:aO} (h:bK x) (st pe:Int):0≤aP st pe x.o∧aP st pe x.o≤9999:=by
 rcases mc (k:=st) (p:=pe) x.o with h0 | ⟨o,ho,_,hc⟩
 ·omega
 ·obtain ⟨j,hj,rfl⟩:=List.getElem_of_mem ho
  have:=(ae.bounds (h.oall j hj)).2.2
  omega
theorem bK.oc {x:aO} (h:bK x):∀ o ∈ x.o, -1000000000≤o.c∧o.c≤1000000000:=fun o ho=>by
 obtain ⟨j,hj,rfl⟩:=List.getElem_of_mem ho
 have:=(ae.bounds (h.oall j hj)).2.2
 omega
theorem dO {B g gs:Nat} {x:aO} {kd st pe va:Int} {w:World} (hL:ai w gs 112 [O U kd,O U st,O U pe,O U va]) (hA:cw w w.heap.size g x) (G:bK x) (_hB:B≤w.heap.size) :
  Calls wH 120 #[.pointer (some ⟨g,0,none⟩),.func (.func 215) #[] #[.pointer (some ⟨gs,0,none⟩)]] w fun e w'=>e=.returned (O U (aP st pe x.o))∧Below w.heap.size w w':=by
 have:=fC (fq st pe) 215 #[.pointer (some ⟨gs,0,none⟩)] Tryz.call215 x g w (fun o p=>uL o gs kd st pe va p.val (hL.below p.below hL.lt)) hA G.ol G.oall
 rwa [G.at_] at this
theorem aE.setTs {w w' : World} {B g:Nat} {vt vt' vo:Value} {y:Oc} {ts:List aq} (h:aE w B g vt vo y) (hg:w.grownBy w' vt.ownBlock) (ht:w'.ownsRow B 104 2 vt' ts.length (ts.flatMap aq.enc)) :
  aE (w'.setCell ⟨g,0,none⟩ vt') B g vt' vo { y with t:=ts }:=by
 have hL:ai w' g 40 _:=h.lies.kept hg (fun e=>h.ne_t e.symm)
 have ho:=ff h.o h.t (Ne.symm tj) hg
 exact ⟨hL.set 0 vt',h.hg,am ht hL fz 0 vt',am ho hL fg 0 vt'⟩
theorem tp {a b:Int} : iF a b < 0 ↔ a < b:=by
 unfold iF; split
 ·simp [*]
 ·split <;> simp [*]
theorem tT {a b:Int} : iF a b=0 ↔ a=b:=by
 unfold iF; split
 ·simp; omega
 ·split
  ·simp; omega
  ·simp; omega
theorem bK.ascT {x:aO} (h:bK x):wC x.t:=(kR x.t 0 0 h.ts).1
theorem rZ (ts:List aq) (kd:Int):∃ h:dI ts kd < (ei ts kd).length,(ei ts kd)[dI ts kd]=⟨kd,0⟩:=by
 have hl:(ts.take (dI ts kd)).length=dI ts kd:=by rw [List.length_take,Nat.min_eq_left (ky ts kd)]
 have h:(ei ts kd)[dI ts kd]?=some ⟨kd,0⟩:=by
  unfold ei; rw [List.getElem?_append_right oM,hl,Nat.sub_self]; rfl
 exact List.getElem?_eq_some_iff.1 h
theorem qE (ts:List aq) (kd:Int):(ei ts kd).length=ts.length+1:=by
 have:=ky ts kd
 unfold ei; simp; omega
section
variable {P:Program} {ops:Array Oper} {Q:Exit→Act→World→Prop}
def gM (P:Program) (ops:Array Oper) (Q:Exit→Act→World→Prop) (C:World→Prop) (T:World→World→Prop) (fr:(Nat→Value)→Act):Nat→List Oper→List (Value→World→Prop)→Prop
 | _,[],_=>False
 | k,o :: l,Rs=>(l = []∧∀ vs w,C w→(∀ (j:Nat) (R:Value→World→Prop),Rs[j]?=some R→R (vs j) w)→∀ K:Act→World→Prop,(∀ a' w',Q .normal a' w'→K a' w') →
   if Region.wanted o (yielded ops (fr vs).tmps)=true then o.wp P (fr vs) w K Q else K ((fr vs).put o.dst undef) w) ∨
  (∃ R:Value→World→Prop,(∀ v w w',R v w→T w w'→R v w') ∧
  (∀ vs w,C w→(∀ (j:Nat) (R' : Value→World→Prop),bU .any ops ops.size k j=true→Rs[j]?=some R'→R' (vs j) w)→∀ K:Act→World→Prop,(∀ a' v w',a'=(fr vs).put o.dst v→R v w'→C w'→T w w'→K a' w') →
   if Region.wanted o (yielded ops (fr vs).tmps)=true then o.wp P (fr vs) w K Q else K ((fr vs).put o.dst undef) w) ∧
  gM P ops Q C T fr (k+1) l (Rs++[R]))
theorem lE {C:World→Prop} {T:World→World→Prop} {fr:(Nat→Value)→Act} : ∀ (l:List Oper) (k:Nat) (Rs:List (Value→World→Prop)),(∀ i,l[i]?=ops[k+i]?)→Rs.length=k →
  (∀ (j:Nat) (R:Value→World→Prop),Rs[j]?=some R→∀ v w w',R v w→T w w'→R v w') →
  (∀ (j:Nat) (o:Oper) (R:Value→World→Prop),j < k→ops[j]?=some o→Rs[j]?=some R→∀ vs w,C w→(∀ (j' : Nat) (R' : Value→World→Prop),bU .any ops ops.size j j'=true→j' < j→Rs[j']?=some R'→R' (vs j') w)→∀ K:Act→World→Prop,(∀ a' v w',a'=(fr vs).put o.dst v→R v w'→C w'→T w w'→K a' w') →
   if Region.wanted o (yielded ops (fr vs).tmps)=true then o.wp P (fr vs) w K Q else K ((fr vs).put o.dst undef) w) →
  gM P ops Q C T fr k l Rs →
  ∃ Rs' : List (Value→World→Prop),Rs'.length+1=ops.size∧(∀ (j:Nat) (R:Value→World→Prop),Rs'[j]?=some R→∀ v w w',R v w→T w w'→R v w') ∧
  (∀ (j:Nat) (o:Oper) (R:Value→World→Prop),ops[j]?=some o→Rs'[j]?=some R→∀ vs w,C w→(∀ (j' : Nat) (R' : Value→World→Prop),bU .any ops ops.size j j'=true→j' < j→Rs'[j']?=some R'→R' (vs j') w)→∀ K:Act→World→Prop,(∀ a' v w',a'=(fr vs).put o.dst v→R v w'→C w'→T w w'→K a' w') →
   if Region.wanted o (yielded ops (fr vs).tmps)=true then o.wp P (fr vs) w K Q else K ((fr vs).put o.dst undef) w) ∧
  (∀ o,ops[Rs'.length]?=some o→∀ vs w,C w→(∀ (j:Nat) (R:Value→World→Prop),Rs'[j]?=some R→R (vs j) w)→∀ K:Act→World→Prop,(∀ a' w',Q .normal a' w'→K a' w') →
   if Region.wanted o (yielded ops (fr vs).tmps)=true then o.wp P (fr vs) w K Q else K ((fr vs).put o.dst undef) w)
 | [],k,Rs,_,_,_,_,h=>h.elim
 | o :: l,k,Rs,hl,wR,xl,AT,h=>by
  have ho:ops[k]?=some o:=by simpa using (hl 0).symm
  rcases h with ⟨rfl,hlast⟩ | ⟨R,FR,FT,hrest⟩
  ·have h1:ops[k+1]?=none:=by have:=hl 1; simpa using this.symm
   have hk:k < ops.size:=(Array.getElem?_eq_some_iff.1 ho).1
   have Av : ¬ k+1 < ops.size:=fun hh=>by rw [Array.getElem?_eq_getElem hh] at h1; cases h1
   refine ⟨Rs,oM,xl,fun j o R ho hR=>AT j o R ?_ ho hR,fun o' ho'=>?_⟩
   ·rw [← wR]; exact (List.getElem?_eq_some_iff.1 hR).1
   ·rw [wR,ho] at ho'; cases ho'; exact hlast
  ·have hold:∀ j,j < k→(Rs++[R])[j]?=Rs[j]?:=fun j hj=>List.getElem?_append_left oM
   have zt:(Rs++[R])[k]?=some R:=by rw [List.getElem?_append_right oM,wR]; simp
   exact lE l (k+1) (Rs++[R]) (fun i=>by have:=hl (i+1); simpa [Nat.add_assoc,Nat.add_comm 1 i] using this) (by simp [wR])
    (fun j R' xE=>by
     rcases Nat.lt_trichotomy j k with hj | hj | hj
     ·rw [hold j hj] at xE; exact xl j R' xE
     ·subst hj; rw [zt] at xE; cases xE; exact FR
     ·rw [List.getElem?_eq_none (by simp [wR]; omega)] at xE; cases xE)
    (fun j o' R' hj ho' xE vs w hC hB K hK=>by
     rcases Nat.lt_or_ge j k with CC | CC
     ·rw [hold j CC] at xE
      exact AT j o' R' CC ho' xE vs w hC (fun j' R'' ha wQ h''=>hB j' R'' ha wQ (by rw [hold j' oM]; exact h'')) K hK
     ·obtain rfl:j=k:=oM
      rw [ho] at ho'; cases ho'
      rw [zt] at xE; cases xE
      refine FT vs w hC (fun j' R'' ha h''=>?_) K hK
      have wQ:j' < Rs.length:=(List.getElem?_eq_some_iff.1 h'').1
      exact hB j' R'' ha oM (by rw [hold j' oM]; exact h''))
    hrest
def qF (ops:Array Oper) (n:Nat):Bool:=(List.range n).all fun j=>bU .any ops ops.size n j
theorem pR {C:World→Prop} {T:World→World→Prop} {a₀:Act} (Ai:eB ops.toList=true) (AU:fN .any ops=true) (Rs:List (Value→World→Prop)) (wR:Rs.length+1=ops.size) (Jk:qF ops Rs.length=true)
  (xl:∀ (j:Nat) (R:Value→World→Prop),Rs[j]?=some R→∀ v w w',R v w→T w w'→R v w')
  (AT:∀ (j:Nat) (o:Oper) (R:Value→World→Prop),ops[j]?=some o→Rs[j]?=some R→∀ vs w,C w→(∀ (j' : Nat) (R' : Value→World→Prop),bU .any ops ops.size j j'=true→j' < j→Rs[j']?=some R'→R' (vs j') w)→∀ K:Act→World→Prop,(∀ a' v w',a'=(ax vs ops.toList 0 a₀).put o.dst v→R v w'→C w'→T w w'→K a' w') →
   if Region.wanted o (yielded ops (ax vs ops.toList 0 a₀).tmps)=true then o.wp P (ax vs ops.toList 0 a₀) w K Q else K ((ax vs ops.toList 0 a₀).put o.dst undef) w)
  (hlast:∀ o,ops[Rs.length]?=some o→∀ vs w,C w→(∀ (j:Nat) (R:Value→World→Prop),Rs[j]?=some R→R (vs j) w)→∀ K:Act→World→Prop,(∀ a' w',Q .normal a' w'→K a' w') →
   if Region.wanted o (yielded ops (ax vs ops.toList 0 a₀).tmps)=true then o.wp P (ax vs ops.toList 0 a₀) w K Q else K ((ax vs ops.toList 0 a₀).put o.dst undef) w) :
  ∀ (fuel:Nat) (listed:Array Bool) (vs:Nat→Value) (w:World),listed.size=ops.size→eR ops.size listed≤fuel→pF .any ops listed→listed.getD Rs.length false=false→C w→(∀ (j:Nat) (R:Value→World→Prop),listed.getD j false=true→Rs[j]?=some R→R (vs j) w) →
   wpAny P .any ops Q fuel listed (ax vs ops.toList 0 a₀) w:=by
 intro fuel
 induction fuel with
 | zero =>
  intro listed vs w hs hu xY hn hC hR
  have:eR ops.size (listed.setIfInBounds Rs.length true) < eR ops.size listed:=fm oM hs hn
  omega
 | succ fuel ih =>
  intro listed vs w hs hu xY hn hC hR
  refine ⟨fun hr=>?_,fun i hi=>?_⟩
  ·have:=gY AU hs hr Rs.length oM
   rw [hn] at this; cases this
  obtain ⟨h0,o,ho,xF⟩:=mem_ready.1 hi
  have CE:i < ops.size:=(Array.getElem?_eq_some_iff.1 ho).1
  have zm:i < listed.size:=oM
  have h0' : listed.getD i false=false:=by simp only [Array.getD,zm,↓reduceDIte] at h0 ⊢; exact h0
  by_cases xZ:i=Rs.length
  ·have hall' : ∀ j,j < Rs.length→listed.getD j false=true:=fun j hj=>by
    refine cQ xY ops.size i j (fun o' ho'=>by rw [ho] at ho'; cases ho'; exact xF) ?_
    rw [xZ]; exact List.all_eq_true.1 Jk j (List.mem_range.2 hj)
   have hstep:=hlast o (by rw [← xZ]; exact ho) vs w hC (fun j R hj=>hR j R (hall' j (List.getElem?_eq_some_iff.1 hj).1) hj)
    (wpAny P .any ops Q fuel (listed.setIfInBounds i true)) (fun a' w' hq=>by
     have hfull:∀ j,j ∉ Region.ready .any ops (listed.setIfInBounds i true):=fun j hj=>by
      obtain ⟨g0,o',ho',_⟩:=mem_ready.1 hj
      have Ht:j < ops.size:=(Array.getElem?_eq_some_iff.1 ho').1
      have Gn:j < (listed.setIfInBounds i true).size:=by simp; omega
      have g0' : (listed.setIfInBounds i true).getD j false=false:=by simp only [Array.getD,Gn,↓reduceDIte] at g0 ⊢; exact g0
      by_cases yT:j=i
      ·subst yT; simp [zm] at g0'
      ·rw [getD_set_ne false (Ne.symm yT),hall' j oM] at g0'; cases g0'
     have Jl:Region.ready .any ops (listed.setIfInBounds i true) = []:=List.eq_nil_iff_forall_not_mem.2 hfull
     cases fuel with
     | zero=>exact ⟨Jl,hq⟩
     | succ fuel=>exact ⟨fun _=>hq,fun j hj=>absurd hj (hfull j)⟩)
   unfold wpOp
   simp only [ho]
   split
   ·rename_i hw; rw [if_pos hw] at hstep; exact .inl hstep
   ·rename_i hw; rw [if_neg hw] at hstep; exact hstep
  obtain ⟨R,Em⟩ : ∃ R,Rs[i]?=some R:=⟨Rs[i]'oM,List.getElem?_eq_getElem oM⟩
  have hstep:=AT i o R ho Em vs w hC (fun j' R' ha _ xE=>hR j' R' (cQ xY ops.size i j' (fun o' ho'=>by rw [ho] at ho'; cases ho'; exact xF) ha) xE)
   (wpAny P .any ops Q fuel (listed.setIfInBounds i true)) (fun a' v w' ha FU CF hT=>by
    rw [ha,iH ops.toList 0 a₀ vs i o v Ai (by simpa using ho),Nat.zero_add]
    refine ih _ _ _ (by simpa using hs) ?_ ?_ ?_ CF ?_
    ·have:=fm CE hs h0'; omega
    ·intro j oj CG hj e he hb
     by_cases yT:j=i
     ·subst yT; rw [ho] at CG; cases CG; exact getD_set_true (xF e he hb)
     ·rw [getD_set_ne false (Ne.symm yT)] at hj; exact getD_set_true (xY j oj CG hj e he hb)
    ·rw [getD_set_ne false (fun h=>xZ h)]; exact hn
    ·intro j R' hj xE
     by_cases yT:j=i
     ·subst yT; rw [Em] at xE; cases xE; simpa [rL] using FU
     ·rw [getD_set_ne false (Ne.symm yT)] at hj
      have:=xl j R' xE _ _ _ (hR j R' hj xE) hT
      simpa [rL,yT] using this)
  unfold wpOp
  simp only [ho]
  split
  ·rename_i hw; rw [if_pos hw] at hstep; exact .inl hstep
  ·rename_i hw; rw [if_neg hw] at hstep; exact hstep
theorem fw {id:Nat} {a:Act} {w:World} {l:List Oper} (C:World→Prop) (T:World→World→Prop) (hm:P.follows .mixedOrders=true) (hap:eB l=true) (hdn:fN .any l.toArray=true) (hah:qF l.toArray (l.length - 1)=true)
    (hC:C w.drew) (h:gM P l.toArray Q C T (fun vs=>ax vs l 0 a) 0 l []):(Code.region id l.toArray true).wp P Q a w:=by
  refine wp_region_any hm ?_
  obtain ⟨Rs,h1,h2,h3,h4⟩:=lE (ops:=l.toArray) l 0 [] (by simp) rfl (by simp) (by simp) h
  obtain ⟨vs,hvs⟩ : ∃ vs:Nat→Value,∀ i o t,l[i]?=some o→o.dst=some t→vs (0+i)=a.tmps.getD t undef :=
    ⟨fun i=>match (l[i]?).bind (·.dst) with | some t=>a.tmps.getD t undef | none=>undef,fun i o t hi ht=>by simp [hi,ht]⟩
  have hl1 : Rs.length = l.length - 1 := by have h1' : Rs.length + 1 = l.length := by simpa using h1
                                            omega
  have:=pR (P:=P) (Q:=Q) (ops:=l.toArray) (C:=C) (T:=T) (a₀:=a) hap hdn Rs h1 (by rw [hl1]; exact hah) h2 h3 h4 l.toArray.size (Array.replicate l.toArray.size false) vs w.drew (by simp)
    (Nat.le_trans (List.length_filter_le _ _) (by simp)) (fun j o hj hl=>by simp [Array.getD] at hl) (by simp [Array.getD]) hC (fun j R hl=>by simp [Array.getD] at hl)
  rwa [gX vs _ 0 a (by simpa using hvs)] at this
theorem gI {C : World → Prop} {T : World → World → Prop} {fr : (Nat → Value) → Act} {k : Nat} {o : Oper} {Rs : List (Value → World → Prop)} (h : ∀ vs w, C w → (∀ (j : Nat) (R : Value → World → Prop), Rs[j]? = some R → R (vs j) w) → ∀ K : Act → World → Prop, (∀ a' w', Q .normal a' w' → K a' w') →
      if Region.wanted o (yielded ops (fr vs).tmps)=true then o.wp P (fr vs) w K Q else K ((fr vs).put o.dst undef) w):gM P ops Q C T fr k [o] Rs:=.inl ⟨rfl,h⟩
theorem aH {C:World→Prop} {T:World→World→Prop} {fr:(Nat→Value)→Act} {k:Nat} {o:Oper} {l:List Oper} {Rs:List (Value→World→Prop)} (V:Value)
  (h1:∀ vs w,C w→(∀ (j:Nat) (R' : Value→World→Prop),bU .any ops ops.size k j=true→Rs[j]?=some R'→R' (vs j) w)→∀ K:Act→World→Prop,(∀ a' w',a'=(fr vs).put o.dst V→C w'→T w w'→K a' w') →
   if Region.wanted o (yielded ops (fr vs).tmps)=true then o.wp P (fr vs) w K Q else K ((fr vs).put o.dst undef) w)
  (h2:gM P ops Q C T fr (k+1) l (Rs++[fun v _=>v=V])):gM P ops Q C T fr k (o :: l) Rs :=
 .inr ⟨fun v _=>v=V,fun _ _ _ h _=>h,fun vs w hC hB K hK=>h1 vs w hC hB K fun a' w' ha CF hT=>hK a' V w' ha rfl CF hT,h2⟩
theorem cK {C:World→Prop} {T:World→World→Prop} {fr:(Nat→Value)→Act} {k:Nat} {o:Oper} {l:List Oper} {Rs:List (Value→World→Prop)} (R:Value→World→Prop) (hR:∀ v w w',R v w→T w w'→R v w')
  (h1:∀ vs w,C w→(∀ (j:Nat) (R' : Value→World→Prop),bU .any ops ops.size k j=true→Rs[j]?=some R'→R' (vs j) w)→∀ K:Act→World→Prop,(∀ a' v w',a'=(fr vs).put o.dst v→R v w'→C w'→T w w'→K a' w') →
   if Region.wanted o (yielded ops (fr vs).tmps)=true then o.wp P (fr vs) w K Q else K ((fr vs).put o.dst undef) w)
  (h2:gM P ops Q C T fr (k+1) l (Rs++[R])):gM P ops Q C T fr k (o :: l) Rs :=
 .inr ⟨R,hR,h1,h2⟩
end
theorem ai.apart {w:World} {g g' : Nat} {t t' : TypeId} {cs cs' : List Value} (h:ai w g t cs) (h' : ai w g' t' cs') (wT:t ≠ t'):g ≠ g':=by
 intro e
 subst e
 unfold ai at h h'
 rw [h] at h'
 injection h' with h'; injection h' with _ h2; exact wT h2
theorem ne_to:104 ≠ 147:=dD
theorem uM:147 ≠ 104:=dD
set_option linter.unusedSimpArgs false
def iL (y:Oc) (s:df):Oc × Bool :=
 if s.kind=2 then (⟨aj y.t s.stamp (-s.value),aM s.stamp s.person (aP s.stamp s.person y.o+s.value) y.o,y.gt,y.sd,y.ms⟩,true)
 else if s.kind=3 then (⟨aj y.t s.stamp s.value,aM s.stamp s.person (aP s.stamp s.person y.o - s.value) y.o,y.gt,y.sd,y.ms⟩,decide (s.value≤aP s.stamp s.person y.o))
 else if s.kind=5 then (⟨y.t,aM s.stamp s.person 0 y.o,y.gt,y.sd,y.ms+aP s.stamp s.person y.o⟩,decide (0 < aP s.stamp s.person y.o))
 else if s.kind=6 then (⟨y.t,aM s.stamp s.value (aP s.stamp s.value (aM s.stamp s.person 0 y.o)+aP s.stamp s.person y.o) (aM s.stamp s.person 0 y.o),y.gt,y.sd,y.ms⟩,decide (0 < aP s.stamp s.person y.o) && decide (s.value ≠ s.person))
 else (⟨y.t,aM s.stamp s.person (aP s.stamp s.person y.o - s.value) y.o,y.gt,y.sd+s.value,y.ms⟩,decide (s.value≤aP s.stamp s.person y.o))
def f9 (y:Oc) (s:df):Oc × Bool :=
 if s.kind=1 then (⟨aj y.t s.stamp s.value,y.o,y.gt+s.value,y.sd,y.ms⟩,(⟨aj y.t s.stamp s.value,y.o,y.gt+s.value,y.sd,y.ms⟩ : Oc).good)
 else if ay y.t s.stamp < 0 then (y,false)
 else if s.person=0 then (⟨aj y.t s.stamp (-s.value),y.o,y.gt,y.sd+s.value,y.ms⟩,(⟨aj y.t s.stamp (-s.value),y.o,y.gt,y.sd+s.value,y.ms⟩ : Oc).good)
 else ((iL y s).1,(iL y s).2 && (iL y s).1.good)
def qH (R:Oc × Bool):Option Oc:=if R.2 then some R.1 else none
theorem pS {k p c:Int} (hc:c ≠ 0):∀ l:List ae,(⟨k,p,c⟩ : ae) ∈ aM k p c l
 | []=>by simp [aM,hc]
 | o :: l=>by
  rw [aM]
  split
  ·simp
  ·split
   ·exact pS hc l
   ·exact List.mem_cons_of_mem _ (pS hc l)
theorem tq {ts:List aq} {k p c:Int} (hc:c < 0) (l:List ae):fc ts (aM k p c l)=false:=by
 cases h:fc ts (aM k p c l) with
 | false=>rfl
 | true =>
  obtain ⟨i,hi,e⟩:=List.mem_iff_getElem.1 (pS (k:=k) (p:=p) (c:=c) oM l)
  have h1:=fZ _ _ _ h i hi
  rw [e] at h1
  have:=(ae.bounds h1).2.2.1
  simp only at this
  omega
theorem Oc.bad {y:Oc} (h:fc y.t y.o=false):y.good=false:=by
 show ao _=false
 unfold ao
 rw [show fc (y.at none 0 none 0).t (y.at none 0 none 0).o=false from h]
 simp
theorem qI (x:aO) (s:df) (G:bK x) (hs:s.okS=true):qH (f9 x.c s)=if s.ok then bj x.c s else none:=by
 obtain ⟨xl,hI⟩:=df.okS_is hs
 have wP:=df.ok_okS s
 rw [hs,Bool.true_and] at wP
 obtain ⟨kd,st,pe,va⟩:=s
 have hA:=G.asc
 obtain ⟨n0,n1⟩:=G.at_bd st pe
 unfold f9 bj qH Oc.fin iL
 simp only at wP
 simp only [aO.c]
 obtain ⟨n,hn⟩ : ∃ n,aP st pe x.o=n:=⟨_,rfl⟩
 simp only [hn] at n0 n1 ⊢
 by_cases hT:ay x.t st < 0
 ·cases hI with
  | get hk hp hv=>simp only at hk; subst hk; simp [wP]; rfl
  | show_ hk hp hv=>simp only at hk; subst hk; simp [hT,wP]
  | back hk hp hv=>simp only at hk; subst hk; simp [hT,wP]
  | sell0 hk hp hv=>simp only at hk; subst hk; simp [hT,wP]
  | sell hk hp hv=>simp only at hk; subst hk; simp [hT,wP]
  | miss hk hp hv=>simp only at hk; subst hk; simp [hT,wP]
  | move hk hp hv=>simp only at hk; subst hk; simp [hT]
 ·have yD : 0≤ay x.t st:=oM
  cases hI with
  | get hk hp hv=>simp only at hk; subst hk; simp [wP]; rfl
  | show_ hk hp hv =>
   simp only at hk hp hv; subst hk
   have e:=gL (k:=st) (p:=pe) (by_:=va) x.o hA (fun _=>by omega)
   rw [hn] at e
   have AD : ¬ pe=0:=oM
   simp [hT,yD,wP,e,AD]
  | back hk hp hv =>
   simp only at hk hp hv; subst hk
   have AD : ¬ pe=0:=oM
   by_cases hz:n=0
   ·have h1 : ¬ va≤n:=oM
    have h2:0 < pe:=oM
    simp [hT,yD,wP,AD,hz,h1,h2]
    omega
   ·have e:=gL (k:=st) (p:=pe) (by_:=-va) x.o hA (fun h=>by omega)
    rw [hn,← Int.sub_eq_add_neg] at e
    by_cases h1:va≤n
    ·simp [hT,yD,wP,AD,hz,h1,e]
    ·have hb:(⟨aj x.t st va,aM st pe (n - va) x.o,x.gt,x.sd,x.ms⟩ : Oc).good=false:=Oc.bad (tq oM _)
     simp [hT,yD,wP,AD,hz,h1,e,hb]
  | sell0 hk hp hv=>simp only at hk hp; subst hk; subst hp; simp [hT,yD,wP]; rfl
  | sell hk hp hv =>
   simp only at hk hp hv; subst hk
   have AD : ¬ pe=0:=oM
   by_cases hz:n=0
   ·have h1 : ¬ va≤n:=oM
    have h2:0 < pe:=oM
    simp [hT,yD,wP,AD,hz,h1,h2]
    omega
   ·have e:=gL (k:=st) (p:=pe) (by_:=-va) x.o hA (fun h=>by omega)
    rw [hn,← Int.sub_eq_add_neg] at e
    by_cases h1:va≤n
    ·simp [hT,yD,wP,AD,hz,h1,e]
    ·have hb:(⟨x.t,aM st pe (n - va) x.o,x.gt,x.sd+va,x.ms⟩ : Oc).good=false:=Oc.bad (tq oM _)
     simp [hT,yD,wP,AD,hz,h1,e,hb]
  | miss hk hp hv =>
   simp only at hk hp hv; subst hk
   have AD : ¬ pe=0:=oM
   have h2:0 < pe:=oM
   by_cases hz:n=0
   ·simp [hT,yD,wP,AD,hz,h2]
   ·have e:=gL (k:=st) (p:=pe) (by_:=-n) x.o hA (fun h=>by omega)
    rw [hn,show n+-n=0 by omega] at e
    have h1:0 < n:=oM
    simp [hT,yD,wP,AD,hz,h1,e]
  | move hk hp hv =>
   simp only at hk hp hv; subst hk
   have AD : ¬ pe=0:=oM
   have h2:0 < pe:=oM
   by_cases hq:va=pe
   ·subst hq
    simp [hT,AD,wP]
   ·by_cases hz:n=0
    ·simp [hT,yD,wP,AD,hz,h2]
    ·have e:=gL (k:=st) (p:=pe) (by_:=-n) x.o hA (fun h=>by omega)
     rw [hn,show n+-n=0 by omega] at e
     have Jm : oP (aM st pe 0 x.o):=List.Pairwise.sublist (ft _) hA
     have e2:=gL (k:=st) (p:=va) (by_:=n) (aM st pe 0 x.o) Jm (fun _=>hz)
     have h1:0 < n:=oM
     simp [hT,yD,wP,AD,hz,h1,hq,e,e2]
theorem cy (x:aO) (g:Nat) (w:World) (h:cw w w.heap.size g x) (tl:x.t.length≤1000000) (ol:x.o.length≤1000000) :
  Calls wH 93 #[.pointer (some ⟨g,0,none⟩)] w fun e w'=>∃ TA tc OA oc,e=.returned (.agg #[F TA x.t.length tc,F OA x.o.length oc,O U x.gt,O U x.sd,O U x.ms])∧w'.ownsRow w.heap.size 104 2 (F TA x.t.length tc) x.t.length (x.t.flatMap aq.enc)∧w'.ownsRow w.heap.size 147 3 (F OA x.o.length oc) x.o.length (x.o.flatMap ae.enc)∧Below w.heap.size w w':=nN x g w h tl ol
set_option maxRecDepth 100000 in
theorem fV (x:aO) (g:Nat) (kd:Int) (st pe va:Int) (w:World) (h:cw w w.heap.size g x) (G:bK x) (hk:(kd == 1)=false) (hI:ay x.t st < 0) :
  Calls wH 186 #[.pointer (some ⟨g,0,none⟩),.agg #[O U kd,O U st,O U pe,O U va]] w (aF w (bj x.c ⟨kd,st,pe,va⟩)):=by
 have HN:Hid (bj x.c ⟨kd,st,pe,va⟩=none):=by
  unfold Hid bj
  rw [if_neg (by simpa using hk),if_pos (by show ¬ 0≤ay x.t st; omega)]
 have L1:=(ai.new w 112 #[O U kd,O U st,O U pe,O U va]).alloc (.cells #[F none 0 0,F none 0 0,O U 0,O U 0,O U 0] 40)
 have L2:=ai.new1 w (.cells #[O U kd,O U st,O U pe,O U va] 112) 40 #[F none 0 0,F none 0 0,O U 0,O U 0,O U 0]
 have b1:=bZ w (.cells #[O U kd,O U st,O U pe,O U va] 112)
 have b2:=b1.alloc b1.size (.cells #[F none 0 0,F none 0 0,O U 0,O U 0,O U 0] 40)
 have hA:=h.then b2 b2.size
 have tl:=G.tl
 have ol:=G.ol
 clear b1
 go_enter Tryz.func186,Tryz.ntmps186
 go_wp2_with fail
 generalize ((w.alloc (.cells #[O U kd,O U st,O U pe,O U va] 112)).alloc (.cells #[F none 0 0,F none 0 0,O U 0,O U 0,O U 0] 40))=W2 at L1 L2 b2 hA ⊢
 refine (cy x g W2 hA oM oM).mono ?_
 rintro e W3 ⟨TA,tc,OA,oc,rfl,hT,hO,k3⟩
 have wO:=(Below.refl W3.heap.size W3).alloc nR (.cells #[F TA x.t.length tc,F OA x.o.length oc,O U x.gt,O U x.sd,O U x.ms] 40)
 have xe:aE (W3.alloc (.cells #[F TA x.t.length tc,F OA x.o.length oc,O U x.gt,O U x.sd,O U x.ms] 40)) W2.heap.size W3.heap.size _ _ x.c:=⟨ai.new W3 40 #[F TA x.t.length tc,F OA x.o.length oc,O U x.gt,O U x.sd,O U x.ms],k3.size,ac hT wO,ac hO wO⟩
 have k4:=k3.trans (wO.mono k3.size)
 obtain ⟨s0,s1⟩:=cells2 (L1.below k4 L1.lt)
 have hgO:w.heap.size+1 < W3.heap.size:=jL L2.lt k3.size
 clear hT hO k3
 go_wp2_with fail
 clear s0 s1 wO
 generalize W3.alloc (.cells #[F TA x.t.length tc,F OA x.o.length oc,O U x.gt,O U x.sd,O U x.ms] 40)=W4 at xe k4 ⊢
 generalize W3.heap.size=gO at xe hgO ⊢
 refine (bp (x.c.at TA tc OA oc) gO st W4 (aE.at_ (y:=x.c) xe)).mono ?_
 rintro e W5 ⟨rfl,hb5⟩
 have xk:=xe.then hb5
 have k5:=k4.trans (hb5.mono k4.size)
 rw [show ay (x.c.at TA tc OA oc).t st=ay x.t st from rfl]
 generalize ay x.t st=I at hI ⊢
 have wU:=L2.below k5 L2.lt
 have z0:=wU.cell 0
 have z1:=wU.cell 1
 have z2:=wU.cell 2
 have z3:=wU.cell 3
 have z4:=wU.cell 4
 obtain ⟨f0,f1,f2,f3,f4⟩:=frz5 wU
 simp only [gz0,gz1] at z0 z1 z2 z3 z4
 have wY:=ab (g:=w.heap.size+1) (i:=4) (u:=O U 0) (gw4 W5 (w.heap.size+1) (F none 0 0) (F none 0 0) (O U 0) (O U 0))
 have bw:=b2.trans (k5.mono b2.size)
 have bz:=bw.grown wY bw.size (by rintro _ ⟨⟩; omega)
 go_wp2
 rw [HN.out]
 refine bodyPost_ret (v:=.tuple #[.agg #[F none 0 0,F none 0 0,O U 0,O U 0,O U 0],.bool false]) (by simp [results,Tryz.results186,go_sem, *]) rfl (aF.no rfl bz)
set_option maxRecDepth 100000 in
theorem lU (x:aO) (g:Nat) (kd:Int) (st pe va:Int) (w:World) (h:cw w w.heap.size g x) (G:bK x) (hk:(kd == 1)=false) (Il:(kd != 2)=true) (i:Nat) (hi:i < x.t.length) (hI:ay x.t st=i) (ya:0 < pe) (h0:aP st pe x.o=0) :
  Calls wH 186 #[.pointer (some ⟨g,0,none⟩),.agg #[O U kd,O U st,O U pe,O U va]] w (aF w (bj x.c ⟨kd,st,pe,va⟩)):=by
 have HN:Hid (bj x.c ⟨kd,st,pe,va⟩=none):=by
  unfold Hid bj
  rw [if_neg (by simpa using hk),if_neg (by show ¬ ¬ 0≤ay x.t st; rw [hI]; omega),if_neg (by simpa using Il),if_pos ⟨h0,ya⟩]
 have yC:(0:Int)≤(i:Int):=oM
 have L1:=(ai.new w 112 #[O U kd,O U st,O U pe,O U va]).alloc (.cells #[F none 0 0,F none 0 0,O U 0,O U 0,O U 0] 40)
 have L2:=ai.new1 w (.cells #[O U kd,O U st,O U pe,O U va] 112) 40 #[F none 0 0,F none 0 0,O U 0,O U 0,O U 0]
 have b1:=bZ w (.cells #[O U kd,O U st,O U pe,O U va] 112)
 have b2:=b1.alloc b1.size (.cells #[F none 0 0,F none 0 0,O U 0,O U 0,O U 0] 40)
 have hA:=h.then b2 b2.size
 have tl:=G.tl
 have ol:=G.ol
 clear b1
 go_enter Tryz.func186,Tryz.ntmps186
 go_wp2_with fail
 generalize ((w.alloc (.cells #[O U kd,O U st,O U pe,O U va] 112)).alloc (.cells #[F none 0 0,F none 0 0,O U 0,O U 0,O U 0] 40))=W2 at L1 L2 b2 hA ⊢
 refine (cy x g W2 hA oM oM).mono ?_
 rintro e W3 ⟨TA,tc,OA,oc,rfl,hT,hO,k3⟩
 obtain ⟨gT,cT,_,BF,_,_,_⟩:=ch hT oM
 injection BF with e1 e2 e3
 subst e1; subst e3
 have wO:=(Below.refl W3.heap.size W3).alloc nR (.cells #[F (some ⟨gT,0,none⟩) x.t.length tc,F OA x.o.length oc,O U x.gt,O U x.sd,O U x.ms] 40)
 have xe:aE (W3.alloc (.cells #[F (some ⟨gT,0,none⟩) x.t.length tc,F OA x.o.length oc,O U x.gt,O U x.sd,O U x.ms] 40)) W2.heap.size W3.heap.size _ _ x.c:=⟨ai.new W3 40 #[F (some ⟨gT,0,none⟩) x.t.length tc,F OA x.o.length oc,O U x.gt,O U x.sd,O U x.ms],k3.size,ac hT wO,ac hO wO⟩
 have k4:=k3.trans (wO.mono k3.size)
 obtain ⟨s0,s1⟩:=cells2 (L1.below k4 L1.lt)
 have hgO:w.heap.size+1 < W3.heap.size:=jL L2.lt k3.size
 clear hT hO k3
 go_wp2_with fail
 clear s0 s1 wO
 generalize W3.alloc (.cells #[F (some ⟨gT,0,none⟩) x.t.length tc,F OA x.o.length oc,O U x.gt,O U x.sd,O U x.ms] 40)=W4 at xe k4 ⊢
 generalize W3.heap.size=gO at xe hgO ⊢
 refine (bp (x.c.at (some ⟨gT,0,none⟩) tc OA oc) gO st W4 (aE.at_ (y:=x.c) xe)).mono ?_
 rintro e W5 ⟨rfl,hb5⟩
 have xk:=xe.then hb5
 have k5:=k4.trans (hb5.mono k4.size)
 rw [show ay (x.c.at (some ⟨gT,0,none⟩) tc OA oc).t st=ay x.t st from rfl,hI]
 have yo:=L1.below k5 L1.lt
 have zr:=hA.then k5 k5.size
 have CJ:∀ (fn:Fn) (first cap:Array Value) (w:World),(Instr.makeFunc fn first cap).run wH w=.ok (.func fn first cap) w:=fun _ _ _ _=>rfl
 go_wp2_with fail
 refine (dO (B:=0) yo zr G (Nat.zero_le _)).mono ?_
 rintro e W6 ⟨rfl,xn⟩
 have wW:=xk.then xn
 have k6:=k5.trans (xn.mono k5.size)
 have yZ:=L1.below k6 L1.lt
 obtain ⟨s0,s1,s2,s3⟩:=cells4 yZ
 clear yo zr xk xe hb5 xn k4
 rw [h0]
 clear h0
 have wU:=L2.below k6 L2.lt
 have z0:=wU.cell 0
 have z1:=wU.cell 1
 have z2:=wU.cell 2
 have z3:=wU.cell 3
 have z4:=wU.cell 4
 obtain ⟨f0,f1,f2,f3,f4⟩:=frz5 wU
 simp only [gz0,gz1] at z0 z1 z2 z3 z4
 have wY:=ab (g:=w.heap.size+1) (i:=4) (u:=O U 0) (gw4 W6 (w.heap.size+1) (F none 0 0) (F none 0 0) (O U 0) (O U 0))
 have bw:=b2.trans (k6.mono b2.size)
 have bz:=bw.grown wY bw.size (by rintro _ ⟨⟩; omega)
 go_wp2
 rw [HN.out]
 refine bodyPost_ret (v:=.tuple #[.agg #[F none 0 0,F none 0 0,O U 0,O U 0,O U 0],.bool false]) (by simp [results,Tryz.results186,go_sem, *]) rfl (aF.no rfl bz)
end Go.Proofs.YtoeoimhemojdeaaGreatDoor
