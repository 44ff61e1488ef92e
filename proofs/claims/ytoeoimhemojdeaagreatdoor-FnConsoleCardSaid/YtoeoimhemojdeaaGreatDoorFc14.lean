/- Lemmas. -/
import Derived.Test.YtoeoimhemojdeaaGreatDoorFc13

set_option linter.unusedVariables false
set_option linter.unusedSimpArgs false
set_option maxHeartbeats 8000000
open Go.Value renaming int → O, slice → F, string → vw
open Go.IntKind renaming i64 → U
open Go.Proofs.Tryz renaming prog → vx

namespace Go.Proofs.YtoeoimhemojdeaaGreatDoor
open Go.RowKit
theorem aC.then {w w' : World} {B g:Nat} {vt vo:Value} {y:Oc} (h:aC w B g vt vo y) (hb:Below w.heap.size w w'):aC w' B g vt vo y :=
 ⟨h.lies.below hb h.lies.lt,h.hg,ac h.t hb,ac h.o hb⟩
theorem iS {α:Type} (enc:α→List Value) (k:Nat) (hk:∀ x,(enc x).length=k):∀ (l:List α) (i:Nat),(l.take i).flatMap enc=(l.flatMap enc).take (i * k)
 | [],i=>by simp
 | x :: l,0=>by simp
 | x :: l,i+1=>by
  have e:(i+1) * k=(enc x).length+i * k:=by rw [hk,Nat.succ_mul]; omega
  rw [List.take_succ_cons,List.flatMap_cons,List.flatMap_cons,iS enc k hk l i,e,List.take_length_add_append]
theorem iT {α:Type} (enc:α→List Value) (k:Nat) (hk:∀ x,(enc x).length=k):∀ (l:List α) (i:Nat),(l.drop i).flatMap enc=(l.flatMap enc).drop (i * k)
 | [],i=>by simp
 | x :: l,0=>by simp
 | x :: l,i+1=>by
  have e:(i+1) * k=(enc x).length+i * k:=by rw [hk,Nat.succ_mul]; omega
  rw [List.drop_succ_cons,List.flatMap_cons,iT enc k hk l i,e,List.drop_length_add_append]
theorem pO {α:Type} (enc:α→List Value) (k:Nat) (hk:∀ x,(enc x).length=k) (l:List α) (i:Nat) (r:α):(l.take i++r :: l.drop i).flatMap enc=(l.flatMap enc).take (i * k)++enc r++(l.flatMap enc).drop (i * k):=by
 rw [List.flatMap_append,List.flatMap_cons,iS enc k hk,iT enc k hk,List.append_assoc]
theorem tM {α:Type} (enc:α→List Value) (k:Nat) (hk:∀ x,(enc x).length=k) (l:List α) (i:Nat):(l.take i++l.drop (i+1)).flatMap enc=(l.flatMap enc).take (i * k)++(l.flatMap enc).drop (i * k+k):=by
 rw [List.flatMap_append,iS enc k hk,iT enc k hk,Nat.succ_mul]
theorem sx {i:Nat} {c:Int} : ∀ {l:List ae} (h:i < l.length),(l.flatMap ae.enc).set (i * 3+2) (O U c)=(l.set i ⟨l[i].k,l[i].p,c⟩).flatMap ae.enc:=by
 induction i with
 | zero=>intro l h; match l,h with
  | x :: l,_=>simp [ae.enc]
 | succ i ih=>intro l h; match l,h with
  | x :: l,h =>
   simp only [List.flatMap_cons,List.getElem_cons_succ,List.set_cons_succ]
   rw [← ih (by simpa using h),List.set_append_right _ _ (by rw [ae.enc_len]; omega),ae.enc_len]
   congr 2; omega
theorem sB {i:Nat} {c:Int} : ∀ {l:List aq} (h:i < l.length),(l.flatMap aq.enc).set (i * 2+1) (O U c)=(l.set i ⟨l[i].k,c⟩).flatMap aq.enc:=by
 induction i with
 | zero=>intro l h; match l,h with
  | x :: l,_=>simp [aq.enc]
 | succ i ih=>intro l h; match l,h with
  | x :: l,h =>
   simp only [List.flatMap_cons,List.getElem_cons_succ,List.set_cons_succ]
   rw [← ih (by simpa using h),List.set_append_right _ _ (by rw [aq.enc_len]; omega),aq.enc_len]
   congr 2; omega
def dB (os:List ae) (k p:Int):Nat:=(os.takeWhile fun o=>before o ⟨k,p,0⟩).length
theorem gS (o:ae) (os:List ae) (k p:Int):dB (o :: os) k p=if before o ⟨k,p,0⟩=true then dB os k p+1 else 0:=by
 unfold dB; rw [List.takeWhile_cons]; by_cases h:before o ⟨k,p,0⟩=true <;> simp [h]
theorem sa (os:List ae) (k p:Int):dB os k p≤os.length:=by
 unfold dB; exact (List.takeWhile_prefix _).length_le
theorem o7:∀ (os:List ae) (k p:Int) (i:Nat) (h:i < os.length),i < dB os k p→before os[i] ⟨k,p,0⟩=true
 | o :: os,k,p,i,h,hi=>by
  rw [gS] at hi
  split at hi
  ·cases i with
   | zero=>assumption
   | succ i=>exact o7 os k p i (by simpa using h) oM
  ·omega
theorem o8:∀ (os:List ae) (k p:Int),nV os→∀ (i:Nat) (h:i < os.length),dB os k p≤i→¬ before os[i] ⟨k,p,0⟩=true
 | o :: os,k,p,ha,i,h,hi=>by
  obtain ⟨h1,h2⟩:=List.pairwise_cons.1 ha
  by_cases hb:before o ⟨k,p,0⟩=true
  ·rw [gS,if_pos hb] at hi
   cases i with
   | zero=>omega
   | succ i=>exact o8 os k p h2 i (by simpa using h) oM
  ·cases i with
   | zero=>exact hb
   | succ i =>
    have:=h1 (os[i]'(by simpa using h)) (List.getElem_mem _)
    simp only [List.getElem_cons_succ]
    rw [dN] at this hb ⊢; simp only at hb ⊢; omega
theorem pP {k p b:Int} : ∀ (os:List ae),(∀ h:dB os k p < os.length,fc k p os[dB os k p]=false)→eM k p b os=os.take (dB os k p)++⟨k,p,b⟩ :: os.drop (dB os k p)
 | [],_=>by simp [eM,dB]
 | o :: os,h=>by
  by_cases hb:before o ⟨k,p,0⟩=true
  ·have e:dB (o :: os) k p=dB os k p+1:=by rw [gS,if_pos hb]
   simp only [e] at h ⊢
   rw [eM,if_pos hb,pP os (fun h'=>by have:=h (by simpa using h'); simpa using this),List.take_succ_cons,List.drop_succ_cons,List.cons_append]
  ·have e:dB (o :: os) k p=0:=by rw [gS,if_neg hb]
   simp only [e] at h ⊢
   have:=h sP
   simp only [List.getElem_cons_zero] at this
   rw [eM,if_neg hb,this,if_neg sP]; rfl
theorem pQ {k p b:Int} : ∀ (os:List ae) (h:dB os k p < os.length),fc k p os[dB os k p]=true →
  eM k p b os=if os[dB os k p].c+b=0 then os.take (dB os k p)++os.drop (dB os k p+1) else os.set (dB os k p) ⟨os[dB os k p].k,os[dB os k p].p,os[dB os k p].c+b⟩
 | o :: os,h,hi=>by
  by_cases hb:before o ⟨k,p,0⟩=true
  ·have e:dB (o :: os) k p=dB os k p+1:=by rw [gS,if_pos hb]
   simp only [e,List.getElem_cons_succ] at h hi ⊢
   rw [eM,if_pos hb,pQ os (by simpa using h) hi,List.take_succ_cons,List.drop_succ_cons,List.cons_append,List.set_cons_succ]
   split <;> rfl
  ·have e:dB (o :: os) k p=0:=by rw [gS,if_neg hb]
   simp only [e,List.getElem_cons_zero] at h hi ⊢
   rw [eM,if_neg hb,if_pos hi]
   split <;> simp
theorem mU {a b:ae} : jg a b < 0 ↔ before a b=true:=by
 have h:=mn a b
 by_cases h0:0≤jg a b
 ·rw [jD h0] at h
  have:before a b=false:=by cases hb:before a b; rfl; rw [hb] at h; cases h
  rw [this]; constructor
  ·intro h; omega
  ·intro h; cases h
 ·rw [jE h0] at h
  have:before a b=true:=by cases hb:before a b; rw [hb] at h; cases h; rfl
  rw [this]; constructor
  ·intro _; rfl
  ·intro _; omega
theorem oz {a:ae} {k p b:Int} : decide (jg a ⟨k,p,b⟩=0)=fc k p a:=by
 rw [Bool.eq_iff_iff,decide_eq_true_eq,ee]
 unfold jg uC iu
 dsimp only
 constructor
 ·intro h
  repeat' split at h
  all_goals first | omega | (constructor <;> omega)
 ·rintro ⟨rfl,rfl⟩
  simp
theorem aC.ne_to {w:World} {B g:Nat} {vt vo:Value} {y:Oc} (h:aC w B g vt vo y):vo.ownBlock ≠ some g:=fun e=>bv h.o h.lies eV e.symm
theorem aC.ne_t {w:World} {B g:Nat} {vt vo:Value} {y:Oc} (h:aC w B g vt vo y):vt.ownBlock ≠ some g:=fun e=>bv h.t h.lies fk e.symm
theorem aC.setO {w w' : World} {B g:Nat} {vt vo vo' : Value} {y:Oc} {os:List ae} (h:aC w B g vt vo y) (hg:w.grownBy w' vo.ownBlock) (ho:w'.ownsRow B 147 3 vo' os.length (os.flatMap ae.enc)) :
  aC (w'.setCell ⟨g,1,none⟩ vo') B g vt vo' { y with o:=os }:=by
 have hL:ah w' g 40 _:=h.lies.kept hg (fun e=>h.ne_to e.symm)
 have ht:=eU h.t h.o r7 hg
 exact ⟨hL.set 1 vo',h.hg,am ht hL fk 1 vo',am ho hL eV 1 vo'⟩
theorem oA (t u:ae) (w:World):Calls vx 118 (#[t.val,u.val]++#[]) w fun e w'=>e=.returned (O U (jg t u))∧Below w.heap.size w w':=hH t u w
set_option maxRecDepth 100000 in
theorem q9 (B g:Nat) (vt vo:Value) (y:Oc) (k p b:Int) (w:World) (h:aC w B g vt vo y) (hB:B≤w.heap.size) (ha:nV y.o) (hn:y.o.length≤100000) (yk:∀ h:dB y.o k p < y.o.length,fc k p y.o[dB y.o k p]=false) :
  Calls vx 216 #[.pointer (some ⟨g,0,none⟩),O U k,O U p,O U b] w fun e w'=>∃ vo',e=.returned (.tuple #[])∧aC w' B g vt vo' { y with o:=eM k p b y.o }∧Below B w w':=by
 have b1:=bZ w (.cells #[O U k,O U p,O U b] 147)
 have L1:=ah.new w 147 #[O U k,O U p,O U b]
 have h1:=h.then b1
 have HC:=jZ (pP y.o yk (b:=b))
 have zn:∀ i (h:i < y.o.length),i < dB y.o k p→jg y.o[i] ⟨k,p,b⟩ < 0:=fun i h hi=>mU.2 (o7 y.o k p i h hi)
 have As:∀ i (h:i < y.o.length),dB y.o k p≤i→¬ jg y.o[i] ⟨k,p,b⟩ < 0:=fun i h hi hc=>o8 y.o k p ha i h hi (mU.1 hc)
 have At:∀ h:dB y.o k p < y.o.length,false=decide (jg y.o[dB y.o k p] ⟨k,p,b⟩=0):=fun h=>by rw [oz,yk h]
 have yO:=sa y.o k p
 obtain ⟨A0,c0,rfl⟩:=az h.o
 have cB:∀ W,Below (w.alloc (.cells #[O U k,O U p,O U b] 147)).heap.size (w.alloc (.cells #[O U k,O U p,O U b] 147)) W→Calls vx 235 #[F A0 y.o.length c0,.agg #[O U k,O U p,O U b],.func (.func 118) #[] #[]] W fun e w'=>e=.returned (.tuple #[O U (dB y.o k p),.bool false])∧Below W.heap.size W w':=fun W hb =>
  kY (fun o=>jg o ⟨k,p,b⟩) ⟨k,p,b⟩ 118 #[] Tryz.call118 A0 c0 y.o W (fun t p=>oA t _ p.val) (ay (h1.then hb).o) oM (dB y.o k p) yO zn As false At (fun _=>rfl)
 generalize dB y.o k p=q at cB HC yO
 clear zn As At yk ha
 go_enter Tryz.func216,Tryz.ntmps216
 go_wp2
 generalize w.alloc (.cells #[O U k,O U p,O U b] 147)=W at b1 L1 h1 cB ⊢
 have ye:∀ r:ap W.heap.size W,r.val.cell? ⟨g,1,none⟩=some (F A0 y.o.length c0):=fun r=>(r.cell h1.lies.lt).trans (h1.lies.cell 1)
 have zh:∀ r:ap W.heap.size W,r.val.cell? ⟨w.heap.size,0,none⟩=some (O U k):=fun r=>(r.cell L1.lt).trans (L1.cell 0)
 have yT:∀ r:ap W.heap.size W,r.val.cell? ⟨w.heap.size,1,none⟩=some (O U p):=fun r=>(r.cell L1.lt).trans (L1.cell 1)
 have yU:∀ r:ap W.heap.size W,r.val.cell? ⟨w.heap.size,2,none⟩=some (O U b):=fun r=>(r.cell L1.lt).trans (L1.cell 2)
 have cB':=fun r:ap W.heap.size W=>cB r.val r.below
 refine ar kZ kZ ?_
 repeat (any_goals (first | go_big_quiet_step ((go_at_call 235; refine aQ nR (cB' _))) | (refine wpQuiet_step (fun K hK=>?_); go_simp; split <;> (refine hK _ ?_; clear hK K))))
 all_goals (refine wpQuiet_nil ?_; rintro _ ⟨q1,rfl⟩)
 all_goals go_wp2
 have h2:=h1.then q1.below
 have b2:Below w.heap.size w q1.val:=b1.trans (q1.below.mono b1.size)
 clear ye cB cB' h1 b1
 have c1:q1.val.cell? ⟨g,1,none⟩=some (F A0 y.o.length c0):=h2.lies.cell 1
 have e0:=zh q1
 have e1:=yT q1
 have e2:=yU q1
 clear zh yT yU
 have bS:=(Below.refl q1.val.heap.size q1.val).alloc nR (.cells #[O U k,O U p,O U b] 147)
 have hS:aC (q1.val.alloc (.cells #[O U k,O U p,O U b] 147)).drew B g vt (F A0 y.o.length c0) y:=(h2.then bS).then jB.drew
 have EM:B≤q1.val.heap.size:=jT hB b2.size
 have cI:=n6 B (F A0 y.o.length c0) y.o.length (y.o.flatMap ae.enc) (q1.val.alloc (.cells #[O U k,O U p,O U b] 147)).drew hS.o oM q yO ⟨k,p,b⟩ q1.val.heap.size 1 (ah.new q1.val 147 #[O U k,O U p,O U b]).drew (fun e=>by have:=(h2.o.lt _ e).2; omega) (jT EM bS.size) fg
 rw [show (y.o.flatMap ae.enc).take (q * 3)++ae.enc ⟨k,p,b⟩++(y.o.flatMap ae.enc).drop (q * 3)=(eM k p b y.o).flatMap ae.enc by rw [HC.out,pO ae.enc 3 ae.enc_len]] at cI
 have vG:y.o.length+1=(eM k p b y.o).length:=by rw [HC.out]; simp; omega
 rw [vG] at cI
 have c1':=hS.lies.cell 1
 simp only [gz0,gz1] at c1'
 have HS:=jZ hS; clear hS
 have Hd:=jZ vG; clear vG
 go_region_law (first | (go_simp; go_at_call 236; refine cI.mono ?_; rintro e w9 ⟨v',rfl,HO,xt⟩; obtain ⟨A9,c9,rfl⟩:=az HO; have k1:=(HS.out.lies.kept xt (fun e=>HS.out.ne_to e.symm)).cell 1; have k2:=(HS.out.lies.kept xt (fun e=>HS.out.ne_to e.symm)).frozen 1; simp only [gz0,gz1] at k1))
 all_goals
  go_wp2
  refine bodyPost_ret (results_none rfl _ _ _) rfl ?_
  have hO:=HS.out.setO xt HO
  refine ⟨_,rfl,hO, ?_⟩
  have bq:Below B w (q1.val.alloc (.cells #[O U k,O U p,O U b] 147)).drew:=(b2.mono hB).trans ((bS.drew).mono EM)
  have b9:Below B w w9:=bq.grown xt (jT EM bS.size) (fun j hj=>(HS.out.o.lt _ hj).1)
  exact b9.grown (ab (World.grownBy.refl w9 (some g))) (jT hB b9.size) (by rintro _ ⟨⟩; exact HS.out.hg)
set_option maxRecDepth 100000 in
theorem rc (B g:Nat) (vt vo:Value) (y:Oc) (k p b:Int) (w:World) (h:aC w B g vt vo y) (hB:B≤w.heap.size) (ha:nV y.o) (hn:y.o.length≤100000) (vH:dB y.o k p < y.o.length) (hold:fc k p y.o[dB y.o k p]=true)
  (hc : -1000000000≤y.o[dB y.o k p].c∧y.o[dB y.o k p].c≤1000000000) (hb : -1000000000≤b∧b≤1000000000) :
  Calls vx 216 #[.pointer (some ⟨g,0,none⟩),O U k,O U p,O U b] w fun e w'=>∃ vo',e=.returned (.tuple #[])∧aC w' B g vt vo' { y with o:=eM k p b y.o }∧Below B w w':=by
 have b1:=bZ w (.cells #[O U k,O U p,O U b] 147)
 have L1:=ah.new w 147 #[O U k,O U p,O U b]
 have h1:=h.then b1
 have HC:=jZ (pQ y.o vH hold (b:=b))
 have zn:∀ i (h:i < y.o.length),i < dB y.o k p→jg y.o[i] ⟨k,p,b⟩ < 0:=fun i h hi=>mU.2 (o7 y.o k p i h hi)
 have As:∀ i (h:i < y.o.length),dB y.o k p≤i→¬ jg y.o[i] ⟨k,p,b⟩ < 0:=fun i h hi hc=>o8 y.o k p ha i h hi (mU.1 hc)
 have At:∀ h:dB y.o k p < y.o.length,true=decide (jg y.o[dB y.o k p] ⟨k,p,b⟩=0):=fun h=>by rw [oz,hold]
 have yO:=sa y.o k p
 obtain ⟨go,cap,rest,rfl,JZ,Ka,vM⟩:=cd h.o oM
 have cB:∀ W,Below (w.alloc (.cells #[O U k,O U p,O U b] 147)).heap.size (w.alloc (.cells #[O U k,O U p,O U b] 147)) W→Calls vx 235 #[F (some ⟨go,0,none⟩) y.o.length cap,.agg #[O U k,O U p,O U b],.func (.func 118) #[] #[]] W fun e w'=>e=.returned (.tuple #[O U (dB y.o k p),.bool true])∧Below W.heap.size W w':=fun W hb =>
  kY (fun o=>jg o ⟨k,p,b⟩) ⟨k,p,b⟩ 118 #[] Tryz.call118 _ cap y.o W (fun t p=>oA t _ p.val) (ay (h1.then hb).o) oM (dB y.o k p) yO zn As true At (fun e=>by omega)
 have vJ : ¬ go=g:=fun e=>h.ne_to (by rw [← e]; rfl)
 have hne' : ¬ g=go:=fun e=>vJ e.symm
 obtain ⟨q,hq⟩ : ∃ q,q=dB y.o k p:=⟨_,rfl⟩
 have hlt' : q < y.o.length:=by rw [hq]; exact vH
 have Dj:y.o[dB y.o k p]=y.o[q]:=by congr 1; exact hq.symm
 rw [Dj] at hc HC
 rw [← hq] at cB HC yO
 obtain ⟨r,wl⟩ : ∃ r,r=y.o[q]:=⟨_,rfl⟩
 rw [← wl] at hc HC
 clear Dj hold At
 have EN:(y.o.flatMap ae.enc)[q * 3+2]?=some (O U r.c):=by rw [eY ae.enc 3 ae.enc_len y.o q hlt' 2 oM,← wl]; rfl
 have EP:=jZ (sx (c:=r.c+b) hlt')
 rw [← wl] at EP
 have hq3:q * 3+2 < y.o.length * 3:=oM
 clear zn As ha wl Ka rest hq vH
 obtain ⟨ye,DY⟩:=hc
 obtain ⟨vD,vC⟩:=hb
 go_enter Tryz.func216,Tryz.ntmps216
 go_wp2
 generalize w.alloc (.cells #[O U k,O U p,O U b] 147)=W at b1 L1 h1 cB ⊢
 have ye:∀ r:ap W.heap.size W,r.val.cell? ⟨g,1,none⟩=some (F (some ⟨go,0,none⟩) y.o.length cap):=fun r=>(r.cell h1.lies.lt).trans (h1.lies.cell 1)
 have zh:∀ r:ap W.heap.size W,r.val.cell? ⟨w.heap.size,0,none⟩=some (O U k):=fun r=>(r.cell L1.lt).trans (L1.cell 0)
 have yT:∀ r:ap W.heap.size W,r.val.cell? ⟨w.heap.size,1,none⟩=some (O U p):=fun r=>(r.cell L1.lt).trans (L1.cell 1)
 have yU:∀ r:ap W.heap.size W,r.val.cell? ⟨w.heap.size,2,none⟩=some (O U b):=fun r=>(r.cell L1.lt).trans (L1.cell 2)
 have cB':=fun r:ap W.heap.size W=>cB r.val r.below
 refine ar kZ kZ ?_
 repeat (any_goals (first | go_big_quiet_step ((go_at_call 235; refine aQ nR (cB' _))) | (refine wpQuiet_step (fun K hK=>?_); go_simp; split <;> (refine hK _ ?_; clear hK K))))
 all_goals (refine wpQuiet_nil ?_; rintro _ ⟨q1,rfl⟩)
 have h2:=h1.then q1.below
 have b2:Below w.heap.size w q1.val:=b1.trans (q1.below.mono b1.size)
 have EM:B≤q1.val.heap.size:=jT hB b2.size
 clear ye cB cB' h1 b1 zh yT yU
 have c1:q1.val.cell? ⟨g,1,none⟩=some (F (some ⟨go,0,none⟩) y.o.length cap):=h2.lies.cell 1
 have c1f:q1.val.frozen? ⟨g,1,none⟩=false:=h2.lies.frozen 1
 have c2:q1.val.cell? ⟨go,q * 3+2,none⟩=some (O U r.c):=(h2.o.cellAt _ hq3).trans EN
 have c2f:q1.val.frozen? ⟨go,q * 3+2,none⟩=false:=h2.o.frozenAt _
 have wa:=mq h2.o (q * 3+2) (O U (r.c+b)) hq3
 rw [EP.out] at wa
 have xR:=h2.lies.other (p:=⟨go,q * 3+2,none⟩) hne' (O U (r.c+b))
 have wJ:=eU (w':=q1.val.setCell ⟨go,q * 3+2,none⟩ (O U (r.c+b))) h2.t h2.o r7 (ab (World.grownBy.refl q1.val (some go)))
 have b3:Below B w (q1.val.setCell ⟨go,q * 3+2,none⟩ (O U (r.c+b))):=(b2.mono hB).grown (ab (World.grownBy.refl q1.val (some go))) EM (by rintro _ ⟨⟩; exact JZ)
 have s3:q1.val.heap.size≤(q1.val.setCell ⟨go,q * 3+2,none⟩ (O U (r.c+b))).heap.size:=by simp [World.setCell]
 by_cases hz:r.c+b=0
 ·have HZ:=jZ hz
  have hz' : (r.c+b == 0)=true:=by simp [hz]
  clear hz
  rw [if_pos HZ.out] at HC
  have vR:aC (q1.val.setCell ⟨go,q * 3+2,none⟩ (O U (r.c+b))) B g vt (F (some ⟨go,0,none⟩) y.o.length cap) { y with o:=y.o.set q ⟨r.k,r.p,r.c+b⟩ }:=⟨xR,h.hg,wJ,by simpa using wa⟩
  have cD:=n7 B (F (some ⟨go,0,none⟩) y.o.length cap) y.o.length ((y.o.set q ⟨r.k,r.p,r.c+b⟩).flatMap ae.enc) (q1.val.setCell ⟨go,q * 3+2,none⟩ (O U (r.c+b))) wa oM q hlt' fg
  rw [← tM ae.enc 3 ae.enc_len,List.take_set_of_le nR,List.drop_set_of_lt (Nat.lt_succ_self _),← HC.out] at cD
  have vG:y.o.length - 1=(eM k p b y.o).length:=by rw [HC.out]; simp; omega
  rw [vG] at cD
  have Hd:=jZ vG; clear vG
  have Cn:=jZ vR; clear vR
  go_wp2_with fail
  refine cD.mono ?_
  rintro e w9 ⟨v',rfl,HO,xt,_⟩
  obtain ⟨A9,c9,rfl⟩:=az HO
  have vI:=Cn.out.lies.kept xt (fun e=>Cn.out.ne_to e.symm)
  have k1:=vI.cell 1
  have k2:=vI.frozen 1
  simp only [gz0,gz1] at k1
  have hO:=Cn.out.setO xt HO
  have b9:Below B w w9:=b3.grown xt (jT hB b3.size) (fun j hj=>(Cn.out.o.lt _ hj).1)
  have b10:=b9.grown (ab (g:=g) (i:=1) (u:=F A9 (eM k p b y.o).length c9) (World.grownBy.refl w9 (some g))) (jT hB b9.size) (by rintro _ ⟨⟩; exact h.hg)
  go_wp2
  go_end0
  exact ⟨_,rfl,hO,b10⟩
 ·have HZ:=jZ hz
  have hz' : (r.c+b == 0)=false:=by simp [hz]
  clear hz
  rw [if_neg HZ.out] at HC
  go_wp2
  go_end0
  exact ⟨_,rfl,⟨xR,h.hg,wJ,by rw [HC.out]; simpa using wa⟩,b3⟩
theorem gj (B g:Nat) (vt vo:Value) (y:Oc) (k p b:Int) (w:World) (h:aC w B g vt vo y) (hB:B≤w.heap.size) (ha:nV y.o) (hn:y.o.length≤100000) (hc:∀ o ∈ y.o, -1000000000≤o.c∧o.c≤1000000000) (hb : -1000000000≤b∧b≤1000000000) :
  Calls vx 216 #[.pointer (some ⟨g,0,none⟩),O U k,O U p,O U b] w fun e w'=>∃ vo',e=.returned (.tuple #[])∧aC w' B g vt vo' { y with o:=eM k p b y.o }∧Below B w w':=by
 by_cases h0:∃ h:dB y.o k p < y.o.length,fc k p y.o[dB y.o k p]=true
 ·obtain ⟨vH,hi⟩:=h0
  exact rc B g vt vo y k p b w h hB ha hn vH hi (hc _ (List.getElem_mem _)) hb
 ·exact q9 B g vt vo y k p b w h hB ha hn (fun h'=>by
   cases hi:fc k p y.o[dB y.o k p]
   ·rfl
   ·exact absurd ⟨h',hi⟩ h0)
def Oc.fin (r:Oc):Option Oc:=if r.good then some r else none
def bf (y:Oc) (s:cU):Option Oc :=
 if s.kind=1 then Oc.fin { y with t:=aj y.t s.stamp s.value,gt:=y.gt+s.value }
 else if ¬ 0≤ax y.t s.stamp then none
 else if s.kind=2 then Oc.fin { y with t:=aj y.t s.stamp (-s.value),o:=eM s.stamp s.person s.value y.o }
 else if aN s.stamp s.person y.o=0∧0 < s.person then none
 else if s.kind=3 then Oc.fin { y with t:=aj y.t s.stamp s.value,o:=eM s.stamp s.person (-s.value) y.o }
 else if s.kind=4 then (if s.person=0 then Oc.fin { y with t:=aj y.t s.stamp (-s.value),sd:=y.sd+s.value } else Oc.fin { y with o:=eM s.stamp s.person (-s.value) y.o,sd:=y.sd+s.value })
 else if s.kind=5 then Oc.fin { y with o:=eM s.stamp s.person (-aN s.stamp s.person y.o) y.o,ms:=y.ms+aN s.stamp s.person y.o }
 else Oc.fin { y with o:=eM s.stamp s.value (aN s.stamp s.person y.o) (eM s.stamp s.person (-aN s.stamp s.person y.o) y.o) }
def Oc.zero:Oc:=⟨[],[],0,0,0⟩
def cz (R:Option Oc):Oc:=R.getD Oc.zero
def aE (w:World) (R:Option Oc) (e:Ending) (w' : World):Prop :=
 ∃ TA tc OA oc,e=.returned (.tuple #[aO.val ((cz R).at TA tc OA oc),.bool R.isSome])∧w'.ownsRow w.heap.size 104 2 (F TA (cz R).t.length tc) (cz R).t.length ((cz R).t.flatMap aq.enc) ∧
  w'.ownsRow w.heap.size 147 3 (F OA (cz R).o.length oc) (cz R).o.length ((cz R).o.flatMap ae.enc)∧Below w.heap.size w w'
theorem aE.no {w w' : World} {e:Ending} (he:e=.returned (.tuple #[.agg #[F none 0 0,F none 0 0,O U 0,O U 0,O U 0],.bool false])) (hb:Below w.heap.size w w'):aE w none e w' :=
 ⟨none,0,none,0,he,World.ownsRow_nil _ _ _ _,World.ownsRow_nil _ _ _ _,hb⟩
theorem aE.yes {w w' : World} {e:Ending} {r:Oc} {A1 A2:Option Addr} {a1 a2:Nat} (he:e=.returned (.tuple #[.agg #[F A1 r.t.length a1,F A2 r.o.length a2,O U r.gt,O U r.sd,O U r.ms],.bool true]))
  (h8:w'.ownsRow w.heap.size 104 2 (F A1 r.t.length a1) r.t.length (r.t.flatMap aq.enc)) (h9:w'.ownsRow w.heap.size 147 3 (F A2 r.o.length a2) r.o.length (r.o.flatMap ae.enc)) (hb:Below w.heap.size w w'):aE w (some r) e w' :=
 ⟨A1,a1,A2,a2,he,h8,h9,hb⟩
theorem aC.at_ {w:World} {B g:Nat} {A1 A2:Option Addr} {c1 c2:Nat} {y:Oc} (h:aC w B g (F A1 y.t.length c1) (F A2 y.o.length c2) y):cm w w.heap.size g (y.at A1 c1 A2 c2) :=
 cm.of (x:=y.at A1 c1 A2 c2) h.lies ⟨ay h.t,ay h.o⟩
theorem aC.form {w:World} {B g:Nat} {vt vo:Value} {y:Oc} (h:aC w B g vt vo y):∃ A1 c1 A2 c2,vt=F A1 y.t.length c1∧vo=F A2 y.o.length c2:=by
 obtain ⟨A1,c1,h1⟩:=az h.t
 obtain ⟨A2,c2,h2⟩:=az h.o
 exact ⟨A1,c1,A2,c2,h1,h2⟩
theorem tN (t:ae) (gs:Nat) (kd st pe va:Int) (w:World) (hL:ah w gs 112 [O U kd,O U st,O U pe,O U va]) :
  Calls vx 215 (#[t.val]++#[.pointer (some ⟨gs,0,none⟩)]) w fun e w'=>e=.returned (.bool (fc st pe t))∧Below w.heap.size w w':=by
 show Calls vx 215 #[t.val,.pointer (some ⟨gs,0,none⟩)] w _
 have b1:=bZ w (.cells #[O U t.k,O U t.p,O U t.c] 147)
 have c1:∀ r:ap w.heap.size w,r.val.cell? ⟨gs,1,none⟩=some (O U st):=fun r=>(r.cell hL.lt).trans (hL.cell 1)
 have c2:∀ r:ap w.heap.size w,r.val.cell? ⟨gs,2,none⟩=some (O U pe):=fun r=>(r.cell hL.lt).trans (hL.cell 2)
 have HI:Hid (fc st pe t=(decide (t.k=st) && decide (t.p=pe))):=rfl
 have Di:=ah.new w 147 #[O U t.k,O U t.p,O U t.c]
 obtain ⟨q,hq⟩ : ∃ q:ap w.heap.size w,w.alloc (.cells #[O U t.k,O U t.p,O U t.c] 147)=q.val:=⟨⟨_,b1⟩,rfl⟩
 rw [hq] at Di
 obtain ⟨d0,d1⟩:=cells2 Di
 have yu:=q.below.size
 by_cases h1:t.k=st
 ·have v1:(t.k == st)=true:=by simp [h1]
  have H1:=jZ h1; clear h1
  by_cases h2:t.p=pe
  ·have v2:(t.p == pe)=true:=by simp [h2]
   have H2:=jZ h2; clear h2
   go_enter Tryz.func215,Tryz.ntmps215
   go_wp2_with (rw [hq])
   all_goals go_ret
   all_goals exact ⟨by rw [HI.out,jD H1.out,jD H2.out]; rfl,q.below⟩
  ·have v2:(t.p == pe)=false:=by simp [h2]
   have H2:=jZ h2; clear h2
   go_enter Tryz.func215,Tryz.ntmps215
   go_wp2_with (rw [hq])
   all_goals go_ret
   all_goals exact ⟨by rw [HI.out,jD H1.out,jE H2.out]; rfl,q.below⟩
 ·have v1:(t.k == st)=false:=by simp [h1]
  have H1:=jZ h1; clear h1
  go_enter Tryz.func215,Tryz.ntmps215
  go_wp2_with (rw [hq])
  all_goals go_ret
  all_goals exact ⟨by rw [HI.out,jE H1.out]; rfl,q.below⟩
theorem re (t:aq) (kd:Int) (w:World):Calls vx 213 (#[t.val,O U kd]++#[]) w fun e w'=>e=.returned (O U (iu t.k kd))∧Below w.heap.size w w':=by
 show Calls vx 213 #[t.val,O U kd] w _
 have b1:=bZ w (.cells #[O U t.k,O U t.c] 104)
 have hc:=fun W=>jH t.k kd W
 go_enter Tryz.func213,Tryz.ntmps213
 go_wp2_with fail
 refine (hc _).mono ?_
 rintro e w' ⟨rfl,rfl⟩
 go_wp2
 go_ret
 exact ⟨rfl,b1⟩
theorem ia {ts:List aq} {kd n:Int} {i:Nat} (h:ax ts kd=i) (hi:i < ts.length):aj ts kd n=ts.set i ⟨ts[i].k,ts[i].c+n⟩:=by
 unfold aj
 rw [h,if_pos oM,Int.toNat_natCast,List.getD_eq_getElem?_getD,List.getElem?_eq_getElem hi]; rfl
theorem aC.setT {w:World} {B g gT cT i:Nat} {vo:Value} {y:Oc} (h:aC w B g (F (some ⟨gT,0,none⟩) y.t.length cT) vo y) (hi:i < y.t.length) (c:Int) :
  aC (w.setCell ⟨gT,i * 2+1,none⟩ (O U c)) B g (F (some ⟨gT,0,none⟩) y.t.length cT) vo { y with t:=y.t.set i ⟨y.t[i].k,c⟩ }∧Below B w (w.setCell ⟨gT,i * 2+1,none⟩ (O U c))∧w.cell? ⟨gT,i * 2+1,none⟩=some (O U y.t[i].c)∧w.frozen? ⟨gT,i * 2+1,none⟩=false:=by
 have hj:i * 2+1 < y.t.length * 2:=oM
 have hB:B≤gT:=(h.t.lt gT rfl).1
 have vH:gT < w.heap.size:=(h.t.lt gT rfl).2
 have hg:gT ≠ g:=fun e=>h.ne_t (by rw [← e]; rfl)
 have ht:=mq h.t (i * 2+1) (O U c) hj
 rw [sB hi] at ht
 have vO:w.grownBy (w.setCell ⟨gT,i * 2+1,none⟩ (O U c)) (some gT):=ab (World.grownBy.refl w (some gT))
 refine ⟨⟨h.lies.other (p:=⟨gT,i * 2+1,none⟩) (fun e=>hg e.symm) _,h.hg,by simpa using ht,eU (v':=F (some ⟨gT,0,none⟩) y.t.length cT) h.o h.t (Ne.symm r7) vO⟩, ?_, ?_,h.t.frozenAt _⟩
 ·exact (Below.refl B w).grown vO (Nat.le_of_lt (Nat.lt_of_le_of_lt hB vH)) (by rintro _ ⟨⟩; exact hB)
 ·rw [h.t.cellAt _ hj,eY aq.enc 2 aq.enc_len y.t i hi 1 oM]; rfl
theorem aC.setT' {w:World} {B g gT cT i:Nat} {vo:Value} {y:Oc} (h:aC w B g (F (some ⟨gT,0,none⟩) y.t.length cT) vo y) (hi:i < y.t.length) (tr:aq) (xD:y.t[i]=tr) (c:Int) :
  aC (w.setCell ⟨gT,i * 2+1,none⟩ (O U c)) B g (F (some ⟨gT,0,none⟩) y.t.length cT) vo { y with t:=y.t.set i ⟨tr.k,c⟩ }∧Below B w (w.setCell ⟨gT,i * 2+1,none⟩ (O U c))∧w.cell? ⟨gT,i * 2+1,none⟩=some (O U tr.c)∧w.frozen? ⟨gT,i * 2+1,none⟩=false:=by
 subst xD; exact h.setT hi c
theorem aC.setN {w:World} {B g:Nat} {vt vo:Value} {y:Oc} (h:aC w B g vt vo y) (c:Int) :
  aC (w.setCell ⟨g,2,none⟩ (O U c)) B g vt vo { y with gt:=c }∧aC (w.setCell ⟨g,3,none⟩ (O U c)) B g vt vo { y with sd:=c }∧aC (w.setCell ⟨g,4,none⟩ (O U c)) B g vt vo { y with ms:=c } :=
 ⟨⟨h.lies.set 2 _,h.hg,am h.t h.lies fk 2 _,am h.o h.lies eV 2 _⟩,⟨h.lies.set 3 _,h.hg,am h.t h.lies fk 3 _,am h.o h.lies eV 3 _⟩,⟨h.lies.set 4 _,h.hg,am h.t h.lies fk 4 _,am h.o h.lies eV 4 _⟩⟩
theorem aC.belowN {w:World} {B g:Nat} {vt vo:Value} {y:Oc} (h:aC w B g vt vo y) (i:Nat) (u:Value):Below B w (w.setCell ⟨g,i,none⟩ u) :=
 (Below.refl B w).grown (ab (World.grownBy.refl w (some g))) (Nat.le_of_lt (Nat.lt_of_le_of_lt h.hg h.lies.lt)) (by rintro _ ⟨⟩; exact h.hg)
theorem bH.asc {x:aO} (h:bH x):nV x.o:=(kT x.t x.o none h.os).1
theorem bH.at_ {x:aO} (h:bH x) (st pe:Int):aW (fc st pe) x.o=aN st pe x.o:=by
 have:=lG (k:=st) (p:=pe) x.o 0 h.asc
 rwa [Int.zero_add] at this
theorem bH.at_bd {x:aO} (h:bH x) (st pe:Int):0≤aN st pe x.o∧aN st pe x.o≤9999:=by
 rcases lF (k:=st) (p:=pe) x.o with h0 | ⟨o,ho,_,hc⟩
 ·omega
 ·obtain ⟨j,hj,rfl⟩:=List.getElem_of_mem ho
  have:=(ae.bounds (h.oall j hj)).2.2
  omega
theorem bH.oc {x:aO} (h:bH x):∀ o ∈ x.o, -1000000000≤o.c∧o.c≤1000000000:=fun o ho=>by
 obtain ⟨j,hj,rfl⟩:=List.getElem_of_mem ho
 have:=(ae.bounds (h.oall j hj)).2.2
 omega
theorem dH {B g gs:Nat} {x:aO} {kd st pe va:Int} {w:World} (hL:ah w gs 112 [O U kd,O U st,O U pe,O U va]) (hA:cm w w.heap.size g x) (G:bH x) (_hB:B≤w.heap.size) :
  Calls vx 120 #[.pointer (some ⟨g,0,none⟩),.func (.func 215) #[] #[.pointer (some ⟨gs,0,none⟩)]] w fun e w'=>e=.returned (O U (aN st pe x.o))∧Below w.heap.size w w':=by
 have:=fp (fc st pe) 215 #[.pointer (some ⟨gs,0,none⟩)] Tryz.call215 x g w (fun o p=>tN o gs kd st pe va p.val (hL.below p.below hL.lt)) hA G.ol G.oall
 rwa [G.at_] at this
theorem aC.setTs {w w' : World} {B g:Nat} {vt vt' vo:Value} {y:Oc} {ts:List aq} (h:aC w B g vt vo y) (hg:w.grownBy w' vt.ownBlock) (ht:w'.ownsRow B 104 2 vt' ts.length (ts.flatMap aq.enc)) :
  aC (w'.setCell ⟨g,0,none⟩ vt') B g vt' vo { y with t:=ts }:=by
 have hL:ah w' g 40 _:=h.lies.kept hg (fun e=>h.ne_t e.symm)
 have ho:=eU h.o h.t (Ne.symm r7) hg
 exact ⟨hL.set 0 vt',h.hg,am ht hL fk 0 vt',am ho hL eV 0 vt'⟩
theorem sc {a b:Int} : iu a b < 0 ↔ a < b:=by
 unfold iu; split
 ·simp [*]
 ·split <;> simp [*]
theorem sC {a b:Int} : iu a b=0 ↔ a=b:=by
 unfold iu; split
 ·simp; omega
 ·split
  ·simp; omega
  ·simp; omega
theorem bH.ascT {x:aO} (h:bH x):vp x.t:=(kv x.t 0 0 h.ts).1
theorem rf (ts:List aq) (kd:Int):∃ h:dy ts kd < (ed ts kd).length,(ed ts kd)[dy ts kd]=⟨kd,0⟩:=by
 have hl:(ts.take (dy ts kd)).length=dy ts kd:=by rw [List.length_take,Nat.min_eq_left (jY ts kd)]
 have h:(ed ts kd)[dy ts kd]?=some ⟨kd,0⟩:=by
  unfold ed; rw [List.getElem?_append_right oM,hl,Nat.sub_self]; rfl
 exact List.getElem?_eq_some_iff.1 h
theorem pR (ts:List aq) (kd:Int):(ed ts kd).length=ts.length+1:=by
 have:=jY ts kd
 unfold ed; simp; omega
section
variable {P:Program} {ops:Array Oper} {Q:Exit→Act→World→Prop}
def gD (P:Program) (ops:Array Oper) (Q:Exit→Act→World→Prop) (C:World→Prop) (T:World→World→Prop) (fr:(Nat→Value)→Act):Nat→List Oper→List (Value→World→Prop)→Prop
 | _,[],_=>False
 | k,o :: l,Rs=>(l = []∧∀ vs w,C w→(∀ (j:Nat) (R:Value→World→Prop),Rs[j]?=some R→R (vs j) w)→∀ K:Act→World→Prop,(∀ a' w',Q .normal a' w'→K a' w') →
   if Region.wanted o (yielded ops (fr vs).tmps)=true then o.wp P (fr vs) w K Q else K ((fr vs).put o.dst undef) w) ∨
  (∃ R:Value→World→Prop,(∀ v w w',R v w→T w w'→R v w') ∧
  (∀ vs w,C w→(∀ (j:Nat) (R' : Value→World→Prop),bP .any ops ops.size k j=true→Rs[j]?=some R'→R' (vs j) w)→∀ K:Act→World→Prop,(∀ a' v w',a'=(fr vs).put o.dst v→R v w'→C w'→T w w'→K a' w') →
   if Region.wanted o (yielded ops (fr vs).tmps)=true then o.wp P (fr vs) w K Q else K ((fr vs).put o.dst undef) w) ∧
  gD P ops Q C T fr (k+1) l (Rs++[R]))
theorem lc {C:World→Prop} {T:World→World→Prop} {fr:(Nat→Value)→Act} : ∀ (l:List Oper) (k:Nat) (Rs:List (Value→World→Prop)),(∀ i,l[i]?=ops[k+i]?)→Rs.length=k →
  (∀ (j:Nat) (R:Value→World→Prop),Rs[j]?=some R→∀ v w w',R v w→T w w'→R v w') →
  (∀ (j:Nat) (o:Oper) (R:Value→World→Prop),j < k→ops[j]?=some o→Rs[j]?=some R→∀ vs w,C w→(∀ (j' : Nat) (R' : Value→World→Prop),bP .any ops ops.size j j'=true→j' < j→Rs[j']?=some R'→R' (vs j') w)→∀ K:Act→World→Prop,(∀ a' v w',a'=(fr vs).put o.dst v→R v w'→C w'→T w w'→K a' w') →
   if Region.wanted o (yielded ops (fr vs).tmps)=true then o.wp P (fr vs) w K Q else K ((fr vs).put o.dst undef) w) →
  gD P ops Q C T fr k l Rs →
  ∃ Rs' : List (Value→World→Prop),Rs'.length+1=ops.size∧(∀ (j:Nat) (R:Value→World→Prop),Rs'[j]?=some R→∀ v w w',R v w→T w w'→R v w') ∧
  (∀ (j:Nat) (o:Oper) (R:Value→World→Prop),ops[j]?=some o→Rs'[j]?=some R→∀ vs w,C w→(∀ (j' : Nat) (R' : Value→World→Prop),bP .any ops ops.size j j'=true→j' < j→Rs'[j']?=some R'→R' (vs j') w)→∀ K:Act→World→Prop,(∀ a' v w',a'=(fr vs).put o.dst v→R v w'→C w'→T w w'→K a' w') →
   if Region.wanted o (yielded ops (fr vs).tmps)=true then o.wp P (fr vs) w K Q else K ((fr vs).put o.dst undef) w) ∧
  (∀ o,ops[Rs'.length]?=some o→∀ vs w,C w→(∀ (j:Nat) (R:Value→World→Prop),Rs'[j]?=some R→R (vs j) w)→∀ K:Act→World→Prop,(∀ a' w',Q .normal a' w'→K a' w') →
   if Region.wanted o (yielded ops (fr vs).tmps)=true then o.wp P (fr vs) w K Q else K ((fr vs).put o.dst undef) w)
 | [],k,Rs,_,_,_,_,h=>h.elim
 | o :: l,k,Rs,hl,vG,vX,zH,h=>by
  have ho:ops[k]?=some o:=by simpa using (hl 0).symm
  rcases h with ⟨rfl,hlast⟩ | ⟨R,Eu,Ev,hrest⟩
  ·have h1:ops[k+1]?=none:=by have:=hl 1; simpa using this.symm
   have hk:k < ops.size:=(Array.getElem?_eq_some_iff.1 ho).1
   have Ba : ¬ k+1 < ops.size:=fun hh=>by rw [Array.getElem?_eq_getElem hh] at h1; cases h1
   refine ⟨Rs,oM,vX,fun j o R ho hR=>zH j o R ?_ ho hR,fun o' ho'=>?_⟩
   ·rw [← vG]; exact (List.getElem?_eq_some_iff.1 hR).1
   ·rw [vG,ho] at ho'; cases ho'; exact hlast
  ·have hold:∀ j,j < k→(Rs++[R])[j]?=Rs[j]?:=fun j hj=>List.getElem?_append_left oM
   have yk:(Rs++[R])[k]?=some R:=by rw [List.getElem?_append_right oM,vG]; simp
   exact lc l (k+1) (Rs++[R]) (fun i=>by have:=hl (i+1); simpa [Nat.add_assoc,Nat.add_comm 1 i] using this) (by simp [vG])
    (fun j R' wm=>by
     rcases Nat.lt_trichotomy j k with hj | hj | hj
     ·rw [hold j hj] at wm; exact vX j R' wm
     ·subst hj; rw [yk] at wm; cases wm; exact Eu
     ·rw [List.getElem?_eq_none (by simp [vG]; omega)] at wm; cases wm)
    (fun j o' R' hj ho' wm vs w hC hB K hK=>by
     rcases Nat.lt_or_ge j k with Be | Be
     ·rw [hold j Be] at wm
      exact zH j o' R' Be ho' wm vs w hC (fun j' R'' ha vH h''=>hB j' R'' ha vH (by rw [hold j' oM]; exact h'')) K hK
     ·obtain rfl:j=k:=oM
      rw [ho] at ho'; cases ho'
      rw [yk] at wm; cases wm
      refine Ev vs w hC (fun j' R'' ha h''=>?_) K hK
      have vH:j' < Rs.length:=(List.getElem?_eq_some_iff.1 h'').1
      exact hB j' R'' ha oM (by rw [hold j' oM]; exact h''))
    hrest
def pS (ops:Array Oper) (n:Nat):Bool:=(List.range n).all fun j=>bP .any ops ops.size n j
theorem pa {C:World→Prop} {T:World→World→Prop} {a₀:Act} (yZ:eu ops.toList=true) (zI:fF .any ops=true) (Rs:List (Value→World→Prop)) (vG:Rs.length+1=ops.size) (He:pS ops Rs.length=true)
  (vX:∀ (j:Nat) (R:Value→World→Prop),Rs[j]?=some R→∀ v w w',R v w→T w w'→R v w')
  (zH:∀ (j:Nat) (o:Oper) (R:Value→World→Prop),ops[j]?=some o→Rs[j]?=some R→∀ vs w,C w→(∀ (j' : Nat) (R' : Value→World→Prop),bP .any ops ops.size j j'=true→j' < j→Rs[j']?=some R'→R' (vs j') w)→∀ K:Act→World→Prop,(∀ a' v w',a'=(aw vs ops.toList 0 a₀).put o.dst v→R v w'→C w'→T w w'→K a' w') →
   if Region.wanted o (yielded ops (aw vs ops.toList 0 a₀).tmps)=true then o.wp P (aw vs ops.toList 0 a₀) w K Q else K ((aw vs ops.toList 0 a₀).put o.dst undef) w)
  (hlast:∀ o,ops[Rs.length]?=some o→∀ vs w,C w→(∀ (j:Nat) (R:Value→World→Prop),Rs[j]?=some R→R (vs j) w)→∀ K:Act→World→Prop,(∀ a' w',Q .normal a' w'→K a' w') →
   if Region.wanted o (yielded ops (aw vs ops.toList 0 a₀).tmps)=true then o.wp P (aw vs ops.toList 0 a₀) w K Q else K ((aw vs ops.toList 0 a₀).put o.dst undef) w) :
  ∀ (fuel:Nat) (listed:Array Bool) (vs:Nat→Value) (w:World),listed.size=ops.size→eJ ops.size listed≤fuel→oT .any ops listed→listed.getD Rs.length false=false→C w→(∀ (j:Nat) (R:Value→World→Prop),listed.getD j false=true→Rs[j]?=some R→R (vs j) w) →
   wpAny P .any ops Q fuel listed (aw vs ops.toList 0 a₀) w:=by
 intro fuel
 induction fuel with
 | zero =>
  intro listed vs w hs hu wS hn hC hR
  have:eJ ops.size (listed.setIfInBounds Rs.length true) < eJ ops.size listed:=eZ oM hs hn
  omega
 | succ fuel ih =>
  intro listed vs w hs hu wS hn hC hR
  refine ⟨fun hr=>?_,fun i hi=>?_⟩
  ·have:=gK zI hs hr Rs.length oM
   rw [hn] at this; cases this
  obtain ⟨h0,o,ho,wC⟩:=mem_ready.1 hi
  have Bg:i < ops.size:=(Array.getElem?_eq_some_iff.1 ho).1
  have yf:i < listed.size:=oM
  have h0' : listed.getD i false=false:=by simp only [Array.getD,yf,↓reduceDIte] at h0 ⊢; exact h0
  by_cases wT:i=Rs.length
  ·have hall' : ∀ j,j < Rs.length→listed.getD j false=true:=fun j hj=>by
    refine cy wS ops.size i j (fun o' ho'=>by rw [ho] at ho'; cases ho'; exact wC) ?_
    rw [wT]; exact List.all_eq_true.1 He j (List.mem_range.2 hj)
   have hstep:=hlast o (by rw [← wT]; exact ho) vs w hC (fun j R hj=>hR j R (hall' j (List.getElem?_eq_some_iff.1 hj).1) hj)
    (wpAny P .any ops Q fuel (listed.setIfInBounds i true)) (fun a' w' hq=>by
     have hfull:∀ j,j ∉ Region.ready .any ops (listed.setIfInBounds i true):=fun j hj=>by
      obtain ⟨g0,o',ho',_⟩:=mem_ready.1 hj
      have FT:j < ops.size:=(Array.getElem?_eq_some_iff.1 ho').1
      have EQ:j < (listed.setIfInBounds i true).size:=by simp; omega
      have g0' : (listed.setIfInBounds i true).getD j false=false:=by simp only [Array.getD,EQ,↓reduceDIte] at g0 ⊢; exact g0
      by_cases xN:j=i
      ·subst xN; simp [yf] at g0'
      ·rw [getD_set_ne false (Ne.symm xN),hall' j oM] at g0'; cases g0'
     have Hf:Region.ready .any ops (listed.setIfInBounds i true) = []:=List.eq_nil_iff_forall_not_mem.2 hfull
     cases fuel with
     | zero=>exact ⟨Hf,hq⟩
     | succ fuel=>exact ⟨fun _=>hq,fun j hj=>absurd hj (hfull j)⟩)
   unfold wpOp
   simp only [ho]
   split
   ·rename_i hw; rw [if_pos hw] at hstep; exact .inl hstep
   ·rename_i hw; rw [if_neg hw] at hstep; exact hstep
  obtain ⟨R,CJ⟩ : ∃ R,Rs[i]?=some R:=⟨Rs[i]'oM,List.getElem?_eq_getElem oM⟩
  have hstep:=zH i o R ho CJ vs w hC (fun j' R' ha _ wm=>hR j' R' (cy wS ops.size i j' (fun o' ho'=>by rw [ho] at ho'; cases ho'; exact wC) ha) wm)
   (wpAny P .any ops Q fuel (listed.setIfInBounds i true)) (fun a' v w' ha Ew Bh hT=>by
    rw [ha,ix ops.toList 0 a₀ vs i o v yZ (by simpa using ho),Nat.zero_add]
    refine ih _ _ _ (by simpa using hs) ?_ ?_ ?_ Bh ?_
    ·have:=eZ Bg hs h0'; omega
    ·intro j oj Bi hj e he hb
     by_cases xN:j=i
     ·subst xN; rw [ho] at Bi; cases Bi; exact getD_set_true (wC e he hb)
     ·rw [getD_set_ne false (Ne.symm xN)] at hj; exact getD_set_true (wS j oj Bi hj e he hb)
    ·rw [getD_set_ne false (fun h=>wT h)]; exact hn
    ·intro j R' hj wm
     by_cases xN:j=i
     ·subst xN; rw [CJ] at wm; cases wm; simpa [qR] using Ew
     ·rw [getD_set_ne false (Ne.symm xN)] at hj
      have:=vX j R' wm _ _ _ (hR j R' hj wm) hT
      simpa [qR,xN] using this)
  unfold wpOp
  simp only [ho]
  split
  ·rename_i hw; rw [if_pos hw] at hstep; exact .inl hstep
  ·rename_i hw; rw [if_neg hw] at hstep; exact hstep
theorem fh {id:Nat} {a:Act} {w:World} {l:List Oper} (C:World→Prop) (T:World→World→Prop) (hm:P.follows .mixedOrders=true) (hap:eu l=true) (hdn:fF .any l.toArray=true) (hah:pS l.toArray (l.length - 1)=true)
    (hC:C w.drew) (h:gD P l.toArray Q C T (fun vs=>aw vs l 0 a) 0 l []):(Code.region id l.toArray true).wp P Q a w:=by
  refine wp_region_any hm ?_
  obtain ⟨Rs,h1,h2,h3,h4⟩:=lc (ops:=l.toArray) l 0 [] (by simp) rfl (by simp) (by simp) h
  obtain ⟨vs,hvs⟩ : ∃ vs:Nat→Value,∀ i o t,l[i]?=some o→o.dst=some t→vs (0+i)=a.tmps.getD t undef :=
    ⟨fun i=>match (l[i]?).bind (·.dst) with | some t=>a.tmps.getD t undef | none=>undef,fun i o t hi ht=>by simp [hi,ht]⟩
  have hl1 : Rs.length = l.length - 1 := by have h1' : Rs.length + 1 = l.length := by simpa using h1
                                            omega
  have:=pa (P:=P) (Q:=Q) (ops:=l.toArray) (C:=C) (T:=T) (a₀:=a) hap hdn Rs h1 (by rw [hl1]; exact hah) h2 h3 h4 l.toArray.size (Array.replicate l.toArray.size false) vs w.drew (by simp)
    (Nat.le_trans (List.length_filter_le _ _) (by simp)) (fun j o hj hl=>by simp [Array.getD] at hl) (by simp [Array.getD]) hC (fun j R hl=>by simp [Array.getD] at hl)
  rwa [gJ vs _ 0 a (by simpa using hvs)] at this
theorem gz {C : World → Prop} {T : World → World → Prop} {fr : (Nat → Value) → Act} {k : Nat} {o : Oper} {Rs : List (Value → World → Prop)} (h : ∀ vs w, C w → (∀ (j : Nat) (R : Value → World → Prop), Rs[j]? = some R → R (vs j) w) → ∀ K : Act → World → Prop, (∀ a' w', Q .normal a' w' → K a' w') →
      if Region.wanted o (yielded ops (fr vs).tmps)=true then o.wp P (fr vs) w K Q else K ((fr vs).put o.dst undef) w):gD P ops Q C T fr k [o] Rs:=.inl ⟨rfl,h⟩
theorem aG {C:World→Prop} {T:World→World→Prop} {fr:(Nat→Value)→Act} {k:Nat} {o:Oper} {l:List Oper} {Rs:List (Value→World→Prop)} (V:Value)
  (h1:∀ vs w,C w→(∀ (j:Nat) (R' : Value→World→Prop),bP .any ops ops.size k j=true→Rs[j]?=some R'→R' (vs j) w)→∀ K:Act→World→Prop,(∀ a' w',a'=(fr vs).put o.dst V→C w'→T w w'→K a' w') →
   if Region.wanted o (yielded ops (fr vs).tmps)=true then o.wp P (fr vs) w K Q else K ((fr vs).put o.dst undef) w)
  (h2:gD P ops Q C T fr (k+1) l (Rs++[fun v _=>v=V])):gD P ops Q C T fr k (o :: l) Rs :=
 .inr ⟨fun v _=>v=V,fun _ _ _ h _=>h,fun vs w hC hB K hK=>h1 vs w hC hB K fun a' w' ha Bh hT=>hK a' V w' ha rfl Bh hT,h2⟩
theorem cu {C:World→Prop} {T:World→World→Prop} {fr:(Nat→Value)→Act} {k:Nat} {o:Oper} {l:List Oper} {Rs:List (Value→World→Prop)} (R:Value→World→Prop) (hR:∀ v w w',R v w→T w w'→R v w')
  (h1:∀ vs w,C w→(∀ (j:Nat) (R' : Value→World→Prop),bP .any ops ops.size k j=true→Rs[j]?=some R'→R' (vs j) w)→∀ K:Act→World→Prop,(∀ a' v w',a'=(fr vs).put o.dst v→R v w'→C w'→T w w'→K a' w') →
   if Region.wanted o (yielded ops (fr vs).tmps)=true then o.wp P (fr vs) w K Q else K ((fr vs).put o.dst undef) w)
  (h2:gD P ops Q C T fr (k+1) l (Rs++[R])):gD P ops Q C T fr k (o :: l) Rs :=
 .inr ⟨R,hR,h1,h2⟩
end
theorem ah.apart {w:World} {g g' : Nat} {t t' : TypeId} {cs cs' : List Value} (h:ah w g t cs) (h' : ah w g' t' cs') (vJ:t ≠ t'):g ≠ g':=by
 intro e
 subst e
 unfold ah at h h'
 rw [h] at h'
 injection h' with h'; injection h' with _ h2; exact vJ h2
theorem ne_to:104 ≠ 147:=dD
theorem tO:147 ≠ 104:=dD
set_option linter.unusedSimpArgs false
def iA (y:Oc) (s:cU):Oc × Bool :=
 if s.kind=2 then (⟨aj y.t s.stamp (-s.value),aL s.stamp s.person (aN s.stamp s.person y.o+s.value) y.o,y.gt,y.sd,y.ms⟩,true)
 else if s.kind=3 then (⟨aj y.t s.stamp s.value,aL s.stamp s.person (aN s.stamp s.person y.o - s.value) y.o,y.gt,y.sd,y.ms⟩,decide (s.value≤aN s.stamp s.person y.o))
 else if s.kind=5 then (⟨y.t,aL s.stamp s.person 0 y.o,y.gt,y.sd,y.ms+aN s.stamp s.person y.o⟩,decide (0 < aN s.stamp s.person y.o))
 else if s.kind=6 then (⟨y.t,aL s.stamp s.value (aN s.stamp s.value (aL s.stamp s.person 0 y.o)+aN s.stamp s.person y.o) (aL s.stamp s.person 0 y.o),y.gt,y.sd,y.ms⟩,decide (0 < aN s.stamp s.person y.o) && decide (s.value ≠ s.person))
 else (⟨y.t,aL s.stamp s.person (aN s.stamp s.person y.o - s.value) y.o,y.gt,y.sd+s.value,y.ms⟩,decide (s.value≤aN s.stamp s.person y.o))
def fS (y:Oc) (s:cU):Oc × Bool :=
 if s.kind=1 then (⟨aj y.t s.stamp s.value,y.o,y.gt+s.value,y.sd,y.ms⟩,(⟨aj y.t s.stamp s.value,y.o,y.gt+s.value,y.sd,y.ms⟩ : Oc).good)
 else if ax y.t s.stamp < 0 then (y,false)
 else if s.person=0 then (⟨aj y.t s.stamp (-s.value),y.o,y.gt,y.sd+s.value,y.ms⟩,(⟨aj y.t s.stamp (-s.value),y.o,y.gt,y.sd+s.value,y.ms⟩ : Oc).good)
 else ((iA y s).1,(iA y s).2 && (iA y s).1.good)
def pU (R:Oc × Bool):Option Oc:=if R.2 then some R.1 else none
theorem pb {k p c:Int} (hc:c ≠ 0):∀ l:List ae,(⟨k,p,c⟩ : ae) ∈ aL k p c l
 | []=>by simp [aL,hc]
 | o :: l=>by
  rw [aL]
  split
  ·simp
  ·split
   ·exact pb hc l
   ·exact List.mem_cons_of_mem _ (pb hc l)
theorem se {ts:List aq} {k p c:Int} (hc:c < 0) (l:List ae):eT ts (aL k p c l)=false:=by
 cases h:eT ts (aL k p c l) with
 | false=>rfl
 | true =>
  obtain ⟨i,hi,e⟩:=List.mem_iff_getElem.1 (pb (k:=k) (p:=p) (c:=c) oM l)
  have h1:=fQ _ _ _ h i hi
  rw [e] at h1
  have:=(ae.bounds h1).2.2.1
  simp only at this
  omega
theorem Oc.bad {y:Oc} (h:eT y.t y.o=false):y.good=false:=by
 show an _=false
 unfold an
 rw [show eT (y.at none 0 none 0).t (y.at none 0 none 0).o=false from h]
 simp
theorem pV (x:aO) (s:cU) (G:bH x) (hs:s.okS=true):pU (fS x.c s)=if s.ok then bf x.c s else none:=by
 obtain ⟨vX,hI⟩:=cU.okS_is hs
 have vF:=cU.ok_okS s
 rw [hs,Bool.true_and] at vF
 obtain ⟨kd,st,pe,va⟩:=s
 have hA:=G.asc
 obtain ⟨n0,n1⟩:=G.at_bd st pe
 unfold fS bf pU Oc.fin iA
 simp only at vF
 simp only [aO.c]
 obtain ⟨n,hn⟩ : ∃ n,aN st pe x.o=n:=⟨_,rfl⟩
 simp only [hn] at n0 n1 ⊢
 by_cases hT:ax x.t st < 0
 ·cases hI with
  | get hk hp hv=>simp only at hk; subst hk; simp [vF]; rfl
  | show_ hk hp hv=>simp only at hk; subst hk; simp [hT,vF]
  | back hk hp hv=>simp only at hk; subst hk; simp [hT,vF]
  | sell0 hk hp hv=>simp only at hk; subst hk; simp [hT,vF]
  | sell hk hp hv=>simp only at hk; subst hk; simp [hT,vF]
  | miss hk hp hv=>simp only at hk; subst hk; simp [hT,vF]
  | move hk hp hv=>simp only at hk; subst hk; simp [hT]
 ·have xA : 0≤ax x.t st:=oM
  cases hI with
  | get hk hp hv=>simp only at hk; subst hk; simp [vF]; rfl
  | show_ hk hp hv =>
   simp only at hk hp hv; subst hk
   have e:=gC (k:=st) (p:=pe) (by_:=va) x.o hA (fun _=>by omega)
   rw [hn] at e
   have zu : ¬ pe=0:=oM
   simp [hT,xA,vF,e,zu]
  | back hk hp hv =>
   simp only at hk hp hv; subst hk
   have zu : ¬ pe=0:=oM
   by_cases hz:n=0
   ·have h1 : ¬ va≤n:=oM
    have h2:0 < pe:=oM
    simp [hT,xA,vF,zu,hz,h1,h2]
    omega
   ·have e:=gC (k:=st) (p:=pe) (by_:=-va) x.o hA (fun h=>by omega)
    rw [hn,← Int.sub_eq_add_neg] at e
    by_cases h1:va≤n
    ·simp [hT,xA,vF,zu,hz,h1,e]
    ·have hb:(⟨aj x.t st va,aL st pe (n - va) x.o,x.gt,x.sd,x.ms⟩ : Oc).good=false:=Oc.bad (se oM _)
     simp [hT,xA,vF,zu,hz,h1,e,hb]
  | sell0 hk hp hv=>simp only at hk hp; subst hk; subst hp; simp [hT,xA,vF]; rfl
  | sell hk hp hv =>
   simp only at hk hp hv; subst hk
   have zu : ¬ pe=0:=oM
   by_cases hz:n=0
   ·have h1 : ¬ va≤n:=oM
    have h2:0 < pe:=oM
    simp [hT,xA,vF,zu,hz,h1,h2]
    omega
   ·have e:=gC (k:=st) (p:=pe) (by_:=-va) x.o hA (fun h=>by omega)
    rw [hn,← Int.sub_eq_add_neg] at e
    by_cases h1:va≤n
    ·simp [hT,xA,vF,zu,hz,h1,e]
    ·have hb:(⟨x.t,aL st pe (n - va) x.o,x.gt,x.sd+va,x.ms⟩ : Oc).good=false:=Oc.bad (se oM _)
     simp [hT,xA,vF,zu,hz,h1,e,hb]
  | miss hk hp hv =>
   simp only at hk hp hv; subst hk
   have zu : ¬ pe=0:=oM
   have h2:0 < pe:=oM
   by_cases hz:n=0
   ·simp [hT,xA,vF,zu,hz,h2]
   ·have e:=gC (k:=st) (p:=pe) (by_:=-n) x.o hA (fun h=>by omega)
    rw [hn,show n+-n=0 by omega] at e
    have h1:0 < n:=oM
    simp [hT,xA,vF,zu,hz,h1,e]
  | move hk hp hv =>
   simp only at hk hp hv; subst hk
   have zu : ¬ pe=0:=oM
   have h2:0 < pe:=oM
   by_cases hq:va=pe
   ·subst hq
    simp [hT,zu,vF]
   ·by_cases hz:n=0
    ·simp [hT,xA,vF,zu,hz,h2]
    ·have e:=gC (k:=st) (p:=pe) (by_:=-n) x.o hA (fun h=>by omega)
     rw [hn,show n+-n=0 by omega] at e
     have Hg : nV (aL st pe 0 x.o):=List.Pairwise.sublist (ff _) hA
     have e2:=gC (k:=st) (p:=va) (by_:=n) (aL st pe 0 x.o) Hg (fun _=>hz)
     have h1:0 < n:=oM
     simp [hT,xA,vF,zu,hz,h1,hq,e,e2]
theorem ck (x:aO) (g:Nat) (w:World) (h:cm w w.heap.size g x) (tl:x.t.length≤1000000) (ol:x.o.length≤1000000) :
  Calls vx 93 #[.pointer (some ⟨g,0,none⟩)] w fun e w'=>∃ TA tc OA oc,e=.returned (.agg #[F TA x.t.length tc,F OA x.o.length oc,O U x.gt,O U x.sd,O U x.ms])∧w'.ownsRow w.heap.size 104 2 (F TA x.t.length tc) x.t.length (x.t.flatMap aq.enc)∧w'.ownsRow w.heap.size 147 3 (F OA x.o.length oc) x.o.length (x.o.flatMap ae.enc)∧Below w.heap.size w w':=nf x g w h tl ol
set_option maxRecDepth 100000 in
theorem fN (x:aO) (g:Nat) (kd:Int) (st pe va:Int) (w:World) (h:cm w w.heap.size g x) (G:bH x) (hk:(kd == 1)=false) (hI:ax x.t st < 0) :
  Calls vx 186 #[.pointer (some ⟨g,0,none⟩),.agg #[O U kd,O U st,O U pe,O U va]] w (aE w (bf x.c ⟨kd,st,pe,va⟩)):=by
 have HN:Hid (bf x.c ⟨kd,st,pe,va⟩=none):=by
  unfold Hid bf
  rw [if_neg (by simpa using hk),if_pos (by show ¬ 0≤ax x.t st; omega)]
 have L1:=(ah.new w 112 #[O U kd,O U st,O U pe,O U va]).alloc (.cells #[F none 0 0,F none 0 0,O U 0,O U 0,O U 0] 40)
 have L2:=ah.new1 w (.cells #[O U kd,O U st,O U pe,O U va] 112) 40 #[F none 0 0,F none 0 0,O U 0,O U 0,O U 0]
 have b1:=bZ w (.cells #[O U kd,O U st,O U pe,O U va] 112)
 have b2:=b1.alloc b1.size (.cells #[F none 0 0,F none 0 0,O U 0,O U 0,O U 0] 40)
 have hA:=h.then b2 b2.size
 have tl:=G.tl
 have ol:=G.ol
 clear b1
 go_enter Tryz.func186,Tryz.ntmps186
 go_wp2_with fail
 generalize ((w.alloc (.cells #[O U kd,O U st,O U pe,O U va] 112)).alloc (.cells #[F none 0 0,F none 0 0,O U 0,O U 0,O U 0] 40))=W2 at L1 L2 b2 hA ⊢
 refine (ck x g W2 hA oM oM).mono ?_
 rintro e W3 ⟨TA,tc,OA,oc,rfl,hT,hO,k3⟩
 have vE:=(Below.refl W3.heap.size W3).alloc nR (.cells #[F TA x.t.length tc,F OA x.o.length oc,O U x.gt,O U x.sd,O U x.ms] 40)
 have vR:aC (W3.alloc (.cells #[F TA x.t.length tc,F OA x.o.length oc,O U x.gt,O U x.sd,O U x.ms] 40)) W2.heap.size W3.heap.size _ _ x.c:=⟨ah.new W3 40 #[F TA x.t.length tc,F OA x.o.length oc,O U x.gt,O U x.sd,O U x.ms],k3.size,ac hT vE,ac hO vE⟩
 have k4:=k3.trans (vE.mono k3.size)
 obtain ⟨s0,s1⟩:=cells2 (L1.below k4 L1.lt)
 have hgO:w.heap.size+1 < W3.heap.size:=jL L2.lt k3.size
 clear hT hO k3
 go_wp2_with fail
 clear s0 s1 vE
 generalize W3.alloc (.cells #[F TA x.t.length tc,F OA x.o.length oc,O U x.gt,O U x.sd,O U x.ms] 40)=W4 at vR k4 ⊢
 generalize W3.heap.size=gO at vR hgO ⊢
 refine (bh (x.c.at TA tc OA oc) gO st W4 (aC.at_ (y:=x.c) vR)).mono ?_
 rintro e W5 ⟨rfl,hb5⟩
 have vW:=vR.then hb5
 have k5:=k4.trans (hb5.mono k4.size)
 rw [show ax (x.c.at TA tc OA oc).t st=ax x.t st from rfl]
 generalize ax x.t st=I at hI ⊢
 have vK:=L2.below k5 L2.lt
 have z0:=vK.cell 0
 have z1:=vK.cell 1
 have z2:=vK.cell 2
 have z3:=vK.cell 3
 have z4:=vK.cell 4
 obtain ⟨f0,f1,f2,f3,f4⟩:=frz5 vK
 simp only [gz0,gz1] at z0 z1 z2 z3 z4
 have vO:=ab (g:=w.heap.size+1) (i:=4) (u:=O U 0) (gw4 W5 (w.heap.size+1) (F none 0 0) (F none 0 0) (O U 0) (O U 0))
 have bw:=b2.trans (k5.mono b2.size)
 have bz:=bw.grown vO bw.size (by rintro _ ⟨⟩; omega)
 go_wp2
 rw [HN.out]
 refine bodyPost_ret (v:=.tuple #[.agg #[F none 0 0,F none 0 0,O U 0,O U 0,O U 0],.bool false]) (by simp [results,Tryz.results186,go_sem, *]) rfl (aE.no rfl bz)
set_option maxRecDepth 100000 in
theorem lz (x:aO) (g:Nat) (kd:Int) (st pe va:Int) (w:World) (h:cm w w.heap.size g x) (G:bH x) (hk:(kd == 1)=false) (Eg:(kd != 2)=true) (i:Nat) (hi:i < x.t.length) (hI:ax x.t st=i) (wV:0 < pe) (h0:aN st pe x.o=0) :
  Calls vx 186 #[.pointer (some ⟨g,0,none⟩),.agg #[O U kd,O U st,O U pe,O U va]] w (aE w (bf x.c ⟨kd,st,pe,va⟩)):=by
 have HN:Hid (bf x.c ⟨kd,st,pe,va⟩=none):=by
  unfold Hid bf
  rw [if_neg (by simpa using hk),if_neg (by show ¬ ¬ 0≤ax x.t st; rw [hI]; omega),if_neg (by simpa using Eg),if_pos ⟨h0,wV⟩]
 have xz:(0:Int)≤(i:Int):=oM
 have L1:=(ah.new w 112 #[O U kd,O U st,O U pe,O U va]).alloc (.cells #[F none 0 0,F none 0 0,O U 0,O U 0,O U 0] 40)
 have L2:=ah.new1 w (.cells #[O U kd,O U st,O U pe,O U va] 112) 40 #[F none 0 0,F none 0 0,O U 0,O U 0,O U 0]
 have b1:=bZ w (.cells #[O U kd,O U st,O U pe,O U va] 112)
 have b2:=b1.alloc b1.size (.cells #[F none 0 0,F none 0 0,O U 0,O U 0,O U 0] 40)
 have hA:=h.then b2 b2.size
 have tl:=G.tl
 have ol:=G.ol
 clear b1
 go_enter Tryz.func186,Tryz.ntmps186
 go_wp2_with fail
 generalize ((w.alloc (.cells #[O U kd,O U st,O U pe,O U va] 112)).alloc (.cells #[F none 0 0,F none 0 0,O U 0,O U 0,O U 0] 40))=W2 at L1 L2 b2 hA ⊢
 refine (ck x g W2 hA oM oM).mono ?_
 rintro e W3 ⟨TA,tc,OA,oc,rfl,hT,hO,k3⟩
 obtain ⟨gT,cT,_,Ao,_,_,_⟩:=cd hT oM
 injection Ao with e1 e2 e3
 subst e1; subst e3
 have vE:=(Below.refl W3.heap.size W3).alloc nR (.cells #[F (some ⟨gT,0,none⟩) x.t.length tc,F OA x.o.length oc,O U x.gt,O U x.sd,O U x.ms] 40)
 have vR:aC (W3.alloc (.cells #[F (some ⟨gT,0,none⟩) x.t.length tc,F OA x.o.length oc,O U x.gt,O U x.sd,O U x.ms] 40)) W2.heap.size W3.heap.size _ _ x.c:=⟨ah.new W3 40 #[F (some ⟨gT,0,none⟩) x.t.length tc,F OA x.o.length oc,O U x.gt,O U x.sd,O U x.ms],k3.size,ac hT vE,ac hO vE⟩
 have k4:=k3.trans (vE.mono k3.size)
 obtain ⟨s0,s1⟩:=cells2 (L1.below k4 L1.lt)
 have hgO:w.heap.size+1 < W3.heap.size:=jL L2.lt k3.size
 clear hT hO k3
 go_wp2_with fail
 clear s0 s1 vE
 generalize W3.alloc (.cells #[F (some ⟨gT,0,none⟩) x.t.length tc,F OA x.o.length oc,O U x.gt,O U x.sd,O U x.ms] 40)=W4 at vR k4 ⊢
 generalize W3.heap.size=gO at vR hgO ⊢
 refine (bh (x.c.at (some ⟨gT,0,none⟩) tc OA oc) gO st W4 (aC.at_ (y:=x.c) vR)).mono ?_
 rintro e W5 ⟨rfl,hb5⟩
 have vW:=vR.then hb5
 have k5:=k4.trans (hb5.mono k4.size)
 rw [show ax (x.c.at (some ⟨gT,0,none⟩) tc OA oc).t st=ax x.t st from rfl,hI]
 have xj:=L1.below k5 L1.lt
 have yj:=hA.then k5 k5.size
 have Bl:∀ (fn:Fn) (first cap:Array Value) (w:World),(Instr.makeFunc fn first cap).run vx w=.ok (.func fn first cap) w:=fun _ _ _ _=>rfl
 go_wp2_with fail
 refine (dH (B:=0) xj yj G (Nat.zero_le _)).mono ?_
 rintro e W6 ⟨rfl,wk⟩
 have vL:=vW.then wk
 have k6:=k5.trans (wk.mono k5.size)
 have xS:=L1.below k6 L1.lt
 obtain ⟨s0,s1,s2,s3⟩:=cells4 xS
 clear xj yj vW vR hb5 wk k4
 rw [h0]
 clear h0
 have vK:=L2.below k6 L2.lt
 have z0:=vK.cell 0
 have z1:=vK.cell 1
 have z2:=vK.cell 2
 have z3:=vK.cell 3
 have z4:=vK.cell 4
 obtain ⟨f0,f1,f2,f3,f4⟩:=frz5 vK
 simp only [gz0,gz1] at z0 z1 z2 z3 z4
 have vO:=ab (g:=w.heap.size+1) (i:=4) (u:=O U 0) (gw4 W6 (w.heap.size+1) (F none 0 0) (F none 0 0) (O U 0) (O U 0))
 have bw:=b2.trans (k6.mono b2.size)
 have bz:=bw.grown vO bw.size (by rintro _ ⟨⟩; omega)
 go_wp2
 rw [HN.out]
 refine bodyPost_ret (v:=.tuple #[.agg #[F none 0 0,F none 0 0,O U 0,O U 0,O U 0],.bool false]) (by simp [results,Tryz.results186,go_sem, *]) rfl (aE.no rfl bz)
end Go.Proofs.YtoeoimhemojdeaaGreatDoor
