/- Lemmas. -/
import Derived.Test.YtoeoimhemojdeaaGreatDoorFr04

set_option linter.unusedVariables false
set_option linter.unusedSimpArgs false
set_option maxHeartbeats 8000000
open Go.Value renaming int → O, slice → F, string → xh
open Go.IntKind renaming i64 → U
open Go.Proofs.Tryz renaming prog → xi

namespace Go.Proofs.YtoeoimhemojdeaaGreatDoor
open Go.RowKit
theorem eK {P:Program} {ops:Array Oper} {rest:List Oper} {o:Oper} {a:Act} {w0 wA:World} {Q:Exit→Act→World→Prop} (zz:o.guard=none) (s x:Operand) (t:TypeId)
  (ho:o.op=.call { callee:=.builtin .append,args:=#[s,x],argTypes:=#[t,t] })
  (e:TypeId) (z:Value) (k bytes:Nat) (ht:P.underlying t=some (.slice e)) (hinfo:(P.info? e).map (fun i=>(i.zero,i.size,i.bytes))=some (some z,k,bytes)) (yM:z.cells.size=k) (xY:0 < k) (Be:bytes≤1000)
  (B:Nat) (v:Value) (n:Nat) (xs:List Value) (hs:a.eval s=v) (xH:Hid (w0.ownsRow B e k v n xs))
  (vs:Array Value) (c g:Nat) (hx:a.eval x=F (some ⟨g,0,none⟩) 1 c) (hg:w0.heap.size=g) (Eb:vs.size=k) (h1:vs.all (·.oneCell')=true) (hn:n < 1000000000) (hbase:B≤w0.heap.size)
  (hheap:wA.heap=(w0.alloc (.cells vs e)).heap) (Gd:wA.os=w0.os) (htape:wA.tape=w0.tape) (Fc:wA.output=w0.output)
  (h:∀ v' w',Hid (w'.ownsRow B e k v' (n+1) (xs++vs.toList))→w0.grownBy w' v.ownBlock→Below B w0 w'→(∀ g',v'.ownBlock=some g'→v.ownBlock=some g' ∨ w0.heap.size≤g')→wpList P ops Q rest (a.put o.dst v') w'):wpList P ops Q (o :: rest) a wA:=by
 subst hg
 obtain ⟨i,hi,hz,hs',hb⟩:=info_parts hinfo
 have hown':=xH.out
 have hsize:wA.heap.size=w0.heap.size+1:=by rw [hheap]; exact Array.size_push _
 have hblock:∀ j,j < w0.heap.size→wA.heap[j]?=w0.heap[j]?:=fun j hj=>by rw [hheap]; exact Below.heap_alloc w0 _ j hj
 have h4:w0.grownBy wA v.ownBlock:=⟨Gd,htape,Fc,oM,fun j hj _=>hblock j hj⟩
 refine iz (w:=wA) zz s x t ho e z k bytes ht hinfo yM xY Be B v n xs hs (jZ (lI hheap (hown'.alloc _))) (w0.heap.size+1) (some ⟨w0.heap.size,0,none⟩) 1 c vs.toList hx (jZ ⟨by simp [Eb],oM,fun _=>⟨w0.heap.size,0,rfl,oM, ?_⟩⟩) (fun u hu=>(Array.all_eq_true_iff_forall_mem.1 h1) u (by simpa using hu)) oM oM fun v' w' h2 h3 _ h5=>h v' w' h2 ?_ ?_ ?_
 ·intro j u hj
  have:=mp w0 vs e j u hj
  rw [cP] at this
  rw [← this]; exact World.cell?_of_block (by rw [hheap])
 ·exact ⟨h3.os.trans h4.os,h3.tape.trans h4.tape,h3.output.trans h4.output,jT h4.size h3.size,fun j hj xw=>(h3.block j (jL hj h4.size) xw).trans (h4.block j hj xw)⟩
 ·exact ((Below.refl B w0).grown h4 hbase (fun j hj=>(hown'.lt j hj).1)).grown h3 oM (fun j hj=>(hown'.lt j hj).1)
 ·intro g' hg'
  rcases h5 with h5 | h5
  ·left; rw [← h5]; exact hg'
  ·right; rw [h5] at hg'; injection hg' with hg'; omega
structure n7 (w wr:World) (g9 g10:Nat) (x:aN) (vt vo:Value) (os:List ae) (kd pe c:Int):Prop where
 below:Below w.heap.size w wr
 lx:ai wr w.heap.size 40 [F x.TA x.t.length x.tc,F x.OA x.o.length x.oc,O U x.gt,O U x.sd,O U x.ms]
 lr:ai wr (w.heap.size+1) 40 [F none 0 0,F none 0 0,O U 0,O U 0,O U 0]
 own:aC wr w.heap.size g9 vt vo ⟨x.t,os,x.gt,x.sd,x.ms⟩
 more:ai wr g10 147 [O U kd,O U pe,O U c]
 ne:vo.ownBlock ≠ some g10
 gg:w.heap.size+1 < g9∧g9 < g10
section
variable {w wr w' : World} {g9 g10:Nat} {x:aN} {vt vo v' : Value} {os:List ae} {kd pe c:Int}
theorem n7.then (h:n7 w wr g9 g10 x vt vo os kd pe c) (hb:Below wr.heap.size wr w'):n7 w w' g9 g10 x vt vo os kd pe c :=
 ⟨h.below.trans (hb.mono h.below.size),h.lx.below hb h.lx.lt,h.lr.below hb h.lr.lt,h.own.then hb,h.more.below hb h.more.lt,h.ne,h.gg⟩
theorem n7.far (h:n7 w wr g9 g10 x vt vo os kd pe c) {g:Nat} {cs:List Value} (hL:ai wr g 40 cs):some g ≠ vo.ownBlock:=bn h.own.o hL fj
theorem n7.other (h3:wr.grownBy w' vo.ownBlock) {g:Nat} {t:TypeId} {cs:List Value} (hL:ai wr g t cs) (xw:some g ≠ vo.ownBlock) (hg:g ≠ g9):ai (w'.setCell ⟨g9,1,none⟩ v') g t cs:=(hL.kept h3 xw).other (p:=⟨g9,1,none⟩) hg v'
theorem n7.push (h:n7 w wr g9 g10 x vt vo os kd pe c) {o:ae} (h3:wr.grownBy w' vo.ownBlock) (h2:w'.ownsRow w.heap.size 147 3 v' (os.length+1) (os.flatMap ae.enc++o.enc)) (hb:Below w.heap.size wr w')
  (h4:∀ g',v'.ownBlock=some g'→vo.ownBlock=some g' ∨ wr.heap.size≤g'):n7 w (w'.setCell ⟨g9,1,none⟩ v') g9 g10 x vt v' (os++[o]) kd pe c:=by
 have xu:=h.more.lt
 have g1:=h.gg.1
 have g2:=h.gg.2
 refine ⟨(h.below.trans hb).setCell (p:=⟨g9,1,none⟩) (show w.heap.size≤g9 by omega) v',n7.other h3 h.lx (h.far h.lx) oM,n7.other h3 h.lr (h.far h.lr) oM, ?_,n7.other h3 h.more (fun e=>h.ne e.symm) oM, ?_,h.gg⟩
 ·refine aC.setO (os:=os++[o]) h.own h3 ?_
  rw [List.length_append,List.flatMap_append]; simpa using h2
 ·intro e
  rcases h4 g10 e with e | e
  ·exact h.ne e
  ·omega
theorem n7.field (h:n7 w wr g9 g10 x vt vo os kd pe c) (h3:wr.grownBy w' vo.ownBlock):w'.cell? ⟨g9,1,none⟩=some vo∧w'.frozen? ⟨g9,1,none⟩=false:=by
 have hL:=h.own.lies.kept h3 (h.far h.own.lies)
 exact ⟨hL.cell 1,hL.frozen 1⟩
theorem n7.zero (h:n7 w wr g9 g10 x vt vo os kd pe c):n7 w (wr.setCell ⟨g10,2,none⟩ (O U 0)) g9 g10 x vt vo os kd pe 0:=by
 have g1:=h.gg.1
 have g2:=h.gg.2
 refine ⟨h.below.setCell (p:=⟨g10,2,none⟩) (show w.heap.size≤g10 by omega) _,h.lx.other (p:=⟨g10,2,none⟩) (by simp; omega) _,h.lr.other (p:=⟨g10,2,none⟩) (by simp; omega) _, ?_,h.more.set 2 _,h.ne,h.gg⟩
 have hf:∀ {v:Value} {t:TypeId} {k n:Nat} {xs:List Value},v.ownBlock ≠ some g10→wr.ownsRow w.heap.size t k v n xs→(wr.setCell ⟨g10,2,none⟩ (O U 0)).ownsRow w.heap.size t k v n xs:=fun xw ho=>ho.kept (ab (World.grownBy.refl wr (some g10))) (.inr xw)
 exact ⟨h.own.lies.other (p:=⟨g10,2,none⟩) (by simp; omega) _,h.own.hg,hf (fun e=>bn h.own.t h.more dD e.symm) h.own.t,hf h.ne h.own.o⟩
theorem n7.count (h:n7 w wr g9 g10 x vt vo os kd pe c):wr.cell? ⟨g10,2,none⟩=some (O U c)∧wr.frozen? ⟨g10,2,none⟩=false:=⟨h.more.cell 2,h.more.frozen 2⟩
end
theorem jM:(xi.info? 147).map (fun i=>(i.zero,i.size,i.bytes))=some (some (.agg #[O U 0,O U 0,O U 0]),3,24):=kZ
theorem vl {k p c:Int} {l:List ae} {i:Nat} (h:i < l.length):aL k p c (l.drop i) =
  if before ⟨k,p,0⟩ l[i]=true∧c ≠ 0 then ⟨k,p,c⟩ :: (if ft k p l[i] then aL k p 0 (l.drop (i+1)) else l[i] :: aL k p 0 (l.drop (i+1)))
  else if ft k p l[i] then aL k p c (l.drop (i+1)) else l[i] :: aL k p c (l.drop (i+1)):=by
 rw [List.drop_eq_getElem_cons h,aL]
set_option maxRecDepth 100000 in
theorem uo (x:aN) (kd pe c:Int) (w:World) (h:aQ w w.heap.size x) (tl:x.t.length≤1000000) (ol:x.o.length≤1000000) (GO:1≤kd∧kd≤99) (yE:1≤pe∧pe≤999)
  (EI:∀ i (hi:i < x.o.length),(1≤x.o[i].k∧x.o[i].k≤99)∧(1≤x.o[i].p∧x.o[i].p≤999)) :
  Calls xi 202 #[x.val,O U kd,O U pe,O U c] w (ej w ⟨x.t,aL kd pe c x.o,x.gt,x.sd,x.ms⟩):=by
 have L1:=(ai.new w 40 #[F x.TA x.t.length x.tc,F x.OA x.o.length x.oc,O U x.gt,O U x.sd,O U x.ms]).alloc (.cells #[F none 0 0,F none 0 0,O U 0,O U 0,O U 0] 40)
 have L2:=ai.new1 w (.cells #[F x.TA x.t.length x.tc,F x.OA x.o.length x.oc,O U x.gt,O U x.sd,O U x.ms] 40) 40 #[F none 0 0,F none 0 0,O U 0,O U 0,O U 0]
 have b1:=bZ w (.cells #[F x.TA x.t.length x.tc,F x.OA x.o.length x.oc,O U x.gt,O U x.sd,O U x.ms] 40)
 have b2:=b1.alloc b1.size (.cells #[F none 0 0,F none 0 0,O U 0,O U 0,O U 0] 40)
 clear b1
 go_enter Tryz.func202,Tryz.ntmps202
 go_wp2_with fail
 generalize ((w.alloc (.cells #[F x.TA x.t.length x.tc,F x.OA x.o.length x.oc,O U x.gt,O U x.sd,O U x.ms] 40)).alloc (.cells #[F none 0 0,F none 0 0,O U 0,O U 0,O U 0] 40))=W at L1 L2 b2 ⊢
 have hR:=h.up b2 nR
 refine (jK x W hR tl ol).mono ?_
 rintro e W2 ⟨TA,tc,OA,oc,he,hT,hO,xn⟩
 have he:e=.returned (.agg #[F TA x.t.length tc,F OA x.o.length oc,O U x.gt,O U x.sd,O U x.ms]):=he
 subst he
 simp only [aN.c] at hT hO
 have x9:=(L1.below xn L1.lt).alloc (.cells #[F TA x.t.length tc,F OA x.o.length oc,O U x.gt,O U x.sd,O U x.ms] 40)
 have xU:=(L2.below xn L2.lt).alloc (.cells #[F TA x.t.length tc,F OA x.o.length oc,O U x.gt,O U x.sd,O U x.ms] 40)
 have P1:=ai.new W2 40 #[F TA x.t.length tc,F OA x.o.length oc,O U x.gt,O U x.sd,O U x.ms]
 have xo:=(Below.refl W2.heap.size W2).alloc nR (.cells #[F TA x.t.length tc,F OA x.o.length oc,O U x.gt,O U x.sd,O U x.ms] 40)
 have ye:=ag (ac hT xo) b2.size
 have b3:=b2.trans ((av xn xo).mono b2.size)
 have yU:=(h.below b3)
 have xP:w.heap.size+1 < W2.heap.size:=jL L2.lt xn.size
 have Gd:x.o.length≤x.o.length:=Nat.le_refl _
 clear L1 L2 b2 xn hT hO xo hR
 obtain ⟨W3,yh⟩ : ∃ W3,W2.alloc (.cells #[F TA x.t.length tc,F OA x.o.length oc,O U x.gt,O U x.sd,O U x.ms] 40)=W3:=⟨_,rfl⟩
 have Cz:W3.heap.size=W2.heap.size+1:=by rw [← yh]; simp
 rw [yh] at x9 xU P1 ye b3 yU
 -- the empty row,and the field
 have Pe:=(P1.alloc (.cells #[] 147))
 have q1:=Pe.cell 1
 have f1:=Pe.frozen 1
 simp only [gz0,gz1] at q1
 have Le:=(ai.new W3 147 #[])
 obtain ⟨W4,yx⟩ : ∃ W4,(W3.alloc (.cells #[] 147)).setCell ⟨W2.heap.size,1,none⟩ (F (some ⟨W3.heap.size,0,none⟩) 0 0)=W4:=⟨_,rfl⟩
 have IL:W4.heap.size=W3.heap.size+1:=by rw [← yx]; simp
 have zu:=(x9.alloc (.cells #[] 147)).other (p:=⟨W2.heap.size,1,none⟩) (by simp; omega) (F (some ⟨W3.heap.size,0,none⟩) 0 0)
 have IM:=(xU.alloc (.cells #[] 147)).other (p:=⟨W2.heap.size,1,none⟩) (by simp; omega) (F (some ⟨W3.heap.size,0,none⟩) 0 0)
 have P4:=Pe.set 1 (F (some ⟨W3.heap.size,0,none⟩) 0 0)
 have xQ:=am (ye.alloc (.cells #[] 147)) Pe cd 1 (F (some ⟨W3.heap.size,0,none⟩) 0 0)
 have b4:=(b3.alloc b3.size (.cells #[] 147)).setCell (p:=⟨W2.heap.size,1,none⟩) (show w.heap.size≤W2.heap.size by omega) (F (some ⟨W3.heap.size,0,none⟩) 0 0)
 have Le4:=Le.other (p:=⟨W2.heap.size,1,none⟩) (by simp; omega) (F (some ⟨W3.heap.size,0,none⟩) 0 0)
 rw [yx] at zu IM P4 xQ b4 Le4
 simp only [List.set_cons_zero,List.set_cons_succ] at P4
 have xL:W4.ownsRow w.heap.size 147 3 (F (some ⟨W3.heap.size,0,none⟩) 0 0) 0 []:=dI Le4 oM
 have hb5:=(Below.refl W4.heap.size W4).alloc nR (.cells #[O U kd,O U pe,O U c] 147)
 have AI:n7 w (W4.alloc (.cells #[O U kd,O U pe,O U c] 147)) W2.heap.size W4.heap.size x (F TA x.t.length tc) (F (some ⟨W3.heap.size,0,none⟩) 0 0) [] kd pe c :=
  ⟨b4.trans (hb5.mono b4.size),zu.below hb5 zu.lt,IM.below hb5 IM.lt,⟨P4.below hb5 P4.lt,oM,ac xQ hb5,ac xL hb5⟩,ai.new W4 147 #[O U kd,O U pe,O U c],by simp [Value.ownBlock]; omega,oM⟩
 obtain ⟨W5,JQ⟩ : ∃ W5,W4.alloc (.cells #[O U kd,O U pe,O U c] 147)=W5:=⟨_,rfl⟩
 rw [JQ] at AI
 clear x9 xU P1 ye b3 yU Pe Le zu IM P4 xQ b4 Le4 xL hb5
 have MH:=jZ Cz
 have Ek:=jZ IL
 clear Cz IL
 go_wp2_with (first | (rw [yh]; clear yh) | (rw [yx]; clear yx) | (rw [JQ]; clear JQ))
 clear q1 f1
 generalize yY:W2.heap.size=g9 at AI ⊢
 generalize hg10:W4.heap.size=g10 at AI ⊢
 clear yY hg10 MH Ek xP Gd
 have hl:=h.os.big
 go_loopw [11] (fun v wr=>∃ (k:Nat) (os:List ae) (vo:Value) (c' : Int),k≤x.o.length∧v=O U (k:Int)∧n7 w wr g9 g10 x (F TA x.t.length tc) vo os kd pe c'∧os.length≤2 * k∧Hid (os++aL kd pe c' (x.o.drop k)=aL kd pe c x.o)) (fun v _=>x.o.length - (intOf v).toNat)
 case atStart=>exact ⟨0,[],_,c,Nat.zero_le _,rfl,AI,Nat.zero_le _,rfl⟩
 case round =>
  clear AI
  obtain ⟨k,os,vo,c',hk,rfl,AI,Gd,HP⟩:=hrel
  by_cases xu:k < x.o.length
  ·obtain ⟨bA,off,hA,hbA,hcell⟩:=ee.el h.os oM
   obtain ⟨e0,e1,e2⟩:=hcell k xu
   have HS:=jZ (vl (k:=kd) (p:=pe) (c:=c') xu)
   obtain ⟨⟨ok1,ok2⟩,op1,op2⟩:=EI k xu
   obtain ⟨o,Ls⟩ : ∃ o,o=x.o[k]:=⟨_,rfl⟩
   rw [← Ls] at e0 e1 e2 HS ok1 ok2 op1 op2
   clear Ls hcell
   obtain ⟨kd1,kd2⟩:=GO
   obtain ⟨pe1,pe2⟩:=yE
   have e0:wr.cell? ⟨bA,off+k * 3,none⟩=some (O U o.k):=e0 ⟨wr,AI.below⟩
   have e1:wr.cell? ⟨bA,off+k * 3+1,none⟩=some (O U o.p):=e1 ⟨wr,AI.below⟩
   have e2:wr.cell? ⟨bA,off+k * 3+2,none⟩=some (O U o.c):=e2 ⟨wr,AI.below⟩
   have c1:=AI.lx.cell 1
   simp only [gz0,gz1] at c1
   simp only [hA] at c1
   have HA:=jZ hA
   have Of:=jZ hbA
   clear hA hbA
   have HB:Hid (before ⟨kd,pe,0⟩ o=decide (1000 * kd+pe < 1000 * o.k+o.p)):=nS ⟨pe1,pe2⟩ ⟨op1,op2⟩
   have xT:=(Below.refl wr.heap.size wr).alloc nR (.cells #[O U o.k,O U o.p,O U o.c] 147)
   have L12:=ai.new wr 147 #[O U o.k,O U o.p,O U o.c]
   have A6:=AI.then xT
   have h12:some wr.heap.size ≠ vo.ownBlock:=fun e=>by have:=(AI.own.o.lt _ e.symm).2; omega
   have h129:wr.heap.size ≠ g9:=fun e=>by have:=AI.own.lies.lt; omega
   have h1210:wr.heap.size ≠ g10:=fun e=>by have:=AI.more.lt; omega
   clear xT AI
   obtain ⟨W6,BT⟩ : ∃ W6,wr.alloc (.cells #[O U o.k,O U o.p,O U o.c] 147)=W6:=⟨_,rfl⟩
   rw [BT] at L12 A6
   go_wp2_with (rw [BT]; clear BT)
   clear e0 e1 e2 c1
   generalize wr.heap.size=g12 at L12 h12 h129 h1210 ⊢
   obtain ⟨b,BO⟩ : ∃ b,decide (1000 * kd+pe < 1000 * o.k+o.p)=b:=⟨_,rfl⟩
   have DS:=jZ BO; clear BO
   refine al (fun _=>(fun W9=>Below W6.heap.size W6 W9)) (fun _ w1 w2=>Below w1.heap.size w1 w2) kZ kZ kZ jB.drew ?_
   simp only [ax,Act.put,sA,gs0,gs1,Nat.zero_add,Nat.reduceAdd]
   refine aa _ (vp0C3 L12) ?_
   apply aa
   case h1 =>
    intro vs L9 w9 xl xj hB K9 xk
    have d0:=fe hB 0
    simp only [d0] at xk ⊢
    simp only [Act.put,sA,gs0,gs1] at xk
    go_simp
    refine (jH o _ ⟨ok1,ok2⟩ ⟨op1,op2⟩).mono ?_
    rintro en w8 ⟨rfl,xm⟩
    exact xk _ _ rfl (xj.trans (xm.mono xj.size)) xm
   refine aa _ (vp0C3 A6.more) ?_
   apply aa
   case h1 =>
    intro vs L9 w9 xl xj hB K9 xk
    have d2:=fe hB 2
    simp only [d2] at xk ⊢
    simp only [Act.put,sA,gs0,gs1] at xk
    go_simp
    refine (jH ⟨kd,pe,c'⟩ _ ⟨kd1,kd2⟩ ⟨pe1,pe2⟩).mono ?_
    rintro en w8 ⟨rfl,xm⟩
    exact xk _ _ rfl (xj.trans (xm.mono xj.size)) xm
   refine aa (.bool b) (fun vs L9 w9 xl xj hB K9 xk=>?ha4) ?ra4
   case ha4 =>
    have d1:=fe hB 1
    have d3:=fe hB 3
    simp only [d1,d3] at xk ⊢
    go_simp
    rw [DS.out]
    exact xk _ _ rfl xj jB
   refine aa _ (vp1 4) ?_
   refine af [] (fun v _=>b=true→v=.pointer (some ⟨g10,2,none⟩)) ?sa6 (fun vs L9 w9 xl xj hB K9 xk=>?ha6) ?ra6
   case sa6 =>
    intro i9 yg hb9 ha9 v w1 w2 hv xJ
    exact hv
   case ha6 =>
    have d5:=fe hB 5
    simp only [d5] at xk ⊢
    cases b with
    | false =>
     go_simp
     exact xk _ undef _ rfl (fun hq=>by cases hq) xj jB
    | true =>
     go_simp
     exact xk _ _ _ rfl (fun _=>rfl) xj jB
   refine af [] (fun v _=>b=true→v=O U c') ?sa7 (fun vs L9 w9 xl xj hB K9 xk=>?ha7) ?ra7
   case sa7 =>
    intro i9 yg hb9 ha9 v w1 w2 hv xJ
    exact hv
   case ha7 =>
    have d5:=fe hB 5
    simp only [d5] at xk ⊢
    cases b with
    | false =>
     go_simp
     exact xk _ undef _ rfl (fun hq=>by cases hq) xj jB
    | true =>
     have d6:=hB 6 _ kZ kZ rfl dD rfl
     simp only [d6] at xk ⊢
     have q0:w9.cell? ⟨g10,2,none⟩=some (O U c'):=(A6.more.below xj A6.more.lt).cell 2
     go_simp
     exact xk _ _ _ rfl (fun _=>rfl) xj jB
   refine af [] (fun v _=>b=true→v=.bool (c' != 0)) ?sa8 (fun vs L9 w9 xl xj hB K9 xk=>?ha8) ?ra8
   case sa8 =>
    intro i9 yg hb9 ha9 v w1 w2 hv xJ
    exact hv
   case ha8 =>
    have d5:=fe hB 5
    simp only [d5] at xk ⊢
    cases b with
    | false =>
     go_simp
     exact xk _ undef _ rfl (fun hq=>by cases hq) xj jB
    | true =>
     have d7:=hB 7 _ kZ kZ rfl dD rfl
     simp only [d7] at xk ⊢
     go_simp
     exact xk _ _ _ rfl (fun _=>rfl) xj jB
   refine aa (.bool (b && (c' != 0))) (fun vs L9 w9 xl xj hB K9 xk=>?ha9) ?ra9
   case ha9 =>
    have d5:=fe hB 5
    simp only [d5] at xk ⊢
    cases b with
    | false =>
     go_simp
     exact xk _ _ rfl xj jB
    | true =>
     have d8:=hB 8 _ kZ kZ rfl dD rfl
     simp only [d8] at xk ⊢
     go_simp
     exact xk _ _ rfl xj jB
   refine au fun vs L9 w9 xv xj hB=>?_
   have d9:=ah.eq (hB 9 _ rfl rfl dD)
   simp only [d9]
   clear hB xv d9
   have A9:=A6.then xj
   have M9:=L12.below xj L12.lt
   clear A6 L12 xj
   have m0:=A9.more.cell 0
   have m1:=A9.more.cell 1
   have m2:=A9.more.cell 2
   have r1:=A9.own.lies.cell 1
   have o0:=M9.cell 0
   have o1:=M9.cell 1
   have o2:=M9.cell 2
   simp only [gz0,gz1] at m0 m1 m2 r1 o0 o1 o2
   have EJ:=jZ A9.own.o
   simp only at EJ
   have Fk:=A9.below.size
   by_cases IN:b=true∧c' ≠ 0
   ·obtain ⟨Aq,hc0⟩:=IN
    have Fb:before ⟨kd,pe,0⟩ o=true:=by rw [HB.out,DS.out,Aq]
    have AF:=lF Fb
    have HN:Hid (os++[(⟨kd,pe,c'⟩ : ae)]++[o]++aL kd pe 0 (x.o.drop (k+1))=aL kd pe c x.o):=by
     unfold Hid; rw [← HP.out,HS.out,if_pos ⟨Fb,hc0⟩,AF,if_neg sP]; simp
    have GP:(b && (c' != 0))=true:=by rw [Aq]; simp [hc0]
    rw [GP]
    clear HP HS HB DS Fb GP hc0 Aq
    have JR:=jZ AF
    by_cases zE:o.k=kd
    ·have El : ¬ o.p=pe:=fun e=>by have:=eh.2 ⟨zE,e⟩; rw [AF] at this; cases this
     have v1:(o.k != kd)=false:=by simp [zE]
     have v2:(o.p != pe)=true:=by simp [El]
     clear zE El AF
     go_wp2_with (first | (rw [yo]; clear yo) | (at_builtin; refine eK (w0:=w9) rfl _ _ 38 rfl 147 _ 3 24 Tryz.underlying38 jM rfl (by decide) (by omega) w.heap.size _ _ _ rfl EJ #[O U kd,O U pe,O U c'] 1 _ rfl (by first | rfl | exact Array.size_push _) rfl (by simp [Value.oneCell']) (by omega) Fk rfl rfl rfl rfl ?_; intro v' w6 Bn hg_w6 hb_w6 hn_w6; obtain ⟨A_w6,c_w6,hv_w6⟩:=az Bn.out; subst hv_w6; obtain ⟨q_w6,f_w6⟩:=A9.field hg_w6; have A7:=A9.push (o:=⟨kd,pe,c'⟩) hg_w6 Bn.out hb_w6 hn_w6; obtain ⟨zq,zf⟩:=A7.count; have A8:=A7.zero; have M7:=n7.other (v':=F A_w6 (os.length+1) c_w6) hg_w6 M9 h12 h129; have M8:=M7.other (p:=⟨g10,2,none⟩) h1210 (O U 0); have M70:=M7.cell 0; obtain ⟨W8,yo⟩ : ∃ W8,(w6.setCell ⟨g9,1,none⟩ (F A_w6 (os.length+1) c_w6)).setCell ⟨g10,2,none⟩ (O U 0)=W8:=⟨_,rfl⟩; rw [yo] at A8 M8; have p0:=M8.cell 0; have p1:=M8.cell 1; have p2:=M8.cell 2; have r8:=A8.own.lies.cell 1; simp only [gz0,gz1] at p0 p1 p2 r8; have GQ:=Lib.hid A8.own.o; simp only at GQ; have GR:=A8.below.size; have Fl:(os++[(⟨kd,pe,c'⟩ : ae)]).length=os.length+1:=(by simp)) | (at_builtin; refine eK (w0:=W8) rfl _ _ 38 rfl 147 _ 3 24 Tryz.underlying38 jM rfl (by decide) (by omega) w.heap.size _ _ _ rfl GQ #[O U o.k,O U o.p,O U o.c] 1 _ rfl (by first | rfl | exact Array.size_push _) rfl (by simp [Value.oneCell']) (by omega) GR rfl rfl rfl rfl ?_; intro v2 w10 ya hg_w10 hb_w10 hn_w10; obtain ⟨A_w10,c_w10,hv_w10⟩:=az ya.out; subst hv_w10; obtain ⟨q_w10,f_w10⟩:=A8.field hg_w10; have A11:=A8.push (o:=o) hg_w10 ya.out hb_w10 hn_w10; rw [Fl] at A11))
     go_roundw
     case rel=>exact ⟨k+1,os++[⟨kd,pe,c'⟩]++[o],_,0,oM,by go_num,A11,by simp; omega,HN⟩
     case measure=>simp [intOf]; omega
    ·have v1:(o.k != kd)=true:=by simp [zE]
     clear zE AF
     go_wp2_with (first | (rw [yo]; clear yo) | (at_builtin; refine eK (w0:=w9) rfl _ _ 38 rfl 147 _ 3 24 Tryz.underlying38 jM rfl (by decide) (by omega) w.heap.size _ _ _ rfl EJ #[O U kd,O U pe,O U c'] 1 _ rfl (by first | rfl | exact Array.size_push _) rfl (by simp [Value.oneCell']) (by omega) Fk rfl rfl rfl rfl ?_; intro v' w6 Bn hg_w6 hb_w6 hn_w6; obtain ⟨A_w6,c_w6,hv_w6⟩:=az Bn.out; subst hv_w6; obtain ⟨q_w6,f_w6⟩:=A9.field hg_w6; have A7:=A9.push (o:=⟨kd,pe,c'⟩) hg_w6 Bn.out hb_w6 hn_w6; obtain ⟨zq,zf⟩:=A7.count; have A8:=A7.zero; have M7:=n7.other (v':=F A_w6 (os.length+1) c_w6) hg_w6 M9 h12 h129; have M8:=M7.other (p:=⟨g10,2,none⟩) h1210 (O U 0); have M70:=M7.cell 0; obtain ⟨W8,yo⟩ : ∃ W8,(w6.setCell ⟨g9,1,none⟩ (F A_w6 (os.length+1) c_w6)).setCell ⟨g10,2,none⟩ (O U 0)=W8:=⟨_,rfl⟩; rw [yo] at A8 M8; have p0:=M8.cell 0; have p1:=M8.cell 1; have p2:=M8.cell 2; have r8:=A8.own.lies.cell 1; simp only [gz0,gz1] at p0 p1 p2 r8; have GQ:=Lib.hid A8.own.o; simp only at GQ; have GR:=A8.below.size; have Fl:(os++[(⟨kd,pe,c'⟩ : ae)]).length=os.length+1:=(by simp)) | (at_builtin; refine eK (w0:=W8) rfl _ _ 38 rfl 147 _ 3 24 Tryz.underlying38 jM rfl (by decide) (by omega) w.heap.size _ _ _ rfl GQ #[O U o.k,O U o.p,O U o.c] 1 _ rfl (by first | rfl | exact Array.size_push _) rfl (by simp [Value.oneCell']) (by omega) GR rfl rfl rfl rfl ?_; intro v2 w10 ya hg_w10 hb_w10 hn_w10; obtain ⟨A_w10,c_w10,hv_w10⟩:=az ya.out; subst hv_w10; obtain ⟨q_w10,f_w10⟩:=A8.field hg_w10; have A11:=A8.push (o:=o) hg_w10 ya.out hb_w10 hn_w10; rw [Fl] at A11))
     go_roundw
     case rel=>exact ⟨k+1,os++[⟨kd,pe,c'⟩]++[o],_,0,oM,by go_num,A11,by simp; omega,HN⟩
     case measure=>simp [intOf]; omega
   ·have GP:(b && (c' != 0))=false:=by
     cases b
     ·rfl
     ·have hc0:c'=0:=Decidable.byContradiction fun e=>IN ⟨rfl,e⟩
      simp [hc0]
    have Gf : ¬ (before ⟨kd,pe,0⟩ o=true∧c' ≠ 0):=by rw [HB.out,DS.out]; exact IN
    rw [GP]
    clear GP IN m0 m1 m2
    by_cases zE:o.k=kd
    ·by_cases El:o.p=pe
     ·have AF:=eh.2 ⟨zE,El⟩
      have HN:Hid (os++aL kd pe c' (x.o.drop (k+1))=aL kd pe c x.o):=by
       unfold Hid; rw [← HP.out,HS.out,if_neg Gf,AF,if_pos rfl]
      have v1:(o.k != kd)=false:=by simp [zE]
      have v2:(o.p != pe)=false:=by simp [El]
      clear zE El AF Gf HP HS HB DS
      go_wp2
      go_roundw
      case rel=>exact ⟨k+1,os,vo,c',oM,by go_num,A9,oM,HN⟩
      case measure=>simp [intOf]; omega
     ·have AF:ft kd pe o=false:=by rw [Bool.eq_false_iff]; intro e; exact El (eh.1 e).2
      have v1:(o.k != kd)=false:=by simp [zE]
      have v2:(o.p != pe)=true:=by simp [El]
      have HN:Hid (os++[o]++aL kd pe c' (x.o.drop (k+1))=aL kd pe c x.o):=by
       unfold Hid; rw [← HP.out,HS.out,if_neg Gf,AF,if_neg sP]; simp
      clear zE El AF Gf HP HS HB DS
      go_wp2_with (at_builtin; refine eK (w0:=w9) rfl _ _ 38 rfl 147 _ 3 24 Tryz.underlying38 jM rfl (by decide) (by omega) w.heap.size _ _ _ rfl EJ #[O U o.k,O U o.p,O U o.c] 1 _ rfl (by first | rfl | exact Array.size_push _) rfl (by simp [Value.oneCell']) (by omega) Fk rfl rfl rfl rfl ?_; intro v2 w10 ya hg_w10 hb_w10 hn_w10; obtain ⟨A_w10,c_w10,hv_w10⟩:=az ya.out; subst hv_w10; obtain ⟨q_w10,f_w10⟩:=A9.field hg_w10; have A11:=A9.push (o:=o) hg_w10 ya.out hb_w10 hn_w10)
      go_roundw
      case rel=>exact ⟨k+1,os++[o],_,c',oM,by go_num,A11,by simp; omega,HN⟩
      case measure=>simp [intOf]; omega
    ·have AF:ft kd pe o=false:=by rw [Bool.eq_false_iff]; intro e; exact zE (eh.1 e).1
     have v1:(o.k != kd)=true:=by simp [zE]
     have HN:Hid (os++[o]++aL kd pe c' (x.o.drop (k+1))=aL kd pe c x.o):=by
      unfold Hid; rw [← HP.out,HS.out,if_neg Gf,AF,if_neg sP]; simp
     clear zE AF Gf HP HS HB DS
     go_wp2_with (at_builtin; refine eK (w0:=w9) rfl _ _ 38 rfl 147 _ 3 24 Tryz.underlying38 jM rfl (by decide) (by omega) w.heap.size _ _ _ rfl EJ #[O U o.k,O U o.p,O U o.c] 1 _ rfl (by first | rfl | exact Array.size_push _) rfl (by simp [Value.oneCell']) (by omega) Fk rfl rfl rfl rfl ?_; intro v2 w10 ya hg_w10 hb_w10 hn_w10; obtain ⟨A_w10,c_w10,hv_w10⟩:=az ya.out; subst hv_w10; obtain ⟨q_w10,f_w10⟩:=A9.field hg_w10; have A11:=A9.push (o:=o) hg_w10 ya.out hb_w10 hn_w10)
     go_roundw
     case rel=>exact ⟨k+1,os++[o],_,c',oM,by go_num,A11,by simp; omega,HN⟩
     case measure=>simp [intOf]; omega
  ·have GN:x.o.drop k = []:=List.drop_eq_nil_of_le oM
   have HE:Hid (os++(if c' ≠ 0 then [(⟨kd,pe,c'⟩ : ae)] else [])=aL kd pe c x.o):=by
    unfold Hid; rw [← HP.out,GN,aL]
   clear HP GN
   have c1:=AI.lx.cell 1
   have m0:=AI.more.cell 0
   have m1:=AI.more.cell 1
   have m2:=AI.more.cell 2
   have r1:=AI.own.lies.cell 1
   simp only [gz0,gz1] at c1 m0 m1 m2 r1
   have EJ:=jZ AI.own.o
   simp only at EJ
   have Fk:=AI.below.size
   by_cases hc0:c'=0
   ·have HE:Hid (os=aL kd pe c x.o):=by
     have:=HE.out; rw [if_neg (by simpa using hc0),List.append_nil] at this; exact this
    have v1:(c' != 0)=false:=by simp [hc0]
    clear hc0
    obtain ⟨AV,cv,Lt⟩:=az AI.own.o
    simp only at Lt
    subst Lt
    have k0:=AI.own.lies.cell 0
    have k1:=AI.own.lies.cell 1
    have k2:=AI.own.lies.cell 2
    have k3:=AI.own.lies.cell 3
    have k4:=AI.own.lies.cell 4
    have z0:=AI.lr.cell 0
    have z1:=AI.lr.cell 1
    have z2:=AI.lr.cell 2
    have z3:=AI.lr.cell 3
    have z4:=AI.lr.cell 4
    obtain ⟨f0,f1,f2,f3,f4⟩:=frz5 AI.lr
    simp only [gz0,gz1] at k0 k1 k2 k3 k4 z0 z1 z2 z3 z4
    have HT:=jZ (aR (v0:=F TA x.t.length tc) (v1:=(F AV os.length cv)) (v2:=O U x.gt) (v3:=O U x.sd) (v4:=O U x.ms) AI.lr AI.own.t cd)
    have HO:=jZ (aR (v0:=F TA x.t.length tc) (v1:=(F AV os.length cv)) (v2:=O U x.gt) (v3:=O U x.sd) (v4:=O U x.ms) AI.lr AI.own.o ch)
    have bz:=AI.below.trans (ci (v0:=F TA x.t.length tc) (v1:=(F AV os.length cv)) (v2:=O U x.gt) (v3:=O U x.sd) (v4:=O U x.ms) AI.lr (Nat.le_succ _))
    go_wp2
    refine bodyPost_ret (v:=.agg #[F TA x.t.length tc,F AV os.length cv,O U x.gt,O U x.sd,O U x.ms]) (by simp [results,Tryz.results202,go_sem, *]) rfl ?_
    rw [← HE.out]
    exact ej.of rfl rfl rfl HT.out HO.out bz
   ·have HE:Hid (os++[(⟨kd,pe,c'⟩ : ae)]=aL kd pe c x.o):=by
     have:=HE.out; rw [if_pos hc0] at this; exact this
    have v1:(c' != 0)=true:=by simp [hc0]
    clear hc0
    go_wp2_with (first | (rw [yo]; clear yo) | (at_builtin; refine eK (w0:=wr) rfl _ _ 38 rfl 147 _ 3 24 Tryz.underlying38 jM rfl (by decide) (by omega) w.heap.size _ _ _ rfl EJ #[O U kd,O U pe,O U c'] 1 _ rfl (by first | rfl | exact Array.size_push _) rfl (by simp [Value.oneCell']) (by omega) Fk rfl rfl rfl rfl ?_; intro v2 w10 ya hg_w10 hb_w10 hn_w10; obtain ⟨A_w10,c_w10,hv_w10⟩:=az ya.out; subst hv_w10; obtain ⟨q_w10,f_w10⟩:=AI.field hg_w10; have A11:=AI.push (o:=⟨kd,pe,c'⟩) hg_w10 ya.out hb_w10 hn_w10; have Fl:(os++[(⟨kd,pe,c'⟩ : ae)]).length=os.length+1:=(by simp); obtain ⟨W8,yo⟩ : ∃ W8,w10.setCell ⟨g9,1,none⟩ (F A_w10 (os.length+1) c_w10)=W8:=⟨_,rfl⟩; rw [yo] at A11; have k0:=A11.own.lies.cell 0; have k1:=A11.own.lies.cell 1; have k2:=A11.own.lies.cell 2; have k3:=A11.own.lies.cell 3; have k4:=A11.own.lies.cell 4; have z0:=A11.lr.cell 0; have z1:=A11.lr.cell 1; have z2:=A11.lr.cell 2; have z3:=A11.lr.cell 3; have z4:=A11.lr.cell 4; have f0:=A11.lr.frozen 0; have f1:=A11.lr.frozen 1; have f2:=A11.lr.frozen 2; have f3:=A11.lr.frozen 3; have f4:=A11.lr.frozen 4; simp only [gz0,gz1] at k0 k1 k2 k3 k4 z0 z1 z2 z3 z4; have HT:=Lib.hid (aR (v0:=F TA x.t.length tc) (v1:=(F A_w10 (os.length+1) c_w10)) (v2:=O U x.gt) (v3:=O U x.sd) (v4:=O U x.ms) A11.lr A11.own.t cd); have HO:=Lib.hid (aR (v0:=F TA x.t.length tc) (v1:=(F A_w10 (os.length+1) c_w10)) (v2:=O U x.gt) (v3:=O U x.sd) (v4:=O U x.ms) A11.lr A11.own.o ch); have bz:=A11.below.trans (ci (v0:=F TA x.t.length tc) (v1:=(F A_w10 (os.length+1) c_w10)) (v2:=O U x.gt) (v3:=O U x.sd) (v4:=O U x.ms) A11.lr (Nat.le_succ _))))
    refine bodyPost_ret (v:=.agg #[F TA x.t.length tc,F A_w10 (os.length+1) c_w10,O U x.gt,O U x.sd,O U x.ms]) (by simp [results,Tryz.results202,go_sem, *]) rfl ?_
    rw [← HE.out]
    exact ej.of rfl Fl rfl HT.out HO.out bz
end Go.Proofs.YtoeoimhemojdeaaGreatDoor
