/- Rl05: the texts SpecAt SpecP SpecOk SpecTop SpecOut SpecV SpecPerA SpecPerB SpecPerC, joined into one file. -/
import Derived.Test.YtoeoimhemojdeaaGreatDoorRl01
import Derived.Test.YtoeoimhemojdeaaGreatDoorRl02
import Derived.Test.YtoeoimhemojdeaaGreatDoorRl03
import Derived.Test.YtoeoimhemojdeaaGreatDoorRl04

set_option linter.unusedVariables false
open Go.Value renaming int → O, slice → F, string → sQ
open Go.IntKind renaming i64 → U

namespace Go.Proofs.YtoeoimhemojdeaaGreatDoor
open Go.RowKit
theorem dG {P:Program} {ops:Array Oper} {rest:List Oper} {o:Oper} {a:Act} {w0 wA:World} {Q:Exit→Act→World→Prop} (hgd:o.guard=none) (s x:Operand) (t:TypeId)
  (ho:o.op=.call { callee:=.builtin .append,args:=#[s,x],argTypes:=#[t,t] })
  (e:TypeId) (z:Value) (k bytes:Nat) (ht:P.underlying t=some (.slice e)) (hinfo:(P.info? e).map (fun i=>(i.zero,i.size,i.bytes))=some (some z,k,bytes)) (hzs:z.cells.size=k) (hsz:0 < k) (hby:bytes≤1000)
  (B:Nat) (v:Value) (n:Nat) (xs:List Value) (hs:a.eval s=v) (hown:Hid (w0.ownsRow B e k v n xs))
  (vs:Array Value) (c g:Nat) (hx:a.eval x=F (some ⟨g,0,none⟩) 1 c) (hg:w0.heap.size=g) (hvs:vs.size=k) (h1:vs.all (·.oneCell')=true) (hn:n < 1000000000) (hbase:B≤w0.heap.size)
  (hheap:wA.heap=(w0.alloc (.cells vs e)).heap) (hos:wA.os=w0.os) (htape:wA.tape=w0.tape) (hout:wA.output=w0.output)
  (h:∀ v' w',Hid (w'.ownsRow B e k v' (n+1) (xs++vs.toList))→w0.grownBy w' v.ownBlock→Below B w0 w'→(∀ g',v'.ownBlock=some g'→v.ownBlock=some g' ∨ w0.heap.size≤g')→wpList P ops Q rest (a.put o.dst v') w'):wpList P ops Q (o :: rest) a wA:=by
 subst hg
 obtain ⟨i,hi,hz,hs',hb⟩:=info_parts hinfo
 have hown':=hown.out
 have hsize:wA.heap.size=w0.heap.size+1:=by rw [hheap]; exact Array.size_push _
 have hblock:∀ j,j < w0.heap.size→wA.heap[j]?=w0.heap[j]?:=fun j hj=>by rw [hheap]; exact Below.heap_alloc w0 _ j hj
 have h4:w0.grownBy wA v.ownBlock:=⟨hos,htape,hout,by omega,fun j hj _=>hblock j hj⟩
 refine fZ (w:=wA) hgd s x t ho e z k bytes ht hinfo hzs hsz hby B v n xs hs (Lib.hid (jK hheap (hown'.alloc _))) (w0.heap.size+1) (some ⟨w0.heap.size,0,none⟩) 1 c vs.toList hx (Lib.hid ⟨by simp [hvs],by omega,fun _=>⟨w0.heap.size,0,rfl,by omega, ?_⟩⟩) (fun u hu=>(Array.all_eq_true_iff_forall_mem.1 h1) u (by simpa using hu)) (by omega) (by omega) fun v' w' h2 h3 _ h5=>h v' w' h2 ?_ ?_ ?_
 ·intro j u hj
  have:=ki w0 vs e j u hj
  rw [bY] at this
  rw [← this]; exact World.cell?_of_block (by rw [hheap])
 ·exact ⟨h3.os.trans h4.os,h3.tape.trans h4.tape,h3.output.trans h4.output,Nat.le_trans h4.size h3.size,fun j hj hne=>(h3.block j (Nat.lt_of_lt_of_le hj h4.size) hne).trans (h4.block j hj hne)⟩
 ·exact ((Below.refl B w0).grown h4 hbase (fun j hj=>(hown'.lt j hj).1)).grown h3 (by omega) (fun j hj=>(hown'.lt j hj).1)
 ·intro g' hg'
  rcases h5 with h5 | h5
  ·left; rw [← h5]; exact hg'
  ·right; rw [h5] at hg'; injection hg' with hg'; omega
structure lS (w wr:World) (g9 g10:Nat) (x:aM) (vt vo:Value) (os:List ae) (kd pe c:Int):Prop where
 below:Below w.heap.size w wr
 lx:ai wr w.heap.size 40 [F x.TA x.t.length x.tc,F x.OA x.o.length x.oc,O U x.got,O U x.sold,O U x.missed]
 lr:ai wr (w.heap.size+1) 40 [F none 0 0,F none 0 0,O U 0,O U 0,O U 0]
 own:aA wr w.heap.size g9 vt vo ⟨x.t,os,x.got,x.sold,x.missed⟩
 more:ai wr g10 147 [O U kd,O U pe,O U c]
 ne:vo.ownBlock ≠ some g10
 gg:w.heap.size+1 < g9∧g9 < g10
section
variable {w wr w' : World} {g9 g10:Nat} {x:aM} {vt vo v' : Value} {os:List ae} {kd pe c:Int}
theorem lS.then (h:lS w wr g9 g10 x vt vo os kd pe c) (hb:Below wr.heap.size wr w'):lS w w' g9 g10 x vt vo os kd pe c :=
 ⟨h.below.trans (hb.mono h.below.size),h.lx.below hb h.lx.lt,h.lr.below hb h.lr.lt,h.own.then hb,h.more.below hb h.more.lt,h.ne,h.gg⟩
theorem lS.far (h:lS w wr g9 g10 x vt vo os kd pe c) {g:Nat} {cs:List Value} (hL:ai wr g 40 cs):some g ≠ vo.ownBlock:=dq h.own.o hL dY
theorem lS.other (h3:wr.grownBy w' vo.ownBlock) {g:Nat} {t:TypeId} {cs:List Value} (hL:ai wr g t cs) (hne:some g ≠ vo.ownBlock) (hg:g ≠ g9):ai (w'.setCell ⟨g9,1,none⟩ v') g t cs:=(hL.kept h3 hne).other (p:=⟨g9,1,none⟩) hg v'
theorem lS.push (h:lS w wr g9 g10 x vt vo os kd pe c) {o:ae} (h3:wr.grownBy w' vo.ownBlock) (h2:w'.ownsRow w.heap.size 147 3 v' (os.length+1) (os.flatMap ae.enc++o.enc)) (hb:Below w.heap.size wr w')
  (h4:∀ g',v'.ownBlock=some g'→vo.ownBlock=some g' ∨ wr.heap.size≤g'):lS w (w'.setCell ⟨g9,1,none⟩ v') g9 g10 x vt v' (os++[o]) kd pe c:=by
 have hlt:=h.more.lt
 have g1:=h.gg.1
 have g2:=h.gg.2
 refine ⟨(h.below.trans hb).setCell (p:=⟨g9,1,none⟩) (show w.heap.size≤g9 by omega) v',lS.other h3 h.lx (h.far h.lx) (by omega),lS.other h3 h.lr (h.far h.lr) (by omega), ?_,lS.other h3 h.more (fun e=>h.ne e.symm) (by omega), ?_,h.gg⟩
 ·refine aA.setO (os:=os++[o]) h.own h3 ?_
  rw [List.length_append,List.flatMap_append]; simpa using h2
 ·intro e
  rcases h4 g10 e with e | e
  ·exact h.ne e
  ·omega
theorem lS.field (h:lS w wr g9 g10 x vt vo os kd pe c) (h3:wr.grownBy w' vo.ownBlock):w'.cell? ⟨g9,1,none⟩=some vo∧w'.frozen? ⟨g9,1,none⟩=false:=by
 have hL:=h.own.lies.kept h3 (h.far h.own.lies)
 exact ⟨hL.cell 1,hL.frozen 1⟩
theorem lS.zero (h:lS w wr g9 g10 x vt vo os kd pe c):lS w (wr.setCell ⟨g10,2,none⟩ (O U 0)) g9 g10 x vt vo os kd pe 0:=by
 have g1:=h.gg.1
 have g2:=h.gg.2
 refine ⟨h.below.setCell (p:=⟨g10,2,none⟩) (show w.heap.size≤g10 by omega) _,h.lx.other (p:=⟨g10,2,none⟩) (by simp; omega) _,h.lr.other (p:=⟨g10,2,none⟩) (by simp; omega) _, ?_,h.more.set 2 _,h.ne,h.gg⟩
 have hf:∀ {v:Value} {t:TypeId} {k n:Nat} {xs:List Value},v.ownBlock ≠ some g10→wr.ownsRow w.heap.size t k v n xs→(wr.setCell ⟨g10,2,none⟩ (O U 0)).ownsRow w.heap.size t k v n xs:=fun hne ho=>ho.kept (ac (World.grownBy.refl wr (some g10))) (.inr hne)
 exact ⟨h.own.lies.other (p:=⟨g10,2,none⟩) (by simp; omega) _,h.own.hg,hf (fun e=>dq h.own.t h.more (by decide) e.symm) h.own.t,hf h.ne h.own.o⟩
theorem lS.count (h:lS w wr g9 g10 x vt vo os kd pe c):wr.cell? ⟨g10,2,none⟩=some (O U c)∧wr.frozen? ⟨g10,2,none⟩=false:=⟨h.more.cell 2,h.more.frozen 2⟩
end
theorem ip:(Tryz.prog.info? 147).map (fun i=>(i.zero,i.size,i.bytes))=some (some (.agg #[O U 0,O U 0,O U 0]),3,24):=by kernel_rfl
theorem rI {k p c:Int} {l:List ae} {i:Nat} (h:i < l.length):aH k p c (l.drop i) =
  if before ⟨k,p,0⟩ l[i]=true∧c ≠ 0 then ⟨k,p,c⟩ :: (if ei k p l[i] then aH k p 0 (l.drop (i+1)) else l[i] :: aH k p 0 (l.drop (i+1)))
  else if ei k p l[i] then aH k p c (l.drop (i+1)) else l[i] :: aH k p c (l.drop (i+1)):=by
 rw [List.drop_eq_getElem_cons h,aH]
set_option maxRecDepth 100000 in
set_option maxHeartbeats 4000000 in
theorem qL (x:aM) (kd pe c:Int) (w:World) (h:aQ w w.heap.size x) (tl:x.t.length≤1000000) (ol:x.o.length≤1000000) (hkd:1≤kd∧kd≤99) (hpe:1≤pe∧pe≤999)
  (hob:∀ i (hi:i < x.o.length),(1≤x.o[i].k∧x.o[i].k≤99)∧(1≤x.o[i].p∧x.o[i].p≤999)) :
  Calls Tryz.prog 202 #[x.val,O U kd,O U pe,O U c] w (dr w ⟨x.t,aH kd pe c x.o,x.got,x.sold,x.missed⟩):=by
 have L1:=(ai.new w 40 #[F x.TA x.t.length x.tc,F x.OA x.o.length x.oc,O U x.got,O U x.sold,O U x.missed]).alloc (.cells #[F none 0 0,F none 0 0,O U 0,O U 0,O U 0] 40)
 have L2:=ai.new1 w (.cells #[F x.TA x.t.length x.tc,F x.OA x.o.length x.oc,O U x.got,O U x.sold,O U x.missed] 40) 40 #[F none 0 0,F none 0 0,O U 0,O U 0,O U 0]
 have b1:=(Below.refl w.heap.size w).alloc (Nat.le_refl _) (.cells #[F x.TA x.t.length x.tc,F x.OA x.o.length x.oc,O U x.got,O U x.sold,O U x.missed] 40)
 have b2:=b1.alloc b1.size (.cells #[F none 0 0,F none 0 0,O U 0,O U 0,O U 0] 40)
 clear b1
 go_enter Tryz.func202,Tryz.ntmps202
 go_wp2_with fail
 generalize ((w.alloc (.cells #[F x.TA x.t.length x.tc,F x.OA x.o.length x.oc,O U x.got,O U x.sold,O U x.missed] 40)).alloc (.cells #[F none 0 0,F none 0 0,O U 0,O U 0,O U 0] 40))=W at L1 L2 b2 ⊢
 have hR:=h.up b2 (Nat.le_refl _)
 refine (io x W hR tl ol).mono ?_
 rintro e W2 ⟨TA,tc,OA,oc,he,hT,hO,hb2⟩
 have he:e=.returned (.agg #[F TA x.t.length tc,F OA x.o.length oc,O U x.got,O U x.sold,O U x.missed]):=he
 subst he
 simp only [aM.c] at hT hO
 have L1a:=(L1.below hb2 L1.lt).alloc (.cells #[F TA x.t.length tc,F OA x.o.length oc,O U x.got,O U x.sold,O U x.missed] 40)
 have L2a:=(L2.below hb2 L2.lt).alloc (.cells #[F TA x.t.length tc,F OA x.o.length oc,O U x.got,O U x.sold,O U x.missed] 40)
 have P1:=ai.new W2 40 #[F TA x.t.length tc,F OA x.o.length oc,O U x.got,O U x.sold,O U x.missed]
 have hal:=(Below.refl W2.heap.size W2).alloc (Nat.le_refl _) (.cells #[F TA x.t.length tc,F OA x.o.length oc,O U x.got,O U x.sold,O U x.missed] 40)
 have hT3:=af (ab hT hal) b2.size
 have b3:=b2.trans ((ar hb2 hal).mono b2.size)
 have hR3:=(h.below b3)
 have hg8:w.heap.size+1 < W2.heap.size:=Nat.lt_of_lt_of_le L2.lt hb2.size
 have hos:x.o.length≤x.o.length:=Nat.le_refl _
 clear L1 L2 b2 hb2 hT hO hal hR
 obtain ⟨W3,hW3⟩ : ∃ W3,W2.alloc (.cells #[F TA x.t.length tc,F OA x.o.length oc,O U x.got,O U x.sold,O U x.missed] 40)=W3:=⟨_,rfl⟩
 have hs3:W3.heap.size=W2.heap.size+1:=by rw [← hW3]; simp
 rw [hW3] at L1a L2a P1 hT3 b3 hR3
 -- the empty row,and the field
 have Pe:=(P1.alloc (.cells #[] 147))
 have q1:=Pe.cell 1
 have f1:=Pe.frozen 1
 simp only [List.getElem?_cons_zero,List.getElem?_cons_succ] at q1
 have Le:=(ai.new W3 147 #[])
 obtain ⟨W4,hW4⟩ : ∃ W4,(W3.alloc (.cells #[] 147)).setCell ⟨W2.heap.size,1,none⟩ (F (some ⟨W3.heap.size,0,none⟩) 0 0)=W4:=⟨_,rfl⟩
 have hs4:W4.heap.size=W3.heap.size+1:=by rw [← hW4]; simp
 have L1d:=(L1a.alloc (.cells #[] 147)).other (p:=⟨W2.heap.size,1,none⟩) (by simp; omega) (F (some ⟨W3.heap.size,0,none⟩) 0 0)
 have L2d:=(L2a.alloc (.cells #[] 147)).other (p:=⟨W2.heap.size,1,none⟩) (by simp; omega) (F (some ⟨W3.heap.size,0,none⟩) 0 0)
 have P4:=Pe.set 1 (F (some ⟨W3.heap.size,0,none⟩) 0 0)
 have hT4:=al (hT3.alloc (.cells #[] 147)) Pe cq 1 (F (some ⟨W3.heap.size,0,none⟩) 0 0)
 have b4:=(b3.alloc b3.size (.cells #[] 147)).setCell (p:=⟨W2.heap.size,1,none⟩) (show w.heap.size≤W2.heap.size by omega) (F (some ⟨W3.heap.size,0,none⟩) 0 0)
 have Le4:=Le.other (p:=⟨W2.heap.size,1,none⟩) (by simp; omega) (F (some ⟨W3.heap.size,0,none⟩) 0 0)
 rw [hW4] at L1d L2d P4 hT4 b4 Le4
 simp only [List.set_cons_zero,List.set_cons_succ] at P4
 have hO4:W4.ownsRow w.heap.size 147 3 (F (some ⟨W3.heap.size,0,none⟩) 0 0) 0 []:=cz Le4 (by omega)
 have hb5:=(Below.refl W4.heap.size W4).alloc (Nat.le_refl _) (.cells #[O U kd,O U pe,O U c] 147)
 have AI:lS w (W4.alloc (.cells #[O U kd,O U pe,O U c] 147)) W2.heap.size W4.heap.size x (F TA x.t.length tc) (F (some ⟨W3.heap.size,0,none⟩) 0 0) [] kd pe c :=
  ⟨b4.trans (hb5.mono b4.size),L1d.below hb5 L1d.lt,L2d.below hb5 L2d.lt,⟨P4.below hb5 P4.lt,by omega,ab hT4 hb5,ab hO4 hb5⟩,ai.new W4 147 #[O U kd,O U pe,O U c],by simp [Value.ownBlock]; omega,by omega⟩
 obtain ⟨W5,hW5⟩ : ∃ W5,W4.alloc (.cells #[O U kd,O U pe,O U c] 147)=W5:=⟨_,rfl⟩
 rw [hW5] at AI
 clear L1a L2a P1 hT3 b3 hR3 Pe Le L1d L2d P4 hT4 b4 Le4 hO4 hb5
 have HS3:=Lib.hid hs3
 have HS4:=Lib.hid hs4
 clear hs3 hs4
 go_wp2_with (first | (rw [hW3]; clear hW3) | (rw [hW4]; clear hW4) | (rw [hW5]; clear hW5))
 clear q1 f1
 generalize hg9:W2.heap.size=g9 at AI ⊢
 generalize hg10:W4.heap.size=g10 at AI ⊢
 clear hg9 hg10 HS3 HS4 hg8 hos
 have hl:=h.os.big
 go_loopw [11] (fun v wr=>∃ (k:Nat) (os:List ae) (vo:Value) (c' : Int),k≤x.o.length∧v=O U (k:Int)∧lS w wr g9 g10 x (F TA x.t.length tc) vo os kd pe c'∧os.length≤2 * k∧Hid (os++aH kd pe c' (x.o.drop k)=aH kd pe c x.o)) (fun v _=>x.o.length - (intOf v).toNat)
 case atStart=>exact ⟨0,[],_,c,Nat.zero_le _,rfl,AI,Nat.zero_le _,rfl⟩
 case round =>
  clear AI
  obtain ⟨k,os,vo,c',hk,rfl,AI,hos,HP⟩:=hrel
  by_cases hlt:k < x.o.length
  ·obtain ⟨bA,off,hA,hbA,hcell⟩:=dI.el h.os (by omega)
   obtain ⟨e0,e1,e2⟩:=hcell k hlt
   have HS:=Lib.hid (rI (k:=kd) (p:=pe) (c:=c') hlt)
   obtain ⟨⟨ok1,ok2⟩,op1,op2⟩:=hob k hlt
   obtain ⟨o,hoe⟩ : ∃ o,o=x.o[k]:=⟨_,rfl⟩
   rw [← hoe] at e0 e1 e2 HS ok1 ok2 op1 op2
   clear hoe hcell
   obtain ⟨kd1,kd2⟩:=hkd
   obtain ⟨pe1,pe2⟩:=hpe
   have e0:wr.cell? ⟨bA,off+k * 3,none⟩=some (O U o.k):=e0 ⟨wr,AI.below⟩
   have e1:wr.cell? ⟨bA,off+k * 3+1,none⟩=some (O U o.p):=e1 ⟨wr,AI.below⟩
   have e2:wr.cell? ⟨bA,off+k * 3+2,none⟩=some (O U o.c):=e2 ⟨wr,AI.below⟩
   have c1:=AI.lx.cell 1
   simp only [List.getElem?_cons_zero,List.getElem?_cons_succ] at c1
   simp only [hA] at c1
   have HA:=Lib.hid hA
   have HBA:=Lib.hid hbA
   clear hA hbA
   have HB:Hid (before ⟨kd,pe,0⟩ o=decide (1000 * kd+pe < 1000 * o.k+o.p)):=lI ⟨pe1,pe2⟩ ⟨op1,op2⟩
   have hb6:=(Below.refl wr.heap.size wr).alloc (Nat.le_refl _) (.cells #[O U o.k,O U o.p,O U o.c] 147)
   have L12:=ai.new wr 147 #[O U o.k,O U o.p,O U o.c]
   have A6:=AI.then hb6
   have h12:some wr.heap.size ≠ vo.ownBlock:=fun e=>by have:=(AI.own.o.lt _ e.symm).2; omega
   have h129:wr.heap.size ≠ g9:=fun e=>by have:=AI.own.lies.lt; omega
   have h1210:wr.heap.size ≠ g10:=fun e=>by have:=AI.more.lt; omega
   clear hb6 AI
   obtain ⟨W6,hW6⟩ : ∃ W6,wr.alloc (.cells #[O U o.k,O U o.p,O U o.c] 147)=W6:=⟨_,rfl⟩
   rw [hW6] at L12 A6
   go_wp2_with (rw [hW6]; clear hW6)
   clear e0 e1 e2 c1
   generalize wr.heap.size=g12 at L12 h12 h129 h1210 ⊢
   obtain ⟨b,hbd⟩ : ∃ b,decide (1000 * kd+pe < 1000 * o.k+o.p)=b:=⟨_,rfl⟩
   have HBD:=Lib.hid hbd; clear hbd
   refine an (fun _=>(fun W9=>Below W6.heap.size W6 W9)) (fun _ w1 w2=>Below w1.heap.size w1 w2) (by kernel_rfl) (by kernel_rfl) (by kernel_rfl) (Below.refl _ _).drew ?_
   simp only [ax,Act.put,List.setIfInBounds_toArray,List.set_cons_zero,List.set_cons_succ,Nat.zero_add,Nat.reduceAdd]
   apply aa
   case h1 =>
    intro vs L9 w9 hG9 hC9 hB K9 hK9
    have q0:w9.cell? ⟨g12,0,none⟩=some (O U o.k):=(L12.below hC9 L12.lt).cell 0
    have q1:w9.cell? ⟨g12,1,none⟩=some (O U o.p):=(L12.below hC9 L12.lt).cell 1
    have q2:w9.cell? ⟨g12,2,none⟩=some (O U o.c):=(L12.below hC9 L12.lt).cell 2
    simp only [Act.put,sA,s0,s1] at hK9
    go_simp
    exact hK9 _ _ rfl hC9 (Below.refl _ _)
   apply aa
   case h1 =>
    intro vs L9 w9 hG9 hC9 hB K9 hK9
    have d0:=fe hB 0
    simp only [d0] at hK9 ⊢
    simp only [Act.put,sA,s0,s1] at hK9
    go_simp
    refine (ij o _ ⟨ok1,ok2⟩ ⟨op1,op2⟩).mono ?_
    rintro en w8 ⟨rfl,hb8⟩
    exact hK9 _ _ rfl (hC9.trans (hb8.mono hC9.size)) hb8
   apply aa
   case h1 =>
    intro vs L9 w9 hG9 hC9 hB K9 hK9
    have q0:w9.cell? ⟨g10,0,none⟩=some (O U kd):=(A6.more.below hC9 A6.more.lt).cell 0
    have q1:w9.cell? ⟨g10,1,none⟩=some (O U pe):=(A6.more.below hC9 A6.more.lt).cell 1
    have q2:w9.cell? ⟨g10,2,none⟩=some (O U c'):=(A6.more.below hC9 A6.more.lt).cell 2
    simp only [Act.put,sA,s0,s1] at hK9
    go_simp
    exact hK9 _ _ rfl hC9 (Below.refl _ _)
   apply aa
   case h1 =>
    intro vs L9 w9 hG9 hC9 hB K9 hK9
    have d2:=fe hB 2
    simp only [d2] at hK9 ⊢
    simp only [Act.put,sA,s0,s1] at hK9
    go_simp
    refine (ij ⟨kd,pe,c'⟩ _ ⟨kd1,kd2⟩ ⟨pe1,pe2⟩).mono ?_
    rintro en w8 ⟨rfl,hb8⟩
    exact hK9 _ _ rfl (hC9.trans (hb8.mono hC9.size)) hb8
   refine aa (.bool b) (fun vs L9 w9 hG9 hC9 hB K9 hK9=>?ha4) ?ra4
   case ha4 =>
    have d1:=fe hB 1
    have d3:=fe hB 3
    simp only [d1,d3] at hK9 ⊢
    go_simp
    rw [HBD.out]
    exact hK9 _ _ rfl hC9 (Below.refl _ _)
   apply aa
   case h1 =>
    intro vs L9 w9 hG9 hC9 hB K9 hK9
    have d4:=fe hB 4
    simp only [d4] at hK9 ⊢
    simp only [Act.put,sA,s0,s1] at hK9
    go_simp
    exact hK9 _ _ rfl hC9 (Below.refl _ _)
   refine ak [] (fun v _=>b=true→v=.pointer (some ⟨g10,2,none⟩)) ?sa6 (fun vs L9 w9 hG9 hC9 hB K9 hK9=>?ha6) ?ra6
   case sa6 =>
    intro i9 hi9 hb9 ha9 v w1 w2 hv hT9
    exact hv
   case ha6 =>
    have d5:=fe hB 5
    simp only [d5] at hK9 ⊢
    cases b with
    | false =>
     go_simp
     exact hK9 _ undef _ rfl (fun hq=>by cases hq) hC9 (Below.refl _ _)
    | true =>
     go_simp
     exact hK9 _ _ _ rfl (fun _=>rfl) hC9 (Below.refl _ _)
   refine ak [] (fun v _=>b=true→v=O U c') ?sa7 (fun vs L9 w9 hG9 hC9 hB K9 hK9=>?ha7) ?ra7
   case sa7 =>
    intro i9 hi9 hb9 ha9 v w1 w2 hv hT9
    exact hv
   case ha7 =>
    have d5:=fe hB 5
    simp only [d5] at hK9 ⊢
    cases b with
    | false =>
     go_simp
     exact hK9 _ undef _ rfl (fun hq=>by cases hq) hC9 (Below.refl _ _)
    | true =>
     have d6:=hB 6 _ (by kernel_rfl) (by kernel_rfl) rfl (by decide) rfl
     simp only [d6] at hK9 ⊢
     have q0:w9.cell? ⟨g10,2,none⟩=some (O U c'):=(A6.more.below hC9 A6.more.lt).cell 2
     go_simp
     exact hK9 _ _ _ rfl (fun _=>rfl) hC9 (Below.refl _ _)
   refine ak [] (fun v _=>b=true→v=.bool (c' != 0)) ?sa8 (fun vs L9 w9 hG9 hC9 hB K9 hK9=>?ha8) ?ra8
   case sa8 =>
    intro i9 hi9 hb9 ha9 v w1 w2 hv hT9
    exact hv
   case ha8 =>
    have d5:=fe hB 5
    simp only [d5] at hK9 ⊢
    cases b with
    | false =>
     go_simp
     exact hK9 _ undef _ rfl (fun hq=>by cases hq) hC9 (Below.refl _ _)
    | true =>
     have d7:=hB 7 _ (by kernel_rfl) (by kernel_rfl) rfl (by decide) rfl
     simp only [d7] at hK9 ⊢
     go_simp
     exact hK9 _ _ _ rfl (fun _=>rfl) hC9 (Below.refl _ _)
   refine aa (.bool (b && (c' != 0))) (fun vs L9 w9 hG9 hC9 hB K9 hK9=>?ha9) ?ra9
   case ha9 =>
    have d5:=fe hB 5
    simp only [d5] at hK9 ⊢
    cases b with
    | false =>
     go_simp
     exact hK9 _ _ rfl hC9 (Below.refl _ _)
    | true =>
     have d8:=hB 8 _ (by kernel_rfl) (by kernel_rfl) rfl (by decide) rfl
     simp only [d8] at hK9 ⊢
     go_simp
     exact hK9 _ _ rfl hC9 (Below.refl _ _)
   refine az fun vs L9 w9 hL9 hC9 hB=>?_
   have d9:=ag.eq (hB 9 _ rfl rfl (by decide))
   simp only [d9]
   clear hB hL9 d9
   have A9:=A6.then hC9
   have M9:=L12.below hC9 L12.lt
   clear A6 L12 hC9
   have m0:=A9.more.cell 0
   have m1:=A9.more.cell 1
   have m2:=A9.more.cell 2
   have r1:=A9.own.lies.cell 1
   have o0:=M9.cell 0
   have o1:=M9.cell 1
   have o2:=M9.cell 2
   simp only [List.getElem?_cons_zero,List.getElem?_cons_succ] at m0 m1 m2 r1 o0 o1 o2
   have HO9:=Lib.hid A9.own.o
   simp only at HO9
   have hs9:=A9.below.size
   by_cases hcd:b=true∧c' ≠ 0
   ·obtain ⟨hbt,hc0⟩:=hcd
    have hbf:before ⟨kd,pe,0⟩ o=true:=by rw [HB.out,HBD.out,hbt]
    have hno:=jH hbf
    have HN:Hid (os++[(⟨kd,pe,c'⟩ : ae)]++[o]++aH kd pe 0 (x.o.drop (k+1))=aH kd pe c x.o):=by
     unfold Hid; rw [← HP.out,HS.out,if_pos ⟨hbf,hc0⟩,hno,if_neg (by simp)]; simp
    have hcb:(b && (c' != 0))=true:=by rw [hbt]; simp [hc0]
    rw [hcb]
    clear HP HS HB HBD hbf hcb hc0 hbt
    have HBO:=Lib.hid hno
    by_cases hik:o.k=kd
    ·have hip : ¬ o.p=pe:=fun e=>by have:=dn.2 ⟨hik,e⟩; rw [hno] at this; cases this
     have v1:(o.k != kd)=false:=by simp [hik]
     have v2:(o.p != pe)=true:=by simp [hip]
     clear hik hip hno
     go_wp2_with (first | (rw [hW8]; clear hW8) | (at_builtin; refine dG (w0:=w9) rfl _ _ 38 rfl 147 _ 3 24 Tryz.underlying38 ip rfl (by decide) (by omega) w.heap.size _ _ _ rfl HO9 #[O U kd,O U pe,O U c'] 1 _ rfl (by first | rfl | exact Array.size_push _) rfl (by simp [Value.oneCell']) (by omega) hs9 rfl rfl rfl rfl ?_; intro v' w6 HO_w6 hg_w6 hb_w6 hn_w6; obtain ⟨A_w6,c_w6,hv_w6⟩:=aw HO_w6.out; subst hv_w6; obtain ⟨q_w6,f_w6⟩:=A9.field hg_w6; have A7:=A9.push (o:=⟨kd,pe,c'⟩) hg_w6 HO_w6.out hb_w6 hn_w6; obtain ⟨zq,zf⟩:=A7.count; have A8:=A7.zero; have M7:=lS.other (v':=F A_w6 (os.length+1) c_w6) hg_w6 M9 h12 h129; have M8:=M7.other (p:=⟨g10,2,none⟩) h1210 (O U 0); have M70:=M7.cell 0; obtain ⟨W8,hW8⟩ : ∃ W8,(w6.setCell ⟨g9,1,none⟩ (F A_w6 (os.length+1) c_w6)).setCell ⟨g10,2,none⟩ (O U 0)=W8:=⟨_,rfl⟩; rw [hW8] at A8 M8; have p0:=M8.cell 0; have p1:=M8.cell 1; have p2:=M8.cell 2; have r8:=A8.own.lies.cell 1; simp only [List.getElem?_cons_zero,List.getElem?_cons_succ] at p0 p1 p2 r8; have HO8:=Lib.hid A8.own.o; simp only at HO8; have hs8:=A8.below.size; have hl8:(os++[(⟨kd,pe,c'⟩ : ae)]).length=os.length+1:=(by simp)) | (at_builtin; refine dG (w0:=W8) rfl _ _ 38 rfl 147 _ 3 24 Tryz.underlying38 ip rfl (by decide) (by omega) w.heap.size _ _ _ rfl HO8 #[O U o.k,O U o.p,O U o.c] 1 _ rfl (by first | rfl | exact Array.size_push _) rfl (by simp [Value.oneCell']) (by omega) hs8 rfl rfl rfl rfl ?_; intro v2 w10 HO_w10 hg_w10 hb_w10 hn_w10; obtain ⟨A_w10,c_w10,hv_w10⟩:=aw HO_w10.out; subst hv_w10; obtain ⟨q_w10,f_w10⟩:=A8.field hg_w10; have A11:=A8.push (o:=o) hg_w10 HO_w10.out hb_w10 hn_w10; rw [hl8] at A11))
     go_roundw
     case rel=>exact ⟨k+1,os++[⟨kd,pe,c'⟩]++[o],_,0,by omega,by go_num,A11,by simp; omega,HN⟩
     case measure=>simp [intOf]; omega
    ·have v1:(o.k != kd)=true:=by simp [hik]
     clear hik hno
     go_wp2_with (first | (rw [hW8]; clear hW8) | (at_builtin; refine dG (w0:=w9) rfl _ _ 38 rfl 147 _ 3 24 Tryz.underlying38 ip rfl (by decide) (by omega) w.heap.size _ _ _ rfl HO9 #[O U kd,O U pe,O U c'] 1 _ rfl (by first | rfl | exact Array.size_push _) rfl (by simp [Value.oneCell']) (by omega) hs9 rfl rfl rfl rfl ?_; intro v' w6 HO_w6 hg_w6 hb_w6 hn_w6; obtain ⟨A_w6,c_w6,hv_w6⟩:=aw HO_w6.out; subst hv_w6; obtain ⟨q_w6,f_w6⟩:=A9.field hg_w6; have A7:=A9.push (o:=⟨kd,pe,c'⟩) hg_w6 HO_w6.out hb_w6 hn_w6; obtain ⟨zq,zf⟩:=A7.count; have A8:=A7.zero; have M7:=lS.other (v':=F A_w6 (os.length+1) c_w6) hg_w6 M9 h12 h129; have M8:=M7.other (p:=⟨g10,2,none⟩) h1210 (O U 0); have M70:=M7.cell 0; obtain ⟨W8,hW8⟩ : ∃ W8,(w6.setCell ⟨g9,1,none⟩ (F A_w6 (os.length+1) c_w6)).setCell ⟨g10,2,none⟩ (O U 0)=W8:=⟨_,rfl⟩; rw [hW8] at A8 M8; have p0:=M8.cell 0; have p1:=M8.cell 1; have p2:=M8.cell 2; have r8:=A8.own.lies.cell 1; simp only [List.getElem?_cons_zero,List.getElem?_cons_succ] at p0 p1 p2 r8; have HO8:=Lib.hid A8.own.o; simp only at HO8; have hs8:=A8.below.size; have hl8:(os++[(⟨kd,pe,c'⟩ : ae)]).length=os.length+1:=(by simp)) | (at_builtin; refine dG (w0:=W8) rfl _ _ 38 rfl 147 _ 3 24 Tryz.underlying38 ip rfl (by decide) (by omega) w.heap.size _ _ _ rfl HO8 #[O U o.k,O U o.p,O U o.c] 1 _ rfl (by first | rfl | exact Array.size_push _) rfl (by simp [Value.oneCell']) (by omega) hs8 rfl rfl rfl rfl ?_; intro v2 w10 HO_w10 hg_w10 hb_w10 hn_w10; obtain ⟨A_w10,c_w10,hv_w10⟩:=aw HO_w10.out; subst hv_w10; obtain ⟨q_w10,f_w10⟩:=A8.field hg_w10; have A11:=A8.push (o:=o) hg_w10 HO_w10.out hb_w10 hn_w10; rw [hl8] at A11))
     go_roundw
     case rel=>exact ⟨k+1,os++[⟨kd,pe,c'⟩]++[o],_,0,by omega,by go_num,A11,by simp; omega,HN⟩
     case measure=>simp [intOf]; omega
   ·have hcb:(b && (c' != 0))=false:=by
     cases b
     ·rfl
     ·have hc0:c'=0:=Decidable.byContradiction fun e=>hcd ⟨rfl,e⟩
      simp [hc0]
    have hnb : ¬ (before ⟨kd,pe,0⟩ o=true∧c' ≠ 0):=by rw [HB.out,HBD.out]; exact hcd
    rw [hcb]
    clear hcb hcd m0 m1 m2
    by_cases hik:o.k=kd
    ·by_cases hip:o.p=pe
     ·have hno:=dn.2 ⟨hik,hip⟩
      have HN:Hid (os++aH kd pe c' (x.o.drop (k+1))=aH kd pe c x.o):=by
       unfold Hid; rw [← HP.out,HS.out,if_neg hnb,hno,if_pos rfl]
      have v1:(o.k != kd)=false:=by simp [hik]
      have v2:(o.p != pe)=false:=by simp [hip]
      clear hik hip hno hnb HP HS HB HBD
      go_wp2
      go_roundw
      case rel=>exact ⟨k+1,os,vo,c',by omega,by go_num,A9,by omega,HN⟩
      case measure=>simp [intOf]; omega
     ·have hno:ei kd pe o=false:=by rw [Bool.eq_false_iff]; intro e; exact hip (dn.1 e).2
      have v1:(o.k != kd)=false:=by simp [hik]
      have v2:(o.p != pe)=true:=by simp [hip]
      have HN:Hid (os++[o]++aH kd pe c' (x.o.drop (k+1))=aH kd pe c x.o):=by
       unfold Hid; rw [← HP.out,HS.out,if_neg hnb,hno,if_neg (by simp)]; simp
      clear hik hip hno hnb HP HS HB HBD
      go_wp2_with (at_builtin; refine dG (w0:=w9) rfl _ _ 38 rfl 147 _ 3 24 Tryz.underlying38 ip rfl (by decide) (by omega) w.heap.size _ _ _ rfl HO9 #[O U o.k,O U o.p,O U o.c] 1 _ rfl (by first | rfl | exact Array.size_push _) rfl (by simp [Value.oneCell']) (by omega) hs9 rfl rfl rfl rfl ?_; intro v2 w10 HO_w10 hg_w10 hb_w10 hn_w10; obtain ⟨A_w10,c_w10,hv_w10⟩:=aw HO_w10.out; subst hv_w10; obtain ⟨q_w10,f_w10⟩:=A9.field hg_w10; have A11:=A9.push (o:=o) hg_w10 HO_w10.out hb_w10 hn_w10)
      go_roundw
      case rel=>exact ⟨k+1,os++[o],_,c',by omega,by go_num,A11,by simp; omega,HN⟩
      case measure=>simp [intOf]; omega
    ·have hno:ei kd pe o=false:=by rw [Bool.eq_false_iff]; intro e; exact hik (dn.1 e).1
     have v1:(o.k != kd)=true:=by simp [hik]
     have HN:Hid (os++[o]++aH kd pe c' (x.o.drop (k+1))=aH kd pe c x.o):=by
      unfold Hid; rw [← HP.out,HS.out,if_neg hnb,hno,if_neg (by simp)]; simp
     clear hik hno hnb HP HS HB HBD
     go_wp2_with (at_builtin; refine dG (w0:=w9) rfl _ _ 38 rfl 147 _ 3 24 Tryz.underlying38 ip rfl (by decide) (by omega) w.heap.size _ _ _ rfl HO9 #[O U o.k,O U o.p,O U o.c] 1 _ rfl (by first | rfl | exact Array.size_push _) rfl (by simp [Value.oneCell']) (by omega) hs9 rfl rfl rfl rfl ?_; intro v2 w10 HO_w10 hg_w10 hb_w10 hn_w10; obtain ⟨A_w10,c_w10,hv_w10⟩:=aw HO_w10.out; subst hv_w10; obtain ⟨q_w10,f_w10⟩:=A9.field hg_w10; have A11:=A9.push (o:=o) hg_w10 HO_w10.out hb_w10 hn_w10)
     go_roundw
     case rel=>exact ⟨k+1,os++[o],_,c',by omega,by go_num,A11,by simp; omega,HN⟩
     case measure=>simp [intOf]; omega
  ·have hke:x.o.drop k = []:=List.drop_eq_nil_of_le (by omega)
   have HE:Hid (os++(if c' ≠ 0 then [(⟨kd,pe,c'⟩ : ae)] else [])=aH kd pe c x.o):=by
    unfold Hid; rw [← HP.out,hke,aH]
   clear HP hke
   have c1:=AI.lx.cell 1
   have m0:=AI.more.cell 0
   have m1:=AI.more.cell 1
   have m2:=AI.more.cell 2
   have r1:=AI.own.lies.cell 1
   simp only [List.getElem?_cons_zero,List.getElem?_cons_succ] at c1 m0 m1 m2 r1
   have HO9:=Lib.hid AI.own.o
   simp only at HO9
   have hs9:=AI.below.size
   by_cases hc0:c'=0
   ·have HE:Hid (os=aH kd pe c x.o):=by
     have:=HE.out; rw [if_neg (by simpa using hc0),List.append_nil] at this; exact this
    have v1:(c' != 0)=false:=by simp [hc0]
    clear hc0
    obtain ⟨AV,cv,hvo⟩:=aw AI.own.o
    simp only at hvo
    subst hvo
    have k0:=AI.own.lies.cell 0
    have k1:=AI.own.lies.cell 1
    have k2:=AI.own.lies.cell 2
    have k3:=AI.own.lies.cell 3
    have k4:=AI.own.lies.cell 4
    have z0:=AI.lr.cell 0
    have z1:=AI.lr.cell 1
    have z2:=AI.lr.cell 2
    have z3:=AI.lr.cell 3
    have z4:=AI.lr.cell 4
    obtain ⟨f0,f1,f2,f3,f4⟩:=frz5 AI.lr
    simp only [List.getElem?_cons_zero,List.getElem?_cons_succ] at k0 k1 k2 k3 k4 z0 z1 z2 z3 z4
    have HT:=Lib.hid (aW (v0:=F TA x.t.length tc) (v1:=(F AV os.length cv)) (v2:=O U x.got) (v3:=O U x.sold) (v4:=O U x.missed) AI.lr AI.own.t cq)
    have HO:=Lib.hid (aW (v0:=F TA x.t.length tc) (v1:=(F AV os.length cv)) (v2:=O U x.got) (v3:=O U x.sold) (v4:=O U x.missed) AI.lr AI.own.o cF)
    have bz:=AI.below.trans (bK (v0:=F TA x.t.length tc) (v1:=(F AV os.length cv)) (v2:=O U x.got) (v3:=O U x.sold) (v4:=O U x.missed) AI.lr (Nat.le_succ _))
    go_wp2
    refine bodyPost_ret (v:=.agg #[F TA x.t.length tc,F AV os.length cv,O U x.got,O U x.sold,O U x.missed]) (by simp [results,Tryz.results202,go_sem, *]) rfl ?_
    rw [← HE.out]
    exact dr.of rfl rfl rfl HT.out HO.out bz
   ·have HE:Hid (os++[(⟨kd,pe,c'⟩ : ae)]=aH kd pe c x.o):=by
     have:=HE.out; rw [if_pos hc0] at this; exact this
    have v1:(c' != 0)=true:=by simp [hc0]
    clear hc0
    go_wp2_with (first | (rw [hW8]; clear hW8) | (at_builtin; refine dG (w0:=wr) rfl _ _ 38 rfl 147 _ 3 24 Tryz.underlying38 ip rfl (by decide) (by omega) w.heap.size _ _ _ rfl HO9 #[O U kd,O U pe,O U c'] 1 _ rfl (by first | rfl | exact Array.size_push _) rfl (by simp [Value.oneCell']) (by omega) hs9 rfl rfl rfl rfl ?_; intro v2 w10 HO_w10 hg_w10 hb_w10 hn_w10; obtain ⟨A_w10,c_w10,hv_w10⟩:=aw HO_w10.out; subst hv_w10; obtain ⟨q_w10,f_w10⟩:=AI.field hg_w10; have A11:=AI.push (o:=⟨kd,pe,c'⟩) hg_w10 HO_w10.out hb_w10 hn_w10; have hl8:(os++[(⟨kd,pe,c'⟩ : ae)]).length=os.length+1:=(by simp); obtain ⟨W8,hW8⟩ : ∃ W8,w10.setCell ⟨g9,1,none⟩ (F A_w10 (os.length+1) c_w10)=W8:=⟨_,rfl⟩; rw [hW8] at A11; have k0:=A11.own.lies.cell 0; have k1:=A11.own.lies.cell 1; have k2:=A11.own.lies.cell 2; have k3:=A11.own.lies.cell 3; have k4:=A11.own.lies.cell 4; have z0:=A11.lr.cell 0; have z1:=A11.lr.cell 1; have z2:=A11.lr.cell 2; have z3:=A11.lr.cell 3; have z4:=A11.lr.cell 4; have f0:=A11.lr.frozen 0; have f1:=A11.lr.frozen 1; have f2:=A11.lr.frozen 2; have f3:=A11.lr.frozen 3; have f4:=A11.lr.frozen 4; simp only [List.getElem?_cons_zero,List.getElem?_cons_succ] at k0 k1 k2 k3 k4 z0 z1 z2 z3 z4; have HT:=Lib.hid (aW (v0:=F TA x.t.length tc) (v1:=(F A_w10 (os.length+1) c_w10)) (v2:=O U x.got) (v3:=O U x.sold) (v4:=O U x.missed) A11.lr A11.own.t cq); have HO:=Lib.hid (aW (v0:=F TA x.t.length tc) (v1:=(F A_w10 (os.length+1) c_w10)) (v2:=O U x.got) (v3:=O U x.sold) (v4:=O U x.missed) A11.lr A11.own.o cF); have bz:=A11.below.trans (bK (v0:=F TA x.t.length tc) (v1:=(F A_w10 (os.length+1) c_w10)) (v2:=O U x.got) (v3:=O U x.sold) (v4:=O U x.missed) A11.lr (Nat.le_succ _))))
    refine bodyPost_ret (v:=.agg #[F TA x.t.length tc,F A_w10 (os.length+1) c_w10,O U x.got,O U x.sold,O U x.missed]) (by simp [results,Tryz.results202,go_sem, *]) rfl ?_
    rw [← HE.out]
    exact dr.of rfl hl8 rfl HT.out HO.out bz
set_option linter.unusedSimpArgs false
def gE (y:Oc) (s:dH):Oc × Bool :=
 if s.kind=2 then (⟨ah y.t s.stamp (-s.value),aH s.stamp s.person (aJ s.stamp s.person y.o+s.value) y.o,y.got,y.sold,y.missed⟩,true)
 else if s.kind=3 then (⟨ah y.t s.stamp s.value,aH s.stamp s.person (aJ s.stamp s.person y.o - s.value) y.o,y.got,y.sold,y.missed⟩,decide (s.value≤aJ s.stamp s.person y.o))
 else if s.kind=5 then (⟨y.t,aH s.stamp s.person 0 y.o,y.got,y.sold,y.missed+aJ s.stamp s.person y.o⟩,decide (0 < aJ s.stamp s.person y.o))
 else if s.kind=6 then (⟨y.t,aH s.stamp s.value (aJ s.stamp s.value (aH s.stamp s.person 0 y.o)+aJ s.stamp s.person y.o) (aH s.stamp s.person 0 y.o),y.got,y.sold,y.missed⟩,decide (0 < aJ s.stamp s.person y.o) && decide (s.value ≠ s.person))
 else (⟨y.t,aH s.stamp s.person (aJ s.stamp s.person y.o - s.value) y.o,y.got,y.sold+s.value,y.missed⟩,decide (s.value≤aJ s.stamp s.person y.o))
def fc (y:Oc) (s:dH):Oc × Bool :=
 if s.kind=1 then (⟨ah y.t s.stamp s.value,y.o,y.got+s.value,y.sold,y.missed⟩,(⟨ah y.t s.stamp s.value,y.o,y.got+s.value,y.sold,y.missed⟩ : Oc).good)
 else if av y.t s.stamp < 0 then (y,false)
 else if s.person=0 then (⟨ah y.t s.stamp (-s.value),y.o,y.got,y.sold+s.value,y.missed⟩,(⟨ah y.t s.stamp (-s.value),y.o,y.got,y.sold+s.value,y.missed⟩ : Oc).good)
 else ((gE y s).1,(gE y s).2 && (gE y s).1.good)
def oi (R:Oc × Bool):Option Oc:=if R.2 then some R.1 else none
theorem nq {k p c:Int} (hc:c ≠ 0):∀ l:List ae,(⟨k,p,c⟩ : ae) ∈ aH k p c l
 | []=>by simp [aH,hc]
 | o :: l=>by
  rw [aH]
  split
  ·simp
  ·split
   ·exact nq hc l
   ·exact List.mem_cons_of_mem _ (nq hc l)
theorem qj {ts:List aq} {k p c:Int} (hc:c < 0) (l:List ae):dV ts (aH k p c l)=false:=by
 cases h:dV ts (aH k p c l) with
 | false=>rfl
 | true =>
  obtain ⟨i,hi,e⟩:=List.mem_iff_getElem.1 (nq (k:=k) (p:=p) (c:=c) (by omega) l)
  have h1:=eZ _ _ _ h i hi
  rw [e] at h1
  have:=(ae.bounds h1).2.2.1
  simp only at this
  omega
theorem Oc.bad {y:Oc} (h:dV y.t y.o=false):y.good=false:=by
 show am _=false
 unfold am
 rw [show dV (y.at none 0 none 0).t (y.at none 0 none 0).o=false from h]
 simp
theorem om (x:aM) (s:dH) (G:bn x) (hs:s.okS=true):oi (fc x.c s)=if s.ok then aZ x.c s else none:=by
 obtain ⟨hst,hI⟩:=dH.okS_is hs
 have hok:=dH.ok_okS s
 rw [hs,Bool.true_and] at hok
 obtain ⟨kd,st,pe,va⟩:=s
 have hA:=G.asc
 obtain ⟨n0,n1⟩:=G.at_bd st pe
 unfold fc aZ oi Oc.fin gE
 simp only at hok
 simp only [aM.c]
 obtain ⟨n,hn⟩ : ∃ n,aJ st pe x.o=n:=⟨_,rfl⟩
 simp only [hn] at n0 n1 ⊢
 by_cases hT:av x.t st < 0
 ·cases hI with
  | get hk hp hv=>simp only at hk; subst hk; simp [hok]; rfl
  | show_ hk hp hv=>simp only at hk; subst hk; simp [hT,hok]
  | back hk hp hv=>simp only at hk; subst hk; simp [hT,hok]
  | sell0 hk hp hv=>simp only at hk; subst hk; simp [hT,hok]
  | sell hk hp hv=>simp only at hk; subst hk; simp [hT,hok]
  | miss hk hp hv=>simp only at hk; subst hk; simp [hT,hok]
  | move hk hp hv=>simp only at hk; subst hk; simp [hT]
 ·have hT' : 0≤av x.t st:=by omega
  cases hI with
  | get hk hp hv=>simp only at hk; subst hk; simp [hok]; rfl
  | show_ hk hp hv =>
   simp only at hk hp hv; subst hk
   have e:=fy (k:=st) (p:=pe) (by_:=va) x.o hA (fun _=>by omega)
   rw [hn] at e
   have hp0 : ¬ pe=0:=by omega
   simp [hT,hT',hok,e,hp0]
  | back hk hp hv =>
   simp only at hk hp hv; subst hk
   have hp0 : ¬ pe=0:=by omega
   by_cases hz:n=0
   ·have h1 : ¬ va≤n:=by omega
    have h2:0 < pe:=by omega
    simp [hT,hT',hok,hp0,hz,h1,h2]
    omega
   ·have e:=fy (k:=st) (p:=pe) (by_:=-va) x.o hA (fun h=>by omega)
    rw [hn,← Int.sub_eq_add_neg] at e
    by_cases h1:va≤n
    ·simp [hT,hT',hok,hp0,hz,h1,e]
    ·have hb:(⟨ah x.t st va,aH st pe (n - va) x.o,x.got,x.sold,x.missed⟩ : Oc).good=false:=Oc.bad (qj (by omega) _)
     simp [hT,hT',hok,hp0,hz,h1,e,hb]
  | sell0 hk hp hv=>simp only at hk hp; subst hk; subst hp; simp [hT,hT',hok]; rfl
  | sell hk hp hv =>
   simp only at hk hp hv; subst hk
   have hp0 : ¬ pe=0:=by omega
   by_cases hz:n=0
   ·have h1 : ¬ va≤n:=by omega
    have h2:0 < pe:=by omega
    simp [hT,hT',hok,hp0,hz,h1,h2]
    omega
   ·have e:=fy (k:=st) (p:=pe) (by_:=-va) x.o hA (fun h=>by omega)
    rw [hn,← Int.sub_eq_add_neg] at e
    by_cases h1:va≤n
    ·simp [hT,hT',hok,hp0,hz,h1,e]
    ·have hb:(⟨x.t,aH st pe (n - va) x.o,x.got,x.sold+va,x.missed⟩ : Oc).good=false:=Oc.bad (qj (by omega) _)
     simp [hT,hT',hok,hp0,hz,h1,e,hb]
  | miss hk hp hv =>
   simp only at hk hp hv; subst hk
   have hp0 : ¬ pe=0:=by omega
   have h2:0 < pe:=by omega
   by_cases hz:n=0
   ·simp [hT,hT',hok,hp0,hz,h2]
   ·have e:=fy (k:=st) (p:=pe) (by_:=-n) x.o hA (fun h=>by omega)
    rw [hn,show n+-n=0 by omega] at e
    have h1:0 < n:=by omega
    simp [hT,hT',hok,hp0,hz,h1,e]
  | move hk hp hv =>
   simp only at hk hp hv; subst hk
   have hp0 : ¬ pe=0:=by omega
   have h2:0 < pe:=by omega
   by_cases hq:va=pe
   ·subst hq
    simp [hT,hp0,hok]
   ·by_cases hz:n=0
    ·simp [hT,hT',hok,hp0,hz,h2]
    ·have e:=fy (k:=st) (p:=pe) (by_:=-n) x.o hA (fun h=>by omega)
     rw [hn,show n+-n=0 by omega] at e
     have hA' : mq (aH st pe 0 x.o):=List.Pairwise.sublist (ej _) hA
     have e2:=fy (k:=st) (p:=va) (by_:=n) (aH st pe 0 x.o) hA' (fun _=>hz)
     have h1:0 < n:=by omega
     simp [hT,hT',hok,hp0,hz,h1,hq,e,e2]
set_option maxHeartbeats 4000000 in
theorem oo (s:dH) (w:World) :
  Calls Tryz.prog 126 #[s.val] w fun e w'=>e=.returned (.bool s.okS)∧Below w.heap.size w w':=by
 obtain ⟨kd,st,pe,va⟩:=s
 have hb0:=(Below.refl w.heap.size w).alloc (Nat.le_refl _) (.cells #[O U kd,O U st,O U pe,O U va] 112)
 have L:=ai.new w 112 #[O U kd,O U st,O U pe,O U va]
 obtain ⟨ok,hok⟩ : ∃ ok,ok=dH.okS ⟨kd,st,pe,va⟩:=⟨_,rfl⟩
 rw [← hok]
 unfold dH.okS at hok
 simp only at hok
 obtain ⟨v1,hv1⟩ : ∃ v,bI pe 1 999=v:=⟨_,rfl⟩
 obtain ⟨v2,hv2⟩ : ∃ v,bI va 1 9999=v:=⟨_,rfl⟩
 obtain ⟨v3,hv3⟩ : ∃ v,bI va 1 999=v:=⟨_,rfl⟩
 obtain ⟨v4,hv4⟩ : ∃ v,bI st 1 99=v:=⟨_,rfl⟩
 rw [hv1,hv2,hv3,hv4] at hok
 have HV1:=Lib.hid hv1; clear hv1
 have HV2:=Lib.hid hv2; clear hv2
 have HV3:=Lib.hid hv3; clear hv3
 have HV4:=Lib.hid hv4; clear hv4
 have HO:=Lib.hid hok; clear hok
 have c0:∀ W,W=w.alloc (.cells #[O U kd,O U st,O U pe,O U va] 112)→∀ q:ao W.heap.size W,q.val.cell? ⟨w.heap.size,0,none⟩=some (O U kd):=by rintro _ rfl q; exact (q.cell L.lt).trans (L.cell 0)
 have c1:∀ W,W=w.alloc (.cells #[O U kd,O U st,O U pe,O U va] 112)→∀ q:ao W.heap.size W,q.val.cell? ⟨w.heap.size,1,none⟩=some (O U st):=by rintro _ rfl q; exact (q.cell L.lt).trans (L.cell 1)
 have c2:∀ W,W=w.alloc (.cells #[O U kd,O U st,O U pe,O U va] 112)→∀ q:ao W.heap.size W,q.val.cell? ⟨w.heap.size,2,none⟩=some (O U pe):=by rintro _ rfl q; exact (q.cell L.lt).trans (L.cell 2)
 have c3:∀ W,W=w.alloc (.cells #[O U kd,O U st,O U pe,O U va] 112)→∀ q:ao W.heap.size W,q.val.cell? ⟨w.heap.size,3,none⟩=some (O U va):=by rintro _ rfl q; exact (q.cell L.lt).trans (L.cell 3)
 clear L
 by_cases k1:kd=1
 ·subst k1
  cases h2:(pe == 0)
  all_goals cases v2
  all_goals
   go_enter Tryz.func126,Tryz.ntmps126
   go_wp2_with fail
   generalize hW:w.alloc (.cells #[O U 1,O U st,O U pe,O U va] 112)=W at hb0 ⊢
   have d0:=c0 W hW.symm
   have d1:=c1 W hW.symm
   have d2:=c2 W hW.symm
   have d3:=c3 W hW.symm
   clear c0 c1 c2 c3 hW
   refine au (by kernel_rfl) (by kernel_rfl) ?_
   repeat (any_goals (first | go_big_quiet_step ((first | (go_at_call 134; with_reducible refine ay HV1 (aE pe 1 999 _)) | (go_at_call 134; with_reducible refine ay HV2 (aE va 1 9999 _)))) | (refine wpQuiet_step (fun K hK=>?_); go_simp; split <;> (refine hK _ ?_; clear hK K))))
   all_goals (refine wpQuiet_nil ?_; rintro _ ⟨q1,rfl⟩)
   all_goals (go_wp2_with (first | (go_at_call 134; with_reducible refine (aE va 1 999 _).mono ?_; rintro e w1 ⟨rfl,rfl⟩; rw [HV3.out]) | (go_at_call 134; with_reducible refine (aE st 1 99 _).mono ?_; rintro e w1 ⟨rfl,rfl⟩; rw [HV4.out])))
   all_goals go_ret
   all_goals exact ⟨by rw [HO.out]; clear d0 d1 d2 d3; simp_all <;> rfl,hb0.trans (q1.below.mono hb0.size)⟩
 by_cases k2:kd=2
 ·subst k2
  cases v1
  all_goals cases v2
  all_goals
   go_enter Tryz.func126,Tryz.ntmps126
   go_wp2_with fail
   generalize hW:w.alloc (.cells #[O U 2,O U st,O U pe,O U va] 112)=W at hb0 ⊢
   have d0:=c0 W hW.symm
   have d1:=c1 W hW.symm
   have d2:=c2 W hW.symm
   have d3:=c3 W hW.symm
   clear c0 c1 c2 c3 hW
   refine au (by kernel_rfl) (by kernel_rfl) ?_
   repeat (any_goals (first | go_big_quiet_step ((first | (go_at_call 134; with_reducible refine ay HV1 (aE pe 1 999 _)) | (go_at_call 134; with_reducible refine ay HV2 (aE va 1 9999 _)))) | (refine wpQuiet_step (fun K hK=>?_); go_simp; split <;> (refine hK _ ?_; clear hK K))))
   all_goals (refine wpQuiet_nil ?_; rintro _ ⟨q1,rfl⟩)
   all_goals (go_wp2_with (first | (go_at_call 134; with_reducible refine (aE va 1 999 _).mono ?_; rintro e w1 ⟨rfl,rfl⟩; rw [HV3.out]) | (go_at_call 134; with_reducible refine (aE st 1 99 _).mono ?_; rintro e w1 ⟨rfl,rfl⟩; rw [HV4.out])))
   all_goals go_ret
   all_goals exact ⟨by rw [HO.out]; clear d0 d1 d2 d3; simp_all <;> rfl,hb0.trans (q1.below.mono hb0.size)⟩
 by_cases k3:kd=3
 ·subst k3
  cases v1
  all_goals cases v2
  all_goals
   go_enter Tryz.func126,Tryz.ntmps126
   go_wp2_with fail
   generalize hW:w.alloc (.cells #[O U 3,O U st,O U pe,O U va] 112)=W at hb0 ⊢
   have d0:=c0 W hW.symm
   have d1:=c1 W hW.symm
   have d2:=c2 W hW.symm
   have d3:=c3 W hW.symm
   clear c0 c1 c2 c3 hW
   refine au (by kernel_rfl) (by kernel_rfl) ?_
   repeat (any_goals (first | go_big_quiet_step ((first | (go_at_call 134; with_reducible refine ay HV1 (aE pe 1 999 _)) | (go_at_call 134; with_reducible refine ay HV2 (aE va 1 9999 _)))) | (refine wpQuiet_step (fun K hK=>?_); go_simp; split <;> (refine hK _ ?_; clear hK K))))
   all_goals (refine wpQuiet_nil ?_; rintro _ ⟨q1,rfl⟩)
   all_goals (go_wp2_with (first | (go_at_call 134; with_reducible refine (aE va 1 999 _).mono ?_; rintro e w1 ⟨rfl,rfl⟩; rw [HV3.out]) | (go_at_call 134; with_reducible refine (aE st 1 99 _).mono ?_; rintro e w1 ⟨rfl,rfl⟩; rw [HV4.out])))
   all_goals go_ret
   all_goals exact ⟨by rw [HO.out]; clear d0 d1 d2 d3; simp_all <;> rfl,hb0.trans (q1.below.mono hb0.size)⟩
 by_cases k4:kd=4
 ·subst k4
  cases v1
  all_goals cases h2:(pe == 0)
  all_goals cases v2
  all_goals
   go_enter Tryz.func126,Tryz.ntmps126
   go_wp2_with fail
   generalize hW:w.alloc (.cells #[O U 4,O U st,O U pe,O U va] 112)=W at hb0 ⊢
   have d0:=c0 W hW.symm
   have d1:=c1 W hW.symm
   have d2:=c2 W hW.symm
   have d3:=c3 W hW.symm
   clear c0 c1 c2 c3 hW
   refine au (by kernel_rfl) (by kernel_rfl) ?_
   repeat (any_goals (first | go_big_quiet_step ((first | (go_at_call 134; with_reducible refine ay HV1 (aE pe 1 999 _)) | (go_at_call 134; with_reducible refine ay HV2 (aE va 1 9999 _)))) | (refine wpQuiet_step (fun K hK=>?_); go_simp; split <;> (refine hK _ ?_; clear hK K))))
   all_goals (refine wpQuiet_nil ?_; rintro _ ⟨q1,rfl⟩)
   all_goals (go_wp2_with (first | (go_at_call 134; with_reducible refine (aE va 1 999 _).mono ?_; rintro e w1 ⟨rfl,rfl⟩; rw [HV3.out]) | (go_at_call 134; with_reducible refine (aE st 1 99 _).mono ?_; rintro e w1 ⟨rfl,rfl⟩; rw [HV4.out])))
   all_goals go_ret
   all_goals exact ⟨by rw [HO.out]; clear d0 d1 d2 d3; simp_all <;> rfl,hb0.trans (q1.below.mono hb0.size)⟩
 by_cases k5:kd=5
 ·subst k5
  cases v1
  all_goals cases h2:(va == 0)
  all_goals
   go_enter Tryz.func126,Tryz.ntmps126
   go_wp2_with fail
   generalize hW:w.alloc (.cells #[O U 5,O U st,O U pe,O U va] 112)=W at hb0 ⊢
   have d0:=c0 W hW.symm
   have d1:=c1 W hW.symm
   have d2:=c2 W hW.symm
   have d3:=c3 W hW.symm
   clear c0 c1 c2 c3 hW
   refine au (by kernel_rfl) (by kernel_rfl) ?_
   repeat (any_goals (first | go_big_quiet_step ((first | (go_at_call 134; with_reducible refine ay HV1 (aE pe 1 999 _)) | (go_at_call 134; with_reducible refine ay HV2 (aE va 1 9999 _)))) | (refine wpQuiet_step (fun K hK=>?_); go_simp; split <;> (refine hK _ ?_; clear hK K))))
   all_goals (refine wpQuiet_nil ?_; rintro _ ⟨q1,rfl⟩)
   all_goals (go_wp2_with (first | (go_at_call 134; with_reducible refine (aE va 1 999 _).mono ?_; rintro e w1 ⟨rfl,rfl⟩; rw [HV3.out]) | (go_at_call 134; with_reducible refine (aE st 1 99 _).mono ?_; rintro e w1 ⟨rfl,rfl⟩; rw [HV4.out])))
   all_goals go_ret
   all_goals exact ⟨by rw [HO.out]; clear d0 d1 d2 d3; simp_all <;> rfl,hb0.trans (q1.below.mono hb0.size)⟩
 by_cases k6:kd=6
 ·subst k6
  cases v1
  all_goals cases v3
  all_goals
   go_enter Tryz.func126,Tryz.ntmps126
   go_wp2_with fail
   generalize hW:w.alloc (.cells #[O U 6,O U st,O U pe,O U va] 112)=W at hb0 ⊢
   have d0:=c0 W hW.symm
   have d1:=c1 W hW.symm
   have d2:=c2 W hW.symm
   have d3:=c3 W hW.symm
   clear c0 c1 c2 c3 hW
   refine au (by kernel_rfl) (by kernel_rfl) ?_
   repeat (any_goals (first | go_big_quiet_step ((first | (go_at_call 134; with_reducible refine ay HV1 (aE pe 1 999 _)) | (go_at_call 134; with_reducible refine ay HV2 (aE va 1 9999 _)))) | (refine wpQuiet_step (fun K hK=>?_); go_simp; split <;> (refine hK _ ?_; clear hK K))))
   all_goals (refine wpQuiet_nil ?_; rintro _ ⟨q1,rfl⟩)
   all_goals (go_wp2_with (first | (go_at_call 134; with_reducible refine (aE va 1 999 _).mono ?_; rintro e w1 ⟨rfl,rfl⟩; rw [HV3.out]) | (go_at_call 134; with_reducible refine (aE st 1 99 _).mono ?_; rintro e w1 ⟨rfl,rfl⟩; rw [HV4.out])))
   all_goals go_ret
   all_goals exact ⟨by rw [HO.out]; clear d0 d1 d2 d3; simp_all <;> rfl,hb0.trans (q1.below.mono hb0.size)⟩
 have e1:(kd == 1)=false:=by simp [k1]
 have e2:(kd == 2)=false:=by simp [k2]
 have e3:(kd == 3)=false:=by simp [k3]
 have e4:(kd == 4)=false:=by simp [k4]
 have e5:(kd == 5)=false:=by simp [k5]
 have e6:(kd == 6)=false:=by simp [k6]
 go_enter Tryz.func126,Tryz.ntmps126
 go_wp2_with fail
 generalize hW:w.alloc (.cells #[O U kd,O U st,O U pe,O U va] 112)=W at hb0 ⊢
 have d0:=c0 W hW.symm
 have d1:=c1 W hW.symm
 have d2:=c2 W hW.symm
 have d3:=c3 W hW.symm
 clear c0 c1 c2 c3 hW
 refine au (by kernel_rfl) (by kernel_rfl) ?_
 repeat (any_goals (first | go_big_quiet_step ((first | (go_at_call 134; with_reducible refine ay HV1 (aE pe 1 999 _)) | (go_at_call 134; with_reducible refine ay HV2 (aE va 1 9999 _)))) | (refine wpQuiet_step (fun K hK=>?_); go_simp; split <;> (refine hK _ ?_; clear hK K))))
 all_goals (refine wpQuiet_nil ?_; rintro _ ⟨q1,rfl⟩)
 all_goals (go_wp2_with (first | (go_at_call 134; with_reducible refine (aE va 1 999 _).mono ?_; rintro e w1 ⟨rfl,rfl⟩; rw [HV3.out]) | (go_at_call 134; with_reducible refine (aE st 1 99 _).mono ?_; rintro e w1 ⟨rfl,rfl⟩; rw [HV4.out])))
 all_goals go_ret
 all_goals exact ⟨by rw [HO.out]; clear d0 d1 d2 d3; simp_all <;> rfl,hb0.trans (q1.below.mono hb0.size)⟩
def cm (w:World) (R:Oc × Bool) (e:Ending) (w' : World):Prop :=
 ∃ TA tc OA oc,e=.returned (.tuple #[.agg #[F TA R.1.t.length tc,F OA R.1.o.length oc,O U R.1.got,O U R.1.sold,O U R.1.missed],.bool R.2])∧w'.ownsRow w.heap.size 104 2 (F TA R.1.t.length tc) R.1.t.length (R.1.t.flatMap aq.enc) ∧
  w'.ownsRow w.heap.size 147 3 (F OA R.1.o.length oc) R.1.o.length (R.1.o.flatMap ae.enc)∧Below w.heap.size w w'
set_option maxRecDepth 100000 in
set_option maxHeartbeats 4000000 in
theorem oq (hM:∀ (x:aM) (s:dH) (w:World),aQ w w.heap.size x→bn x→x.t.length≤x.tc→s.okS=true→Calls Tryz.prog 127 #[x.val,s.val] w (cm w (fc x.c s)))
  (x:aM) (s:dH) (w:World) (h:aQ w w.heap.size x) (hcap:x.t.length≤x.tc) :
  Calls Tryz.prog 76 #[x.val,s.val] w (aC w (if am x && s.okS then oi (fc x.c s) else none)):=by
 obtain ⟨kd,st,pe,va⟩:=s
 have L1:=((ai.new w 40 #[F x.TA x.t.length x.tc,F x.OA x.o.length x.oc,O U x.got,O U x.sold,O U x.missed]).alloc (.cells #[O U kd,O U st,O U pe,O U va] 112)).alloc (.cells #[F none 0 0,F none 0 0,O U 0,O U 0,O U 0] 40)
 have L2:=(ai.new1 w (.cells #[F x.TA x.t.length x.tc,F x.OA x.o.length x.oc,O U x.got,O U x.sold,O U x.missed] 40) 112 #[O U kd,O U st,O U pe,O U va]).alloc (.cells #[F none 0 0,F none 0 0,O U 0,O U 0,O U 0] 40)
 have L3:=ai.new2 w (.cells #[F x.TA x.t.length x.tc,F x.OA x.o.length x.oc,O U x.got,O U x.sold,O U x.missed] 40) (.cells #[O U kd,O U st,O U pe,O U va] 112) 40 #[F none 0 0,F none 0 0,O U 0,O U 0,O U 0]
 have b1:=(Below.refl w.heap.size w).alloc (Nat.le_refl _) (.cells #[F x.TA x.t.length x.tc,F x.OA x.o.length x.oc,O U x.got,O U x.sold,O U x.missed] 40)
 have b2:=b1.alloc b1.size (.cells #[O U kd,O U st,O U pe,O U va] 112)
 have b3:=b2.alloc b2.size (.cells #[F none 0 0,F none 0 0,O U 0,O U 0,O U 0] 40)
 clear b1 b2
 have cV:=fun W hW=>dp x W hW
 have cO:=fun W=>oo ⟨kd,st,pe,va⟩ W
 have cT:=fun (G:bn x) (hs:dH.okS ⟨kd,st,pe,va⟩=true) W hW=>hM x ⟨kd,st,pe,va⟩ W hW G hcap hs
 clear hM
 cases hg:am x
 ·rw [hg] at cV
  rw [show (if false && dH.okS ⟨kd,st,pe,va⟩ then oi (fc x.c ⟨kd,st,pe,va⟩) else none)=none from rfl]
  clear hg cO cT
  ·skip
   go_enter Tryz.func76,Tryz.ntmps76
   go_wp2_with fail
   generalize (((w.alloc (.cells #[F x.TA x.t.length x.tc,F x.OA x.o.length x.oc,O U x.got,O U x.sold,O U x.missed] 40)).alloc (.cells #[O U kd,O U st,O U pe,O U va] 112)).alloc (.cells #[F none 0 0,F none 0 0,O U 0,O U 0,O U 0] 40))=W3 at L1 L2 L3 b3 ⊢
   have hR:=h.up b3 (Nat.le_refl _)
   refine (cV W3 hR).mono ?_
   rintro e W4 ⟨rfl,hb4⟩
   have k4:=b3.trans (hb4.mono b3.size)
   have L3z:=L3.below hb4 L3.lt
   have z0:=L3z.cell 0
   have z1:=L3z.cell 1
   have z2:=L3z.cell 2
   have z3:=L3z.cell 3
   have z4:=L3z.cell 4
   obtain ⟨f0,f1,f2,f3,f4⟩:=frz5 L3z
   simp only [List.getElem?_cons_zero,List.getElem?_cons_succ] at z0 z1 z2 z3 z4
   have hgr:=(ac (g:=w.heap.size+1+1) (i:=4) (u:=O U 0) (ac (g:=w.heap.size+1+1) (i:=3) (u:=O U 0) (ac (g:=w.heap.size+1+1) (i:=2) (u:=O U 0) (ac (g:=w.heap.size+1+1) (i:=1) (u:=F none 0 0) (ac (g:=w.heap.size+1+1) (i:=0) (u:=F none 0 0) (World.grownBy.refl W4 (some (w.heap.size+1+1))))))))
   have bz:=k4.grown hgr k4.size (by rintro _ ⟨⟩; omega)
   clear hgr
   go_wp2
   refine bodyPost_ret (v:=.tuple #[.agg #[F none 0 0,F none 0 0,O U 0,O U 0,O U 0],.bool false]) (by simp [results,Tryz.results76,go_sem, *]) rfl ?_
   exact aC.no rfl bz
 ·have G:=bm.1 hg
  rw [hg] at cV
  have cT:=cT G
  clear hg G
  cases hs:dH.okS ⟨kd,st,pe,va⟩
  ·rw [hs] at cO
   rw [show (if true && false then oi (fc x.c ⟨kd,st,pe,va⟩) else none)=none from rfl]
   clear hs cT
   go_enter Tryz.func76,Tryz.ntmps76
   go_wp2_with fail
   generalize (((w.alloc (.cells #[F x.TA x.t.length x.tc,F x.OA x.o.length x.oc,O U x.got,O U x.sold,O U x.missed] 40)).alloc (.cells #[O U kd,O U st,O U pe,O U va] 112)).alloc (.cells #[F none 0 0,F none 0 0,O U 0,O U 0,O U 0] 40))=W3 at L1 L2 L3 b3 ⊢
   have hR:=h.up b3 (Nat.le_refl _)
   refine (cV W3 hR).mono ?_
   rintro e W4 ⟨rfl,hb4⟩
   have L2y:=L2.below hb4 L2.lt
   obtain ⟨s0,s1,s2,s3⟩:=cells4 L2y
   go_wp2_with fail
   refine (cO W4).mono ?_
   rintro e W5 ⟨rfl,hb5⟩
   clear s0 s1 s2 s3
   have k5:=b3.trans ((ar hb4 hb5).mono b3.size)
   have L3z:=L3.below (ar hb4 hb5) L3.lt
   have z0:=L3z.cell 0
   have z1:=L3z.cell 1
   have z2:=L3z.cell 2
   have z3:=L3z.cell 3
   have z4:=L3z.cell 4
   obtain ⟨f0,f1,f2,f3,f4⟩:=frz5 L3z
   simp only [List.getElem?_cons_zero,List.getElem?_cons_succ] at z0 z1 z2 z3 z4
   have hgr:=(ac (g:=w.heap.size+1+1) (i:=4) (u:=O U 0) (ac (g:=w.heap.size+1+1) (i:=3) (u:=O U 0) (ac (g:=w.heap.size+1+1) (i:=2) (u:=O U 0) (ac (g:=w.heap.size+1+1) (i:=1) (u:=F none 0 0) (ac (g:=w.heap.size+1+1) (i:=0) (u:=F none 0 0) (World.grownBy.refl W5 (some (w.heap.size+1+1))))))))
   have bz:=k5.grown hgr k5.size (by rintro _ ⟨⟩; omega)
   clear hgr
   go_wp2
   refine bodyPost_ret (v:=.tuple #[.agg #[F none 0 0,F none 0 0,O U 0,O U 0,O U 0],.bool false]) (by simp [results,Tryz.results76,go_sem, *]) rfl ?_
   exact aC.no rfl bz
  ·have cT:=cT hs
   rw [hs] at cO
   rw [show (if true && true then oi (fc x.c ⟨kd,st,pe,va⟩) else none)=oi (fc x.c ⟨kd,st,pe,va⟩) from rfl]
   clear hs
   generalize fc x.c ⟨kd,st,pe,va⟩=R at cT ⊢
   obtain ⟨r,ok⟩:=R
   go_enter Tryz.func76,Tryz.ntmps76
   go_wp2_with fail
   generalize (((w.alloc (.cells #[F x.TA x.t.length x.tc,F x.OA x.o.length x.oc,O U x.got,O U x.sold,O U x.missed] 40)).alloc (.cells #[O U kd,O U st,O U pe,O U va] 112)).alloc (.cells #[F none 0 0,F none 0 0,O U 0,O U 0,O U 0] 40))=W3 at L1 L2 L3 b3 ⊢
   have hR:=h.up b3 (Nat.le_refl _)
   refine (cV W3 hR).mono ?_
   rintro e W4 ⟨rfl,hb4⟩
   have L2y:=L2.below hb4 L2.lt
   obtain ⟨s0,s1,s2,s3⟩:=cells4 L2y
   go_wp2_with fail
   refine (cO W4).mono ?_
   rintro e W5 ⟨rfl,hb5⟩
   clear s0 s1 s2 s3
   have L2y:=L2.below (ar hb4 hb5) L2.lt
   have L1y:=L1.below (ar hb4 hb5) L1.lt
   obtain ⟨s0,s1,s2,s3⟩:=cells4 L2y
   obtain ⟨y0,y1,y2,y3,y4⟩:=cells5 L1y
   go_wp2_with fail
   refine (cT W5 (hR.then (ar hb4 hb5))).mono ?_
   rintro e W6 ⟨TA,tc,OA,oc,rfl,hT,hO,hb6⟩
   simp only at hT hO
   clear s0 s1 s2 s3 y0 y1 y2 y3 y4
   have k56:=ar (ar hb4 hb5) hb6
   have hal:=(Below.refl W6.heap.size W6).alloc (Nat.le_refl _) (.cells #[F TA r.t.length tc,F OA r.o.length oc,O U r.got,O U r.sold,O U r.missed] 40)
   have k7:=b3.trans ((ar k56 hal).mono b3.size)
   have L3z:=L3.below (ar k56 hal) L3.lt
   have s36:W3.heap.size≤W5.heap.size:=(ar hb4 hb5).size
   have hT7:=ab hT hal
   have hO7:=ab hO hal
   have z0:=L3z.cell 0
   have z1:=L3z.cell 1
   have z2:=L3z.cell 2
   have z3:=L3z.cell 3
   have z4:=L3z.cell 4
   obtain ⟨f0,f1,f2,f3,f4⟩:=frz5 L3z
   simp only [List.getElem?_cons_zero,List.getElem?_cons_succ] at z0 z1 z2 z3 z4
   clear hT hO
   cases ok
   ·have hgr:=(ac (g:=w.heap.size+1+1) (i:=4) (u:=O U 0) (ac (g:=w.heap.size+1+1) (i:=3) (u:=O U 0) (ac (g:=w.heap.size+1+1) (i:=2) (u:=O U 0) (ac (g:=w.heap.size+1+1) (i:=1) (u:=F none 0 0) (ac (g:=w.heap.size+1+1) (i:=0) (u:=F none 0 0) (World.grownBy.refl (W6.alloc (.cells #[F TA r.t.length tc,F OA r.o.length oc,O U r.got,O U r.sold,O U r.missed] 40)) (some (w.heap.size+1+1))))))))
    have bz:=k7.grown hgr k7.size (by rintro _ ⟨⟩; omega)
    clear hgr hT7 hO7 hal
    go_wp2
    refine bodyPost_ret (v:=.tuple #[.agg #[F none 0 0,F none 0 0,O U 0,O U 0,O U 0],.bool false]) (by simp [results,Tryz.results76,go_sem, *]) rfl ?_
    exact aC.no rfl bz
   ·have hgr:=(ac (g:=w.heap.size+1+1) (i:=4) (u:=O U r.missed) (ac (g:=w.heap.size+1+1) (i:=3) (u:=O U r.sold) (ac (g:=w.heap.size+1+1) (i:=2) (u:=O U r.got) (ac (g:=w.heap.size+1+1) (i:=1) (u:=F OA r.o.length oc) (ac (g:=w.heap.size+1+1) (i:=0) (u:=F TA r.t.length tc) (World.grownBy.refl (W6.alloc (.cells #[F TA r.t.length tc,F OA r.o.length oc,O U r.got,O U r.sold,O U r.missed] 40)) (some (w.heap.size+1+1))))))))
    have bz:=k7.grown hgr k7.size (by rintro _ ⟨⟩; omega)
    have R8:=Lib.hid (af (aj hT7 L3z cq hgr) (Nat.le_trans b3.size s36))
    have R9:=Lib.hid (af (aj hO7 L3z cF hgr) (Nat.le_trans b3.size s36))
    clear hgr hT7 hO7 hal
    go_wp2
    refine bodyPost_ret (v:=.tuple #[.agg #[F TA r.t.length tc,F OA r.o.length oc,O U r.got,O U r.sold,O U r.missed],.bool true]) (by simp [results,Tryz.results76,go_sem, *]) rfl ?_
    exact aC.yes rfl R8.out R9.out bz
theorem pu {k p:Int} {l:List ae} {i:Nat} (h:i < l.length):aJ k p (l.drop i)=if ei k p l[i] then l[i].c else aJ k p (l.drop (i+1)):=by
 rw [List.drop_eq_getElem_cons h,aJ]
set_option maxHeartbeats 2000000 in
theorem fl (x:aM) (kd pe:Int) (w:World) (h:aQ w w.heap.size x) :
  Calls Tryz.prog 201 #[x.val,O U kd,O U pe] w fun e w'=>e=.returned (O U (aJ kd pe x.o))∧Below w.heap.size w w':=by
 have hl:=h.os.big
 have HF:Hid (aJ kd pe (x.o.drop 0)=aJ kd pe x.o):=rfl
 go_enter Tryz.func201,Tryz.ntmps201
 go_wp2
 have hb0:=(Below.refl w.heap.size w).alloc (Nat.le_refl _) (.cells #[F x.TA x.t.length x.tc,F x.OA x.o.length x.oc,O U x.got,O U x.sold,O U x.missed] 40)
 have hS:=lM.of (x:=x) (ai.new w 40 #[F x.TA x.t.length x.tc,F x.OA x.o.length x.oc,O U x.got,O U x.sold,O U x.missed])
 have hR:=h.up hb0 (Nat.le_refl _)
 generalize w.alloc (.cells #[F x.TA x.t.length x.tc,F x.OA x.o.length x.oc,O U x.got,O U x.sold,O U x.missed] 40)=W at hb0 hS hR ⊢
 have c1:=hS.c1
 have hrd:=hR.os.el
 go_loopw [7] (fun i wr=>∃ (k:Nat),k≤x.o.length∧i=O U k∧(∃ q:ao W.heap.size W,wr=q.val)∧Hid (aJ kd pe (x.o.drop k)=aJ kd pe x.o)) (fun i _=>x.o.length - (intOf i).toNat)
 case atStart=>exact ⟨0,Nat.zero_le _,rfl,⟨ao.start _ _,rfl⟩,HF⟩
 case round =>
  obtain ⟨k,hk,rfl,⟨q,rfl⟩,HR⟩:=hrel
  by_cases hlt:k < x.o.length
  ·obtain ⟨b,off,hA,hb,hcell⟩:=hrd (by omega)
   obtain ⟨e0,e1,e2⟩:=hcell k hlt
   have hst:=pu (k:=kd) (p:=pe) hlt
   obtain ⟨r,hre⟩ : ∃ r,r=x.o[k]:=⟨_,rfl⟩
   rw [← hre] at e0 e1 e2 hst
   simp only [hA] at c1
   clear hre hcell hrd hA
   by_cases hz:r.k=kd
   ·by_cases hy:r.p=pe
    ·have HE:Hid (r.c=aJ kd pe x.o):=by rw [if_pos (dn.2 ⟨hz,hy⟩)] at hst; rw [← hst]; exact HR.out
     have hv:(r.k == kd)=true:=by simp [hz]
     have hu:(r.p == pe)=true:=by simp [hy]
     clear hst hz hy
     go_wp2
     go_ret
     exact ⟨by rw [← HE.out]; rfl,hb0.trans (q.below.mono hb0.size)⟩
    ·have HE:Hid (aJ kd pe (x.o.drop (k+1))=aJ kd pe x.o):=by rw [if_neg (fun hh=>hy (dn.1 hh).2)] at hst; rw [← hst]; exact HR.out
     have hv:(r.k == kd)=true:=by simp [hz]
     have hu:(r.p == pe)=false:=by simp [hy]
     clear hst hz hy
     go_wp2
     go_roundw
     case rel=>exact ⟨k+1,by omega,by go_num,⟨q,rfl⟩,HE⟩
     case measure=>simp [intOf]; omega
   ·have HE:Hid (aJ kd pe (x.o.drop (k+1))=aJ kd pe x.o):=by rw [if_neg (fun hh=>hz (dn.1 hh).1)] at hst; rw [← hst]; exact HR.out
    have hv:(r.k == kd)=false:=by simp [hz]
    clear hst hz
    go_wp2
    go_roundw
    case rel=>exact ⟨k+1,by omega,by go_num,⟨q,rfl⟩,HE⟩
    case measure=>simp [intOf]; omega
  ·have HE:Hid (0=aJ kd pe x.o):=by
    have h1:=HR.out; rw [List.drop_eq_nil_of_le (by omega)] at h1; exact h1
   go_wp2
   go_ret
   exact ⟨by rw [← HE.out]; rfl,hb0.trans (q.below.mono hb0.size)⟩
def fm (w:World) (B:Nat) (y:Oc) (v:Value):Prop :=
 ∃ TA tc OA oc,v=.agg #[F TA y.t.length tc,F OA y.o.length oc,O U y.got,O U y.sold,O U y.missed]∧w.ownsRow B 104 2 (F TA y.t.length tc) y.t.length (y.t.flatMap aq.enc) ∧
  w.ownsRow B 147 3 (F OA y.o.length oc) y.o.length (y.o.flatMap ae.enc)
def nr (w:World) (y:Oc) (e:Ending) (w' : World):Prop:=∃ v,e=.returned v∧fm w' w.heap.size y v∧Below w.heap.size w w'
theorem fm.below {w w' : World} {B:Nat} {y:Oc} {v:Value} (h:fm w B y v) (hb:Below w.heap.size w w'):fm w' B y v:=by
 obtain ⟨TA,tc,OA,oc,e,h1,h2⟩:=h
 exact ⟨TA,tc,OA,oc,e,ab h1 hb,ab h2 hb⟩
theorem fm.lower {w:World} {B B' : Nat} {y:Oc} {v:Value} (h:fm w B y v) (hB:B'≤B):fm w B' y v:=by
 obtain ⟨TA,tc,OA,oc,e,h1,h2⟩:=h
 exact ⟨TA,tc,OA,oc,e,af h1 hB,af h2 hB⟩
theorem fm.as {w:World} {B:Nat} {y:Oc} {v:Value} (h:fm w B y v):∃ x:aM,v=x.val∧x.c=y∧aQ w w.heap.size x∧x.t.length≤x.tc:=by
 obtain ⟨TA,tc,OA,oc,e,h1,h2⟩:=h
 exact ⟨y.at TA tc OA oc,e,rfl,⟨aB h1,aB h2⟩,iL h1⟩
theorem dr.v {w w' : World} {y:Oc} {e:Ending} (h:dr w y e w'):nr w y e w':=by
 obtain ⟨TA,tc,OA,oc,he,h1,h2,hb⟩:=h
 exact ⟨_,he,⟨TA,tc,OA,oc,rfl,h1,h2⟩,hb⟩
structure jk (y:Oc):Prop where
 tl:y.t.length≤1000000
 ol:y.o.length≤1000000
 tc:∀ t ∈ y.t, -1000000000≤t.c∧t.c≤1000000000
 ok:∀ o ∈ y.o,(1≤o.k∧o.k≤99)∧(1≤o.p∧o.p≤999)
theorem bn.small {x:aM} (G:bn x):jk x.c:=by
 refine ⟨by have:=G.tl; show x.t.length≤_; omega,by have:=G.ol; show x.o.length≤_; omega,fun t ht=>?_,fun o ho=>?_⟩
 ·obtain ⟨j,hj,rfl⟩:=List.getElem_of_mem (show t ∈ x.t from ht)
  have:=(aq.bounds (G.tall j hj)).2
  omega
 ·obtain ⟨j,hj,rfl⟩:=List.getElem_of_mem (show o ∈ x.o from ho)
  have:=ae.bounds (G.oall j hj)
  exact ⟨dW G.tall this.1,this.2.1⟩
theorem bn.tcs {x:aM} (G:bn x):∀ t ∈ x.t,0≤t.c∧t.c≤9999:=fun t ht=>by
 obtain ⟨j,hj,rfl⟩:=List.getElem_of_mem ht
 exact (aq.bounds (G.tall j hj)).2
theorem bn.move_bd {x:aM} (G:bn x) (st pe va:Int):0≤aJ st va (aH st pe 0 x.o)∧aJ st va (aH st pe 0 x.o)≤9999:=by
 rcases ke (k:=st) (p:=va) (aH st pe 0 x.o) with h | ⟨o,ho,_,hc⟩
 ·omega
 ·obtain ⟨j,hj,e⟩:=List.getElem_of_mem ((ej x.o).subset ho)
  have:=(ae.bounds (G.oall j hj)).2.2
  rw [e] at this; omega
theorem qM {k p c:Int} {l:List ae} (hk:1≤k∧k≤99) (hp:1≤p∧p≤999) (h:∀ o ∈ l,(1≤o.k∧o.k≤99)∧(1≤o.p∧o.p≤999)):∀ o ∈ aH k p c l,(1≤o.k∧o.k≤99)∧(1≤o.p∧o.p≤999):=fun o ho=>by
 rcases nc l c o ho with h1 | rfl
 ·exact h o h1
 ·exact ⟨hk,hp⟩
theorem qk {k p:Int} : ∀ (l:List ae) (c:Int),(aH k p c l).length≤l.length+1
 | [],c=>by rw [aH]; split <;> simp
 | o :: l,c=>by
  have h0:=qk (k:=k) (p:=p) l c
  have hz:(aH k p 0 l).length≤l.length:=(ej l).length_le
  rw [aH]
  split
  ·split <;> simp <;> omega
  ·split <;> simp <;> omega
theorem kT (ts:List aq) (kd n:Int):(ah ts kd n).length≤ts.length+1:=by
 have:=iW ts kd
 unfold ah; split
 ·simp
 ·simp; omega
theorem jk.at {y:Oc} (h:jk y) {k p c:Int} (hk:1≤k∧k≤99) (hp:1≤p∧p≤999) (hl:y.o.length≤100):jk ⟨y.t,aH k p c y.o,y.got,y.sold,y.missed⟩ :=
 ⟨h.tl,by have:=qk (k:=k) (p:=p) y.o c; show (aH k p c y.o).length≤_; omega,h.tc,qM hk hp h.ok⟩
theorem jl {ts:List aq} {kd n:Int} (hn : -1000000≤n∧n≤1000000) (h:∀ t ∈ ts, -1000000≤t.c∧t.c≤1000000):∀ t ∈ ah ts kd n, -1000000000≤t.c∧t.c≤1000000000:=by
 intro t ht
 unfold ah at ht
 split at ht
 ·rename_i hx
  rcases List.mem_or_eq_of_mem_set ht with h1 | rfl
  ·have:=h t h1; omega
  ·have hl:=kc hx
   have:ts.getD (av ts kd).toNat default ∈ ts:=by
    rw [List.getD_eq_getElem?_getD,List.getElem?_eq_getElem hl]; exact List.getElem_mem hl
   have:=h _ this
   simp only; omega
 ·rcases List.mem_append.1 ht with h1 | h1
  ·have:=h t (List.mem_of_mem_take h1); omega
  ·rcases List.mem_cons.1 h1 with rfl | h1
   ·simp only; omega
   ·have:=h t (List.mem_of_mem_drop h1); omega
theorem sI (x:aM) (kd n:Int) (w:World) (h:aQ w w.heap.size x) (S:jk x.c) (hn : -1000000000≤n∧n≤1000000000) (hcap:x.t.length≤x.tc) :
  Calls Tryz.prog 173 #[x.val,O U kd,O U n] w (nr w ⟨ah x.t kd n,x.o,x.got,x.sold,x.missed⟩):=by
 have hb:∀ i (hi:i < x.t.length), -1000000000≤x.t[i].c∧x.t[i].c≤1000000000:=fun i hi=>S.tc _ (List.getElem_mem hi)
 by_cases hx:0≤av x.t kd
 ·exact (qI x kd n w h S.tl S.ol hb hn hx).mono fun _ _ h=>h.v
 ·exact (qK x kd n w h S.tl S.ol hb hn hx hcap).mono fun _ _ h=>h.v
theorem sJ (x:aM) (kd pe c:Int) (w:World) (h:aQ w w.heap.size x) (S:jk x.c) (hkd:1≤kd∧kd≤99) (hpe:1≤pe∧pe≤999) :
  Calls Tryz.prog 202 #[x.val,O U kd,O U pe,O U c] w (nr w ⟨x.t,aH kd pe c x.o,x.got,x.sold,x.missed⟩) :=
 (qL x kd pe c w h S.tl S.ol hkd hpe (fun i hi=>S.ok _ (List.getElem_mem hi))).mono fun _ _ h=>h.v
theorem sN {B:Nat} {y:Oc} {v:Value} {w:World} (kd pe c:Int) (h:fm w B y v) (S:jk y) (hkd:1≤kd∧kd≤99) (hpe:1≤pe∧pe≤999) :
  Calls Tryz.prog 202 #[v,O U kd,O U pe,O U c] w (nr w ⟨y.t,aH kd pe c y.o,y.got,y.sold,y.missed⟩):=by
 obtain ⟨x,rfl,rfl,hr,_⟩:=h.as
 exact sJ x kd pe c w hr S hkd hpe
theorem sO {B:Nat} {y:Oc} {v:Value} {w:World} (kd pe:Int) (h:fm w B y v) :
  Calls Tryz.prog 201 #[v,O U kd,O U pe] w fun e w'=>e=.returned (O U (aJ kd pe y.o))∧Below w.heap.size w w':=by
 obtain ⟨x,rfl,rfl,hr,_⟩:=h.as
 exact fl x kd pe w hr
theorem rJ {B:Nat} {y:Oc} {v:Value} {w:World} (h:fm w B y v) :
  Calls Tryz.prog 82 #[v] w fun e w'=>e=.returned (.bool y.good)∧Below w.heap.size w w':=by
 obtain ⟨x,rfl,rfl,hr,_⟩:=h.as
 exact dp x w hr
def ql (w:World) (B g:Nat) (y:Oc):Prop:=∃ TA tc OA oc,aA w B g (F TA y.t.length tc) (F OA y.o.length oc) y
theorem ql.then {w w' : World} {B g:Nat} {y:Oc} (h:ql w B g y) (hb:Below w.heap.size w w'):ql w' B g y:=by
 obtain ⟨TA,tc,OA,oc,h⟩:=h; exact ⟨TA,tc,OA,oc,h.then hb⟩
theorem cm.of {w w' : World} {R:Oc × Bool} {e:Ending} {TA OA:Option Addr} {tc oc:Nat} (he:e=.returned (.tuple #[.agg #[F TA R.1.t.length tc,F OA R.1.o.length oc,O U R.1.got,O U R.1.sold,O U R.1.missed],.bool R.2])) {g:Nat}
  (h:aA w' w.heap.size g (F TA R.1.t.length tc) (F OA R.1.o.length oc) R.1) (hb:Below w.heap.size w w'):cm w R e w':=⟨TA,tc,OA,oc,he,h.t,h.o,hb⟩
theorem Sw.lies {s g gr:Nat} {t:TypeId} {cs:List Value} {W1 w:World} {C1:World→Prop} {L:Nat→Bool} (h:Sw s (fun W9=>Below W1.heap.size W1 W9) C1 L w)
  (hC1:∀ W,C1 W→∃ W8 v0 v1 v2 v3 v4,Below W1.heap.size W1 W8∧W=cW W8 gr v0 v1 v2 v3 v4) (hL:ai W1 g t cs) (hne:g ≠ gr):ai w g t cs:=by
 unfold Sw at h
 split at h
 ·obtain ⟨W8,v0,v1,v2,v3,v4,hb,rfl⟩:=hC1 _ h
  exact oh (hL.below hb hL.lt) hne
 ·exact hL.below h hL.lt
set_option maxRecDepth 100000 in
set_option maxHeartbeats 4000000 in
theorem ou (x:aM) (st pe va:Int) (w:World) (h:aQ w w.heap.size x) (G:bn x) (hcap:x.t.length≤x.tc) (hst:1≤st∧st≤99) (hpe:1≤pe∧pe≤999) (hva:1≤va∧va≤9999) :
  Calls Tryz.prog 175 #[x.val,.agg #[O U 2,O U st,O U pe,O U va]] w (cm w ((⟨ah x.t st (-va),aH st pe (aJ st pe x.o+va) x.o,x.got,x.sold,x.missed⟩ : Oc),true)):=by
 have L1:=((ai.new w 40 #[F x.TA x.t.length x.tc,F x.OA x.o.length x.oc,O U x.got,O U x.sold,O U x.missed]).alloc (.cells #[O U 2,O U st,O U pe,O U va] 112)).alloc (.cells #[F none 0 0,F none 0 0,O U 0,O U 0,O U 0] 40)
 have L2:=(ai.new1 w (.cells #[F x.TA x.t.length x.tc,F x.OA x.o.length x.oc,O U x.got,O U x.sold,O U x.missed] 40) 112 #[O U 2,O U st,O U pe,O U va]).alloc (.cells #[F none 0 0,F none 0 0,O U 0,O U 0,O U 0] 40)
 have L3:=ai.new2 w (.cells #[F x.TA x.t.length x.tc,F x.OA x.o.length x.oc,O U x.got,O U x.sold,O U x.missed] 40) (.cells #[O U 2,O U st,O U pe,O U va] 112) 40 #[F none 0 0,F none 0 0,O U 0,O U 0,O U 0]
 have b1:=(Below.refl w.heap.size w).alloc (Nat.le_refl _) (.cells #[F x.TA x.t.length x.tc,F x.OA x.o.length x.oc,O U x.got,O U x.sold,O U x.missed] 40)
 have b2:=b1.alloc b1.size (.cells #[O U 2,O U st,O U pe,O U va] 112)
 have b3:=b2.alloc b2.size (.cells #[F none 0 0,F none 0 0,O U 0,O U 0,O U 0] 40)
 have Sx:=G.small
 have htl:=G.tl
 have hol:=G.ol
 have htc:=G.tcs
 obtain ⟨m1,m2⟩:=G.m
 obtain ⟨g1,g2⟩:=G.s
 obtain ⟨n1,n2⟩:=G.at_bd st pe
 obtain ⟨n,hn⟩ : ∃ n,aJ st pe x.o=n:=⟨_,rfl⟩
 rw [hn] at n1 n2 ⊢
 clear b1 b2 G
 go_enter Tryz.func175,Tryz.ntmps175
 go_wp2_with fail
 generalize (((w.alloc (.cells #[F x.TA x.t.length x.tc,F x.OA x.o.length x.oc,O U x.got,O U x.sold,O U x.missed] 40)).alloc (.cells #[O U 2,O U st,O U pe,O U va] 112)).alloc (.cells #[F none 0 0,F none 0 0,O U 0,O U 0,O U 0] 40))=W at L1 L2 L3 b3 ⊢
 have hR:=h.up b3 (Nat.le_refl _)
 refine (fl x st pe W hR).mono ?_
 rintro e W1 ⟨rfl,hb1⟩
 rw [hn]
 have hR1:=hR.then hb1
 have L1a:=L1.below hb1 L1.lt
 have L2a:=L2.below hb1 L2.lt
 have L3a:=L3.below hb1 L3.lt
 have b4:=b3.trans (hb1.mono b3.size)
 have hW0:w.heap.size≤W1.heap.size:=b4.size
 have hn:=Lib.hid hn
 clear L1 L2 L3 b3 hb1 hR h
 obtain ⟨c0,c1,c2,c3,c4⟩:=cells5 L1a
 obtain ⟨s0,s1,s2,s3⟩:=cells4 L2a
 obtain ⟨v1,v2⟩:=hva
 have S1:jk (⟨ah x.t st (-va),x.o,x.got,x.sold,x.missed⟩ : Oc):=⟨by have:=kT x.t st (-va); show (ah x.t st (-va)).length≤_; omega,Sx.ol,jl (by omega) (fun t ht=>by have:=htc t ht; omega),Sx.ok⟩
 go_wp2
 obtain ⟨D1,hD1⟩ : ∃ D:World→Prop,D=(fun W9=>∃ W8 TA tc OA oc,Below W1.heap.size W1 W8∧W8.ownsRow w.heap.size 104 2 (F TA ((⟨ah x.t st (-va),aH st pe (n+va) x.o,x.got,x.sold,x.missed⟩ : Oc)).t.length tc) ((⟨ah x.t st (-va),aH st pe (n+va) x.o,x.got,x.sold,x.missed⟩ : Oc)).t.length (((⟨ah x.t st (-va),aH st pe (n+va) x.o,x.got,x.sold,x.missed⟩ : Oc)).t.flatMap aq.enc)∧W8.ownsRow w.heap.size 147 3 (F OA ((⟨ah x.t st (-va),aH st pe (n+va) x.o,x.got,x.sold,x.missed⟩ : Oc)).o.length oc) ((⟨ah x.t st (-va),aH st pe (n+va) x.o,x.got,x.sold,x.missed⟩ : Oc)).o.length (((⟨ah x.t st (-va),aH st pe (n+va) x.o,x.got,x.sold,x.missed⟩ : Oc)).o.flatMap ae.enc)∧W9=cW W8 (w.heap.size+1+1) (F TA ((⟨ah x.t st (-va),aH st pe (n+va) x.o,x.got,x.sold,x.missed⟩ : Oc)).t.length tc) (F OA ((⟨ah x.t st (-va),aH st pe (n+va) x.o,x.got,x.sold,x.missed⟩ : Oc)).o.length oc) (O U ((⟨ah x.t st (-va),aH st pe (n+va) x.o,x.got,x.sold,x.missed⟩ : Oc)).got) (O U ((⟨ah x.t st (-va),aH st pe (n+va) x.o,x.got,x.sold,x.missed⟩ : Oc)).sold) (O U ((⟨ah x.t st (-va),aH st pe (n+va) x.o,x.got,x.sold,x.missed⟩ : Oc)).missed)):=⟨_,rfl⟩
 have hDL:∀ W,D1 W→∃ W8 v0 v1 v2 v3 v4,Below W1.heap.size W1 W8∧W=cW W8 (w.heap.size+1+1) v0 v1 v2 v3 v4:=by
  rw [hD1]
  rintro _ ⟨W8,TA,tc,OA,oc,hq,_,_,e⟩
  exact ⟨W8,_,_,_,_,_,hq,e⟩
 have HD1:=Lib.hid hD1; clear hD1
 refine an (Sw 16 (fun W9=>Below W1.heap.size W1 W9) D1) (fun i w1 w2=>i ∉ [16]→Below w1.heap.size w1 w2) (by kernel_rfl) (by kernel_rfl) (by kernel_rfl) (Sw.start (Below.refl _ _).drew) ?_
 simp only [ax,Act.put,List.setIfInBounds_toArray,List.set_cons_zero,List.set_cons_succ,Nat.zero_add,Nat.reduceAdd]
 apply aa
 case h1 =>
  intro vs L9 w9 hG9 hC9 hB K9 hK9
  replace hC9:=sb hC9 hG9
  have q0:w9.cell? ⟨w.heap.size,0,none⟩=some (F x.TA x.t.length x.tc):=(L1a.below hC9 L1a.lt).cell 0
  have q1:w9.cell? ⟨w.heap.size,1,none⟩=some (F x.OA x.o.length x.oc):=(L1a.below hC9 L1a.lt).cell 1
  have q2:w9.cell? ⟨w.heap.size,2,none⟩=some (O U x.got):=(L1a.below hC9 L1a.lt).cell 2
  have q3:w9.cell? ⟨w.heap.size,3,none⟩=some (O U x.sold):=(L1a.below hC9 L1a.lt).cell 3
  have q4:w9.cell? ⟨w.heap.size,4,none⟩=some (O U x.missed):=(L1a.below hC9 L1a.lt).cell 4
  simp only [Act.put,sA,s0,s1] at hK9
  go_simp
  exact hK9 _ _ rfl (sy hG9 hC9) bR
 apply aa
 case h1 =>
  intro vs L9 w9 hG9 hC9 hB K9 hK9
  replace hC9:=sb hC9 hG9
  simp only [Act.put,sA,s0,s1] at hK9
  go_simp
  exact hK9 _ _ rfl (sy hG9 hC9) bR
 apply aa
 case h1 =>
  intro vs L9 w9 hG9 hC9 hB K9 hK9
  replace hC9:=sb hC9 hG9
  have d1:=fe hB 1
  simp only [d1] at hK9 ⊢
  have q0:w9.cell? ⟨(w.heap.size+1),1,none⟩=some (O U st):=(L2a.below hC9 L2a.lt).cell 1
  simp only [Act.put,sA,s0,s1] at hK9
  go_simp
  exact hK9 _ _ rfl (sy hG9 hC9) bR
 apply aa
 case h1 =>
  intro vs L9 w9 hG9 hC9 hB K9 hK9
  replace hC9:=sb hC9 hG9
  simp only [Act.put,sA,s0,s1] at hK9
  go_simp
  exact hK9 _ _ rfl (sy hG9 hC9) bR
 apply aa
 case h1 =>
  intro vs L9 w9 hG9 hC9 hB K9 hK9
  replace hC9:=sb hC9 hG9
  have d3:=fe hB 3
  simp only [d3] at hK9 ⊢
  have q0:w9.cell? ⟨(w.heap.size+1),3,none⟩=some (O U va):=(L2a.below hC9 L2a.lt).cell 3
  simp only [Act.put,sA,s0,s1] at hK9
  go_simp
  exact hK9 _ _ rfl (sy hG9 hC9) bR
 apply aa
 case h1 =>
  intro vs L9 w9 hG9 hC9 hB K9 hK9
  replace hC9:=sb hC9 hG9
  have d4:=fe hB 4
  simp only [d4] at hK9 ⊢
  have i3:IntKind.i64.wrap (-va) = -va:=IntWalk.i64_in _ (by omega)
  simp only [Act.put,sA,s0,s1] at hK9
  go_simp
  exact hK9 _ _ rfl (sy hG9 hC9) bR
 refine ak [16] (fun v w9=>fm w9 w.heap.size (⟨ah x.t st (-va),x.o,x.got,x.sold,x.missed⟩ : Oc) v) ?ss6 (fun vs L9 w9 hG9 hC9 hB K9 hK9=>?hs6) ?rs6
 case ss6 =>
  intro i9 hi9 hb9 ha9 v w1 w2 hv hT9
  have hb:=hT9 (fun hm=>by
   simp only [List.mem_cons,List.not_mem_nil,or_false] at hm hb9
   subst hm
   ·exact hb9 (by simp))
  exact hv.below hb
 case hs6 =>
  replace hC9:=sb hC9 hG9
  have d0:=fe hB 0
  have d2:=fe hB 2
  have d5:=fe hB 5
  simp only [d0,d2,d5] at hK9 ⊢
  simp only [Act.put,sA,s0,s1] at hK9
  go_simp
  refine (sI x st (-va) _ (hR1.then hC9) Sx (by omega) hcap).mono ?_
  rintro en w8 ⟨v8,rfl,hv8,hb8⟩
  exact hK9 _ _ _ rfl (hv8.lower (Nat.le_trans hW0 hC9.size)) (Sw.stay hG9 (by kernel_rfl) (by decide) (hC9.trans (hb8.mono hC9.size))) (fun _=>hb8)
 apply aa
 case h1 =>
  intro vs L9 w9 hG9 hC9 hB K9 hK9
  replace hC9:=sb hC9 hG9
  simp only [Act.put,sA,s0,s1] at hK9
  go_simp
  exact hK9 _ _ rfl (sy hG9 hC9) bR
 apply aa
 case h1 =>
  intro vs L9 w9 hG9 hC9 hB K9 hK9
  replace hC9:=sb hC9 hG9
  have d7:=fe hB 7
  simp only [d7] at hK9 ⊢
  have q0:w9.cell? ⟨(w.heap.size+1),1,none⟩=some (O U st):=(L2a.below hC9 L2a.lt).cell 1
  simp only [Act.put,sA,s0,s1] at hK9
  go_simp
  exact hK9 _ _ rfl (sy hG9 hC9) bR
 apply aa
 case h1 =>
  intro vs L9 w9 hG9 hC9 hB K9 hK9
  replace hC9:=sb hC9 hG9
  simp only [Act.put,sA,s0,s1] at hK9
  go_simp
  exact hK9 _ _ rfl (sy hG9 hC9) bR
 apply aa
 case h1 =>
  intro vs L9 w9 hG9 hC9 hB K9 hK9
  replace hC9:=sb hC9 hG9
  have d9:=fe hB 9
  simp only [d9] at hK9 ⊢
  have q0:w9.cell? ⟨(w.heap.size+1),2,none⟩=some (O U pe):=(L2a.below hC9 L2a.lt).cell 2
  simp only [Act.put,sA,s0,s1] at hK9
  go_simp
  exact hK9 _ _ rfl (sy hG9 hC9) bR
 apply aa
 case h1 =>
  intro vs L9 w9 hG9 hC9 hB K9 hK9
  replace hC9:=sb hC9 hG9
  simp only [Act.put,sA,s0,s1] at hK9
  go_simp
  exact hK9 _ _ rfl (sy hG9 hC9) bR
 apply aa
 case h1 =>
  intro vs L9 w9 hG9 hC9 hB K9 hK9
  replace hC9:=sb hC9 hG9
  simp only [Act.put,sA,s0,s1] at hK9
  go_simp
  exact hK9 _ _ rfl (sy hG9 hC9) bR
 apply aa
 case h1 =>
  intro vs L9 w9 hG9 hC9 hB K9 hK9
  replace hC9:=sb hC9 hG9
  have d12:=fe hB 12
  simp only [d12] at hK9 ⊢
  have q0:w9.cell? ⟨(w.heap.size+1),3,none⟩=some (O U va):=(L2a.below hC9 L2a.lt).cell 3
  simp only [Act.put,sA,s0,s1] at hK9
  go_simp
  exact hK9 _ _ rfl (sy hG9 hC9) bR
 apply aa
 case h1 =>
  intro vs L9 w9 hG9 hC9 hB K9 hK9
  replace hC9:=sb hC9 hG9
  have d11:=fe hB 11
  have d13:=fe hB 13
  simp only [d11,d13] at hK9 ⊢
  have i3:IntKind.i64.wrap (n+va)=n+va:=IntWalk.i64_in _ (by omega)
  simp only [Act.put,sA,s0,s1] at hK9
  go_simp
  exact hK9 _ _ rfl (sy hG9 hC9) bR
 refine ak [16] (fun v w9=>fm w9 w.heap.size (⟨ah x.t st (-va),aH st pe (n+va) x.o,x.got,x.sold,x.missed⟩ : Oc) v) ?ss15 (fun vs L9 w9 hG9 hC9 hB K9 hK9=>?hs15) ?rs15
 case ss15 =>
  intro i9 hi9 hb9 ha9 v w1 w2 hv hT9
  have hb:=hT9 (fun hm=>by
   simp only [List.mem_cons,List.not_mem_nil,or_false] at hm hb9
   subst hm
   ·exact hb9 (by simp))
  exact hv.below hb
 case hs15 =>
  replace hC9:=sb hC9 hG9
  have d8:=fe hB 8
  have d10:=fe hB 10
  have d14:=fe hB 14
  simp only [d8,d10,d14] at hK9 ⊢
  simp only [Act.put,sA,s0,s1] at hK9
  have h6:=fs hB 6
  go_simp
  refine (sN st pe (n+va) h6 S1 hst hpe).mono ?_
  rintro en w8 ⟨v8,rfl,hv8,hb8⟩
  exact hK9 _ _ _ rfl (hv8.lower (Nat.le_trans hW0 hC9.size)) (Sw.stay hG9 (by kernel_rfl) (by decide) (hC9.trans (hb8.mono hC9.size))) (fun _=>hb8)
 refine aa (undef) (fun vs L9 w9 hG9 hC9 hB K9 hK9=>?hs16) ?rs16
 case hs16 =>
  replace hC9:=hC9.here hG9
  obtain ⟨TA,tc,OA,oc,e15,h1,h2⟩:=fs hB 15
  simp only [e15] at hK9 ⊢
  have Lr:=L3a.below hC9 L3a.lt
  obtain ⟨z0,z1,z2,z3,z4⟩:=cells5 Lr
  obtain ⟨f0,f1,f2,f3,f4⟩:=frz5 Lr
  have h1:=Lib.hid h1
  have h2:=Lib.hid h2
  clear Lr
  go_simp
  exact hK9 _ _ rfl (Sw.turn (by rw [HD1.out]; exact ⟨w9,TA,tc,OA,oc,hC9,h1.out,h2.out,rfl⟩)) (fun hq=>(hq (by decide)).elim)
 apply aa
 case h1 =>
  intro vs L9 w9 hG9 hC9 hB K9 hK9
  replace hC9:=hC9.after hG9 (by kernel_rfl)
  simp only [Act.put,sA,s0,s1] at hK9
  go_simp
  exact hK9 _ _ rfl (Sw.on hG9 (by kernel_rfl) hC9) bR
 refine az fun vs L9 w9 hL9 hC9 hB=>?_
 replace hC9:=hC9.done hL9 (by decide)
 have dl:=ag.eq (hB 17 _ rfl rfl (by decide))
 simp only [dl]
 clear hB dl
 rw [HD1.out] at hC9
 obtain ⟨W8,TA,tc,OA,oc,hb8,h1,h2,rfl⟩:=hC9
 have Lr:=L3a.below hb8 L3a.lt
 have bz:=(b4.trans (hb8.mono b4.size)).trans (bK (v0:=F TA ((⟨ah x.t st (-va),aH st pe (n+va) x.o,x.got,x.sold,x.missed⟩ : Oc)).t.length tc) (v1:=F OA ((⟨ah x.t st (-va),aH st pe (n+va) x.o,x.got,x.sold,x.missed⟩ : Oc)).o.length oc) (v2:=O U ((⟨ah x.t st (-va),aH st pe (n+va) x.o,x.got,x.sold,x.missed⟩ : Oc)).got) (v3:=O U ((⟨ah x.t st (-va),aH st pe (n+va) x.o,x.got,x.sold,x.missed⟩ : Oc)).sold) (v4:=O U ((⟨ah x.t st (-va),aH st pe (n+va) x.o,x.got,x.sold,x.missed⟩ : Oc)).missed) Lr (show w.heap.size≤(w.heap.size+1+1) by omega))
 have HT:=Lib.hid (aW (v0:=F TA ((⟨ah x.t st (-va),aH st pe (n+va) x.o,x.got,x.sold,x.missed⟩ : Oc)).t.length tc) (v1:=F OA ((⟨ah x.t st (-va),aH st pe (n+va) x.o,x.got,x.sold,x.missed⟩ : Oc)).o.length oc) (v2:=O U ((⟨ah x.t st (-va),aH st pe (n+va) x.o,x.got,x.sold,x.missed⟩ : Oc)).got) (v3:=O U ((⟨ah x.t st (-va),aH st pe (n+va) x.o,x.got,x.sold,x.missed⟩ : Oc)).sold) (v4:=O U ((⟨ah x.t st (-va),aH st pe (n+va) x.o,x.got,x.sold,x.missed⟩ : Oc)).missed) Lr h1 cq)
 have HO:=Lib.hid (aW (v0:=F TA ((⟨ah x.t st (-va),aH st pe (n+va) x.o,x.got,x.sold,x.missed⟩ : Oc)).t.length tc) (v1:=F OA ((⟨ah x.t st (-va),aH st pe (n+va) x.o,x.got,x.sold,x.missed⟩ : Oc)).o.length oc) (v2:=O U ((⟨ah x.t st (-va),aH st pe (n+va) x.o,x.got,x.sold,x.missed⟩ : Oc)).got) (v3:=O U ((⟨ah x.t st (-va),aH st pe (n+va) x.o,x.got,x.sold,x.missed⟩ : Oc)).sold) (v4:=O U ((⟨ah x.t st (-va),aH st pe (n+va) x.o,x.got,x.sold,x.missed⟩ : Oc)).missed) Lr h2 cF)
 have PR:=fb (v0:=F TA ((⟨ah x.t st (-va),aH st pe (n+va) x.o,x.got,x.sold,x.missed⟩ : Oc)).t.length tc) (v1:=F OA ((⟨ah x.t st (-va),aH st pe (n+va) x.o,x.got,x.sold,x.missed⟩ : Oc)).o.length oc) (v2:=O U ((⟨ah x.t st (-va),aH st pe (n+va) x.o,x.got,x.sold,x.missed⟩ : Oc)).got) (v3:=O U ((⟨ah x.t st (-va),aH st pe (n+va) x.o,x.got,x.sold,x.missed⟩ : Oc)).sold) (v4:=O U ((⟨ah x.t st (-va),aH st pe (n+va) x.o,x.got,x.sold,x.missed⟩ : Oc)).missed) Lr
 generalize cW W8 (w.heap.size+1+1) (F TA ((⟨ah x.t st (-va),aH st pe (n+va) x.o,x.got,x.sold,x.missed⟩ : Oc)).t.length tc) (F OA ((⟨ah x.t st (-va),aH st pe (n+va) x.o,x.got,x.sold,x.missed⟩ : Oc)).o.length oc) (O U ((⟨ah x.t st (-va),aH st pe (n+va) x.o,x.got,x.sold,x.missed⟩ : Oc)).got) (O U ((⟨ah x.t st (-va),aH st pe (n+va) x.o,x.got,x.sold,x.missed⟩ : Oc)).sold) (O U ((⟨ah x.t st (-va),aH st pe (n+va) x.o,x.got,x.sold,x.missed⟩ : Oc)).missed)=W9 at bz HT HO PR ⊢
 obtain ⟨k0,k1,k2,k3,k4⟩:=cells5 PR
 clear h1 h2 Lr hb8 hL9 PR
 go_wp2
 refine bodyPost_ret (v:=.tuple #[.agg #[F TA ((⟨ah x.t st (-va),aH st pe (n+va) x.o,x.got,x.sold,x.missed⟩ : Oc)).t.length tc,F OA ((⟨ah x.t st (-va),aH st pe (n+va) x.o,x.got,x.sold,x.missed⟩ : Oc)).o.length oc,O U ((⟨ah x.t st (-va),aH st pe (n+va) x.o,x.got,x.sold,x.missed⟩ : Oc)).got,O U ((⟨ah x.t st (-va),aH st pe (n+va) x.o,x.got,x.sold,x.missed⟩ : Oc)).sold,O U ((⟨ah x.t st (-va),aH st pe (n+va) x.o,x.got,x.sold,x.missed⟩ : Oc)).missed],.bool true]) (by simp [results,Tryz.results175,go_sem, *]) rfl ?_
 exact ⟨TA,tc,OA,oc,rfl,HT.out,HO.out,bz⟩
set_option maxRecDepth 100000 in
set_option maxHeartbeats 4000000 in
theorem ov (x:aM) (st pe va:Int) (w:World) (h:aQ w w.heap.size x) (G:bn x) (hcap:x.t.length≤x.tc) (hst:1≤st∧st≤99) (hpe:1≤pe∧pe≤999) (hva:1≤va∧va≤9999) :
  Calls Tryz.prog 175 #[x.val,.agg #[O U 3,O U st,O U pe,O U va]] w (cm w ((⟨ah x.t st va,aH st pe (aJ st pe x.o - va) x.o,x.got,x.sold,x.missed⟩ : Oc),decide (va≤aJ st pe x.o))):=by
 have L1:=((ai.new w 40 #[F x.TA x.t.length x.tc,F x.OA x.o.length x.oc,O U x.got,O U x.sold,O U x.missed]).alloc (.cells #[O U 3,O U st,O U pe,O U va] 112)).alloc (.cells #[F none 0 0,F none 0 0,O U 0,O U 0,O U 0] 40)
 have L2:=(ai.new1 w (.cells #[F x.TA x.t.length x.tc,F x.OA x.o.length x.oc,O U x.got,O U x.sold,O U x.missed] 40) 112 #[O U 3,O U st,O U pe,O U va]).alloc (.cells #[F none 0 0,F none 0 0,O U 0,O U 0,O U 0] 40)
 have L3:=ai.new2 w (.cells #[F x.TA x.t.length x.tc,F x.OA x.o.length x.oc,O U x.got,O U x.sold,O U x.missed] 40) (.cells #[O U 3,O U st,O U pe,O U va] 112) 40 #[F none 0 0,F none 0 0,O U 0,O U 0,O U 0]
 have b1:=(Below.refl w.heap.size w).alloc (Nat.le_refl _) (.cells #[F x.TA x.t.length x.tc,F x.OA x.o.length x.oc,O U x.got,O U x.sold,O U x.missed] 40)
 have b2:=b1.alloc b1.size (.cells #[O U 3,O U st,O U pe,O U va] 112)
 have b3:=b2.alloc b2.size (.cells #[F none 0 0,F none 0 0,O U 0,O U 0,O U 0] 40)
 have Sx:=G.small
 have htl:=G.tl
 have hol:=G.ol
 have htc:=G.tcs
 obtain ⟨m1,m2⟩:=G.m
 obtain ⟨g1,g2⟩:=G.s
 obtain ⟨n1,n2⟩:=G.at_bd st pe
 obtain ⟨n,hn⟩ : ∃ n,aJ st pe x.o=n:=⟨_,rfl⟩
 rw [hn] at n1 n2 ⊢
 clear b1 b2 G
 go_enter Tryz.func175,Tryz.ntmps175
 go_wp2_with fail
 generalize (((w.alloc (.cells #[F x.TA x.t.length x.tc,F x.OA x.o.length x.oc,O U x.got,O U x.sold,O U x.missed] 40)).alloc (.cells #[O U 3,O U st,O U pe,O U va] 112)).alloc (.cells #[F none 0 0,F none 0 0,O U 0,O U 0,O U 0] 40))=W at L1 L2 L3 b3 ⊢
 have hR:=h.up b3 (Nat.le_refl _)
 refine (fl x st pe W hR).mono ?_
 rintro e W1 ⟨rfl,hb1⟩
 rw [hn]
 have hR1:=hR.then hb1
 have L1a:=L1.below hb1 L1.lt
 have L2a:=L2.below hb1 L2.lt
 have L3a:=L3.below hb1 L3.lt
 have b4:=b3.trans (hb1.mono b3.size)
 have hW0:w.heap.size≤W1.heap.size:=b4.size
 have hn:=Lib.hid hn
 clear L1 L2 L3 b3 hb1 hR h
 obtain ⟨c0,c1,c2,c3,c4⟩:=cells5 L1a
 obtain ⟨s0,s1,s2,s3⟩:=cells4 L2a
 obtain ⟨v1,v2⟩:=hva
 have S1:jk (⟨ah x.t st va,x.o,x.got,x.sold,x.missed⟩ : Oc):=⟨by have:=kT x.t st va; show (ah x.t st va).length≤_; omega,Sx.ol,jl (by omega) (fun t ht=>by have:=htc t ht; omega),Sx.ok⟩
 go_wp2
 obtain ⟨D1,hD1⟩ : ∃ D:World→Prop,D=(fun W9=>∃ W8 TA tc OA oc,Below W1.heap.size W1 W8∧W8.ownsRow w.heap.size 104 2 (F TA ((⟨ah x.t st va,aH st pe (n - va) x.o,x.got,x.sold,x.missed⟩ : Oc)).t.length tc) ((⟨ah x.t st va,aH st pe (n - va) x.o,x.got,x.sold,x.missed⟩ : Oc)).t.length (((⟨ah x.t st va,aH st pe (n - va) x.o,x.got,x.sold,x.missed⟩ : Oc)).t.flatMap aq.enc)∧W8.ownsRow w.heap.size 147 3 (F OA ((⟨ah x.t st va,aH st pe (n - va) x.o,x.got,x.sold,x.missed⟩ : Oc)).o.length oc) ((⟨ah x.t st va,aH st pe (n - va) x.o,x.got,x.sold,x.missed⟩ : Oc)).o.length (((⟨ah x.t st va,aH st pe (n - va) x.o,x.got,x.sold,x.missed⟩ : Oc)).o.flatMap ae.enc)∧W9=cW W8 (w.heap.size+1+1) (F TA ((⟨ah x.t st va,aH st pe (n - va) x.o,x.got,x.sold,x.missed⟩ : Oc)).t.length tc) (F OA ((⟨ah x.t st va,aH st pe (n - va) x.o,x.got,x.sold,x.missed⟩ : Oc)).o.length oc) (O U ((⟨ah x.t st va,aH st pe (n - va) x.o,x.got,x.sold,x.missed⟩ : Oc)).got) (O U ((⟨ah x.t st va,aH st pe (n - va) x.o,x.got,x.sold,x.missed⟩ : Oc)).sold) (O U ((⟨ah x.t st va,aH st pe (n - va) x.o,x.got,x.sold,x.missed⟩ : Oc)).missed)):=⟨_,rfl⟩
 have hDL:∀ W,D1 W→∃ W8 v0 v1 v2 v3 v4,Below W1.heap.size W1 W8∧W=cW W8 (w.heap.size+1+1) v0 v1 v2 v3 v4:=by
  rw [hD1]
  rintro _ ⟨W8,TA,tc,OA,oc,hq,_,_,e⟩
  exact ⟨W8,_,_,_,_,_,hq,e⟩
 have HD1:=Lib.hid hD1; clear hD1
 refine an (Sw 19 (fun W9=>Below W1.heap.size W1 W9) D1) (fun i w1 w2=>i ∉ [19]→Below w1.heap.size w1 w2) (by kernel_rfl) (by kernel_rfl) (by kernel_rfl) (Sw.start (Below.refl _ _).drew) ?_
 simp only [ax,Act.put,List.setIfInBounds_toArray,List.set_cons_zero,List.set_cons_succ,Nat.zero_add,Nat.reduceAdd]
 apply aa
 case h1 =>
  intro vs L9 w9 hG9 hC9 hB K9 hK9
  replace hC9:=sb hC9 hG9
  have q0:w9.cell? ⟨w.heap.size,0,none⟩=some (F x.TA x.t.length x.tc):=(L1a.below hC9 L1a.lt).cell 0
  have q1:w9.cell? ⟨w.heap.size,1,none⟩=some (F x.OA x.o.length x.oc):=(L1a.below hC9 L1a.lt).cell 1
  have q2:w9.cell? ⟨w.heap.size,2,none⟩=some (O U x.got):=(L1a.below hC9 L1a.lt).cell 2
  have q3:w9.cell? ⟨w.heap.size,3,none⟩=some (O U x.sold):=(L1a.below hC9 L1a.lt).cell 3
  have q4:w9.cell? ⟨w.heap.size,4,none⟩=some (O U x.missed):=(L1a.below hC9 L1a.lt).cell 4
  simp only [Act.put,sA,s0,s1] at hK9
  go_simp
  exact hK9 _ _ rfl (sy hG9 hC9) bR
 apply aa
 case h1 =>
  intro vs L9 w9 hG9 hC9 hB K9 hK9
  replace hC9:=sb hC9 hG9
  simp only [Act.put,sA,s0,s1] at hK9
  go_simp
  exact hK9 _ _ rfl (sy hG9 hC9) bR
 apply aa
 case h1 =>
  intro vs L9 w9 hG9 hC9 hB K9 hK9
  replace hC9:=sb hC9 hG9
  have d1:=fe hB 1
  simp only [d1] at hK9 ⊢
  have q0:w9.cell? ⟨(w.heap.size+1),1,none⟩=some (O U st):=(L2a.below hC9 L2a.lt).cell 1
  simp only [Act.put,sA,s0,s1] at hK9
  go_simp
  exact hK9 _ _ rfl (sy hG9 hC9) bR
 apply aa
 case h1 =>
  intro vs L9 w9 hG9 hC9 hB K9 hK9
  replace hC9:=sb hC9 hG9
  simp only [Act.put,sA,s0,s1] at hK9
  go_simp
  exact hK9 _ _ rfl (sy hG9 hC9) bR
 apply aa
 case h1 =>
  intro vs L9 w9 hG9 hC9 hB K9 hK9
  replace hC9:=sb hC9 hG9
  have d3:=fe hB 3
  simp only [d3] at hK9 ⊢
  have q0:w9.cell? ⟨(w.heap.size+1),3,none⟩=some (O U va):=(L2a.below hC9 L2a.lt).cell 3
  simp only [Act.put,sA,s0,s1] at hK9
  go_simp
  exact hK9 _ _ rfl (sy hG9 hC9) bR
 refine ak [19] (fun v w9=>fm w9 w.heap.size (⟨ah x.t st va,x.o,x.got,x.sold,x.missed⟩ : Oc) v) ?sb5 (fun vs L9 w9 hG9 hC9 hB K9 hK9=>?hb5) ?rb5
 case sb5 =>
  intro i9 hi9 hb9 ha9 v w1 w2 hv hT9
  have hb:=hT9 (fun hm=>by
   simp only [List.mem_cons,List.not_mem_nil,or_false] at hm hb9
   subst hm
   ·exact hb9 (by simp))
  exact hv.below hb
 case hb5 =>
  replace hC9:=sb hC9 hG9
  have d0:=fe hB 0
  have d2:=fe hB 2
  have d4:=fe hB 4
  simp only [d0,d2,d4] at hK9 ⊢
  simp only [Act.put,sA,s0,s1] at hK9
  go_simp
  refine (sI x st va _ (hR1.then hC9) Sx (by omega) hcap).mono ?_
  rintro en w8 ⟨v8,rfl,hv8,hb8⟩
  exact hK9 _ _ _ rfl (hv8.lower (Nat.le_trans hW0 hC9.size)) (Sw.stay hG9 (by kernel_rfl) (by decide) (hC9.trans (hb8.mono hC9.size))) (fun _=>hb8)
 apply aa
 case h1 =>
  intro vs L9 w9 hG9 hC9 hB K9 hK9
  replace hC9:=sb hC9 hG9
  simp only [Act.put,sA,s0,s1] at hK9
  go_simp
  exact hK9 _ _ rfl (sy hG9 hC9) bR
 apply aa
 case h1 =>
  intro vs L9 w9 hG9 hC9 hB K9 hK9
  replace hC9:=sb hC9 hG9
  have d6:=fe hB 6
  simp only [d6] at hK9 ⊢
  have q0:w9.cell? ⟨(w.heap.size+1),1,none⟩=some (O U st):=(L2a.below hC9 L2a.lt).cell 1
  simp only [Act.put,sA,s0,s1] at hK9
  go_simp
  exact hK9 _ _ rfl (sy hG9 hC9) bR
 apply aa
 case h1 =>
  intro vs L9 w9 hG9 hC9 hB K9 hK9
  replace hC9:=sb hC9 hG9
  simp only [Act.put,sA,s0,s1] at hK9
  go_simp
  exact hK9 _ _ rfl (sy hG9 hC9) bR
 apply aa
 case h1 =>
  intro vs L9 w9 hG9 hC9 hB K9 hK9
  replace hC9:=sb hC9 hG9
  have d8:=fe hB 8
  simp only [d8] at hK9 ⊢
  have q0:w9.cell? ⟨(w.heap.size+1),2,none⟩=some (O U pe):=(L2a.below hC9 L2a.lt).cell 2
  simp only [Act.put,sA,s0,s1] at hK9
  go_simp
  exact hK9 _ _ rfl (sy hG9 hC9) bR
 apply aa
 case h1 =>
  intro vs L9 w9 hG9 hC9 hB K9 hK9
  replace hC9:=sb hC9 hG9
  simp only [Act.put,sA,s0,s1] at hK9
  go_simp
  exact hK9 _ _ rfl (sy hG9 hC9) bR
 apply aa
 case h1 =>
  intro vs L9 w9 hG9 hC9 hB K9 hK9
  replace hC9:=sb hC9 hG9
  simp only [Act.put,sA,s0,s1] at hK9
  go_simp
  exact hK9 _ _ rfl (sy hG9 hC9) bR
 apply aa
 case h1 =>
  intro vs L9 w9 hG9 hC9 hB K9 hK9
  replace hC9:=sb hC9 hG9
  have d11:=fe hB 11
  simp only [d11] at hK9 ⊢
  have q0:w9.cell? ⟨(w.heap.size+1),3,none⟩=some (O U va):=(L2a.below hC9 L2a.lt).cell 3
  simp only [Act.put,sA,s0,s1] at hK9
  go_simp
  exact hK9 _ _ rfl (sy hG9 hC9) bR
 apply aa
 case h1 =>
  intro vs L9 w9 hG9 hC9 hB K9 hK9
  replace hC9:=sb hC9 hG9
  have d10:=fe hB 10
  have d12:=fe hB 12
  simp only [d10,d12] at hK9 ⊢
  have i3:IntKind.i64.wrap (n - va)=n - va:=IntWalk.i64_in _ (by omega)
  simp only [Act.put,sA,s0,s1] at hK9
  go_simp
  exact hK9 _ _ rfl (sy hG9 hC9) bR
 refine ak [19] (fun v w9=>fm w9 w.heap.size (⟨ah x.t st va,aH st pe (n - va) x.o,x.got,x.sold,x.missed⟩ : Oc) v) ?sb14 (fun vs L9 w9 hG9 hC9 hB K9 hK9=>?hb14) ?rb14
 case sb14 =>
  intro i9 hi9 hb9 ha9 v w1 w2 hv hT9
  have hb:=hT9 (fun hm=>by
   simp only [List.mem_cons,List.not_mem_nil,or_false] at hm hb9
   subst hm
   ·exact hb9 (by simp))
  exact hv.below hb
 case hb14 =>
  replace hC9:=sb hC9 hG9
  have d7:=fe hB 7
  have d9:=fe hB 9
  have d13:=fe hB 13
  simp only [d7,d9,d13] at hK9 ⊢
  simp only [Act.put,sA,s0,s1] at hK9
  have h6:=fs hB 5
  go_simp
  refine (sN st pe (n - va) h6 S1 hst hpe).mono ?_
  rintro en w8 ⟨v8,rfl,hv8,hb8⟩
  exact hK9 _ _ _ rfl (hv8.lower (Nat.le_trans hW0 hC9.size)) (Sw.stay hG9 (by kernel_rfl) (by decide) (hC9.trans (hb8.mono hC9.size))) (fun _=>hb8)
 apply aa
 case h1 =>
  intro vs L9 w9 hG9 hC9 hB K9 hK9
  simp only [Act.put,sA,s0,s1] at hK9
  have HC9:=Lib.hid hC9
  clear hC9
  go_simp
  exact hK9 _ _ rfl (Sw.both (by decide) (fun h=>h) (fun h=>h) HC9.out) bR
 apply aa
 case h1 =>
  intro vs L9 w9 hG9 hC9 hB K9 hK9
  simp only [Act.put,sA,s0,s1] at hK9
  have HC9:=Lib.hid hC9
  clear hC9
  go_simp
  exact hK9 _ _ rfl (Sw.both (by decide) (fun h=>h) (fun h=>h) HC9.out) bR
 apply aa
 case h1 =>
  intro vs L9 w9 hG9 hC9 hB K9 hK9
  have d16:=fe hB 16
  simp only [d16] at hK9 ⊢
  have q0:w9.cell? ⟨(w.heap.size+1),3,none⟩=some (O U va):=(hC9.lies hDL L2a (by omega)).cell 3
  simp only [Act.put,sA,s0,s1] at hK9
  have HC9:=Lib.hid hC9
  clear hC9
  go_simp
  exact hK9 _ _ rfl (Sw.both (by decide) (fun h=>h) (fun h=>h) HC9.out) bR
 apply aa
 case h1 =>
  intro vs L9 w9 hG9 hC9 hB K9 hK9
  have d15:=fe hB 15
  have d17:=fe hB 17
  simp only [d15,d17] at hK9 ⊢
  simp only [Act.put,sA,s0,s1] at hK9
  have HC9:=Lib.hid hC9
  clear hC9
  go_simp
  exact hK9 _ _ rfl (Sw.both (by decide) (fun h=>h) (fun h=>h) HC9.out) bR
 refine aa (undef) (fun vs L9 w9 hG9 hC9 hB K9 hK9=>?hb19) ?rb19
 case hb19 =>
  replace hC9:=hC9.here hG9
  obtain ⟨TA,tc,OA,oc,e15,h1,h2⟩:=fs hB 14
  simp only [e15] at hK9 ⊢
  have Lr:=L3a.below hC9 L3a.lt
  obtain ⟨z0,z1,z2,z3,z4⟩:=cells5 Lr
  obtain ⟨f0,f1,f2,f3,f4⟩:=frz5 Lr
  have h1:=Lib.hid h1
  have h2:=Lib.hid h2
  clear Lr
  go_simp
  exact hK9 _ _ rfl (Sw.turn (by rw [HD1.out]; exact ⟨w9,TA,tc,OA,oc,hC9,h1.out,h2.out,rfl⟩)) (fun hq=>(hq (by decide)).elim)
 apply aa
 case h1 =>
  intro vs L9 w9 hG9 hC9 hB K9 hK9
  replace hC9:=hC9.after hG9 (by kernel_rfl)
  have d18:=fe hB 18
  simp only [d18] at hK9 ⊢
  simp only [Act.put,sA,s0,s1] at hK9
  go_simp
  exact hK9 _ _ rfl (Sw.on hG9 (by kernel_rfl) hC9) bR
 refine az fun vs L9 w9 hL9 hC9 hB=>?_
 replace hC9:=hC9.done hL9 (by decide)
 have dl:=ag.eq (hB 20 _ rfl rfl (by decide))
 simp only [dl]
 clear hB dl
 rw [HD1.out] at hC9
 obtain ⟨W8,TA,tc,OA,oc,hb8,h1,h2,rfl⟩:=hC9
 have Lr:=L3a.below hb8 L3a.lt
 have bz:=(b4.trans (hb8.mono b4.size)).trans (bK (v0:=F TA ((⟨ah x.t st va,aH st pe (n - va) x.o,x.got,x.sold,x.missed⟩ : Oc)).t.length tc) (v1:=F OA ((⟨ah x.t st va,aH st pe (n - va) x.o,x.got,x.sold,x.missed⟩ : Oc)).o.length oc) (v2:=O U ((⟨ah x.t st va,aH st pe (n - va) x.o,x.got,x.sold,x.missed⟩ : Oc)).got) (v3:=O U ((⟨ah x.t st va,aH st pe (n - va) x.o,x.got,x.sold,x.missed⟩ : Oc)).sold) (v4:=O U ((⟨ah x.t st va,aH st pe (n - va) x.o,x.got,x.sold,x.missed⟩ : Oc)).missed) Lr (show w.heap.size≤(w.heap.size+1+1) by omega))
 have HT:=Lib.hid (aW (v0:=F TA ((⟨ah x.t st va,aH st pe (n - va) x.o,x.got,x.sold,x.missed⟩ : Oc)).t.length tc) (v1:=F OA ((⟨ah x.t st va,aH st pe (n - va) x.o,x.got,x.sold,x.missed⟩ : Oc)).o.length oc) (v2:=O U ((⟨ah x.t st va,aH st pe (n - va) x.o,x.got,x.sold,x.missed⟩ : Oc)).got) (v3:=O U ((⟨ah x.t st va,aH st pe (n - va) x.o,x.got,x.sold,x.missed⟩ : Oc)).sold) (v4:=O U ((⟨ah x.t st va,aH st pe (n - va) x.o,x.got,x.sold,x.missed⟩ : Oc)).missed) Lr h1 cq)
 have HO:=Lib.hid (aW (v0:=F TA ((⟨ah x.t st va,aH st pe (n - va) x.o,x.got,x.sold,x.missed⟩ : Oc)).t.length tc) (v1:=F OA ((⟨ah x.t st va,aH st pe (n - va) x.o,x.got,x.sold,x.missed⟩ : Oc)).o.length oc) (v2:=O U ((⟨ah x.t st va,aH st pe (n - va) x.o,x.got,x.sold,x.missed⟩ : Oc)).got) (v3:=O U ((⟨ah x.t st va,aH st pe (n - va) x.o,x.got,x.sold,x.missed⟩ : Oc)).sold) (v4:=O U ((⟨ah x.t st va,aH st pe (n - va) x.o,x.got,x.sold,x.missed⟩ : Oc)).missed) Lr h2 cF)
 have PR:=fb (v0:=F TA ((⟨ah x.t st va,aH st pe (n - va) x.o,x.got,x.sold,x.missed⟩ : Oc)).t.length tc) (v1:=F OA ((⟨ah x.t st va,aH st pe (n - va) x.o,x.got,x.sold,x.missed⟩ : Oc)).o.length oc) (v2:=O U ((⟨ah x.t st va,aH st pe (n - va) x.o,x.got,x.sold,x.missed⟩ : Oc)).got) (v3:=O U ((⟨ah x.t st va,aH st pe (n - va) x.o,x.got,x.sold,x.missed⟩ : Oc)).sold) (v4:=O U ((⟨ah x.t st va,aH st pe (n - va) x.o,x.got,x.sold,x.missed⟩ : Oc)).missed) Lr
 generalize cW W8 (w.heap.size+1+1) (F TA ((⟨ah x.t st va,aH st pe (n - va) x.o,x.got,x.sold,x.missed⟩ : Oc)).t.length tc) (F OA ((⟨ah x.t st va,aH st pe (n - va) x.o,x.got,x.sold,x.missed⟩ : Oc)).o.length oc) (O U ((⟨ah x.t st va,aH st pe (n - va) x.o,x.got,x.sold,x.missed⟩ : Oc)).got) (O U ((⟨ah x.t st va,aH st pe (n - va) x.o,x.got,x.sold,x.missed⟩ : Oc)).sold) (O U ((⟨ah x.t st va,aH st pe (n - va) x.o,x.got,x.sold,x.missed⟩ : Oc)).missed)=W9 at bz HT HO PR ⊢
 obtain ⟨k0,k1,k2,k3,k4⟩:=cells5 PR
 clear h1 h2 Lr hb8 hL9 PR
 go_wp2
 refine bodyPost_ret (v:=.tuple #[.agg #[F TA ((⟨ah x.t st va,aH st pe (n - va) x.o,x.got,x.sold,x.missed⟩ : Oc)).t.length tc,F OA ((⟨ah x.t st va,aH st pe (n - va) x.o,x.got,x.sold,x.missed⟩ : Oc)).o.length oc,O U ((⟨ah x.t st va,aH st pe (n - va) x.o,x.got,x.sold,x.missed⟩ : Oc)).got,O U ((⟨ah x.t st va,aH st pe (n - va) x.o,x.got,x.sold,x.missed⟩ : Oc)).sold,O U ((⟨ah x.t st va,aH st pe (n - va) x.o,x.got,x.sold,x.missed⟩ : Oc)).missed],.bool (decide (va≤n))]) (by simp [results,Tryz.results175,go_sem, *]) rfl ?_
 exact ⟨TA,tc,OA,oc,rfl,HT.out,HO.out,bz⟩
set_option maxRecDepth 100000 in
set_option maxHeartbeats 4000000 in
theorem ow (x:aM) (st pe va:Int) (w:World) (h:aQ w w.heap.size x) (G:bn x) (hcap:x.t.length≤x.tc) (hst:1≤st∧st≤99) (hpe:1≤pe∧pe≤999) :
  Calls Tryz.prog 175 #[x.val,.agg #[O U 5,O U st,O U pe,O U va]] w (cm w ((⟨x.t,aH st pe 0 x.o,x.got,x.sold,x.missed+aJ st pe x.o⟩ : Oc),decide (0 < aJ st pe x.o))):=by
 have L1:=((ai.new w 40 #[F x.TA x.t.length x.tc,F x.OA x.o.length x.oc,O U x.got,O U x.sold,O U x.missed]).alloc (.cells #[O U 5,O U st,O U pe,O U va] 112)).alloc (.cells #[F none 0 0,F none 0 0,O U 0,O U 0,O U 0] 40)
 have L2:=(ai.new1 w (.cells #[F x.TA x.t.length x.tc,F x.OA x.o.length x.oc,O U x.got,O U x.sold,O U x.missed] 40) 112 #[O U 5,O U st,O U pe,O U va]).alloc (.cells #[F none 0 0,F none 0 0,O U 0,O U 0,O U 0] 40)
 have L3:=ai.new2 w (.cells #[F x.TA x.t.length x.tc,F x.OA x.o.length x.oc,O U x.got,O U x.sold,O U x.missed] 40) (.cells #[O U 5,O U st,O U pe,O U va] 112) 40 #[F none 0 0,F none 0 0,O U 0,O U 0,O U 0]
 have b1:=(Below.refl w.heap.size w).alloc (Nat.le_refl _) (.cells #[F x.TA x.t.length x.tc,F x.OA x.o.length x.oc,O U x.got,O U x.sold,O U x.missed] 40)
 have b2:=b1.alloc b1.size (.cells #[O U 5,O U st,O U pe,O U va] 112)
 have b3:=b2.alloc b2.size (.cells #[F none 0 0,F none 0 0,O U 0,O U 0,O U 0] 40)
 have Sx:=G.small
 have htl:=G.tl
 have hol:=G.ol
 have htc:=G.tcs
 obtain ⟨m1,m2⟩:=G.m
 obtain ⟨g1,g2⟩:=G.s
 obtain ⟨n1,n2⟩:=G.at_bd st pe
 obtain ⟨n,hn⟩ : ∃ n,aJ st pe x.o=n:=⟨_,rfl⟩
 rw [hn] at n1 n2 ⊢
 clear b1 b2 G
 go_enter Tryz.func175,Tryz.ntmps175
 go_wp2_with fail
 generalize (((w.alloc (.cells #[F x.TA x.t.length x.tc,F x.OA x.o.length x.oc,O U x.got,O U x.sold,O U x.missed] 40)).alloc (.cells #[O U 5,O U st,O U pe,O U va] 112)).alloc (.cells #[F none 0 0,F none 0 0,O U 0,O U 0,O U 0] 40))=W at L1 L2 L3 b3 ⊢
 have hR:=h.up b3 (Nat.le_refl _)
 refine (fl x st pe W hR).mono ?_
 rintro e W1 ⟨rfl,hb1⟩
 rw [hn]
 have hR1:=hR.then hb1
 have L1a:=L1.below hb1 L1.lt
 have L2a:=L2.below hb1 L2.lt
 have L3a:=L3.below hb1 L3.lt
 have b4:=b3.trans (hb1.mono b3.size)
 have hW0:w.heap.size≤W1.heap.size:=b4.size
 have hn:=Lib.hid hn
 clear L1 L2 L3 b3 hb1 hR h
 obtain ⟨c0,c1,c2,c3,c4⟩:=cells5 L1a
 obtain ⟨s0,s1,s2,s3⟩:=cells4 L2a
 have i4:IntKind.i64.wrap (x.missed+n)=x.missed+n:=IntWalk.i64_in _ (by omega)
 go_wp2_with fail
 refine (sJ x st pe (0) W1 hR1 Sx hst hpe).mono ?_
 rintro e W2 ⟨v2,rfl,⟨TA,tc,OA,oc,hv2,hT,hO⟩,hb2⟩
 have hv2:v2=.agg #[F TA x.t.length tc,F OA (aH st pe (0) x.o).length oc,O U x.got,O U x.sold,O U x.missed]:=hv2
 subst hv2
 simp only at hT hO
 have hal:=(Below.refl W2.heap.size W2).alloc (Nat.le_refl _) (.cells #[F TA x.t.length tc,F OA (aH st pe (0) x.o).length oc,O U x.got,O U x.sold,O U x.missed] 40)
 have L1b:=(L1a.below hb2 L1a.lt).below hal (Nat.lt_of_lt_of_le L1a.lt hb2.size)
 have L2b:=(L2a.below hb2 L2a.lt).below hal (Nat.lt_of_lt_of_le L2a.lt hb2.size)
 have L3b:=(L3a.below hb2 L3a.lt).below hal (Nat.lt_of_lt_of_le L3a.lt hb2.size)
 have P:=ai.new W2 40 #[F TA x.t.length tc,F OA (aH st pe (0) x.o).length oc,O U x.got,O U x.sold,O U x.missed]
 have hT3:=af (ab hT hal) hW0
 have hO3:=af (ab hO hal) hW0
 have b5:=b4.trans ((ar hb2 hal).mono b4.size)
 have hR5:=(hR1.then hb2).then hal
 have hgg:w.heap.size+1+1 < W2.heap.size:=Nat.lt_of_lt_of_le L3a.lt hb2.size
 clear c0 c1 c2 c3 c4 s0 s1 s2 s3
 obtain ⟨W3,hW3⟩ : ∃ W3,W2.alloc (.cells #[F TA x.t.length tc,F OA (aH st pe (0) x.o).length oc,O U x.got,O U x.sold,O U x.missed] 40)=W3:=⟨_,rfl⟩
 rw [hW3] at L1b L2b L3b P hT3 hO3 b5 hR5
 generalize hg2:W2.heap.size=g2 at P hgg
 obtain ⟨c0,c1,c2,c3,c4⟩:=cells5 L1b
 obtain ⟨s0,s1,s2,s3⟩:=cells4 L2b
 obtain ⟨p0,p1,p2,p3,p4⟩:=cells5 P
 obtain ⟨pf0,pf1,pf2,pf3,pf4⟩:=frz5 P
 have P4:=P.set 4 (O U (x.missed+n))
 have L1c:=L1b.other (p:=⟨g2,4,none⟩) (by simp; omega) (O U (x.missed+n))
 have L2c:=L2b.other (p:=⟨g2,4,none⟩) (by simp; omega) (O U (x.missed+n))
 have L3c:=L3b.other (p:=⟨g2,4,none⟩) (by simp; omega) (O U (x.missed+n))
 have hT4:=al hT3 P cq 4 (O U (x.missed+n))
 have hO4:=al hO3 P cF 4 (O U (x.missed+n))
 have b6:=b5.setCell (p:=⟨g2,4,none⟩) (show w.heap.size≤g2 by omega) (O U (x.missed+n))
 simp only [List.set_cons_zero,List.set_cons_succ] at P4
 obtain ⟨W4,hW4⟩ : ∃ W4,W3.setCell ⟨g2,4,none⟩ (O U (x.missed+n))=W4:=⟨_,rfl⟩
 rw [hW4] at P4 L1c L2c L3c hT4 hO4 b6
 clear hR5 hb2 hal hT hO L1a L2a L3a b4 hR1
 obtain ⟨k0,k1,k2,k3,k4⟩:=cells5 P4
 obtain ⟨z0,z1,z2,z3,z4⟩:=cells5 L3c
 obtain ⟨f0,f1,f2,f3,f4⟩:=frz5 L3c
 have bz:=b6.trans (bK (v0:=F TA x.t.length tc) (v1:=F OA (aH st pe (0) x.o).length oc) (v2:=O U x.got) (v3:=O U x.sold) (v4:=O U (x.missed+n)) L3c (show w.heap.size≤w.heap.size+1+1 by omega))
 have HT:=Lib.hid (aW (v0:=F TA x.t.length tc) (v1:=F OA (aH st pe (0) x.o).length oc) (v2:=O U x.got) (v3:=O U x.sold) (v4:=O U (x.missed+n)) L3c hT4 cq)
 have HO:=Lib.hid (aW (v0:=F TA x.t.length tc) (v1:=F OA (aH st pe (0) x.o).length oc) (v2:=O U x.got) (v3:=O U x.sold) (v4:=O U (x.missed+n)) L3c hO4 cF)
 go_wp2_with (first | (rw [hW3]; clear hW3; rw [hg2]) | (rw [hW4]; clear hW4))
 clear c0 c1 c2 c3 c4 s0 s1 s2 s3 p0 p1 p2 p3 p4 pf0 pf1 pf2 pf3 pf4
 refine bodyPost_ret (v:=.tuple #[.agg #[F TA x.t.length tc,F OA (aH st pe (0) x.o).length oc,O U x.got,O U x.sold,O U (x.missed+n)],.bool (decide (0 < n))]) (by simp [results,Tryz.results175,go_sem, *]) rfl ?_
 exact ⟨TA,tc,OA,oc,rfl,HT.out,HO.out,bz⟩
end Go.Proofs.YtoeoimhemojdeaaGreatDoor
