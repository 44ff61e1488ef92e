/- Lemmas. -/
import Derived.Test.YtoeoimhemojdeaaGreatDoorFc20

set_option linter.unusedVariables false
set_option linter.unusedSimpArgs false
set_option maxHeartbeats 8000000
open Go.Value renaming int → O, slice → F, string → vw
open Go.IntKind renaming i64 → U
open Go.Proofs.Tryz renaming prog → vx

namespace Go.Proofs.YtoeoimhemojdeaaGreatDoor
open Go.RowKit
set_option maxRecDepth 100000 in
theorem qc (x:aO) (st pe va:Int) (w:World) (h:aP w w.heap.size x) (G:bH x) (vM:x.t.length≤x.tc) (vX:1≤st∧st≤99) (wV:1≤pe∧pe≤999) (yo:1≤va∧va≤999) :
  Calls vx 175 #[x.val,.agg #[O U 6,O U st,O U pe,O U va]] w (dp w ((⟨x.t,aL st va (aN st va (aL st pe 0 x.o)+aN st pe x.o) (aL st pe 0 x.o),x.gt,x.sd,x.ms⟩ : Oc),decide (0 < aN st pe x.o) && decide (va ≠ pe))):=by
 have L1:=((ah.new w 40 #[F x.TA x.t.length x.tc,F x.OA x.o.length x.oc,O U x.gt,O U x.sd,O U x.ms]).alloc (.cells #[O U 6,O U st,O U pe,O U va] 112)).alloc (.cells #[F none 0 0,F none 0 0,O U 0,O U 0,O U 0] 40)
 have L2:=(ah.new1 w (.cells #[F x.TA x.t.length x.tc,F x.OA x.o.length x.oc,O U x.gt,O U x.sd,O U x.ms] 40) 112 #[O U 6,O U st,O U pe,O U va]).alloc (.cells #[F none 0 0,F none 0 0,O U 0,O U 0,O U 0] 40)
 have L3:=ah.new2 w (.cells #[F x.TA x.t.length x.tc,F x.OA x.o.length x.oc,O U x.gt,O U x.sd,O U x.ms] 40) (.cells #[O U 6,O U st,O U pe,O U va] 112) 40 #[F none 0 0,F none 0 0,O U 0,O U 0,O U 0]
 have b1:=bZ w (.cells #[F x.TA x.t.length x.tc,F x.OA x.o.length x.oc,O U x.gt,O U x.sd,O U x.ms] 40)
 have b2:=b1.alloc b1.size (.cells #[O U 6,O U st,O U pe,O U va] 112)
 have b3:=b2.alloc b2.size (.cells #[F none 0 0,F none 0 0,O U 0,O U 0,O U 0] 40)
 have Sx:=G.small
 have Cs:=G.tl
 have Ct:=G.ol
 have y6:=G.tcs
 obtain ⟨m1,m2⟩:=G.m
 obtain ⟨g1,g2⟩:=G.s
 obtain ⟨n1,n2⟩:=G.at_bd st pe
 obtain ⟨m,hm⟩ : ∃ m,aN st va (aL st pe 0 x.o)=m:=⟨_,rfl⟩
 have Kg:0≤m∧m≤9999:=by rw [← hm]; exact G.move_bd st pe va
 rw [hm]
 have HM:=jZ hm; clear hm
 obtain ⟨q1,q2⟩:=Kg
 obtain ⟨n,hn⟩ : ∃ n,aN st pe x.o=n:=⟨_,rfl⟩
 rw [hn] at n1 n2 ⊢
 clear b1 b2 G
 go_enter Tryz.func175,Tryz.ntmps175
 go_wp2_with fail
 generalize (((w.alloc (.cells #[F x.TA x.t.length x.tc,F x.OA x.o.length x.oc,O U x.gt,O U x.sd,O U x.ms] 40)).alloc (.cells #[O U 6,O U st,O U pe,O U va] 112)).alloc (.cells #[F none 0 0,F none 0 0,O U 0,O U 0,O U 0] 40))=W at L1 L2 L3 b3 ⊢
 have hR:=h.up b3 nR
 refine (gm x st pe W hR).mono ?_
 rintro e W1 ⟨rfl,vD⟩
 rw [hn]
 have xB:=hR.then vD
 have wq:=L1.below vD L1.lt
 have wi:=L2.below vD L2.lt
 have wF:=L3.below vD L3.lt
 have b4:=b3.trans (vD.mono b3.size)
 have xO:w.heap.size≤W1.heap.size:=b4.size
 have hn:=jZ hn
 clear L1 L2 L3 b3 vD hR h
 obtain ⟨c0,c1,c2,c3,c4⟩:=cells5 wq
 obtain ⟨s0,s1,s2,s3⟩:=cells4 wi
 have S1:kx (⟨x.t,aL st pe 0 x.o,x.gt,x.sd,x.ms⟩ : Oc):=Sx.at vX wV (by show x.o.length≤100; omega)
 go_wp2_with fail
 refine (vj x st pe (0) W1 xB Sx vX wV).mono ?_
 rintro e W2 ⟨v2,rfl,⟨TA,tc,OA,oc,wj,hT,hO⟩,vC⟩
 have wj:v2=.agg #[F TA x.t.length tc,F OA (aL st pe (0) x.o).length oc,O U x.gt,O U x.sd,O U x.ms]:=wj
 subst wj
 simp only at hT hO
 have vE:=(Below.refl W2.heap.size W2).alloc nR (.cells #[F TA x.t.length tc,F OA (aL st pe (0) x.o).length oc,O U x.gt,O U x.sd,O U x.ms] 40)
 have xE:=(wq.below vC wq.lt).below vE (jL wq.lt vC.size)
 have xF:=(wi.below vC wi.lt).below vE (jL wi.lt vC.size)
 have xU:=(wF.below vC wF.lt).below vE (jL wF.lt vC.size)
 have P:=ah.new W2 40 #[F TA x.t.length tc,F OA (aL st pe (0) x.o).length oc,O U x.gt,O U x.sd,O U x.ms]
 have wJ:=ai (ac hT vE) xO
 have wa:=ai (ac hO vE) xO
 have b5:=b4.trans ((av vC vE).mono b4.size)
 have zM:=(xB.then vC).then vE
 have wW:w.heap.size+1+1 < W2.heap.size:=jL wF.lt vC.size
 clear c0 c1 c2 c3 c4 s0 s1 s2 s3
 obtain ⟨W3,wE⟩ : ∃ W3,W2.alloc (.cells #[F TA x.t.length tc,F OA (aL st pe (0) x.o).length oc,O U x.gt,O U x.sd,O U x.ms] 40)=W3:=⟨_,rfl⟩
 rw [wE] at xE xF xU P wJ wa b5 zM
 generalize wK:W2.heap.size=g2 at P wW
 obtain ⟨c0,c1,c2,c3,c4⟩:=cells5 xE
 obtain ⟨s0,s1,s2,s3⟩:=cells4 xF
 obtain ⟨p0,p1,p2,p3,p4⟩:=cells5 P
 obtain ⟨pf0,pf1,pf2,pf3,pf4⟩:=frz5 P
 clear vC vE hT hO wq wi wF b4 xB
 go_wp2_with (rw [wE]; clear wE; rw [wK])
 clear c0 c1 c2 c3 c4 s0 s1 s2 s3 p0 p1 p2 p3 p4 pf0 pf1 pf2 pf3 pf4
 obtain ⟨b,zQ⟩ : ∃ b,decide (0 < n)=b:=⟨_,rfl⟩
 have Ca:=jZ zQ; clear zQ
 obtain ⟨D1,xP⟩ : ∃ D:World→Prop,D=(fun W9=>∃ W8 TA tc OA oc,Below W3.heap.size W3 W8∧W8.ownsRow w.heap.size 104 2 (F TA ((⟨x.t,aL st va (m+n) (aL st pe 0 x.o),x.gt,x.sd,x.ms⟩ : Oc)).t.length tc) ((⟨x.t,aL st va (m+n) (aL st pe 0 x.o),x.gt,x.sd,x.ms⟩ : Oc)).t.length (((⟨x.t,aL st va (m+n) (aL st pe 0 x.o),x.gt,x.sd,x.ms⟩ : Oc)).t.flatMap aq.enc)∧W8.ownsRow w.heap.size 147 3 (F OA ((⟨x.t,aL st va (m+n) (aL st pe 0 x.o),x.gt,x.sd,x.ms⟩ : Oc)).o.length oc) ((⟨x.t,aL st va (m+n) (aL st pe 0 x.o),x.gt,x.sd,x.ms⟩ : Oc)).o.length (((⟨x.t,aL st va (m+n) (aL st pe 0 x.o),x.gt,x.sd,x.ms⟩ : Oc)).o.flatMap ae.enc)∧W9=dh W8 (w.heap.size+1+1) (F TA ((⟨x.t,aL st va (m+n) (aL st pe 0 x.o),x.gt,x.sd,x.ms⟩ : Oc)).t.length tc) (F OA ((⟨x.t,aL st va (m+n) (aL st pe 0 x.o),x.gt,x.sd,x.ms⟩ : Oc)).o.length oc) (O U ((⟨x.t,aL st va (m+n) (aL st pe 0 x.o),x.gt,x.sd,x.ms⟩ : Oc)).gt) (O U ((⟨x.t,aL st va (m+n) (aL st pe 0 x.o),x.gt,x.sd,x.ms⟩ : Oc)).sd) (O U ((⟨x.t,aL st va (m+n) (aL st pe 0 x.o),x.gt,x.sd,x.ms⟩ : Oc)).ms)):=⟨_,rfl⟩
 have Bv:∀ W,D1 W→∃ W8 v0 v1 v2 v3 v4,Below W3.heap.size W3 W8∧W=dh W8 (w.heap.size+1+1) v0 v1 v2 v3 v4:=by
  rw [xP]
  rintro _ ⟨W8,TA,tc,OA,oc,hq,_,_,e⟩
  exact ⟨W8,_,_,_,_,_,hq,e⟩
 have yA:=jZ xP; clear xP
 refine al (Sw 23 (fun W9=>Below W3.heap.size W3 W9) D1) (fun i w1 w2=>i ∉ [23]→Below w1.heap.size w1 w2) kZ kZ kZ (Sw.start jB.drew) ?_
 simp only [aw,Act.put,sA,gs0,gs1,Nat.zero_add,Nat.reduceAdd]
 refine aa _ (vb0C5 P) ?_
 refine aa _ vb0 ?_
 refine aa _ (vb1c1 1 xF 1) ?_
 refine aa _ vb0 ?_
 refine aa _ (vb1c1 3 xF 3) ?_
 refine aa _ (vb0C5 P) ?_
 refine aa _ vb0 ?_
 refine aa _ (vb1c1 6 xF 1) ?_
 refine aa _ vb0 ?_
 refine aa _ (vb1c1 8 xF 3) ?_
 apply aa
 case h1 =>
  intro vs L9 w9 vA vy hB K9 vz
  replace vy:=sb vy vA
  have d5:=fe hB 5
  have d7:=fe hB 7
  have d9:=fe hB 9
  simp only [d5,d7,d9] at vz ⊢
  simp only [Act.put,sA,gs0,gs1] at vz
  go_simp
  refine (show Calls _ _ _ _ (fun e w'=>e=.returned (O U m)∧Below w9.heap.size w9 w') from by rw [← HM.out]; exact vr st va (show eW w9 w.heap.size (⟨x.t,aL st pe 0 x.o,x.gt,x.sd,x.ms⟩ : Oc) _ from ⟨TA,tc,OA,oc,rfl,ac wJ vy,ac wa vy⟩)).mono ?_
  rintro en w8 ⟨rfl,vB⟩
  exact vz _ _ rfl (Sw.stay vA kZ dD (vy.trans (vB.mono vy.size))) (fun _=>vB)
 refine aa _ vb0 ?_
 apply aa
 case h1 =>
  intro vs L9 w9 vA vy hB K9 vz
  replace vy:=sb vy vA
  have d10:=fe hB 10
  have d11:=fe hB 11
  simp only [d10,d11] at vz ⊢
  have i3:IntKind.i64.wrap (m+n)=m+n:=IntWalk.i64_in _ oM
  simp only [Act.put,sA,gs0,gs1] at vz
  go_simp
  exact vz _ _ rfl (sy vA vy) bR
 refine af [23] (fun v w9=>eW w9 w.heap.size (⟨x.t,aL st va (m+n) (aL st pe 0 x.o),x.gt,x.sd,x.ms⟩ : Oc) v) ?sv13 (fun vs L9 w9 vA vy hB K9 vz=>?hv13) ?rv13
 case sv13 =>
  intro i9 wD hb9 ha9 v w1 w2 hv vV
  have hb:=vV (fun hm=>by
   simp only [mC,mN,oF] at hm hb9
   subst hm
   ·exact hb9 sP)
  exact hv.below hb
 case hv13 =>
  replace vy:=sb vy vA
  have d0:=fe hB 0
  have d2:=fe hB 2
  have d4:=fe hB 4
  have d12:=fe hB 12
  simp only [d0,d2,d4,d12] at vz ⊢
  simp only [Act.put,sA,gs0,gs1] at vz
  have xO:w.heap.size≤W3.heap.size:=b5.size
  go_simp
  refine (vq st va (m+n) (show eW w9 w.heap.size (⟨x.t,aL st pe 0 x.o,x.gt,x.sd,x.ms⟩ : Oc) _ from ⟨TA,tc,OA,oc,rfl,ac wJ vy,ac wa vy⟩) S1 vX yo).mono ?_
  rintro en w8 ⟨v8,rfl,AF,vB⟩
  exact vz _ _ _ rfl (AF.lower (jT xO vy.size)) (Sw.stay vA kZ dD (vy.trans (vB.mono vy.size))) (fun _=>vB)
 refine aa _ vb0 ?_
 refine aa (.bool b) (fun vs L9 w9 vA vy hB K9 vz=>?hv15) ?rv15
 case hv15 =>
  replace vy:=sb vy vA
  have d14:=fe hB 14
  simp only [d14] at vz ⊢
  go_simp
  rw [Ca.out]
  exact vz _ _ rfl (sy vA vy) bR
 refine aa _ (vb1 15) ?_
 refine af [] (fun v _=>b=true→v=.pointer (some ⟨w.heap.size+1,3,none⟩)) ?sv17 (fun vs L9 w9 vA vy hB K9 vz=>?hv17) ?rv17
 case sv17 =>
  intro i9 wD hb9 ha9 v w1 w2 hv vV
  exact hv
 case hv17 =>
  have xY:=jZ vy
  have dg:=fe hB 16
  simp only [dg] at vz ⊢
  clear vy
  cases b with
  | false =>
   go_simp
   exact vz _ undef _ rfl (fun hq=>by cases hq) (Sw.both dD (fun h=>h) (fun h=>h) xY.out) bR
  | true =>
   go_simp
   exact vz _ _ _ rfl (fun _=>rfl) (Sw.both dD (fun h=>h) (fun h=>h) xY.out) bR
 refine af [] (fun v _=>b=true→v=O U va) ?sv18 (fun vs L9 w9 vA vy hB K9 vz=>?hv18) ?rv18
 case sv18 =>
  intro i9 wD hb9 ha9 v w1 w2 hv vV
  exact hv
 case hv18 =>
  have xY:=jZ vy
  have dg:=fe hB 16
  simp only [dg] at vz ⊢
  have q0:w9.cell? ⟨w.heap.size+1,3,none⟩=some (O U va):=(vy.lies Bv xF oM).cell 3
  clear vy
  cases b with
  | false =>
   go_simp
   exact vz _ undef _ rfl (fun hq=>by cases hq) (Sw.both dD (fun h=>h) (fun h=>h) xY.out) bR
  | true =>
   have d17:=hB 17 _ kZ kZ rfl dD rfl
   simp only [d17] at vz ⊢
   go_simp
   exact vz _ _ _ rfl (fun _=>rfl) (Sw.both dD (fun h=>h) (fun h=>h) xY.out) bR
 refine af [] (fun v _=>b=true→v=.pointer (some ⟨w.heap.size+1,2,none⟩)) ?sv19 (fun vs L9 w9 vA vy hB K9 vz=>?hv19) ?rv19
 case sv19 =>
  intro i9 wD hb9 ha9 v w1 w2 hv vV
  exact hv
 case hv19 =>
  have xY:=jZ vy
  have dg:=fe hB 16
  simp only [dg] at vz ⊢
  clear vy
  cases b with
  | false =>
   go_simp
   exact vz _ undef _ rfl (fun hq=>by cases hq) (Sw.both dD (fun h=>h) (fun h=>h) xY.out) bR
  | true =>
   go_simp
   exact vz _ _ _ rfl (fun _=>rfl) (Sw.both dD (fun h=>h) (fun h=>h) xY.out) bR
 refine af [] (fun v _=>b=true→v=O U pe) ?sv20 (fun vs L9 w9 vA vy hB K9 vz=>?hv20) ?rv20
 case sv20 =>
  intro i9 wD hb9 ha9 v w1 w2 hv vV
  exact hv
 case hv20 =>
  have xY:=jZ vy
  have dg:=fe hB 16
  simp only [dg] at vz ⊢
  have q0:w9.cell? ⟨w.heap.size+1,2,none⟩=some (O U pe):=(vy.lies Bv xF oM).cell 2
  clear vy
  cases b with
  | false =>
   go_simp
   exact vz _ undef _ rfl (fun hq=>by cases hq) (Sw.both dD (fun h=>h) (fun h=>h) xY.out) bR
  | true =>
   have d19:=hB 19 _ kZ kZ rfl dD rfl
   simp only [d19] at vz ⊢
   go_simp
   exact vz _ _ _ rfl (fun _=>rfl) (Sw.both dD (fun h=>h) (fun h=>h) xY.out) bR
 refine af [] (fun v _=>b=true→v=.bool (va != pe)) ?sv21 (fun vs L9 w9 vA vy hB K9 vz=>?hv21) ?rv21
 case sv21 =>
  intro i9 wD hb9 ha9 v w1 w2 hv vV
  exact hv
 case hv21 =>
  have xY:=jZ vy
  have dg:=fe hB 16
  simp only [dg] at vz ⊢
  clear vy
  cases b with
  | false =>
   go_simp
   exact vz _ undef _ rfl (fun hq=>by cases hq) (Sw.both dD (fun h=>h) (fun h=>h) xY.out) bR
  | true =>
   have d18:=hB 18 _ kZ kZ rfl dD rfl
   have d20:=hB 20 _ kZ kZ rfl dD rfl
   simp only [d18,d20] at vz ⊢
   go_simp
   exact vz _ _ _ rfl (fun _=>rfl) (Sw.both dD (fun h=>h) (fun h=>h) xY.out) bR
 refine aa (.bool (b && (va != pe))) (fun vs L9 w9 vA vy hB K9 vz=>?hv22) ?rv22
 case hv22 =>
  have d16:=fe hB 16
  simp only [d16] at vz ⊢
  have xY:=jZ vy
  clear vy
  cases b with
  | false =>
   go_simp
   exact vz _ _ rfl (Sw.both dD (fun h=>h) (fun h=>h) xY.out) bR
  | true =>
   have d21:=hB 21 _ kZ kZ rfl dD rfl
   simp only [d21] at vz ⊢
   go_simp
   exact vz _ _ rfl (Sw.both dD (fun h=>h) (fun h=>h) xY.out) bR
 refine aa (undef) (fun vs L9 w9 vA vy hB K9 vz=>?hv23) ?rv23
 case hv23 =>
  replace vy:=vy.here vA
  obtain ⟨TA,tc,OA,oc,e15,h1,h2⟩:=fs hB 13
  simp only [e15] at vz ⊢
  have Lr:=xU.below vy xU.lt
  obtain ⟨z0,z1,z2,z3,z4⟩:=cells5 Lr
  obtain ⟨f0,f1,f2,f3,f4⟩:=frz5 Lr
  have h1:=jZ h1
  have h2:=jZ h2
  clear Lr
  go_simp
  exact vz _ _ rfl (Sw.turn (by rw [yA.out]; exact ⟨w9,TA,tc,OA,oc,vy,h1.out,h2.out,rfl⟩)) nq
 refine aa _ (va1 22) ?_
 refine au fun vs L9 w9 vI vy hB=>?_
 replace vy:=vy.done vI dD
 have dl:=ag.eq (hB 24 _ rfl rfl dD)
 simp only [dl]
 clear hB dl
 rw [yA.out] at vy
 obtain ⟨W8,TA,tc,OA,oc,vB,h1,h2,rfl⟩:=vy
 have Lr:=xU.below vB xU.lt
 have bz:=(b5.trans (vB.mono b5.size)).trans (cg (v0:=F TA ((⟨x.t,aL st va (m+n) (aL st pe 0 x.o),x.gt,x.sd,x.ms⟩ : Oc)).t.length tc) (v1:=F OA ((⟨x.t,aL st va (m+n) (aL st pe 0 x.o),x.gt,x.sd,x.ms⟩ : Oc)).o.length oc) (v2:=O U ((⟨x.t,aL st va (m+n) (aL st pe 0 x.o),x.gt,x.sd,x.ms⟩ : Oc)).gt) (v3:=O U ((⟨x.t,aL st va (m+n) (aL st pe 0 x.o),x.gt,x.sd,x.ms⟩ : Oc)).sd) (v4:=O U ((⟨x.t,aL st va (m+n) (aL st pe 0 x.o),x.gt,x.sd,x.ms⟩ : Oc)).ms) Lr (show w.heap.size≤(w.heap.size+1+1) by omega))
 have HT:=jZ (aR (v0:=F TA ((⟨x.t,aL st va (m+n) (aL st pe 0 x.o),x.gt,x.sd,x.ms⟩ : Oc)).t.length tc) (v1:=F OA ((⟨x.t,aL st va (m+n) (aL st pe 0 x.o),x.gt,x.sd,x.ms⟩ : Oc)).o.length oc) (v2:=O U ((⟨x.t,aL st va (m+n) (aL st pe 0 x.o),x.gt,x.sd,x.ms⟩ : Oc)).gt) (v3:=O U ((⟨x.t,aL st va (m+n) (aL st pe 0 x.o),x.gt,x.sd,x.ms⟩ : Oc)).sd) (v4:=O U ((⟨x.t,aL st va (m+n) (aL st pe 0 x.o),x.gt,x.sd,x.ms⟩ : Oc)).ms) Lr h1 bX)
 have HO:=jZ (aR (v0:=F TA ((⟨x.t,aL st va (m+n) (aL st pe 0 x.o),x.gt,x.sd,x.ms⟩ : Oc)).t.length tc) (v1:=F OA ((⟨x.t,aL st va (m+n) (aL st pe 0 x.o),x.gt,x.sd,x.ms⟩ : Oc)).o.length oc) (v2:=O U ((⟨x.t,aL st va (m+n) (aL st pe 0 x.o),x.gt,x.sd,x.ms⟩ : Oc)).gt) (v3:=O U ((⟨x.t,aL st va (m+n) (aL st pe 0 x.o),x.gt,x.sd,x.ms⟩ : Oc)).sd) (v4:=O U ((⟨x.t,aL st va (m+n) (aL st pe 0 x.o),x.gt,x.sd,x.ms⟩ : Oc)).ms) Lr h2 ce)
 have PR:=ex (v0:=F TA ((⟨x.t,aL st va (m+n) (aL st pe 0 x.o),x.gt,x.sd,x.ms⟩ : Oc)).t.length tc) (v1:=F OA ((⟨x.t,aL st va (m+n) (aL st pe 0 x.o),x.gt,x.sd,x.ms⟩ : Oc)).o.length oc) (v2:=O U ((⟨x.t,aL st va (m+n) (aL st pe 0 x.o),x.gt,x.sd,x.ms⟩ : Oc)).gt) (v3:=O U ((⟨x.t,aL st va (m+n) (aL st pe 0 x.o),x.gt,x.sd,x.ms⟩ : Oc)).sd) (v4:=O U ((⟨x.t,aL st va (m+n) (aL st pe 0 x.o),x.gt,x.sd,x.ms⟩ : Oc)).ms) Lr
 generalize dh W8 (w.heap.size+1+1) (F TA ((⟨x.t,aL st va (m+n) (aL st pe 0 x.o),x.gt,x.sd,x.ms⟩ : Oc)).t.length tc) (F OA ((⟨x.t,aL st va (m+n) (aL st pe 0 x.o),x.gt,x.sd,x.ms⟩ : Oc)).o.length oc) (O U ((⟨x.t,aL st va (m+n) (aL st pe 0 x.o),x.gt,x.sd,x.ms⟩ : Oc)).gt) (O U ((⟨x.t,aL st va (m+n) (aL st pe 0 x.o),x.gt,x.sd,x.ms⟩ : Oc)).sd) (O U ((⟨x.t,aL st va (m+n) (aL st pe 0 x.o),x.gt,x.sd,x.ms⟩ : Oc)).ms)=W9 at bz HT HO PR ⊢
 obtain ⟨k0,k1,k2,k3,k4⟩:=cells5 PR
 clear h1 h2 Lr vB vI PR
 go_wp2
 refine bodyPost_ret (v:=.tuple #[.agg #[F TA ((⟨x.t,aL st va (m+n) (aL st pe 0 x.o),x.gt,x.sd,x.ms⟩ : Oc)).t.length tc,F OA ((⟨x.t,aL st va (m+n) (aL st pe 0 x.o),x.gt,x.sd,x.ms⟩ : Oc)).o.length oc,O U ((⟨x.t,aL st va (m+n) (aL st pe 0 x.o),x.gt,x.sd,x.ms⟩ : Oc)).gt,O U ((⟨x.t,aL st va (m+n) (aL st pe 0 x.o),x.gt,x.sd,x.ms⟩ : Oc)).sd,O U ((⟨x.t,aL st va (m+n) (aL st pe 0 x.o),x.gt,x.sd,x.ms⟩ : Oc)).ms],.bool (b && (va != pe))]) (by simp [results,Tryz.results175,go_sem, *]) rfl ?_
 rw [show (decide (0 < n) && !decide (va=pe))=(b && (va != pe)) from by rw [Ca.out]; congr 1]
 exact ⟨TA,tc,OA,oc,rfl,HT.out,HO.out,bz⟩
end Go.Proofs.YtoeoimhemojdeaaGreatDoor
