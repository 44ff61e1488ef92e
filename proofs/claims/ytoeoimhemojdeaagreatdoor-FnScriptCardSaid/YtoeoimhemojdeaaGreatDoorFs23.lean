/- Lemmas. -/
import Derived.Test.YtoeoimhemojdeaaGreatDoorFs20

set_option linter.unusedVariables false
set_option linter.unusedSimpArgs false
set_option maxHeartbeats 8000000
open Go.Value renaming int → O, slice → F, string → wG
open Go.IntKind renaming i64 → U
open Go.Proofs.Tryz renaming prog → wH

namespace Go.Proofs.YtoeoimhemojdeaaGreatDoor
open Go.RowKit
set_option maxRecDepth 100000 in
theorem qP (x:aO) (st pe va:Int) (w:World) (h:aQ w w.heap.size x) (G:bK x) (wX:x.t.length≤x.tc) (xl:1≤st∧st≤99) (ya:1≤pe∧pe≤999) (zx:1≤va∧va≤999) :
  Calls wH 175 #[x.val,.agg #[O U 6,O U st,O U pe,O U va]] w (dz w ((⟨x.t,aM st va (aP st va (aM st pe 0 x.o)+aP st pe x.o) (aM st pe 0 x.o),x.gt,x.sd,x.ms⟩ : Oc),decide (0 < aP st pe x.o) && decide (va ≠ pe))):=by
 have L1:=((ai.new w 40 #[F x.TA x.t.length x.tc,F x.OA x.o.length x.oc,O U x.gt,O U x.sd,O U x.ms]).alloc (.cells #[O U 6,O U st,O U pe,O U va] 112)).alloc (.cells #[F none 0 0,F none 0 0,O U 0,O U 0,O U 0] 40)
 have L2:=(ai.new1 w (.cells #[F x.TA x.t.length x.tc,F x.OA x.o.length x.oc,O U x.gt,O U x.sd,O U x.ms] 40) 112 #[O U 6,O U st,O U pe,O U va]).alloc (.cells #[F none 0 0,F none 0 0,O U 0,O U 0,O U 0] 40)
 have L3:=ai.new2 w (.cells #[F x.TA x.t.length x.tc,F x.OA x.o.length x.oc,O U x.gt,O U x.sd,O U x.ms] 40) (.cells #[O U 6,O U st,O U pe,O U va] 112) 40 #[F none 0 0,F none 0 0,O U 0,O U 0,O U 0]
 have b1:=bZ w (.cells #[F x.TA x.t.length x.tc,F x.OA x.o.length x.oc,O U x.gt,O U x.sd,O U x.ms] 40)
 have b2:=b1.alloc b1.size (.cells #[O U 6,O U st,O U pe,O U va] 112)
 have b3:=b2.alloc b2.size (.cells #[F none 0 0,F none 0 0,O U 0,O U 0,O U 0] 40)
 have Sx:=G.small
 have Cf:=G.tl
 have Cg:=G.ol
 have zw:=G.tcs
 obtain ⟨m1,m2⟩:=G.m
 obtain ⟨g1,g2⟩:=G.s
 obtain ⟨n1,n2⟩:=G.at_bd st pe
 obtain ⟨m,hm⟩ : ∃ m,aP st va (aM st pe 0 x.o)=m:=⟨_,rfl⟩
 have Mv:0≤m∧m≤9999:=by rw [← hm]; exact G.move_bd st pe va
 rw [hm]
 have HM:=jZ hm; clear hm
 obtain ⟨q1,q2⟩:=Mv
 obtain ⟨n,hn⟩ : ∃ n,aP st pe x.o=n:=⟨_,rfl⟩
 rw [hn] at n1 n2 ⊢
 clear b1 b2 G
 go_enter Tryz.func175,Tryz.ntmps175
 go_wp2_with fail
 generalize (((w.alloc (.cells #[F x.TA x.t.length x.tc,F x.OA x.o.length x.oc,O U x.gt,O U x.sd,O U x.ms] 40)).alloc (.cells #[O U 6,O U st,O U pe,O U va] 112)).alloc (.cells #[F none 0 0,F none 0 0,O U 0,O U 0,O U 0] 40))=W at L1 L2 L3 b3 ⊢
 have hR:=h.up b3 nR
 refine (gB x st pe W hR).mono ?_
 rintro e W1 ⟨rfl,wN⟩
 rw [hn]
 have xW:=hR.then wN
 have xA:=L1.below wN L1.lt
 have xv:=L2.below wN L2.lt
 have xI:=L3.below wN L3.lt
 have b4:=b3.trans (wN.mono b3.size)
 have yU:w.heap.size≤W1.heap.size:=b4.size
 have hn:=jZ hn
 clear L1 L2 L3 b3 wN hR h
 obtain ⟨c0,c1,c2,c3,c4⟩:=cells5 xA
 obtain ⟨s0,s1,s2,s3⟩:=cells4 xv
 have S1:kT (⟨x.t,aM st pe 0 x.o,x.gt,x.sd,x.ms⟩ : Oc):=Sx.at xl ya (by show x.o.length≤100; omega)
 go_wp2_with fail
 refine (wq x st pe (0) W1 xW Sx xl ya).mono ?_
 rintro e W2 ⟨v2,rfl,⟨TA,tc,OA,oc,xw,hT,hO⟩,wM⟩
 have xw:v2=.agg #[F TA x.t.length tc,F OA (aM st pe (0) x.o).length oc,O U x.gt,O U x.sd,O U x.ms]:=xw
 subst xw
 simp only at hT hO
 have wO:=(Below.refl W2.heap.size W2).alloc nR (.cells #[F TA x.t.length tc,F OA (aM st pe (0) x.o).length oc,O U x.gt,O U x.sd,O U x.ms] 40)
 have yG:=(xA.below wM xA.lt).below wO (jL xA.lt wM.size)
 have yH:=(xv.below wM xv.lt).below wO (jL xv.lt wM.size)
 have y8:=(xI.below wM xI.lt).below wO (jL xI.lt wM.size)
 have P:=ai.new W2 40 #[F TA x.t.length tc,F OA (aM st pe (0) x.o).length oc,O U x.gt,O U x.sd,O U x.ms]
 have xR:=ah (ac hT wO) yU
 have xp:=ah (ac hO wO) yU
 have b5:=b4.trans ((av wM wO).mono b4.size)
 have Ba:=(xW.then wM).then wO
 have yb:w.heap.size+1+1 < W2.heap.size:=jL xI.lt wM.size
 clear c0 c1 c2 c3 c4 s0 s1 s2 s3
 obtain ⟨W3,xH⟩ : ∃ W3,W2.alloc (.cells #[F TA x.t.length tc,F OA (aM st pe (0) x.o).length oc,O U x.gt,O U x.sd,O U x.ms] 40)=W3:=⟨_,rfl⟩
 rw [xH] at yG yH y8 P xR xp b5 Ba
 generalize xL:W2.heap.size=g2 at P yb
 obtain ⟨c0,c1,c2,c3,c4⟩:=cells5 yG
 obtain ⟨s0,s1,s2,s3⟩:=cells4 yH
 obtain ⟨p0,p1,p2,p3,p4⟩:=cells5 P
 obtain ⟨pf0,pf1,pf2,pf3,pf4⟩:=frz5 P
 clear wM wO hT hO xA xv xI b4 xW
 go_wp2_with (rw [xH]; clear xH; rw [xL])
 clear c0 c1 c2 c3 c4 s0 s1 s2 s3 p0 p1 p2 p3 p4 pf0 pf1 pf2 pf3 pf4
 obtain ⟨b,Bg⟩ : ∃ b,decide (0 < n)=b:=⟨_,rfl⟩
 have DC:=jZ Bg; clear Bg
 obtain ⟨D1,yV⟩ : ∃ D:World→Prop,D=(fun W9=>∃ W8 TA tc OA oc,Below W3.heap.size W3 W8∧W8.ownsRow w.heap.size 104 2 (F TA ((⟨x.t,aM st va (m+n) (aM st pe 0 x.o),x.gt,x.sd,x.ms⟩ : Oc)).t.length tc) ((⟨x.t,aM st va (m+n) (aM st pe 0 x.o),x.gt,x.sd,x.ms⟩ : Oc)).t.length (((⟨x.t,aM st va (m+n) (aM st pe 0 x.o),x.gt,x.sd,x.ms⟩ : Oc)).t.flatMap aq.enc)∧W8.ownsRow w.heap.size 147 3 (F OA ((⟨x.t,aM st va (m+n) (aM st pe 0 x.o),x.gt,x.sd,x.ms⟩ : Oc)).o.length oc) ((⟨x.t,aM st va (m+n) (aM st pe 0 x.o),x.gt,x.sd,x.ms⟩ : Oc)).o.length (((⟨x.t,aM st va (m+n) (aM st pe 0 x.o),x.gt,x.sd,x.ms⟩ : Oc)).o.flatMap ae.enc)∧W9=dq W8 (w.heap.size+1+1) (F TA ((⟨x.t,aM st va (m+n) (aM st pe 0 x.o),x.gt,x.sd,x.ms⟩ : Oc)).t.length tc) (F OA ((⟨x.t,aM st va (m+n) (aM st pe 0 x.o),x.gt,x.sd,x.ms⟩ : Oc)).o.length oc) (O U ((⟨x.t,aM st va (m+n) (aM st pe 0 x.o),x.gt,x.sd,x.ms⟩ : Oc)).gt) (O U ((⟨x.t,aM st va (m+n) (aM st pe 0 x.o),x.gt,x.sd,x.ms⟩ : Oc)).sd) (O U ((⟨x.t,aM st va (m+n) (aM st pe 0 x.o),x.gt,x.sd,x.ms⟩ : Oc)).ms)):=⟨_,rfl⟩
 have CV:∀ W,D1 W→∃ W8 v0 v1 v2 v3 v4,Below W3.heap.size W3 W8∧W=dq W8 (w.heap.size+1+1) v0 v1 v2 v3 v4:=by
  rw [yV]
  rintro _ ⟨W8,TA,tc,OA,oc,hq,_,_,e⟩
  exact ⟨W8,_,_,_,_,_,hq,e⟩
 have zJ:=jZ yV; clear yV
 refine al (Sw 23 (fun W9=>Below W3.heap.size W3 W9) D1) (fun i w1 w2=>i ∉ [23]→Below w1.heap.size w1 w2) kZ kZ kZ (Sw.start jB.drew) ?_
 simp only [ax,Act.put,sA,gs0,gs1,Nat.zero_add,Nat.reduceAdd]
 refine aa _ (vb0C5 P) ?_
 refine aa _ vb0 ?_
 refine aa _ (vb1c1 1 yH 1) ?_
 refine aa _ vb0 ?_
 refine aa _ (vb1c1 3 yH 3) ?_
 refine aa _ (vb0C5 P) ?_
 refine aa _ vb0 ?_
 refine aa _ (vb1c1 6 yH 1) ?_
 refine aa _ vb0 ?_
 refine aa _ (vb1c1 8 yH 3) ?_
 apply aa
 case h1 =>
  intro vs L9 w9 wK wI hB K9 wJ
  replace wI:=sb wI wK
  have d5:=fe hB 5
  have d7:=fe hB 7
  have d9:=fe hB 9
  simp only [d5,d7,d9] at wJ ⊢
  simp only [Act.put,sA,gs0,gs1] at wJ
  go_simp
  refine (show Calls _ _ _ _ (fun e w'=>e=.returned (O U m)∧Below w9.heap.size w9 w') from by rw [← HM.out]; exact wE st va (show fh w9 w.heap.size (⟨x.t,aM st pe 0 x.o,x.gt,x.sd,x.ms⟩ : Oc) _ from ⟨TA,tc,OA,oc,rfl,ac xR wI,ac xp wI⟩)).mono ?_
  rintro en w8 ⟨rfl,wL⟩
  exact wJ _ _ rfl (Sw.stay wK kZ dD (wI.trans (wL.mono wI.size))) (fun _=>wL)
 refine aa _ vb0 ?_
 apply aa
 case h1 =>
  intro vs L9 w9 wK wI hB K9 wJ
  replace wI:=sb wI wK
  have d10:=fe hB 10
  have d11:=fe hB 11
  simp only [d10,d11] at wJ ⊢
  have i3:IntKind.i64.wrap (m+n)=m+n:=IntWalk.i64_in _ oM
  simp only [Act.put,sA,gs0,gs1] at wJ
  go_simp
  exact wJ _ _ rfl (sy wK wI) bR
 refine af [23] (fun v w9=>fh w9 w.heap.size (⟨x.t,aM st va (m+n) (aM st pe 0 x.o),x.gt,x.sd,x.ms⟩ : Oc) v) ?sv13 (fun vs L9 w9 wK wI hB K9 wJ=>?hv13) ?rv13
 case sv13 =>
  intro i9 xG hb9 ha9 v w1 w2 hv xj
  have hb:=xj (fun hm=>by
   simp only [mC,mN,oF] at hm hb9
   subst hm
   ·exact hb9 sP)
  exact hv.below hb
 case hv13 =>
  replace wI:=sb wI wK
  have d0:=fe hB 0
  have d2:=fe hB 2
  have d4:=fe hB 4
  have d12:=fe hB 12
  simp only [d0,d2,d4,d12] at wJ ⊢
  simp only [Act.put,sA,gs0,gs1] at wJ
  have yU:w.heap.size≤W3.heap.size:=b5.size
  go_simp
  refine (wD st va (m+n) (show fh w9 w.heap.size (⟨x.t,aM st pe 0 x.o,x.gt,x.sd,x.ms⟩ : Oc) _ from ⟨TA,tc,OA,oc,rfl,ac xR wI,ac xp wI⟩) S1 xl zx).mono ?_
  rintro en w8 ⟨v8,rfl,Ch,wL⟩
  exact wJ _ _ _ rfl (Ch.lower (jT yU wI.size)) (Sw.stay wK kZ dD (wI.trans (wL.mono wI.size))) (fun _=>wL)
 refine aa _ vb0 ?_
 refine aa (.bool b) (fun vs L9 w9 wK wI hB K9 wJ=>?hv15) ?rv15
 case hv15 =>
  replace wI:=sb wI wK
  have d14:=fe hB 14
  simp only [d14] at wJ ⊢
  go_simp
  rw [DC.out]
  exact wJ _ _ rfl (sy wK wI) bR
 refine aa _ (vb1 15) ?_
 refine af [] (fun v _=>b=true→v=.pointer (some ⟨w.heap.size+1,3,none⟩)) ?sv17 (fun vs L9 w9 wK wI hB K9 wJ=>?hv17) ?rv17
 case sv17 =>
  intro i9 xG hb9 ha9 v w1 w2 hv xj
  exact hv
 case hv17 =>
  have zg:=jZ wI
  have dg:=fe hB 16
  simp only [dg] at wJ ⊢
  clear wI
  cases b with
  | false =>
   go_simp
   exact wJ _ undef _ rfl (fun hq=>by cases hq) (Sw.both dD (fun h=>h) (fun h=>h) zg.out) bR
  | true =>
   go_simp
   exact wJ _ _ _ rfl (fun _=>rfl) (Sw.both dD (fun h=>h) (fun h=>h) zg.out) bR
 refine af [] (fun v _=>b=true→v=O U va) ?sv18 (fun vs L9 w9 wK wI hB K9 wJ=>?hv18) ?rv18
 case sv18 =>
  intro i9 xG hb9 ha9 v w1 w2 hv xj
  exact hv
 case hv18 =>
  have zg:=jZ wI
  have dg:=fe hB 16
  simp only [dg] at wJ ⊢
  have q0:w9.cell? ⟨w.heap.size+1,3,none⟩=some (O U va):=(wI.lies CV yH oM).cell 3
  clear wI
  cases b with
  | false =>
   go_simp
   exact wJ _ undef _ rfl (fun hq=>by cases hq) (Sw.both dD (fun h=>h) (fun h=>h) zg.out) bR
  | true =>
   have d17:=hB 17 _ kZ kZ rfl dD rfl
   simp only [d17] at wJ ⊢
   go_simp
   exact wJ _ _ _ rfl (fun _=>rfl) (Sw.both dD (fun h=>h) (fun h=>h) zg.out) bR
 refine af [] (fun v _=>b=true→v=.pointer (some ⟨w.heap.size+1,2,none⟩)) ?sv19 (fun vs L9 w9 wK wI hB K9 wJ=>?hv19) ?rv19
 case sv19 =>
  intro i9 xG hb9 ha9 v w1 w2 hv xj
  exact hv
 case hv19 =>
  have zg:=jZ wI
  have dg:=fe hB 16
  simp only [dg] at wJ ⊢
  clear wI
  cases b with
  | false =>
   go_simp
   exact wJ _ undef _ rfl (fun hq=>by cases hq) (Sw.both dD (fun h=>h) (fun h=>h) zg.out) bR
  | true =>
   go_simp
   exact wJ _ _ _ rfl (fun _=>rfl) (Sw.both dD (fun h=>h) (fun h=>h) zg.out) bR
 refine af [] (fun v _=>b=true→v=O U pe) ?sv20 (fun vs L9 w9 wK wI hB K9 wJ=>?hv20) ?rv20
 case sv20 =>
  intro i9 xG hb9 ha9 v w1 w2 hv xj
  exact hv
 case hv20 =>
  have zg:=jZ wI
  have dg:=fe hB 16
  simp only [dg] at wJ ⊢
  have q0:w9.cell? ⟨w.heap.size+1,2,none⟩=some (O U pe):=(wI.lies CV yH oM).cell 2
  clear wI
  cases b with
  | false =>
   go_simp
   exact wJ _ undef _ rfl (fun hq=>by cases hq) (Sw.both dD (fun h=>h) (fun h=>h) zg.out) bR
  | true =>
   have d19:=hB 19 _ kZ kZ rfl dD rfl
   simp only [d19] at wJ ⊢
   go_simp
   exact wJ _ _ _ rfl (fun _=>rfl) (Sw.both dD (fun h=>h) (fun h=>h) zg.out) bR
 refine af [] (fun v _=>b=true→v=.bool (va != pe)) ?sv21 (fun vs L9 w9 wK wI hB K9 wJ=>?hv21) ?rv21
 case sv21 =>
  intro i9 xG hb9 ha9 v w1 w2 hv xj
  exact hv
 case hv21 =>
  have zg:=jZ wI
  have dg:=fe hB 16
  simp only [dg] at wJ ⊢
  clear wI
  cases b with
  | false =>
   go_simp
   exact wJ _ undef _ rfl (fun hq=>by cases hq) (Sw.both dD (fun h=>h) (fun h=>h) zg.out) bR
  | true =>
   have d18:=hB 18 _ kZ kZ rfl dD rfl
   have d20:=hB 20 _ kZ kZ rfl dD rfl
   simp only [d18,d20] at wJ ⊢
   go_simp
   exact wJ _ _ _ rfl (fun _=>rfl) (Sw.both dD (fun h=>h) (fun h=>h) zg.out) bR
 refine aa (.bool (b && (va != pe))) (fun vs L9 w9 wK wI hB K9 wJ=>?hv22) ?rv22
 case hv22 =>
  have d16:=fe hB 16
  simp only [d16] at wJ ⊢
  have zg:=jZ wI
  clear wI
  cases b with
  | false =>
   go_simp
   exact wJ _ _ rfl (Sw.both dD (fun h=>h) (fun h=>h) zg.out) bR
  | true =>
   have d21:=hB 21 _ kZ kZ rfl dD rfl
   simp only [d21] at wJ ⊢
   go_simp
   exact wJ _ _ rfl (Sw.both dD (fun h=>h) (fun h=>h) zg.out) bR
 refine aa (undef) (fun vs L9 w9 wK wI hB K9 wJ=>?hv23) ?rv23
 case hv23 =>
  replace wI:=wI.here wK
  obtain ⟨TA,tc,OA,oc,e15,h1,h2⟩:=fs hB 13
  simp only [e15] at wJ ⊢
  have Lr:=y8.below wI y8.lt
  obtain ⟨z0,z1,z2,z3,z4⟩:=cells5 Lr
  obtain ⟨f0,f1,f2,f3,f4⟩:=frz5 Lr
  have h1:=jZ h1
  have h2:=jZ h2
  clear Lr
  go_simp
  exact wJ _ _ rfl (Sw.turn (by rw [zJ.out]; exact ⟨w9,TA,tc,OA,oc,wI,h1.out,h2.out,rfl⟩)) nq
 refine aa _ (va1 22) ?_
 refine ar fun vs L9 w9 wS wI hB=>?_
 replace wI:=wI.done wS dD
 have dl:=ag.eq (hB 24 _ rfl rfl dD)
 simp only [dl]
 clear hB dl
 rw [zJ.out] at wI
 obtain ⟨W8,TA,tc,OA,oc,wL,h1,h2,rfl⟩:=wI
 have Lr:=y8.below wL y8.lt
 have bz:=(b5.trans (wL.mono b5.size)).trans (cj (v0:=F TA ((⟨x.t,aM st va (m+n) (aM st pe 0 x.o),x.gt,x.sd,x.ms⟩ : Oc)).t.length tc) (v1:=F OA ((⟨x.t,aM st va (m+n) (aM st pe 0 x.o),x.gt,x.sd,x.ms⟩ : Oc)).o.length oc) (v2:=O U ((⟨x.t,aM st va (m+n) (aM st pe 0 x.o),x.gt,x.sd,x.ms⟩ : Oc)).gt) (v3:=O U ((⟨x.t,aM st va (m+n) (aM st pe 0 x.o),x.gt,x.sd,x.ms⟩ : Oc)).sd) (v4:=O U ((⟨x.t,aM st va (m+n) (aM st pe 0 x.o),x.gt,x.sd,x.ms⟩ : Oc)).ms) Lr (show w.heap.size≤(w.heap.size+1+1) by omega))
 have HT:=jZ (aR (v0:=F TA ((⟨x.t,aM st va (m+n) (aM st pe 0 x.o),x.gt,x.sd,x.ms⟩ : Oc)).t.length tc) (v1:=F OA ((⟨x.t,aM st va (m+n) (aM st pe 0 x.o),x.gt,x.sd,x.ms⟩ : Oc)).o.length oc) (v2:=O U ((⟨x.t,aM st va (m+n) (aM st pe 0 x.o),x.gt,x.sd,x.ms⟩ : Oc)).gt) (v3:=O U ((⟨x.t,aM st va (m+n) (aM st pe 0 x.o),x.gt,x.sd,x.ms⟩ : Oc)).sd) (v4:=O U ((⟨x.t,aM st va (m+n) (aM st pe 0 x.o),x.gt,x.sd,x.ms⟩ : Oc)).ms) Lr h1 cd)
 have HO:=jZ (aR (v0:=F TA ((⟨x.t,aM st va (m+n) (aM st pe 0 x.o),x.gt,x.sd,x.ms⟩ : Oc)).t.length tc) (v1:=F OA ((⟨x.t,aM st va (m+n) (aM st pe 0 x.o),x.gt,x.sd,x.ms⟩ : Oc)).o.length oc) (v2:=O U ((⟨x.t,aM st va (m+n) (aM st pe 0 x.o),x.gt,x.sd,x.ms⟩ : Oc)).gt) (v3:=O U ((⟨x.t,aM st va (m+n) (aM st pe 0 x.o),x.gt,x.sd,x.ms⟩ : Oc)).sd) (v4:=O U ((⟨x.t,aM st va (m+n) (aM st pe 0 x.o),x.gt,x.sd,x.ms⟩ : Oc)).ms) Lr h2 ci)
 have PR:=eD (v0:=F TA ((⟨x.t,aM st va (m+n) (aM st pe 0 x.o),x.gt,x.sd,x.ms⟩ : Oc)).t.length tc) (v1:=F OA ((⟨x.t,aM st va (m+n) (aM st pe 0 x.o),x.gt,x.sd,x.ms⟩ : Oc)).o.length oc) (v2:=O U ((⟨x.t,aM st va (m+n) (aM st pe 0 x.o),x.gt,x.sd,x.ms⟩ : Oc)).gt) (v3:=O U ((⟨x.t,aM st va (m+n) (aM st pe 0 x.o),x.gt,x.sd,x.ms⟩ : Oc)).sd) (v4:=O U ((⟨x.t,aM st va (m+n) (aM st pe 0 x.o),x.gt,x.sd,x.ms⟩ : Oc)).ms) Lr
 generalize dq W8 (w.heap.size+1+1) (F TA ((⟨x.t,aM st va (m+n) (aM st pe 0 x.o),x.gt,x.sd,x.ms⟩ : Oc)).t.length tc) (F OA ((⟨x.t,aM st va (m+n) (aM st pe 0 x.o),x.gt,x.sd,x.ms⟩ : Oc)).o.length oc) (O U ((⟨x.t,aM st va (m+n) (aM st pe 0 x.o),x.gt,x.sd,x.ms⟩ : Oc)).gt) (O U ((⟨x.t,aM st va (m+n) (aM st pe 0 x.o),x.gt,x.sd,x.ms⟩ : Oc)).sd) (O U ((⟨x.t,aM st va (m+n) (aM st pe 0 x.o),x.gt,x.sd,x.ms⟩ : Oc)).ms)=W9 at bz HT HO PR ⊢
 obtain ⟨k0,k1,k2,k3,k4⟩:=cells5 PR
 clear h1 h2 Lr wL wS PR
 go_wp2
 refine bodyPost_ret (v:=.tuple #[.agg #[F TA ((⟨x.t,aM st va (m+n) (aM st pe 0 x.o),x.gt,x.sd,x.ms⟩ : Oc)).t.length tc,F OA ((⟨x.t,aM st va (m+n) (aM st pe 0 x.o),x.gt,x.sd,x.ms⟩ : Oc)).o.length oc,O U ((⟨x.t,aM st va (m+n) (aM st pe 0 x.o),x.gt,x.sd,x.ms⟩ : Oc)).gt,O U ((⟨x.t,aM st va (m+n) (aM st pe 0 x.o),x.gt,x.sd,x.ms⟩ : Oc)).sd,O U ((⟨x.t,aM st va (m+n) (aM st pe 0 x.o),x.gt,x.sd,x.ms⟩ : Oc)).ms],.bool (b && (va != pe))]) (by simp [results,Tryz.results175,go_sem, *]) rfl ?_
 rw [show (decide (0 < n) && !decide (va=pe))=(b && (va != pe)) from by rw [DC.out]; congr 1]
 exact ⟨TA,tc,OA,oc,rfl,HT.out,HO.out,bz⟩
end Go.Proofs.YtoeoimhemojdeaaGreatDoor
