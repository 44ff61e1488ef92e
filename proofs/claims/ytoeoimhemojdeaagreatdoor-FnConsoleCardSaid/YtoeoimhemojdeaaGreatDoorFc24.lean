/- Lemmas. -/
import Derived.Test.YtoeoimhemojdeaaGreatDoorFc20

set_option linter.unusedVariables false
set_option linter.unusedSimpArgs false
set_option maxHeartbeats 8000000
open Go.Value renaming int → O, slice → F, string → vw
open Go.IntKind renaming i64 → U
open Go.Proofs.Tryz renaming prog → vx

namespace Go.Proofs.YtoeoimhemojdeaaGreatDoor
open Go.RowKit
set_option maxRecDepth 100000 in
theorem qd (x:aO) (st pe va:Int) (w:World) (h:aP w w.heap.size x) (G:bH x) (vM:x.t.length≤x.tc) (vX:1≤st∧st≤99) (wV:1≤pe∧pe≤999) (yo:1≤va∧va≤9999) :
  Calls vx 175 #[x.val,.agg #[O U 4,O U st,O U pe,O U va]] w (dp w ((⟨x.t,aL st pe (aN st pe x.o - va) x.o,x.gt,x.sd+va,x.ms⟩ : Oc),decide (va≤aN st pe x.o))):=by
 have L1:=((ah.new w 40 #[F x.TA x.t.length x.tc,F x.OA x.o.length x.oc,O U x.gt,O U x.sd,O U x.ms]).alloc (.cells #[O U 4,O U st,O U pe,O U va] 112)).alloc (.cells #[F none 0 0,F none 0 0,O U 0,O U 0,O U 0] 40)
 have L2:=(ah.new1 w (.cells #[F x.TA x.t.length x.tc,F x.OA x.o.length x.oc,O U x.gt,O U x.sd,O U x.ms] 40) 112 #[O U 4,O U st,O U pe,O U va]).alloc (.cells #[F none 0 0,F none 0 0,O U 0,O U 0,O U 0] 40)
 have L3:=ah.new2 w (.cells #[F x.TA x.t.length x.tc,F x.OA x.o.length x.oc,O U x.gt,O U x.sd,O U x.ms] 40) (.cells #[O U 4,O U st,O U pe,O U va] 112) 40 #[F none 0 0,F none 0 0,O U 0,O U 0,O U 0]
 have b1:=bZ w (.cells #[F x.TA x.t.length x.tc,F x.OA x.o.length x.oc,O U x.gt,O U x.sd,O U x.ms] 40)
 have b2:=b1.alloc b1.size (.cells #[O U 4,O U st,O U pe,O U va] 112)
 have b3:=b2.alloc b2.size (.cells #[F none 0 0,F none 0 0,O U 0,O U 0,O U 0] 40)
 have Sx:=G.small
 have Cs:=G.tl
 have Ct:=G.ol
 have y6:=G.tcs
 obtain ⟨m1,m2⟩:=G.m
 obtain ⟨g1,g2⟩:=G.s
 obtain ⟨n1,n2⟩:=G.at_bd st pe
 obtain ⟨n,hn⟩ : ∃ n,aN st pe x.o=n:=⟨_,rfl⟩
 rw [hn] at n1 n2 ⊢
 clear b1 b2 G
 go_enter Tryz.func175,Tryz.ntmps175
 go_wp2_with fail
 generalize (((w.alloc (.cells #[F x.TA x.t.length x.tc,F x.OA x.o.length x.oc,O U x.gt,O U x.sd,O U x.ms] 40)).alloc (.cells #[O U 4,O U st,O U pe,O U va] 112)).alloc (.cells #[F none 0 0,F none 0 0,O U 0,O U 0,O U 0] 40))=W at L1 L2 L3 b3 ⊢
 have hR:=h.up b3 nR
 refine (gm x st pe W hR).mono ?_
 rintro e W1 ⟨rfl,vD⟩
 rw [hn]
 have xB:=hR.then vD
 have wq:=L1.below vD L1.lt
 have wi:=L2.below vD L2.lt
 have wF:=L3.below vD L3.lt
 have b4:=b3.trans (vD.mono b3.size)
 have xO:w.heap.size≤W1.heap.size:=b4.size
 have hn:=jZ hn
 clear L1 L2 L3 b3 vD hR h
 obtain ⟨c0,c1,c2,c3,c4⟩:=cells5 wq
 obtain ⟨s0,s1,s2,s3⟩:=cells4 wi
 obtain ⟨v1,v2⟩:=yo
 have i3:IntKind.i64.wrap (n - va)=n - va:=IntWalk.i64_in _ oM
 have i4:IntKind.i64.wrap (x.sd+va)=x.sd+va:=IntWalk.i64_in _ oM
 go_wp2_with fail
 refine (vj x st pe (n - va) W1 xB Sx vX wV).mono ?_
 rintro e W2 ⟨v2,rfl,⟨TA,tc,OA,oc,wj,hT,hO⟩,vC⟩
 have wj:v2=.agg #[F TA x.t.length tc,F OA (aL st pe (n - va) x.o).length oc,O U x.gt,O U x.sd,O U x.ms]:=wj
 subst wj
 simp only at hT hO
 have vE:=(Below.refl W2.heap.size W2).alloc nR (.cells #[F TA x.t.length tc,F OA (aL st pe (n - va) x.o).length oc,O U x.gt,O U x.sd,O U x.ms] 40)
 have xE:=(wq.below vC wq.lt).below vE (jL wq.lt vC.size)
 have xF:=(wi.below vC wi.lt).below vE (jL wi.lt vC.size)
 have xU:=(wF.below vC wF.lt).below vE (jL wF.lt vC.size)
 have P:=ah.new W2 40 #[F TA x.t.length tc,F OA (aL st pe (n - va) x.o).length oc,O U x.gt,O U x.sd,O U x.ms]
 have wJ:=ai (ac hT vE) xO
 have wa:=ai (ac hO vE) xO
 have b5:=b4.trans ((av vC vE).mono b4.size)
 have zM:=(xB.then vC).then vE
 have wW:w.heap.size+1+1 < W2.heap.size:=jL wF.lt vC.size
 clear c0 c1 c2 c3 c4 s0 s1 s2 s3
 obtain ⟨W3,wE⟩ : ∃ W3,W2.alloc (.cells #[F TA x.t.length tc,F OA (aL st pe (n - va) x.o).length oc,O U x.gt,O U x.sd,O U x.ms] 40)=W3:=⟨_,rfl⟩
 rw [wE] at xE xF xU P wJ wa b5 zM
 generalize wK:W2.heap.size=g2 at P wW
 obtain ⟨c0,c1,c2,c3,c4⟩:=cells5 xE
 obtain ⟨s0,s1,s2,s3⟩:=cells4 xF
 obtain ⟨p0,p1,p2,p3,p4⟩:=cells5 P
 obtain ⟨pf0,pf1,pf2,pf3,pf4⟩:=frz5 P
 have P4:=P.set 3 (O U (x.sd+va))
 have xj:=xE.other (p:=⟨g2,3,none⟩) (by simp; omega) (O U (x.sd+va))
 have xK:=xF.other (p:=⟨g2,3,none⟩) (by simp; omega) (O U (x.sd+va))
 have xp:=xU.other (p:=⟨g2,3,none⟩) (by simp; omega) (O U (x.sd+va))
 have wh:=am wJ P bX 3 (O U (x.sd+va))
 have vZ:=am wa P ce 3 (O U (x.sd+va))
 have b6:=b5.setCell (p:=⟨g2,3,none⟩) (show w.heap.size≤g2 by omega) (O U (x.sd+va))
 simp only [List.set_cons_zero,List.set_cons_succ] at P4
 obtain ⟨W4,wP⟩ : ∃ W4,W3.setCell ⟨g2,3,none⟩ (O U (x.sd+va))=W4:=⟨_,rfl⟩
 rw [wP] at P4 xj xK xp wh vZ b6
 clear zM vC vE hT hO wq wi wF b4 xB
 go_wp2_with (first | (rw [wE]; clear wE; rw [wK]) | (rw [wP]; clear wP))
 clear c0 c1 c2 c3 c4 s0 s1 s2 s3 p0 p1 p2 p3 p4 pf0 pf1 pf2 pf3 pf4
 obtain ⟨D1,xP⟩ : ∃ D:World→Prop,D=(fun W9=>∃ W8 TA tc OA oc,Below W4.heap.size W4 W8∧W8.ownsRow w.heap.size 104 2 (F TA ((⟨x.t,aL st pe (n - va) x.o,x.gt,x.sd+va,x.ms⟩ : Oc)).t.length tc) ((⟨x.t,aL st pe (n - va) x.o,x.gt,x.sd+va,x.ms⟩ : Oc)).t.length (((⟨x.t,aL st pe (n - va) x.o,x.gt,x.sd+va,x.ms⟩ : Oc)).t.flatMap aq.enc)∧W8.ownsRow w.heap.size 147 3 (F OA ((⟨x.t,aL st pe (n - va) x.o,x.gt,x.sd+va,x.ms⟩ : Oc)).o.length oc) ((⟨x.t,aL st pe (n - va) x.o,x.gt,x.sd+va,x.ms⟩ : Oc)).o.length (((⟨x.t,aL st pe (n - va) x.o,x.gt,x.sd+va,x.ms⟩ : Oc)).o.flatMap ae.enc)∧W9=dh W8 (w.heap.size+1+1) (F TA ((⟨x.t,aL st pe (n - va) x.o,x.gt,x.sd+va,x.ms⟩ : Oc)).t.length tc) (F OA ((⟨x.t,aL st pe (n - va) x.o,x.gt,x.sd+va,x.ms⟩ : Oc)).o.length oc) (O U ((⟨x.t,aL st pe (n - va) x.o,x.gt,x.sd+va,x.ms⟩ : Oc)).gt) (O U ((⟨x.t,aL st pe (n - va) x.o,x.gt,x.sd+va,x.ms⟩ : Oc)).sd) (O U ((⟨x.t,aL st pe (n - va) x.o,x.gt,x.sd+va,x.ms⟩ : Oc)).ms)):=⟨_,rfl⟩
 have Bv:∀ W,D1 W→∃ W8 v0 v1 v2 v3 v4,Below W4.heap.size W4 W8∧W=dh W8 (w.heap.size+1+1) v0 v1 v2 v3 v4:=by
  rw [xP]
  rintro _ ⟨W8,TA,tc,OA,oc,hq,_,_,e⟩
  exact ⟨W8,_,_,_,_,_,hq,e⟩
 have yA:=jZ xP; clear xP
 refine al (Sw 5 (fun W9=>Below W4.heap.size W4 W9) D1) (fun i w1 w2=>i ∉ [5]→Below w1.heap.size w1 w2) kZ kZ kZ (Sw.start jB.drew) ?_
 simp only [aw,Act.put,sA,gs0,gs1,Nat.zero_add,Nat.reduceAdd]
 refine aa _ (vb0C5 P4) ?_
 refine aa _ vo0 ?_
 refine aa _ vo0 ?_
 apply aa
 case h1 =>
  intro vs L9 w9 vA vy hB K9 vz
  have d2:=fe hB 2
  simp only [d2] at vz ⊢
  have q0:w9.cell? ⟨(w.heap.size+1),3,none⟩=some (O U va):=(vy.lies Bv xK oM).cell 3
  simp only [Act.put,sA,gs0,gs1] at vz
  have xY:=jZ vy
  clear vy
  go_simp
  exact vz _ _ rfl (Sw.both dD (fun h=>h) (fun h=>h) xY.out) bR
 refine aa _ (vo2 1 3) ?_
 refine aa (undef) (fun vs L9 w9 vA vy hB K9 vz=>?hl5) ?rl5
 case hl5 =>
  replace vy:=vy.here vA
  have d0:=fe hB 0
  simp only [d0] at vz ⊢
  have Lr:=xp.below vy xp.lt
  obtain ⟨z0,z1,z2,z3,z4⟩:=cells5 Lr
  obtain ⟨f0,f1,f2,f3,f4⟩:=frz5 Lr
  clear Lr
  go_simp
  exact vz _ _ rfl (Sw.turn (by rw [yA.out]; exact ⟨w9,TA,tc,OA,oc,vy,ac wh vy,ac vZ vy,rfl⟩)) nq
 refine aa _ (va1 4) ?_
 refine au fun vs L9 w9 vI vy hB=>?_
 replace vy:=vy.done vI dD
 have dl:=ag.eq (hB 6 _ rfl rfl dD)
 simp only [dl]
 clear hB dl
 rw [yA.out] at vy
 obtain ⟨W8,TA,tc,OA,oc,vB,h1,h2,rfl⟩:=vy
 have Lr:=xp.below vB xp.lt
 have bz:=(b6.trans (vB.mono b6.size)).trans (cg (v0:=F TA ((⟨x.t,aL st pe (n - va) x.o,x.gt,x.sd+va,x.ms⟩ : Oc)).t.length tc) (v1:=F OA ((⟨x.t,aL st pe (n - va) x.o,x.gt,x.sd+va,x.ms⟩ : Oc)).o.length oc) (v2:=O U ((⟨x.t,aL st pe (n - va) x.o,x.gt,x.sd+va,x.ms⟩ : Oc)).gt) (v3:=O U ((⟨x.t,aL st pe (n - va) x.o,x.gt,x.sd+va,x.ms⟩ : Oc)).sd) (v4:=O U ((⟨x.t,aL st pe (n - va) x.o,x.gt,x.sd+va,x.ms⟩ : Oc)).ms) Lr (show w.heap.size≤(w.heap.size+1+1) by omega))
 have HT:=jZ (aR (v0:=F TA ((⟨x.t,aL st pe (n - va) x.o,x.gt,x.sd+va,x.ms⟩ : Oc)).t.length tc) (v1:=F OA ((⟨x.t,aL st pe (n - va) x.o,x.gt,x.sd+va,x.ms⟩ : Oc)).o.length oc) (v2:=O U ((⟨x.t,aL st pe (n - va) x.o,x.gt,x.sd+va,x.ms⟩ : Oc)).gt) (v3:=O U ((⟨x.t,aL st pe (n - va) x.o,x.gt,x.sd+va,x.ms⟩ : Oc)).sd) (v4:=O U ((⟨x.t,aL st pe (n - va) x.o,x.gt,x.sd+va,x.ms⟩ : Oc)).ms) Lr h1 bX)
 have HO:=jZ (aR (v0:=F TA ((⟨x.t,aL st pe (n - va) x.o,x.gt,x.sd+va,x.ms⟩ : Oc)).t.length tc) (v1:=F OA ((⟨x.t,aL st pe (n - va) x.o,x.gt,x.sd+va,x.ms⟩ : Oc)).o.length oc) (v2:=O U ((⟨x.t,aL st pe (n - va) x.o,x.gt,x.sd+va,x.ms⟩ : Oc)).gt) (v3:=O U ((⟨x.t,aL st pe (n - va) x.o,x.gt,x.sd+va,x.ms⟩ : Oc)).sd) (v4:=O U ((⟨x.t,aL st pe (n - va) x.o,x.gt,x.sd+va,x.ms⟩ : Oc)).ms) Lr h2 ce)
 have PR:=ex (v0:=F TA ((⟨x.t,aL st pe (n - va) x.o,x.gt,x.sd+va,x.ms⟩ : Oc)).t.length tc) (v1:=F OA ((⟨x.t,aL st pe (n - va) x.o,x.gt,x.sd+va,x.ms⟩ : Oc)).o.length oc) (v2:=O U ((⟨x.t,aL st pe (n - va) x.o,x.gt,x.sd+va,x.ms⟩ : Oc)).gt) (v3:=O U ((⟨x.t,aL st pe (n - va) x.o,x.gt,x.sd+va,x.ms⟩ : Oc)).sd) (v4:=O U ((⟨x.t,aL st pe (n - va) x.o,x.gt,x.sd+va,x.ms⟩ : Oc)).ms) Lr
 generalize dh W8 (w.heap.size+1+1) (F TA ((⟨x.t,aL st pe (n - va) x.o,x.gt,x.sd+va,x.ms⟩ : Oc)).t.length tc) (F OA ((⟨x.t,aL st pe (n - va) x.o,x.gt,x.sd+va,x.ms⟩ : Oc)).o.length oc) (O U ((⟨x.t,aL st pe (n - va) x.o,x.gt,x.sd+va,x.ms⟩ : Oc)).gt) (O U ((⟨x.t,aL st pe (n - va) x.o,x.gt,x.sd+va,x.ms⟩ : Oc)).sd) (O U ((⟨x.t,aL st pe (n - va) x.o,x.gt,x.sd+va,x.ms⟩ : Oc)).ms)=W9 at bz HT HO PR ⊢
 obtain ⟨k0,k1,k2,k3,k4⟩:=cells5 PR
 clear h1 h2 Lr vB vI PR
 go_wp2
 refine bodyPost_ret (v:=.tuple #[.agg #[F TA ((⟨x.t,aL st pe (n - va) x.o,x.gt,x.sd+va,x.ms⟩ : Oc)).t.length tc,F OA ((⟨x.t,aL st pe (n - va) x.o,x.gt,x.sd+va,x.ms⟩ : Oc)).o.length oc,O U ((⟨x.t,aL st pe (n - va) x.o,x.gt,x.sd+va,x.ms⟩ : Oc)).gt,O U ((⟨x.t,aL st pe (n - va) x.o,x.gt,x.sd+va,x.ms⟩ : Oc)).sd,O U ((⟨x.t,aL st pe (n - va) x.o,x.gt,x.sd+va,x.ms⟩ : Oc)).ms],.bool (decide (va≤n))]) (by simp [results,Tryz.results175,go_sem, *]) rfl ?_
 exact ⟨TA,tc,OA,oc,rfl,HT.out,HO.out,bz⟩
end Go.Proofs.YtoeoimhemojdeaaGreatDoor
