/- Lemmas. -/
import Derived.Test.YtoeoimhemojdeaaGreatDoorFs20

set_option linter.unusedVariables false
set_option linter.unusedSimpArgs false
set_option maxHeartbeats 8000000
open Go.Value renaming int → O, slice → F, string → wG
open Go.IntKind renaming i64 → U
open Go.Proofs.Tryz renaming prog → wH

namespace Go.Proofs.YtoeoimhemojdeaaGreatDoor
open Go.RowKit
set_option maxRecDepth 100000 in
theorem qQ (x:aO) (st pe va:Int) (w:World) (h:aQ w w.heap.size x) (G:bK x) (wX:x.t.length≤x.tc) (xl:1≤st∧st≤99) (ya:1≤pe∧pe≤999) (zx:1≤va∧va≤9999) :
  Calls wH 175 #[x.val,.agg #[O U 4,O U st,O U pe,O U va]] w (dz w ((⟨x.t,aM st pe (aP st pe x.o - va) x.o,x.gt,x.sd+va,x.ms⟩ : Oc),decide (va≤aP st pe x.o))):=by
 have L1:=((ai.new w 40 #[F x.TA x.t.length x.tc,F x.OA x.o.length x.oc,O U x.gt,O U x.sd,O U x.ms]).alloc (.cells #[O U 4,O U st,O U pe,O U va] 112)).alloc (.cells #[F none 0 0,F none 0 0,O U 0,O U 0,O U 0] 40)
 have L2:=(ai.new1 w (.cells #[F x.TA x.t.length x.tc,F x.OA x.o.length x.oc,O U x.gt,O U x.sd,O U x.ms] 40) 112 #[O U 4,O U st,O U pe,O U va]).alloc (.cells #[F none 0 0,F none 0 0,O U 0,O U 0,O U 0] 40)
 have L3:=ai.new2 w (.cells #[F x.TA x.t.length x.tc,F x.OA x.o.length x.oc,O U x.gt,O U x.sd,O U x.ms] 40) (.cells #[O U 4,O U st,O U pe,O U va] 112) 40 #[F none 0 0,F none 0 0,O U 0,O U 0,O U 0]
 have b1:=bZ w (.cells #[F x.TA x.t.length x.tc,F x.OA x.o.length x.oc,O U x.gt,O U x.sd,O U x.ms] 40)
 have b2:=b1.alloc b1.size (.cells #[O U 4,O U st,O U pe,O U va] 112)
 have b3:=b2.alloc b2.size (.cells #[F none 0 0,F none 0 0,O U 0,O U 0,O U 0] 40)
 have Sx:=G.small
 have Cf:=G.tl
 have Cg:=G.ol
 have zw:=G.tcs
 obtain ⟨m1,m2⟩:=G.m
 obtain ⟨g1,g2⟩:=G.s
 obtain ⟨n1,n2⟩:=G.at_bd st pe
 obtain ⟨n,hn⟩ : ∃ n,aP st pe x.o=n:=⟨_,rfl⟩
 rw [hn] at n1 n2 ⊢
 clear b1 b2 G
 go_enter Tryz.func175,Tryz.ntmps175
 go_wp2_with fail
 generalize (((w.alloc (.cells #[F x.TA x.t.length x.tc,F x.OA x.o.length x.oc,O U x.gt,O U x.sd,O U x.ms] 40)).alloc (.cells #[O U 4,O U st,O U pe,O U va] 112)).alloc (.cells #[F none 0 0,F none 0 0,O U 0,O U 0,O U 0] 40))=W at L1 L2 L3 b3 ⊢
 have hR:=h.up b3 nR
 refine (gB x st pe W hR).mono ?_
 rintro e W1 ⟨rfl,wN⟩
 rw [hn]
 have xW:=hR.then wN
 have xA:=L1.below wN L1.lt
 have xv:=L2.below wN L2.lt
 have xI:=L3.below wN L3.lt
 have b4:=b3.trans (wN.mono b3.size)
 have yU:w.heap.size≤W1.heap.size:=b4.size
 have hn:=jZ hn
 clear L1 L2 L3 b3 wN hR h
 obtain ⟨c0,c1,c2,c3,c4⟩:=cells5 xA
 obtain ⟨s0,s1,s2,s3⟩:=cells4 xv
 obtain ⟨v1,v2⟩:=zx
 have i3:IntKind.i64.wrap (n - va)=n - va:=IntWalk.i64_in _ oM
 have i4:IntKind.i64.wrap (x.sd+va)=x.sd+va:=IntWalk.i64_in _ oM
 go_wp2_with fail
 refine (wq x st pe (n - va) W1 xW Sx xl ya).mono ?_
 rintro e W2 ⟨v2,rfl,⟨TA,tc,OA,oc,xw,hT,hO⟩,wM⟩
 have xw:v2=.agg #[F TA x.t.length tc,F OA (aM st pe (n - va) x.o).length oc,O U x.gt,O U x.sd,O U x.ms]:=xw
 subst xw
 simp only at hT hO
 have wO:=(Below.refl W2.heap.size W2).alloc nR (.cells #[F TA x.t.length tc,F OA (aM st pe (n - va) x.o).length oc,O U x.gt,O U x.sd,O U x.ms] 40)
 have yG:=(xA.below wM xA.lt).below wO (jL xA.lt wM.size)
 have yH:=(xv.below wM xv.lt).below wO (jL xv.lt wM.size)
 have y8:=(xI.below wM xI.lt).below wO (jL xI.lt wM.size)
 have P:=ai.new W2 40 #[F TA x.t.length tc,F OA (aM st pe (n - va) x.o).length oc,O U x.gt,O U x.sd,O U x.ms]
 have xR:=ah (ac hT wO) yU
 have xp:=ah (ac hO wO) yU
 have b5:=b4.trans ((av wM wO).mono b4.size)
 have Ba:=(xW.then wM).then wO
 have yb:w.heap.size+1+1 < W2.heap.size:=jL xI.lt wM.size
 clear c0 c1 c2 c3 c4 s0 s1 s2 s3
 obtain ⟨W3,xH⟩ : ∃ W3,W2.alloc (.cells #[F TA x.t.length tc,F OA (aM st pe (n - va) x.o).length oc,O U x.gt,O U x.sd,O U x.ms] 40)=W3:=⟨_,rfl⟩
 rw [xH] at yG yH y8 P xR xp b5 Ba
 generalize xL:W2.heap.size=g2 at P yb
 obtain ⟨c0,c1,c2,c3,c4⟩:=cells5 yG
 obtain ⟨s0,s1,s2,s3⟩:=cells4 yH
 obtain ⟨p0,p1,p2,p3,p4⟩:=cells5 P
 obtain ⟨pf0,pf1,pf2,pf3,pf4⟩:=frz5 P
 have P4:=P.set 3 (O U (x.sd+va))
 have yo:=yG.other (p:=⟨g2,3,none⟩) (by simp; omega) (O U (x.sd+va))
 have yR:=yH.other (p:=⟨g2,3,none⟩) (by simp; omega) (O U (x.sd+va))
 have yv:=y8.other (p:=⟨g2,3,none⟩) (by simp; omega) (O U (x.sd+va))
 have xt:=am xR P cd 3 (O U (x.sd+va))
 have xm:=am xp P ci 3 (O U (x.sd+va))
 have b6:=b5.setCell (p:=⟨g2,3,none⟩) (show w.heap.size≤g2 by omega) (O U (x.sd+va))
 simp only [List.set_cons_zero,List.set_cons_succ] at P4
 obtain ⟨W4,xU⟩ : ∃ W4,W3.setCell ⟨g2,3,none⟩ (O U (x.sd+va))=W4:=⟨_,rfl⟩
 rw [xU] at P4 yo yR yv xt xm b6
 clear Ba wM wO hT hO xA xv xI b4 xW
 go_wp2_with (first | (rw [xH]; clear xH; rw [xL]) | (rw [xU]; clear xU))
 clear c0 c1 c2 c3 c4 s0 s1 s2 s3 p0 p1 p2 p3 p4 pf0 pf1 pf2 pf3 pf4
 obtain ⟨D1,yV⟩ : ∃ D:World→Prop,D=(fun W9=>∃ W8 TA tc OA oc,Below W4.heap.size W4 W8∧W8.ownsRow w.heap.size 104 2 (F TA ((⟨x.t,aM st pe (n - va) x.o,x.gt,x.sd+va,x.ms⟩ : Oc)).t.length tc) ((⟨x.t,aM st pe (n - va) x.o,x.gt,x.sd+va,x.ms⟩ : Oc)).t.length (((⟨x.t,aM st pe (n - va) x.o,x.gt,x.sd+va,x.ms⟩ : Oc)).t.flatMap aq.enc)∧W8.ownsRow w.heap.size 147 3 (F OA ((⟨x.t,aM st pe (n - va) x.o,x.gt,x.sd+va,x.ms⟩ : Oc)).o.length oc) ((⟨x.t,aM st pe (n - va) x.o,x.gt,x.sd+va,x.ms⟩ : Oc)).o.length (((⟨x.t,aM st pe (n - va) x.o,x.gt,x.sd+va,x.ms⟩ : Oc)).o.flatMap ae.enc)∧W9=dq W8 (w.heap.size+1+1) (F TA ((⟨x.t,aM st pe (n - va) x.o,x.gt,x.sd+va,x.ms⟩ : Oc)).t.length tc) (F OA ((⟨x.t,aM st pe (n - va) x.o,x.gt,x.sd+va,x.ms⟩ : Oc)).o.length oc) (O U ((⟨x.t,aM st pe (n - va) x.o,x.gt,x.sd+va,x.ms⟩ : Oc)).gt) (O U ((⟨x.t,aM st pe (n - va) x.o,x.gt,x.sd+va,x.ms⟩ : Oc)).sd) (O U ((⟨x.t,aM st pe (n - va) x.o,x.gt,x.sd+va,x.ms⟩ : Oc)).ms)):=⟨_,rfl⟩
 have CV:∀ W,D1 W→∃ W8 v0 v1 v2 v3 v4,Below W4.heap.size W4 W8∧W=dq W8 (w.heap.size+1+1) v0 v1 v2 v3 v4:=by
  rw [yV]
  rintro _ ⟨W8,TA,tc,OA,oc,hq,_,_,e⟩
  exact ⟨W8,_,_,_,_,_,hq,e⟩
 have zJ:=jZ yV; clear yV
 refine al (Sw 5 (fun W9=>Below W4.heap.size W4 W9) D1) (fun i w1 w2=>i ∉ [5]→Below w1.heap.size w1 w2) kZ kZ kZ (Sw.start jB.drew) ?_
 simp only [ax,Act.put,sA,gs0,gs1,Nat.zero_add,Nat.reduceAdd]
 refine aa _ (vb0C5 P4) ?_
 refine aa _ vo0 ?_
 refine aa _ vo0 ?_
 apply aa
 case h1 =>
  intro vs L9 w9 wK wI hB K9 wJ
  have d2:=fe hB 2
  simp only [d2] at wJ ⊢
  have q0:w9.cell? ⟨(w.heap.size+1),3,none⟩=some (O U va):=(wI.lies CV yR oM).cell 3
  simp only [Act.put,sA,gs0,gs1] at wJ
  have zg:=jZ wI
  clear wI
  go_simp
  exact wJ _ _ rfl (Sw.both dD (fun h=>h) (fun h=>h) zg.out) bR
 refine aa _ (vo2 1 3) ?_
 refine aa (undef) (fun vs L9 w9 wK wI hB K9 wJ=>?hl5) ?rl5
 case hl5 =>
  replace wI:=wI.here wK
  have d0:=fe hB 0
  simp only [d0] at wJ ⊢
  have Lr:=yv.below wI yv.lt
  obtain ⟨z0,z1,z2,z3,z4⟩:=cells5 Lr
  obtain ⟨f0,f1,f2,f3,f4⟩:=frz5 Lr
  clear Lr
  go_simp
  exact wJ _ _ rfl (Sw.turn (by rw [zJ.out]; exact ⟨w9,TA,tc,OA,oc,wI,ac xt wI,ac xm wI,rfl⟩)) nq
 refine aa _ (va1 4) ?_
 refine ar fun vs L9 w9 wS wI hB=>?_
 replace wI:=wI.done wS dD
 have dl:=ag.eq (hB 6 _ rfl rfl dD)
 simp only [dl]
 clear hB dl
 rw [zJ.out] at wI
 obtain ⟨W8,TA,tc,OA,oc,wL,h1,h2,rfl⟩:=wI
 have Lr:=yv.below wL yv.lt
 have bz:=(b6.trans (wL.mono b6.size)).trans (cj (v0:=F TA ((⟨x.t,aM st pe (n - va) x.o,x.gt,x.sd+va,x.ms⟩ : Oc)).t.length tc) (v1:=F OA ((⟨x.t,aM st pe (n - va) x.o,x.gt,x.sd+va,x.ms⟩ : Oc)).o.length oc) (v2:=O U ((⟨x.t,aM st pe (n - va) x.o,x.gt,x.sd+va,x.ms⟩ : Oc)).gt) (v3:=O U ((⟨x.t,aM st pe (n - va) x.o,x.gt,x.sd+va,x.ms⟩ : Oc)).sd) (v4:=O U ((⟨x.t,aM st pe (n - va) x.o,x.gt,x.sd+va,x.ms⟩ : Oc)).ms) Lr (show w.heap.size≤(w.heap.size+1+1) by omega))
 have HT:=jZ (aR (v0:=F TA ((⟨x.t,aM st pe (n - va) x.o,x.gt,x.sd+va,x.ms⟩ : Oc)).t.length tc) (v1:=F OA ((⟨x.t,aM st pe (n - va) x.o,x.gt,x.sd+va,x.ms⟩ : Oc)).o.length oc) (v2:=O U ((⟨x.t,aM st pe (n - va) x.o,x.gt,x.sd+va,x.ms⟩ : Oc)).gt) (v3:=O U ((⟨x.t,aM st pe (n - va) x.o,x.gt,x.sd+va,x.ms⟩ : Oc)).sd) (v4:=O U ((⟨x.t,aM st pe (n - va) x.o,x.gt,x.sd+va,x.ms⟩ : Oc)).ms) Lr h1 cd)
 have HO:=jZ (aR (v0:=F TA ((⟨x.t,aM st pe (n - va) x.o,x.gt,x.sd+va,x.ms⟩ : Oc)).t.length tc) (v1:=F OA ((⟨x.t,aM st pe (n - va) x.o,x.gt,x.sd+va,x.ms⟩ : Oc)).o.length oc) (v2:=O U ((⟨x.t,aM st pe (n - va) x.o,x.gt,x.sd+va,x.ms⟩ : Oc)).gt) (v3:=O U ((⟨x.t,aM st pe (n - va) x.o,x.gt,x.sd+va,x.ms⟩ : Oc)).sd) (v4:=O U ((⟨x.t,aM st pe (n - va) x.o,x.gt,x.sd+va,x.ms⟩ : Oc)).ms) Lr h2 ci)
 have PR:=eD (v0:=F TA ((⟨x.t,aM st pe (n - va) x.o,x.gt,x.sd+va,x.ms⟩ : Oc)).t.length tc) (v1:=F OA ((⟨x.t,aM st pe (n - va) x.o,x.gt,x.sd+va,x.ms⟩ : Oc)).o.length oc) (v2:=O U ((⟨x.t,aM st pe (n - va) x.o,x.gt,x.sd+va,x.ms⟩ : Oc)).gt) (v3:=O U ((⟨x.t,aM st pe (n - va) x.o,x.gt,x.sd+va,x.ms⟩ : Oc)).sd) (v4:=O U ((⟨x.t,aM st pe (n - va) x.o,x.gt,x.sd+va,x.ms⟩ : Oc)).ms) Lr
 generalize dq W8 (w.heap.size+1+1) (F TA ((⟨x.t,aM st pe (n - va) x.o,x.gt,x.sd+va,x.ms⟩ : Oc)).t.length tc) (F OA ((⟨x.t,aM st pe (n - va) x.o,x.gt,x.sd+va,x.ms⟩ : Oc)).o.length oc) (O U ((⟨x.t,aM st pe (n - va) x.o,x.gt,x.sd+va,x.ms⟩ : Oc)).gt) (O U ((⟨x.t,aM st pe (n - va) x.o,x.gt,x.sd+va,x.ms⟩ : Oc)).sd) (O U ((⟨x.t,aM st pe (n - va) x.o,x.gt,x.sd+va,x.ms⟩ : Oc)).ms)=W9 at bz HT HO PR ⊢
 obtain ⟨k0,k1,k2,k3,k4⟩:=cells5 PR
 clear h1 h2 Lr wL wS PR
 go_wp2
 refine bodyPost_ret (v:=.tuple #[.agg #[F TA ((⟨x.t,aM st pe (n - va) x.o,x.gt,x.sd+va,x.ms⟩ : Oc)).t.length tc,F OA ((⟨x.t,aM st pe (n - va) x.o,x.gt,x.sd+va,x.ms⟩ : Oc)).o.length oc,O U ((⟨x.t,aM st pe (n - va) x.o,x.gt,x.sd+va,x.ms⟩ : Oc)).gt,O U ((⟨x.t,aM st pe (n - va) x.o,x.gt,x.sd+va,x.ms⟩ : Oc)).sd,O U ((⟨x.t,aM st pe (n - va) x.o,x.gt,x.sd+va,x.ms⟩ : Oc)).ms],.bool (decide (va≤n))]) (by simp [results,Tryz.results175,go_sem, *]) rfl ?_
 exact ⟨TA,tc,OA,oc,rfl,HT.out,HO.out,bz⟩
end Go.Proofs.YtoeoimhemojdeaaGreatDoor
