/- Lemmas. -/
import Derived.Test.YtoeoimhemojdeaaGreatDoorFs20

set_option linter.unusedVariables false
set_option linter.unusedSimpArgs false
set_option maxHeartbeats 8000000
open Go.Value renaming int → O, slice → F, string → wG
open Go.IntKind renaming i64 → U
open Go.Proofs.Tryz renaming prog → wH

namespace Go.Proofs.YtoeoimhemojdeaaGreatDoor
open Go.RowKit
set_option maxRecDepth 100000 in
theorem qN (x:aO) (st pe va:Int) (w:World) (h:aQ w w.heap.size x) (G:bK x) (wX:x.t.length≤x.tc) (xl:1≤st∧st≤99) (ya:1≤pe∧pe≤999) (zx:1≤va∧va≤9999) :
  Calls wH 175 #[x.val,.agg #[O U 3,O U st,O U pe,O U va]] w (dz w ((⟨aj x.t st va,aM st pe (aP st pe x.o - va) x.o,x.gt,x.sd,x.ms⟩ : Oc),decide (va≤aP st pe x.o))):=by
 have L1:=((ai.new w 40 #[F x.TA x.t.length x.tc,F x.OA x.o.length x.oc,O U x.gt,O U x.sd,O U x.ms]).alloc (.cells #[O U 3,O U st,O U pe,O U va] 112)).alloc (.cells #[F none 0 0,F none 0 0,O U 0,O U 0,O U 0] 40)
 have L2:=(ai.new1 w (.cells #[F x.TA x.t.length x.tc,F x.OA x.o.length x.oc,O U x.gt,O U x.sd,O U x.ms] 40) 112 #[O U 3,O U st,O U pe,O U va]).alloc (.cells #[F none 0 0,F none 0 0,O U 0,O U 0,O U 0] 40)
 have L3:=ai.new2 w (.cells #[F x.TA x.t.length x.tc,F x.OA x.o.length x.oc,O U x.gt,O U x.sd,O U x.ms] 40) (.cells #[O U 3,O U st,O U pe,O U va] 112) 40 #[F none 0 0,F none 0 0,O U 0,O U 0,O U 0]
 have b1:=bZ w (.cells #[F x.TA x.t.length x.tc,F x.OA x.o.length x.oc,O U x.gt,O U x.sd,O U x.ms] 40)
 have b2:=b1.alloc b1.size (.cells #[O U 3,O U st,O U pe,O U va] 112)
 have b3:=b2.alloc b2.size (.cells #[F none 0 0,F none 0 0,O U 0,O U 0,O U 0] 40)
 have Sx:=G.small
 have Cf:=G.tl
 have Cg:=G.ol
 have zw:=G.tcs
 obtain ⟨m1,m2⟩:=G.m
 obtain ⟨g1,g2⟩:=G.s
 obtain ⟨n1,n2⟩:=G.at_bd st pe
 obtain ⟨n,hn⟩ : ∃ n,aP st pe x.o=n:=⟨_,rfl⟩
 rw [hn] at n1 n2 ⊢
 clear b1 b2 G
 go_enter Tryz.func175,Tryz.ntmps175
 go_wp2_with fail
 generalize (((w.alloc (.cells #[F x.TA x.t.length x.tc,F x.OA x.o.length x.oc,O U x.gt,O U x.sd,O U x.ms] 40)).alloc (.cells #[O U 3,O U st,O U pe,O U va] 112)).alloc (.cells #[F none 0 0,F none 0 0,O U 0,O U 0,O U 0] 40))=W at L1 L2 L3 b3 ⊢
 have hR:=h.up b3 nR
 refine (gB x st pe W hR).mono ?_
 rintro e W1 ⟨rfl,wN⟩
 rw [hn]
 have xW:=hR.then wN
 have xA:=L1.below wN L1.lt
 have xv:=L2.below wN L2.lt
 have xI:=L3.below wN L3.lt
 have b4:=b3.trans (wN.mono b3.size)
 have yU:w.heap.size≤W1.heap.size:=b4.size
 have hn:=jZ hn
 clear L1 L2 L3 b3 wN hR h
 obtain ⟨c0,c1,c2,c3,c4⟩:=cells5 xA
 obtain ⟨s0,s1,s2,s3⟩:=cells4 xv
 obtain ⟨v1,v2⟩:=zx
 have S1:kT (⟨aj x.t st va,x.o,x.gt,x.sd,x.ms⟩ : Oc):=⟨by have:=mU x.t st va; show (aj x.t st va).length≤_; omega,Sx.ol,kU oM (fun t ht=>by have:=zw t ht; omega),Sx.ok⟩
 go_wp2
 obtain ⟨D1,yV⟩ : ∃ D:World→Prop,D=(fun W9=>∃ W8 TA tc OA oc,Below W1.heap.size W1 W8∧W8.ownsRow w.heap.size 104 2 (F TA ((⟨aj x.t st va,aM st pe (n - va) x.o,x.gt,x.sd,x.ms⟩ : Oc)).t.length tc) ((⟨aj x.t st va,aM st pe (n - va) x.o,x.gt,x.sd,x.ms⟩ : Oc)).t.length (((⟨aj x.t st va,aM st pe (n - va) x.o,x.gt,x.sd,x.ms⟩ : Oc)).t.flatMap aq.enc)∧W8.ownsRow w.heap.size 147 3 (F OA ((⟨aj x.t st va,aM st pe (n - va) x.o,x.gt,x.sd,x.ms⟩ : Oc)).o.length oc) ((⟨aj x.t st va,aM st pe (n - va) x.o,x.gt,x.sd,x.ms⟩ : Oc)).o.length (((⟨aj x.t st va,aM st pe (n - va) x.o,x.gt,x.sd,x.ms⟩ : Oc)).o.flatMap ae.enc)∧W9=dq W8 (w.heap.size+1+1) (F TA ((⟨aj x.t st va,aM st pe (n - va) x.o,x.gt,x.sd,x.ms⟩ : Oc)).t.length tc) (F OA ((⟨aj x.t st va,aM st pe (n - va) x.o,x.gt,x.sd,x.ms⟩ : Oc)).o.length oc) (O U ((⟨aj x.t st va,aM st pe (n - va) x.o,x.gt,x.sd,x.ms⟩ : Oc)).gt) (O U ((⟨aj x.t st va,aM st pe (n - va) x.o,x.gt,x.sd,x.ms⟩ : Oc)).sd) (O U ((⟨aj x.t st va,aM st pe (n - va) x.o,x.gt,x.sd,x.ms⟩ : Oc)).ms)):=⟨_,rfl⟩
 have CV:∀ W,D1 W→∃ W8 v0 v1 v2 v3 v4,Below W1.heap.size W1 W8∧W=dq W8 (w.heap.size+1+1) v0 v1 v2 v3 v4:=by
  rw [yV]
  rintro _ ⟨W8,TA,tc,OA,oc,hq,_,_,e⟩
  exact ⟨W8,_,_,_,_,_,hq,e⟩
 have zJ:=jZ yV; clear yV
 refine al (Sw 19 (fun W9=>Below W1.heap.size W1 W9) D1) (fun i w1 w2=>i ∉ [19]→Below w1.heap.size w1 w2) kZ kZ kZ (Sw.start jB.drew) ?_
 simp only [ax,Act.put,sA,gs0,gs1,Nat.zero_add,Nat.reduceAdd]
 refine aa _ (vb0C5 xA) ?_
 refine aa _ vb0 ?_
 refine aa _ (vb1c1 1 xv 1) ?_
 refine aa _ vb0 ?_
 refine aa _ (vb1c1 3 xv 3) ?_
 refine af [19] (fun v w9=>fh w9 w.heap.size (⟨aj x.t st va,x.o,x.gt,x.sd,x.ms⟩ : Oc) v) ?sb5 (fun vs L9 w9 wK wI hB K9 wJ=>?hb5) ?rb5
 case sb5 =>
  intro i9 xG hb9 ha9 v w1 w2 hv xj
  have hb:=xj (fun hm=>by
   simp only [mC,mN,oF] at hm hb9
   subst hm
   ·exact hb9 sP)
  exact hv.below hb
 case hb5 =>
  replace wI:=sb wI wK
  have d0:=fe hB 0
  have d2:=fe hB 2
  have d4:=fe hB 4
  simp only [d0,d2,d4] at wJ ⊢
  simp only [Act.put,sA,gs0,gs1] at wJ
  go_simp
  refine (wo x st va _ (xW.then wI) Sx oM wX).mono ?_
  rintro en w8 ⟨v8,rfl,Ch,wL⟩
  exact wJ _ _ _ rfl (Ch.lower (jT yU wI.size)) (Sw.stay wK kZ dD (wI.trans (wL.mono wI.size))) (fun _=>wL)
 refine aa _ vb0 ?_
 refine aa _ (vb1c1 6 xv 1) ?_
 refine aa _ vb0 ?_
 refine aa _ (vb1c1 8 xv 2) ?_
 refine aa _ vb0 ?_
 refine aa _ vb0 ?_
 refine aa _ (vb1c1 11 xv 3) ?_
 apply aa
 case h1 =>
  intro vs L9 w9 wK wI hB K9 wJ
  replace wI:=sb wI wK
  have d10:=fe hB 10
  have d12:=fe hB 12
  simp only [d10,d12] at wJ ⊢
  have i3:IntKind.i64.wrap (n - va)=n - va:=IntWalk.i64_in _ oM
  simp only [Act.put,sA,gs0,gs1] at wJ
  go_simp
  exact wJ _ _ rfl (sy wK wI) bR
 refine af [19] (fun v w9=>fh w9 w.heap.size (⟨aj x.t st va,aM st pe (n - va) x.o,x.gt,x.sd,x.ms⟩ : Oc) v) ?sb14 (fun vs L9 w9 wK wI hB K9 wJ=>?hb14) ?rb14
 case sb14 =>
  intro i9 xG hb9 ha9 v w1 w2 hv xj
  have hb:=xj (fun hm=>by
   simp only [mC,mN,oF] at hm hb9
   subst hm
   ·exact hb9 sP)
  exact hv.below hb
 case hb14 =>
  replace wI:=sb wI wK
  have d7:=fe hB 7
  have d9:=fe hB 9
  have d13:=fe hB 13
  simp only [d7,d9,d13] at wJ ⊢
  simp only [Act.put,sA,gs0,gs1] at wJ
  have h6:=fs hB 5
  go_simp
  refine (wD st pe (n - va) h6 S1 xl ya).mono ?_
  rintro en w8 ⟨v8,rfl,Ch,wL⟩
  exact wJ _ _ _ rfl (Ch.lower (jT yU wI.size)) (Sw.stay wK kZ dD (wI.trans (wL.mono wI.size))) (fun _=>wL)
 refine aa _ vo0 ?_
 refine aa _ vo0 ?_
 apply aa
 case h1 =>
  intro vs L9 w9 wK wI hB K9 wJ
  have d16:=fe hB 16
  simp only [d16] at wJ ⊢
  have q0:w9.cell? ⟨(w.heap.size+1),3,none⟩=some (O U va):=(wI.lies CV xv oM).cell 3
  simp only [Act.put,sA,gs0,gs1] at wJ
  have zg:=jZ wI
  clear wI
  go_simp
  exact wJ _ _ rfl (Sw.both dD (fun h=>h) (fun h=>h) zg.out) bR
 refine aa _ (vo2 15 17) ?_
 refine aa (undef) (fun vs L9 w9 wK wI hB K9 wJ=>?hb19) ?rb19
 case hb19 =>
  replace wI:=wI.here wK
  obtain ⟨TA,tc,OA,oc,e15,h1,h2⟩:=fs hB 14
  simp only [e15] at wJ ⊢
  have Lr:=xI.below wI xI.lt
  obtain ⟨z0,z1,z2,z3,z4⟩:=cells5 Lr
  obtain ⟨f0,f1,f2,f3,f4⟩:=frz5 Lr
  have h1:=jZ h1
  have h2:=jZ h2
  clear Lr
  go_simp
  exact wJ _ _ rfl (Sw.turn (by rw [zJ.out]; exact ⟨w9,TA,tc,OA,oc,wI,h1.out,h2.out,rfl⟩)) nq
 refine aa _ (va1 18) ?_
 refine ar fun vs L9 w9 wS wI hB=>?_
 replace wI:=wI.done wS dD
 have dl:=ag.eq (hB 20 _ rfl rfl dD)
 simp only [dl]
 clear hB dl
 rw [zJ.out] at wI
 obtain ⟨W8,TA,tc,OA,oc,wL,h1,h2,rfl⟩:=wI
 have Lr:=xI.below wL xI.lt
 have bz:=(b4.trans (wL.mono b4.size)).trans (cj (v0:=F TA ((⟨aj x.t st va,aM st pe (n - va) x.o,x.gt,x.sd,x.ms⟩ : Oc)).t.length tc) (v1:=F OA ((⟨aj x.t st va,aM st pe (n - va) x.o,x.gt,x.sd,x.ms⟩ : Oc)).o.length oc) (v2:=O U ((⟨aj x.t st va,aM st pe (n - va) x.o,x.gt,x.sd,x.ms⟩ : Oc)).gt) (v3:=O U ((⟨aj x.t st va,aM st pe (n - va) x.o,x.gt,x.sd,x.ms⟩ : Oc)).sd) (v4:=O U ((⟨aj x.t st va,aM st pe (n - va) x.o,x.gt,x.sd,x.ms⟩ : Oc)).ms) Lr (show w.heap.size≤(w.heap.size+1+1) by omega))
 have HT:=jZ (aR (v0:=F TA ((⟨aj x.t st va,aM st pe (n - va) x.o,x.gt,x.sd,x.ms⟩ : Oc)).t.length tc) (v1:=F OA ((⟨aj x.t st va,aM st pe (n - va) x.o,x.gt,x.sd,x.ms⟩ : Oc)).o.length oc) (v2:=O U ((⟨aj x.t st va,aM st pe (n - va) x.o,x.gt,x.sd,x.ms⟩ : Oc)).gt) (v3:=O U ((⟨aj x.t st va,aM st pe (n - va) x.o,x.gt,x.sd,x.ms⟩ : Oc)).sd) (v4:=O U ((⟨aj x.t st va,aM st pe (n - va) x.o,x.gt,x.sd,x.ms⟩ : Oc)).ms) Lr h1 cd)
 have HO:=jZ (aR (v0:=F TA ((⟨aj x.t st va,aM st pe (n - va) x.o,x.gt,x.sd,x.ms⟩ : Oc)).t.length tc) (v1:=F OA ((⟨aj x.t st va,aM st pe (n - va) x.o,x.gt,x.sd,x.ms⟩ : Oc)).o.length oc) (v2:=O U ((⟨aj x.t st va,aM st pe (n - va) x.o,x.gt,x.sd,x.ms⟩ : Oc)).gt) (v3:=O U ((⟨aj x.t st va,aM st pe (n - va) x.o,x.gt,x.sd,x.ms⟩ : Oc)).sd) (v4:=O U ((⟨aj x.t st va,aM st pe (n - va) x.o,x.gt,x.sd,x.ms⟩ : Oc)).ms) Lr h2 ci)
 have PR:=eD (v0:=F TA ((⟨aj x.t st va,aM st pe (n - va) x.o,x.gt,x.sd,x.ms⟩ : Oc)).t.length tc) (v1:=F OA ((⟨aj x.t st va,aM st pe (n - va) x.o,x.gt,x.sd,x.ms⟩ : Oc)).o.length oc) (v2:=O U ((⟨aj x.t st va,aM st pe (n - va) x.o,x.gt,x.sd,x.ms⟩ : Oc)).gt) (v3:=O U ((⟨aj x.t st va,aM st pe (n - va) x.o,x.gt,x.sd,x.ms⟩ : Oc)).sd) (v4:=O U ((⟨aj x.t st va,aM st pe (n - va) x.o,x.gt,x.sd,x.ms⟩ : Oc)).ms) Lr
 generalize dq W8 (w.heap.size+1+1) (F TA ((⟨aj x.t st va,aM st pe (n - va) x.o,x.gt,x.sd,x.ms⟩ : Oc)).t.length tc) (F OA ((⟨aj x.t st va,aM st pe (n - va) x.o,x.gt,x.sd,x.ms⟩ : Oc)).o.length oc) (O U ((⟨aj x.t st va,aM st pe (n - va) x.o,x.gt,x.sd,x.ms⟩ : Oc)).gt) (O U ((⟨aj x.t st va,aM st pe (n - va) x.o,x.gt,x.sd,x.ms⟩ : Oc)).sd) (O U ((⟨aj x.t st va,aM st pe (n - va) x.o,x.gt,x.sd,x.ms⟩ : Oc)).ms)=W9 at bz HT HO PR ⊢
 obtain ⟨k0,k1,k2,k3,k4⟩:=cells5 PR
 clear h1 h2 Lr wL wS PR
 go_wp2
 refine bodyPost_ret (v:=.tuple #[.agg #[F TA ((⟨aj x.t st va,aM st pe (n - va) x.o,x.gt,x.sd,x.ms⟩ : Oc)).t.length tc,F OA ((⟨aj x.t st va,aM st pe (n - va) x.o,x.gt,x.sd,x.ms⟩ : Oc)).o.length oc,O U ((⟨aj x.t st va,aM st pe (n - va) x.o,x.gt,x.sd,x.ms⟩ : Oc)).gt,O U ((⟨aj x.t st va,aM st pe (n - va) x.o,x.gt,x.sd,x.ms⟩ : Oc)).sd,O U ((⟨aj x.t st va,aM st pe (n - va) x.o,x.gt,x.sd,x.ms⟩ : Oc)).ms],.bool (decide (va≤n))]) (by simp [results,Tryz.results175,go_sem, *]) rfl ?_
 exact ⟨TA,tc,OA,oc,rfl,HT.out,HO.out,bz⟩
end Go.Proofs.YtoeoimhemojdeaaGreatDoor
