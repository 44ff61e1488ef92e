/- Rs07: the texts SpecMakC SpecMakD SpecMakE SpecMake LawOffA OffMark OffLaw TryD RunP OffPick OffBusy OffBusy2 VInts TraysP Num, joined into one file. -/
import Derived.Deep.RegionHeld3
import Derived.Test.YtoeoimhemojdeaaGreatDoorProg
import Derived.Lib.ItoaNum
import Derived.Lib.ItoaLen
import Derived.Test.YtoeoimhemojdeaaGreatDoorRs01
import Derived.Test.YtoeoimhemojdeaaGreatDoorRs02
import Derived.Test.YtoeoimhemojdeaaGreatDoorRs04
import Derived.Test.YtoeoimhemojdeaaGreatDoorRs06

set_option linter.unusedVariables false
open Go.Value renaming int → O, slice → F, string → uk
open Go.IntKind renaming i64 → U

namespace Go.Proofs.YtoeoimhemojdeaaGreatDoor
open Go.RowKit
set_option maxRecDepth 100000 in
set_option maxHeartbeats 4000000 in
theorem qg (x:aL) (st va:Int) (hst:1≤st∧st≤99) (hva:1≤va∧va≤9999) (ht:0≤au x.t st) (w:World) (h:aM w w.heap.size x) (G:bo x) (hcap:x.t.length≤x.tc) :
  Calls Tryz.prog 127 #[x.val,.agg #[O U 4,O U st,O U 0,O U va]] w (cq w ((⟨ai x.t st (-va),x.o,x.got,x.sold+va,x.missed⟩ : Oc),((⟨ai x.t st (-va),x.o,x.got,x.sold+va,x.missed⟩ : Oc)).good)):=by
 have L1:=((ah.new w 40 #[F x.TA x.t.length x.tc,F x.OA x.o.length x.oc,O U x.got,O U x.sold,O U x.missed]).alloc (.cells #[O U 4,O U st,O U 0,O U va] 112)).alloc (.cells #[F none 0 0,F none 0 0,O U 0,O U 0,O U 0] 40)
 have L2:=(ah.new1 w (.cells #[F x.TA x.t.length x.tc,F x.OA x.o.length x.oc,O U x.got,O U x.sold,O U x.missed] 40) 112 #[O U 4,O U st,O U 0,O U va]).alloc (.cells #[F none 0 0,F none 0 0,O U 0,O U 0,O U 0] 40)
 have L3:=ah.new2 w (.cells #[F x.TA x.t.length x.tc,F x.OA x.o.length x.oc,O U x.got,O U x.sold,O U x.missed] 40) (.cells #[O U 4,O U st,O U 0,O U va] 112) 40 #[F none 0 0,F none 0 0,O U 0,O U 0,O U 0]
 have b1:=(Below.refl w.heap.size w).alloc (Nat.le_refl _) (.cells #[F x.TA x.t.length x.tc,F x.OA x.o.length x.oc,O U x.got,O U x.sold,O U x.missed] 40)
 have b2:=b1.alloc b1.size (.cells #[O U 4,O U st,O U 0,O U va] 112)
 have b3:=b2.alloc b2.size (.cells #[F none 0 0,F none 0 0,O U 0,O U 0,O U 0] 40)
 have Sx:=G.small
 have htl:=G.tl
 have hol:=G.ol
 have htc:=G.tcs
 obtain ⟨m1,m2⟩:=G.m
 obtain ⟨g1,g2⟩:=G.s
 obtain ⟨o1,o2⟩:=G.g
 clear b1 b2 G
 obtain ⟨v1,v2⟩:=hva
 obtain ⟨gd,hgd⟩ : ∃ gd,((⟨ai x.t st (-va),x.o,x.got,x.sold+va,x.missed⟩ : Oc)).good=gd:=⟨_,rfl⟩
 rw [hgd]
 have HG:=Lib.hid hgd; clear hgd
 have i3:IntKind.i64.wrap (-va) = -va:=IntWalk.i64_in _ (by omega)
 have i4:IntKind.i64.wrap (x.sold+va)=x.sold+va:=IntWalk.i64_in _ (by omega)
 have htd:decide (au x.t st < 0)=false:=decide_eq_false (by omega)
 have HT0:=Lib.hid ht; clear ht
 go_enter Tryz.func127,Tryz.ntmps127
 go_wp2_with fail
 generalize (((w.alloc (.cells #[F x.TA x.t.length x.tc,F x.OA x.o.length x.oc,O U x.got,O U x.sold,O U x.missed] 40)).alloc (.cells #[O U 4,O U st,O U 0,O U va] 112)).alloc (.cells #[F none 0 0,F none 0 0,O U 0,O U 0,O U 0] 40))=W at L1 L2 L3 b3 ⊢
 have hR:=h.up b3 (Nat.le_refl _)
 refine (bx x st W hR).mono ?_
 rintro e W1 ⟨rfl,hb1⟩
 have hR1:=hR.then hb1
 have L1a:=L1.below hb1 L1.lt
 have L2a:=L2.below hb1 L2.lt
 have L3a:=L3.below hb1 L3.lt
 have b4:=b3.trans (hb1.mono b3.size)
 have hW0:w.heap.size≤W1.heap.size:=b4.size
 clear L1 L2 L3 b3 hb1 hR h
 obtain ⟨c0,c1,c2,c3,c4⟩:=cells5 L1a
 obtain ⟨s0,s1,s2,s3⟩:=cells4 L2a
 go_wp2_with fail
 refine (uc x st (-va) W1 hR1 Sx (by omega) hcap).mono ?_
 rintro e W2 ⟨v2,rfl,⟨TA,tc,OA,oc,hv2,hT,hO⟩,hb2⟩
 have hv2:v2=.agg #[F TA (ai x.t st (-va)).length tc,F OA x.o.length oc,O U x.got,O U x.sold,O U x.missed]:=hv2
 subst hv2
 simp only at hT hO
 have hal:=(Below.refl W2.heap.size W2).alloc (Nat.le_refl _) (.cells #[F TA (ai x.t st (-va)).length tc,F OA x.o.length oc,O U x.got,O U x.sold,O U x.missed] 40)
 have L1b:=(L1a.below hb2 L1a.lt).below hal (Nat.lt_of_lt_of_le L1a.lt hb2.size)
 have L2b:=(L2a.below hb2 L2a.lt).below hal (Nat.lt_of_lt_of_le L2a.lt hb2.size)
 have L3b:=(L3a.below hb2 L3a.lt).below hal (Nat.lt_of_lt_of_le L3a.lt hb2.size)
 have P:=ah.new W2 40 #[F TA (ai x.t st (-va)).length tc,F OA x.o.length oc,O U x.got,O U x.sold,O U x.missed]
 have hT3:=af (ac hT hal) hW0
 have hO3:=af (ac hO hal) hW0
 have b5:=b4.trans ((aq hb2 hal).mono b4.size)
 have hgg:w.heap.size+1+1 < W2.heap.size:=Nat.lt_of_lt_of_le L3a.lt hb2.size
 clear c0 c1 c2 c3 c4 s0 s1 s2 s3
 obtain ⟨W3,hW3⟩ : ∃ W3,W2.alloc (.cells #[F TA (ai x.t st (-va)).length tc,F OA x.o.length oc,O U x.got,O U x.sold,O U x.missed] 40)=W3:=⟨_,rfl⟩
 rw [hW3] at L1b L2b L3b P hT3 hO3 b5
 generalize hg2:W2.heap.size=g2 at P hgg
 obtain ⟨c0,c1,c2,c3,c4⟩:=cells5 L1b
 obtain ⟨s0,s1,s2,s3⟩:=cells4 L2b
 obtain ⟨p0,p1,p2,p3,p4⟩:=cells5 P
 obtain ⟨pf0,pf1,pf2,pf3,pf4⟩:=frz5 P
 have P4:=P.set 3 (O U (x.sold+va))
 have L1c:=L1b.other (p:=⟨g2,3,none⟩) (by simp; omega) (O U (x.sold+va))
 have L2c:=L2b.other (p:=⟨g2,3,none⟩) (by simp; omega) (O U (x.sold+va))
 have L3c:=L3b.other (p:=⟨g2,3,none⟩) (by simp; omega) (O U (x.sold+va))
 have hT4:=aF hT3 P cy 3 (O U (x.sold+va))
 have hO4:=aF hO3 P cR 3 (O U (x.sold+va))
 have b6:=b5.setCell (p:=⟨g2,3,none⟩) (show w.heap.size≤g2 by omega) (O U (x.sold+va))
 simp only [List.set_cons_zero,List.set_cons_succ] at P4
 obtain ⟨W4,hW4⟩ : ∃ W4,W3.setCell ⟨g2,3,none⟩ (O U (x.sold+va))=W4:=⟨_,rfl⟩
 rw [hW4] at P4 L1c L2c L3c hT4 hO4 b6
 clear hb2 hal hT hO L1a L2a L3a b4 hR1
 go_wp2_with (first | (rw [hW3]; clear hW3; rw [hg2]) | (rw [hW4]; clear hW4))
 clear c0 c1 c2 c3 c4 s0 s1 s2 s3 p0 p1 p2 p3 p4 pf0 pf1 pf2 pf3 pf4
 obtain ⟨D1,hD1⟩ : ∃ D:World→Prop,D=(fun W9=>∃ W8 TA tc OA oc,Below W4.heap.size W4 W8∧W8.ownsRow w.heap.size 104 2 (F TA ((⟨ai x.t st (-va),x.o,x.got,x.sold+va,x.missed⟩ : Oc)).t.length tc) ((⟨ai x.t st (-va),x.o,x.got,x.sold+va,x.missed⟩ : Oc)).t.length (((⟨ai x.t st (-va),x.o,x.got,x.sold+va,x.missed⟩ : Oc)).t.flatMap ap.enc)∧W8.ownsRow w.heap.size 147 3 (F OA ((⟨ai x.t st (-va),x.o,x.got,x.sold+va,x.missed⟩ : Oc)).o.length oc) ((⟨ai x.t st (-va),x.o,x.got,x.sold+va,x.missed⟩ : Oc)).o.length (((⟨ai x.t st (-va),x.o,x.got,x.sold+va,x.missed⟩ : Oc)).o.flatMap ae.enc)∧W9=dh W8 (w.heap.size+1+1) (F TA ((⟨ai x.t st (-va),x.o,x.got,x.sold+va,x.missed⟩ : Oc)).t.length tc) (F OA ((⟨ai x.t st (-va),x.o,x.got,x.sold+va,x.missed⟩ : Oc)).o.length oc) (O U ((⟨ai x.t st (-va),x.o,x.got,x.sold+va,x.missed⟩ : Oc)).got) (O U ((⟨ai x.t st (-va),x.o,x.got,x.sold+va,x.missed⟩ : Oc)).sold) (O U ((⟨ai x.t st (-va),x.o,x.got,x.sold+va,x.missed⟩ : Oc)).missed)):=⟨_,rfl⟩
 have hDL:∀ W,D1 W→∃ W8 v0 v1 v2 v3 v4,Below W4.heap.size W4 W8∧W=dh W8 (w.heap.size+1+1) v0 v1 v2 v3 v4:=by
  rw [hD1]
  rintro _ ⟨W8,TA,tc,OA,oc,hq,_,_,e⟩
  exact ⟨W8,_,_,_,_,_,hq,e⟩
 have HD1:=Lib.hid hD1; clear hD1
 refine am (Sw 3 (fun W9=>Below W4.heap.size W4 W9) D1) (fun i w1 w2=>i ∉ [3]→Below w1.heap.size w1 w2) (by kernel_rfl) (by kernel_rfl) (by kernel_rfl) (Sw.start (Below.refl _ _).drew) ?_
 simp only [aw,Act.put,List.setIfInBounds_toArray,List.set_cons_zero,List.set_cons_succ,Nat.zero_add,Nat.reduceAdd]
 apply aa
 case h1 =>
  intro vs L9 w9 hG9 hC9 hB K9 hK9
  replace hC9:=sb hC9 hG9
  have q0:w9.cell? ⟨g2,0,none⟩=some (F TA (ai x.t st (-va)).length tc):=(P4.below hC9 P4.lt).cell 0
  have q1:w9.cell? ⟨g2,1,none⟩=some (F OA x.o.length oc):=(P4.below hC9 P4.lt).cell 1
  have q2:w9.cell? ⟨g2,2,none⟩=some (O U x.got):=(P4.below hC9 P4.lt).cell 2
  have q3:w9.cell? ⟨g2,3,none⟩=some (O U (x.sold+va)):=(P4.below hC9 P4.lt).cell 3
  have q4:w9.cell? ⟨g2,4,none⟩=some (O U x.missed):=(P4.below hC9 P4.lt).cell 4
  simp only [Act.put,sA,s0,s1] at hK9
  go_simp
  exact hK9 _ _ rfl (sy hG9 hC9) bR
 apply aa
 case h1 =>
  intro vs L9 w9 hG9 hC9 hB K9 hK9
  replace hC9:=sb hC9 hG9
  have q0:w9.cell? ⟨g2,0,none⟩=some (F TA (ai x.t st (-va)).length tc):=(P4.below hC9 P4.lt).cell 0
  have q1:w9.cell? ⟨g2,1,none⟩=some (F OA x.o.length oc):=(P4.below hC9 P4.lt).cell 1
  have q2:w9.cell? ⟨g2,2,none⟩=some (O U x.got):=(P4.below hC9 P4.lt).cell 2
  have q3:w9.cell? ⟨g2,3,none⟩=some (O U (x.sold+va)):=(P4.below hC9 P4.lt).cell 3
  have q4:w9.cell? ⟨g2,4,none⟩=some (O U x.missed):=(P4.below hC9 P4.lt).cell 4
  simp only [Act.put,sA,s0,s1] at hK9
  go_simp
  exact hK9 _ _ rfl (sy hG9 hC9) bR
 apply aa
 case h1 =>
  intro vs L9 w9 hG9 hC9 hB K9 hK9
  replace hC9:=sb hC9 hG9
  have d1:=fe hB 1
  simp only [d1] at hK9 ⊢
  simp only [Act.put,sA,s0,s1] at hK9
  go_simp
  refine (show Calls _ _ _ _ (fun e w'=>e=.returned (.bool gd)∧Below w9.heap.size w9 w') from by rw [← HG.out]; exact sQ (show fC w9 w.heap.size (⟨ai x.t st (-va),x.o,x.got,x.sold+va,x.missed⟩ : Oc) _ from ⟨TA,tc,OA,oc,rfl,ac hT4 hC9,ac hO4 hC9⟩)).mono ?_
  rintro en w8 ⟨rfl,hb8⟩
  exact hK9 _ _ rfl (Sw.stay hG9 (by kernel_rfl) (by decide) (hC9.trans (hb8.mono hC9.size))) (fun _=>hb8)
 refine aa (undef) (fun vs L9 w9 hG9 hC9 hB K9 hK9=>?he3) ?re3
 case he3 =>
  replace hC9:=hC9.here hG9
  have d0:=fe hB 0
  simp only [d0] at hK9 ⊢
  have Lr:=L3c.below hC9 L3c.lt
  obtain ⟨z0,z1,z2,z3,z4⟩:=cells5 Lr
  obtain ⟨f0,f1,f2,f3,f4⟩:=frz5 Lr
  clear Lr
  go_simp
  exact hK9 _ _ rfl (Sw.turn (by rw [HD1.out]; exact ⟨w9,TA,tc,OA,oc,hC9,ac hT4 hC9,ac hO4 hC9,rfl⟩)) (fun hq=>(hq (by decide)).elim)
 apply aa
 case h1 =>
  intro vs L9 w9 hG9 hC9 hB K9 hK9
  replace hC9:=hC9.after hG9 (by kernel_rfl)
  have d2:=fe hB 2
  simp only [d2] at hK9 ⊢
  simp only [Act.put,sA,s0,s1] at hK9
  go_simp
  exact hK9 _ _ rfl (Sw.on hG9 (by kernel_rfl) hC9) bR
 refine ax fun vs L9 w9 hL9 hC9 hB=>?_
 replace hC9:=hC9.done hL9 (by decide)
 have dl:=ag.eq (hB 4 _ rfl rfl (by decide))
 simp only [dl]
 clear hB dl
 rw [HD1.out] at hC9
 obtain ⟨W8,TA,tc,OA,oc,hb8,h1,h2,rfl⟩:=hC9
 have Lr:=L3c.below hb8 L3c.lt
 have bz:=(b6.trans (hb8.mono b6.size)).trans (bI (v0:=F TA ((⟨ai x.t st (-va),x.o,x.got,x.sold+va,x.missed⟩ : Oc)).t.length tc) (v1:=F OA ((⟨ai x.t st (-va),x.o,x.got,x.sold+va,x.missed⟩ : Oc)).o.length oc) (v2:=O U ((⟨ai x.t st (-va),x.o,x.got,x.sold+va,x.missed⟩ : Oc)).got) (v3:=O U ((⟨ai x.t st (-va),x.o,x.got,x.sold+va,x.missed⟩ : Oc)).sold) (v4:=O U ((⟨ai x.t st (-va),x.o,x.got,x.sold+va,x.missed⟩ : Oc)).missed) Lr (show w.heap.size≤(w.heap.size+1+1) by omega))
 have HT:=Lib.hid (aV (v0:=F TA ((⟨ai x.t st (-va),x.o,x.got,x.sold+va,x.missed⟩ : Oc)).t.length tc) (v1:=F OA ((⟨ai x.t st (-va),x.o,x.got,x.sold+va,x.missed⟩ : Oc)).o.length oc) (v2:=O U ((⟨ai x.t st (-va),x.o,x.got,x.sold+va,x.missed⟩ : Oc)).got) (v3:=O U ((⟨ai x.t st (-va),x.o,x.got,x.sold+va,x.missed⟩ : Oc)).sold) (v4:=O U ((⟨ai x.t st (-va),x.o,x.got,x.sold+va,x.missed⟩ : Oc)).missed) Lr h1 cy)
 have HO:=Lib.hid (aV (v0:=F TA ((⟨ai x.t st (-va),x.o,x.got,x.sold+va,x.missed⟩ : Oc)).t.length tc) (v1:=F OA ((⟨ai x.t st (-va),x.o,x.got,x.sold+va,x.missed⟩ : Oc)).o.length oc) (v2:=O U ((⟨ai x.t st (-va),x.o,x.got,x.sold+va,x.missed⟩ : Oc)).got) (v3:=O U ((⟨ai x.t st (-va),x.o,x.got,x.sold+va,x.missed⟩ : Oc)).sold) (v4:=O U ((⟨ai x.t st (-va),x.o,x.got,x.sold+va,x.missed⟩ : Oc)).missed) Lr h2 cR)
 have PR:=fp (v0:=F TA ((⟨ai x.t st (-va),x.o,x.got,x.sold+va,x.missed⟩ : Oc)).t.length tc) (v1:=F OA ((⟨ai x.t st (-va),x.o,x.got,x.sold+va,x.missed⟩ : Oc)).o.length oc) (v2:=O U ((⟨ai x.t st (-va),x.o,x.got,x.sold+va,x.missed⟩ : Oc)).got) (v3:=O U ((⟨ai x.t st (-va),x.o,x.got,x.sold+va,x.missed⟩ : Oc)).sold) (v4:=O U ((⟨ai x.t st (-va),x.o,x.got,x.sold+va,x.missed⟩ : Oc)).missed) Lr
 generalize dh W8 (w.heap.size+1+1) (F TA ((⟨ai x.t st (-va),x.o,x.got,x.sold+va,x.missed⟩ : Oc)).t.length tc) (F OA ((⟨ai x.t st (-va),x.o,x.got,x.sold+va,x.missed⟩ : Oc)).o.length oc) (O U ((⟨ai x.t st (-va),x.o,x.got,x.sold+va,x.missed⟩ : Oc)).got) (O U ((⟨ai x.t st (-va),x.o,x.got,x.sold+va,x.missed⟩ : Oc)).sold) (O U ((⟨ai x.t st (-va),x.o,x.got,x.sold+va,x.missed⟩ : Oc)).missed)=W9 at bz HT HO PR ⊢
 obtain ⟨k0,k1,k2,k3,k4⟩:=cells5 PR
 clear h1 h2 Lr hb8 hL9 PR
 go_wp2
 refine bodyPost_ret (v:=.tuple #[.agg #[F TA ((⟨ai x.t st (-va),x.o,x.got,x.sold+va,x.missed⟩ : Oc)).t.length tc,F OA ((⟨ai x.t st (-va),x.o,x.got,x.sold+va,x.missed⟩ : Oc)).o.length oc,O U ((⟨ai x.t st (-va),x.o,x.got,x.sold+va,x.missed⟩ : Oc)).got,O U ((⟨ai x.t st (-va),x.o,x.got,x.sold+va,x.missed⟩ : Oc)).sold,O U ((⟨ai x.t st (-va),x.o,x.got,x.sold+va,x.missed⟩ : Oc)).missed],.bool gd]) (by simp [results,Tryz.results127,go_sem, *]) rfl ?_
 exact ⟨TA,tc,OA,oc,rfl,HT.out,HO.out,bz⟩
set_option maxRecDepth 100000 in
set_option maxHeartbeats 4000000 in
theorem lT (x:aL) (kd st pe va:Int) (r:Oc) (hk:(kd == 1)=false) (hpe:1≤pe) (ht:0≤au x.t st) (w:World) (h:aM w w.heap.size x) (G:bo x) (hcap:x.t.length≤x.tc)
  (hP:∀ W,aM W W.heap.size x→Calls Tryz.prog 175 #[x.val,.agg #[O U kd,O U st,O U pe,O U va]] W (cq W (r,true))) :
  Calls Tryz.prog 127 #[x.val,.agg #[O U kd,O U st,O U pe,O U va]] w (cq w (r,r.good)):=by
 have L1:=((ah.new w 40 #[F x.TA x.t.length x.tc,F x.OA x.o.length x.oc,O U x.got,O U x.sold,O U x.missed]).alloc (.cells #[O U kd,O U st,O U pe,O U va] 112)).alloc (.cells #[F none 0 0,F none 0 0,O U 0,O U 0,O U 0] 40)
 have L2:=(ah.new1 w (.cells #[F x.TA x.t.length x.tc,F x.OA x.o.length x.oc,O U x.got,O U x.sold,O U x.missed] 40) 112 #[O U kd,O U st,O U pe,O U va]).alloc (.cells #[F none 0 0,F none 0 0,O U 0,O U 0,O U 0] 40)
 have L3:=ah.new2 w (.cells #[F x.TA x.t.length x.tc,F x.OA x.o.length x.oc,O U x.got,O U x.sold,O U x.missed] 40) (.cells #[O U kd,O U st,O U pe,O U va] 112) 40 #[F none 0 0,F none 0 0,O U 0,O U 0,O U 0]
 have b1:=(Below.refl w.heap.size w).alloc (Nat.le_refl _) (.cells #[F x.TA x.t.length x.tc,F x.OA x.o.length x.oc,O U x.got,O U x.sold,O U x.missed] 40)
 have b2:=b1.alloc b1.size (.cells #[O U kd,O U st,O U pe,O U va] 112)
 have b3:=b2.alloc b2.size (.cells #[F none 0 0,F none 0 0,O U 0,O U 0,O U 0] 40)
 have Sx:=G.small
 have htl:=G.tl
 have hol:=G.ol
 have htc:=G.tcs
 obtain ⟨m1,m2⟩:=G.m
 obtain ⟨g1,g2⟩:=G.s
 obtain ⟨o1,o2⟩:=G.g
 clear b1 b2 G
 have hpd:(pe == (0:Int))=false:=by simp; omega
 clear hpe
 have htd:decide (au x.t st < 0)=false:=decide_eq_false (by omega)
 have HT0:=Lib.hid ht; clear ht
 obtain ⟨gd,hgd⟩ : ∃ gd,(r).good=gd:=⟨_,rfl⟩
 rw [hgd]
 have HG:=Lib.hid hgd; clear hgd
 go_enter Tryz.func127,Tryz.ntmps127
 go_wp2_with fail
 generalize (((w.alloc (.cells #[F x.TA x.t.length x.tc,F x.OA x.o.length x.oc,O U x.got,O U x.sold,O U x.missed] 40)).alloc (.cells #[O U kd,O U st,O U pe,O U va] 112)).alloc (.cells #[F none 0 0,F none 0 0,O U 0,O U 0,O U 0] 40))=W at L1 L2 L3 b3 ⊢
 have hR:=h.up b3 (Nat.le_refl _)
 refine (bx x st W hR).mono ?_
 rintro e W1 ⟨rfl,hb1⟩
 have hR1:=hR.then hb1
 have L1a:=L1.below hb1 L1.lt
 have L2a:=L2.below hb1 L2.lt
 have L3a:=L3.below hb1 L3.lt
 have b4:=b3.trans (hb1.mono b3.size)
 have hW0:w.heap.size≤W1.heap.size:=b4.size
 clear L1 L2 L3 b3 hb1 hR h
 obtain ⟨c0,c1,c2,c3,c4⟩:=cells5 L1a
 obtain ⟨s0,s1,s2,s3⟩:=cells4 L2a
 go_wp2_with fail
 refine (hP W1 hR1).mono ?_
 rintro e W2 ⟨TA,tc,OA,oc,rfl,hT,hO,hb2⟩
 simp only at hT hO
 have hal:=(Below.refl W2.heap.size W2).alloc (Nat.le_refl _) (.cells #[F TA r.t.length tc,F OA r.o.length oc,O U r.got,O U r.sold,O U r.missed] 40)
 have L3b:=(L3a.below hb2 L3a.lt).below hal (Nat.lt_of_lt_of_le L3a.lt hb2.size)
 have P4:=ah.new W2 40 #[F TA r.t.length tc,F OA r.o.length oc,O U r.got,O U r.sold,O U r.missed]
 have hT4:=af (ac hT hal) hW0
 have hO4:=af (ac hO hal) hW0
 have b6:=b4.trans ((aq hb2 hal).mono b4.size)
 have hgg:w.heap.size+1+1 < W2.heap.size:=Nat.lt_of_lt_of_le L3a.lt hb2.size
 clear c0 c1 c2 c3 c4 s0 s1 s2 s3
 have L3c:=L3b
 clear hb2 hal hT hO L1a L2a L3a b4 hR1 L3b hP
 obtain ⟨W4,hW4⟩ : ∃ W4,W2.alloc (.cells #[F TA r.t.length tc,F OA r.o.length oc,O U r.got,O U r.sold,O U r.missed] 40)=W4:=⟨_,rfl⟩
 rw [hW4] at L3c P4 hT4 hO4 b6
 generalize hg2:W2.heap.size=g2 at P4 hgg
 go_wp2_with (rw [hW4]; clear hW4; rw [hg2])
 obtain ⟨D1,hD1⟩ : ∃ D:World→Prop,D=(fun W9=>∃ W8 TA tc OA oc,Below W4.heap.size W4 W8∧W8.ownsRow w.heap.size 104 2 (F TA (r).t.length tc) (r).t.length ((r).t.flatMap ap.enc)∧W8.ownsRow w.heap.size 147 3 (F OA (r).o.length oc) (r).o.length ((r).o.flatMap ae.enc)∧W9=dh W8 (w.heap.size+1+1) (F TA (r).t.length tc) (F OA (r).o.length oc) (O U (r).got) (O U (r).sold) (O U (r).missed)):=⟨_,rfl⟩
 have hDL:∀ W,D1 W→∃ W8 v0 v1 v2 v3 v4,Below W4.heap.size W4 W8∧W=dh W8 (w.heap.size+1+1) v0 v1 v2 v3 v4:=by
  rw [hD1]
  rintro _ ⟨W8,TA,tc,OA,oc,hq,_,_,e⟩
  exact ⟨W8,_,_,_,_,_,hq,e⟩
 have HD1:=Lib.hid hD1; clear hD1
 refine am (Sw 6 (fun W9=>Below W4.heap.size W4 W9) D1) (fun i w1 w2=>i ∉ [6]→Below w1.heap.size w1 w2) (by kernel_rfl) (by kernel_rfl) (by kernel_rfl) (Sw.start (Below.refl _ _).drew) ?_
 simp only [aw,Act.put,List.setIfInBounds_toArray,List.set_cons_zero,List.set_cons_succ,Nat.zero_add,Nat.reduceAdd]
 apply aa
 case h1 =>
  intro vs L9 w9 hG9 hC9 hB K9 hK9
  replace hC9:=sb hC9 hG9
  have q0:w9.cell? ⟨g2,0,none⟩=some (F TA r.t.length tc):=(P4.below hC9 P4.lt).cell 0
  have q1:w9.cell? ⟨g2,1,none⟩=some (F OA r.o.length oc):=(P4.below hC9 P4.lt).cell 1
  have q2:w9.cell? ⟨g2,2,none⟩=some (O U r.got):=(P4.below hC9 P4.lt).cell 2
  have q3:w9.cell? ⟨g2,3,none⟩=some (O U r.sold):=(P4.below hC9 P4.lt).cell 3
  have q4:w9.cell? ⟨g2,4,none⟩=some (O U r.missed):=(P4.below hC9 P4.lt).cell 4
  simp only [Act.put,sA,s0,s1] at hK9
  go_simp
  exact hK9 _ _ rfl (sy hG9 hC9) bR
 apply aa
 case h1 =>
  intro vs L9 w9 hG9 hC9 hB K9 hK9
  replace hC9:=sb hC9 hG9
  simp only [Act.put,sA,s0,s1] at hK9
  go_simp
  exact hK9 _ _ rfl (sy hG9 hC9) bR
 apply aa
 case h1 =>
  intro vs L9 w9 hG9 hC9 hB K9 hK9
  replace hC9:=sb hC9 hG9
  have d1:=fe hB 1
  simp only [d1] at hK9 ⊢
  simp only [Act.put,sA,s0,s1] at hK9
  go_simp
  exact hK9 _ _ rfl (sy hG9 hC9) bR
 apply aa
 case h1 =>
  intro vs L9 w9 hG9 hC9 hB K9 hK9
  replace hC9:=sb hC9 hG9
  have d2:=fe hB 2
  simp only [d2] at hK9 ⊢
  have q0:w9.cell? ⟨g2,0,none⟩=some (F TA r.t.length tc):=(P4.below hC9 P4.lt).cell 0
  have q1:w9.cell? ⟨g2,1,none⟩=some (F OA r.o.length oc):=(P4.below hC9 P4.lt).cell 1
  have q2:w9.cell? ⟨g2,2,none⟩=some (O U r.got):=(P4.below hC9 P4.lt).cell 2
  have q3:w9.cell? ⟨g2,3,none⟩=some (O U r.sold):=(P4.below hC9 P4.lt).cell 3
  have q4:w9.cell? ⟨g2,4,none⟩=some (O U r.missed):=(P4.below hC9 P4.lt).cell 4
  simp only [Act.put,sA,s0,s1] at hK9
  go_simp
  exact hK9 _ _ rfl (sy hG9 hC9) bR
 apply aa
 case h1 =>
  intro vs L9 w9 hG9 hC9 hB K9 hK9
  replace hC9:=sb hC9 hG9
  have d3:=fe hB 3
  have d2:=fe hB 2
  simp only [d3,d2] at hK9 ⊢
  simp only [Act.put,sA,s0,s1] at hK9
  go_simp
  refine (show Calls _ _ _ _ (fun e w'=>e=.returned (.bool gd)∧Below w9.heap.size w9 w') from by rw [← HG.out]; exact sQ (show fC w9 w.heap.size r _ from ⟨TA,tc,OA,oc,rfl,ac hT4 hC9,ac hO4 hC9⟩)).mono ?_
  rintro en w8 ⟨rfl,hb8⟩
  exact hK9 _ _ rfl (Sw.stay hG9 (by kernel_rfl) (by decide) (hC9.trans (hb8.mono hC9.size))) (fun _=>hb8)
 apply aa
 case h1 =>
  intro vs L9 w9 hG9 hC9 hB K9 hK9
  have d2:=fe hB 2
  have d4:=fe hB 4
  simp only [d2,d4] at hK9 ⊢
  simp only [Act.put,sA,s0,s1] at hK9
  have HC9:=Lib.hid hC9
  clear hC9
  go_simp
  exact hK9 _ _ rfl (Sw.both (by decide) (fun h=>h) (fun h=>h) HC9.out) bR
 refine aa (undef) (fun vs L9 w9 hG9 hC9 hB K9 hK9=>?hq6) ?rq6
 case hq6 =>
  replace hC9:=hC9.here hG9
  have d0:=fe hB 0
  simp only [d0] at hK9 ⊢
  have Lr:=L3c.below hC9 L3c.lt
  obtain ⟨z0,z1,z2,z3,z4⟩:=cells5 Lr
  obtain ⟨f0,f1,f2,f3,f4⟩:=frz5 Lr
  clear Lr
  go_simp
  exact hK9 _ _ rfl (Sw.turn (by rw [HD1.out]; exact ⟨w9,TA,tc,OA,oc,hC9,ac hT4 hC9,ac hO4 hC9,rfl⟩)) (fun hq=>(hq (by decide)).elim)
 apply aa
 case h1 =>
  intro vs L9 w9 hG9 hC9 hB K9 hK9
  replace hC9:=hC9.after hG9 (by kernel_rfl)
  have d5:=fe hB 5
  simp only [d5] at hK9 ⊢
  simp only [Act.put,sA,s0,s1] at hK9
  go_simp
  exact hK9 _ _ rfl (Sw.on hG9 (by kernel_rfl) hC9) bR
 refine ax fun vs L9 w9 hL9 hC9 hB=>?_
 replace hC9:=hC9.done hL9 (by decide)
 have dl:=ag.eq (hB 7 _ rfl rfl (by decide))
 simp only [dl]
 clear hB dl
 rw [HD1.out] at hC9
 obtain ⟨W8,TA,tc,OA,oc,hb8,h1,h2,rfl⟩:=hC9
 have Lr:=L3c.below hb8 L3c.lt
 have bz:=(b6.trans (hb8.mono b6.size)).trans (bI (v0:=F TA (r).t.length tc) (v1:=F OA (r).o.length oc) (v2:=O U (r).got) (v3:=O U (r).sold) (v4:=O U (r).missed) Lr (show w.heap.size≤(w.heap.size+1+1) by omega))
 have HT:=Lib.hid (aV (v0:=F TA (r).t.length tc) (v1:=F OA (r).o.length oc) (v2:=O U (r).got) (v3:=O U (r).sold) (v4:=O U (r).missed) Lr h1 cy)
 have HO:=Lib.hid (aV (v0:=F TA (r).t.length tc) (v1:=F OA (r).o.length oc) (v2:=O U (r).got) (v3:=O U (r).sold) (v4:=O U (r).missed) Lr h2 cR)
 have PR:=fp (v0:=F TA (r).t.length tc) (v1:=F OA (r).o.length oc) (v2:=O U (r).got) (v3:=O U (r).sold) (v4:=O U (r).missed) Lr
 generalize dh W8 (w.heap.size+1+1) (F TA (r).t.length tc) (F OA (r).o.length oc) (O U (r).got) (O U (r).sold) (O U (r).missed)=W9 at bz HT HO PR ⊢
 obtain ⟨k0,k1,k2,k3,k4⟩:=cells5 PR
 clear h1 h2 Lr hb8 hL9 PR
 go_wp2
 refine bodyPost_ret (v:=.tuple #[.agg #[F TA (r).t.length tc,F OA (r).o.length oc,O U (r).got,O U (r).sold,O U (r).missed],.bool gd]) (by simp [results,Tryz.results127,go_sem, *]) rfl ?_
 exact ⟨TA,tc,OA,oc,rfl,HT.out,HO.out,bz⟩
set_option maxRecDepth 100000 in
set_option maxHeartbeats 4000000 in
theorem mx (x:aL) (kd st pe va:Int) (r:Oc) (hk:(kd == 1)=false) (hpe:1≤pe) (ht:0≤au x.t st) (w:World) (h:aM w w.heap.size x) (G:bo x) (hcap:x.t.length≤x.tc)
  (hP:∀ W,aM W W.heap.size x→Calls Tryz.prog 175 #[x.val,.agg #[O U kd,O U st,O U pe,O U va]] W (cq W (r,false))) :
  Calls Tryz.prog 127 #[x.val,.agg #[O U kd,O U st,O U pe,O U va]] w (cq w (r,false)):=by
 have L1:=((ah.new w 40 #[F x.TA x.t.length x.tc,F x.OA x.o.length x.oc,O U x.got,O U x.sold,O U x.missed]).alloc (.cells #[O U kd,O U st,O U pe,O U va] 112)).alloc (.cells #[F none 0 0,F none 0 0,O U 0,O U 0,O U 0] 40)
 have L2:=(ah.new1 w (.cells #[F x.TA x.t.length x.tc,F x.OA x.o.length x.oc,O U x.got,O U x.sold,O U x.missed] 40) 112 #[O U kd,O U st,O U pe,O U va]).alloc (.cells #[F none 0 0,F none 0 0,O U 0,O U 0,O U 0] 40)
 have L3:=ah.new2 w (.cells #[F x.TA x.t.length x.tc,F x.OA x.o.length x.oc,O U x.got,O U x.sold,O U x.missed] 40) (.cells #[O U kd,O U st,O U pe,O U va] 112) 40 #[F none 0 0,F none 0 0,O U 0,O U 0,O U 0]
 have b1:=(Below.refl w.heap.size w).alloc (Nat.le_refl _) (.cells #[F x.TA x.t.length x.tc,F x.OA x.o.length x.oc,O U x.got,O U x.sold,O U x.missed] 40)
 have b2:=b1.alloc b1.size (.cells #[O U kd,O U st,O U pe,O U va] 112)
 have b3:=b2.alloc b2.size (.cells #[F none 0 0,F none 0 0,O U 0,O U 0,O U 0] 40)
 have Sx:=G.small
 have htl:=G.tl
 have hol:=G.ol
 have htc:=G.tcs
 obtain ⟨m1,m2⟩:=G.m
 obtain ⟨g1,g2⟩:=G.s
 obtain ⟨o1,o2⟩:=G.g
 clear b1 b2 G
 have hpd:(pe == (0:Int))=false:=by simp; omega
 clear hpe
 have htd:decide (au x.t st < 0)=false:=decide_eq_false (by omega)
 have HT0:=Lib.hid ht; clear ht
 go_enter Tryz.func127,Tryz.ntmps127
 go_wp2_with fail
 generalize (((w.alloc (.cells #[F x.TA x.t.length x.tc,F x.OA x.o.length x.oc,O U x.got,O U x.sold,O U x.missed] 40)).alloc (.cells #[O U kd,O U st,O U pe,O U va] 112)).alloc (.cells #[F none 0 0,F none 0 0,O U 0,O U 0,O U 0] 40))=W at L1 L2 L3 b3 ⊢
 have hR:=h.up b3 (Nat.le_refl _)
 refine (bx x st W hR).mono ?_
 rintro e W1 ⟨rfl,hb1⟩
 have hR1:=hR.then hb1
 have L1a:=L1.below hb1 L1.lt
 have L2a:=L2.below hb1 L2.lt
 have L3a:=L3.below hb1 L3.lt
 have b4:=b3.trans (hb1.mono b3.size)
 have hW0:w.heap.size≤W1.heap.size:=b4.size
 clear L1 L2 L3 b3 hb1 hR h
 obtain ⟨c0,c1,c2,c3,c4⟩:=cells5 L1a
 obtain ⟨s0,s1,s2,s3⟩:=cells4 L2a
 go_wp2_with fail
 refine (hP W1 hR1).mono ?_
 rintro e W2 ⟨TA,tc,OA,oc,rfl,hT,hO,hb2⟩
 simp only at hT hO
 have hal:=(Below.refl W2.heap.size W2).alloc (Nat.le_refl _) (.cells #[F TA r.t.length tc,F OA r.o.length oc,O U r.got,O U r.sold,O U r.missed] 40)
 have L3b:=(L3a.below hb2 L3a.lt).below hal (Nat.lt_of_lt_of_le L3a.lt hb2.size)
 have P4:=ah.new W2 40 #[F TA r.t.length tc,F OA r.o.length oc,O U r.got,O U r.sold,O U r.missed]
 have hT4:=af (ac hT hal) hW0
 have hO4:=af (ac hO hal) hW0
 have b6:=b4.trans ((aq hb2 hal).mono b4.size)
 have hgg:w.heap.size+1+1 < W2.heap.size:=Nat.lt_of_lt_of_le L3a.lt hb2.size
 clear c0 c1 c2 c3 c4 s0 s1 s2 s3
 have L3c:=L3b
 clear hb2 hal hT hO L1a L2a L3a b4 hR1 L3b hP
 obtain ⟨W4,hW4⟩ : ∃ W4,W2.alloc (.cells #[F TA r.t.length tc,F OA r.o.length oc,O U r.got,O U r.sold,O U r.missed] 40)=W4:=⟨_,rfl⟩
 rw [hW4] at L3c P4 hT4 hO4 b6
 generalize hg2:W2.heap.size=g2 at P4 hgg
 go_wp2_with (rw [hW4]; clear hW4; rw [hg2])
 obtain ⟨D1,hD1⟩ : ∃ D:World→Prop,D=(fun W9=>∃ W8 TA tc OA oc,Below W4.heap.size W4 W8∧W8.ownsRow w.heap.size 104 2 (F TA (r).t.length tc) (r).t.length ((r).t.flatMap ap.enc)∧W8.ownsRow w.heap.size 147 3 (F OA (r).o.length oc) (r).o.length ((r).o.flatMap ae.enc)∧W9=dh W8 (w.heap.size+1+1) (F TA (r).t.length tc) (F OA (r).o.length oc) (O U (r).got) (O U (r).sold) (O U (r).missed)):=⟨_,rfl⟩
 have hDL:∀ W,D1 W→∃ W8 v0 v1 v2 v3 v4,Below W4.heap.size W4 W8∧W=dh W8 (w.heap.size+1+1) v0 v1 v2 v3 v4:=by
  rw [hD1]
  rintro _ ⟨W8,TA,tc,OA,oc,hq,_,_,e⟩
  exact ⟨W8,_,_,_,_,_,hq,e⟩
 have HD1:=Lib.hid hD1; clear hD1
 refine am (Sw 6 (fun W9=>Below W4.heap.size W4 W9) D1) (fun i w1 w2=>i ∉ [6]→Below w1.heap.size w1 w2) (by kernel_rfl) (by kernel_rfl) (by kernel_rfl) (Sw.start (Below.refl _ _).drew) ?_
 simp only [aw,Act.put,List.setIfInBounds_toArray,List.set_cons_zero,List.set_cons_succ,Nat.zero_add,Nat.reduceAdd]
 apply aa
 case h1 =>
  intro vs L9 w9 hG9 hC9 hB K9 hK9
  replace hC9:=sb hC9 hG9
  have q0:w9.cell? ⟨g2,0,none⟩=some (F TA r.t.length tc):=(P4.below hC9 P4.lt).cell 0
  have q1:w9.cell? ⟨g2,1,none⟩=some (F OA r.o.length oc):=(P4.below hC9 P4.lt).cell 1
  have q2:w9.cell? ⟨g2,2,none⟩=some (O U r.got):=(P4.below hC9 P4.lt).cell 2
  have q3:w9.cell? ⟨g2,3,none⟩=some (O U r.sold):=(P4.below hC9 P4.lt).cell 3
  have q4:w9.cell? ⟨g2,4,none⟩=some (O U r.missed):=(P4.below hC9 P4.lt).cell 4
  simp only [Act.put,sA,s0,s1] at hK9
  go_simp
  exact hK9 _ _ rfl (sy hG9 hC9) bR
 apply aa
 case h1 =>
  intro vs L9 w9 hG9 hC9 hB K9 hK9
  replace hC9:=sb hC9 hG9
  simp only [Act.put,sA,s0,s1] at hK9
  go_simp
  exact hK9 _ _ rfl (sy hG9 hC9) bR
 apply aa
 case h1 =>
  intro vs L9 w9 hG9 hC9 hB K9 hK9
  replace hC9:=sb hC9 hG9
  have d1:=fe hB 1
  simp only [d1] at hK9 ⊢
  simp only [Act.put,sA,s0,s1] at hK9
  go_simp
  exact hK9 _ _ rfl (sy hG9 hC9) bR
 refine aa (undef) (fun vs L9 w9 hG9 hC9 hB K9 hK9=>?hq3) ?rq3
 case hq3 =>
  replace hC9:=sb hC9 hG9
  have d2:=fe hB 2
  simp only [d2] at hK9 ⊢
  go_simp
  exact hK9 _ _ rfl (sy hG9 hC9) bR
 refine aa (undef) (fun vs L9 w9 hG9 hC9 hB K9 hK9=>?hq4) ?rq4
 case hq4 =>
  replace hC9:=sb hC9 hG9
  have d3:=fe hB 3
  have d2:=fe hB 2
  simp only [d3,d2] at hK9 ⊢
  go_simp
  exact hK9 _ _ rfl (sy hG9 hC9) bR
 apply aa
 case h1 =>
  intro vs L9 w9 hG9 hC9 hB K9 hK9
  have d2:=fe hB 2
  have d4:=fe hB 4
  simp only [d2,d4] at hK9 ⊢
  simp only [Act.put,sA,s0,s1] at hK9
  have HC9:=Lib.hid hC9
  clear hC9
  go_simp
  exact hK9 _ _ rfl (Sw.both (by decide) (fun h=>h) (fun h=>h) HC9.out) bR
 refine aa (undef) (fun vs L9 w9 hG9 hC9 hB K9 hK9=>?hq6) ?rq6
 case hq6 =>
  replace hC9:=hC9.here hG9
  have d0:=fe hB 0
  simp only [d0] at hK9 ⊢
  have Lr:=L3c.below hC9 L3c.lt
  obtain ⟨z0,z1,z2,z3,z4⟩:=cells5 Lr
  obtain ⟨f0,f1,f2,f3,f4⟩:=frz5 Lr
  clear Lr
  go_simp
  exact hK9 _ _ rfl (Sw.turn (by rw [HD1.out]; exact ⟨w9,TA,tc,OA,oc,hC9,ac hT4 hC9,ac hO4 hC9,rfl⟩)) (fun hq=>(hq (by decide)).elim)
 apply aa
 case h1 =>
  intro vs L9 w9 hG9 hC9 hB K9 hK9
  replace hC9:=hC9.after hG9 (by kernel_rfl)
  have d5:=fe hB 5
  simp only [d5] at hK9 ⊢
  simp only [Act.put,sA,s0,s1] at hK9
  go_simp
  exact hK9 _ _ rfl (Sw.on hG9 (by kernel_rfl) hC9) bR
 refine ax fun vs L9 w9 hL9 hC9 hB=>?_
 replace hC9:=hC9.done hL9 (by decide)
 have dl:=ag.eq (hB 7 _ rfl rfl (by decide))
 simp only [dl]
 clear hB dl
 rw [HD1.out] at hC9
 obtain ⟨W8,TA,tc,OA,oc,hb8,h1,h2,rfl⟩:=hC9
 have Lr:=L3c.below hb8 L3c.lt
 have bz:=(b6.trans (hb8.mono b6.size)).trans (bI (v0:=F TA (r).t.length tc) (v1:=F OA (r).o.length oc) (v2:=O U (r).got) (v3:=O U (r).sold) (v4:=O U (r).missed) Lr (show w.heap.size≤(w.heap.size+1+1) by omega))
 have HT:=Lib.hid (aV (v0:=F TA (r).t.length tc) (v1:=F OA (r).o.length oc) (v2:=O U (r).got) (v3:=O U (r).sold) (v4:=O U (r).missed) Lr h1 cy)
 have HO:=Lib.hid (aV (v0:=F TA (r).t.length tc) (v1:=F OA (r).o.length oc) (v2:=O U (r).got) (v3:=O U (r).sold) (v4:=O U (r).missed) Lr h2 cR)
 have PR:=fp (v0:=F TA (r).t.length tc) (v1:=F OA (r).o.length oc) (v2:=O U (r).got) (v3:=O U (r).sold) (v4:=O U (r).missed) Lr
 generalize dh W8 (w.heap.size+1+1) (F TA (r).t.length tc) (F OA (r).o.length oc) (O U (r).got) (O U (r).sold) (O U (r).missed)=W9 at bz HT HO PR ⊢
 obtain ⟨k0,k1,k2,k3,k4⟩:=cells5 PR
 clear h1 h2 Lr hb8 hL9 PR
 go_wp2
 refine bodyPost_ret (v:=.tuple #[.agg #[F TA (r).t.length tc,F OA (r).o.length oc,O U (r).got,O U (r).sold,O U (r).missed],.bool false]) (by simp [results,Tryz.results127,go_sem, *]) rfl ?_
 exact ⟨TA,tc,OA,oc,rfl,HT.out,HO.out,bz⟩
theorem pl (x:aL) (kd st pe va:Int) (R:Oc × Bool) (hk:(kd == 1)=false) (hpe:1≤pe) (ht:0≤au x.t st) (w:World) (h:aM w w.heap.size x) (G:bo x) (hcap:x.t.length≤x.tc)
  (hP:∀ W,aM W W.heap.size x→Calls Tryz.prog 175 #[x.val,.agg #[O U kd,O U st,O U pe,O U va]] W (cq W R)) :
  Calls Tryz.prog 127 #[x.val,.agg #[O U kd,O U st,O U pe,O U va]] w (cq w (R.1,R.2 && R.1.good)):=by
 obtain ⟨r,b⟩:=R
 cases b
 ·rw [Bool.false_and]; exact mx x kd st pe va r hk hpe ht w h G hcap hP
 ·rw [Bool.true_and]; exact lT x kd st pe va r hk hpe ht w h G hcap hP
theorem pm (x:aL) (s:dW) (w:World) (h:aM w w.heap.size x) (G:bo x) (hcap:x.t.length≤x.tc) (hs:s.okS=true) :
  Calls Tryz.prog 127 #[x.val,s.val] w (cq w (fq x.c s)):=by
 obtain ⟨hst,hI⟩:=dW.okS_is hs
 clear hs
 obtain ⟨kd,st,pe,va⟩:=s
 by_cases hT:au x.t st < 0
 ·have own:∀ kd:Int,kd ≠ 1→Calls Tryz.prog 127 #[x.val,.agg #[O U kd,O U st,O U pe,O U va]] w (cq w (fq x.c ⟨kd,st,pe,va⟩)):=fun kd hk=>by
   rw [show fq x.c ⟨kd,st,pe,va⟩=(x.c,false) from by
    unfold fq; rw [if_neg (show ¬ (dW.mk kd st pe va).kind=1 from hk),if_pos (show au x.c.t st < 0 from hT)]]
   exact sR x kd st pe va (by simpa using hk) hT w h G hcap
  cases hI with
  | get hk hp hv =>
   simp only at hk hp hv hst; subst hk
   exact pk x st pe va hst hv w h G hcap
  | show_ hk hp hv=>simp only at hk; subst hk; exact own 2 (by decide)
  | back hk hp hv=>simp only at hk; subst hk; exact own 3 (by decide)
  | sell0 hk hp hv=>simp only at hk; subst hk; exact own 4 (by decide)
  | sell hk hp hv=>simp only at hk; subst hk; exact own 4 (by decide)
  | miss hk hp hv=>simp only at hk; subst hk; exact own 5 (by decide)
  | move hk hp hv=>simp only at hk; subst hk; exact own 6 (by decide)
 ·have h0:0≤au x.t st:=by omega
  have per:∀ kd:Int,kd ≠ 1→(1≤pe∧pe≤999)→(∀ W,aM W W.heap.size x→Calls Tryz.prog 175 #[x.val,.agg #[O U kd,O U st,O U pe,O U va]] W (cq W (gU x.c ⟨kd,st,pe,va⟩))) →
    Calls Tryz.prog 127 #[x.val,.agg #[O U kd,O U st,O U pe,O U va]] w (cq w (fq x.c ⟨kd,st,pe,va⟩)):=fun kd hk hpe hP=>by
   rw [show fq x.c ⟨kd,st,pe,va⟩=((gU x.c ⟨kd,st,pe,va⟩).1,(gU x.c ⟨kd,st,pe,va⟩).2 && (gU x.c ⟨kd,st,pe,va⟩).1.good) from by
    unfold fq; rw [if_neg (show ¬ (dW.mk kd st pe va).kind=1 from hk),if_neg (show ¬ au x.c.t st < 0 from hT),if_neg (show ¬ (dW.mk kd st pe va).person=0 from by show ¬ pe=0; omega)]]
   exact pl x kd st pe va _ (by simpa using hk) hpe.1 h0 w h G hcap hP
  cases hI with
  | get hk hp hv =>
   simp only at hk hp hv hst; subst hk
   exact pk x st pe va hst hv w h G hcap
  | show_ hk hp hv=>simp only at hk hp hv hst; subst hk; exact per 2 (by decide) hp fun W hW=>pf x st pe va W hW G hcap hst hp hv
  | back hk hp hv=>simp only at hk hp hv hst; subst hk; exact per 3 (by decide) hp fun W hW=>pg x st pe va W hW G hcap hst hp hv
  | sell0 hk hp hv =>
   simp only at hk hp hv hst; subst hk; subst hp
   have:=qg x st va hst hv h0 w h G hcap
   rw [show fq x.c ⟨4,st,0,va⟩=((⟨ai x.t st (-va),x.o,x.got,x.sold+va,x.missed⟩ : Oc),(⟨ai x.t st (-va),x.o,x.got,x.sold+va,x.missed⟩ : Oc).good) from by
    unfold fq; rw [if_neg (show ¬ (4:Int)=1 by decide),if_neg (show ¬ au x.c.t st < 0 from hT),if_pos rfl]; rfl]
   exact this
  | sell hk hp hv=>simp only at hk hp hv hst; subst hk; exact per 4 (by decide) hp fun W hW=>pj x st pe va W hW G hcap hst hp hv
  | miss hk hp hv=>simp only at hk hp hv hst; subst hk; exact per 5 (by decide) hp fun W hW=>ph x st pe va W hW G hcap hst hp
  | move hk hp hv=>simp only at hk hp hv hst; subst hk; exact per 6 (by decide) hp fun W hW=>pi x st pe va W hW G hcap hst hp hv
theorem n9 (x:aL) (s:dW) (w:World) (h:aM w w.heap.size x) (hcap:x.t.length≤x.tc) :
  Calls Tryz.prog 76 #[x.val,s.val] w (aB w (if al x && s.ok then ba x.c s else none)):=by
 have h1:=pd (fun x s w h G hc hs=>pm x s w h G hc hs) x s w h hcap
 rw [show (if al x && s.ok then ba x.c s else none)=(if al x && s.okS then pa (fq x.c s) else none) from by
  cases hg:al x
  ·rfl
  ·cases hs:s.okS
   ·have:=dW.ok_okS s
    rw [hs,Bool.false_and] at this
    rw [this]; rfl
   ·rw [Bool.true_and,Bool.true_and,if_pos rfl,pb x s (bj.1 hg) hs]]
 exact h1
abbrev aL.copy (x:aL) (g1 g2:Nat):aL:={ x with TA:=some ⟨g1,0,none⟩,tc:=x.t.length,OA:=some ⟨g2,0,none⟩,oc:=x.o.length }
theorem di {x:aL} {w:World} {g1 g2:Nat} (h1:ah w g1 104 (x.t.flatMap ap.enc)) (h2:ah w g2 147 (x.o.flatMap ae.enc)) (hn:x.t.length≤1048576) (hm:x.o.length≤1048576):aM w w.heap.size (x.copy g1 g2) :=
 ⟨pU h1 (show x.t.length≤9223372036854775807 by omega),nM h2 (show x.o.length≤9223372036854775807 by omega)⟩
set_option maxHeartbeats 1000000 in
theorem my (x:aL) (g1 g2 lo hi:Nat) (w:World) (hn:x.t.length≤1048576) (hm:x.o.length≤1048576) (l1:lo≤g1) (l2:g1 < g2) (l3:g2 < hi) (l4:hi≤w.heap.size)
  (h1:ah w g1 104 (x.t.flatMap ap.enc)) (h2:ah w g2 147 (x.o.flatMap ae.enc)) :
  Calls Tryz.prog 56 #[(x.copy g1 g2).val,O U 1] w fun e w'=>(∃ k1:Int,e=.returned (O U k1)∧0≤k1)∧mh lo hi w w':=by
 have b0:mh lo hi w (w.alloc (.cells #[F (some ⟨g1,0,none⟩) x.t.length x.t.length,F (some ⟨g2,0,none⟩) x.o.length x.o.length,O U x.got,O U x.sold,O U x.missed] 40)) :=
  ⟨rfl,rfl,rfl,by simp,fun k hk _=>Below.heap_alloc w _ k hk⟩
 have L0:=ah.new w 40 #[F (some ⟨g1,0,none⟩) x.t.length x.t.length,F (some ⟨g2,0,none⟩) x.o.length x.o.length,O U x.got,O U x.sold,O U x.missed]
 have k1:=h1.alloc (.cells #[F (some ⟨g1,0,none⟩) x.t.length x.t.length,F (some ⟨g2,0,none⟩) x.o.length x.o.length,O U x.got,O U x.sold,O U x.missed] 40)
 have k2:=h2.alloc (.cells #[F (some ⟨g1,0,none⟩) x.t.length x.t.length,F (some ⟨g2,0,none⟩) x.o.length x.o.length,O U x.got,O U x.sold,O U x.missed] 40)
 go_enter Tryz.func56,Tryz.ntmps56
 go_wp2_with fail
 generalize w.alloc (.cells #[F (some ⟨g1,0,none⟩) x.t.length x.t.length,F (some ⟨g2,0,none⟩) x.o.length x.o.length,O U x.got,O U x.sold,O U x.missed] 40)=W at b0 L0 k1 k2 ⊢
 refine (fF (some ⟨g1,0,none⟩) x.t.length x.t.length lo 1 (x.t.flatMap ap.enc) W (by omega) (by omega) (by omega) ⟨fL ap.enc 2 ap.enc_len x.t,by omega,.inr ⟨g1,[],rfl,l1,by simpa using k1⟩⟩).mono ?_
 rintro e w1 ⟨rfl,o1,gr0⟩
 have gr1:W.grownBy w1 (some g1):=gr0
 clear gr0 o1
 have m1:=b0.trans (mh.of gr1 (by rintro _ ⟨⟩; exact ⟨l1,by omega⟩))
 have L1:=L0.kept gr1 (by intro e; injection e; omega)
 have j2:=k2.kept gr1 (by intro e; injection e; omega)
 have c1:=L1.cell 1
 simp only [List.getElem?_cons_zero,List.getElem?_cons_succ] at c1
 go_wp2_with fail
 refine (eN (some ⟨g2,0,none⟩) x.o.length x.o.length lo _ (x.o.flatMap ae.enc) w1 (by omega) (by omega) (by omega) ⟨fL ae.enc 3 ae.enc_len x.o,by omega,.inr ⟨g2,[],rfl,by omega,by simpa using j2⟩⟩).mono ?_
 rintro e w2 ⟨rfl,o2,gr0⟩
 have gr2:w1.grownBy w2 (some g2):=gr0
 clear gr0 o2
 have m2:=m1.trans (mh.of gr2 (by rintro _ ⟨⟩; exact ⟨by omega,l3⟩))
 go_wp2
 go_ret
 exact ⟨⟨_,rfl,by omega⟩,m2⟩
def tH (w:World) (y:Oc) (v:Value):Prop:=∃ X:aL,v=X.val∧X.c=y∧aM w w.heap.size X∧X.t.length≤X.tc
theorem tH.below {w w' : World} {y:Oc} {v:Value} (h:tH w y v) (hb:Below w.heap.size w w'):tH w' y v:=by
 obtain ⟨X,h1,h2,h3,h4⟩:=h; exact ⟨X,h1,h2,h3.then hb,h4⟩
def tT (w:World) (y:Oc) (b:Bool) (e:Ending) (w' : World):Prop:=∃ v,e=.returned (.tuple #[v,.bool b])∧fC w' w.heap.size y v∧Below w.heap.size w w'
theorem aB.r {w w' : World} {D:Option Oc} {e:Ending} (h:aB w D e w'):tT w (cH D) D.isSome e w':=by
 obtain ⟨TA,tc,OA,oc,he,h1,h2,hb⟩:=h
 exact ⟨_,he,⟨TA,tc,OA,oc,rfl,h1,h2⟩,hb⟩
theorem tH.copy {x:aL} {w:World} {g1 g2:Nat} (h1:ah w g1 104 (x.t.flatMap ap.enc)) (h2:ah w g2 147 (x.o.flatMap ae.enc)) (hn:x.t.length≤1048576) (hm:x.o.length≤1048576):tH w x.c (x.copy g1 g2).val :=
 ⟨x.copy g1 g2,rfl,rfl,di h1 h2 hn hm,Nat.le_refl _⟩
def hH (y:Oc) (s:dW):Option Oc:=if y.good && s.ok then ba y s else none
theorem jd {r r' : Oc} (h:Oc.fin r=some r'):r'.good=true:=by
 unfold Oc.fin at h
 split at h
 ·rename_i hg; injection h with h; rw [← h]; exact hg
 ·cases h
theorem mz {y r:Oc} {s:dW} (h:ba y s=some r):r.good=true:=by
 unfold ba at h
 split at h
 ·exact jd h
 split at h
 ·cases h
 split at h
 ·exact jd h
 split at h
 ·cases h
 split at h
 ·exact jd h
 split at h
 ·split at h <;> exact jd h
 split at h <;> exact jd h
theorem Oc.good_off {y:Oc} (h:y.good=true) (TA:Option Addr) (tc:Nat) (OA:Option Addr) (oc:Nat):bo (y.at TA tc OA oc):=by
 have G:bo (y.at none 0 none 0):=bj.1 h
 exact ⟨G.tl,G.ol,G.g,G.s,G.m,G.ts,G.os,G.sum⟩
theorem jn {y:Oc} (h:y.good=true):y.t.length≤1000000∧y.o.length≤1000000:=by
 have G:bo (y.at none 0 none 0):=bj.1 h
 exact ⟨Nat.le_trans G.tl (by omega),Nat.le_trans G.ol (by omega)⟩
def aP (sel:ae→Bool) (get:ae→Int):List ae→List Int
 | []=>[]
 | r :: l=>if sel r then get r :: aP sel get l else aP sel get l
theorem jo {sel:ae→Bool} {get:ae→Int} {l:List ae} {k:Nat} (h:k < l.length) (hs:sel l[k]=true):aP sel get (l.drop k)=get l[k] :: aP sel get (l.drop (k+1)):=by
 rw [List.drop_eq_getElem_cons h,aP,if_pos hs]
theorem kq {sel:ae→Bool} {get:ae→Int} {l:List ae} {k:Nat} (h:k < l.length) (hs:sel l[k]=false):aP sel get (l.drop k)=aP sel get (l.drop (k+1)):=by
 rw [List.drop_eq_getElem_cons h,aP,if_neg (by rw [hs]; exact Bool.false_ne_true)]
theorem kQ (sel:ae→Bool) (get:ae→Int):∀ l:List ae,(aP sel get l).length≤l.length
 | []=>Nat.le_refl _
 | r :: l=>by
  have:=kQ sel get l
  unfold aP
  split <;> simp <;> omega
def bh (ok:Bool) (l:List Int):List Int:=if ok then l else []
theorem bM.lower {w:World} {B B' : Nat} {t:TypeId} {k:Nat} {A:Option Addr} {n:Nat} {cs:List Value} (h:bM w B t k A n cs) (hB:B'≤B):bM w B' t k A n cs:=by
 obtain ⟨hl,hn,h0 | ⟨g,rest,hA,hg,hh⟩⟩:=h
 ·exact ⟨hl,hn,.inl h0⟩
 ·exact ⟨hl,hn,.inr ⟨g,rest,hA,Nat.le_trans hB hg,hh⟩⟩
theorem gV:(Tryz.prog.info? 3).map (fun i=>(i.zero,i.size,i.bytes))=some (some (O U 0),1,8):=by kernel_rfl
set_option maxHeartbeats 2000000 in
theorem lU (x:aL) (st:Int) (w:World) (h:aM w w.heap.size x) :
  Calls Tryz.prog 140 #[x.val,O U st] w fun e w'=>∃ A' c',e=.returned (.tuple #[F A' (bh (al x && bU st 1 999) (aP (fun r:ae=>decide (r.p=st)) ae.k x.o)).length c',.bool (al x && bU st 1 999)])∧bM w' w.heap.size 3 1 A' (bh (al x && bU st 1 999) (aP (fun r:ae=>decide (r.p=st)) ae.k x.o)).length (bn (bh (al x && bU st 1 999) (aP (fun r:ae=>decide (r.p=st)) ae.k x.o)))∧Below w.heap.size w w':=by
 have b2:=(Below.refl w.heap.size w).alloc (Nat.le_refl _) (.cells #[F x.TA x.t.length x.tc,F x.OA x.o.length x.oc,O U x.got,O U x.sold,O U x.missed] 40)
 have hA:=gq h 40
 have hsW:(w.alloc (.cells #[F x.TA x.t.length x.tc,F x.OA x.o.length x.oc,O U x.got,O U x.sold,O U x.missed] 40)).heap.size=w.heap.size+1:=Array.size_push _
 have HSW:=Lib.hid hsW; clear hsW
 have cG:=fun W hW=>dA x W hW
 cases hg:al x
 ·rw [hg] at cG
  clear hg
  go_enter Tryz.func140,Tryz.ntmps140
  go_wp2_with fail
  generalize (w.alloc (.cells #[F x.TA x.t.length x.tc,F x.OA x.o.length x.oc,O U x.got,O U x.sold,O U x.missed] 40))=W at b2 hA HSW ⊢
  obtain ⟨q0,hq0⟩ : ∃ q0:an W.heap.size W,W.alloc (.cells #[] 3)=q0.val:=⟨⟨W.alloc (.cells #[] 3),(Below.refl _ _).alloc (Nat.le_refl _) _⟩,rfl⟩
  have hO:ah q0.val (w.heap.size+1) 3 []:=by rw [← hq0,← HSW.out]; exact ah.new W 3 #[]
  rw [hq0]
  clear hq0
  refine (cG _ (hA.r.at q0)).mono ?_
  rintro e w1 ⟨rfl,hb1⟩
  obtain ⟨q1,rfl⟩ : ∃ q1:an W.heap.size W,w1=q1.val:=⟨q0.go (Nat.le_refl _) hb1,rfl⟩
  go_wp2
  go_ret2
  show ∃ A' c',_=Ending.returned (.tuple #[F A' ([] : List Int).length c',.bool false])∧bM _ _ _ 1 A' ([] : List Int).length (bn [])∧_
  exact ⟨_,_,rfl,⟨rfl,by simp,.inr ⟨w.heap.size+1,[],rfl,Nat.le_succ _,by simpa using (hO.below (hb1) hO.lt)⟩⟩,b2.trans (q1.below.mono b2.size)⟩
 ·rw [hg] at cG
  have G:=bj.1 hg
  have ol:=G.ol
  have hl:=h.os.big
  clear hg G
  obtain ⟨v2,hv2⟩ : ∃ v,bU st 1 999=v:=⟨_,rfl⟩
  have H2:=Lib.hid hv2
  rw [hv2]
  clear hv2
  cases v2
  ·go_enter Tryz.func140,Tryz.ntmps140
   go_wp2_with fail
   generalize (w.alloc (.cells #[F x.TA x.t.length x.tc,F x.OA x.o.length x.oc,O U x.got,O U x.sold,O U x.missed] 40))=W at b2 hA HSW ⊢
   obtain ⟨q0,hq0⟩ : ∃ q0:an W.heap.size W,W.alloc (.cells #[] 3)=q0.val:=⟨⟨W.alloc (.cells #[] 3),(Below.refl _ _).alloc (Nat.le_refl _) _⟩,rfl⟩
   have hO:ah q0.val (w.heap.size+1) 3 []:=by rw [← hq0,← HSW.out]; exact ah.new W 3 #[]
   rw [hq0]
   clear hq0
   obtain ⟨p0,p1,p2,p3,p4⟩:=hA.s
   refine (cG _ (hA.r.at q0)).mono ?_
   rintro e w1 ⟨rfl,hb1⟩
   obtain ⟨q1,rfl⟩ : ∃ q1:an W.heap.size W,w1=q1.val:=⟨q0.go (Nat.le_refl _) hb1,rfl⟩
   go_wp2_with fail
   refine ((aE st 1 999 _)).mono ?_
   rw [H2.out]
   rintro e w2 ⟨rfl,rfl⟩
   go_wp2
   go_ret2
   show ∃ A' c',_=Ending.returned (.tuple #[F A' ([] : List Int).length c',.bool false])∧bM _ _ _ 1 A' ([] : List Int).length (bn [])∧_
   exact ⟨_,_,rfl,⟨rfl,by simp,.inr ⟨w.heap.size+1,[],rfl,Nat.le_succ _,by simpa using (hO.below (hb1) hO.lt)⟩⟩,b2.trans (q1.below.mono b2.size)⟩
  ·have HF:Hid (aP (fun r:ae=>decide (r.p=st)) ae.k (x.o.drop 0)=aP (fun r:ae=>decide (r.p=st)) ae.k x.o):=rfl
   go_enter Tryz.func140,Tryz.ntmps140
   go_wp2_with fail
   generalize (w.alloc (.cells #[F x.TA x.t.length x.tc,F x.OA x.o.length x.oc,O U x.got,O U x.sold,O U x.missed] 40))=W at b2 hA HSW ⊢
   obtain ⟨q0,hq0⟩ : ∃ q0:an W.heap.size W,W.alloc (.cells #[] 3)=q0.val:=⟨⟨W.alloc (.cells #[] 3),(Below.refl _ _).alloc (Nat.le_refl _) _⟩,rfl⟩
   have hO:ah q0.val (w.heap.size+1) 3 []:=by rw [← hq0,← HSW.out]; exact ah.new W 3 #[]
   rw [hq0]
   clear hq0
   obtain ⟨p0,p1,p2,p3,p4⟩:=hA.s
   have hro:=hA.r.os.el
   refine (cG _ (hA.r.at q0)).mono ?_
   rintro e w1 ⟨rfl,hb1⟩
   obtain ⟨q1,rfl⟩ : ∃ q1:an W.heap.size W,w1=q1.val:=⟨q0.go (Nat.le_refl _) hb1,rfl⟩
   go_wp2_with fail
   refine ((aE st 1 999 _)).mono ?_
   rw [H2.out]
   rintro e w2 ⟨rfl,rfl⟩
   obtain ⟨OA,hOA⟩ : ∃ A,x.OA=A:=⟨_,rfl⟩
   rw [hOA] at hro
   simp only [hOA] at p1
   clear hOA
   go_wp2
   go_loopw [6,7] (fun out i wr=>∃ (k:Nat) (acc:List Int),k≤x.o.length∧i=O U k∧acc.length≤k∧Hid (wr.ownsRow W.heap.size 3 1 out acc.length (bn acc))∧(Below W.heap.size W wr)∧Hid (acc++aP (fun r:ae=>decide (r.p=st)) ae.k (x.o.drop k)=aP (fun r:ae=>decide (r.p=st)) ae.k x.o)) (fun _ i _=>x.o.length - (intOf i).toNat)
   case atStart=>exact ⟨0,[],Nat.zero_le _,rfl,Nat.zero_le _,((hO.below (hb1) hO.lt).own (B:=W.heap.size) (k:=1) (n:=0) (by rw [HSW.out]; exact Nat.le_refl _) rfl (by unfold maxLen; omega)),q1.below,HF⟩
   case round =>
    obtain ⟨k,acc,hk,rfl,hacc,HO,hbr,HR⟩:=hrel
    obtain ⟨q,rfl⟩ : ∃ q:an W.heap.size W,wr=q.val:=⟨⟨wr,hbr⟩,rfl⟩
    by_cases hlt:k < x.o.length
    ·obtain ⟨b,off,rfl,hb,hcell⟩:=hro (by omega)
     obtain ⟨e0,e1,e2⟩:=hcell k hlt
     have hy:=fun hv=>jo (sel:=(fun r:ae=>decide (r.p=st))) (get:=ae.k) hlt hv
     have hn:=fun hv=>kq (sel:=(fun r:ae=>decide (r.p=st))) (get:=ae.k) hlt hv
     obtain ⟨r,hre⟩ : ∃ r,r=x.o[k]:=⟨_,rfl⟩
     rw [← hre] at e0 e1 e2 hy hn
     clear hre hcell hro
     by_cases hz:r.p=st
     ·have hv:(r.p == st)=true:=by simp [hz]
      have HE:Hid ((acc++[r.k])++aP (fun r:ae=>decide (r.p=st)) ae.k (x.o.drop (k+1))=aP (fun r:ae=>decide (r.p=st)) ae.k x.o):=by
       have h1:=HR.out; rw [hy (decide_eq_true hz)] at h1; unfold Hid; rw [List.append_assoc]; exact h1
      clear hy hn hz HR
      go_wp2_with (at_builtin; refine bY (w0:=q.val) rfl _ _ 100 rfl 3 (O U 0) 1 8 Tryz.underlying100 gV rfl (by decide) (by omega) W.heap.size _ _ _ rfl HO #[O U r.k] 1 _ rfl (by first | rfl | exact Array.size_push _) rfl (by simp [Value.oneCell']) (by omega) q.size rfl rfl rfl rfl ?_; intro v' w3 HO3 hg3 hb3)
      obtain ⟨A3,c3,rfl⟩:=av HO3.out
      go_wp2
      go_roundw
      case rel=>exact ⟨k+1,acc++[r.k],by omega,by go_num,by simp; omega,by rw [List.length_append]; unfold bn at HO3 ⊢; rw [List.map_append]; exact HO3,q.below.grown hg3 q.size (fun g hg=>(HO.out.lt g hg).1),HE⟩
      case measure=>simp [intOf]; omega
     ·have hv:(r.p == st)=false:=by simp [hz]
      have HE:Hid (acc++aP (fun r:ae=>decide (r.p=st)) ae.k (x.o.drop (k+1))=aP (fun r:ae=>decide (r.p=st)) ae.k x.o):=by
       have h1:=HR.out; rw [hn (decide_eq_false hz)] at h1; exact h1
      clear hy hn hz HR
      go_wp2
      go_roundw
      case rel=>exact ⟨k+1,acc,by omega,by go_num,by omega,HO,q.below,HE⟩
      case measure=>simp [intOf]; omega
    ·have HE:Hid (acc=aP (fun r:ae=>decide (r.p=st)) ae.k x.o):=by
      have h1:=HR.out; rw [List.drop_eq_nil_of_le (by omega),show aP (fun r:ae=>decide (r.p=st)) ae.k [] = [] from rfl,List.append_nil] at h1; exact h1
     obtain ⟨A3,c3,rfl⟩:=av HO.out
     clear hro
     go_wp2
     go_ret2
     have e1:bh (true && true) (aP (fun r:ae=>decide (r.p=st)) ae.k x.o)=acc:=HE.out.symm
     rw [e1]
     exact ⟨_,_,rfl,(bM.of HO.out).lower b2.size,b2.trans (q.below.mono b2.size)⟩
set_option maxHeartbeats 2000000 in
theorem lV (x:aL) (st:Int) (w:World) (h:aM w w.heap.size x) :
  Calls Tryz.prog 154 #[x.val,O U st] w fun e w'=>∃ A' c',e=.returned (.tuple #[F A' (bh (al x && bU st 1 999) (aP (fun r:ae=>decide (r.p=st)) ae.k x.o)).length c',.bool (al x && bU st 1 999)])∧bM w' w.heap.size 3 1 A' (bh (al x && bU st 1 999) (aP (fun r:ae=>decide (r.p=st)) ae.k x.o)).length (bn (bh (al x && bU st 1 999) (aP (fun r:ae=>decide (r.p=st)) ae.k x.o)))∧Below w.heap.size w w':=by
 have b2:=(Below.refl w.heap.size w).alloc (Nat.le_refl _) (.cells #[F x.TA x.t.length x.tc,F x.OA x.o.length x.oc,O U x.got,O U x.sold,O U x.missed] 40)
 have hA:=gq h 40
 have hsW:(w.alloc (.cells #[F x.TA x.t.length x.tc,F x.OA x.o.length x.oc,O U x.got,O U x.sold,O U x.missed] 40)).heap.size=w.heap.size+1:=Array.size_push _
 have HSW:=Lib.hid hsW; clear hsW
 have cG:=fun W hW=>aX x w.heap.size W hW
 cases hg:al x
 ·rw [hg] at cG
  clear hg
  go_enter Tryz.func154,Tryz.ntmps154
  go_wp2_with fail
  generalize (w.alloc (.cells #[F x.TA x.t.length x.tc,F x.OA x.o.length x.oc,O U x.got,O U x.sold,O U x.missed] 40))=W at b2 hA HSW ⊢
  refine (aT (cG _ hA)).mono ?_
  rintro e w1 ⟨rfl,q1,rfl⟩
  go_wp2
  go_ret2
  show ∃ A' c',_=Ending.returned (.tuple #[F A' ([] : List Int).length c',.bool false])∧bM _ _ _ 1 A' ([] : List Int).length (bn [])∧_
  exact ⟨_,_,rfl,⟨rfl,by simp,.inl ⟨rfl,rfl⟩⟩,b2.trans (q1.below.mono b2.size)⟩
 ·rw [hg] at cG
  have G:=bj.1 hg
  have ol:=G.ol
  have hl:=h.os.big
  clear hg G
  obtain ⟨v2,hv2⟩ : ∃ v,bU st 1 999=v:=⟨_,rfl⟩
  have H2:=Lib.hid hv2
  rw [hv2]
  clear hv2
  cases v2
  ·go_enter Tryz.func154,Tryz.ntmps154
   go_wp2_with fail
   generalize (w.alloc (.cells #[F x.TA x.t.length x.tc,F x.OA x.o.length x.oc,O U x.got,O U x.sold,O U x.missed] 40))=W at b2 hA HSW ⊢
   obtain ⟨p0,p1,p2,p3,p4⟩:=hA.s
   refine (aT (cG _ hA)).mono ?_
   rintro e w1 ⟨rfl,q1,rfl⟩
   go_wp2_with fail
   refine ((bB st _)).mono ?_
   rw [H2.out]
   rintro e w2 ⟨rfl,rfl⟩
   go_wp2
   go_ret2
   show ∃ A' c',_=Ending.returned (.tuple #[F A' ([] : List Int).length c',.bool false])∧bM _ _ _ 1 A' ([] : List Int).length (bn [])∧_
   exact ⟨_,_,rfl,⟨rfl,by simp,.inl ⟨rfl,rfl⟩⟩,b2.trans (q1.below.mono b2.size)⟩
  ·have HF:Hid (aP (fun r:ae=>decide (r.p=st)) ae.k (x.o.drop 0)=aP (fun r:ae=>decide (r.p=st)) ae.k x.o):=rfl
   go_enter Tryz.func154,Tryz.ntmps154
   go_wp2_with fail
   generalize (w.alloc (.cells #[F x.TA x.t.length x.tc,F x.OA x.o.length x.oc,O U x.got,O U x.sold,O U x.missed] 40))=W at b2 hA HSW ⊢
   obtain ⟨p0,p1,p2,p3,p4⟩:=hA.s
   have hro:=hA.r.os.el
   refine (aT (cG _ hA)).mono ?_
   rintro e w1 ⟨rfl,q1,rfl⟩
   go_wp2_with fail
   refine ((bB st _)).mono ?_
   rw [H2.out]
   rintro e w2 ⟨rfl,rfl⟩
   obtain ⟨OA,hOA⟩ : ∃ A,x.OA=A:=⟨_,rfl⟩
   rw [hOA] at hro
   simp only [hOA] at p1
   clear hOA
   go_wp2
   go_loopw [6,19] (fun out i wr=>∃ (k:Nat) (acc:List Int),k≤x.o.length∧i=O U k∧acc.length≤k∧Hid (wr.ownsRow W.heap.size 3 1 out acc.length (bn acc))∧(Below W.heap.size W wr)∧Hid (acc++aP (fun r:ae=>decide (r.p=st)) ae.k (x.o.drop k)=aP (fun r:ae=>decide (r.p=st)) ae.k x.o)) (fun _ i _=>x.o.length - (intOf i).toNat)
   case atStart=>exact ⟨0,[],Nat.zero_le _,rfl,Nat.zero_le _,(World.ownsRow_nil _ _ _ _),q1.below,HF⟩
   case round =>
    obtain ⟨k,acc,hk,rfl,hacc,HO,hbr,HR⟩:=hrel
    obtain ⟨q,rfl⟩ : ∃ q:an W.heap.size W,wr=q.val:=⟨⟨wr,hbr⟩,rfl⟩
    by_cases hlt:k < x.o.length
    ·obtain ⟨b,off,rfl,hb,hcell⟩:=hro (by omega)
     obtain ⟨e0,e1,e2⟩:=hcell k hlt
     have hy:=fun hv=>jo (sel:=(fun r:ae=>decide (r.p=st))) (get:=ae.k) hlt hv
     have hn:=fun hv=>kq (sel:=(fun r:ae=>decide (r.p=st))) (get:=ae.k) hlt hv
     obtain ⟨r,hre⟩ : ∃ r,r=x.o[k]:=⟨_,rfl⟩
     rw [← hre] at e0 e1 e2 hy hn
     clear hre hcell hro
     by_cases hz:r.p=st
     ·have hv:(r.p == st)=true:=by simp [hz]
      have HE:Hid ((acc++[r.k])++aP (fun r:ae=>decide (r.p=st)) ae.k (x.o.drop (k+1))=aP (fun r:ae=>decide (r.p=st)) ae.k x.o):=by
       have h1:=HR.out; rw [hy (decide_eq_true hz)] at h1; unfold Hid; rw [List.append_assoc]; exact h1
      clear hy hn hz HR
      have HOW:=Lib.hid (HO.out.alloc (.cells #[O U r.k,O U r.p,O U r.c] 147))
      have hbV:=q.below.alloc q.size (.cells #[O U r.k,O U r.p,O U r.c] 147)
      have hsV:=hbV.size
      clear HO
      go_wp2_with (at_builtin; refine bY (w0:=q.val.alloc (.cells #[O U r.k,O U r.p,O U r.c] 147)) rfl _ _ 100 rfl 3 (O U 0) 1 8 Tryz.underlying100 gV rfl (by decide) (by omega) W.heap.size _ _ _ rfl HOW #[O U r.k] 1 _ rfl (by first | rfl | exact Array.size_push _) rfl (by simp [Value.oneCell']) (by omega) hsV rfl rfl rfl rfl ?_; intro v' w3 HO3 hg3 hb3)
      obtain ⟨A3,c3,rfl⟩:=av HO3.out
      go_wp2
      go_roundw
      case rel=>exact ⟨k+1,acc++[r.k],by omega,by go_num,by simp; omega,by rw [List.length_append]; unfold bn at HO3 ⊢; rw [List.map_append]; exact HO3,hbV.grown hg3 hbV.size (fun g hg=>(HOW.out.lt g hg).1),HE⟩
      case measure=>simp [intOf]; omega
     ·have hv:(r.p == st)=false:=by simp [hz]
      have HE:Hid (acc++aP (fun r:ae=>decide (r.p=st)) ae.k (x.o.drop (k+1))=aP (fun r:ae=>decide (r.p=st)) ae.k x.o):=by
       have h1:=HR.out; rw [hn (decide_eq_false hz)] at h1; exact h1
      clear hy hn hz HR
      go_wp2
      go_roundw
      case rel=>exact ⟨k+1,acc,by omega,by go_num,by omega,Lib.hid (HO.out.alloc _),q.below.alloc q.size _,HE⟩
      case measure=>simp [intOf]; omega
    ·have HE:Hid (acc=aP (fun r:ae=>decide (r.p=st)) ae.k x.o):=by
      have h1:=HR.out; rw [List.drop_eq_nil_of_le (by omega),show aP (fun r:ae=>decide (r.p=st)) ae.k [] = [] from rfl,List.append_nil] at h1; exact h1
     obtain ⟨A3,c3,rfl⟩:=av HO.out
     clear hro
     go_wp2
     go_ret2
     have e1:bh (true && true) (aP (fun r:ae=>decide (r.p=st)) ae.k x.o)=acc:=HE.out.symm
     rw [e1]
     exact ⟨_,_,rfl,(bM.of HO.out).lower b2.size,b2.trans (q.below.mono b2.size)⟩
set_option maxHeartbeats 2000000 in
theorem jx (x:aL) (st:Int) (w:World) (h:aM w w.heap.size x) :
  Calls Tryz.prog 142 #[x.val,O U st] w fun e w'=>∃ A' c',e=.returned (.tuple #[F A' (bh (al x && aO x.t st) (aP (fun r:ae=>decide (r.k=st)) ae.p x.o)).length c',.bool (al x && aO x.t st)])∧bM w' w.heap.size 3 1 A' (bh (al x && aO x.t st) (aP (fun r:ae=>decide (r.k=st)) ae.p x.o)).length (bn (bh (al x && aO x.t st) (aP (fun r:ae=>decide (r.k=st)) ae.p x.o)))∧Below w.heap.size w w':=by
 have b2:=(Below.refl w.heap.size w).alloc (Nat.le_refl _) (.cells #[F x.TA x.t.length x.tc,F x.OA x.o.length x.oc,O U x.got,O U x.sold,O U x.missed] 40)
 have hA:=gq h 40
 have hsW:(w.alloc (.cells #[F x.TA x.t.length x.tc,F x.OA x.o.length x.oc,O U x.got,O U x.sold,O U x.missed] 40)).heap.size=w.heap.size+1:=Array.size_push _
 have HSW:=Lib.hid hsW; clear hsW
 have cG:=fun W hW=>dA x W hW
 cases hg:al x
 ·rw [hg] at cG
  clear hg
  go_enter Tryz.func142,Tryz.ntmps142
  go_wp2_with fail
  generalize (w.alloc (.cells #[F x.TA x.t.length x.tc,F x.OA x.o.length x.oc,O U x.got,O U x.sold,O U x.missed] 40))=W at b2 hA HSW ⊢
  obtain ⟨q0,hq0⟩ : ∃ q0:an W.heap.size W,W.alloc (.cells #[] 3)=q0.val:=⟨⟨W.alloc (.cells #[] 3),(Below.refl _ _).alloc (Nat.le_refl _) _⟩,rfl⟩
  have hO:ah q0.val (w.heap.size+1) 3 []:=by rw [← hq0,← HSW.out]; exact ah.new W 3 #[]
  rw [hq0]
  clear hq0
  refine (cG _ (hA.r.at q0)).mono ?_
  rintro e w1 ⟨rfl,hb1⟩
  obtain ⟨q1,rfl⟩ : ∃ q1:an W.heap.size W,w1=q1.val:=⟨q0.go (Nat.le_refl _) hb1,rfl⟩
  go_wp2
  go_ret2
  show ∃ A' c',_=Ending.returned (.tuple #[F A' ([] : List Int).length c',.bool false])∧bM _ _ _ 1 A' ([] : List Int).length (bn [])∧_
  exact ⟨_,_,rfl,⟨rfl,by simp,.inr ⟨w.heap.size+1,[],rfl,Nat.le_succ _,by simpa using (hO.below (hb1) hO.lt)⟩⟩,b2.trans (q1.below.mono b2.size)⟩
 ·rw [hg] at cG
  have G:=bj.1 hg
  have ol:=G.ol
  have hl:=h.os.big
  clear hg G
  obtain ⟨X,hX⟩ : ∃ X,au x.t st=X:=⟨_,rfl⟩
  have HX:Hid (Value.int .i64 (au x.t st)=O U X):=by rw [hX]; rfl
  obtain ⟨v2,hv2⟩ : ∃ v,aO x.t st=v:=⟨_,rfl⟩
  have hX0:decide (0≤X)=v2:=by rw [← hX,← hv2]; exact de _ _
  rw [hv2]
  clear hX hv2
  cases v2
  ·go_enter Tryz.func142,Tryz.ntmps142
   have hX1:X < 0:=by have:=of_decide_eq_false hX0; omega
   clear hX0
   go_wp2_with fail
   generalize (w.alloc (.cells #[F x.TA x.t.length x.tc,F x.OA x.o.length x.oc,O U x.got,O U x.sold,O U x.missed] 40))=W at b2 hA HSW ⊢
   obtain ⟨q0,hq0⟩ : ∃ q0:an W.heap.size W,W.alloc (.cells #[] 3)=q0.val:=⟨⟨W.alloc (.cells #[] 3),(Below.refl _ _).alloc (Nat.le_refl _) _⟩,rfl⟩
   have hO:ah q0.val (w.heap.size+1) 3 []:=by rw [← hq0,← HSW.out]; exact ah.new W 3 #[]
   rw [hq0]
   clear hq0
   obtain ⟨p0,p1,p2,p3,p4⟩:=hA.s
   refine (cG _ (hA.r.at q0)).mono ?_
   rintro e w1 ⟨rfl,hb1⟩
   obtain ⟨q1,rfl⟩ : ∃ q1:an W.heap.size W,w1=q1.val:=⟨q0.go (Nat.le_refl _) hb1,rfl⟩
   go_wp2_with fail
   refine (bx x st _ (hA.r.at q1)).mono ?_
   rw [HX.out]
   rintro e w2 ⟨rfl,hb2⟩
   have hb12:=aq hb1 hb2
   obtain ⟨q2,rfl⟩ : ∃ q2:an W.heap.size W,w2=q2.val:=⟨q1.go (Nat.le_refl _) hb2,rfl⟩
   go_wp2
   go_ret2
   show ∃ A' c',_=Ending.returned (.tuple #[F A' ([] : List Int).length c',.bool false])∧bM _ _ _ 1 A' ([] : List Int).length (bn [])∧_
   exact ⟨_,_,rfl,⟨rfl,by simp,.inr ⟨w.heap.size+1,[],rfl,Nat.le_succ _,by simpa using (hO.below (hb12) hO.lt)⟩⟩,b2.trans (q2.below.mono b2.size)⟩
  ·have HF:Hid (aP (fun r:ae=>decide (r.k=st)) ae.p (x.o.drop 0)=aP (fun r:ae=>decide (r.k=st)) ae.p x.o):=rfl
   have hX1:0≤X:=of_decide_eq_true hX0
   clear hX0
   go_enter Tryz.func142,Tryz.ntmps142
   go_wp2_with fail
   generalize (w.alloc (.cells #[F x.TA x.t.length x.tc,F x.OA x.o.length x.oc,O U x.got,O U x.sold,O U x.missed] 40))=W at b2 hA HSW ⊢
   obtain ⟨q0,hq0⟩ : ∃ q0:an W.heap.size W,W.alloc (.cells #[] 3)=q0.val:=⟨⟨W.alloc (.cells #[] 3),(Below.refl _ _).alloc (Nat.le_refl _) _⟩,rfl⟩
   have hO:ah q0.val (w.heap.size+1) 3 []:=by rw [← hq0,← HSW.out]; exact ah.new W 3 #[]
   rw [hq0]
   clear hq0
   obtain ⟨p0,p1,p2,p3,p4⟩:=hA.s
   have hro:=hA.r.os.el
   refine (cG _ (hA.r.at q0)).mono ?_
   rintro e w1 ⟨rfl,hb1⟩
   obtain ⟨q1,rfl⟩ : ∃ q1:an W.heap.size W,w1=q1.val:=⟨q0.go (Nat.le_refl _) hb1,rfl⟩
   go_wp2_with fail
   refine (bx x st _ (hA.r.at q1)).mono ?_
   rw [HX.out]
   rintro e w2 ⟨rfl,hb2⟩
   have hb12:=aq hb1 hb2
   obtain ⟨q2,rfl⟩ : ∃ q2:an W.heap.size W,w2=q2.val:=⟨q1.go (Nat.le_refl _) hb2,rfl⟩
   obtain ⟨OA,hOA⟩ : ∃ A,x.OA=A:=⟨_,rfl⟩
   rw [hOA] at hro
   simp only [hOA] at p1
   clear hOA
   go_wp2
   go_loopw [6,7] (fun out i wr=>∃ (k:Nat) (acc:List Int),k≤x.o.length∧i=O U k∧acc.length≤k∧Hid (wr.ownsRow W.heap.size 3 1 out acc.length (bn acc))∧(Below W.heap.size W wr)∧Hid (acc++aP (fun r:ae=>decide (r.k=st)) ae.p (x.o.drop k)=aP (fun r:ae=>decide (r.k=st)) ae.p x.o)) (fun _ i _=>x.o.length - (intOf i).toNat)
   case atStart=>exact ⟨0,[],Nat.zero_le _,rfl,Nat.zero_le _,((hO.below (hb12) hO.lt).own (B:=W.heap.size) (k:=1) (n:=0) (by rw [HSW.out]; exact Nat.le_refl _) rfl (by unfold maxLen; omega)),q2.below,HF⟩
   case round =>
    obtain ⟨k,acc,hk,rfl,hacc,HO,hbr,HR⟩:=hrel
    obtain ⟨q,rfl⟩ : ∃ q:an W.heap.size W,wr=q.val:=⟨⟨wr,hbr⟩,rfl⟩
    by_cases hlt:k < x.o.length
    ·obtain ⟨b,off,rfl,hb,hcell⟩:=hro (by omega)
     obtain ⟨e0,e1,e2⟩:=hcell k hlt
     have hy:=fun hv=>jo (sel:=(fun r:ae=>decide (r.k=st))) (get:=ae.p) hlt hv
     have hn:=fun hv=>kq (sel:=(fun r:ae=>decide (r.k=st))) (get:=ae.p) hlt hv
     obtain ⟨r,hre⟩ : ∃ r,r=x.o[k]:=⟨_,rfl⟩
     rw [← hre] at e0 e1 e2 hy hn
     clear hre hcell hro
     by_cases hz:r.k=st
     ·have hv:(r.k == st)=true:=by simp [hz]
      have HE:Hid ((acc++[r.p])++aP (fun r:ae=>decide (r.k=st)) ae.p (x.o.drop (k+1))=aP (fun r:ae=>decide (r.k=st)) ae.p x.o):=by
       have h1:=HR.out; rw [hy (decide_eq_true hz)] at h1; unfold Hid; rw [List.append_assoc]; exact h1
      clear hy hn hz HR
      go_wp2_with (at_builtin; refine bY (w0:=q.val) rfl _ _ 100 rfl 3 (O U 0) 1 8 Tryz.underlying100 gV rfl (by decide) (by omega) W.heap.size _ _ _ rfl HO #[O U r.p] 1 _ rfl (by first | rfl | exact Array.size_push _) rfl (by simp [Value.oneCell']) (by omega) q.size rfl rfl rfl rfl ?_; intro v' w3 HO3 hg3 hb3)
      obtain ⟨A3,c3,rfl⟩:=av HO3.out
      go_wp2
      go_roundw
      case rel=>exact ⟨k+1,acc++[r.p],by omega,by go_num,by simp; omega,by rw [List.length_append]; unfold bn at HO3 ⊢; rw [List.map_append]; exact HO3,q.below.grown hg3 q.size (fun g hg=>(HO.out.lt g hg).1),HE⟩
      case measure=>simp [intOf]; omega
     ·have hv:(r.k == st)=false:=by simp [hz]
      have HE:Hid (acc++aP (fun r:ae=>decide (r.k=st)) ae.p (x.o.drop (k+1))=aP (fun r:ae=>decide (r.k=st)) ae.p x.o):=by
       have h1:=HR.out; rw [hn (decide_eq_false hz)] at h1; exact h1
      clear hy hn hz HR
      go_wp2
      go_roundw
      case rel=>exact ⟨k+1,acc,by omega,by go_num,by omega,HO,q.below,HE⟩
      case measure=>simp [intOf]; omega
    ·have HE:Hid (acc=aP (fun r:ae=>decide (r.k=st)) ae.p x.o):=by
      have h1:=HR.out; rw [List.drop_eq_nil_of_le (by omega),show aP (fun r:ae=>decide (r.k=st)) ae.p [] = [] from rfl,List.append_nil] at h1; exact h1
     obtain ⟨A3,c3,rfl⟩:=av HO.out
     clear hro
     go_wp2
     go_ret2
     have e1:bh (true && true) (aP (fun r:ae=>decide (r.k=st)) ae.p x.o)=acc:=HE.out.symm
     rw [e1]
     exact ⟨_,_,rfl,(bM.of HO.out).lower b2.size,b2.trans (q.below.mono b2.size)⟩
set_option maxHeartbeats 2000000 in
theorem jy (x:aL) (st:Int) (w:World) (h:aM w w.heap.size x) :
  Calls Tryz.prog 155 #[x.val,O U st] w fun e w'=>∃ A' c',e=.returned (.tuple #[F A' (bh (al x && aO x.t st) (aP (fun r:ae=>decide (r.k=st)) ae.p x.o)).length c',.bool (al x && aO x.t st)])∧bM w' w.heap.size 3 1 A' (bh (al x && aO x.t st) (aP (fun r:ae=>decide (r.k=st)) ae.p x.o)).length (bn (bh (al x && aO x.t st) (aP (fun r:ae=>decide (r.k=st)) ae.p x.o)))∧Below w.heap.size w w':=by
 have b2:=(Below.refl w.heap.size w).alloc (Nat.le_refl _) (.cells #[F x.TA x.t.length x.tc,F x.OA x.o.length x.oc,O U x.got,O U x.sold,O U x.missed] 40)
 have hA:=gq h 40
 have hsW:(w.alloc (.cells #[F x.TA x.t.length x.tc,F x.OA x.o.length x.oc,O U x.got,O U x.sold,O U x.missed] 40)).heap.size=w.heap.size+1:=Array.size_push _
 have HSW:=Lib.hid hsW; clear hsW
 have cG:=fun W hW=>aX x w.heap.size W hW
 cases hg:al x
 ·rw [hg] at cG
  clear hg
  go_enter Tryz.func155,Tryz.ntmps155
  go_wp2_with fail
  generalize (w.alloc (.cells #[F x.TA x.t.length x.tc,F x.OA x.o.length x.oc,O U x.got,O U x.sold,O U x.missed] 40))=W at b2 hA HSW ⊢
  refine (aT (cG _ hA)).mono ?_
  rintro e w1 ⟨rfl,q1,rfl⟩
  go_wp2
  go_ret2
  show ∃ A' c',_=Ending.returned (.tuple #[F A' ([] : List Int).length c',.bool false])∧bM _ _ _ 1 A' ([] : List Int).length (bn [])∧_
  exact ⟨_,_,rfl,⟨rfl,by simp,.inl ⟨rfl,rfl⟩⟩,b2.trans (q1.below.mono b2.size)⟩
 ·rw [hg] at cG
  have G:=bj.1 hg
  have ol:=G.ol
  have hl:=h.os.big
  clear hg G
  obtain ⟨X,hX⟩ : ∃ X,au x.t st=X:=⟨_,rfl⟩
  have HX:Hid (Value.int .i64 (au x.t st)=O U X):=by rw [hX]; rfl
  obtain ⟨v2,hv2⟩ : ∃ v,aO x.t st=v:=⟨_,rfl⟩
  have hX0:decide (0≤X)=v2:=by rw [← hX,← hv2]; exact de _ _
  rw [hv2]
  clear hX hv2
  cases v2
  ·go_enter Tryz.func155,Tryz.ntmps155
   have hX1:X < 0:=by have:=of_decide_eq_false hX0; omega
   clear hX0
   go_wp2_with fail
   generalize (w.alloc (.cells #[F x.TA x.t.length x.tc,F x.OA x.o.length x.oc,O U x.got,O U x.sold,O U x.missed] 40))=W at b2 hA HSW ⊢
   obtain ⟨p0,p1,p2,p3,p4⟩:=hA.s
   refine (aT (cG _ hA)).mono ?_
   rintro e w1 ⟨rfl,q1,rfl⟩
   go_wp2_with fail
   refine (aQ HX (Nat.le_refl _) (bc x w.heap.size st _ (hA.at q1))).mono ?_
   rintro e w2 ⟨rfl,q2,rfl⟩
   go_wp2
   go_ret2
   show ∃ A' c',_=Ending.returned (.tuple #[F A' ([] : List Int).length c',.bool false])∧bM _ _ _ 1 A' ([] : List Int).length (bn [])∧_
   exact ⟨_,_,rfl,⟨rfl,by simp,.inl ⟨rfl,rfl⟩⟩,b2.trans (q2.below.mono b2.size)⟩
  ·have HF:Hid (aP (fun r:ae=>decide (r.k=st)) ae.p (x.o.drop 0)=aP (fun r:ae=>decide (r.k=st)) ae.p x.o):=rfl
   have hX1:0≤X:=of_decide_eq_true hX0
   clear hX0
   go_enter Tryz.func155,Tryz.ntmps155
   go_wp2_with fail
   generalize (w.alloc (.cells #[F x.TA x.t.length x.tc,F x.OA x.o.length x.oc,O U x.got,O U x.sold,O U x.missed] 40))=W at b2 hA HSW ⊢
   obtain ⟨p0,p1,p2,p3,p4⟩:=hA.s
   have hro:=hA.r.os.el
   refine (aT (cG _ hA)).mono ?_
   rintro e w1 ⟨rfl,q1,rfl⟩
   go_wp2_with fail
   refine (aQ HX (Nat.le_refl _) (bc x w.heap.size st _ (hA.at q1))).mono ?_
   rintro e w2 ⟨rfl,q2,rfl⟩
   obtain ⟨OA,hOA⟩ : ∃ A,x.OA=A:=⟨_,rfl⟩
   rw [hOA] at hro
   simp only [hOA] at p1
   clear hOA
   go_wp2
   go_loopw [6,19] (fun out i wr=>∃ (k:Nat) (acc:List Int),k≤x.o.length∧i=O U k∧acc.length≤k∧Hid (wr.ownsRow W.heap.size 3 1 out acc.length (bn acc))∧(Below W.heap.size W wr)∧Hid (acc++aP (fun r:ae=>decide (r.k=st)) ae.p (x.o.drop k)=aP (fun r:ae=>decide (r.k=st)) ae.p x.o)) (fun _ i _=>x.o.length - (intOf i).toNat)
   case atStart=>exact ⟨0,[],Nat.zero_le _,rfl,Nat.zero_le _,(World.ownsRow_nil _ _ _ _),q2.below,HF⟩
   case round =>
    obtain ⟨k,acc,hk,rfl,hacc,HO,hbr,HR⟩:=hrel
    obtain ⟨q,rfl⟩ : ∃ q:an W.heap.size W,wr=q.val:=⟨⟨wr,hbr⟩,rfl⟩
    by_cases hlt:k < x.o.length
    ·obtain ⟨b,off,rfl,hb,hcell⟩:=hro (by omega)
     obtain ⟨e0,e1,e2⟩:=hcell k hlt
     have hy:=fun hv=>jo (sel:=(fun r:ae=>decide (r.k=st))) (get:=ae.p) hlt hv
     have hn:=fun hv=>kq (sel:=(fun r:ae=>decide (r.k=st))) (get:=ae.p) hlt hv
     obtain ⟨r,hre⟩ : ∃ r,r=x.o[k]:=⟨_,rfl⟩
     rw [← hre] at e0 e1 e2 hy hn
     clear hre hcell hro
     by_cases hz:r.k=st
     ·have hv:(r.k == st)=true:=by simp [hz]
      have HE:Hid ((acc++[r.p])++aP (fun r:ae=>decide (r.k=st)) ae.p (x.o.drop (k+1))=aP (fun r:ae=>decide (r.k=st)) ae.p x.o):=by
       have h1:=HR.out; rw [hy (decide_eq_true hz)] at h1; unfold Hid; rw [List.append_assoc]; exact h1
      clear hy hn hz HR
      have HOW:=Lib.hid (HO.out.alloc (.cells #[O U r.k,O U r.p,O U r.c] 147))
      have hbV:=q.below.alloc q.size (.cells #[O U r.k,O U r.p,O U r.c] 147)
      have hsV:=hbV.size
      clear HO
      go_wp2_with (at_builtin; refine bY (w0:=q.val.alloc (.cells #[O U r.k,O U r.p,O U r.c] 147)) rfl _ _ 100 rfl 3 (O U 0) 1 8 Tryz.underlying100 gV rfl (by decide) (by omega) W.heap.size _ _ _ rfl HOW #[O U r.p] 1 _ rfl (by first | rfl | exact Array.size_push _) rfl (by simp [Value.oneCell']) (by omega) hsV rfl rfl rfl rfl ?_; intro v' w3 HO3 hg3 hb3)
      obtain ⟨A3,c3,rfl⟩:=av HO3.out
      go_wp2
      go_roundw
      case rel=>exact ⟨k+1,acc++[r.p],by omega,by go_num,by simp; omega,by rw [List.length_append]; unfold bn at HO3 ⊢; rw [List.map_append]; exact HO3,hbV.grown hg3 hbV.size (fun g hg=>(HOW.out.lt g hg).1),HE⟩
      case measure=>simp [intOf]; omega
     ·have hv:(r.k == st)=false:=by simp [hz]
      have HE:Hid (acc++aP (fun r:ae=>decide (r.k=st)) ae.p (x.o.drop (k+1))=aP (fun r:ae=>decide (r.k=st)) ae.p x.o):=by
       have h1:=HR.out; rw [hn (decide_eq_false hz)] at h1; exact h1
      clear hy hn hz HR
      go_wp2
      go_roundw
      case rel=>exact ⟨k+1,acc,by omega,by go_num,by omega,Lib.hid (HO.out.alloc _),q.below.alloc q.size _,HE⟩
      case measure=>simp [intOf]; omega
    ·have HE:Hid (acc=aP (fun r:ae=>decide (r.k=st)) ae.p x.o):=by
      have h1:=HR.out; rw [List.drop_eq_nil_of_le (by omega),show aP (fun r:ae=>decide (r.k=st)) ae.p [] = [] from rfl,List.append_nil] at h1; exact h1
     obtain ⟨A3,c3,rfl⟩:=av HO.out
     clear hro
     go_wp2
     go_ret2
     have e1:bh (true && true) (aP (fun r:ae=>decide (r.k=st)) ae.p x.o)=acc:=HE.out.symm
     rw [e1]
     exact ⟨_,_,rfl,(bM.of HO.out).lower b2.size,b2.trans (q.below.mono b2.size)⟩
def iQ (l:List ae) (p:Int):Int:=aS (fun o=>decide (o.p=p)) l
def cU (l:List ae):List ae→Int × Int→Int × Int
 | [],b=>b
 | r :: rest,b=>cU l rest (if b.2 < iQ l r.p ∨ iQ l r.p=b.2∧r.p < b.1 then (r.p,iQ l r.p) else b)
def gy (l:List ae):Nat→Int→Int × Int→Int × Int
 | 0,_,b=>b
 | n+1,p,b=>gy l n (p+1) (if b.2 < iQ l p then (p,iQ l p) else b)
theorem gz (f:ae→Bool):∀ (l:List ae) (s:Int),(∀ r ∈ l,1≤r.c)→s≤bs f s l
 | [],s,_=>Int.le_refl _
 | r :: l,s,h=>by
  have h1:=h r (List.mem_cons_self ..)
  have:=gz f l (if f r then s+r.c else s) (fun x hx=>h x (List.mem_cons_of_mem _ hx))
  simp only [bs]
  cases hf:f r <;> simp only [hf,if_true,if_false,Bool.false_eq_true] at this ⊢ <;> omega
theorem je (f:ae→Bool):∀ (l:List ae) (s:Int),(∀ r ∈ l,1≤r.c)→(∃ r ∈ l,f r=true)→s < bs f s l
 | [],_,_,⟨_,h,_⟩=>by cases h
 | r :: l,s,h,⟨x,hx,hf⟩=>by
  have h1:=h r (List.mem_cons_self ..)
  have hl:∀ y ∈ l,1≤y.c:=fun y hy=>h y (List.mem_cons_of_mem _ hy)
  simp only [bs]
  cases hr:f r
  ·simp only [Bool.false_eq_true,if_false]
   rcases List.mem_cons.1 hx with rfl | hx
   ·rw [hf] at hr; cases hr
   ·exact je f l s hl ⟨x,hx,hf⟩
  ·simp only [if_true]
   have:=gz f l (s+r.c) hl
   omega
theorem kr (f:ae→Bool):∀ (l:List ae) (s:Int),(∀ r ∈ l,f r=false)→bs f s l=s
 | [],_,_=>rfl
 | r :: l,s,h=>by
  simp only [bs]
  rw [h r (List.mem_cons_self ..)]
  exact kr f l s fun x hx=>h x (List.mem_cons_of_mem _ hx)
structure iI (l:List ae) (P:Int→Prop) (b:Int × Int):Prop where
 top:∀ p,P p→iQ l p≤b.2
 is:(b=(0,0)∧∀ p,P p→iQ l p≤0) ∨ (P b.1∧b.2=iQ l b.1∧0 < b.2∧∀ p,P p→iQ l p=b.2→b.1≤p)
theorem iI.unique {l:List ae} {P Q:Int→Prop} {a b:Int × Int} (ha:iI l P a) (hb:iI l Q b) (hpq:∀ p,0 < iQ l p→(P p ↔ Q p)):a=b:=by
 rcases ha.is with ⟨rfl,ha0⟩ | ⟨ha1,ha2,ha3,ha4⟩
 ·rcases hb.is with ⟨rfl,_⟩ | ⟨hb1,hb2,hb3,_⟩
  ·rfl
  ·have:=ha0 b.1 ((hpq b.1 (by omega)).2 hb1); omega
 ·rcases hb.is with ⟨rfl,hb0⟩ | ⟨hb1,hb2,hb3,hb4⟩
  ·have:=hb0 a.1 ((hpq a.1 (by omega)).1 ha1); omega
  ·have h1:=ha.top b.1 ((hpq b.1 (by omega)).2 hb1)
   have h2:=hb.top a.1 ((hpq a.1 (by omega)).1 ha1)
   have e2:a.2=b.2:=by omega
   have h3:=ha4 b.1 ((hpq b.1 (by omega)).2 hb1) (by omega)
   have h4:=hb4 a.1 ((hpq a.1 (by omega)).1 ha1) (by omega)
   have e1:a.1=b.1:=by omega
   cases a; cases b; simp only at e1 e2; rw [e1,e2]
theorem iI.nil (l:List ae) {P:Int→Prop} (h:∀ p,¬ P p):iI l P (0,0):=⟨fun p hp=>absurd hp (h p),.inl ⟨rfl,fun p hp=>absurd hp (h p)⟩⟩
theorem iI.step {l:List ae} {P:Int→Prop} {b:Int × Int} (h:iI l P b) (q:Int) (hq:0 < iQ l q) :
  iI l (fun p=>P p ∨ p=q) (if b.2 < iQ l q ∨ iQ l q=b.2∧q < b.1 then (q,iQ l q) else b):=by
 split
 ·rename_i hc
  refine ⟨fun p hp=>?_,.inr ⟨.inr rfl,rfl,hq,fun p hp he=>?_⟩⟩
  ·rcases hp with hp | rfl
   ·have:=h.top p hp; simp only; omega
   ·exact Int.le_refl _
  ·simp only at he ⊢
   rcases hp with hp | rfl
   ·have h1:=h.top p hp
    rcases h.is with ⟨rfl,h0⟩ | ⟨_,_,_,h4⟩
    ·have:=h0 p hp; omega
    ·rcases hc with hc | ⟨hc,hlt⟩
     ·omega
     ·have:=h4 p hp (by omega); omega
   ·exact Int.le_refl _
 ·rename_i hc
  have hc1:iQ l q≤b.2:=by omega
  have hc2:iQ l q=b.2→b.1≤q:=fun e=>by omega
  refine ⟨fun p hp=>?_,.inr ?_⟩
  ·rcases hp with hp | rfl
   ·exact h.top p hp
   ·exact hc1
  ·rcases h.is with ⟨rfl,_⟩ | ⟨h1,h2,h3,h4⟩
   ·simp only at hc1; omega
   ·exact ⟨.inl h1,h2,h3,fun p hp he=>by
     rcases hp with hp | rfl
     ·exact h4 p hp he
     ·exact hc2 he⟩
theorem iI.next {l:List ae} {lo q:Int} {b:Int × Int} (h:iI l (fun p=>lo≤p∧p < q) b) (hlo:lo≤q) (h0:0≤iQ l q) :
  iI l (fun p=>lo≤p∧p < q+1) (if b.2 < iQ l q then (q,iQ l q) else b):=by
 have hb0:0≤b.2:=by
  rcases h.is with ⟨rfl,_⟩ | ⟨_,_,h3,_⟩
  ·exact Int.le_refl _
  ·omega
 split
 ·rename_i hc
  refine ⟨fun p hp=>?_,.inr ⟨⟨hlo,by simp only; omega⟩,rfl,by simp only; omega,fun p hp he=>?_⟩⟩
  ·rcases Int.lt_or_le p q with hlt | hge
   ·have:=h.top p ⟨hp.1,hlt⟩; simp only; omega
   ·obtain rfl:p=q:=by omega
    exact Int.le_refl _
  ·simp only at he ⊢
   rcases Int.lt_or_le p q with hlt | hge
   ·have:=h.top p ⟨hp.1,hlt⟩; omega
   ·exact hge
 ·rename_i hc
  refine ⟨fun p hp=>?_, ?_⟩
  ·rcases Int.lt_or_le p q with hlt | hge
   ·exact h.top p ⟨hp.1,hlt⟩
   ·obtain rfl:p=q:=by omega
    omega
  ·rcases h.is with ⟨rfl,hz⟩ | ⟨h1,h2,h3,h4⟩
   ·refine .inl ⟨rfl,fun p hp=>?_⟩
    rcases Int.lt_or_le p q with hlt | hge
    ·exact hz p ⟨hp.1,hlt⟩
    ·obtain rfl:p=q:=by omega
     simp only at hc; omega
   ·refine .inr ⟨⟨h1.1,by omega⟩,h2,h3,fun p hp he=>?_⟩
    rcases Int.lt_or_le p q with hlt | hge
    ·exact h4 p ⟨hp.1,hlt⟩ he
    ·omega
theorem jf (l:List ae) (hc:∀ r ∈ l,1≤r.c):∀ (rest:List ae) (P:Int→Prop) (b:Int × Int),(∀ r ∈ rest,r ∈ l)→iI l P b→iI l (fun p=>P p ∨ ∃ r ∈ rest,r.p=p) (cU l rest b)
 | [],P,b,_,h=>by
  have e:(fun p=>P p ∨ ∃ r ∈ ([] : List ae),r.p=p)=P:=by funext p; simp
  rw [e]; exact h
 | r :: rest,P,b,hm,h=>by
  have hr:0 < iQ l r.p:=je _ l 0 hc ⟨r,hm r (List.mem_cons_self ..),decide_eq_true rfl⟩
  have:=jf l hc rest _ _ (fun x hx=>hm x (List.mem_cons_of_mem _ hx)) (h.step r.p hr)
  have e:(fun p=>P p ∨ ∃ x ∈ r :: rest,x.p=p)=(fun p=>(P p ∨ p=r.p) ∨ ∃ x ∈ rest,x.p=p):=by
   funext p
   simp only [List.mem_cons,eq_iff_iff]
   constructor
   ·rintro (h | ⟨x,(rfl | hx),rfl⟩)
    ·exact .inl (.inl h)
    ·exact .inl (.inr rfl)
    ·exact .inr ⟨x,hx,rfl⟩
   ·rintro ((h | rfl) | ⟨x,hx,rfl⟩)
    ·exact .inl h
    ·exact .inr ⟨r,.inl rfl,rfl⟩
    ·exact .inr ⟨x,.inr hx,rfl⟩
  rw [e]; exact this
theorem lG (l:List ae) (hc:∀ r ∈ l,1≤r.c) (lo:Int):∀ (n:Nat) (q:Int) (b:Int × Int),lo≤q→iI l (fun p=>lo≤p∧p < q) b→iI l (fun p=>lo≤p∧p < q+n) (gy l n q b)
 | 0,q,b,_,h=>by simpa [gy] using h
 | n+1,q,b,hq,h=>by
  have h0:0≤iQ l q:=gz _ l 0 hc
  have:=lG l hc lo n (q+1) _ (by omega) (h.next hq h0)
  have e:q+1+(n:Int)=q+((n+1:Nat):Int):=by omega
  rw [e] at this
  exact this
theorem rJ (l:List ae) (hc:∀ r ∈ l,1≤r.c) (hp:∀ r ∈ l,1≤r.p∧r.p≤999):gy l 999 1 (0,0)=cU l l (0,0):=by
 have h1:=lG l hc 1 999 1 (0,0) (Int.le_refl _) (iI.nil l fun p h=>by omega)
 have h2:=jf l hc l (fun _=>False) (0,0) (fun _ h=>h) (iI.nil l fun p h=>h)
 refine iI.unique h1 h2 fun p hpos=>?_
 have hex:∃ r ∈ l,r.p=p:=by
  rcases Classical.em (∃ r ∈ l,r.p=p) with h | h
  ·exact h
  ·have:iQ l p=0:=kr _ l 0 fun r hr=>decide_eq_false fun e=>h ⟨r,hr,e⟩
   omega
 obtain ⟨r,hr,rfl⟩:=hex
 have:=hp r hr
 exact ⟨fun _=>.inr ⟨r,hr,rfl⟩,fun _=>⟨this.1,by omega⟩⟩
def cl (x:aL):Bool:=al x && decide (0 < x.o.length)
def cW (x:aL):Int:=if cl x then (cU x.o x.o (0,0)).1 else 0
theorem nb {l m:List ae} {k:Nat} (h:k < m.length) (b:Int × Int):cU l (m.drop k) b=cU l (m.drop (k+1)) (if b.2 < iQ l m[k].p ∨ iQ l m[k].p=b.2∧m[k].p < b.1 then (m[k].p,iQ l m[k].p) else b):=by
 rw [List.drop_eq_getElem_cons h]; rfl
set_option maxHeartbeats 1000000 in
theorem qh (x:aL) (st:Int) (w:World) (h:aM w w.heap.size x) (ol:x.o.length≤8) (ho:∀ i (hi:i < x.o.length),x.o[i].ok x.t=true) :
  Calls Tryz.prog 177 #[x.val,O U st] w fun e w'=>e=.returned (O U (iQ x.o st))∧Below w.heap.size w w':=by
 have HO:=Lib.hid ho; clear ho
 have HG:Hid (bs (fun o=>decide (o.p=st)) 0 (x.o.drop 0)=iQ x.o st):=rfl
 go_enter Tryz.func177,Tryz.ntmps177
 go_wp2
 have hb0:=(Below.refl w.heap.size w).alloc (Nat.le_refl _) (.cells #[F x.TA x.t.length x.tc,F x.OA x.o.length x.oc,O U x.got,O U x.sold,O U x.missed] 40)
 have hA:=gq h 40
 generalize w.alloc (.cells #[F x.TA x.t.length x.tc,F x.OA x.o.length x.oc,O U x.got,O U x.sold,O U x.missed] 40)=W at hb0 hA ⊢
 obtain ⟨s0,s1,s2,s3,s4⟩:=hA.s
 have hro:=hA.r.os.el
 obtain ⟨OA,hOA⟩ : ∃ A,x.OA=A:=⟨_,rfl⟩
 rw [hOA] at hro
 simp only [hOA] at s1
 clear hOA
 go_loopw [5,6] (fun s i wr=>∃ (k:Nat) (u:Int),k≤x.o.length∧i=O U k∧s=O U u∧(0≤u∧u≤9999 * (k:Int))∧(∃ q:an W.heap.size W,wr=q.val)∧Hid (bs (fun o=>decide (o.p=st)) u (x.o.drop k)=iQ x.o st)) (fun _ i _=>x.o.length - (intOf i).toNat)
 case atStart=>exact ⟨0,0,Nat.zero_le _,rfl,rfl,by omega,⟨an.start _ _,rfl⟩,HG⟩
 case round =>
  obtain ⟨j,u,hj,rfl,rfl,⟨u0,u1⟩,⟨p,rfl⟩,HU⟩:=hrel
  by_cases hlj:j < x.o.length
  ·obtain ⟨b,off,rfl,hb,hcell⟩:=hro (by omega)
   obtain ⟨e0,e1,e2⟩:=hcell j hlj
   obtain ⟨_,_,x1,x2⟩:=ae.bounds (HO.out j hlj)
   have HS:=Lib.hid (j0 (f:=fun o:ae=>decide (o.p=st)) hlj u)
   obtain ⟨r,hre⟩ : ∃ r,r=x.o[j]:=⟨_,rfl⟩
   rw [← hre] at e0 e1 e2 HS x1 x2
   clear hre hcell hro
   by_cases hz:r.p=st
   ·have hv:(r.p == st)=true:=by simp [hz]
    have HE:Hid (bs (fun o=>decide (o.p=st)) (u+r.c) (x.o.drop (j+1))=iQ x.o st):=by
     have h1:=HU.out; rw [HS.out,if_pos (decide_eq_true hz)] at h1; exact h1
    clear hz
    go_wp2
    go_roundw
    case rel=>exact ⟨j+1,u+r.c,by omega,by go_num,rfl,by omega,⟨p,rfl⟩,HE⟩
    case measure=>simp [intOf]; omega
   ·have hv:(r.p == st)=false:=by simp [hz]
    have HE:Hid (bs (fun o=>decide (o.p=st)) u (x.o.drop (j+1))=iQ x.o st):=by
     have h1:=HU.out; rw [HS.out,if_neg (by rw [decide_eq_false hz]; exact Bool.false_ne_true)] at h1; exact h1
    clear hz
    go_wp2
    go_roundw
    case rel=>exact ⟨j+1,u,by omega,by go_num,rfl,by omega,⟨p,rfl⟩,HE⟩
    case measure=>simp [intOf]; omega
  ·have HE2:Hid (u=iQ x.o st):=by
    have h1:=HU.out; rw [List.drop_eq_nil_of_le (by omega)] at h1; exact h1
   clear hro
   go_wp2
   go_ret
   exact ⟨by rw [← HE2.out]; rfl,hb0.trans (p.below.mono hb0.size)⟩
set_option maxHeartbeats 2000000 in
theorem iT (x:aL) (w:World) (h:aM w w.heap.size x) :
  Calls Tryz.prog 139 #[x.val] w fun e w'=>e=.returned (.tuple #[O U (cW x),.bool (cl x)])∧Below w.heap.size w w':=by
 have b1:=(Below.refl w.heap.size w).alloc (Nat.le_refl _) (.cells #[F x.TA x.t.length x.tc,F x.OA x.o.length x.oc,O U x.got,O U x.sold,O U x.missed] 40)
 have hA:=gq h 40
 have cG:=fun W hW=>dA x W hW
 cases hg:al x
 ·have HF:Hid (cW x=0∧cl x=false):=by unfold cW cl; rw [hg]; exact ⟨rfl,rfl⟩
  rw [hg] at cG
  clear hg
  go_enter Tryz.func139,Tryz.ntmps139
  go_wp2_with fail
  generalize w.alloc (.cells #[F x.TA x.t.length x.tc,F x.OA x.o.length x.oc,O U x.got,O U x.sold,O U x.missed] 40)=W at b1 hA ⊢
  refine (cG _ hA.r).mono ?_
  rintro e w1 ⟨rfl,hb⟩
  go_wp2
  go_ret2
  exact ⟨by rw [HF.out.1,HF.out.2]; rfl,aq b1 hb⟩
 ·have G:=bj.1 hg
  have ol:=G.ol
  have cM:=fun st W hW=>qh x st W hW G.ol G.oall
  have HGD:Hid (al x=true):=hg
  rw [hg] at cG
  clear hg G
  by_cases hlen:0 < x.o.length
  ·have HF:Hid (cW x=(cU x.o x.o (0,0)).1∧cl x=true):=by
    have:cl x=true:=by unfold cl; rw [HGD.out,decide_eq_true hlen]; rfl
    unfold cW; rw [this]; exact ⟨rfl,rfl⟩
   have hne:((x.o.length:Int) == 0)=false:=by rw [beq_eq_false_iff_ne]; omega
   have HS0:Hid (cU x.o (x.o.drop 0) (0,0)=cU x.o x.o (0,0)):=rfl
   go_enter Tryz.func139,Tryz.ntmps139
   go_wp2_with fail
   generalize w.alloc (.cells #[F x.TA x.t.length x.tc,F x.OA x.o.length x.oc,O U x.got,O U x.sold,O U x.missed] 40)=W at b1 hA ⊢
   obtain ⟨s0,s1,s2,s3,s4⟩:=hA.s
   have hro:=hA.r.os.el
   refine (aT (cG _ hA.r)).mono ?_
   rintro e w1 ⟨rfl,q1,rfl⟩
   go_wp2
   go_loopw [4,5,6] (fun bb mm i wr=>∃ (k:Nat) (b:Int × Int),k≤x.o.length∧i=O U k∧bb=O U b.1∧mm=O U b.2∧(∃ q:an W.heap.size W,wr=q.val)∧Hid (cU x.o (x.o.drop k) b=cU x.o x.o (0,0))) (fun _ _ i _=>x.o.length - (intOf i).toNat)
   case atStart=>exact ⟨0,(0,0),Nat.zero_le _,rfl,rfl,rfl,⟨q1,rfl⟩,HS0⟩
   case round =>
    obtain ⟨k,⟨b1',b2'⟩,hk,rfl,rfl,rfl,⟨q,rfl⟩,HR⟩:=hrel
    by_cases hlt:k < x.o.length
    ·obtain ⟨b,off,hOA,hb,hcell⟩:=hro (by omega)
     obtain ⟨e0,e1,e2⟩:=hcell k hlt
     have HS:=Lib.hid (nb (l:=x.o) hlt (b1',b2'))
     obtain ⟨r,hre⟩ : ∃ r,r=x.o[k]:=⟨_,rfl⟩
     rw [← hre] at e0 e1 e2 HS
     have hxe:({ x with OA:=some ⟨b,off,none⟩ } : aL)=x:=by rw [← hOA]
     have hRV:∀ p:an W.heap.size W,aM p.val p.val.heap.size { x with OA:=some ⟨b,off,none⟩ }:=fun p=>by rw [hxe]; exact hA.r.at p
     have cM' : ∀ W',aM W' W'.heap.size { x with OA:=some ⟨b,off,none⟩ }→Calls Tryz.prog 177 #[aL.val { x with OA:=some ⟨b,off,none⟩ },O U r.p] W' fun e w'=>e=.returned (O U (iQ x.o r.p))∧Below W'.heap.size W' w':=fun W' hW'=>by rw [hxe] at hW' ⊢; exact cM r.p W' hW'
     simp only [hOA] at s1
     clear hre hcell hro hOA hxe
     simp only at HS
     go_wp2_with fail
     refine (aK (Nat.le_refl _) (cM' _ (hRV q))).mono ?_
     rintro e w2 ⟨rfl,q2,rfl⟩
     obtain ⟨V,hV⟩ : ∃ V,iQ x.o r.p=V:=⟨_,rfl⟩
     rw [hV] at HS
     rw [hV]
     clear hV
     by_cases h1:b2' < V
     ·rw [if_pos (Or.inl h1)] at HS
      go_wp2
      go_roundw
      case rel=>exact ⟨k+1,(r.p,V),by omega,by go_num,rfl,rfl,⟨q2,rfl⟩,by have h1:=HR.out; rw [HS.out] at h1; exact h1⟩
      case measure=>simp [intOf]; omega
     ·by_cases h2:V=b2'∧r.p < b1'
      ·rw [if_pos (Or.inr h2)] at HS
       obtain ⟨h3,h4⟩:=h2
       have hv:(V == b2')=true:=by simp [h3]
       have H3:=Lib.hid h3; clear h3
       go_wp2
       go_roundw
       case rel=>exact ⟨k+1,(r.p,V),by omega,by go_num,rfl,rfl,⟨q2,rfl⟩,by have h1:=HR.out; rw [HS.out] at h1; exact h1⟩
       case measure=>simp [intOf]; omega
      ·rw [if_neg (by intro h; rcases h with h | h; exact h1 h; exact h2 h)] at HS
       by_cases h3:V=b2'
       ·have h4 : ¬ r.p < b1':=fun h=>h2 ⟨h3,h⟩
        have hv:(V == b2')=true:=by simp [h3]
        clear h2 h3
        go_wp2
        go_roundw
        case rel=>exact ⟨k+1,(b1',b2'),by omega,by go_num,rfl,rfl,⟨q2,rfl⟩,by have h1:=HR.out; rw [HS.out] at h1; exact h1⟩
        case measure=>simp [intOf]; omega
       ·have hv:(V == b2')=false:=by simp [h3]
        clear h2 h3
        go_wp2
        go_roundw
        case rel=>exact ⟨k+1,(b1',b2'),by omega,by go_num,rfl,rfl,⟨q2,rfl⟩,by have h1:=HR.out; rw [HS.out] at h1; exact h1⟩
        case measure=>simp [intOf]; omega
    ·have HE:Hid ((b1',b2')=cU x.o x.o (0,0)):=by
      have h1:=HR.out; rw [List.drop_eq_nil_of_le (by omega)] at h1; exact h1
     clear hro
     go_wp2
     go_ret2
     exact ⟨by rw [HF.out.1,HF.out.2,← HE.out]; rfl,b1.trans (q.below.mono b1.size)⟩
  ·have HF:Hid (cW x=0∧cl x=false):=by
    have:cl x=false:=by unfold cl; rw [decide_eq_false hlen,Bool.and_false]
    unfold cW; rw [this]; exact ⟨rfl,rfl⟩
   have hne:((x.o.length:Int) == 0)=true:=by rw [beq_iff_eq]; omega
   go_enter Tryz.func139,Tryz.ntmps139
   go_wp2_with fail
   generalize w.alloc (.cells #[F x.TA x.t.length x.tc,F x.OA x.o.length x.oc,O U x.got,O U x.sold,O U x.missed] 40)=W at b1 hA ⊢
   obtain ⟨s0,s1,s2,s3,s4⟩:=hA.s
   refine (aT (cG _ hA.r)).mono ?_
   rintro e w1 ⟨rfl,q1,rfl⟩
   go_wp2
   go_ret2
   exact ⟨by rw [HF.out.1,HF.out.2]; rfl,b1.trans (q1.below.mono b1.size)⟩
theorem eX {sel:ae→Bool} {get:ae→Int} {p:Int} : ∀ {l:List ae},p ∈ aP sel get l ↔ ∃ r ∈ l,sel r=true∧get r=p
 | []=>by simp [aP]
 | r :: l=>by
  unfold aP
  have ih:=eX (sel:=sel) (get:=get) (p:=p) (l:=l)
  split
  ·rename_i h
   rw [List.mem_cons,ih]
   constructor
   ·rintro (rfl | ⟨q,h1,h2⟩)
    ·exact ⟨r,List.mem_cons_self ..,h,rfl⟩
    ·exact ⟨q,List.mem_cons_of_mem _ h1,h2⟩
   ·rintro ⟨q,h1,h2,rfl⟩
    rcases List.mem_cons.1 h1 with rfl | h1
    ·exact .inl rfl
    ·exact .inr ⟨q,h1,h2,rfl⟩
  ·rename_i h
   rw [ih]
   constructor
   ·rintro ⟨q,h1,h2⟩; exact ⟨q,List.mem_cons_of_mem _ h1,h2⟩
   ·rintro ⟨q,h1,h2,h3⟩
    rcases List.mem_cons.1 h1 with rfl | h1
    ·exact absurd h2 h
    ·exact ⟨q,h1,h2,h3⟩
theorem qi {x:aL} (G:bo x) {r:ae} (h:r ∈ x.o):r.ok x.t=true:=by
 obtain ⟨i,hi,rfl⟩:=List.getElem_of_mem h
 exact G.oall i hi
theorem sS {x:aL} (h:cl x=true) :
  (al x && bU (cW x) 1 999)=true∧0 < (bh (al x && bU (cW x) 1 999) (aP (fun r:ae=>decide (r.p=cW x)) ae.k x.o)).length:=by
 have h':=h
 unfold cl at h'
 rw [Bool.and_eq_true,decide_eq_true_eq] at h'
 have G:=bj.1 h'.1
 have hc:∀ r ∈ x.o,1≤r.c:=fun r hr=>(ae.bounds (qi G hr)).2.2.1
 have B:=jf x.o hc x.o (fun _=>False) (0,0) (fun _ h=>h) (iI.nil _ fun _ h=>h)
 have hv:cW x=(cU x.o x.o (0,0)).1:=by unfold cW; rw [if_pos h]
 have key:∃ r ∈ x.o,r.p=cW x:=by
  rw [hv]
  rcases B.is with ⟨_,h0⟩ | ⟨h1,_⟩
  ·have hm:x.o[0]'h'.2 ∈ x.o:=List.getElem_mem _
   have h1:=h0 _ (.inr ⟨_,hm,rfl⟩)
   have h2:0 < iQ x.o (x.o[0]'h'.2).p:=je _ _ 0 hc ⟨_,hm,decide_eq_true rfl⟩
   omega
  ·rcases h1 with h1 | h1
   ·exact h1.elim
   ·exact h1
 obtain ⟨r,h1,h2⟩:=key
 have hb:=(ae.bounds (qi G h1)).2.1
 rw [h2] at hb
 have e:(al x && bU (cW x) 1 999)=true:=by rw [h'.1,bL.2 hb]; rfl
 refine ⟨e, ?_⟩
 rw [e,bh,if_pos rfl]
 exact List.length_pos_of_mem (eX.2 ⟨r,h1,decide_eq_true h2,rfl⟩)
theorem ny {n:Nat} (h:n < 10):Lib.decDigits n = [UInt8.ofNat (48+n)]:=by rw [Lib.decDigits,dif_pos h]
theorem tI {n:Nat} (h : ¬ n < 10):Lib.decDigits n=Lib.decDigits (n / 10)++[UInt8.ofNat (48+n % 10)]:=by rw [Lib.decDigits,dif_neg h]
theorem mA:∀ {n:Nat},n < 10→(⟨#[48,49,50,51,52,53,54,55,56,57]⟩ : ByteArray).extract n (n+1)=⟨[UInt8.ofNat (48+n)].toArray⟩
 | 0,_=>by decide | 1,_=>by decide | 2,_=>by decide | 3,_=>by decide | 4,_=>by decide
 | 5,_=>by decide | 6,_=>by decide | 7,_=>by decide | 8,_=>by decide | 9,_=>by decide
theorem qX {n:Nat} (h:n≤1000000000):(⟨(Lib.decDigits n).toArray⟩ : ByteArray).size≤100:=by
 show (Lib.decDigits n).toArray.size≤100
 rw [List.size_toArray,Lib.decDigits_length]
 have:=Lib.nDigits_le20 n (by omega)
 omega
set_option maxHeartbeats 1000000 in
theorem rK (k:Nat):∀ (n:Nat) (w:World),n < 10 ^ k→n≤1000000000 →
  Calls Tryz.prog 71 #[O U (n:Int)] w fun e w'=>e=.returned (uk ⟨(Lib.decDigits n).toArray⟩)∧Below w.heap.size w w':=by
 induction k with
 | zero =>
  intro n w hn _
  have h0:n=0:=by simpa using hn
  subst h0
  have HD:=Lib.hid (ny (n:=0) (by omega))
  have HE:=Lib.hid (mA (n:=0) (by omega))
  go_enter Tryz.func71,Tryz.ntmps71
  go_wp2
  go_ret
  exact ⟨by rw [HD.out,← HE.out]; rfl,Below.refl _ _⟩
 | succ k ih =>
  intro n w hn hb
  by_cases h10:n < 10
  ·have HD:=Lib.hid (ny h10)
   have HE:=Lib.hid (mA h10)
   go_enter Tryz.func71,Tryz.ntmps71
   go_wp2
   go_ret
   exact ⟨by rw [HD.out,← HE.out]; rfl,Below.refl _ _⟩
  ·have HD:=Lib.hid (tI h10)
   have hr:n % 10 < 10:=Nat.mod_lt _ (by omega)
   have HE:=Lib.hid (mA hr)
   have hk:n / 10 < 10 ^ k:=Nat.div_lt_of_lt_mul (by rw [Nat.mul_comm,← Nat.pow_succ]; exact hn)
   obtain ⟨sv,hsv⟩ : ∃ s:ByteArray,s=⟨(Lib.decDigits (n / 10)).toArray⟩:=⟨_,rfl⟩
   obtain ⟨dv,hdv⟩ : ∃ s:ByteArray,s=(⟨#[48,49,50,51,52,53,54,55,56,57]⟩ : ByteArray).extract (n % 10) (n % 10+1):=⟨_,rfl⟩
   have hss:sv.size≤100:=by rw [hsv]; exact qX (by omega)
   have hds:dv.size≤10:=by rw [hdv,HE.out]; exact (by decide:(1:Nat)≤10)
   have ih' : ∀ W:World,Calls Tryz.prog 71 #[O U ((n:Int) / 10)] W fun e w'=>e=.returned (uk sv)∧Below W.heap.size W w':=fun W=>by
    have:=ih (n / 10) W hk (by omega)
    rw [Int.natCast_ediv] at this; rw [hsv]; exact this
   have IH:=Lib.hid ih'; clear ih' ih
   have hex:=hdv.symm
   have HSV:=Lib.hid hsv; clear hsv
   have HDV:=Lib.hid hdv; clear hdv
   have e1:(n:Int).tdiv 10=(n:Int) / 10:=Int.tdiv_eq_ediv_of_nonneg (by omega)
   have e2:(n:Int).tmod 10=(n:Int) % 10:=Int.tmod_eq_emod_of_nonneg (by omega)
   go_enter Tryz.func71,Tryz.ntmps71
   go_wp2_with fail
   refine ar (by kernel_rfl) (by kernel_rfl) ?_
   repeat (any_goals (first | go_big_quiet_step ((go_at_call 71; refine aK (Nat.le_refl _) (IH.out _))) | (refine wpQuiet_step (fun K hK=>?_); go_simp; split <;> (refine hK _ ?_; clear hK K))))
   all_goals (refine wpQuiet_nil ?_; rintro _ ⟨q1,rfl⟩)
   go_wp2
   go_ret
   exact ⟨by rw [HD.out,HSV.out,HDV.out,HE.out,ByteArray.mk_append_mk]; rfl,q1.below⟩
theorem cn (n:Int) (w:World) (h0:0≤n) (h1:n≤1000000000) :
  Calls Tryz.prog 71 #[O U n] w fun e w'=>e=.returned (uk ⟨(Lib.itoa n).toArray⟩)∧Below w.heap.size w w':=by
 obtain ⟨m,rfl⟩:=Int.eq_ofNat_of_zero_le h0
 have e:Lib.itoa (m:Int)=Lib.decDigits m:=by unfold Lib.itoa; rw [if_neg (by omega),Int.toNat_natCast]
 have e' : Lib.itoa (Int.ofNat m)=Lib.decDigits m:=e
 first | rw [e] | rw [e']
 exact rK 10 m w (by omega) (by omega)
theorem cz {n:Int} (h0:0≤n) (h1:n≤1000000000):(⟨(Lib.itoa n).toArray⟩ : ByteArray).size≤100:=by
 unfold Lib.itoa
 rw [if_neg (by omega)]
 exact qX (by omega)
end Go.Proofs.YtoeoimhemojdeaaGreatDoor
