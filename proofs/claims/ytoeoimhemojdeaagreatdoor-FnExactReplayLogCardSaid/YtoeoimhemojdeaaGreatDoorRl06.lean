/- Rl06: the texts SpecPerD SpecPerE SpecMakA SpecMakB SpecMakC SpecMakD SpecMakE SpecMake LawOffA OffMark OffLaw TryD RunP, joined into one file. -/
import Derived.Deep.RegionHeld3
import Derived.Test.YtoeoimhemojdeaaGreatDoorRl02
import Derived.Test.YtoeoimhemojdeaaGreatDoorRl04
import Derived.Test.YtoeoimhemojdeaaGreatDoorRl05

set_option linter.unusedVariables false
open Go.Value renaming int → O, slice → F, string → sQ
open Go.IntKind renaming i64 → U

namespace Go.Proofs.YtoeoimhemojdeaaGreatDoor
open Go.RowKit
set_option maxRecDepth 100000 in
set_option maxHeartbeats 4000000 in
theorem ox (x:aM) (st pe va:Int) (w:World) (h:aQ w w.heap.size x) (G:bn x) (hcap:x.t.length≤x.tc) (hst:1≤st∧st≤99) (hpe:1≤pe∧pe≤999) (hva:1≤va∧va≤999) :
  Calls Tryz.prog 175 #[x.val,.agg #[O U 6,O U st,O U pe,O U va]] w (cm w ((⟨x.t,aH st va (aJ st va (aH st pe 0 x.o)+aJ st pe x.o) (aH st pe 0 x.o),x.got,x.sold,x.missed⟩ : Oc),decide (0 < aJ st pe x.o) && decide (va ≠ pe))):=by
 have L1:=((ai.new w 40 #[F x.TA x.t.length x.tc,F x.OA x.o.length x.oc,O U x.got,O U x.sold,O U x.missed]).alloc (.cells #[O U 6,O U st,O U pe,O U va] 112)).alloc (.cells #[F none 0 0,F none 0 0,O U 0,O U 0,O U 0] 40)
 have L2:=(ai.new1 w (.cells #[F x.TA x.t.length x.tc,F x.OA x.o.length x.oc,O U x.got,O U x.sold,O U x.missed] 40) 112 #[O U 6,O U st,O U pe,O U va]).alloc (.cells #[F none 0 0,F none 0 0,O U 0,O U 0,O U 0] 40)
 have L3:=ai.new2 w (.cells #[F x.TA x.t.length x.tc,F x.OA x.o.length x.oc,O U x.got,O U x.sold,O U x.missed] 40) (.cells #[O U 6,O U st,O U pe,O U va] 112) 40 #[F none 0 0,F none 0 0,O U 0,O U 0,O U 0]
 have b1:=(Below.refl w.heap.size w).alloc (Nat.le_refl _) (.cells #[F x.TA x.t.length x.tc,F x.OA x.o.length x.oc,O U x.got,O U x.sold,O U x.missed] 40)
 have b2:=b1.alloc b1.size (.cells #[O U 6,O U st,O U pe,O U va] 112)
 have b3:=b2.alloc b2.size (.cells #[F none 0 0,F none 0 0,O U 0,O U 0,O U 0] 40)
 have Sx:=G.small
 have htl:=G.tl
 have hol:=G.ol
 have htc:=G.tcs
 obtain ⟨m1,m2⟩:=G.m
 obtain ⟨g1,g2⟩:=G.s
 obtain ⟨n1,n2⟩:=G.at_bd st pe
 obtain ⟨m,hm⟩ : ∃ m,aJ st va (aH st pe 0 x.o)=m:=⟨_,rfl⟩
 have hmb:0≤m∧m≤9999:=by rw [← hm]; exact G.move_bd st pe va
 rw [hm]
 have HM:=Lib.hid hm; clear hm
 obtain ⟨q1,q2⟩:=hmb
 obtain ⟨n,hn⟩ : ∃ n,aJ st pe x.o=n:=⟨_,rfl⟩
 rw [hn] at n1 n2 ⊢
 clear b1 b2 G
 go_enter Tryz.func175,Tryz.ntmps175
 go_wp2_with fail
 generalize (((w.alloc (.cells #[F x.TA x.t.length x.tc,F x.OA x.o.length x.oc,O U x.got,O U x.sold,O U x.missed] 40)).alloc (.cells #[O U 6,O U st,O U pe,O U va] 112)).alloc (.cells #[F none 0 0,F none 0 0,O U 0,O U 0,O U 0] 40))=W at L1 L2 L3 b3 ⊢
 have hR:=h.up b3 (Nat.le_refl _)
 refine (fl x st pe W hR).mono ?_
 rintro e W1 ⟨rfl,hb1⟩
 rw [hn]
 have hR1:=hR.then hb1
 have L1a:=L1.below hb1 L1.lt
 have L2a:=L2.below hb1 L2.lt
 have L3a:=L3.below hb1 L3.lt
 have b4:=b3.trans (hb1.mono b3.size)
 have hW0:w.heap.size≤W1.heap.size:=b4.size
 have hn:=Lib.hid hn
 clear L1 L2 L3 b3 hb1 hR h
 obtain ⟨c0,c1,c2,c3,c4⟩:=cells5 L1a
 obtain ⟨s0,s1,s2,s3⟩:=cells4 L2a
 have S1:jk (⟨x.t,aH st pe 0 x.o,x.got,x.sold,x.missed⟩ : Oc):=Sx.at hst hpe (by show x.o.length≤100; omega)
 go_wp2_with fail
 refine (sJ x st pe (0) W1 hR1 Sx hst hpe).mono ?_
 rintro e W2 ⟨v2,rfl,⟨TA,tc,OA,oc,hv2,hT,hO⟩,hb2⟩
 have hv2:v2=.agg #[F TA x.t.length tc,F OA (aH st pe (0) x.o).length oc,O U x.got,O U x.sold,O U x.missed]:=hv2
 subst hv2
 simp only at hT hO
 have hal:=(Below.refl W2.heap.size W2).alloc (Nat.le_refl _) (.cells #[F TA x.t.length tc,F OA (aH st pe (0) x.o).length oc,O U x.got,O U x.sold,O U x.missed] 40)
 have L1b:=(L1a.below hb2 L1a.lt).below hal (Nat.lt_of_lt_of_le L1a.lt hb2.size)
 have L2b:=(L2a.below hb2 L2a.lt).below hal (Nat.lt_of_lt_of_le L2a.lt hb2.size)
 have L3b:=(L3a.below hb2 L3a.lt).below hal (Nat.lt_of_lt_of_le L3a.lt hb2.size)
 have P:=ai.new W2 40 #[F TA x.t.length tc,F OA (aH st pe (0) x.o).length oc,O U x.got,O U x.sold,O U x.missed]
 have hT3:=af (ab hT hal) hW0
 have hO3:=af (ab hO hal) hW0
 have b5:=b4.trans ((ar hb2 hal).mono b4.size)
 have hR5:=(hR1.then hb2).then hal
 have hgg:w.heap.size+1+1 < W2.heap.size:=Nat.lt_of_lt_of_le L3a.lt hb2.size
 clear c0 c1 c2 c3 c4 s0 s1 s2 s3
 obtain ⟨W3,hW3⟩ : ∃ W3,W2.alloc (.cells #[F TA x.t.length tc,F OA (aH st pe (0) x.o).length oc,O U x.got,O U x.sold,O U x.missed] 40)=W3:=⟨_,rfl⟩
 rw [hW3] at L1b L2b L3b P hT3 hO3 b5 hR5
 generalize hg2:W2.heap.size=g2 at P hgg
 obtain ⟨c0,c1,c2,c3,c4⟩:=cells5 L1b
 obtain ⟨s0,s1,s2,s3⟩:=cells4 L2b
 obtain ⟨p0,p1,p2,p3,p4⟩:=cells5 P
 obtain ⟨pf0,pf1,pf2,pf3,pf4⟩:=frz5 P
 clear hb2 hal hT hO L1a L2a L3a b4 hR1
 go_wp2_with (rw [hW3]; clear hW3; rw [hg2])
 clear c0 c1 c2 c3 c4 s0 s1 s2 s3 p0 p1 p2 p3 p4 pf0 pf1 pf2 pf3 pf4
 obtain ⟨b,hbd⟩ : ∃ b,decide (0 < n)=b:=⟨_,rfl⟩
 have HBD:=Lib.hid hbd; clear hbd
 obtain ⟨D1,hD1⟩ : ∃ D:World→Prop,D=(fun W9=>∃ W8 TA tc OA oc,Below W3.heap.size W3 W8∧W8.ownsRow w.heap.size 104 2 (F TA ((⟨x.t,aH st va (m+n) (aH st pe 0 x.o),x.got,x.sold,x.missed⟩ : Oc)).t.length tc) ((⟨x.t,aH st va (m+n) (aH st pe 0 x.o),x.got,x.sold,x.missed⟩ : Oc)).t.length (((⟨x.t,aH st va (m+n) (aH st pe 0 x.o),x.got,x.sold,x.missed⟩ : Oc)).t.flatMap aq.enc)∧W8.ownsRow w.heap.size 147 3 (F OA ((⟨x.t,aH st va (m+n) (aH st pe 0 x.o),x.got,x.sold,x.missed⟩ : Oc)).o.length oc) ((⟨x.t,aH st va (m+n) (aH st pe 0 x.o),x.got,x.sold,x.missed⟩ : Oc)).o.length (((⟨x.t,aH st va (m+n) (aH st pe 0 x.o),x.got,x.sold,x.missed⟩ : Oc)).o.flatMap ae.enc)∧W9=cW W8 (w.heap.size+1+1) (F TA ((⟨x.t,aH st va (m+n) (aH st pe 0 x.o),x.got,x.sold,x.missed⟩ : Oc)).t.length tc) (F OA ((⟨x.t,aH st va (m+n) (aH st pe 0 x.o),x.got,x.sold,x.missed⟩ : Oc)).o.length oc) (O U ((⟨x.t,aH st va (m+n) (aH st pe 0 x.o),x.got,x.sold,x.missed⟩ : Oc)).got) (O U ((⟨x.t,aH st va (m+n) (aH st pe 0 x.o),x.got,x.sold,x.missed⟩ : Oc)).sold) (O U ((⟨x.t,aH st va (m+n) (aH st pe 0 x.o),x.got,x.sold,x.missed⟩ : Oc)).missed)):=⟨_,rfl⟩
 have hDL:∀ W,D1 W→∃ W8 v0 v1 v2 v3 v4,Below W3.heap.size W3 W8∧W=cW W8 (w.heap.size+1+1) v0 v1 v2 v3 v4:=by
  rw [hD1]
  rintro _ ⟨W8,TA,tc,OA,oc,hq,_,_,e⟩
  exact ⟨W8,_,_,_,_,_,hq,e⟩
 have HD1:=Lib.hid hD1; clear hD1
 refine an (Sw 23 (fun W9=>Below W3.heap.size W3 W9) D1) (fun i w1 w2=>i ∉ [23]→Below w1.heap.size w1 w2) (by kernel_rfl) (by kernel_rfl) (by kernel_rfl) (Sw.start (Below.refl _ _).drew) ?_
 simp only [ax,Act.put,List.setIfInBounds_toArray,List.set_cons_zero,List.set_cons_succ,Nat.zero_add,Nat.reduceAdd]
 apply aa
 case h1 =>
  intro vs L9 w9 hG9 hC9 hB K9 hK9
  replace hC9:=sb hC9 hG9
  have q0:w9.cell? ⟨g2,0,none⟩=some (F TA x.t.length tc):=(P.below hC9 P.lt).cell 0
  have q1:w9.cell? ⟨g2,1,none⟩=some (F OA (aH st pe (0) x.o).length oc):=(P.below hC9 P.lt).cell 1
  have q2:w9.cell? ⟨g2,2,none⟩=some (O U x.got):=(P.below hC9 P.lt).cell 2
  have q3:w9.cell? ⟨g2,3,none⟩=some (O U x.sold):=(P.below hC9 P.lt).cell 3
  have q4:w9.cell? ⟨g2,4,none⟩=some (O U x.missed):=(P.below hC9 P.lt).cell 4
  simp only [Act.put,sA,s0,s1] at hK9
  go_simp
  exact hK9 _ _ rfl (sy hG9 hC9) bR
 apply aa
 case h1 =>
  intro vs L9 w9 hG9 hC9 hB K9 hK9
  replace hC9:=sb hC9 hG9
  simp only [Act.put,sA,s0,s1] at hK9
  go_simp
  exact hK9 _ _ rfl (sy hG9 hC9) bR
 apply aa
 case h1 =>
  intro vs L9 w9 hG9 hC9 hB K9 hK9
  replace hC9:=sb hC9 hG9
  have d1:=fe hB 1
  simp only [d1] at hK9 ⊢
  have q0:w9.cell? ⟨(w.heap.size+1),1,none⟩=some (O U st):=(L2b.below hC9 L2b.lt).cell 1
  simp only [Act.put,sA,s0,s1] at hK9
  go_simp
  exact hK9 _ _ rfl (sy hG9 hC9) bR
 apply aa
 case h1 =>
  intro vs L9 w9 hG9 hC9 hB K9 hK9
  replace hC9:=sb hC9 hG9
  simp only [Act.put,sA,s0,s1] at hK9
  go_simp
  exact hK9 _ _ rfl (sy hG9 hC9) bR
 apply aa
 case h1 =>
  intro vs L9 w9 hG9 hC9 hB K9 hK9
  replace hC9:=sb hC9 hG9
  have d3:=fe hB 3
  simp only [d3] at hK9 ⊢
  have q0:w9.cell? ⟨(w.heap.size+1),3,none⟩=some (O U va):=(L2b.below hC9 L2b.lt).cell 3
  simp only [Act.put,sA,s0,s1] at hK9
  go_simp
  exact hK9 _ _ rfl (sy hG9 hC9) bR
 apply aa
 case h1 =>
  intro vs L9 w9 hG9 hC9 hB K9 hK9
  replace hC9:=sb hC9 hG9
  have q0:w9.cell? ⟨g2,0,none⟩=some (F TA x.t.length tc):=(P.below hC9 P.lt).cell 0
  have q1:w9.cell? ⟨g2,1,none⟩=some (F OA (aH st pe (0) x.o).length oc):=(P.below hC9 P.lt).cell 1
  have q2:w9.cell? ⟨g2,2,none⟩=some (O U x.got):=(P.below hC9 P.lt).cell 2
  have q3:w9.cell? ⟨g2,3,none⟩=some (O U x.sold):=(P.below hC9 P.lt).cell 3
  have q4:w9.cell? ⟨g2,4,none⟩=some (O U x.missed):=(P.below hC9 P.lt).cell 4
  simp only [Act.put,sA,s0,s1] at hK9
  go_simp
  exact hK9 _ _ rfl (sy hG9 hC9) bR
 apply aa
 case h1 =>
  intro vs L9 w9 hG9 hC9 hB K9 hK9
  replace hC9:=sb hC9 hG9
  simp only [Act.put,sA,s0,s1] at hK9
  go_simp
  exact hK9 _ _ rfl (sy hG9 hC9) bR
 apply aa
 case h1 =>
  intro vs L9 w9 hG9 hC9 hB K9 hK9
  replace hC9:=sb hC9 hG9
  have d6:=fe hB 6
  simp only [d6] at hK9 ⊢
  have q0:w9.cell? ⟨(w.heap.size+1),1,none⟩=some (O U st):=(L2b.below hC9 L2b.lt).cell 1
  simp only [Act.put,sA,s0,s1] at hK9
  go_simp
  exact hK9 _ _ rfl (sy hG9 hC9) bR
 apply aa
 case h1 =>
  intro vs L9 w9 hG9 hC9 hB K9 hK9
  replace hC9:=sb hC9 hG9
  simp only [Act.put,sA,s0,s1] at hK9
  go_simp
  exact hK9 _ _ rfl (sy hG9 hC9) bR
 apply aa
 case h1 =>
  intro vs L9 w9 hG9 hC9 hB K9 hK9
  replace hC9:=sb hC9 hG9
  have d8:=fe hB 8
  simp only [d8] at hK9 ⊢
  have q0:w9.cell? ⟨(w.heap.size+1),3,none⟩=some (O U va):=(L2b.below hC9 L2b.lt).cell 3
  simp only [Act.put,sA,s0,s1] at hK9
  go_simp
  exact hK9 _ _ rfl (sy hG9 hC9) bR
 apply aa
 case h1 =>
  intro vs L9 w9 hG9 hC9 hB K9 hK9
  replace hC9:=sb hC9 hG9
  have d5:=fe hB 5
  have d7:=fe hB 7
  have d9:=fe hB 9
  simp only [d5,d7,d9] at hK9 ⊢
  simp only [Act.put,sA,s0,s1] at hK9
  go_simp
  refine (show Calls _ _ _ _ (fun e w'=>e=.returned (O U m)∧Below w9.heap.size w9 w') from by rw [← HM.out]; exact sO st va (show fm w9 w.heap.size (⟨x.t,aH st pe 0 x.o,x.got,x.sold,x.missed⟩ : Oc) _ from ⟨TA,tc,OA,oc,rfl,ab hT3 hC9,ab hO3 hC9⟩)).mono ?_
  rintro en w8 ⟨rfl,hb8⟩
  exact hK9 _ _ rfl (Sw.stay hG9 (by kernel_rfl) (by decide) (hC9.trans (hb8.mono hC9.size))) (fun _=>hb8)
 apply aa
 case h1 =>
  intro vs L9 w9 hG9 hC9 hB K9 hK9
  replace hC9:=sb hC9 hG9
  simp only [Act.put,sA,s0,s1] at hK9
  go_simp
  exact hK9 _ _ rfl (sy hG9 hC9) bR
 apply aa
 case h1 =>
  intro vs L9 w9 hG9 hC9 hB K9 hK9
  replace hC9:=sb hC9 hG9
  have d10:=fe hB 10
  have d11:=fe hB 11
  simp only [d10,d11] at hK9 ⊢
  have i3:IntKind.i64.wrap (m+n)=m+n:=IntWalk.i64_in _ (by omega)
  simp only [Act.put,sA,s0,s1] at hK9
  go_simp
  exact hK9 _ _ rfl (sy hG9 hC9) bR
 refine ak [23] (fun v w9=>fm w9 w.heap.size (⟨x.t,aH st va (m+n) (aH st pe 0 x.o),x.got,x.sold,x.missed⟩ : Oc) v) ?sv13 (fun vs L9 w9 hG9 hC9 hB K9 hK9=>?hv13) ?rv13
 case sv13 =>
  intro i9 hi9 hb9 ha9 v w1 w2 hv hT9
  have hb:=hT9 (fun hm=>by
   simp only [List.mem_cons,List.not_mem_nil,or_false] at hm hb9
   subst hm
   ·exact hb9 (by simp))
  exact hv.below hb
 case hv13 =>
  replace hC9:=sb hC9 hG9
  have d0:=fe hB 0
  have d2:=fe hB 2
  have d4:=fe hB 4
  have d12:=fe hB 12
  simp only [d0,d2,d4,d12] at hK9 ⊢
  simp only [Act.put,sA,s0,s1] at hK9
  have hW0:w.heap.size≤W3.heap.size:=b5.size
  go_simp
  refine (sN st va (m+n) (show fm w9 w.heap.size (⟨x.t,aH st pe 0 x.o,x.got,x.sold,x.missed⟩ : Oc) _ from ⟨TA,tc,OA,oc,rfl,ab hT3 hC9,ab hO3 hC9⟩) S1 hst hva).mono ?_
  rintro en w8 ⟨v8,rfl,hv8,hb8⟩
  exact hK9 _ _ _ rfl (hv8.lower (Nat.le_trans hW0 hC9.size)) (Sw.stay hG9 (by kernel_rfl) (by decide) (hC9.trans (hb8.mono hC9.size))) (fun _=>hb8)
 apply aa
 case h1 =>
  intro vs L9 w9 hG9 hC9 hB K9 hK9
  replace hC9:=sb hC9 hG9
  simp only [Act.put,sA,s0,s1] at hK9
  go_simp
  exact hK9 _ _ rfl (sy hG9 hC9) bR
 refine aa (.bool b) (fun vs L9 w9 hG9 hC9 hB K9 hK9=>?hv15) ?rv15
 case hv15 =>
  replace hC9:=sb hC9 hG9
  have d14:=fe hB 14
  simp only [d14] at hK9 ⊢
  go_simp
  rw [HBD.out]
  exact hK9 _ _ rfl (sy hG9 hC9) bR
 apply aa
 case h1 =>
  intro vs L9 w9 hG9 hC9 hB K9 hK9
  replace hC9:=sb hC9 hG9
  have d15:=fe hB 15
  simp only [d15] at hK9 ⊢
  simp only [Act.put,sA,s0,s1] at hK9
  go_simp
  exact hK9 _ _ rfl (sy hG9 hC9) bR
 refine ak [] (fun v _=>b=true→v=.pointer (some ⟨w.heap.size+1,3,none⟩)) ?sv17 (fun vs L9 w9 hG9 hC9 hB K9 hK9=>?hv17) ?rv17
 case sv17 =>
  intro i9 hi9 hb9 ha9 v w1 w2 hv hT9
  exact hv
 case hv17 =>
  have HC9:=Lib.hid hC9
  have dg:=fe hB 16
  simp only [dg] at hK9 ⊢
  clear hC9
  cases b with
  | false =>
   go_simp
   exact hK9 _ undef _ rfl (fun hq=>by cases hq) (Sw.both (by decide) (fun h=>h) (fun h=>h) HC9.out) bR
  | true =>
   go_simp
   exact hK9 _ _ _ rfl (fun _=>rfl) (Sw.both (by decide) (fun h=>h) (fun h=>h) HC9.out) bR
 refine ak [] (fun v _=>b=true→v=O U va) ?sv18 (fun vs L9 w9 hG9 hC9 hB K9 hK9=>?hv18) ?rv18
 case sv18 =>
  intro i9 hi9 hb9 ha9 v w1 w2 hv hT9
  exact hv
 case hv18 =>
  have HC9:=Lib.hid hC9
  have dg:=fe hB 16
  simp only [dg] at hK9 ⊢
  have q0:w9.cell? ⟨w.heap.size+1,3,none⟩=some (O U va):=(hC9.lies hDL L2b (by omega)).cell 3
  clear hC9
  cases b with
  | false =>
   go_simp
   exact hK9 _ undef _ rfl (fun hq=>by cases hq) (Sw.both (by decide) (fun h=>h) (fun h=>h) HC9.out) bR
  | true =>
   have d17:=hB 17 _ (by kernel_rfl) (by kernel_rfl) rfl (by decide) rfl
   simp only [d17] at hK9 ⊢
   go_simp
   exact hK9 _ _ _ rfl (fun _=>rfl) (Sw.both (by decide) (fun h=>h) (fun h=>h) HC9.out) bR
 refine ak [] (fun v _=>b=true→v=.pointer (some ⟨w.heap.size+1,2,none⟩)) ?sv19 (fun vs L9 w9 hG9 hC9 hB K9 hK9=>?hv19) ?rv19
 case sv19 =>
  intro i9 hi9 hb9 ha9 v w1 w2 hv hT9
  exact hv
 case hv19 =>
  have HC9:=Lib.hid hC9
  have dg:=fe hB 16
  simp only [dg] at hK9 ⊢
  clear hC9
  cases b with
  | false =>
   go_simp
   exact hK9 _ undef _ rfl (fun hq=>by cases hq) (Sw.both (by decide) (fun h=>h) (fun h=>h) HC9.out) bR
  | true =>
   go_simp
   exact hK9 _ _ _ rfl (fun _=>rfl) (Sw.both (by decide) (fun h=>h) (fun h=>h) HC9.out) bR
 refine ak [] (fun v _=>b=true→v=O U pe) ?sv20 (fun vs L9 w9 hG9 hC9 hB K9 hK9=>?hv20) ?rv20
 case sv20 =>
  intro i9 hi9 hb9 ha9 v w1 w2 hv hT9
  exact hv
 case hv20 =>
  have HC9:=Lib.hid hC9
  have dg:=fe hB 16
  simp only [dg] at hK9 ⊢
  have q0:w9.cell? ⟨w.heap.size+1,2,none⟩=some (O U pe):=(hC9.lies hDL L2b (by omega)).cell 2
  clear hC9
  cases b with
  | false =>
   go_simp
   exact hK9 _ undef _ rfl (fun hq=>by cases hq) (Sw.both (by decide) (fun h=>h) (fun h=>h) HC9.out) bR
  | true =>
   have d19:=hB 19 _ (by kernel_rfl) (by kernel_rfl) rfl (by decide) rfl
   simp only [d19] at hK9 ⊢
   go_simp
   exact hK9 _ _ _ rfl (fun _=>rfl) (Sw.both (by decide) (fun h=>h) (fun h=>h) HC9.out) bR
 refine ak [] (fun v _=>b=true→v=.bool (va != pe)) ?sv21 (fun vs L9 w9 hG9 hC9 hB K9 hK9=>?hv21) ?rv21
 case sv21 =>
  intro i9 hi9 hb9 ha9 v w1 w2 hv hT9
  exact hv
 case hv21 =>
  have HC9:=Lib.hid hC9
  have dg:=fe hB 16
  simp only [dg] at hK9 ⊢
  clear hC9
  cases b with
  | false =>
   go_simp
   exact hK9 _ undef _ rfl (fun hq=>by cases hq) (Sw.both (by decide) (fun h=>h) (fun h=>h) HC9.out) bR
  | true =>
   have d18:=hB 18 _ (by kernel_rfl) (by kernel_rfl) rfl (by decide) rfl
   have d20:=hB 20 _ (by kernel_rfl) (by kernel_rfl) rfl (by decide) rfl
   simp only [d18,d20] at hK9 ⊢
   go_simp
   exact hK9 _ _ _ rfl (fun _=>rfl) (Sw.both (by decide) (fun h=>h) (fun h=>h) HC9.out) bR
 refine aa (.bool (b && (va != pe))) (fun vs L9 w9 hG9 hC9 hB K9 hK9=>?hv22) ?rv22
 case hv22 =>
  have d16:=fe hB 16
  simp only [d16] at hK9 ⊢
  have HC9:=Lib.hid hC9
  clear hC9
  cases b with
  | false =>
   go_simp
   exact hK9 _ _ rfl (Sw.both (by decide) (fun h=>h) (fun h=>h) HC9.out) bR
  | true =>
   have d21:=hB 21 _ (by kernel_rfl) (by kernel_rfl) rfl (by decide) rfl
   simp only [d21] at hK9 ⊢
   go_simp
   exact hK9 _ _ rfl (Sw.both (by decide) (fun h=>h) (fun h=>h) HC9.out) bR
 refine aa (undef) (fun vs L9 w9 hG9 hC9 hB K9 hK9=>?hv23) ?rv23
 case hv23 =>
  replace hC9:=hC9.here hG9
  obtain ⟨TA,tc,OA,oc,e15,h1,h2⟩:=fs hB 13
  simp only [e15] at hK9 ⊢
  have Lr:=L3b.below hC9 L3b.lt
  obtain ⟨z0,z1,z2,z3,z4⟩:=cells5 Lr
  obtain ⟨f0,f1,f2,f3,f4⟩:=frz5 Lr
  have h1:=Lib.hid h1
  have h2:=Lib.hid h2
  clear Lr
  go_simp
  exact hK9 _ _ rfl (Sw.turn (by rw [HD1.out]; exact ⟨w9,TA,tc,OA,oc,hC9,h1.out,h2.out,rfl⟩)) (fun hq=>(hq (by decide)).elim)
 apply aa
 case h1 =>
  intro vs L9 w9 hG9 hC9 hB K9 hK9
  replace hC9:=hC9.after hG9 (by kernel_rfl)
  have d22:=fe hB 22
  simp only [d22] at hK9 ⊢
  simp only [Act.put,sA,s0,s1] at hK9
  go_simp
  exact hK9 _ _ rfl (Sw.on hG9 (by kernel_rfl) hC9) bR
 refine az fun vs L9 w9 hL9 hC9 hB=>?_
 replace hC9:=hC9.done hL9 (by decide)
 have dl:=ag.eq (hB 24 _ rfl rfl (by decide))
 simp only [dl]
 clear hB dl
 rw [HD1.out] at hC9
 obtain ⟨W8,TA,tc,OA,oc,hb8,h1,h2,rfl⟩:=hC9
 have Lr:=L3b.below hb8 L3b.lt
 have bz:=(b5.trans (hb8.mono b5.size)).trans (bK (v0:=F TA ((⟨x.t,aH st va (m+n) (aH st pe 0 x.o),x.got,x.sold,x.missed⟩ : Oc)).t.length tc) (v1:=F OA ((⟨x.t,aH st va (m+n) (aH st pe 0 x.o),x.got,x.sold,x.missed⟩ : Oc)).o.length oc) (v2:=O U ((⟨x.t,aH st va (m+n) (aH st pe 0 x.o),x.got,x.sold,x.missed⟩ : Oc)).got) (v3:=O U ((⟨x.t,aH st va (m+n) (aH st pe 0 x.o),x.got,x.sold,x.missed⟩ : Oc)).sold) (v4:=O U ((⟨x.t,aH st va (m+n) (aH st pe 0 x.o),x.got,x.sold,x.missed⟩ : Oc)).missed) Lr (show w.heap.size≤(w.heap.size+1+1) by omega))
 have HT:=Lib.hid (aW (v0:=F TA ((⟨x.t,aH st va (m+n) (aH st pe 0 x.o),x.got,x.sold,x.missed⟩ : Oc)).t.length tc) (v1:=F OA ((⟨x.t,aH st va (m+n) (aH st pe 0 x.o),x.got,x.sold,x.missed⟩ : Oc)).o.length oc) (v2:=O U ((⟨x.t,aH st va (m+n) (aH st pe 0 x.o),x.got,x.sold,x.missed⟩ : Oc)).got) (v3:=O U ((⟨x.t,aH st va (m+n) (aH st pe 0 x.o),x.got,x.sold,x.missed⟩ : Oc)).sold) (v4:=O U ((⟨x.t,aH st va (m+n) (aH st pe 0 x.o),x.got,x.sold,x.missed⟩ : Oc)).missed) Lr h1 cq)
 have HO:=Lib.hid (aW (v0:=F TA ((⟨x.t,aH st va (m+n) (aH st pe 0 x.o),x.got,x.sold,x.missed⟩ : Oc)).t.length tc) (v1:=F OA ((⟨x.t,aH st va (m+n) (aH st pe 0 x.o),x.got,x.sold,x.missed⟩ : Oc)).o.length oc) (v2:=O U ((⟨x.t,aH st va (m+n) (aH st pe 0 x.o),x.got,x.sold,x.missed⟩ : Oc)).got) (v3:=O U ((⟨x.t,aH st va (m+n) (aH st pe 0 x.o),x.got,x.sold,x.missed⟩ : Oc)).sold) (v4:=O U ((⟨x.t,aH st va (m+n) (aH st pe 0 x.o),x.got,x.sold,x.missed⟩ : Oc)).missed) Lr h2 cF)
 have PR:=fb (v0:=F TA ((⟨x.t,aH st va (m+n) (aH st pe 0 x.o),x.got,x.sold,x.missed⟩ : Oc)).t.length tc) (v1:=F OA ((⟨x.t,aH st va (m+n) (aH st pe 0 x.o),x.got,x.sold,x.missed⟩ : Oc)).o.length oc) (v2:=O U ((⟨x.t,aH st va (m+n) (aH st pe 0 x.o),x.got,x.sold,x.missed⟩ : Oc)).got) (v3:=O U ((⟨x.t,aH st va (m+n) (aH st pe 0 x.o),x.got,x.sold,x.missed⟩ : Oc)).sold) (v4:=O U ((⟨x.t,aH st va (m+n) (aH st pe 0 x.o),x.got,x.sold,x.missed⟩ : Oc)).missed) Lr
 generalize cW W8 (w.heap.size+1+1) (F TA ((⟨x.t,aH st va (m+n) (aH st pe 0 x.o),x.got,x.sold,x.missed⟩ : Oc)).t.length tc) (F OA ((⟨x.t,aH st va (m+n) (aH st pe 0 x.o),x.got,x.sold,x.missed⟩ : Oc)).o.length oc) (O U ((⟨x.t,aH st va (m+n) (aH st pe 0 x.o),x.got,x.sold,x.missed⟩ : Oc)).got) (O U ((⟨x.t,aH st va (m+n) (aH st pe 0 x.o),x.got,x.sold,x.missed⟩ : Oc)).sold) (O U ((⟨x.t,aH st va (m+n) (aH st pe 0 x.o),x.got,x.sold,x.missed⟩ : Oc)).missed)=W9 at bz HT HO PR ⊢
 obtain ⟨k0,k1,k2,k3,k4⟩:=cells5 PR
 clear h1 h2 Lr hb8 hL9 PR
 go_wp2
 refine bodyPost_ret (v:=.tuple #[.agg #[F TA ((⟨x.t,aH st va (m+n) (aH st pe 0 x.o),x.got,x.sold,x.missed⟩ : Oc)).t.length tc,F OA ((⟨x.t,aH st va (m+n) (aH st pe 0 x.o),x.got,x.sold,x.missed⟩ : Oc)).o.length oc,O U ((⟨x.t,aH st va (m+n) (aH st pe 0 x.o),x.got,x.sold,x.missed⟩ : Oc)).got,O U ((⟨x.t,aH st va (m+n) (aH st pe 0 x.o),x.got,x.sold,x.missed⟩ : Oc)).sold,O U ((⟨x.t,aH st va (m+n) (aH st pe 0 x.o),x.got,x.sold,x.missed⟩ : Oc)).missed],.bool (b && (va != pe))]) (by simp [results,Tryz.results175,go_sem, *]) rfl ?_
 rw [show (decide (0 < n) && !decide (va=pe))=(b && (va != pe)) from by rw [HBD.out]; congr 1]
 exact ⟨TA,tc,OA,oc,rfl,HT.out,HO.out,bz⟩
set_option maxRecDepth 100000 in
set_option maxHeartbeats 4000000 in
theorem oy (x:aM) (st pe va:Int) (w:World) (h:aQ w w.heap.size x) (G:bn x) (hcap:x.t.length≤x.tc) (hst:1≤st∧st≤99) (hpe:1≤pe∧pe≤999) (hva:1≤va∧va≤9999) :
  Calls Tryz.prog 175 #[x.val,.agg #[O U 4,O U st,O U pe,O U va]] w (cm w ((⟨x.t,aH st pe (aJ st pe x.o - va) x.o,x.got,x.sold+va,x.missed⟩ : Oc),decide (va≤aJ st pe x.o))):=by
 have L1:=((ai.new w 40 #[F x.TA x.t.length x.tc,F x.OA x.o.length x.oc,O U x.got,O U x.sold,O U x.missed]).alloc (.cells #[O U 4,O U st,O U pe,O U va] 112)).alloc (.cells #[F none 0 0,F none 0 0,O U 0,O U 0,O U 0] 40)
 have L2:=(ai.new1 w (.cells #[F x.TA x.t.length x.tc,F x.OA x.o.length x.oc,O U x.got,O U x.sold,O U x.missed] 40) 112 #[O U 4,O U st,O U pe,O U va]).alloc (.cells #[F none 0 0,F none 0 0,O U 0,O U 0,O U 0] 40)
 have L3:=ai.new2 w (.cells #[F x.TA x.t.length x.tc,F x.OA x.o.length x.oc,O U x.got,O U x.sold,O U x.missed] 40) (.cells #[O U 4,O U st,O U pe,O U va] 112) 40 #[F none 0 0,F none 0 0,O U 0,O U 0,O U 0]
 have b1:=(Below.refl w.heap.size w).alloc (Nat.le_refl _) (.cells #[F x.TA x.t.length x.tc,F x.OA x.o.length x.oc,O U x.got,O U x.sold,O U x.missed] 40)
 have b2:=b1.alloc b1.size (.cells #[O U 4,O U st,O U pe,O U va] 112)
 have b3:=b2.alloc b2.size (.cells #[F none 0 0,F none 0 0,O U 0,O U 0,O U 0] 40)
 have Sx:=G.small
 have htl:=G.tl
 have hol:=G.ol
 have htc:=G.tcs
 obtain ⟨m1,m2⟩:=G.m
 obtain ⟨g1,g2⟩:=G.s
 obtain ⟨n1,n2⟩:=G.at_bd st pe
 obtain ⟨n,hn⟩ : ∃ n,aJ st pe x.o=n:=⟨_,rfl⟩
 rw [hn] at n1 n2 ⊢
 clear b1 b2 G
 go_enter Tryz.func175,Tryz.ntmps175
 go_wp2_with fail
 generalize (((w.alloc (.cells #[F x.TA x.t.length x.tc,F x.OA x.o.length x.oc,O U x.got,O U x.sold,O U x.missed] 40)).alloc (.cells #[O U 4,O U st,O U pe,O U va] 112)).alloc (.cells #[F none 0 0,F none 0 0,O U 0,O U 0,O U 0] 40))=W at L1 L2 L3 b3 ⊢
 have hR:=h.up b3 (Nat.le_refl _)
 refine (fl x st pe W hR).mono ?_
 rintro e W1 ⟨rfl,hb1⟩
 rw [hn]
 have hR1:=hR.then hb1
 have L1a:=L1.below hb1 L1.lt
 have L2a:=L2.below hb1 L2.lt
 have L3a:=L3.below hb1 L3.lt
 have b4:=b3.trans (hb1.mono b3.size)
 have hW0:w.heap.size≤W1.heap.size:=b4.size
 have hn:=Lib.hid hn
 clear L1 L2 L3 b3 hb1 hR h
 obtain ⟨c0,c1,c2,c3,c4⟩:=cells5 L1a
 obtain ⟨s0,s1,s2,s3⟩:=cells4 L2a
 obtain ⟨v1,v2⟩:=hva
 have i3:IntKind.i64.wrap (n - va)=n - va:=IntWalk.i64_in _ (by omega)
 have i4:IntKind.i64.wrap (x.sold+va)=x.sold+va:=IntWalk.i64_in _ (by omega)
 go_wp2_with fail
 refine (sJ x st pe (n - va) W1 hR1 Sx hst hpe).mono ?_
 rintro e W2 ⟨v2,rfl,⟨TA,tc,OA,oc,hv2,hT,hO⟩,hb2⟩
 have hv2:v2=.agg #[F TA x.t.length tc,F OA (aH st pe (n - va) x.o).length oc,O U x.got,O U x.sold,O U x.missed]:=hv2
 subst hv2
 simp only at hT hO
 have hal:=(Below.refl W2.heap.size W2).alloc (Nat.le_refl _) (.cells #[F TA x.t.length tc,F OA (aH st pe (n - va) x.o).length oc,O U x.got,O U x.sold,O U x.missed] 40)
 have L1b:=(L1a.below hb2 L1a.lt).below hal (Nat.lt_of_lt_of_le L1a.lt hb2.size)
 have L2b:=(L2a.below hb2 L2a.lt).below hal (Nat.lt_of_lt_of_le L2a.lt hb2.size)
 have L3b:=(L3a.below hb2 L3a.lt).below hal (Nat.lt_of_lt_of_le L3a.lt hb2.size)
 have P:=ai.new W2 40 #[F TA x.t.length tc,F OA (aH st pe (n - va) x.o).length oc,O U x.got,O U x.sold,O U x.missed]
 have hT3:=af (ab hT hal) hW0
 have hO3:=af (ab hO hal) hW0
 have b5:=b4.trans ((ar hb2 hal).mono b4.size)
 have hR5:=(hR1.then hb2).then hal
 have hgg:w.heap.size+1+1 < W2.heap.size:=Nat.lt_of_lt_of_le L3a.lt hb2.size
 clear c0 c1 c2 c3 c4 s0 s1 s2 s3
 obtain ⟨W3,hW3⟩ : ∃ W3,W2.alloc (.cells #[F TA x.t.length tc,F OA (aH st pe (n - va) x.o).length oc,O U x.got,O U x.sold,O U x.missed] 40)=W3:=⟨_,rfl⟩
 rw [hW3] at L1b L2b L3b P hT3 hO3 b5 hR5
 generalize hg2:W2.heap.size=g2 at P hgg
 obtain ⟨c0,c1,c2,c3,c4⟩:=cells5 L1b
 obtain ⟨s0,s1,s2,s3⟩:=cells4 L2b
 obtain ⟨p0,p1,p2,p3,p4⟩:=cells5 P
 obtain ⟨pf0,pf1,pf2,pf3,pf4⟩:=frz5 P
 have P4:=P.set 3 (O U (x.sold+va))
 have L1c:=L1b.other (p:=⟨g2,3,none⟩) (by simp; omega) (O U (x.sold+va))
 have L2c:=L2b.other (p:=⟨g2,3,none⟩) (by simp; omega) (O U (x.sold+va))
 have L3c:=L3b.other (p:=⟨g2,3,none⟩) (by simp; omega) (O U (x.sold+va))
 have hT4:=al hT3 P cq 3 (O U (x.sold+va))
 have hO4:=al hO3 P cF 3 (O U (x.sold+va))
 have b6:=b5.setCell (p:=⟨g2,3,none⟩) (show w.heap.size≤g2 by omega) (O U (x.sold+va))
 simp only [List.set_cons_zero,List.set_cons_succ] at P4
 obtain ⟨W4,hW4⟩ : ∃ W4,W3.setCell ⟨g2,3,none⟩ (O U (x.sold+va))=W4:=⟨_,rfl⟩
 rw [hW4] at P4 L1c L2c L3c hT4 hO4 b6
 clear hR5 hb2 hal hT hO L1a L2a L3a b4 hR1
 go_wp2_with (first | (rw [hW3]; clear hW3; rw [hg2]) | (rw [hW4]; clear hW4))
 clear c0 c1 c2 c3 c4 s0 s1 s2 s3 p0 p1 p2 p3 p4 pf0 pf1 pf2 pf3 pf4
 obtain ⟨D1,hD1⟩ : ∃ D:World→Prop,D=(fun W9=>∃ W8 TA tc OA oc,Below W4.heap.size W4 W8∧W8.ownsRow w.heap.size 104 2 (F TA ((⟨x.t,aH st pe (n - va) x.o,x.got,x.sold+va,x.missed⟩ : Oc)).t.length tc) ((⟨x.t,aH st pe (n - va) x.o,x.got,x.sold+va,x.missed⟩ : Oc)).t.length (((⟨x.t,aH st pe (n - va) x.o,x.got,x.sold+va,x.missed⟩ : Oc)).t.flatMap aq.enc)∧W8.ownsRow w.heap.size 147 3 (F OA ((⟨x.t,aH st pe (n - va) x.o,x.got,x.sold+va,x.missed⟩ : Oc)).o.length oc) ((⟨x.t,aH st pe (n - va) x.o,x.got,x.sold+va,x.missed⟩ : Oc)).o.length (((⟨x.t,aH st pe (n - va) x.o,x.got,x.sold+va,x.missed⟩ : Oc)).o.flatMap ae.enc)∧W9=cW W8 (w.heap.size+1+1) (F TA ((⟨x.t,aH st pe (n - va) x.o,x.got,x.sold+va,x.missed⟩ : Oc)).t.length tc) (F OA ((⟨x.t,aH st pe (n - va) x.o,x.got,x.sold+va,x.missed⟩ : Oc)).o.length oc) (O U ((⟨x.t,aH st pe (n - va) x.o,x.got,x.sold+va,x.missed⟩ : Oc)).got) (O U ((⟨x.t,aH st pe (n - va) x.o,x.got,x.sold+va,x.missed⟩ : Oc)).sold) (O U ((⟨x.t,aH st pe (n - va) x.o,x.got,x.sold+va,x.missed⟩ : Oc)).missed)):=⟨_,rfl⟩
 have hDL:∀ W,D1 W→∃ W8 v0 v1 v2 v3 v4,Below W4.heap.size W4 W8∧W=cW W8 (w.heap.size+1+1) v0 v1 v2 v3 v4:=by
  rw [hD1]
  rintro _ ⟨W8,TA,tc,OA,oc,hq,_,_,e⟩
  exact ⟨W8,_,_,_,_,_,hq,e⟩
 have HD1:=Lib.hid hD1; clear hD1
 refine an (Sw 5 (fun W9=>Below W4.heap.size W4 W9) D1) (fun i w1 w2=>i ∉ [5]→Below w1.heap.size w1 w2) (by kernel_rfl) (by kernel_rfl) (by kernel_rfl) (Sw.start (Below.refl _ _).drew) ?_
 simp only [ax,Act.put,List.setIfInBounds_toArray,List.set_cons_zero,List.set_cons_succ,Nat.zero_add,Nat.reduceAdd]
 apply aa
 case h1 =>
  intro vs L9 w9 hG9 hC9 hB K9 hK9
  replace hC9:=sb hC9 hG9
  have q0:w9.cell? ⟨g2,0,none⟩=some (F TA x.t.length tc):=(P4.below hC9 P4.lt).cell 0
  have q1:w9.cell? ⟨g2,1,none⟩=some (F OA (aH st pe (n - va) x.o).length oc):=(P4.below hC9 P4.lt).cell 1
  have q2:w9.cell? ⟨g2,2,none⟩=some (O U x.got):=(P4.below hC9 P4.lt).cell 2
  have q3:w9.cell? ⟨g2,3,none⟩=some (O U (x.sold+va)):=(P4.below hC9 P4.lt).cell 3
  have q4:w9.cell? ⟨g2,4,none⟩=some (O U x.missed):=(P4.below hC9 P4.lt).cell 4
  simp only [Act.put,sA,s0,s1] at hK9
  go_simp
  exact hK9 _ _ rfl (sy hG9 hC9) bR
 apply aa
 case h1 =>
  intro vs L9 w9 hG9 hC9 hB K9 hK9
  simp only [Act.put,sA,s0,s1] at hK9
  have HC9:=Lib.hid hC9
  clear hC9
  go_simp
  exact hK9 _ _ rfl (Sw.both (by decide) (fun h=>h) (fun h=>h) HC9.out) bR
 apply aa
 case h1 =>
  intro vs L9 w9 hG9 hC9 hB K9 hK9
  simp only [Act.put,sA,s0,s1] at hK9
  have HC9:=Lib.hid hC9
  clear hC9
  go_simp
  exact hK9 _ _ rfl (Sw.both (by decide) (fun h=>h) (fun h=>h) HC9.out) bR
 apply aa
 case h1 =>
  intro vs L9 w9 hG9 hC9 hB K9 hK9
  have d2:=fe hB 2
  simp only [d2] at hK9 ⊢
  have q0:w9.cell? ⟨(w.heap.size+1),3,none⟩=some (O U va):=(hC9.lies hDL L2c (by omega)).cell 3
  simp only [Act.put,sA,s0,s1] at hK9
  have HC9:=Lib.hid hC9
  clear hC9
  go_simp
  exact hK9 _ _ rfl (Sw.both (by decide) (fun h=>h) (fun h=>h) HC9.out) bR
 apply aa
 case h1 =>
  intro vs L9 w9 hG9 hC9 hB K9 hK9
  have d1:=fe hB 1
  have d3:=fe hB 3
  simp only [d1,d3] at hK9 ⊢
  simp only [Act.put,sA,s0,s1] at hK9
  have HC9:=Lib.hid hC9
  clear hC9
  go_simp
  exact hK9 _ _ rfl (Sw.both (by decide) (fun h=>h) (fun h=>h) HC9.out) bR
 refine aa (undef) (fun vs L9 w9 hG9 hC9 hB K9 hK9=>?hl5) ?rl5
 case hl5 =>
  replace hC9:=hC9.here hG9
  have d0:=fe hB 0
  simp only [d0] at hK9 ⊢
  have Lr:=L3c.below hC9 L3c.lt
  obtain ⟨z0,z1,z2,z3,z4⟩:=cells5 Lr
  obtain ⟨f0,f1,f2,f3,f4⟩:=frz5 Lr
  clear Lr
  go_simp
  exact hK9 _ _ rfl (Sw.turn (by rw [HD1.out]; exact ⟨w9,TA,tc,OA,oc,hC9,ab hT4 hC9,ab hO4 hC9,rfl⟩)) (fun hq=>(hq (by decide)).elim)
 apply aa
 case h1 =>
  intro vs L9 w9 hG9 hC9 hB K9 hK9
  replace hC9:=hC9.after hG9 (by kernel_rfl)
  have d4:=fe hB 4
  simp only [d4] at hK9 ⊢
  simp only [Act.put,sA,s0,s1] at hK9
  go_simp
  exact hK9 _ _ rfl (Sw.on hG9 (by kernel_rfl) hC9) bR
 refine az fun vs L9 w9 hL9 hC9 hB=>?_
 replace hC9:=hC9.done hL9 (by decide)
 have dl:=ag.eq (hB 6 _ rfl rfl (by decide))
 simp only [dl]
 clear hB dl
 rw [HD1.out] at hC9
 obtain ⟨W8,TA,tc,OA,oc,hb8,h1,h2,rfl⟩:=hC9
 have Lr:=L3c.below hb8 L3c.lt
 have bz:=(b6.trans (hb8.mono b6.size)).trans (bK (v0:=F TA ((⟨x.t,aH st pe (n - va) x.o,x.got,x.sold+va,x.missed⟩ : Oc)).t.length tc) (v1:=F OA ((⟨x.t,aH st pe (n - va) x.o,x.got,x.sold+va,x.missed⟩ : Oc)).o.length oc) (v2:=O U ((⟨x.t,aH st pe (n - va) x.o,x.got,x.sold+va,x.missed⟩ : Oc)).got) (v3:=O U ((⟨x.t,aH st pe (n - va) x.o,x.got,x.sold+va,x.missed⟩ : Oc)).sold) (v4:=O U ((⟨x.t,aH st pe (n - va) x.o,x.got,x.sold+va,x.missed⟩ : Oc)).missed) Lr (show w.heap.size≤(w.heap.size+1+1) by omega))
 have HT:=Lib.hid (aW (v0:=F TA ((⟨x.t,aH st pe (n - va) x.o,x.got,x.sold+va,x.missed⟩ : Oc)).t.length tc) (v1:=F OA ((⟨x.t,aH st pe (n - va) x.o,x.got,x.sold+va,x.missed⟩ : Oc)).o.length oc) (v2:=O U ((⟨x.t,aH st pe (n - va) x.o,x.got,x.sold+va,x.missed⟩ : Oc)).got) (v3:=O U ((⟨x.t,aH st pe (n - va) x.o,x.got,x.sold+va,x.missed⟩ : Oc)).sold) (v4:=O U ((⟨x.t,aH st pe (n - va) x.o,x.got,x.sold+va,x.missed⟩ : Oc)).missed) Lr h1 cq)
 have HO:=Lib.hid (aW (v0:=F TA ((⟨x.t,aH st pe (n - va) x.o,x.got,x.sold+va,x.missed⟩ : Oc)).t.length tc) (v1:=F OA ((⟨x.t,aH st pe (n - va) x.o,x.got,x.sold+va,x.missed⟩ : Oc)).o.length oc) (v2:=O U ((⟨x.t,aH st pe (n - va) x.o,x.got,x.sold+va,x.missed⟩ : Oc)).got) (v3:=O U ((⟨x.t,aH st pe (n - va) x.o,x.got,x.sold+va,x.missed⟩ : Oc)).sold) (v4:=O U ((⟨x.t,aH st pe (n - va) x.o,x.got,x.sold+va,x.missed⟩ : Oc)).missed) Lr h2 cF)
 have PR:=fb (v0:=F TA ((⟨x.t,aH st pe (n - va) x.o,x.got,x.sold+va,x.missed⟩ : Oc)).t.length tc) (v1:=F OA ((⟨x.t,aH st pe (n - va) x.o,x.got,x.sold+va,x.missed⟩ : Oc)).o.length oc) (v2:=O U ((⟨x.t,aH st pe (n - va) x.o,x.got,x.sold+va,x.missed⟩ : Oc)).got) (v3:=O U ((⟨x.t,aH st pe (n - va) x.o,x.got,x.sold+va,x.missed⟩ : Oc)).sold) (v4:=O U ((⟨x.t,aH st pe (n - va) x.o,x.got,x.sold+va,x.missed⟩ : Oc)).missed) Lr
 generalize cW W8 (w.heap.size+1+1) (F TA ((⟨x.t,aH st pe (n - va) x.o,x.got,x.sold+va,x.missed⟩ : Oc)).t.length tc) (F OA ((⟨x.t,aH st pe (n - va) x.o,x.got,x.sold+va,x.missed⟩ : Oc)).o.length oc) (O U ((⟨x.t,aH st pe (n - va) x.o,x.got,x.sold+va,x.missed⟩ : Oc)).got) (O U ((⟨x.t,aH st pe (n - va) x.o,x.got,x.sold+va,x.missed⟩ : Oc)).sold) (O U ((⟨x.t,aH st pe (n - va) x.o,x.got,x.sold+va,x.missed⟩ : Oc)).missed)=W9 at bz HT HO PR ⊢
 obtain ⟨k0,k1,k2,k3,k4⟩:=cells5 PR
 clear h1 h2 Lr hb8 hL9 PR
 go_wp2
 refine bodyPost_ret (v:=.tuple #[.agg #[F TA ((⟨x.t,aH st pe (n - va) x.o,x.got,x.sold+va,x.missed⟩ : Oc)).t.length tc,F OA ((⟨x.t,aH st pe (n - va) x.o,x.got,x.sold+va,x.missed⟩ : Oc)).o.length oc,O U ((⟨x.t,aH st pe (n - va) x.o,x.got,x.sold+va,x.missed⟩ : Oc)).got,O U ((⟨x.t,aH st pe (n - va) x.o,x.got,x.sold+va,x.missed⟩ : Oc)).sold,O U ((⟨x.t,aH st pe (n - va) x.o,x.got,x.sold+va,x.missed⟩ : Oc)).missed],.bool (decide (va≤n))]) (by simp [results,Tryz.results175,go_sem, *]) rfl ?_
 exact ⟨TA,tc,OA,oc,rfl,HT.out,HO.out,bz⟩
set_option maxRecDepth 100000 in
set_option maxHeartbeats 4000000 in
theorem oz (x:aM) (st pe va:Int) (hst:1≤st∧st≤99) (hva:1≤va∧va≤9999) (w:World) (h:aQ w w.heap.size x) (G:bn x) (hcap:x.t.length≤x.tc) :
  Calls Tryz.prog 127 #[x.val,.agg #[O U 1,O U st,O U pe,O U va]] w (cm w ((⟨ah x.t st va,x.o,x.got+va,x.sold,x.missed⟩ : Oc),((⟨ah x.t st va,x.o,x.got+va,x.sold,x.missed⟩ : Oc)).good)):=by
 have L1:=((ai.new w 40 #[F x.TA x.t.length x.tc,F x.OA x.o.length x.oc,O U x.got,O U x.sold,O U x.missed]).alloc (.cells #[O U 1,O U st,O U pe,O U va] 112)).alloc (.cells #[F none 0 0,F none 0 0,O U 0,O U 0,O U 0] 40)
 have L2:=(ai.new1 w (.cells #[F x.TA x.t.length x.tc,F x.OA x.o.length x.oc,O U x.got,O U x.sold,O U x.missed] 40) 112 #[O U 1,O U st,O U pe,O U va]).alloc (.cells #[F none 0 0,F none 0 0,O U 0,O U 0,O U 0] 40)
 have L3:=ai.new2 w (.cells #[F x.TA x.t.length x.tc,F x.OA x.o.length x.oc,O U x.got,O U x.sold,O U x.missed] 40) (.cells #[O U 1,O U st,O U pe,O U va] 112) 40 #[F none 0 0,F none 0 0,O U 0,O U 0,O U 0]
 have b1:=(Below.refl w.heap.size w).alloc (Nat.le_refl _) (.cells #[F x.TA x.t.length x.tc,F x.OA x.o.length x.oc,O U x.got,O U x.sold,O U x.missed] 40)
 have b2:=b1.alloc b1.size (.cells #[O U 1,O U st,O U pe,O U va] 112)
 have b3:=b2.alloc b2.size (.cells #[F none 0 0,F none 0 0,O U 0,O U 0,O U 0] 40)
 have Sx:=G.small
 have htl:=G.tl
 have hol:=G.ol
 have htc:=G.tcs
 obtain ⟨m1,m2⟩:=G.m
 obtain ⟨g1,g2⟩:=G.s
 obtain ⟨o1,o2⟩:=G.g
 clear b1 b2 G
 obtain ⟨v1,v2⟩:=hva
 obtain ⟨gd,hgd⟩ : ∃ gd,((⟨ah x.t st va,x.o,x.got+va,x.sold,x.missed⟩ : Oc)).good=gd:=⟨_,rfl⟩
 rw [hgd]
 have HG:=Lib.hid hgd; clear hgd
 have i4:IntKind.i64.wrap (x.got+va)=x.got+va:=IntWalk.i64_in _ (by omega)
 go_enter Tryz.func127,Tryz.ntmps127
 go_wp2_with fail
 generalize (((w.alloc (.cells #[F x.TA x.t.length x.tc,F x.OA x.o.length x.oc,O U x.got,O U x.sold,O U x.missed] 40)).alloc (.cells #[O U 1,O U st,O U pe,O U va] 112)).alloc (.cells #[F none 0 0,F none 0 0,O U 0,O U 0,O U 0] 40))=W at L1 L2 L3 b3 ⊢
 have hR:=h.up b3 (Nat.le_refl _)
 have hR1:=hR
 have L1a:=L1
 have L2a:=L2
 have L3a:=L3
 have b4:=b3
 have hW0:w.heap.size≤W.heap.size:=b4.size
 clear L1 L2 L3 b3 hR h
 refine (sI x st va W hR1 Sx (by omega) hcap).mono ?_
 rintro e W2 ⟨v2,rfl,⟨TA,tc,OA,oc,hv2,hT,hO⟩,hb2⟩
 have hv2:v2=.agg #[F TA (ah x.t st va).length tc,F OA x.o.length oc,O U x.got,O U x.sold,O U x.missed]:=hv2
 subst hv2
 simp only at hT hO
 have hal:=(Below.refl W2.heap.size W2).alloc (Nat.le_refl _) (.cells #[F TA (ah x.t st va).length tc,F OA x.o.length oc,O U x.got,O U x.sold,O U x.missed] 40)
 have L1b:=(L1a.below hb2 L1a.lt).below hal (Nat.lt_of_lt_of_le L1a.lt hb2.size)
 have L2b:=(L2a.below hb2 L2a.lt).below hal (Nat.lt_of_lt_of_le L2a.lt hb2.size)
 have L3b:=(L3a.below hb2 L3a.lt).below hal (Nat.lt_of_lt_of_le L3a.lt hb2.size)
 have P:=ai.new W2 40 #[F TA (ah x.t st va).length tc,F OA x.o.length oc,O U x.got,O U x.sold,O U x.missed]
 have hT3:=af (ab hT hal) hW0
 have hO3:=af (ab hO hal) hW0
 have b5:=b4.trans ((ar hb2 hal).mono b4.size)
 have hgg:w.heap.size+1+1 < W2.heap.size:=Nat.lt_of_lt_of_le L3a.lt hb2.size
 obtain ⟨W3,hW3⟩ : ∃ W3,W2.alloc (.cells #[F TA (ah x.t st va).length tc,F OA x.o.length oc,O U x.got,O U x.sold,O U x.missed] 40)=W3:=⟨_,rfl⟩
 rw [hW3] at L1b L2b L3b P hT3 hO3 b5
 generalize hg2:W2.heap.size=g2 at P hgg
 obtain ⟨c0,c1,c2,c3,c4⟩:=cells5 L1b
 obtain ⟨s0,s1,s2,s3⟩:=cells4 L2b
 obtain ⟨p0,p1,p2,p3,p4⟩:=cells5 P
 obtain ⟨pf0,pf1,pf2,pf3,pf4⟩:=frz5 P
 have P4:=P.set 2 (O U (x.got+va))
 have L1c:=L1b.other (p:=⟨g2,2,none⟩) (by simp; omega) (O U (x.got+va))
 have L2c:=L2b.other (p:=⟨g2,2,none⟩) (by simp; omega) (O U (x.got+va))
 have L3c:=L3b.other (p:=⟨g2,2,none⟩) (by simp; omega) (O U (x.got+va))
 have hT4:=al hT3 P cq 2 (O U (x.got+va))
 have hO4:=al hO3 P cF 2 (O U (x.got+va))
 have b6:=b5.setCell (p:=⟨g2,2,none⟩) (show w.heap.size≤g2 by omega) (O U (x.got+va))
 simp only [List.set_cons_zero,List.set_cons_succ] at P4
 obtain ⟨W4,hW4⟩ : ∃ W4,W3.setCell ⟨g2,2,none⟩ (O U (x.got+va))=W4:=⟨_,rfl⟩
 rw [hW4] at P4 L1c L2c L3c hT4 hO4 b6
 clear hb2 hal hT hO L1a L2a L3a b4 hR1
 go_wp2_with (first | (rw [hW3]; clear hW3; rw [hg2]) | (rw [hW4]; clear hW4))
 clear c0 c1 c2 c3 c4 s0 s1 s2 s3 p0 p1 p2 p3 p4 pf0 pf1 pf2 pf3 pf4
 obtain ⟨D1,hD1⟩ : ∃ D:World→Prop,D=(fun W9=>∃ W8 TA tc OA oc,Below W4.heap.size W4 W8∧W8.ownsRow w.heap.size 104 2 (F TA ((⟨ah x.t st va,x.o,x.got+va,x.sold,x.missed⟩ : Oc)).t.length tc) ((⟨ah x.t st va,x.o,x.got+va,x.sold,x.missed⟩ : Oc)).t.length (((⟨ah x.t st va,x.o,x.got+va,x.sold,x.missed⟩ : Oc)).t.flatMap aq.enc)∧W8.ownsRow w.heap.size 147 3 (F OA ((⟨ah x.t st va,x.o,x.got+va,x.sold,x.missed⟩ : Oc)).o.length oc) ((⟨ah x.t st va,x.o,x.got+va,x.sold,x.missed⟩ : Oc)).o.length (((⟨ah x.t st va,x.o,x.got+va,x.sold,x.missed⟩ : Oc)).o.flatMap ae.enc)∧W9=cW W8 (w.heap.size+1+1) (F TA ((⟨ah x.t st va,x.o,x.got+va,x.sold,x.missed⟩ : Oc)).t.length tc) (F OA ((⟨ah x.t st va,x.o,x.got+va,x.sold,x.missed⟩ : Oc)).o.length oc) (O U ((⟨ah x.t st va,x.o,x.got+va,x.sold,x.missed⟩ : Oc)).got) (O U ((⟨ah x.t st va,x.o,x.got+va,x.sold,x.missed⟩ : Oc)).sold) (O U ((⟨ah x.t st va,x.o,x.got+va,x.sold,x.missed⟩ : Oc)).missed)):=⟨_,rfl⟩
 have hDL:∀ W,D1 W→∃ W8 v0 v1 v2 v3 v4,Below W4.heap.size W4 W8∧W=cW W8 (w.heap.size+1+1) v0 v1 v2 v3 v4:=by
  rw [hD1]
  rintro _ ⟨W8,TA,tc,OA,oc,hq,_,_,e⟩
  exact ⟨W8,_,_,_,_,_,hq,e⟩
 have HD1:=Lib.hid hD1; clear hD1
 refine an (Sw 3 (fun W9=>Below W4.heap.size W4 W9) D1) (fun i w1 w2=>i ∉ [3]→Below w1.heap.size w1 w2) (by kernel_rfl) (by kernel_rfl) (by kernel_rfl) (Sw.start (Below.refl _ _).drew) ?_
 simp only [ax,Act.put,List.setIfInBounds_toArray,List.set_cons_zero,List.set_cons_succ,Nat.zero_add,Nat.reduceAdd]
 apply aa
 case h1 =>
  intro vs L9 w9 hG9 hC9 hB K9 hK9
  replace hC9:=sb hC9 hG9
  have q0:w9.cell? ⟨g2,0,none⟩=some (F TA (ah x.t st va).length tc):=(P4.below hC9 P4.lt).cell 0
  have q1:w9.cell? ⟨g2,1,none⟩=some (F OA x.o.length oc):=(P4.below hC9 P4.lt).cell 1
  have q2:w9.cell? ⟨g2,2,none⟩=some (O U (x.got+va)):=(P4.below hC9 P4.lt).cell 2
  have q3:w9.cell? ⟨g2,3,none⟩=some (O U x.sold):=(P4.below hC9 P4.lt).cell 3
  have q4:w9.cell? ⟨g2,4,none⟩=some (O U x.missed):=(P4.below hC9 P4.lt).cell 4
  simp only [Act.put,sA,s0,s1] at hK9
  go_simp
  exact hK9 _ _ rfl (sy hG9 hC9) bR
 apply aa
 case h1 =>
  intro vs L9 w9 hG9 hC9 hB K9 hK9
  replace hC9:=sb hC9 hG9
  have q0:w9.cell? ⟨g2,0,none⟩=some (F TA (ah x.t st va).length tc):=(P4.below hC9 P4.lt).cell 0
  have q1:w9.cell? ⟨g2,1,none⟩=some (F OA x.o.length oc):=(P4.below hC9 P4.lt).cell 1
  have q2:w9.cell? ⟨g2,2,none⟩=some (O U (x.got+va)):=(P4.below hC9 P4.lt).cell 2
  have q3:w9.cell? ⟨g2,3,none⟩=some (O U x.sold):=(P4.below hC9 P4.lt).cell 3
  have q4:w9.cell? ⟨g2,4,none⟩=some (O U x.missed):=(P4.below hC9 P4.lt).cell 4
  simp only [Act.put,sA,s0,s1] at hK9
  go_simp
  exact hK9 _ _ rfl (sy hG9 hC9) bR
 apply aa
 case h1 =>
  intro vs L9 w9 hG9 hC9 hB K9 hK9
  replace hC9:=sb hC9 hG9
  have d1:=fe hB 1
  simp only [d1] at hK9 ⊢
  simp only [Act.put,sA,s0,s1] at hK9
  go_simp
  refine (show Calls _ _ _ _ (fun e w'=>e=.returned (.bool gd)∧Below w9.heap.size w9 w') from by rw [← HG.out]; exact rJ (show fm w9 w.heap.size (⟨ah x.t st va,x.o,x.got+va,x.sold,x.missed⟩ : Oc) _ from ⟨TA,tc,OA,oc,rfl,ab hT4 hC9,ab hO4 hC9⟩)).mono ?_
  rintro en w8 ⟨rfl,hb8⟩
  exact hK9 _ _ rfl (Sw.stay hG9 (by kernel_rfl) (by decide) (hC9.trans (hb8.mono hC9.size))) (fun _=>hb8)
 refine aa (undef) (fun vs L9 w9 hG9 hC9 hB K9 hK9=>?hg3) ?rg3
 case hg3 =>
  replace hC9:=hC9.here hG9
  have d0:=fe hB 0
  simp only [d0] at hK9 ⊢
  have Lr:=L3c.below hC9 L3c.lt
  obtain ⟨z0,z1,z2,z3,z4⟩:=cells5 Lr
  obtain ⟨f0,f1,f2,f3,f4⟩:=frz5 Lr
  clear Lr
  go_simp
  exact hK9 _ _ rfl (Sw.turn (by rw [HD1.out]; exact ⟨w9,TA,tc,OA,oc,hC9,ab hT4 hC9,ab hO4 hC9,rfl⟩)) (fun hq=>(hq (by decide)).elim)
 apply aa
 case h1 =>
  intro vs L9 w9 hG9 hC9 hB K9 hK9
  replace hC9:=hC9.after hG9 (by kernel_rfl)
  have d2:=fe hB 2
  simp only [d2] at hK9 ⊢
  simp only [Act.put,sA,s0,s1] at hK9
  go_simp
  exact hK9 _ _ rfl (Sw.on hG9 (by kernel_rfl) hC9) bR
 refine az fun vs L9 w9 hL9 hC9 hB=>?_
 replace hC9:=hC9.done hL9 (by decide)
 have dl:=ag.eq (hB 4 _ rfl rfl (by decide))
 simp only [dl]
 clear hB dl
 rw [HD1.out] at hC9
 obtain ⟨W8,TA,tc,OA,oc,hb8,h1,h2,rfl⟩:=hC9
 have Lr:=L3c.below hb8 L3c.lt
 have bz:=(b6.trans (hb8.mono b6.size)).trans (bK (v0:=F TA ((⟨ah x.t st va,x.o,x.got+va,x.sold,x.missed⟩ : Oc)).t.length tc) (v1:=F OA ((⟨ah x.t st va,x.o,x.got+va,x.sold,x.missed⟩ : Oc)).o.length oc) (v2:=O U ((⟨ah x.t st va,x.o,x.got+va,x.sold,x.missed⟩ : Oc)).got) (v3:=O U ((⟨ah x.t st va,x.o,x.got+va,x.sold,x.missed⟩ : Oc)).sold) (v4:=O U ((⟨ah x.t st va,x.o,x.got+va,x.sold,x.missed⟩ : Oc)).missed) Lr (show w.heap.size≤(w.heap.size+1+1) by omega))
 have HT:=Lib.hid (aW (v0:=F TA ((⟨ah x.t st va,x.o,x.got+va,x.sold,x.missed⟩ : Oc)).t.length tc) (v1:=F OA ((⟨ah x.t st va,x.o,x.got+va,x.sold,x.missed⟩ : Oc)).o.length oc) (v2:=O U ((⟨ah x.t st va,x.o,x.got+va,x.sold,x.missed⟩ : Oc)).got) (v3:=O U ((⟨ah x.t st va,x.o,x.got+va,x.sold,x.missed⟩ : Oc)).sold) (v4:=O U ((⟨ah x.t st va,x.o,x.got+va,x.sold,x.missed⟩ : Oc)).missed) Lr h1 cq)
 have HO:=Lib.hid (aW (v0:=F TA ((⟨ah x.t st va,x.o,x.got+va,x.sold,x.missed⟩ : Oc)).t.length tc) (v1:=F OA ((⟨ah x.t st va,x.o,x.got+va,x.sold,x.missed⟩ : Oc)).o.length oc) (v2:=O U ((⟨ah x.t st va,x.o,x.got+va,x.sold,x.missed⟩ : Oc)).got) (v3:=O U ((⟨ah x.t st va,x.o,x.got+va,x.sold,x.missed⟩ : Oc)).sold) (v4:=O U ((⟨ah x.t st va,x.o,x.got+va,x.sold,x.missed⟩ : Oc)).missed) Lr h2 cF)
 have PR:=fb (v0:=F TA ((⟨ah x.t st va,x.o,x.got+va,x.sold,x.missed⟩ : Oc)).t.length tc) (v1:=F OA ((⟨ah x.t st va,x.o,x.got+va,x.sold,x.missed⟩ : Oc)).o.length oc) (v2:=O U ((⟨ah x.t st va,x.o,x.got+va,x.sold,x.missed⟩ : Oc)).got) (v3:=O U ((⟨ah x.t st va,x.o,x.got+va,x.sold,x.missed⟩ : Oc)).sold) (v4:=O U ((⟨ah x.t st va,x.o,x.got+va,x.sold,x.missed⟩ : Oc)).missed) Lr
 generalize cW W8 (w.heap.size+1+1) (F TA ((⟨ah x.t st va,x.o,x.got+va,x.sold,x.missed⟩ : Oc)).t.length tc) (F OA ((⟨ah x.t st va,x.o,x.got+va,x.sold,x.missed⟩ : Oc)).o.length oc) (O U ((⟨ah x.t st va,x.o,x.got+va,x.sold,x.missed⟩ : Oc)).got) (O U ((⟨ah x.t st va,x.o,x.got+va,x.sold,x.missed⟩ : Oc)).sold) (O U ((⟨ah x.t st va,x.o,x.got+va,x.sold,x.missed⟩ : Oc)).missed)=W9 at bz HT HO PR ⊢
 obtain ⟨k0,k1,k2,k3,k4⟩:=cells5 PR
 clear h1 h2 Lr hb8 hL9 PR
 go_wp2
 refine bodyPost_ret (v:=.tuple #[.agg #[F TA ((⟨ah x.t st va,x.o,x.got+va,x.sold,x.missed⟩ : Oc)).t.length tc,F OA ((⟨ah x.t st va,x.o,x.got+va,x.sold,x.missed⟩ : Oc)).o.length oc,O U ((⟨ah x.t st va,x.o,x.got+va,x.sold,x.missed⟩ : Oc)).got,O U ((⟨ah x.t st va,x.o,x.got+va,x.sold,x.missed⟩ : Oc)).sold,O U ((⟨ah x.t st va,x.o,x.got+va,x.sold,x.missed⟩ : Oc)).missed],.bool gd]) (by simp [results,Tryz.results127,go_sem, *]) rfl ?_
 exact ⟨TA,tc,OA,oc,rfl,HT.out,HO.out,bz⟩
set_option maxRecDepth 100000 in
set_option maxHeartbeats 4000000 in
theorem rK (x:aM) (kd st pe va:Int) (hk:(kd == 1)=false) (ht:av x.t st < 0) (w:World) (h:aQ w w.heap.size x) (G:bn x) (hcap:x.t.length≤x.tc) :
  Calls Tryz.prog 127 #[x.val,.agg #[O U kd,O U st,O U pe,O U va]] w (cm w (x.c,false)):=by
 have L1:=((ai.new w 40 #[F x.TA x.t.length x.tc,F x.OA x.o.length x.oc,O U x.got,O U x.sold,O U x.missed]).alloc (.cells #[O U kd,O U st,O U pe,O U va] 112)).alloc (.cells #[F none 0 0,F none 0 0,O U 0,O U 0,O U 0] 40)
 have L2:=(ai.new1 w (.cells #[F x.TA x.t.length x.tc,F x.OA x.o.length x.oc,O U x.got,O U x.sold,O U x.missed] 40) 112 #[O U kd,O U st,O U pe,O U va]).alloc (.cells #[F none 0 0,F none 0 0,O U 0,O U 0,O U 0] 40)
 have L3:=ai.new2 w (.cells #[F x.TA x.t.length x.tc,F x.OA x.o.length x.oc,O U x.got,O U x.sold,O U x.missed] 40) (.cells #[O U kd,O U st,O U pe,O U va] 112) 40 #[F none 0 0,F none 0 0,O U 0,O U 0,O U 0]
 have b1:=(Below.refl w.heap.size w).alloc (Nat.le_refl _) (.cells #[F x.TA x.t.length x.tc,F x.OA x.o.length x.oc,O U x.got,O U x.sold,O U x.missed] 40)
 have b2:=b1.alloc b1.size (.cells #[O U kd,O U st,O U pe,O U va] 112)
 have b3:=b2.alloc b2.size (.cells #[F none 0 0,F none 0 0,O U 0,O U 0,O U 0] 40)
 have Sx:=G.small
 have htl:=G.tl
 have hol:=G.ol
 have htc:=G.tcs
 obtain ⟨m1,m2⟩:=G.m
 obtain ⟨g1,g2⟩:=G.s
 obtain ⟨o1,o2⟩:=G.g
 clear b1 b2 G
 have htd:decide (av x.t st < 0)=true:=decide_eq_true ht
 have HT0:=Lib.hid ht; clear ht
 go_enter Tryz.func127,Tryz.ntmps127
 go_wp2_with fail
 generalize (((w.alloc (.cells #[F x.TA x.t.length x.tc,F x.OA x.o.length x.oc,O U x.got,O U x.sold,O U x.missed] 40)).alloc (.cells #[O U kd,O U st,O U pe,O U va] 112)).alloc (.cells #[F none 0 0,F none 0 0,O U 0,O U 0,O U 0] 40))=W at L1 L2 L3 b3 ⊢
 have hR:=h.up b3 (Nat.le_refl _)
 refine (bx x st W hR).mono ?_
 rintro e W1 ⟨rfl,hb1⟩
 have hR1:=hR.then hb1
 have L1a:=L1.below hb1 L1.lt
 have L2a:=L2.below hb1 L2.lt
 have L3a:=L3.below hb1 L3.lt
 have b4:=b3.trans (hb1.mono b3.size)
 have hW0:w.heap.size≤W1.heap.size:=b4.size
 clear L1 L2 L3 b3 hb1 hR h
 obtain ⟨c0,c1,c2,c3,c4⟩:=cells5 L1a
 obtain ⟨s0,s1,s2,s3⟩:=cells4 L2a
 go_wp2_with fail
 refine (io x W1 hR1 (by omega) (by omega)).mono ?_
 rintro e W2 ⟨TA,tc,OA,oc,rfl,hT,hO,hb2⟩
 simp only [aM.c] at hT hO
 have L3b:=L3a.below hb2 L3a.lt
 have b5:=b4.trans (hb2.mono b4.size)
 have hT4:=af hT hW0
 have hO4:=af hO hW0
 clear c0 c1 c2 c3 c4 s0 s1 s2 s3 L1a L2a L3a b4 hT hO
 obtain ⟨z0,z1,z2,z3,z4⟩:=cells5 L3b
 obtain ⟨f0,f1,f2,f3,f4⟩:=frz5 L3b
 have bz:=b5.trans (bK (v0:=F TA x.t.length tc) (v1:=F OA x.o.length oc) (v2:=O U x.got) (v3:=O U x.sold) (v4:=O U x.missed) L3b (show w.heap.size≤w.heap.size+1+1 by omega))
 have HT:=Lib.hid (aW (v0:=F TA x.t.length tc) (v1:=F OA x.o.length oc) (v2:=O U x.got) (v3:=O U x.sold) (v4:=O U x.missed) L3b hT4 cq)
 have HO:=Lib.hid (aW (v0:=F TA x.t.length tc) (v1:=F OA x.o.length oc) (v2:=O U x.got) (v3:=O U x.sold) (v4:=O U x.missed) L3b hO4 cF)
 clear hT4 hO4 b5 hR1 hb2
 simp only [aM.c,Oc.at,aM.val]
 go_wp2
 refine bodyPost_ret (v:=.tuple #[.agg #[F TA x.t.length tc,F OA x.o.length oc,O U x.got,O U x.sold,O U x.missed],.bool false]) (by simp [results,Tryz.results127,go_sem, *]) rfl ?_
 exact ⟨TA,tc,OA,oc,rfl,HT.out,HO.out,bz⟩
set_option maxRecDepth 100000 in
set_option maxHeartbeats 4000000 in
theorem pv (x:aM) (st va:Int) (hst:1≤st∧st≤99) (hva:1≤va∧va≤9999) (ht:0≤av x.t st) (w:World) (h:aQ w w.heap.size x) (G:bn x) (hcap:x.t.length≤x.tc) :
  Calls Tryz.prog 127 #[x.val,.agg #[O U 4,O U st,O U 0,O U va]] w (cm w ((⟨ah x.t st (-va),x.o,x.got,x.sold+va,x.missed⟩ : Oc),((⟨ah x.t st (-va),x.o,x.got,x.sold+va,x.missed⟩ : Oc)).good)):=by
 have L1:=((ai.new w 40 #[F x.TA x.t.length x.tc,F x.OA x.o.length x.oc,O U x.got,O U x.sold,O U x.missed]).alloc (.cells #[O U 4,O U st,O U 0,O U va] 112)).alloc (.cells #[F none 0 0,F none 0 0,O U 0,O U 0,O U 0] 40)
 have L2:=(ai.new1 w (.cells #[F x.TA x.t.length x.tc,F x.OA x.o.length x.oc,O U x.got,O U x.sold,O U x.missed] 40) 112 #[O U 4,O U st,O U 0,O U va]).alloc (.cells #[F none 0 0,F none 0 0,O U 0,O U 0,O U 0] 40)
 have L3:=ai.new2 w (.cells #[F x.TA x.t.length x.tc,F x.OA x.o.length x.oc,O U x.got,O U x.sold,O U x.missed] 40) (.cells #[O U 4,O U st,O U 0,O U va] 112) 40 #[F none 0 0,F none 0 0,O U 0,O U 0,O U 0]
 have b1:=(Below.refl w.heap.size w).alloc (Nat.le_refl _) (.cells #[F x.TA x.t.length x.tc,F x.OA x.o.length x.oc,O U x.got,O U x.sold,O U x.missed] 40)
 have b2:=b1.alloc b1.size (.cells #[O U 4,O U st,O U 0,O U va] 112)
 have b3:=b2.alloc b2.size (.cells #[F none 0 0,F none 0 0,O U 0,O U 0,O U 0] 40)
 have Sx:=G.small
 have htl:=G.tl
 have hol:=G.ol
 have htc:=G.tcs
 obtain ⟨m1,m2⟩:=G.m
 obtain ⟨g1,g2⟩:=G.s
 obtain ⟨o1,o2⟩:=G.g
 clear b1 b2 G
 obtain ⟨v1,v2⟩:=hva
 obtain ⟨gd,hgd⟩ : ∃ gd,((⟨ah x.t st (-va),x.o,x.got,x.sold+va,x.missed⟩ : Oc)).good=gd:=⟨_,rfl⟩
 rw [hgd]
 have HG:=Lib.hid hgd; clear hgd
 have i3:IntKind.i64.wrap (-va) = -va:=IntWalk.i64_in _ (by omega)
 have i4:IntKind.i64.wrap (x.sold+va)=x.sold+va:=IntWalk.i64_in _ (by omega)
 have htd:decide (av x.t st < 0)=false:=decide_eq_false (by omega)
 have HT0:=Lib.hid ht; clear ht
 go_enter Tryz.func127,Tryz.ntmps127
 go_wp2_with fail
 generalize (((w.alloc (.cells #[F x.TA x.t.length x.tc,F x.OA x.o.length x.oc,O U x.got,O U x.sold,O U x.missed] 40)).alloc (.cells #[O U 4,O U st,O U 0,O U va] 112)).alloc (.cells #[F none 0 0,F none 0 0,O U 0,O U 0,O U 0] 40))=W at L1 L2 L3 b3 ⊢
 have hR:=h.up b3 (Nat.le_refl _)
 refine (bx x st W hR).mono ?_
 rintro e W1 ⟨rfl,hb1⟩
 have hR1:=hR.then hb1
 have L1a:=L1.below hb1 L1.lt
 have L2a:=L2.below hb1 L2.lt
 have L3a:=L3.below hb1 L3.lt
 have b4:=b3.trans (hb1.mono b3.size)
 have hW0:w.heap.size≤W1.heap.size:=b4.size
 clear L1 L2 L3 b3 hb1 hR h
 obtain ⟨c0,c1,c2,c3,c4⟩:=cells5 L1a
 obtain ⟨s0,s1,s2,s3⟩:=cells4 L2a
 go_wp2_with fail
 refine (sI x st (-va) W1 hR1 Sx (by omega) hcap).mono ?_
 rintro e W2 ⟨v2,rfl,⟨TA,tc,OA,oc,hv2,hT,hO⟩,hb2⟩
 have hv2:v2=.agg #[F TA (ah x.t st (-va)).length tc,F OA x.o.length oc,O U x.got,O U x.sold,O U x.missed]:=hv2
 subst hv2
 simp only at hT hO
 have hal:=(Below.refl W2.heap.size W2).alloc (Nat.le_refl _) (.cells #[F TA (ah x.t st (-va)).length tc,F OA x.o.length oc,O U x.got,O U x.sold,O U x.missed] 40)
 have L1b:=(L1a.below hb2 L1a.lt).below hal (Nat.lt_of_lt_of_le L1a.lt hb2.size)
 have L2b:=(L2a.below hb2 L2a.lt).below hal (Nat.lt_of_lt_of_le L2a.lt hb2.size)
 have L3b:=(L3a.below hb2 L3a.lt).below hal (Nat.lt_of_lt_of_le L3a.lt hb2.size)
 have P:=ai.new W2 40 #[F TA (ah x.t st (-va)).length tc,F OA x.o.length oc,O U x.got,O U x.sold,O U x.missed]
 have hT3:=af (ab hT hal) hW0
 have hO3:=af (ab hO hal) hW0
 have b5:=b4.trans ((ar hb2 hal).mono b4.size)
 have hgg:w.heap.size+1+1 < W2.heap.size:=Nat.lt_of_lt_of_le L3a.lt hb2.size
 clear c0 c1 c2 c3 c4 s0 s1 s2 s3
 obtain ⟨W3,hW3⟩ : ∃ W3,W2.alloc (.cells #[F TA (ah x.t st (-va)).length tc,F OA x.o.length oc,O U x.got,O U x.sold,O U x.missed] 40)=W3:=⟨_,rfl⟩
 rw [hW3] at L1b L2b L3b P hT3 hO3 b5
 generalize hg2:W2.heap.size=g2 at P hgg
 obtain ⟨c0,c1,c2,c3,c4⟩:=cells5 L1b
 obtain ⟨s0,s1,s2,s3⟩:=cells4 L2b
 obtain ⟨p0,p1,p2,p3,p4⟩:=cells5 P
 obtain ⟨pf0,pf1,pf2,pf3,pf4⟩:=frz5 P
 have P4:=P.set 3 (O U (x.sold+va))
 have L1c:=L1b.other (p:=⟨g2,3,none⟩) (by simp; omega) (O U (x.sold+va))
 have L2c:=L2b.other (p:=⟨g2,3,none⟩) (by simp; omega) (O U (x.sold+va))
 have L3c:=L3b.other (p:=⟨g2,3,none⟩) (by simp; omega) (O U (x.sold+va))
 have hT4:=al hT3 P cq 3 (O U (x.sold+va))
 have hO4:=al hO3 P cF 3 (O U (x.sold+va))
 have b6:=b5.setCell (p:=⟨g2,3,none⟩) (show w.heap.size≤g2 by omega) (O U (x.sold+va))
 simp only [List.set_cons_zero,List.set_cons_succ] at P4
 obtain ⟨W4,hW4⟩ : ∃ W4,W3.setCell ⟨g2,3,none⟩ (O U (x.sold+va))=W4:=⟨_,rfl⟩
 rw [hW4] at P4 L1c L2c L3c hT4 hO4 b6
 clear hb2 hal hT hO L1a L2a L3a b4 hR1
 go_wp2_with (first | (rw [hW3]; clear hW3; rw [hg2]) | (rw [hW4]; clear hW4))
 clear c0 c1 c2 c3 c4 s0 s1 s2 s3 p0 p1 p2 p3 p4 pf0 pf1 pf2 pf3 pf4
 obtain ⟨D1,hD1⟩ : ∃ D:World→Prop,D=(fun W9=>∃ W8 TA tc OA oc,Below W4.heap.size W4 W8∧W8.ownsRow w.heap.size 104 2 (F TA ((⟨ah x.t st (-va),x.o,x.got,x.sold+va,x.missed⟩ : Oc)).t.length tc) ((⟨ah x.t st (-va),x.o,x.got,x.sold+va,x.missed⟩ : Oc)).t.length (((⟨ah x.t st (-va),x.o,x.got,x.sold+va,x.missed⟩ : Oc)).t.flatMap aq.enc)∧W8.ownsRow w.heap.size 147 3 (F OA ((⟨ah x.t st (-va),x.o,x.got,x.sold+va,x.missed⟩ : Oc)).o.length oc) ((⟨ah x.t st (-va),x.o,x.got,x.sold+va,x.missed⟩ : Oc)).o.length (((⟨ah x.t st (-va),x.o,x.got,x.sold+va,x.missed⟩ : Oc)).o.flatMap ae.enc)∧W9=cW W8 (w.heap.size+1+1) (F TA ((⟨ah x.t st (-va),x.o,x.got,x.sold+va,x.missed⟩ : Oc)).t.length tc) (F OA ((⟨ah x.t st (-va),x.o,x.got,x.sold+va,x.missed⟩ : Oc)).o.length oc) (O U ((⟨ah x.t st (-va),x.o,x.got,x.sold+va,x.missed⟩ : Oc)).got) (O U ((⟨ah x.t st (-va),x.o,x.got,x.sold+va,x.missed⟩ : Oc)).sold) (O U ((⟨ah x.t st (-va),x.o,x.got,x.sold+va,x.missed⟩ : Oc)).missed)):=⟨_,rfl⟩
 have hDL:∀ W,D1 W→∃ W8 v0 v1 v2 v3 v4,Below W4.heap.size W4 W8∧W=cW W8 (w.heap.size+1+1) v0 v1 v2 v3 v4:=by
  rw [hD1]
  rintro _ ⟨W8,TA,tc,OA,oc,hq,_,_,e⟩
  exact ⟨W8,_,_,_,_,_,hq,e⟩
 have HD1:=Lib.hid hD1; clear hD1
 refine an (Sw 3 (fun W9=>Below W4.heap.size W4 W9) D1) (fun i w1 w2=>i ∉ [3]→Below w1.heap.size w1 w2) (by kernel_rfl) (by kernel_rfl) (by kernel_rfl) (Sw.start (Below.refl _ _).drew) ?_
 simp only [ax,Act.put,List.setIfInBounds_toArray,List.set_cons_zero,List.set_cons_succ,Nat.zero_add,Nat.reduceAdd]
 apply aa
 case h1 =>
  intro vs L9 w9 hG9 hC9 hB K9 hK9
  replace hC9:=sb hC9 hG9
  have q0:w9.cell? ⟨g2,0,none⟩=some (F TA (ah x.t st (-va)).length tc):=(P4.below hC9 P4.lt).cell 0
  have q1:w9.cell? ⟨g2,1,none⟩=some (F OA x.o.length oc):=(P4.below hC9 P4.lt).cell 1
  have q2:w9.cell? ⟨g2,2,none⟩=some (O U x.got):=(P4.below hC9 P4.lt).cell 2
  have q3:w9.cell? ⟨g2,3,none⟩=some (O U (x.sold+va)):=(P4.below hC9 P4.lt).cell 3
  have q4:w9.cell? ⟨g2,4,none⟩=some (O U x.missed):=(P4.below hC9 P4.lt).cell 4
  simp only [Act.put,sA,s0,s1] at hK9
  go_simp
  exact hK9 _ _ rfl (sy hG9 hC9) bR
 apply aa
 case h1 =>
  intro vs L9 w9 hG9 hC9 hB K9 hK9
  replace hC9:=sb hC9 hG9
  have q0:w9.cell? ⟨g2,0,none⟩=some (F TA (ah x.t st (-va)).length tc):=(P4.below hC9 P4.lt).cell 0
  have q1:w9.cell? ⟨g2,1,none⟩=some (F OA x.o.length oc):=(P4.below hC9 P4.lt).cell 1
  have q2:w9.cell? ⟨g2,2,none⟩=some (O U x.got):=(P4.below hC9 P4.lt).cell 2
  have q3:w9.cell? ⟨g2,3,none⟩=some (O U (x.sold+va)):=(P4.below hC9 P4.lt).cell 3
  have q4:w9.cell? ⟨g2,4,none⟩=some (O U x.missed):=(P4.below hC9 P4.lt).cell 4
  simp only [Act.put,sA,s0,s1] at hK9
  go_simp
  exact hK9 _ _ rfl (sy hG9 hC9) bR
 apply aa
 case h1 =>
  intro vs L9 w9 hG9 hC9 hB K9 hK9
  replace hC9:=sb hC9 hG9
  have d1:=fe hB 1
  simp only [d1] at hK9 ⊢
  simp only [Act.put,sA,s0,s1] at hK9
  go_simp
  refine (show Calls _ _ _ _ (fun e w'=>e=.returned (.bool gd)∧Below w9.heap.size w9 w') from by rw [← HG.out]; exact rJ (show fm w9 w.heap.size (⟨ah x.t st (-va),x.o,x.got,x.sold+va,x.missed⟩ : Oc) _ from ⟨TA,tc,OA,oc,rfl,ab hT4 hC9,ab hO4 hC9⟩)).mono ?_
  rintro en w8 ⟨rfl,hb8⟩
  exact hK9 _ _ rfl (Sw.stay hG9 (by kernel_rfl) (by decide) (hC9.trans (hb8.mono hC9.size))) (fun _=>hb8)
 refine aa (undef) (fun vs L9 w9 hG9 hC9 hB K9 hK9=>?he3) ?re3
 case he3 =>
  replace hC9:=hC9.here hG9
  have d0:=fe hB 0
  simp only [d0] at hK9 ⊢
  have Lr:=L3c.below hC9 L3c.lt
  obtain ⟨z0,z1,z2,z3,z4⟩:=cells5 Lr
  obtain ⟨f0,f1,f2,f3,f4⟩:=frz5 Lr
  clear Lr
  go_simp
  exact hK9 _ _ rfl (Sw.turn (by rw [HD1.out]; exact ⟨w9,TA,tc,OA,oc,hC9,ab hT4 hC9,ab hO4 hC9,rfl⟩)) (fun hq=>(hq (by decide)).elim)
 apply aa
 case h1 =>
  intro vs L9 w9 hG9 hC9 hB K9 hK9
  replace hC9:=hC9.after hG9 (by kernel_rfl)
  have d2:=fe hB 2
  simp only [d2] at hK9 ⊢
  simp only [Act.put,sA,s0,s1] at hK9
  go_simp
  exact hK9 _ _ rfl (Sw.on hG9 (by kernel_rfl) hC9) bR
 refine az fun vs L9 w9 hL9 hC9 hB=>?_
 replace hC9:=hC9.done hL9 (by decide)
 have dl:=ag.eq (hB 4 _ rfl rfl (by decide))
 simp only [dl]
 clear hB dl
 rw [HD1.out] at hC9
 obtain ⟨W8,TA,tc,OA,oc,hb8,h1,h2,rfl⟩:=hC9
 have Lr:=L3c.below hb8 L3c.lt
 have bz:=(b6.trans (hb8.mono b6.size)).trans (bK (v0:=F TA ((⟨ah x.t st (-va),x.o,x.got,x.sold+va,x.missed⟩ : Oc)).t.length tc) (v1:=F OA ((⟨ah x.t st (-va),x.o,x.got,x.sold+va,x.missed⟩ : Oc)).o.length oc) (v2:=O U ((⟨ah x.t st (-va),x.o,x.got,x.sold+va,x.missed⟩ : Oc)).got) (v3:=O U ((⟨ah x.t st (-va),x.o,x.got,x.sold+va,x.missed⟩ : Oc)).sold) (v4:=O U ((⟨ah x.t st (-va),x.o,x.got,x.sold+va,x.missed⟩ : Oc)).missed) Lr (show w.heap.size≤(w.heap.size+1+1) by omega))
 have HT:=Lib.hid (aW (v0:=F TA ((⟨ah x.t st (-va),x.o,x.got,x.sold+va,x.missed⟩ : Oc)).t.length tc) (v1:=F OA ((⟨ah x.t st (-va),x.o,x.got,x.sold+va,x.missed⟩ : Oc)).o.length oc) (v2:=O U ((⟨ah x.t st (-va),x.o,x.got,x.sold+va,x.missed⟩ : Oc)).got) (v3:=O U ((⟨ah x.t st (-va),x.o,x.got,x.sold+va,x.missed⟩ : Oc)).sold) (v4:=O U ((⟨ah x.t st (-va),x.o,x.got,x.sold+va,x.missed⟩ : Oc)).missed) Lr h1 cq)
 have HO:=Lib.hid (aW (v0:=F TA ((⟨ah x.t st (-va),x.o,x.got,x.sold+va,x.missed⟩ : Oc)).t.length tc) (v1:=F OA ((⟨ah x.t st (-va),x.o,x.got,x.sold+va,x.missed⟩ : Oc)).o.length oc) (v2:=O U ((⟨ah x.t st (-va),x.o,x.got,x.sold+va,x.missed⟩ : Oc)).got) (v3:=O U ((⟨ah x.t st (-va),x.o,x.got,x.sold+va,x.missed⟩ : Oc)).sold) (v4:=O U ((⟨ah x.t st (-va),x.o,x.got,x.sold+va,x.missed⟩ : Oc)).missed) Lr h2 cF)
 have PR:=fb (v0:=F TA ((⟨ah x.t st (-va),x.o,x.got,x.sold+va,x.missed⟩ : Oc)).t.length tc) (v1:=F OA ((⟨ah x.t st (-va),x.o,x.got,x.sold+va,x.missed⟩ : Oc)).o.length oc) (v2:=O U ((⟨ah x.t st (-va),x.o,x.got,x.sold+va,x.missed⟩ : Oc)).got) (v3:=O U ((⟨ah x.t st (-va),x.o,x.got,x.sold+va,x.missed⟩ : Oc)).sold) (v4:=O U ((⟨ah x.t st (-va),x.o,x.got,x.sold+va,x.missed⟩ : Oc)).missed) Lr
 generalize cW W8 (w.heap.size+1+1) (F TA ((⟨ah x.t st (-va),x.o,x.got,x.sold+va,x.missed⟩ : Oc)).t.length tc) (F OA ((⟨ah x.t st (-va),x.o,x.got,x.sold+va,x.missed⟩ : Oc)).o.length oc) (O U ((⟨ah x.t st (-va),x.o,x.got,x.sold+va,x.missed⟩ : Oc)).got) (O U ((⟨ah x.t st (-va),x.o,x.got,x.sold+va,x.missed⟩ : Oc)).sold) (O U ((⟨ah x.t st (-va),x.o,x.got,x.sold+va,x.missed⟩ : Oc)).missed)=W9 at bz HT HO PR ⊢
 obtain ⟨k0,k1,k2,k3,k4⟩:=cells5 PR
 clear h1 h2 Lr hb8 hL9 PR
 go_wp2
 refine bodyPost_ret (v:=.tuple #[.agg #[F TA ((⟨ah x.t st (-va),x.o,x.got,x.sold+va,x.missed⟩ : Oc)).t.length tc,F OA ((⟨ah x.t st (-va),x.o,x.got,x.sold+va,x.missed⟩ : Oc)).o.length oc,O U ((⟨ah x.t st (-va),x.o,x.got,x.sold+va,x.missed⟩ : Oc)).got,O U ((⟨ah x.t st (-va),x.o,x.got,x.sold+va,x.missed⟩ : Oc)).sold,O U ((⟨ah x.t st (-va),x.o,x.got,x.sold+va,x.missed⟩ : Oc)).missed],.bool gd]) (by simp [results,Tryz.results127,go_sem, *]) rfl ?_
 exact ⟨TA,tc,OA,oc,rfl,HT.out,HO.out,bz⟩
set_option maxRecDepth 100000 in
set_option maxHeartbeats 4000000 in
theorem ll (x:aM) (kd st pe va:Int) (r:Oc) (hk:(kd == 1)=false) (hpe:1≤pe) (ht:0≤av x.t st) (w:World) (h:aQ w w.heap.size x) (G:bn x) (hcap:x.t.length≤x.tc)
  (hP:∀ W,aQ W W.heap.size x→Calls Tryz.prog 175 #[x.val,.agg #[O U kd,O U st,O U pe,O U va]] W (cm W (r,true))) :
  Calls Tryz.prog 127 #[x.val,.agg #[O U kd,O U st,O U pe,O U va]] w (cm w (r,r.good)):=by
 have L1:=((ai.new w 40 #[F x.TA x.t.length x.tc,F x.OA x.o.length x.oc,O U x.got,O U x.sold,O U x.missed]).alloc (.cells #[O U kd,O U st,O U pe,O U va] 112)).alloc (.cells #[F none 0 0,F none 0 0,O U 0,O U 0,O U 0] 40)
 have L2:=(ai.new1 w (.cells #[F x.TA x.t.length x.tc,F x.OA x.o.length x.oc,O U x.got,O U x.sold,O U x.missed] 40) 112 #[O U kd,O U st,O U pe,O U va]).alloc (.cells #[F none 0 0,F none 0 0,O U 0,O U 0,O U 0] 40)
 have L3:=ai.new2 w (.cells #[F x.TA x.t.length x.tc,F x.OA x.o.length x.oc,O U x.got,O U x.sold,O U x.missed] 40) (.cells #[O U kd,O U st,O U pe,O U va] 112) 40 #[F none 0 0,F none 0 0,O U 0,O U 0,O U 0]
 have b1:=(Below.refl w.heap.size w).alloc (Nat.le_refl _) (.cells #[F x.TA x.t.length x.tc,F x.OA x.o.length x.oc,O U x.got,O U x.sold,O U x.missed] 40)
 have b2:=b1.alloc b1.size (.cells #[O U kd,O U st,O U pe,O U va] 112)
 have b3:=b2.alloc b2.size (.cells #[F none 0 0,F none 0 0,O U 0,O U 0,O U 0] 40)
 have Sx:=G.small
 have htl:=G.tl
 have hol:=G.ol
 have htc:=G.tcs
 obtain ⟨m1,m2⟩:=G.m
 obtain ⟨g1,g2⟩:=G.s
 obtain ⟨o1,o2⟩:=G.g
 clear b1 b2 G
 have hpd:(pe == (0:Int))=false:=by simp; omega
 clear hpe
 have htd:decide (av x.t st < 0)=false:=decide_eq_false (by omega)
 have HT0:=Lib.hid ht; clear ht
 obtain ⟨gd,hgd⟩ : ∃ gd,(r).good=gd:=⟨_,rfl⟩
 rw [hgd]
 have HG:=Lib.hid hgd; clear hgd
 go_enter Tryz.func127,Tryz.ntmps127
 go_wp2_with fail
 generalize (((w.alloc (.cells #[F x.TA x.t.length x.tc,F x.OA x.o.length x.oc,O U x.got,O U x.sold,O U x.missed] 40)).alloc (.cells #[O U kd,O U st,O U pe,O U va] 112)).alloc (.cells #[F none 0 0,F none 0 0,O U 0,O U 0,O U 0] 40))=W at L1 L2 L3 b3 ⊢
 have hR:=h.up b3 (Nat.le_refl _)
 refine (bx x st W hR).mono ?_
 rintro e W1 ⟨rfl,hb1⟩
 have hR1:=hR.then hb1
 have L1a:=L1.below hb1 L1.lt
 have L2a:=L2.below hb1 L2.lt
 have L3a:=L3.below hb1 L3.lt
 have b4:=b3.trans (hb1.mono b3.size)
 have hW0:w.heap.size≤W1.heap.size:=b4.size
 clear L1 L2 L3 b3 hb1 hR h
 obtain ⟨c0,c1,c2,c3,c4⟩:=cells5 L1a
 obtain ⟨s0,s1,s2,s3⟩:=cells4 L2a
 go_wp2_with fail
 refine (hP W1 hR1).mono ?_
 rintro e W2 ⟨TA,tc,OA,oc,rfl,hT,hO,hb2⟩
 simp only at hT hO
 have hal:=(Below.refl W2.heap.size W2).alloc (Nat.le_refl _) (.cells #[F TA r.t.length tc,F OA r.o.length oc,O U r.got,O U r.sold,O U r.missed] 40)
 have L3b:=(L3a.below hb2 L3a.lt).below hal (Nat.lt_of_lt_of_le L3a.lt hb2.size)
 have P4:=ai.new W2 40 #[F TA r.t.length tc,F OA r.o.length oc,O U r.got,O U r.sold,O U r.missed]
 have hT4:=af (ab hT hal) hW0
 have hO4:=af (ab hO hal) hW0
 have b6:=b4.trans ((ar hb2 hal).mono b4.size)
 have hgg:w.heap.size+1+1 < W2.heap.size:=Nat.lt_of_lt_of_le L3a.lt hb2.size
 clear c0 c1 c2 c3 c4 s0 s1 s2 s3
 have L3c:=L3b
 clear hb2 hal hT hO L1a L2a L3a b4 hR1 L3b hP
 obtain ⟨W4,hW4⟩ : ∃ W4,W2.alloc (.cells #[F TA r.t.length tc,F OA r.o.length oc,O U r.got,O U r.sold,O U r.missed] 40)=W4:=⟨_,rfl⟩
 rw [hW4] at L3c P4 hT4 hO4 b6
 generalize hg2:W2.heap.size=g2 at P4 hgg
 go_wp2_with (rw [hW4]; clear hW4; rw [hg2])
 obtain ⟨D1,hD1⟩ : ∃ D:World→Prop,D=(fun W9=>∃ W8 TA tc OA oc,Below W4.heap.size W4 W8∧W8.ownsRow w.heap.size 104 2 (F TA (r).t.length tc) (r).t.length ((r).t.flatMap aq.enc)∧W8.ownsRow w.heap.size 147 3 (F OA (r).o.length oc) (r).o.length ((r).o.flatMap ae.enc)∧W9=cW W8 (w.heap.size+1+1) (F TA (r).t.length tc) (F OA (r).o.length oc) (O U (r).got) (O U (r).sold) (O U (r).missed)):=⟨_,rfl⟩
 have hDL:∀ W,D1 W→∃ W8 v0 v1 v2 v3 v4,Below W4.heap.size W4 W8∧W=cW W8 (w.heap.size+1+1) v0 v1 v2 v3 v4:=by
  rw [hD1]
  rintro _ ⟨W8,TA,tc,OA,oc,hq,_,_,e⟩
  exact ⟨W8,_,_,_,_,_,hq,e⟩
 have HD1:=Lib.hid hD1; clear hD1
 refine an (Sw 6 (fun W9=>Below W4.heap.size W4 W9) D1) (fun i w1 w2=>i ∉ [6]→Below w1.heap.size w1 w2) (by kernel_rfl) (by kernel_rfl) (by kernel_rfl) (Sw.start (Below.refl _ _).drew) ?_
 simp only [ax,Act.put,List.setIfInBounds_toArray,List.set_cons_zero,List.set_cons_succ,Nat.zero_add,Nat.reduceAdd]
 apply aa
 case h1 =>
  intro vs L9 w9 hG9 hC9 hB K9 hK9
  replace hC9:=sb hC9 hG9
  have q0:w9.cell? ⟨g2,0,none⟩=some (F TA r.t.length tc):=(P4.below hC9 P4.lt).cell 0
  have q1:w9.cell? ⟨g2,1,none⟩=some (F OA r.o.length oc):=(P4.below hC9 P4.lt).cell 1
  have q2:w9.cell? ⟨g2,2,none⟩=some (O U r.got):=(P4.below hC9 P4.lt).cell 2
  have q3:w9.cell? ⟨g2,3,none⟩=some (O U r.sold):=(P4.below hC9 P4.lt).cell 3
  have q4:w9.cell? ⟨g2,4,none⟩=some (O U r.missed):=(P4.below hC9 P4.lt).cell 4
  simp only [Act.put,sA,s0,s1] at hK9
  go_simp
  exact hK9 _ _ rfl (sy hG9 hC9) bR
 apply aa
 case h1 =>
  intro vs L9 w9 hG9 hC9 hB K9 hK9
  replace hC9:=sb hC9 hG9
  simp only [Act.put,sA,s0,s1] at hK9
  go_simp
  exact hK9 _ _ rfl (sy hG9 hC9) bR
 apply aa
 case h1 =>
  intro vs L9 w9 hG9 hC9 hB K9 hK9
  replace hC9:=sb hC9 hG9
  have d1:=fe hB 1
  simp only [d1] at hK9 ⊢
  simp only [Act.put,sA,s0,s1] at hK9
  go_simp
  exact hK9 _ _ rfl (sy hG9 hC9) bR
 apply aa
 case h1 =>
  intro vs L9 w9 hG9 hC9 hB K9 hK9
  replace hC9:=sb hC9 hG9
  have d2:=fe hB 2
  simp only [d2] at hK9 ⊢
  have q0:w9.cell? ⟨g2,0,none⟩=some (F TA r.t.length tc):=(P4.below hC9 P4.lt).cell 0
  have q1:w9.cell? ⟨g2,1,none⟩=some (F OA r.o.length oc):=(P4.below hC9 P4.lt).cell 1
  have q2:w9.cell? ⟨g2,2,none⟩=some (O U r.got):=(P4.below hC9 P4.lt).cell 2
  have q3:w9.cell? ⟨g2,3,none⟩=some (O U r.sold):=(P4.below hC9 P4.lt).cell 3
  have q4:w9.cell? ⟨g2,4,none⟩=some (O U r.missed):=(P4.below hC9 P4.lt).cell 4
  simp only [Act.put,sA,s0,s1] at hK9
  go_simp
  exact hK9 _ _ rfl (sy hG9 hC9) bR
 apply aa
 case h1 =>
  intro vs L9 w9 hG9 hC9 hB K9 hK9
  replace hC9:=sb hC9 hG9
  have d3:=fe hB 3
  have d2:=fe hB 2
  simp only [d3,d2] at hK9 ⊢
  simp only [Act.put,sA,s0,s1] at hK9
  go_simp
  refine (show Calls _ _ _ _ (fun e w'=>e=.returned (.bool gd)∧Below w9.heap.size w9 w') from by rw [← HG.out]; exact rJ (show fm w9 w.heap.size r _ from ⟨TA,tc,OA,oc,rfl,ab hT4 hC9,ab hO4 hC9⟩)).mono ?_
  rintro en w8 ⟨rfl,hb8⟩
  exact hK9 _ _ rfl (Sw.stay hG9 (by kernel_rfl) (by decide) (hC9.trans (hb8.mono hC9.size))) (fun _=>hb8)
 apply aa
 case h1 =>
  intro vs L9 w9 hG9 hC9 hB K9 hK9
  have d2:=fe hB 2
  have d4:=fe hB 4
  simp only [d2,d4] at hK9 ⊢
  simp only [Act.put,sA,s0,s1] at hK9
  have HC9:=Lib.hid hC9
  clear hC9
  go_simp
  exact hK9 _ _ rfl (Sw.both (by decide) (fun h=>h) (fun h=>h) HC9.out) bR
 refine aa (undef) (fun vs L9 w9 hG9 hC9 hB K9 hK9=>?hq6) ?rq6
 case hq6 =>
  replace hC9:=hC9.here hG9
  have d0:=fe hB 0
  simp only [d0] at hK9 ⊢
  have Lr:=L3c.below hC9 L3c.lt
  obtain ⟨z0,z1,z2,z3,z4⟩:=cells5 Lr
  obtain ⟨f0,f1,f2,f3,f4⟩:=frz5 Lr
  clear Lr
  go_simp
  exact hK9 _ _ rfl (Sw.turn (by rw [HD1.out]; exact ⟨w9,TA,tc,OA,oc,hC9,ab hT4 hC9,ab hO4 hC9,rfl⟩)) (fun hq=>(hq (by decide)).elim)
 apply aa
 case h1 =>
  intro vs L9 w9 hG9 hC9 hB K9 hK9
  replace hC9:=hC9.after hG9 (by kernel_rfl)
  have d5:=fe hB 5
  simp only [d5] at hK9 ⊢
  simp only [Act.put,sA,s0,s1] at hK9
  go_simp
  exact hK9 _ _ rfl (Sw.on hG9 (by kernel_rfl) hC9) bR
 refine az fun vs L9 w9 hL9 hC9 hB=>?_
 replace hC9:=hC9.done hL9 (by decide)
 have dl:=ag.eq (hB 7 _ rfl rfl (by decide))
 simp only [dl]
 clear hB dl
 rw [HD1.out] at hC9
 obtain ⟨W8,TA,tc,OA,oc,hb8,h1,h2,rfl⟩:=hC9
 have Lr:=L3c.below hb8 L3c.lt
 have bz:=(b6.trans (hb8.mono b6.size)).trans (bK (v0:=F TA (r).t.length tc) (v1:=F OA (r).o.length oc) (v2:=O U (r).got) (v3:=O U (r).sold) (v4:=O U (r).missed) Lr (show w.heap.size≤(w.heap.size+1+1) by omega))
 have HT:=Lib.hid (aW (v0:=F TA (r).t.length tc) (v1:=F OA (r).o.length oc) (v2:=O U (r).got) (v3:=O U (r).sold) (v4:=O U (r).missed) Lr h1 cq)
 have HO:=Lib.hid (aW (v0:=F TA (r).t.length tc) (v1:=F OA (r).o.length oc) (v2:=O U (r).got) (v3:=O U (r).sold) (v4:=O U (r).missed) Lr h2 cF)
 have PR:=fb (v0:=F TA (r).t.length tc) (v1:=F OA (r).o.length oc) (v2:=O U (r).got) (v3:=O U (r).sold) (v4:=O U (r).missed) Lr
 generalize cW W8 (w.heap.size+1+1) (F TA (r).t.length tc) (F OA (r).o.length oc) (O U (r).got) (O U (r).sold) (O U (r).missed)=W9 at bz HT HO PR ⊢
 obtain ⟨k0,k1,k2,k3,k4⟩:=cells5 PR
 clear h1 h2 Lr hb8 hL9 PR
 go_wp2
 refine bodyPost_ret (v:=.tuple #[.agg #[F TA (r).t.length tc,F OA (r).o.length oc,O U (r).got,O U (r).sold,O U (r).missed],.bool gd]) (by simp [results,Tryz.results127,go_sem, *]) rfl ?_
 exact ⟨TA,tc,OA,oc,rfl,HT.out,HO.out,bz⟩
set_option maxRecDepth 100000 in
set_option maxHeartbeats 4000000 in
theorem lT (x:aM) (kd st pe va:Int) (r:Oc) (hk:(kd == 1)=false) (hpe:1≤pe) (ht:0≤av x.t st) (w:World) (h:aQ w w.heap.size x) (G:bn x) (hcap:x.t.length≤x.tc)
  (hP:∀ W,aQ W W.heap.size x→Calls Tryz.prog 175 #[x.val,.agg #[O U kd,O U st,O U pe,O U va]] W (cm W (r,false))) :
  Calls Tryz.prog 127 #[x.val,.agg #[O U kd,O U st,O U pe,O U va]] w (cm w (r,false)):=by
 have L1:=((ai.new w 40 #[F x.TA x.t.length x.tc,F x.OA x.o.length x.oc,O U x.got,O U x.sold,O U x.missed]).alloc (.cells #[O U kd,O U st,O U pe,O U va] 112)).alloc (.cells #[F none 0 0,F none 0 0,O U 0,O U 0,O U 0] 40)
 have L2:=(ai.new1 w (.cells #[F x.TA x.t.length x.tc,F x.OA x.o.length x.oc,O U x.got,O U x.sold,O U x.missed] 40) 112 #[O U kd,O U st,O U pe,O U va]).alloc (.cells #[F none 0 0,F none 0 0,O U 0,O U 0,O U 0] 40)
 have L3:=ai.new2 w (.cells #[F x.TA x.t.length x.tc,F x.OA x.o.length x.oc,O U x.got,O U x.sold,O U x.missed] 40) (.cells #[O U kd,O U st,O U pe,O U va] 112) 40 #[F none 0 0,F none 0 0,O U 0,O U 0,O U 0]
 have b1:=(Below.refl w.heap.size w).alloc (Nat.le_refl _) (.cells #[F x.TA x.t.length x.tc,F x.OA x.o.length x.oc,O U x.got,O U x.sold,O U x.missed] 40)
 have b2:=b1.alloc b1.size (.cells #[O U kd,O U st,O U pe,O U va] 112)
 have b3:=b2.alloc b2.size (.cells #[F none 0 0,F none 0 0,O U 0,O U 0,O U 0] 40)
 have Sx:=G.small
 have htl:=G.tl
 have hol:=G.ol
 have htc:=G.tcs
 obtain ⟨m1,m2⟩:=G.m
 obtain ⟨g1,g2⟩:=G.s
 obtain ⟨o1,o2⟩:=G.g
 clear b1 b2 G
 have hpd:(pe == (0:Int))=false:=by simp; omega
 clear hpe
 have htd:decide (av x.t st < 0)=false:=decide_eq_false (by omega)
 have HT0:=Lib.hid ht; clear ht
 go_enter Tryz.func127,Tryz.ntmps127
 go_wp2_with fail
 generalize (((w.alloc (.cells #[F x.TA x.t.length x.tc,F x.OA x.o.length x.oc,O U x.got,O U x.sold,O U x.missed] 40)).alloc (.cells #[O U kd,O U st,O U pe,O U va] 112)).alloc (.cells #[F none 0 0,F none 0 0,O U 0,O U 0,O U 0] 40))=W at L1 L2 L3 b3 ⊢
 have hR:=h.up b3 (Nat.le_refl _)
 refine (bx x st W hR).mono ?_
 rintro e W1 ⟨rfl,hb1⟩
 have hR1:=hR.then hb1
 have L1a:=L1.below hb1 L1.lt
 have L2a:=L2.below hb1 L2.lt
 have L3a:=L3.below hb1 L3.lt
 have b4:=b3.trans (hb1.mono b3.size)
 have hW0:w.heap.size≤W1.heap.size:=b4.size
 clear L1 L2 L3 b3 hb1 hR h
 obtain ⟨c0,c1,c2,c3,c4⟩:=cells5 L1a
 obtain ⟨s0,s1,s2,s3⟩:=cells4 L2a
 go_wp2_with fail
 refine (hP W1 hR1).mono ?_
 rintro e W2 ⟨TA,tc,OA,oc,rfl,hT,hO,hb2⟩
 simp only at hT hO
 have hal:=(Below.refl W2.heap.size W2).alloc (Nat.le_refl _) (.cells #[F TA r.t.length tc,F OA r.o.length oc,O U r.got,O U r.sold,O U r.missed] 40)
 have L3b:=(L3a.below hb2 L3a.lt).below hal (Nat.lt_of_lt_of_le L3a.lt hb2.size)
 have P4:=ai.new W2 40 #[F TA r.t.length tc,F OA r.o.length oc,O U r.got,O U r.sold,O U r.missed]
 have hT4:=af (ab hT hal) hW0
 have hO4:=af (ab hO hal) hW0
 have b6:=b4.trans ((ar hb2 hal).mono b4.size)
 have hgg:w.heap.size+1+1 < W2.heap.size:=Nat.lt_of_lt_of_le L3a.lt hb2.size
 clear c0 c1 c2 c3 c4 s0 s1 s2 s3
 have L3c:=L3b
 clear hb2 hal hT hO L1a L2a L3a b4 hR1 L3b hP
 obtain ⟨W4,hW4⟩ : ∃ W4,W2.alloc (.cells #[F TA r.t.length tc,F OA r.o.length oc,O U r.got,O U r.sold,O U r.missed] 40)=W4:=⟨_,rfl⟩
 rw [hW4] at L3c P4 hT4 hO4 b6
 generalize hg2:W2.heap.size=g2 at P4 hgg
 go_wp2_with (rw [hW4]; clear hW4; rw [hg2])
 obtain ⟨D1,hD1⟩ : ∃ D:World→Prop,D=(fun W9=>∃ W8 TA tc OA oc,Below W4.heap.size W4 W8∧W8.ownsRow w.heap.size 104 2 (F TA (r).t.length tc) (r).t.length ((r).t.flatMap aq.enc)∧W8.ownsRow w.heap.size 147 3 (F OA (r).o.length oc) (r).o.length ((r).o.flatMap ae.enc)∧W9=cW W8 (w.heap.size+1+1) (F TA (r).t.length tc) (F OA (r).o.length oc) (O U (r).got) (O U (r).sold) (O U (r).missed)):=⟨_,rfl⟩
 have hDL:∀ W,D1 W→∃ W8 v0 v1 v2 v3 v4,Below W4.heap.size W4 W8∧W=cW W8 (w.heap.size+1+1) v0 v1 v2 v3 v4:=by
  rw [hD1]
  rintro _ ⟨W8,TA,tc,OA,oc,hq,_,_,e⟩
  exact ⟨W8,_,_,_,_,_,hq,e⟩
 have HD1:=Lib.hid hD1; clear hD1
 refine an (Sw 6 (fun W9=>Below W4.heap.size W4 W9) D1) (fun i w1 w2=>i ∉ [6]→Below w1.heap.size w1 w2) (by kernel_rfl) (by kernel_rfl) (by kernel_rfl) (Sw.start (Below.refl _ _).drew) ?_
 simp only [ax,Act.put,List.setIfInBounds_toArray,List.set_cons_zero,List.set_cons_succ,Nat.zero_add,Nat.reduceAdd]
 apply aa
 case h1 =>
  intro vs L9 w9 hG9 hC9 hB K9 hK9
  replace hC9:=sb hC9 hG9
  have q0:w9.cell? ⟨g2,0,none⟩=some (F TA r.t.length tc):=(P4.below hC9 P4.lt).cell 0
  have q1:w9.cell? ⟨g2,1,none⟩=some (F OA r.o.length oc):=(P4.below hC9 P4.lt).cell 1
  have q2:w9.cell? ⟨g2,2,none⟩=some (O U r.got):=(P4.below hC9 P4.lt).cell 2
  have q3:w9.cell? ⟨g2,3,none⟩=some (O U r.sold):=(P4.below hC9 P4.lt).cell 3
  have q4:w9.cell? ⟨g2,4,none⟩=some (O U r.missed):=(P4.below hC9 P4.lt).cell 4
  simp only [Act.put,sA,s0,s1] at hK9
  go_simp
  exact hK9 _ _ rfl (sy hG9 hC9) bR
 apply aa
 case h1 =>
  intro vs L9 w9 hG9 hC9 hB K9 hK9
  replace hC9:=sb hC9 hG9
  simp only [Act.put,sA,s0,s1] at hK9
  go_simp
  exact hK9 _ _ rfl (sy hG9 hC9) bR
 apply aa
 case h1 =>
  intro vs L9 w9 hG9 hC9 hB K9 hK9
  replace hC9:=sb hC9 hG9
  have d1:=fe hB 1
  simp only [d1] at hK9 ⊢
  simp only [Act.put,sA,s0,s1] at hK9
  go_simp
  exact hK9 _ _ rfl (sy hG9 hC9) bR
 refine aa (undef) (fun vs L9 w9 hG9 hC9 hB K9 hK9=>?hq3) ?rq3
 case hq3 =>
  replace hC9:=sb hC9 hG9
  have d2:=fe hB 2
  simp only [d2] at hK9 ⊢
  go_simp
  exact hK9 _ _ rfl (sy hG9 hC9) bR
 refine aa (undef) (fun vs L9 w9 hG9 hC9 hB K9 hK9=>?hq4) ?rq4
 case hq4 =>
  replace hC9:=sb hC9 hG9
  have d3:=fe hB 3
  have d2:=fe hB 2
  simp only [d3,d2] at hK9 ⊢
  go_simp
  exact hK9 _ _ rfl (sy hG9 hC9) bR
 apply aa
 case h1 =>
  intro vs L9 w9 hG9 hC9 hB K9 hK9
  have d2:=fe hB 2
  have d4:=fe hB 4
  simp only [d2,d4] at hK9 ⊢
  simp only [Act.put,sA,s0,s1] at hK9
  have HC9:=Lib.hid hC9
  clear hC9
  go_simp
  exact hK9 _ _ rfl (Sw.both (by decide) (fun h=>h) (fun h=>h) HC9.out) bR
 refine aa (undef) (fun vs L9 w9 hG9 hC9 hB K9 hK9=>?hq6) ?rq6
 case hq6 =>
  replace hC9:=hC9.here hG9
  have d0:=fe hB 0
  simp only [d0] at hK9 ⊢
  have Lr:=L3c.below hC9 L3c.lt
  obtain ⟨z0,z1,z2,z3,z4⟩:=cells5 Lr
  obtain ⟨f0,f1,f2,f3,f4⟩:=frz5 Lr
  clear Lr
  go_simp
  exact hK9 _ _ rfl (Sw.turn (by rw [HD1.out]; exact ⟨w9,TA,tc,OA,oc,hC9,ab hT4 hC9,ab hO4 hC9,rfl⟩)) (fun hq=>(hq (by decide)).elim)
 apply aa
 case h1 =>
  intro vs L9 w9 hG9 hC9 hB K9 hK9
  replace hC9:=hC9.after hG9 (by kernel_rfl)
  have d5:=fe hB 5
  simp only [d5] at hK9 ⊢
  simp only [Act.put,sA,s0,s1] at hK9
  go_simp
  exact hK9 _ _ rfl (Sw.on hG9 (by kernel_rfl) hC9) bR
 refine az fun vs L9 w9 hL9 hC9 hB=>?_
 replace hC9:=hC9.done hL9 (by decide)
 have dl:=ag.eq (hB 7 _ rfl rfl (by decide))
 simp only [dl]
 clear hB dl
 rw [HD1.out] at hC9
 obtain ⟨W8,TA,tc,OA,oc,hb8,h1,h2,rfl⟩:=hC9
 have Lr:=L3c.below hb8 L3c.lt
 have bz:=(b6.trans (hb8.mono b6.size)).trans (bK (v0:=F TA (r).t.length tc) (v1:=F OA (r).o.length oc) (v2:=O U (r).got) (v3:=O U (r).sold) (v4:=O U (r).missed) Lr (show w.heap.size≤(w.heap.size+1+1) by omega))
 have HT:=Lib.hid (aW (v0:=F TA (r).t.length tc) (v1:=F OA (r).o.length oc) (v2:=O U (r).got) (v3:=O U (r).sold) (v4:=O U (r).missed) Lr h1 cq)
 have HO:=Lib.hid (aW (v0:=F TA (r).t.length tc) (v1:=F OA (r).o.length oc) (v2:=O U (r).got) (v3:=O U (r).sold) (v4:=O U (r).missed) Lr h2 cF)
 have PR:=fb (v0:=F TA (r).t.length tc) (v1:=F OA (r).o.length oc) (v2:=O U (r).got) (v3:=O U (r).sold) (v4:=O U (r).missed) Lr
 generalize cW W8 (w.heap.size+1+1) (F TA (r).t.length tc) (F OA (r).o.length oc) (O U (r).got) (O U (r).sold) (O U (r).missed)=W9 at bz HT HO PR ⊢
 obtain ⟨k0,k1,k2,k3,k4⟩:=cells5 PR
 clear h1 h2 Lr hb8 hL9 PR
 go_wp2
 refine bodyPost_ret (v:=.tuple #[.agg #[F TA (r).t.length tc,F OA (r).o.length oc,O U (r).got,O U (r).sold,O U (r).missed],.bool false]) (by simp [results,Tryz.results127,go_sem, *]) rfl ?_
 exact ⟨TA,tc,OA,oc,rfl,HT.out,HO.out,bz⟩
theorem oA (x:aM) (kd st pe va:Int) (R:Oc × Bool) (hk:(kd == 1)=false) (hpe:1≤pe) (ht:0≤av x.t st) (w:World) (h:aQ w w.heap.size x) (G:bn x) (hcap:x.t.length≤x.tc)
  (hP:∀ W,aQ W W.heap.size x→Calls Tryz.prog 175 #[x.val,.agg #[O U kd,O U st,O U pe,O U va]] W (cm W R)) :
  Calls Tryz.prog 127 #[x.val,.agg #[O U kd,O U st,O U pe,O U va]] w (cm w (R.1,R.2 && R.1.good)):=by
 obtain ⟨r,b⟩:=R
 cases b
 ·rw [Bool.false_and]; exact lT x kd st pe va r hk hpe ht w h G hcap hP
 ·rw [Bool.true_and]; exact ll x kd st pe va r hk hpe ht w h G hcap hP
theorem oB (x:aM) (s:dH) (w:World) (h:aQ w w.heap.size x) (G:bn x) (hcap:x.t.length≤x.tc) (hs:s.okS=true) :
  Calls Tryz.prog 127 #[x.val,s.val] w (cm w (fc x.c s)):=by
 obtain ⟨hst,hI⟩:=dH.okS_is hs
 clear hs
 obtain ⟨kd,st,pe,va⟩:=s
 by_cases hT:av x.t st < 0
 ·have own:∀ kd:Int,kd ≠ 1→Calls Tryz.prog 127 #[x.val,.agg #[O U kd,O U st,O U pe,O U va]] w (cm w (fc x.c ⟨kd,st,pe,va⟩)):=fun kd hk=>by
   rw [show fc x.c ⟨kd,st,pe,va⟩=(x.c,false) from by
    unfold fc; rw [if_neg (show ¬ (dH.mk kd st pe va).kind=1 from hk),if_pos (show av x.c.t st < 0 from hT)]]
   exact rK x kd st pe va (by simpa using hk) hT w h G hcap
  cases hI with
  | get hk hp hv =>
   simp only at hk hp hv hst; subst hk
   exact oz x st pe va hst hv w h G hcap
  | show_ hk hp hv=>simp only at hk; subst hk; exact own 2 (by decide)
  | back hk hp hv=>simp only at hk; subst hk; exact own 3 (by decide)
  | sell0 hk hp hv=>simp only at hk; subst hk; exact own 4 (by decide)
  | sell hk hp hv=>simp only at hk; subst hk; exact own 4 (by decide)
  | miss hk hp hv=>simp only at hk; subst hk; exact own 5 (by decide)
  | move hk hp hv=>simp only at hk; subst hk; exact own 6 (by decide)
 ·have h0:0≤av x.t st:=by omega
  have per:∀ kd:Int,kd ≠ 1→(1≤pe∧pe≤999)→(∀ W,aQ W W.heap.size x→Calls Tryz.prog 175 #[x.val,.agg #[O U kd,O U st,O U pe,O U va]] W (cm W (gE x.c ⟨kd,st,pe,va⟩))) →
    Calls Tryz.prog 127 #[x.val,.agg #[O U kd,O U st,O U pe,O U va]] w (cm w (fc x.c ⟨kd,st,pe,va⟩)):=fun kd hk hpe hP=>by
   rw [show fc x.c ⟨kd,st,pe,va⟩=((gE x.c ⟨kd,st,pe,va⟩).1,(gE x.c ⟨kd,st,pe,va⟩).2 && (gE x.c ⟨kd,st,pe,va⟩).1.good) from by
    unfold fc; rw [if_neg (show ¬ (dH.mk kd st pe va).kind=1 from hk),if_neg (show ¬ av x.c.t st < 0 from hT),if_neg (show ¬ (dH.mk kd st pe va).person=0 from by show ¬ pe=0; omega)]]
   exact oA x kd st pe va _ (by simpa using hk) hpe.1 h0 w h G hcap hP
  cases hI with
  | get hk hp hv =>
   simp only at hk hp hv hst; subst hk
   exact oz x st pe va hst hv w h G hcap
  | show_ hk hp hv=>simp only at hk hp hv hst; subst hk; exact per 2 (by decide) hp fun W hW=>ou x st pe va W hW G hcap hst hp hv
  | back hk hp hv=>simp only at hk hp hv hst; subst hk; exact per 3 (by decide) hp fun W hW=>ov x st pe va W hW G hcap hst hp hv
  | sell0 hk hp hv =>
   simp only at hk hp hv hst; subst hk; subst hp
   have:=pv x st va hst hv h0 w h G hcap
   rw [show fc x.c ⟨4,st,0,va⟩=((⟨ah x.t st (-va),x.o,x.got,x.sold+va,x.missed⟩ : Oc),(⟨ah x.t st (-va),x.o,x.got,x.sold+va,x.missed⟩ : Oc).good) from by
    unfold fc; rw [if_neg (show ¬ (4:Int)=1 by decide),if_neg (show ¬ av x.c.t st < 0 from hT),if_pos rfl]; rfl]
   exact this
  | sell hk hp hv=>simp only at hk hp hv hst; subst hk; exact per 4 (by decide) hp fun W hW=>oy x st pe va W hW G hcap hst hp hv
  | miss hk hp hv=>simp only at hk hp hv hst; subst hk; exact per 5 (by decide) hp fun W hW=>ow x st pe va W hW G hcap hst hp
  | move hk hp hv=>simp only at hk hp hv hst; subst hk; exact per 6 (by decide) hp fun W hW=>ox x st pe va W hW G hcap hst hp hv
theorem jR (x:aM) (s:dH) (w:World) (h:aQ w w.heap.size x) (hcap:x.t.length≤x.tc) :
  Calls Tryz.prog 76 #[x.val,s.val] w (aC w (if am x && s.ok then aZ x.c s else none)):=by
 have h1:=oq (fun x s w h G hc hs=>oB x s w h G hc hs) x s w h hcap
 rw [show (if am x && s.ok then aZ x.c s else none)=(if am x && s.okS then oi (fc x.c s) else none) from by
  cases hg:am x
  ·rfl
  ·cases hs:s.okS
   ·have:=dH.ok_okS s
    rw [hs,Bool.false_and] at this
    rw [this]; rfl
   ·rw [Bool.true_and,Bool.true_and,if_pos rfl,om x s (bm.1 hg) hs]]
 exact h1
abbrev aM.copy (x:aM) (g1 g2:Nat):aM:={ x with TA:=some ⟨g1,0,none⟩,tc:=x.t.length,OA:=some ⟨g2,0,none⟩,oc:=x.o.length }
theorem pw {x:aM} {w:World} {g1 g2:Nat} (h1:ai w g1 104 (x.t.flatMap aq.enc)) (h2:ai w g2 147 (x.o.flatMap ae.enc)) (hn:x.t.length≤1048576) (hm:x.o.length≤1048576):aQ w w.heap.size (x.copy g1 g2) :=
 ⟨ph h1 (show x.t.length≤9223372036854775807 by omega),nb h2 (show x.o.length≤9223372036854775807 by omega)⟩
def sg (w:World) (y:Oc) (v:Value):Prop:=∃ X:aM,v=X.val∧X.c=y∧aQ w w.heap.size X∧X.t.length≤X.tc
theorem sg.below {w w' : World} {y:Oc} {v:Value} (h:sg w y v) (hb:Below w.heap.size w w'):sg w' y v:=by
 obtain ⟨X,h1,h2,h3,h4⟩:=h; exact ⟨X,h1,h2,h3.then hb,h4⟩
def sw (w:World) (y:Oc) (b:Bool) (e:Ending) (w' : World):Prop:=∃ v,e=.returned (.tuple #[v,.bool b])∧fm w' w.heap.size y v∧Below w.heap.size w w'
theorem aC.r {w w' : World} {D:Option Oc} {e:Ending} (h:aC w D e w'):sw w (cj D) D.isSome e w':=by
 obtain ⟨TA,tc,OA,oc,he,h1,h2,hb⟩:=h
 exact ⟨_,he,⟨TA,tc,OA,oc,rfl,h1,h2⟩,hb⟩
theorem sg.copy {x:aM} {w:World} {g1 g2:Nat} (h1:ai w g1 104 (x.t.flatMap aq.enc)) (h2:ai w g2 147 (x.o.flatMap ae.enc)) (hn:x.t.length≤1048576) (hm:x.o.length≤1048576):sg w x.c (x.copy g1 g2).val :=
 ⟨x.copy g1 g2,rfl,rfl,pw h1 h2 hn hm,Nat.le_refl _⟩
def fL (y:Oc) (s:dH):Option Oc:=if y.good && s.ok then aZ y s else none
theorem iN {r r' : Oc} (h:Oc.fin r=some r'):r'.good=true:=by
 unfold Oc.fin at h
 split at h
 ·rename_i hg; injection h with h; rw [← h]; exact hg
 ·cases h
theorem lU {y r:Oc} {s:dH} (h:aZ y s=some r):r.good=true:=by
 unfold aZ at h
 split at h
 ·exact iN h
 split at h
 ·cases h
 split at h
 ·exact iN h
 split at h
 ·cases h
 split at h
 ·exact iN h
 split at h
 ·split at h <;> exact iN h
 split at h <;> exact iN h
theorem Oc.good_off {y:Oc} (h:y.good=true) (TA:Option Addr) (tc:Nat) (OA:Option Addr) (oc:Nat):bn (y.at TA tc OA oc):=by
 have G:bn (y.at none 0 none 0):=bm.1 h
 exact ⟨G.tl,G.ol,G.g,G.s,G.m,G.ts,G.os,G.sum⟩
theorem kn {y:Oc} (h:y.good=true):y.t.length≤1000000∧y.o.length≤1000000:=by
 have G:bn (y.at none 0 none 0):=bm.1 h
 exact ⟨Nat.le_trans G.tl (by omega),Nat.le_trans G.ol (by omega)⟩
end Go.Proofs.YtoeoimhemojdeaaGreatDoor
