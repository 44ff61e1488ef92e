/- Rs11: the texts ExM LibW SplitL NumW ReadN ExR, joined into one file. -/
import Derived.Deep.DeepCutAuto
import Derived.Test.YtoeoimhemojdeaaGreatDoorRs01
import Derived.Test.YtoeoimhemojdeaaGreatDoorRs07
import Derived.Test.YtoeoimhemojdeaaGreatDoorRs08
import Derived.Test.YtoeoimhemojdeaaGreatDoorRs09
import Derived.Test.YtoeoimhemojdeaaGreatDoorRs10

set_option linter.unusedVariables false
open Go.Value renaming int → O, slice → F, string → uk
open Go.IntKind renaming i64 → U

namespace Go.Proofs.YtoeoimhemojdeaaGreatDoor
open Go.RowKit
def eK (w:World) (B:Nat) (x:aL) (l:Lg) (y:Oc) (v:Value):Prop :=
 (v=aD x l∧y=x.c) ∨ ∃ TA tc OA oc,v=aD (y.at TA tc OA oc) l∧w.ownsRow B 104 2 (F TA y.t.length tc) y.t.length (y.t.flatMap ap.enc)∧w.ownsRow B 147 3 (F OA y.o.length oc) y.o.length (y.o.flatMap ae.enc)
theorem eK.below {w w' : World} {B:Nat} {x:aL} {l:Lg} {y:Oc} {v:Value} (h:eK w B x l y v) (hb:Below w.heap.size w w'):eK w' B x l y v:=by
 rcases h with h | ⟨TA,tc,OA,oc,e,h1,h2⟩
 ·exact .inl h
 ·exact .inr ⟨TA,tc,OA,oc,e,ac h1 hb,ac h2 hb⟩
theorem eK.lower {w:World} {B B' : Nat} {x:aL} {l:Lg} {y:Oc} {v:Value} (h:eK w B x l y v) (hB:B'≤B):eK w B' x l y v:=by
 rcases h with h | ⟨TA,tc,OA,oc,e,h1,h2⟩
 ·exact .inl h
 ·exact .inr ⟨TA,tc,OA,oc,e,af h1 hB,af h2 hB⟩
theorem eK.kept {w w' : World} {B g:Nat} {x:aL} {l:Lg} {y:Oc} {v:Value} {cs:List Value} (h:eK w B x l y v) (hL:ah w g 42 cs) (hg:w.grownBy w' (some g)):eK w' B x l y v:=by
 rcases h with h | ⟨TA,tc,OA,oc,e,h1,h2⟩
 ·exact .inl h
 ·exact .inr ⟨TA,tc,OA,oc,e,aj h1 hL fa hg,aj h2 hL fb hg⟩
theorem eK.as {w:World} {B:Nat} {x:aL} {l:Lg} {y:Oc} {v:Value} (h:eK w B x l y v) (hx:aM w w.heap.size x):∃ X:aL,v=aD X l∧X.c=y∧aM w w.heap.size X:=by
 rcases h with ⟨rfl,rfl⟩ | ⟨TA,tc,OA,oc,rfl,h1,h2⟩
 ·exact ⟨x,rfl,rfl,hx⟩
 ·exact ⟨y.at TA tc OA oc,rfl,rfl,aA h1,aA h2⟩
def eM (x:aL) (R:Option (Oc × ByteArray)):Oc:=(R.map Prod.fst).getD x.c
def iO (R:Option (Oc × ByteArray)):ByteArray:=(R.map Prod.snd).getD ch
def bg (w:World) (x:aL) (l:Lg) (R:Option (Oc × ByteArray)) (e:Ending) (w' : World):Prop :=
 ∃ v,e=.returned (.tuple #[v,uk (iO R)])∧eK w' w.heap.size x l (eM x R) v∧Below w.heap.size w w'
theorem bg.mk {w w' : World} {x:aL} {l:Lg} {R:Option (Oc × ByteArray)} {v:Value} {T:ByteArray} (hT:iO R=T) (h1:eK w' w.heap.size x l (eM x R) v) (h2:Below w.heap.size w w'):bg w x l R (.returned (.tuple #[v,uk T])) w':=by
 subst hT; exact ⟨v,rfl,h1,h2⟩
theorem it (x:aL) (s:dW) (w:World) (h:aM w w.heap.size x) (hcap:x.t.length≤x.tc):Calls Tryz.prog 76 #[x.val,s.val] w (aB w (hH x.c s)):=n9 x s w h hcap
set_option maxRecDepth 100000 in
set_option maxHeartbeats 4000000 in
theorem rY (x:aL) (l:Lg) (kd st pe va:Int) (w:World) (h:aM w w.heap.size x) (hcap:x.t.length≤x.tc) (hN:hH x.c ⟨kd,st,pe,va⟩=none) :
  Calls Tryz.prog 89 #[aD x l,.agg #[O U kd,O U st,O U pe,O U va]] w (bg w x l none):=by
 have L1:=((ah.new w 42 #[F x.TA x.t.length x.tc,F x.OA x.o.length x.oc,O U x.got,O U x.sold,O U x.missed,uk l.D,uk l.P,O U l.n]).alloc (.cells #[O U kd,O U st,O U pe,O U va] 112)).alloc (.cells #[F none 0 0,F none 0 0,O U 0,O U 0,O U 0,uk ⟨#[]⟩,uk ⟨#[]⟩,O U 0] 42)
 have L2:=(ah.new1 w (.cells #[F x.TA x.t.length x.tc,F x.OA x.o.length x.oc,O U x.got,O U x.sold,O U x.missed,uk l.D,uk l.P,O U l.n] 42) 112 #[O U kd,O U st,O U pe,O U va]).alloc (.cells #[F none 0 0,F none 0 0,O U 0,O U 0,O U 0,uk ⟨#[]⟩,uk ⟨#[]⟩,O U 0] 42)
 have L3:=ah.new2 w (.cells #[F x.TA x.t.length x.tc,F x.OA x.o.length x.oc,O U x.got,O U x.sold,O U x.missed,uk l.D,uk l.P,O U l.n] 42) (.cells #[O U kd,O U st,O U pe,O U va] 112) 42 #[F none 0 0,F none 0 0,O U 0,O U 0,O U 0,uk ⟨#[]⟩,uk ⟨#[]⟩,O U 0]
 have b1:=(Below.refl w.heap.size w).alloc (Nat.le_refl _) (.cells #[F x.TA x.t.length x.tc,F x.OA x.o.length x.oc,O U x.got,O U x.sold,O U x.missed,uk l.D,uk l.P,O U l.n] 42)
 have b2:=b1.alloc b1.size (.cells #[O U kd,O U st,O U pe,O U va] 112)
 have b3:=b2.alloc b2.size (.cells #[F none 0 0,F none 0 0,O U 0,O U 0,O U 0,uk ⟨#[]⟩,uk ⟨#[]⟩,O U 0] 42)
 have hW:=h.up b3 (Nat.le_refl _)
 have hge:w.heap.size≤w.heap.size+1+1:=by omega
 clear b1 b2 h
 have cS:=fun W hR=>it x ⟨kd,st,pe,va⟩ W hR hcap
 rw [hN] at cS
 clear hN
 go_enter Tryz.func89,Tryz.ntmps89
 go_wp2_with fail
 generalize (((w.alloc (.cells #[F x.TA x.t.length x.tc,F x.OA x.o.length x.oc,O U x.got,O U x.sold,O U x.missed,uk l.D,uk l.P,O U l.n] 42)).alloc (.cells #[O U kd,O U st,O U pe,O U va] 112)).alloc (.cells #[F none 0 0,F none 0 0,O U 0,O U 0,O U 0,uk ⟨#[]⟩,uk ⟨#[]⟩,O U 0] 42))=W at L1 L2 L3 b3 hW ⊢
 refine (cS W hW).mono ?_
 rintro e W1 ⟨TA,tc,OA,oc,rfl,hT,hO,hb⟩
 simp only [cH,Option.getD_none,Option.isSome_none,Oc.at,aL.val,Oc.zero,List.length_nil]
 have hal:=(Below.refl W1.heap.size W1).alloc (Nat.le_refl _) (.cells #[F TA 0 tc,F OA 0 oc,O U 0,O U 0,O U 0] 40)
 have hb2:=aq hb hal
 have K1:=L1.below hb2 L1.lt
 have K3:=L3.below hb2 L3.lt
 have b4:=aq b3 hb2
 clear hal hb hb2 L1 L2 L3 b3 hT hO hW
 obtain ⟨c0,c1,c2,c3,c4,c5,c6,c7⟩:=cells8 K1
 obtain ⟨z0,z1,z2,z3,z4,z5,z6,z7⟩:=cells8 K3
 obtain ⟨f0,f1,f2,f3,f4,f5,f6,f7⟩:=frz8 K3
 have bz:=Lib.hid (dY (g:=w.heap.size+1+1) (b4) hge (F x.TA x.t.length x.tc) (F x.OA x.o.length x.oc) (O U x.got) (O U x.sold) (O U x.missed) (uk l.D) (uk l.P) (O U l.n))
 clear K1 K3 b4
 go_wp2
 refine bodyPost_ret (v:=.tuple #[aD x l,uk ⟨#[63]⟩]) (by simp [results,Tryz.results89,go_sem, *]) rfl ?_
 exact ⟨_,rfl,.inl ⟨rfl,rfl⟩,bz.out⟩
set_option maxRecDepth 100000 in
set_option maxHeartbeats 4000000 in
theorem sZ (x:aL) (l:Lg) (st pe va:Int) (w:World) (h:aM w w.heap.size x) (hcap:x.t.length≤x.tc) (z:Oc) (hN:hH x.c ⟨1,st,pe,va⟩=some z) :
  Calls Tryz.prog 89 #[aD x l,.agg #[O U 1,O U st,O U pe,O U va]] w (bg w x l (some (z,bv (cc z.t)))):=by
 have L1:=((ah.new w 42 #[F x.TA x.t.length x.tc,F x.OA x.o.length x.oc,O U x.got,O U x.sold,O U x.missed,uk l.D,uk l.P,O U l.n]).alloc (.cells #[O U 1,O U st,O U pe,O U va] 112)).alloc (.cells #[F none 0 0,F none 0 0,O U 0,O U 0,O U 0,uk ⟨#[]⟩,uk ⟨#[]⟩,O U 0] 42)
 have L2:=(ah.new1 w (.cells #[F x.TA x.t.length x.tc,F x.OA x.o.length x.oc,O U x.got,O U x.sold,O U x.missed,uk l.D,uk l.P,O U l.n] 42) 112 #[O U 1,O U st,O U pe,O U va]).alloc (.cells #[F none 0 0,F none 0 0,O U 0,O U 0,O U 0,uk ⟨#[]⟩,uk ⟨#[]⟩,O U 0] 42)
 have L3:=ah.new2 w (.cells #[F x.TA x.t.length x.tc,F x.OA x.o.length x.oc,O U x.got,O U x.sold,O U x.missed,uk l.D,uk l.P,O U l.n] 42) (.cells #[O U 1,O U st,O U pe,O U va] 112) 42 #[F none 0 0,F none 0 0,O U 0,O U 0,O U 0,uk ⟨#[]⟩,uk ⟨#[]⟩,O U 0]
 have b1:=(Below.refl w.heap.size w).alloc (Nat.le_refl _) (.cells #[F x.TA x.t.length x.tc,F x.OA x.o.length x.oc,O U x.got,O U x.sold,O U x.missed,uk l.D,uk l.P,O U l.n] 42)
 have b2:=b1.alloc b1.size (.cells #[O U 1,O U st,O U pe,O U va] 112)
 have b3:=b2.alloc b2.size (.cells #[F none 0 0,F none 0 0,O U 0,O U 0,O U 0,uk ⟨#[]⟩,uk ⟨#[]⟩,O U 0] 42)
 have hW:=h.up b3 (Nat.le_refl _)
 have hge:w.heap.size≤w.heap.size+1+1:=by omega
 clear b1 b2 h
 have cS:=fun W hR=>it x ⟨1,st,pe,va⟩ W hR hcap
 have hz:=fw hN
 rw [hN] at cS
 clear hN
 have GZ:bo (z.at none 0 none 0):=bj.1 hz.1
 have HT:Hid (iO (some (z,bv (cc z.t)))=bv (cc z.t)):=rfl
 go_enter Tryz.func89,Tryz.ntmps89
 go_wp2_with fail
 generalize (((w.alloc (.cells #[F x.TA x.t.length x.tc,F x.OA x.o.length x.oc,O U x.got,O U x.sold,O U x.missed,uk l.D,uk l.P,O U l.n] 42)).alloc (.cells #[O U 1,O U st,O U pe,O U va] 112)).alloc (.cells #[F none 0 0,F none 0 0,O U 0,O U 0,O U 0,uk ⟨#[]⟩,uk ⟨#[]⟩,O U 0] 42))=W at L1 L2 L3 b3 hW ⊢
 refine (cS W hW).mono ?_
 rintro e W1 ⟨TA,tc,OA,oc,rfl,hT,hO,hb⟩
 simp only [cH,Option.getD_some,Option.isSome_some,Oc.at,aL.val] at hT hO ⊢
 go_upto_region 4 with fail
 have hal:=(Below.refl W1.heap.size W1).alloc (Nat.le_refl _) (.cells #[F TA z.t.length tc,F OA z.o.length oc,O U z.got,O U z.sold,O U z.missed] 40)
 have hb2:=aq hb hal
 have J1:=L1.below hb2 L1.lt
 have J2:=L2.below hb2 L2.lt
 have J3:=L3.below hb2 L3.lt
 have J6:=ah.new W1 40 #[F TA z.t.length tc,F OA z.o.length oc,O U z.got,O U z.sold,O U z.missed]
 have b4:=aq b3 hb2
 have hT1:=af (ac hT hal) b3.size
 have hO1:=af (ac hO hal) b3.size
 have g26:w.heap.size+1+1 < W1.heap.size:=Nat.lt_of_lt_of_le L3.lt hb.size
 clear hal hb2 hb hT hO L1 L2 L3 b3
 generalize W1.alloc (.cells #[F TA z.t.length tc,F OA z.o.length oc,O U z.got,O U z.sold,O U z.missed] 40)=W2 at J1 J2 J3 J6 b4 hT1 hO1 ⊢
 generalize W1.heap.size=g6 at J6 g26 ⊢
 obtain ⟨c0,c1,c2,c3,c4,c5,c6,c7⟩:=cells8 J1
 go_upto_region 5 with fail
 clear c0 c1 c2 c3 c4 c5 c6 c7
 have hal:=(Below.refl W2.heap.size W2).alloc (Nat.le_refl _) (.cells #[F x.TA x.t.length x.tc,F x.OA x.o.length x.oc,O U x.got,O U x.sold,O U x.missed,uk l.D,uk l.P,O U l.n] 42)
 have K1:=J1.below hal J1.lt
 have K2:=J2.below hal J2.lt
 have K3:=J3.below hal J3.lt
 have K6:=J6.below hal J6.lt
 have K8:=ah.new W2 42 #[F x.TA x.t.length x.tc,F x.OA x.o.length x.oc,O U x.got,O U x.sold,O U x.missed,uk l.D,uk l.P,O U l.n]
 have b5:=b4.trans (hal.mono b4.size)
 have hT2:=ac hT1 hal
 have hO2:=ac hO1 hal
 have g68:g6 < W2.heap.size:=J6.lt
 clear hal J1 J2 J3 J6 b4 hT1 hO1
 generalize W2.alloc (.cells #[F x.TA x.t.length x.tc,F x.OA x.o.length x.oc,O U x.got,O U x.sold,O U x.missed,uk l.D,uk l.P,O U l.n] 42)=W3 at K1 K2 K3 K6 K8 b5 hT2 hO2 ⊢
 generalize W2.heap.size=g8 at K8 g68 ⊢
 have hg8:w.heap.size≤g8:=by omega
 obtain ⟨p0,p1,p2,p3,p4⟩:=cells5 K6
 obtain ⟨q0,q1,q2,q3,q4,q5,q6,q7⟩:=cells8 K8
 obtain ⟨f0,f1,f2,f3,f4,f5,f6,f7⟩:=frz8 K8
 go_upto_region 6 with fail
 obtain ⟨W4,HW4,M8,b6,gr,OT⟩:=ia K8 b5 hg8 (F TA z.t.length tc) (F OA z.o.length oc) (O U z.got) (O U z.sold) (O U z.missed)
 have M1:=OT _ _ _ (by omega) K1
 have M2:=OT _ _ _ (by omega) K2
 have M3:=OT _ _ _ (by omega) K3
 have M6:=OT _ _ _ (by omega) K6
 have hT:=aj hT2 K8 fa gr
 have hO:=aj hO2 K8 fb gr
 clear p0 p1 p2 p3 p4 q0 q1 q2 q3 q4 q5 q6 q7 f0 f1 f2 f3 f4 K1 K2 K3 K6 K8 hT2 hO2 b5 gr OT
 rw [HW4.out]
 clear HW4
 have hR4:aM W4 W4.heap.size (z.at TA tc OA oc):=⟨aA hT,aA hO⟩
 obtain ⟨s0,s1,s2,s3⟩:=cells4 M2
 obtain ⟨p0,p1,p2,p3,p4⟩:=cells5 M6
 have hs:=ie (z.at TA tc OA oc) W4 hR4
 rw [show al (z.at TA tc OA oc)=true from hz.1] at hs
 simp only [sK,if_true] at hs
 have hn:=fun W=>fK (cc z.t) true W (fun _=>⟨GZ.inB.1,by have:=GZ.inB.2; have e:(z.at none 0 none 0).t=z.t:=rfl; rw [e] at this; omega⟩)
 simp only [if_true] at hn
 go_wp2_with fail
 refine hs.mono ?_
 rintro e W5 ⟨rfl,hb5⟩
 have N3:=M3.below hb5 M3.lt
 have N8:=M8.below hb5 M8.lt
 have b7:=b6.trans (hb5.mono b6.size)
 have hT5:=ac hT hb5
 have hO5:=ac hO hb5
 clear s0 s1 s2 s3 p0 p1 p2 p3 p4 hs M1 M2 M3 M6 M8 b6 hT hO hR4 hb5
 go_wp2_with fail
 refine am (Sw 4 (fun W9=>Below W5.heap.size W5 W9) (fun W9=>Below w.heap.size w W9∧dp W9 w.heap.size (w.heap.size+1+1) z l)) (fun i w1 w2=>i ∉ [4]→Below w1.heap.size w1 w2) (by kernel_rfl) (by kernel_rfl) (by kernel_rfl) (Sw.start (Below.refl _ _).drew) ?_
 simp only [aw,Act.put,List.setIfInBounds_toArray,List.set_cons_zero,List.set_cons_succ,Nat.zero_add,Nat.reduceAdd]
 apply aa
 case h1 =>
  intro vs L9 w9 hG9 hC9 hB K9 hK9
  replace hC9:=sb hC9 hG9
  have q0:w9.cell? ⟨g8,0,none⟩=some (F TA z.t.length tc):=(N8.below hC9 N8.lt).cell 0
  have q1:w9.cell? ⟨g8,1,none⟩=some (F OA z.o.length oc):=(N8.below hC9 N8.lt).cell 1
  have q2:w9.cell? ⟨g8,2,none⟩=some (O U z.got):=(N8.below hC9 N8.lt).cell 2
  have q3:w9.cell? ⟨g8,3,none⟩=some (O U z.sold):=(N8.below hC9 N8.lt).cell 3
  have q4:w9.cell? ⟨g8,4,none⟩=some (O U z.missed):=(N8.below hC9 N8.lt).cell 4
  have q5:w9.cell? ⟨g8,5,none⟩=some (uk l.D):=(N8.below hC9 N8.lt).cell 5
  have q6:w9.cell? ⟨g8,6,none⟩=some (uk l.P):=(N8.below hC9 N8.lt).cell 6
  have q7:w9.cell? ⟨g8,7,none⟩=some (O U l.n):=(N8.below hC9 N8.lt).cell 7
  simp only [Act.put,sA,s0,s1] at hK9
  go_simp
  exact hK9 _ _ rfl (sy hG9 hC9) bR
 apply aa
 case h1 =>
  intro vs L9 w9 hG9 hC9 hB K9 hK9
  replace hC9:=sb hC9 hG9
  simp only [Act.put,sA,s0,s1] at hK9
  go_simp
  exact hK9 _ _ rfl (sy hG9 hC9) bR
 apply aa
 case h1 =>
  intro vs L9 w9 hG9 hC9 hB K9 hK9
  replace hC9:=sb hC9 hG9
  simp only [Act.put,sA,s0,s1] at hK9
  go_simp
  exact hK9 _ _ rfl (sy hG9 hC9) bR
 refine aa (uk (bv (cc z.t))) (fun vs L9 w9 hG9 hC9 hB K9 hK9=>?_) ?_
 next =>
  replace hC9:=sb hC9 hG9
  have d1:=fe hB 1
  have d2:=fe hB 2
  simp only [d1,d2] at hK9 ⊢
  go_simp
  refine (hn w9).mono ?_
  rintro en w8 ⟨rfl,hb8⟩
  exact hK9 _ _ rfl (Sw.stay hG9 (by kernel_rfl) (by decide) (hC9.trans (hb8.mono hC9.size))) (fun _=>hb8)
 refine aa (undef) (fun vs L9 w9 hG9 hC9 hB K9 hK9=>?_) ?_
 next =>
  replace hC9:=hC9.here hG9
  have d0:=fe hB 0
  simp only [d0] at hK9 ⊢
  have Lr:=N3.below hC9 N3.lt
  obtain ⟨z0,z1,z2,z3,z4,z5,z6,z7⟩:=cells8 Lr
  obtain ⟨f0,f1,f2,f3,f4,f5,f6,f7⟩:=frz8 Lr
  have hN8:=Lib.hid (dp.put (y:=z) (l:=l) Lr (ac hT5 hC9) (ac hO5 hC9))
  have hD8:=Lib.hid (dY (g:=(w.heap.size+1+1)) ((b7).trans (hC9.mono (b7).size)) hge (F TA z.t.length tc) (F OA z.o.length oc) (O U z.got) (O U z.sold) (O U z.missed) (uk l.D) (uk l.P) (O U l.n))
  clear Lr
  go_simp
  exact hK9 _ _ rfl (Sw.turn ⟨hD8.out,hN8.out⟩) (fun hq=>(hq (by decide)).elim)
 apply aa
 case h1 =>
  intro vs L9 w9 hG9 hC9 hB K9 hK9
  replace hC9:=hC9.after hG9 (by kernel_rfl)
  have d3:=fe hB 3
  simp only [d3] at hK9 ⊢
  simp only [Act.put,sA,s0,s1] at hK9
  go_simp
  exact hK9 _ _ rfl (Sw.on hG9 (by kernel_rfl) hC9) bR
 refine ax fun vs L9 w9 hL9 hC9 hB=>?_
 replace hC9:=hC9.done hL9 (by decide)
 have dl:=ag.eq (hB 5 _ rfl rfl (by decide))
 simp only [dl]
 clear hB dl
 obtain ⟨hD,TB,tb,OB,ob,hN,hT9,hO9⟩:=hC9
 obtain ⟨k0,k1,k2,k3,k4,k5,k6,k7⟩:=cells8 hN
 clear hN
 go_wp2
 refine bodyPost_ret (v:=.tuple #[.agg #[F TB z.t.length tb,F OB z.o.length ob,O U z.got,O U z.sold,O U z.missed,uk l.D,uk l.P,O U l.n],uk (bv (cc z.t))]) (by simp [results,Tryz.results89,go_sem, *]) rfl (bg.mk HT.out (.inr ⟨TB,tb,OB,ob,rfl,hT9,hO9⟩) hD)
set_option maxRecDepth 100000 in
set_option maxHeartbeats 4000000 in
theorem rZ (x:aL) (l:Lg) (st pe va:Int) (w:World) (h:aM w w.heap.size x) (hcap:x.t.length≤x.tc) (z:Oc) (hN:hH x.c ⟨4,st,pe,va⟩=some z) :
  Calls Tryz.prog 89 #[aD x l,.agg #[O U 4,O U st,O U pe,O U va]] w (bg w x l (some (z,bv z.sold))):=by
 have L1:=((ah.new w 42 #[F x.TA x.t.length x.tc,F x.OA x.o.length x.oc,O U x.got,O U x.sold,O U x.missed,uk l.D,uk l.P,O U l.n]).alloc (.cells #[O U 4,O U st,O U pe,O U va] 112)).alloc (.cells #[F none 0 0,F none 0 0,O U 0,O U 0,O U 0,uk ⟨#[]⟩,uk ⟨#[]⟩,O U 0] 42)
 have L2:=(ah.new1 w (.cells #[F x.TA x.t.length x.tc,F x.OA x.o.length x.oc,O U x.got,O U x.sold,O U x.missed,uk l.D,uk l.P,O U l.n] 42) 112 #[O U 4,O U st,O U pe,O U va]).alloc (.cells #[F none 0 0,F none 0 0,O U 0,O U 0,O U 0,uk ⟨#[]⟩,uk ⟨#[]⟩,O U 0] 42)
 have L3:=ah.new2 w (.cells #[F x.TA x.t.length x.tc,F x.OA x.o.length x.oc,O U x.got,O U x.sold,O U x.missed,uk l.D,uk l.P,O U l.n] 42) (.cells #[O U 4,O U st,O U pe,O U va] 112) 42 #[F none 0 0,F none 0 0,O U 0,O U 0,O U 0,uk ⟨#[]⟩,uk ⟨#[]⟩,O U 0]
 have b1:=(Below.refl w.heap.size w).alloc (Nat.le_refl _) (.cells #[F x.TA x.t.length x.tc,F x.OA x.o.length x.oc,O U x.got,O U x.sold,O U x.missed,uk l.D,uk l.P,O U l.n] 42)
 have b2:=b1.alloc b1.size (.cells #[O U 4,O U st,O U pe,O U va] 112)
 have b3:=b2.alloc b2.size (.cells #[F none 0 0,F none 0 0,O U 0,O U 0,O U 0,uk ⟨#[]⟩,uk ⟨#[]⟩,O U 0] 42)
 have hW:=h.up b3 (Nat.le_refl _)
 have hge:w.heap.size≤w.heap.size+1+1:=by omega
 clear b1 b2 h
 have cS:=fun W hR=>it x ⟨4,st,pe,va⟩ W hR hcap
 have hz:=fw hN
 rw [hN] at cS
 clear hN
 have GZ:bo (z.at none 0 none 0):=bj.1 hz.1
 have HT:Hid (iO (some (z,bv z.sold))=bv z.sold):=rfl
 go_enter Tryz.func89,Tryz.ntmps89
 go_wp2_with fail
 generalize (((w.alloc (.cells #[F x.TA x.t.length x.tc,F x.OA x.o.length x.oc,O U x.got,O U x.sold,O U x.missed,uk l.D,uk l.P,O U l.n] 42)).alloc (.cells #[O U 4,O U st,O U pe,O U va] 112)).alloc (.cells #[F none 0 0,F none 0 0,O U 0,O U 0,O U 0,uk ⟨#[]⟩,uk ⟨#[]⟩,O U 0] 42))=W at L1 L2 L3 b3 hW ⊢
 refine (cS W hW).mono ?_
 rintro e W1 ⟨TA,tc,OA,oc,rfl,hT,hO,hb⟩
 simp only [cH,Option.getD_some,Option.isSome_some,Oc.at,aL.val] at hT hO ⊢
 go_upto_region 4 with fail
 have hal:=(Below.refl W1.heap.size W1).alloc (Nat.le_refl _) (.cells #[F TA z.t.length tc,F OA z.o.length oc,O U z.got,O U z.sold,O U z.missed] 40)
 have hb2:=aq hb hal
 have J1:=L1.below hb2 L1.lt
 have J2:=L2.below hb2 L2.lt
 have J3:=L3.below hb2 L3.lt
 have J6:=ah.new W1 40 #[F TA z.t.length tc,F OA z.o.length oc,O U z.got,O U z.sold,O U z.missed]
 have b4:=aq b3 hb2
 have hT1:=af (ac hT hal) b3.size
 have hO1:=af (ac hO hal) b3.size
 have g26:w.heap.size+1+1 < W1.heap.size:=Nat.lt_of_lt_of_le L3.lt hb.size
 clear hal hb2 hb hT hO L1 L2 L3 b3
 generalize W1.alloc (.cells #[F TA z.t.length tc,F OA z.o.length oc,O U z.got,O U z.sold,O U z.missed] 40)=W2 at J1 J2 J3 J6 b4 hT1 hO1 ⊢
 generalize W1.heap.size=g6 at J6 g26 ⊢
 obtain ⟨c0,c1,c2,c3,c4,c5,c6,c7⟩:=cells8 J1
 go_upto_region 5 with fail
 clear c0 c1 c2 c3 c4 c5 c6 c7
 have hal:=(Below.refl W2.heap.size W2).alloc (Nat.le_refl _) (.cells #[F x.TA x.t.length x.tc,F x.OA x.o.length x.oc,O U x.got,O U x.sold,O U x.missed,uk l.D,uk l.P,O U l.n] 42)
 have K1:=J1.below hal J1.lt
 have K2:=J2.below hal J2.lt
 have K3:=J3.below hal J3.lt
 have K6:=J6.below hal J6.lt
 have K8:=ah.new W2 42 #[F x.TA x.t.length x.tc,F x.OA x.o.length x.oc,O U x.got,O U x.sold,O U x.missed,uk l.D,uk l.P,O U l.n]
 have b5:=b4.trans (hal.mono b4.size)
 have hT2:=ac hT1 hal
 have hO2:=ac hO1 hal
 have g68:g6 < W2.heap.size:=J6.lt
 clear hal J1 J2 J3 J6 b4 hT1 hO1
 generalize W2.alloc (.cells #[F x.TA x.t.length x.tc,F x.OA x.o.length x.oc,O U x.got,O U x.sold,O U x.missed,uk l.D,uk l.P,O U l.n] 42)=W3 at K1 K2 K3 K6 K8 b5 hT2 hO2 ⊢
 generalize W2.heap.size=g8 at K8 g68 ⊢
 have hg8:w.heap.size≤g8:=by omega
 obtain ⟨p0,p1,p2,p3,p4⟩:=cells5 K6
 obtain ⟨q0,q1,q2,q3,q4,q5,q6,q7⟩:=cells8 K8
 obtain ⟨f0,f1,f2,f3,f4,f5,f6,f7⟩:=frz8 K8
 go_upto_region 6 with fail
 obtain ⟨W4,HW4,M8,b6,gr,OT⟩:=ia K8 b5 hg8 (F TA z.t.length tc) (F OA z.o.length oc) (O U z.got) (O U z.sold) (O U z.missed)
 have M1:=OT _ _ _ (by omega) K1
 have M2:=OT _ _ _ (by omega) K2
 have M3:=OT _ _ _ (by omega) K3
 have M6:=OT _ _ _ (by omega) K6
 have hT:=aj hT2 K8 fa gr
 have hO:=aj hO2 K8 fb gr
 clear p0 p1 p2 p3 p4 q0 q1 q2 q3 q4 q5 q6 q7 f0 f1 f2 f3 f4 K1 K2 K3 K6 K8 hT2 hO2 b5 gr OT
 rw [HW4.out]
 clear HW4
 have hR4:aM W4 W4.heap.size (z.at TA tc OA oc):=⟨aA hT,aA hO⟩
 obtain ⟨s0,s1,s2,s3⟩:=cells4 M2
 obtain ⟨p0,p1,p2,p3,p4⟩:=cells5 M6
 have hn:=fun W=>cn z.sold W GZ.s.1 (by have:=GZ.s.2; have e:(z.at none 0 none 0).sold=z.sold:=rfl; rw [e] at this; omega)
 clear hR4 M1 M2
 go_wp2_with fail
 refine am (Sw 4 (fun W9=>Below W4.heap.size W4 W9) (fun W9=>Below w.heap.size w W9∧dp W9 w.heap.size (w.heap.size+1+1) z l)) (fun i w1 w2=>i ∉ [4]→Below w1.heap.size w1 w2) (by kernel_rfl) (by kernel_rfl) (by kernel_rfl) (Sw.start (Below.refl _ _).drew) ?_
 simp only [aw,Act.put,List.setIfInBounds_toArray,List.set_cons_zero,List.set_cons_succ,Nat.zero_add,Nat.reduceAdd]
 apply aa
 case h1 =>
  intro vs L9 w9 hG9 hC9 hB K9 hK9
  replace hC9:=sb hC9 hG9
  have q0:w9.cell? ⟨g8,0,none⟩=some (F TA z.t.length tc):=(M8.below hC9 M8.lt).cell 0
  have q1:w9.cell? ⟨g8,1,none⟩=some (F OA z.o.length oc):=(M8.below hC9 M8.lt).cell 1
  have q2:w9.cell? ⟨g8,2,none⟩=some (O U z.got):=(M8.below hC9 M8.lt).cell 2
  have q3:w9.cell? ⟨g8,3,none⟩=some (O U z.sold):=(M8.below hC9 M8.lt).cell 3
  have q4:w9.cell? ⟨g8,4,none⟩=some (O U z.missed):=(M8.below hC9 M8.lt).cell 4
  have q5:w9.cell? ⟨g8,5,none⟩=some (uk l.D):=(M8.below hC9 M8.lt).cell 5
  have q6:w9.cell? ⟨g8,6,none⟩=some (uk l.P):=(M8.below hC9 M8.lt).cell 6
  have q7:w9.cell? ⟨g8,7,none⟩=some (O U l.n):=(M8.below hC9 M8.lt).cell 7
  simp only [Act.put,sA,s0,s1] at hK9
  go_simp
  exact hK9 _ _ rfl (sy hG9 hC9) bR
 apply aa
 case h1 =>
  intro vs L9 w9 hG9 hC9 hB K9 hK9
  replace hC9:=sb hC9 hG9
  simp only [Act.put,sA,s0,s1] at hK9
  go_simp
  exact hK9 _ _ rfl (sy hG9 hC9) bR
 apply aa
 case h1 =>
  intro vs L9 w9 hG9 hC9 hB K9 hK9
  replace hC9:=sb hC9 hG9
  have d1:=fe hB 1
  simp only [d1] at hK9 ⊢
  have q0:w9.cell? ⟨g6,3,none⟩=some (O U z.sold):=(M6.below hC9 M6.lt).cell 3
  simp only [Act.put,sA,s0,s1] at hK9
  go_simp
  exact hK9 _ _ rfl (sy hG9 hC9) bR
 refine aa (uk (bv z.sold)) (fun vs L9 w9 hG9 hC9 hB K9 hK9=>?_) ?_
 next =>
  replace hC9:=sb hC9 hG9
  have d2:=fe hB 2
  simp only [d2] at hK9 ⊢
  go_simp
  refine (hn w9).mono ?_
  rintro en w8 ⟨rfl,hb8⟩
  exact hK9 _ _ rfl (Sw.stay hG9 (by kernel_rfl) (by decide) (hC9.trans (hb8.mono hC9.size))) (fun _=>hb8)
 refine aa (undef) (fun vs L9 w9 hG9 hC9 hB K9 hK9=>?_) ?_
 next =>
  replace hC9:=hC9.here hG9
  have d0:=fe hB 0
  simp only [d0] at hK9 ⊢
  have Lr:=M3.below hC9 M3.lt
  obtain ⟨z0,z1,z2,z3,z4,z5,z6,z7⟩:=cells8 Lr
  obtain ⟨f0,f1,f2,f3,f4,f5,f6,f7⟩:=frz8 Lr
  have hN8:=Lib.hid (dp.put (y:=z) (l:=l) Lr (ac hT hC9) (ac hO hC9))
  have hD8:=Lib.hid (dY (g:=(w.heap.size+1+1)) ((b6).trans (hC9.mono (b6).size)) hge (F TA z.t.length tc) (F OA z.o.length oc) (O U z.got) (O U z.sold) (O U z.missed) (uk l.D) (uk l.P) (O U l.n))
  clear Lr
  go_simp
  exact hK9 _ _ rfl (Sw.turn ⟨hD8.out,hN8.out⟩) (fun hq=>(hq (by decide)).elim)
 apply aa
 case h1 =>
  intro vs L9 w9 hG9 hC9 hB K9 hK9
  replace hC9:=hC9.after hG9 (by kernel_rfl)
  have d3:=fe hB 3
  simp only [d3] at hK9 ⊢
  simp only [Act.put,sA,s0,s1] at hK9
  go_simp
  exact hK9 _ _ rfl (Sw.on hG9 (by kernel_rfl) hC9) bR
 refine ax fun vs L9 w9 hL9 hC9 hB=>?_
 replace hC9:=hC9.done hL9 (by decide)
 have dl:=ag.eq (hB 5 _ rfl rfl (by decide))
 simp only [dl]
 clear hB dl
 obtain ⟨hD,TB,tb,OB,ob,hN,hT9,hO9⟩:=hC9
 obtain ⟨k0,k1,k2,k3,k4,k5,k6,k7⟩:=cells8 hN
 clear hN
 go_wp2
 refine bodyPost_ret (v:=.tuple #[.agg #[F TB z.t.length tb,F OB z.o.length ob,O U z.got,O U z.sold,O U z.missed,uk l.D,uk l.P,O U l.n],uk (bv z.sold)]) (by simp [results,Tryz.results89,go_sem, *]) rfl (bg.mk HT.out (.inr ⟨TB,tb,OB,ob,rfl,hT9,hO9⟩) hD)
set_option maxRecDepth 100000 in
set_option maxHeartbeats 4000000 in
theorem r2 (x:aL) (l:Lg) (st pe va:Int) (w:World) (h:aM w w.heap.size x) (hcap:x.t.length≤x.tc) (z:Oc) (hN:hH x.c ⟨5,st,pe,va⟩=some z) :
  Calls Tryz.prog 89 #[aD x l,.agg #[O U 5,O U st,O U pe,O U va]] w (bg w x l (some (z,bv z.missed))):=by
 have L1:=((ah.new w 42 #[F x.TA x.t.length x.tc,F x.OA x.o.length x.oc,O U x.got,O U x.sold,O U x.missed,uk l.D,uk l.P,O U l.n]).alloc (.cells #[O U 5,O U st,O U pe,O U va] 112)).alloc (.cells #[F none 0 0,F none 0 0,O U 0,O U 0,O U 0,uk ⟨#[]⟩,uk ⟨#[]⟩,O U 0] 42)
 have L2:=(ah.new1 w (.cells #[F x.TA x.t.length x.tc,F x.OA x.o.length x.oc,O U x.got,O U x.sold,O U x.missed,uk l.D,uk l.P,O U l.n] 42) 112 #[O U 5,O U st,O U pe,O U va]).alloc (.cells #[F none 0 0,F none 0 0,O U 0,O U 0,O U 0,uk ⟨#[]⟩,uk ⟨#[]⟩,O U 0] 42)
 have L3:=ah.new2 w (.cells #[F x.TA x.t.length x.tc,F x.OA x.o.length x.oc,O U x.got,O U x.sold,O U x.missed,uk l.D,uk l.P,O U l.n] 42) (.cells #[O U 5,O U st,O U pe,O U va] 112) 42 #[F none 0 0,F none 0 0,O U 0,O U 0,O U 0,uk ⟨#[]⟩,uk ⟨#[]⟩,O U 0]
 have b1:=(Below.refl w.heap.size w).alloc (Nat.le_refl _) (.cells #[F x.TA x.t.length x.tc,F x.OA x.o.length x.oc,O U x.got,O U x.sold,O U x.missed,uk l.D,uk l.P,O U l.n] 42)
 have b2:=b1.alloc b1.size (.cells #[O U 5,O U st,O U pe,O U va] 112)
 have b3:=b2.alloc b2.size (.cells #[F none 0 0,F none 0 0,O U 0,O U 0,O U 0,uk ⟨#[]⟩,uk ⟨#[]⟩,O U 0] 42)
 have hW:=h.up b3 (Nat.le_refl _)
 have hge:w.heap.size≤w.heap.size+1+1:=by omega
 clear b1 b2 h
 have cS:=fun W hR=>it x ⟨5,st,pe,va⟩ W hR hcap
 have hz:=fw hN
 rw [hN] at cS
 clear hN
 have GZ:bo (z.at none 0 none 0):=bj.1 hz.1
 have HT:Hid (iO (some (z,bv z.missed))=bv z.missed):=rfl
 go_enter Tryz.func89,Tryz.ntmps89
 go_wp2_with fail
 generalize (((w.alloc (.cells #[F x.TA x.t.length x.tc,F x.OA x.o.length x.oc,O U x.got,O U x.sold,O U x.missed,uk l.D,uk l.P,O U l.n] 42)).alloc (.cells #[O U 5,O U st,O U pe,O U va] 112)).alloc (.cells #[F none 0 0,F none 0 0,O U 0,O U 0,O U 0,uk ⟨#[]⟩,uk ⟨#[]⟩,O U 0] 42))=W at L1 L2 L3 b3 hW ⊢
 refine (cS W hW).mono ?_
 rintro e W1 ⟨TA,tc,OA,oc,rfl,hT,hO,hb⟩
 simp only [cH,Option.getD_some,Option.isSome_some,Oc.at,aL.val] at hT hO ⊢
 go_upto_region 4 with fail
 have hal:=(Below.refl W1.heap.size W1).alloc (Nat.le_refl _) (.cells #[F TA z.t.length tc,F OA z.o.length oc,O U z.got,O U z.sold,O U z.missed] 40)
 have hb2:=aq hb hal
 have J1:=L1.below hb2 L1.lt
 have J2:=L2.below hb2 L2.lt
 have J3:=L3.below hb2 L3.lt
 have J6:=ah.new W1 40 #[F TA z.t.length tc,F OA z.o.length oc,O U z.got,O U z.sold,O U z.missed]
 have b4:=aq b3 hb2
 have hT1:=af (ac hT hal) b3.size
 have hO1:=af (ac hO hal) b3.size
 have g26:w.heap.size+1+1 < W1.heap.size:=Nat.lt_of_lt_of_le L3.lt hb.size
 clear hal hb2 hb hT hO L1 L2 L3 b3
 generalize W1.alloc (.cells #[F TA z.t.length tc,F OA z.o.length oc,O U z.got,O U z.sold,O U z.missed] 40)=W2 at J1 J2 J3 J6 b4 hT1 hO1 ⊢
 generalize W1.heap.size=g6 at J6 g26 ⊢
 obtain ⟨c0,c1,c2,c3,c4,c5,c6,c7⟩:=cells8 J1
 go_upto_region 5 with fail
 clear c0 c1 c2 c3 c4 c5 c6 c7
 have hal:=(Below.refl W2.heap.size W2).alloc (Nat.le_refl _) (.cells #[F x.TA x.t.length x.tc,F x.OA x.o.length x.oc,O U x.got,O U x.sold,O U x.missed,uk l.D,uk l.P,O U l.n] 42)
 have K1:=J1.below hal J1.lt
 have K2:=J2.below hal J2.lt
 have K3:=J3.below hal J3.lt
 have K6:=J6.below hal J6.lt
 have K8:=ah.new W2 42 #[F x.TA x.t.length x.tc,F x.OA x.o.length x.oc,O U x.got,O U x.sold,O U x.missed,uk l.D,uk l.P,O U l.n]
 have b5:=b4.trans (hal.mono b4.size)
 have hT2:=ac hT1 hal
 have hO2:=ac hO1 hal
 have g68:g6 < W2.heap.size:=J6.lt
 clear hal J1 J2 J3 J6 b4 hT1 hO1
 generalize W2.alloc (.cells #[F x.TA x.t.length x.tc,F x.OA x.o.length x.oc,O U x.got,O U x.sold,O U x.missed,uk l.D,uk l.P,O U l.n] 42)=W3 at K1 K2 K3 K6 K8 b5 hT2 hO2 ⊢
 generalize W2.heap.size=g8 at K8 g68 ⊢
 have hg8:w.heap.size≤g8:=by omega
 obtain ⟨p0,p1,p2,p3,p4⟩:=cells5 K6
 obtain ⟨q0,q1,q2,q3,q4,q5,q6,q7⟩:=cells8 K8
 obtain ⟨f0,f1,f2,f3,f4,f5,f6,f7⟩:=frz8 K8
 go_upto_region 6 with fail
 obtain ⟨W4,HW4,M8,b6,gr,OT⟩:=ia K8 b5 hg8 (F TA z.t.length tc) (F OA z.o.length oc) (O U z.got) (O U z.sold) (O U z.missed)
 have M1:=OT _ _ _ (by omega) K1
 have M2:=OT _ _ _ (by omega) K2
 have M3:=OT _ _ _ (by omega) K3
 have M6:=OT _ _ _ (by omega) K6
 have hT:=aj hT2 K8 fa gr
 have hO:=aj hO2 K8 fb gr
 clear p0 p1 p2 p3 p4 q0 q1 q2 q3 q4 q5 q6 q7 f0 f1 f2 f3 f4 K1 K2 K3 K6 K8 hT2 hO2 b5 gr OT
 rw [HW4.out]
 clear HW4
 have hR4:aM W4 W4.heap.size (z.at TA tc OA oc):=⟨aA hT,aA hO⟩
 obtain ⟨s0,s1,s2,s3⟩:=cells4 M2
 obtain ⟨p0,p1,p2,p3,p4⟩:=cells5 M6
 have hn:=fun W=>cn z.missed W GZ.m.1 (by have:=GZ.m.2; have e:(z.at none 0 none 0).missed=z.missed:=rfl; rw [e] at this; omega)
 clear hR4 M1 M2
 go_wp2_with fail
 refine am (Sw 4 (fun W9=>Below W4.heap.size W4 W9) (fun W9=>Below w.heap.size w W9∧dp W9 w.heap.size (w.heap.size+1+1) z l)) (fun i w1 w2=>i ∉ [4]→Below w1.heap.size w1 w2) (by kernel_rfl) (by kernel_rfl) (by kernel_rfl) (Sw.start (Below.refl _ _).drew) ?_
 simp only [aw,Act.put,List.setIfInBounds_toArray,List.set_cons_zero,List.set_cons_succ,Nat.zero_add,Nat.reduceAdd]
 apply aa
 case h1 =>
  intro vs L9 w9 hG9 hC9 hB K9 hK9
  replace hC9:=sb hC9 hG9
  have q0:w9.cell? ⟨g8,0,none⟩=some (F TA z.t.length tc):=(M8.below hC9 M8.lt).cell 0
  have q1:w9.cell? ⟨g8,1,none⟩=some (F OA z.o.length oc):=(M8.below hC9 M8.lt).cell 1
  have q2:w9.cell? ⟨g8,2,none⟩=some (O U z.got):=(M8.below hC9 M8.lt).cell 2
  have q3:w9.cell? ⟨g8,3,none⟩=some (O U z.sold):=(M8.below hC9 M8.lt).cell 3
  have q4:w9.cell? ⟨g8,4,none⟩=some (O U z.missed):=(M8.below hC9 M8.lt).cell 4
  have q5:w9.cell? ⟨g8,5,none⟩=some (uk l.D):=(M8.below hC9 M8.lt).cell 5
  have q6:w9.cell? ⟨g8,6,none⟩=some (uk l.P):=(M8.below hC9 M8.lt).cell 6
  have q7:w9.cell? ⟨g8,7,none⟩=some (O U l.n):=(M8.below hC9 M8.lt).cell 7
  simp only [Act.put,sA,s0,s1] at hK9
  go_simp
  exact hK9 _ _ rfl (sy hG9 hC9) bR
 apply aa
 case h1 =>
  intro vs L9 w9 hG9 hC9 hB K9 hK9
  replace hC9:=sb hC9 hG9
  simp only [Act.put,sA,s0,s1] at hK9
  go_simp
  exact hK9 _ _ rfl (sy hG9 hC9) bR
 apply aa
 case h1 =>
  intro vs L9 w9 hG9 hC9 hB K9 hK9
  replace hC9:=sb hC9 hG9
  have d1:=fe hB 1
  simp only [d1] at hK9 ⊢
  have q0:w9.cell? ⟨g6,4,none⟩=some (O U z.missed):=(M6.below hC9 M6.lt).cell 4
  simp only [Act.put,sA,s0,s1] at hK9
  go_simp
  exact hK9 _ _ rfl (sy hG9 hC9) bR
 refine aa (uk (bv z.missed)) (fun vs L9 w9 hG9 hC9 hB K9 hK9=>?_) ?_
 next =>
  replace hC9:=sb hC9 hG9
  have d2:=fe hB 2
  simp only [d2] at hK9 ⊢
  go_simp
  refine (hn w9).mono ?_
  rintro en w8 ⟨rfl,hb8⟩
  exact hK9 _ _ rfl (Sw.stay hG9 (by kernel_rfl) (by decide) (hC9.trans (hb8.mono hC9.size))) (fun _=>hb8)
 refine aa (undef) (fun vs L9 w9 hG9 hC9 hB K9 hK9=>?_) ?_
 next =>
  replace hC9:=hC9.here hG9
  have d0:=fe hB 0
  simp only [d0] at hK9 ⊢
  have Lr:=M3.below hC9 M3.lt
  obtain ⟨z0,z1,z2,z3,z4,z5,z6,z7⟩:=cells8 Lr
  obtain ⟨f0,f1,f2,f3,f4,f5,f6,f7⟩:=frz8 Lr
  have hN8:=Lib.hid (dp.put (y:=z) (l:=l) Lr (ac hT hC9) (ac hO hC9))
  have hD8:=Lib.hid (dY (g:=(w.heap.size+1+1)) ((b6).trans (hC9.mono (b6).size)) hge (F TA z.t.length tc) (F OA z.o.length oc) (O U z.got) (O U z.sold) (O U z.missed) (uk l.D) (uk l.P) (O U l.n))
  clear Lr
  go_simp
  exact hK9 _ _ rfl (Sw.turn ⟨hD8.out,hN8.out⟩) (fun hq=>(hq (by decide)).elim)
 apply aa
 case h1 =>
  intro vs L9 w9 hG9 hC9 hB K9 hK9
  replace hC9:=hC9.after hG9 (by kernel_rfl)
  have d3:=fe hB 3
  simp only [d3] at hK9 ⊢
  simp only [Act.put,sA,s0,s1] at hK9
  go_simp
  exact hK9 _ _ rfl (Sw.on hG9 (by kernel_rfl) hC9) bR
 refine ax fun vs L9 w9 hL9 hC9 hB=>?_
 replace hC9:=hC9.done hL9 (by decide)
 have dl:=ag.eq (hB 5 _ rfl rfl (by decide))
 simp only [dl]
 clear hB dl
 obtain ⟨hD,TB,tb,OB,ob,hN,hT9,hO9⟩:=hC9
 obtain ⟨k0,k1,k2,k3,k4,k5,k6,k7⟩:=cells8 hN
 clear hN
 go_wp2
 refine bodyPost_ret (v:=.tuple #[.agg #[F TB z.t.length tb,F OB z.o.length ob,O U z.got,O U z.sold,O U z.missed,uk l.D,uk l.P,O U l.n],uk (bv z.missed)]) (by simp [results,Tryz.results89,go_sem, *]) rfl (bg.mk HT.out (.inr ⟨TB,tb,OB,ob,rfl,hT9,hO9⟩) hD)
set_option maxRecDepth 100000 in
set_option maxHeartbeats 4000000 in
theorem r4 (x:aL) (l:Lg) (kd st pe va:Int) (w:World) (h:aM w w.heap.size x) (hcap:x.t.length≤x.tc) (z:Oc) (hN:hH x.c ⟨kd,st,pe,va⟩=some z) (hk1:kd ≠ 1) (hk4:kd ≠ 4) (hk5:kd ≠ 5) :
  Calls Tryz.prog 89 #[aD x l,.agg #[O U kd,O U st,O U pe,O U va]] w (bg w x l (some (z,ed z.off st))):=by
 have L1:=((ah.new w 42 #[F x.TA x.t.length x.tc,F x.OA x.o.length x.oc,O U x.got,O U x.sold,O U x.missed,uk l.D,uk l.P,O U l.n]).alloc (.cells #[O U kd,O U st,O U pe,O U va] 112)).alloc (.cells #[F none 0 0,F none 0 0,O U 0,O U 0,O U 0,uk ⟨#[]⟩,uk ⟨#[]⟩,O U 0] 42)
 have L2:=(ah.new1 w (.cells #[F x.TA x.t.length x.tc,F x.OA x.o.length x.oc,O U x.got,O U x.sold,O U x.missed,uk l.D,uk l.P,O U l.n] 42) 112 #[O U kd,O U st,O U pe,O U va]).alloc (.cells #[F none 0 0,F none 0 0,O U 0,O U 0,O U 0,uk ⟨#[]⟩,uk ⟨#[]⟩,O U 0] 42)
 have L3:=ah.new2 w (.cells #[F x.TA x.t.length x.tc,F x.OA x.o.length x.oc,O U x.got,O U x.sold,O U x.missed,uk l.D,uk l.P,O U l.n] 42) (.cells #[O U kd,O U st,O U pe,O U va] 112) 42 #[F none 0 0,F none 0 0,O U 0,O U 0,O U 0,uk ⟨#[]⟩,uk ⟨#[]⟩,O U 0]
 have b1:=(Below.refl w.heap.size w).alloc (Nat.le_refl _) (.cells #[F x.TA x.t.length x.tc,F x.OA x.o.length x.oc,O U x.got,O U x.sold,O U x.missed,uk l.D,uk l.P,O U l.n] 42)
 have b2:=b1.alloc b1.size (.cells #[O U kd,O U st,O U pe,O U va] 112)
 have b3:=b2.alloc b2.size (.cells #[F none 0 0,F none 0 0,O U 0,O U 0,O U 0,uk ⟨#[]⟩,uk ⟨#[]⟩,O U 0] 42)
 have hW:=h.up b3 (Nat.le_refl _)
 have hge:w.heap.size≤w.heap.size+1+1:=by omega
 clear b1 b2 h
 have cS:=fun W hR=>it x ⟨kd,st,pe,va⟩ W hR hcap
 have hz:=fw hN
 rw [hN] at cS
 clear hN
 have GZ:bo (z.at none 0 none 0):=bj.1 hz.1
 have HT:Hid (iO (some (z,ed z.off st))=ed z.off st):=rfl
 have n1:(kd == 1)=false:=beq_false_of_ne hk1
 have n4:(kd == 4)=false:=beq_false_of_ne hk4
 have n5:(kd == 5)=false:=beq_false_of_ne hk5
 clear hk1 hk4 hk5
 go_enter Tryz.func89,Tryz.ntmps89
 go_wp2_with fail
 generalize (((w.alloc (.cells #[F x.TA x.t.length x.tc,F x.OA x.o.length x.oc,O U x.got,O U x.sold,O U x.missed,uk l.D,uk l.P,O U l.n] 42)).alloc (.cells #[O U kd,O U st,O U pe,O U va] 112)).alloc (.cells #[F none 0 0,F none 0 0,O U 0,O U 0,O U 0,uk ⟨#[]⟩,uk ⟨#[]⟩,O U 0] 42))=W at L1 L2 L3 b3 hW ⊢
 refine (cS W hW).mono ?_
 rintro e W1 ⟨TA,tc,OA,oc,rfl,hT,hO,hb⟩
 simp only [cH,Option.getD_some,Option.isSome_some,Oc.at,aL.val] at hT hO ⊢
 go_upto_region 4 with fail
 have hal:=(Below.refl W1.heap.size W1).alloc (Nat.le_refl _) (.cells #[F TA z.t.length tc,F OA z.o.length oc,O U z.got,O U z.sold,O U z.missed] 40)
 have hb2:=aq hb hal
 have J1:=L1.below hb2 L1.lt
 have J2:=L2.below hb2 L2.lt
 have J3:=L3.below hb2 L3.lt
 have J6:=ah.new W1 40 #[F TA z.t.length tc,F OA z.o.length oc,O U z.got,O U z.sold,O U z.missed]
 have b4:=aq b3 hb2
 have hT1:=af (ac hT hal) b3.size
 have hO1:=af (ac hO hal) b3.size
 have g26:w.heap.size+1+1 < W1.heap.size:=Nat.lt_of_lt_of_le L3.lt hb.size
 clear hal hb2 hb hT hO L1 L2 L3 b3
 generalize W1.alloc (.cells #[F TA z.t.length tc,F OA z.o.length oc,O U z.got,O U z.sold,O U z.missed] 40)=W2 at J1 J2 J3 J6 b4 hT1 hO1 ⊢
 generalize W1.heap.size=g6 at J6 g26 ⊢
 obtain ⟨c0,c1,c2,c3,c4,c5,c6,c7⟩:=cells8 J1
 go_upto_region 5 with fail
 clear c0 c1 c2 c3 c4 c5 c6 c7
 have hal:=(Below.refl W2.heap.size W2).alloc (Nat.le_refl _) (.cells #[F x.TA x.t.length x.tc,F x.OA x.o.length x.oc,O U x.got,O U x.sold,O U x.missed,uk l.D,uk l.P,O U l.n] 42)
 have K1:=J1.below hal J1.lt
 have K2:=J2.below hal J2.lt
 have K3:=J3.below hal J3.lt
 have K6:=J6.below hal J6.lt
 have K8:=ah.new W2 42 #[F x.TA x.t.length x.tc,F x.OA x.o.length x.oc,O U x.got,O U x.sold,O U x.missed,uk l.D,uk l.P,O U l.n]
 have b5:=b4.trans (hal.mono b4.size)
 have hT2:=ac hT1 hal
 have hO2:=ac hO1 hal
 have g68:g6 < W2.heap.size:=J6.lt
 clear hal J1 J2 J3 J6 b4 hT1 hO1
 generalize W2.alloc (.cells #[F x.TA x.t.length x.tc,F x.OA x.o.length x.oc,O U x.got,O U x.sold,O U x.missed,uk l.D,uk l.P,O U l.n] 42)=W3 at K1 K2 K3 K6 K8 b5 hT2 hO2 ⊢
 generalize W2.heap.size=g8 at K8 g68 ⊢
 have hg8:w.heap.size≤g8:=by omega
 obtain ⟨p0,p1,p2,p3,p4⟩:=cells5 K6
 obtain ⟨q0,q1,q2,q3,q4,q5,q6,q7⟩:=cells8 K8
 obtain ⟨f0,f1,f2,f3,f4,f5,f6,f7⟩:=frz8 K8
 go_upto_region 6 with fail
 obtain ⟨W4,HW4,M8,b6,gr,OT⟩:=ia K8 b5 hg8 (F TA z.t.length tc) (F OA z.o.length oc) (O U z.got) (O U z.sold) (O U z.missed)
 have M1:=OT _ _ _ (by omega) K1
 have M2:=OT _ _ _ (by omega) K2
 have M3:=OT _ _ _ (by omega) K3
 have M6:=OT _ _ _ (by omega) K6
 have hT:=aj hT2 K8 fa gr
 have hO:=aj hO2 K8 fb gr
 clear p0 p1 p2 p3 p4 q0 q1 q2 q3 q4 q5 q6 q7 f0 f1 f2 f3 f4 K1 K2 K3 K6 K8 hT2 hO2 b5 gr OT
 rw [HW4.out]
 clear HW4
 have hR4:aM W4 W4.heap.size (z.at TA tc OA oc):=⟨aA hT,aA hO⟩
 obtain ⟨s0,s1,s2,s3⟩:=cells4 M2
 obtain ⟨p0,p1,p2,p3,p4⟩:=cells5 M6
 have hn:=fun W hR=>lM (z.at TA tc OA oc) st W hR
 have e9:(jI (z.at TA tc OA oc) st).getD ch=ed z.off st:=by
  unfold jI
  rw [show (al (z.at TA tc OA oc) && aO (z.at TA tc OA oc).t st)=true from by rw [show al (z.at TA tc OA oc)=true from hz.1]; exact hz.2]
  rfl
 rw [e9] at hn
 clear e9
 go_wp2_with fail
 refine am (Sw 5 (fun W9=>Below W4.heap.size W4 W9) (fun W9=>Below w.heap.size w W9∧dp W9 w.heap.size (w.heap.size+1+1) z l)) (fun i w1 w2=>i ∉ [5]→Below w1.heap.size w1 w2) (by kernel_rfl) (by kernel_rfl) (by kernel_rfl) (Sw.start (Below.refl _ _).drew) ?_
 simp only [aw,Act.put,List.setIfInBounds_toArray,List.set_cons_zero,List.set_cons_succ,Nat.zero_add,Nat.reduceAdd]
 apply aa
 case h1 =>
  intro vs L9 w9 hG9 hC9 hB K9 hK9
  replace hC9:=sb hC9 hG9
  have q0:w9.cell? ⟨g8,0,none⟩=some (F TA z.t.length tc):=(M8.below hC9 M8.lt).cell 0
  have q1:w9.cell? ⟨g8,1,none⟩=some (F OA z.o.length oc):=(M8.below hC9 M8.lt).cell 1
  have q2:w9.cell? ⟨g8,2,none⟩=some (O U z.got):=(M8.below hC9 M8.lt).cell 2
  have q3:w9.cell? ⟨g8,3,none⟩=some (O U z.sold):=(M8.below hC9 M8.lt).cell 3
  have q4:w9.cell? ⟨g8,4,none⟩=some (O U z.missed):=(M8.below hC9 M8.lt).cell 4
  have q5:w9.cell? ⟨g8,5,none⟩=some (uk l.D):=(M8.below hC9 M8.lt).cell 5
  have q6:w9.cell? ⟨g8,6,none⟩=some (uk l.P):=(M8.below hC9 M8.lt).cell 6
  have q7:w9.cell? ⟨g8,7,none⟩=some (O U l.n):=(M8.below hC9 M8.lt).cell 7
  simp only [Act.put,sA,s0,s1] at hK9
  go_simp
  exact hK9 _ _ rfl (sy hG9 hC9) bR
 apply aa
 case h1 =>
  intro vs L9 w9 hG9 hC9 hB K9 hK9
  replace hC9:=sb hC9 hG9
  have q0:w9.cell? ⟨g6,0,none⟩=some (F TA z.t.length tc):=(M6.below hC9 M6.lt).cell 0
  have q1:w9.cell? ⟨g6,1,none⟩=some (F OA z.o.length oc):=(M6.below hC9 M6.lt).cell 1
  have q2:w9.cell? ⟨g6,2,none⟩=some (O U z.got):=(M6.below hC9 M6.lt).cell 2
  have q3:w9.cell? ⟨g6,3,none⟩=some (O U z.sold):=(M6.below hC9 M6.lt).cell 3
  have q4:w9.cell? ⟨g6,4,none⟩=some (O U z.missed):=(M6.below hC9 M6.lt).cell 4
  simp only [Act.put,sA,s0,s1] at hK9
  go_simp
  exact hK9 _ _ rfl (sy hG9 hC9) bR
 apply aa
 case h1 =>
  intro vs L9 w9 hG9 hC9 hB K9 hK9
  replace hC9:=sb hC9 hG9
  simp only [Act.put,sA,s0,s1] at hK9
  go_simp
  exact hK9 _ _ rfl (sy hG9 hC9) bR
 apply aa
 case h1 =>
  intro vs L9 w9 hG9 hC9 hB K9 hK9
  replace hC9:=sb hC9 hG9
  have d2:=fe hB 2
  simp only [d2] at hK9 ⊢
  have q0:w9.cell? ⟨(w.heap.size+1),1,none⟩=some (O U st):=(M2.below hC9 M2.lt).cell 1
  simp only [Act.put,sA,s0,s1] at hK9
  go_simp
  exact hK9 _ _ rfl (sy hG9 hC9) bR
 refine aa (uk (ed z.off st)) (fun vs L9 w9 hG9 hC9 hB K9 hK9=>?_) ?_
 next =>
  replace hC9:=sb hC9 hG9
  have d1:=fe hB 1
  have d3:=fe hB 3
  simp only [d1,d3] at hK9 ⊢
  go_simp
  refine (hn w9 (hR4.then hC9)).mono ?_
  rintro en w8 ⟨rfl,hb8⟩
  exact hK9 _ _ rfl (Sw.stay hG9 (by kernel_rfl) (by decide) (hC9.trans (hb8.mono hC9.size))) (fun _=>hb8)
 refine aa (undef) (fun vs L9 w9 hG9 hC9 hB K9 hK9=>?_) ?_
 next =>
  replace hC9:=hC9.here hG9
  have d0:=fe hB 0
  simp only [d0] at hK9 ⊢
  have Lr:=M3.below hC9 M3.lt
  obtain ⟨z0,z1,z2,z3,z4,z5,z6,z7⟩:=cells8 Lr
  obtain ⟨f0,f1,f2,f3,f4,f5,f6,f7⟩:=frz8 Lr
  have hN8:=Lib.hid (dp.put (y:=z) (l:=l) Lr (ac hT hC9) (ac hO hC9))
  have hD8:=Lib.hid (dY (g:=(w.heap.size+1+1)) ((b6).trans (hC9.mono (b6).size)) hge (F TA z.t.length tc) (F OA z.o.length oc) (O U z.got) (O U z.sold) (O U z.missed) (uk l.D) (uk l.P) (O U l.n))
  clear Lr
  go_simp
  exact hK9 _ _ rfl (Sw.turn ⟨hD8.out,hN8.out⟩) (fun hq=>(hq (by decide)).elim)
 apply aa
 case h1 =>
  intro vs L9 w9 hG9 hC9 hB K9 hK9
  replace hC9:=hC9.after hG9 (by kernel_rfl)
  have d4:=fe hB 4
  simp only [d4] at hK9 ⊢
  simp only [Act.put,sA,s0,s1] at hK9
  go_simp
  exact hK9 _ _ rfl (Sw.on hG9 (by kernel_rfl) hC9) bR
 refine ax fun vs L9 w9 hL9 hC9 hB=>?_
 replace hC9:=hC9.done hL9 (by decide)
 have dl:=ag.eq (hB 6 _ rfl rfl (by decide))
 simp only [dl]
 clear hB dl
 obtain ⟨hD,TB,tb,OB,ob,hN,hT9,hO9⟩:=hC9
 obtain ⟨k0,k1,k2,k3,k4,k5,k6,k7⟩:=cells8 hN
 clear hN
 go_wp2
 refine bodyPost_ret (v:=.tuple #[.agg #[F TB z.t.length tb,F OB z.o.length ob,O U z.got,O U z.sold,O U z.missed,uk l.D,uk l.P,O U l.n],uk (ed z.off st)]) (by simp [results,Tryz.results89,go_sem, *]) rfl (bg.mk HT.out (.inr ⟨TB,tb,OB,ob,rfl,hT9,hO9⟩) hD)
theorem fc (x:aL) (l:Lg) (s:dW) (w:World) (h:aM w w.heap.size x) (hcap:x.t.length≤x.tc) :
  Calls Tryz.prog 89 #[aD x l,s.val] w (bg w x l (bJ x s)):=by
 obtain ⟨kd,st,pe,va⟩:=s
 unfold bJ
 cases hN:hH x.c ⟨kd,st,pe,va⟩ with
 | none=>exact rY x l kd st pe va w h hcap hN
 | some z =>
  show Calls _ _ _ _ (bg w x l (some (z,iM z.off ⟨kd,st,pe,va⟩)))
  unfold iM
  by_cases h1:kd=1
  ·subst h1; exact sZ x l st pe va w h hcap z hN
  ·by_cases h4:kd=4
   ·subst h4; exact rZ x l st pe va w h hcap z hN
   ·by_cases h5:kd=5
    ·subst h5; exact r2 x l st pe va w h hcap z hN
    ·simp only [h1,h4,h5,if_false]
     exact r4 x l kd st pe va w h hcap z hN h1 h4 h5
def js (w:World) (g:Nat):Prop:=∃ ev,w.cell? ⟨g,0,none⟩=some ev∧(ev=.nilIface ∨ ∃ te pe,ev=.iface te pe)
structure LW (w:World):Prop where
 tab:iR w
 syn:js w 2
 rng:js w 3
 ml:∃ m:Int,w.cell? ⟨0,0,none⟩=some (O U m)
theorem qZ {w:World} {a:Addr} {v:Value} (h:w.cell? a=some v):a.block < w.heap.size:=by
 rcases Nat.lt_or_ge a.block w.heap.size with h1 | h1
 ·exact h1
 ·unfold World.cell? at h; simp [Array.getElem?_eq_none h1] at h
theorem js.then {w w' : World} {g:Nat} (h:js w g) (hb:Below w.heap.size w w'):js w' g:=by
 obtain ⟨ev,h1,h2⟩:=h
 exact ⟨ev,(hb.cell (qZ h1)).trans h1,h2⟩
theorem LW.then {w w' : World} (h:LW w) (hb:Below w.heap.size w w'):LW w':=by
 obtain ⟨h1,h2,h3,m,h4⟩:=h
 exact ⟨h1.then hb,h2.then hb,h3.then hb,m,(hb.cell (qZ h4)).trans h4⟩
theorem LW.at {w:World} (h:LW w) (q:an w.heap.size w):LW q.val:=h.then q.below
theorem s5 (ps:List (List UInt8)) (k:Nat) (h:k < ps.length):(dn ps)[k]?=some (uk ⟨(ps[k]).toArray⟩):=by
 unfold dn; rw [List.getElem?_map,List.getElem?_eq_getElem h]; rfl
theorem ff (ps:List (List UInt8)) (rest:List Value) (k:Nat) (h:k < ps.length):(dn ps++rest)[k]?=some (uk ⟨(ps[k]).toArray⟩):=by
 rw [List.getElem?_append_left (by rw [rQ]; omega)]; exact s5 ps k h
theorem kw (s:ByteArray) (b:UInt8) (w:World) (hs:s.size≤100000000) :
  Calls Tryz.prog 58 #[uk s,.int .u8 b.toNat] w fun e w'=>∃ (g c:Nat) (rest:List Value),e=.returned (F (some ⟨g,0,none⟩) (aH b (bl s)).length c)∧ah w' g 9 (dn (aH b (bl s))++rest)∧w.heap.size≤g∧Below w.heap.size w w':=by
 refine (gW s b w hs).mono ?_
 rintro e w' ⟨A,c,rfl,ho,hb⟩
 obtain ⟨_,_,⟨h1,h2⟩ | ⟨g,rest,hA,hg,hL⟩⟩:=bM.of ho
 ·exact absurd (List.eq_nil_of_length_eq_zero h2) (jX b _ _)
 ·subst hA; exact ⟨g,c,rest,rfl,hL,hg,hb⟩
theorem gY {b:UInt8} {s:List UInt8} {n:Nat} (h:s.length≤n):∀ t ∈ aH b s,t.length≤n:=fun t ht=>by
 have:=kG s [] ht; simp at this; omega
theorem gZ {b:UInt8} {s:List UInt8} {n:Nat} (h:s.length≤n):1≤(aH b s).length∧(aH b s).length≤n+1:=by
 have h1:=fz b s []
 have h3:0 < (cw b [] s).length:=List.length_pos_iff.2 (jX b s [])
 unfold aH; omega
theorem hE {n lo hi:Int} : bU n lo hi=true ↔ lo≤n∧n≤hi:=by simp [bU]
theorem lg (n:Int) (w:World) (h0 : -1000000000≤n) (h1:n≤1000000000) :
  Calls Tryz.prog 71 #[O U n] w fun e w'=>e=.returned (uk ⟨(Lib.itoa n).toArray⟩)∧Below w.heap.size w w':=by
 by_cases hn:n < 0
 ·have HC:Hid (∀ W:World,Calls Tryz.prog 71 #[O U (-n)] W fun e w'=>e=.returned (uk ⟨(Lib.itoa (-n)).toArray⟩)∧Below W.heap.size W w'):=fun W=>cn (-n) W (by omega) (by omega)
  have HI:Hid (Lib.itoa n=45 :: Lib.itoa (-n)):=by
   unfold Lib.itoa Hid
   rw [if_pos hn,if_neg (by omega),show n.natAbs=(-n).toNat by omega]
  have hz:=cz (n:=-n) (by omega) (by omega)
  obtain ⟨t,ht⟩ : ∃ t:ByteArray,t=⟨(Lib.itoa (-n)).toArray⟩:=⟨_,rfl⟩
  rw [← ht] at HC hz
  have HT:=Lib.hid ht
  clear ht
  have hw:IntKind.i64.wrap (-n) = -n:=IntWalk.i64_in _ (by omega)
  go_enter Tryz.func71,Tryz.ntmps71
  go_wp2_with fail
  refine (HC.out _).mono ?_
  rintro e w1 ⟨rfl,hb⟩
  go_wp2_with fail
  go_ret
  refine ⟨?_,hb⟩
  rw [HI.out]
  congr 1
  rw [HT.out,ByteArray.mk_append_mk]; rfl
 ·exact cn n w (by omega) h1
def iu (s:ByteArray) (w:World) (e:Ending) (w' : World):Prop:=e=.returned (.tuple #[O U ((cj (bl s)).getD 0),.bool (cj (bl s)).isSome])∧Below w.heap.size w w'
theorem gF (a b:ByteArray):(a.toList == b.toList)=decide (bl a=bl b):=by
 rw [ByteArray.toList_eq a,ByteArray.toList_eq b,Bool.eq_iff_iff]; simp [bl]
def uf (s t:List UInt8) (neg:Bool):Prop:=(neg=true∧s=45 :: t∧1≤t.length) ∨ (neg=false∧s=t∧(s.head? ≠ some 45 ∨ s.length≤1))
theorem fY {s t:List UInt8} {neg:Bool} (h:uf s t neg) {n:Int} (hq:cj s=some n):1≤t.length∧t.length≤6∧Lib.decFrom 0 t=some n.natAbs∧n=(if neg=true then -(n.natAbs:Int) else (n.natAbs:Int)):=by
 obtain ⟨h6,e⟩:=gK hq
 rcases sw h6 e with ⟨h1,t',h2,h3,h4,h5⟩ | ⟨h1,h2,h3,h4,h5⟩
 ·rcases h with ⟨rfl,h7,h8⟩ | ⟨rfl,h7,h8⟩
  ·rw [h2] at h7; injection h7 with _ h7; subst h7
   exact ⟨h3,h4,h5,by simp; omega⟩
  ·exfalso
   rcases h8 with h8 | h8
   ·rw [h2] at h8; exact h8 rfl
   ·rw [h2] at h8; simp only [List.length_cons] at h8; omega
 ·rcases h with ⟨rfl,h7,h8⟩ | ⟨rfl,h7,h8⟩
  ·exfalso; rw [h7] at h2; exact h2 rfl
  ·subst h7; exact ⟨h3,h4,h5,by simp; omega⟩
set_option maxRecDepth 100000 in
set_option maxHeartbeats 4000000 in
theorem qy (s:ByteArray) (w:World) (hs:s.size≤1000000000) :
  Calls Tryz.prog 135 #[uk s] w (iu s w):=by
 by_cases hsz:1 < s.size
 ·have hi:(1:Int) < (s.size:Int):=by omega
  by_cases h45:s[0].toNat=45
  ·have hT:uf (bl s) (bl (s.extract 1 s.size)) true:=by
    refine .inl ⟨rfl, ?_, ?_⟩
    ·have h1:=jq (s:=s) (k:=0) (by omega)
     rw [bE,List.take_of_length_le (by rw [ao]; exact Nat.le_refl _)]
     have h2:s[0]=45:=UInt8.toNat_inj.1 h45
     rw [List.drop_zero,h2] at h1; exact h1
    ·rw [bE,List.length_drop,List.length_take,ao]; omega
   obtain ⟨t,ht⟩ : ∃ t,s.extract 1 s.size=t:=⟨_,rfl⟩
   have hts:t.size+1=s.size:=by rw [← ht,← ao,bE,List.length_drop,List.length_take,ao]; omega
   rw [ht] at hT
   have hq:((s[0].toNat:Int) == 45)=true:=by simp; omega
   have HT45:=Lib.hid h45
   clear h45
   go_enter Tryz.func135,Tryz.ntmps135
   go_upto_region 4 with fail
   clear ht
   by_cases hlen:1≤t.size∧t.size≤6
   ·obtain ⟨hl1,hl6⟩:=hlen
    have HT:=Lib.hid hT
    clear hT
    have i1:(1:Int)≤(t.size:Int):=by omega
    have i6:(t.size:Int)≤6:=by omega
    have hin:bU (t.size:Int) 1 6=true:=hE.2 ⟨i1,i6⟩
    go_wp2_with fail
    refine (aE _ _ _ _).mono ?_
    rintro e w' ⟨rfl,rfl⟩
    rw [hin]
    clear hin
    go_wp2_with fail
    go_loopw [5,6] (fun m i wr=>∃ (k acc:Nat),k≤t.size∧i=O U k∧m=O U acc∧acc < 1000000∧w=wr∧Hid (Lib.decFrom 0 ((bl t).take k)=some acc)) (fun _ i _=>t.size - (intOf i).toNat)
    case atStart=>exact ⟨0,0,Nat.zero_le _,rfl,rfl,by omega,rfl,by simp [Lib.decFrom,Hid]⟩
    case round =>
     obtain ⟨k,acc,hk,rfl,rfl,hacc,rfl,HD⟩:=hrel
     by_cases hlt:k < t.size
     ·by_cases hd:48≤t[k].toNat∧t[k].toNat≤57
      ·obtain ⟨hd1,hd2⟩:=hd
       have HST:Hid (Lib.decFrom 0 ((bl t).take (k+1))=some (acc * 10+(t[k].toNat - 48))) :=
        Lib.decFrom_take (bl t) k 0 acc t[k] (t[k].toNat - 48) HD.out (List.getElem?_eq_getElem (l:=bl t) hlt) (by unfold Lib.digitVal; rw [if_pos ⟨hd1,hd2⟩])
       have hacc2:acc * 10+(t[k].toNat - 48) < 1000000:=by
        have h1:=Lib.decFrom_lt _ _ _ HST.out
        have h2:((bl t).take (k+1)).length≤6:=by rw [List.length_take]; omega
        have h3:=Nat.pow_le_pow_right (show 0 < 10 by omega) h2
        omega
       have j1:(48:Int)≤(t[k].toNat:Int):=by omega
       have j2:(t[k].toNat:Int)≤57:=by omega
       have j3:IntKind.u8.wrap ((t[k].toNat:Int) - 48)=(t[k].toNat:Int) - 48:=IntWalk.u8_in _ (by omega)
       have j4:IntKind.i64.wrap ((t[k].toNat:Int) - 48)=(t[k].toNat:Int) - 48:=IntWalk.i64_in _ (by omega)
       have j5:IntKind.i64.wrap (10 * (acc:Int))=10 * (acc:Int):=IntWalk.i64_in _ (by omega)
       have j6:IntKind.i64.wrap (10 * (acc:Int)+((t[k].toNat:Int) - 48))=10 * (acc:Int)+((t[k].toNat:Int) - 48):=IntWalk.i64_in _ (by omega)
       clear HD hacc
       go_wp2_with fail
       go_roundw
       case rel=>exact ⟨k+1,acc * 10+(t[k].toNat - 48),by omega,by go_num,by go_num,hacc2,by first | trivial | rfl,HST⟩
       case measure=>simp [intOf] <;> omega
      ·have HZ:Hid (cj (bl s)=none):=by
        cases hq:cj (bl s) with
        | none=>rfl
        | some n =>
         exfalso
         obtain ⟨_,_,h3,_⟩:=fY HT.out hq
         obtain ⟨d,hdd⟩:=Lib.digit_of_decFrom _ _ _ h3 k t[k] (List.getElem?_eq_getElem (l:=bl t) hlt)
         have:=Lib.digitVal_eq hdd
         omega
       by_cases h48:t[k].toNat < 48
       ·have j1:(t[k].toNat:Int) < 48:=by omega
        clear hd
        go_wp2_with fail
        go_ret2
        exact ⟨by rw [HZ.out]; rfl,Below.refl _ _⟩
       ·have j1 : ¬ (t[k].toNat:Int) < 48:=by omega
        have j2:(57:Int) < (t[k].toNat:Int):=by omega
        clear hd h48
        go_wp2_with fail
        go_ret2
        exact ⟨by rw [HZ.out]; rfl,Below.refl _ _⟩
     ·obtain rfl:k=t.size:=by omega
      have HF:Hid (Lib.decFrom 0 (bl t)=some acc):=by
       have h1:=HD.out
       rw [List.take_of_length_le (by rw [ao]; exact Nat.le_refl _)] at h1; exact h1
      clear hlt HD
      have HNUM:Hid (∀ W:World,Calls Tryz.prog 71 #[O U (-(acc:Int))] W fun e w'=>e=.returned (uk ⟨(Lib.itoa (-(acc:Int))).toArray⟩)∧Below W.heap.size W w'):=fun W=>lg (-(acc:Int)) W (by omega) (by omega)
      obtain ⟨nt,hnt⟩ : ∃ x:ByteArray,x=⟨(Lib.itoa (-(acc:Int))).toArray⟩:=⟨_,rfl⟩
      have hbn:bl nt=Lib.itoa (-(acc:Int)):=by rw [hnt,bK]
      rw [← hnt] at HNUM
      clear hnt
      have j7:IntKind.i64.wrap (-(acc:Int)) = -(acc:Int):=IntWalk.i64_in _ (by omega)
      have j8:(t.size:Int) < (s.size:Int):=by omega
      by_cases hs:Lib.itoa (-(acc:Int))=bl s
      ·have HZ:Hid (cj (bl s)=some (-(acc:Int))):=lZ ⟨by omega,by omega⟩ hs
       have hb:(nt.toList == s.toList)=true:=by rw [gF,hbn,hs]; simp
       clear hs hbn
       go_wp2_with fail
       refine (HNUM.out _).mono ?_
       rintro e w1 ⟨rfl,hb1⟩
       go_wp2_with fail
       go_ret2
       exact ⟨by rw [HZ.out]; rfl,hb1⟩
      ·have HZ:Hid (cj (bl s)=none):=by
        cases hq:cj (bl s) with
        | none=>rfl
        | some n =>
         exfalso
         obtain ⟨_,_,h3,h4⟩:=fY HT.out hq
         rw [HF.out] at h3
         injection h3 with h3
         have h5:n = -(acc:Int):=by rw [h4]; simp; omega
         rw [← h5] at hs
         exact hs (gK hq).2
       have hb:(nt.toList == s.toList)=false:=by rw [gF,hbn]; simp [hs]
       clear hs hbn
       go_wp2_with fail
       refine (HNUM.out _).mono ?_
       rintro e w1 ⟨rfl,hb1⟩
       go_wp2_with fail
       go_ret2
       exact ⟨by rw [HZ.out]; rfl,hb1⟩
   ·have HZ:Hid (cj (bl s)=none):=by
     cases hq:cj (bl s) with
     | none=>rfl
     | some n =>
      exfalso
      obtain ⟨h1,h2,_⟩:=fY hT hq
      rw [ao] at h1 h2
      exact hlen ⟨h1,h2⟩
    have hin:bU (t.size:Int) 1 6=false:=by
     rw [← Bool.not_eq_true,hE]; omega
    clear hlen
    go_wp2_with fail
    refine (aE _ _ _ _).mono ?_
    rintro e w' ⟨rfl,rfl⟩
    rw [hin]
    clear hin
    go_wp2_with fail
    go_ret2
    exact ⟨by rw [HZ.out]; rfl,Below.refl _ _⟩
  ·have hT:uf (bl s) (bl s) false:=by
    refine .inr ⟨rfl,rfl,.inl fun h=>h45 ?_⟩
    have h1:=jq (s:=s) (k:=0) (by omega)
    rw [List.drop_zero] at h1
    rw [h1] at h
    simp only [List.head?_cons,Option.some.injEq] at h
    rw [h]; rfl
   have hq:((s[0].toNat:Int) == 45)=false:=by rw [beq_eq_false_iff_ne]; omega
   clear h45
   go_enter Tryz.func135,Tryz.ntmps135
   go_upto_region 4 with fail
   by_cases hlen:1≤s.size∧s.size≤6
   ·obtain ⟨hl1,hl6⟩:=hlen
    have HT:=Lib.hid hT
    clear hT
    have i1:(1:Int)≤(s.size:Int):=by omega
    have i6:(s.size:Int)≤6:=by omega
    have hin:bU (s.size:Int) 1 6=true:=hE.2 ⟨i1,i6⟩
    go_wp2_with fail
    refine (aE _ _ _ _).mono ?_
    rintro e w' ⟨rfl,rfl⟩
    rw [hin]
    clear hin
    go_wp2_with fail
    go_loopw [5,6] (fun m i wr=>∃ (k acc:Nat),k≤s.size∧i=O U k∧m=O U acc∧acc < 1000000∧w=wr∧Hid (Lib.decFrom 0 ((bl s).take k)=some acc)) (fun _ i _=>s.size - (intOf i).toNat)
    case atStart=>exact ⟨0,0,Nat.zero_le _,rfl,rfl,by omega,rfl,by simp [Lib.decFrom,Hid]⟩
    case round =>
     obtain ⟨k,acc,hk,rfl,rfl,hacc,rfl,HD⟩:=hrel
     by_cases hlt:k < s.size
     ·by_cases hd:48≤s[k].toNat∧s[k].toNat≤57
      ·obtain ⟨hd1,hd2⟩:=hd
       have HST:Hid (Lib.decFrom 0 ((bl s).take (k+1))=some (acc * 10+(s[k].toNat - 48))) :=
        Lib.decFrom_take (bl s) k 0 acc s[k] (s[k].toNat - 48) HD.out (List.getElem?_eq_getElem (l:=bl s) hlt) (by unfold Lib.digitVal; rw [if_pos ⟨hd1,hd2⟩])
       have hacc2:acc * 10+(s[k].toNat - 48) < 1000000:=by
        have h1:=Lib.decFrom_lt _ _ _ HST.out
        have h2:((bl s).take (k+1)).length≤6:=by rw [List.length_take]; omega
        have h3:=Nat.pow_le_pow_right (show 0 < 10 by omega) h2
        omega
       have j1:(48:Int)≤(s[k].toNat:Int):=by omega
       have j2:(s[k].toNat:Int)≤57:=by omega
       have j3:IntKind.u8.wrap ((s[k].toNat:Int) - 48)=(s[k].toNat:Int) - 48:=IntWalk.u8_in _ (by omega)
       have j4:IntKind.i64.wrap ((s[k].toNat:Int) - 48)=(s[k].toNat:Int) - 48:=IntWalk.i64_in _ (by omega)
       have j5:IntKind.i64.wrap (10 * (acc:Int))=10 * (acc:Int):=IntWalk.i64_in _ (by omega)
       have j6:IntKind.i64.wrap (10 * (acc:Int)+((s[k].toNat:Int) - 48))=10 * (acc:Int)+((s[k].toNat:Int) - 48):=IntWalk.i64_in _ (by omega)
       clear HD hacc
       go_wp2_with fail
       go_roundw
       case rel=>exact ⟨k+1,acc * 10+(s[k].toNat - 48),by omega,by go_num,by go_num,hacc2,by first | trivial | rfl,HST⟩
       case measure=>simp [intOf] <;> omega
      ·have HZ:Hid (cj (bl s)=none):=by
        cases hq:cj (bl s) with
        | none=>rfl
        | some n =>
         exfalso
         obtain ⟨_,_,h3,_⟩:=fY HT.out hq
         obtain ⟨d,hdd⟩:=Lib.digit_of_decFrom _ _ _ h3 k s[k] (List.getElem?_eq_getElem (l:=bl s) hlt)
         have:=Lib.digitVal_eq hdd
         omega
       by_cases h48:s[k].toNat < 48
       ·have j1:(s[k].toNat:Int) < 48:=by omega
        clear hd
        go_wp2_with fail
        go_ret2
        exact ⟨by rw [HZ.out]; rfl,Below.refl _ _⟩
       ·have j1 : ¬ (s[k].toNat:Int) < 48:=by omega
        have j2:(57:Int) < (s[k].toNat:Int):=by omega
        clear hd h48
        go_wp2_with fail
        go_ret2
        exact ⟨by rw [HZ.out]; rfl,Below.refl _ _⟩
     ·obtain rfl:k=s.size:=by omega
      have HF:Hid (Lib.decFrom 0 (bl s)=some acc):=by
       have h1:=HD.out
       rw [List.take_of_length_le (by rw [ao]; exact Nat.le_refl _)] at h1; exact h1
      clear hlt HD
      have HNUM:Hid (∀ W:World,Calls Tryz.prog 71 #[O U ((acc:Int))] W fun e w'=>e=.returned (uk ⟨(Lib.itoa ((acc:Int))).toArray⟩)∧Below W.heap.size W w'):=fun W=>lg ((acc:Int)) W (by omega) (by omega)
      obtain ⟨nt,hnt⟩ : ∃ x:ByteArray,x=⟨(Lib.itoa ((acc:Int))).toArray⟩:=⟨_,rfl⟩
      have hbn:bl nt=Lib.itoa ((acc:Int)):=by rw [hnt,bK]
      rw [← hnt] at HNUM
      clear hnt
      have j7:IntKind.i64.wrap (-(acc:Int)) = -(acc:Int):=IntWalk.i64_in _ (by omega)
      have j8:True:=trivial
      by_cases hs:Lib.itoa ((acc:Int))=bl s
      ·have HZ:Hid (cj (bl s)=some ((acc:Int))):=lZ ⟨by omega,by omega⟩ hs
       have hb:(nt.toList == s.toList)=true:=by rw [gF,hbn,hs]; simp
       clear hs hbn
       go_wp2_with fail
       refine (HNUM.out _).mono ?_
       rintro e w1 ⟨rfl,hb1⟩
       go_wp2_with fail
       go_ret2
       exact ⟨by rw [HZ.out]; rfl,hb1⟩
      ·have HZ:Hid (cj (bl s)=none):=by
        cases hq:cj (bl s) with
        | none=>rfl
        | some n =>
         exfalso
         obtain ⟨_,_,h3,h4⟩:=fY HT.out hq
         rw [HF.out] at h3
         injection h3 with h3
         have h5:n=(acc:Int):=by rw [h4]; simp; omega
         rw [← h5] at hs
         exact hs (gK hq).2
       have hb:(nt.toList == s.toList)=false:=by rw [gF,hbn]; simp [hs]
       clear hs hbn
       go_wp2_with fail
       refine (HNUM.out _).mono ?_
       rintro e w1 ⟨rfl,hb1⟩
       go_wp2_with fail
       go_ret2
       exact ⟨by rw [HZ.out]; rfl,hb1⟩
   ·have HZ:Hid (cj (bl s)=none):=by
     cases hq:cj (bl s) with
     | none=>rfl
     | some n =>
      exfalso
      obtain ⟨h1,h2,_⟩:=fY hT hq
      rw [ao] at h1 h2
      exact hlen ⟨h1,h2⟩
    have hin:bU (s.size:Int) 1 6=false:=by
     rw [← Bool.not_eq_true,hE]; omega
    clear hlen
    go_wp2_with fail
    refine (aE _ _ _ _).mono ?_
    rintro e w' ⟨rfl,rfl⟩
    rw [hin]
    clear hin
    go_wp2_with fail
    go_ret2
    exact ⟨by rw [HZ.out]; rfl,Below.refl _ _⟩
 ·have hi : ¬ (1:Int) < (s.size:Int):=by omega
  have hT:uf (bl s) (bl s) false:=.inr ⟨rfl,rfl,.inr (by rw [ao]; omega)⟩
  go_enter Tryz.func135,Tryz.ntmps135
  go_upto_region 4 with fail
  by_cases hlen:1≤s.size∧s.size≤6
  ·obtain ⟨hl1,hl6⟩:=hlen
   have HT:=Lib.hid hT
   clear hT
   have i1:(1:Int)≤(s.size:Int):=by omega
   have i6:(s.size:Int)≤6:=by omega
   have hin:bU (s.size:Int) 1 6=true:=hE.2 ⟨i1,i6⟩
   go_wp2_with fail
   refine (aE _ _ _ _).mono ?_
   rintro e w' ⟨rfl,rfl⟩
   rw [hin]
   clear hin
   go_wp2_with fail
   go_loopw [5,6] (fun m i wr=>∃ (k acc:Nat),k≤s.size∧i=O U k∧m=O U acc∧acc < 1000000∧w=wr∧Hid (Lib.decFrom 0 ((bl s).take k)=some acc)) (fun _ i _=>s.size - (intOf i).toNat)
   case atStart=>exact ⟨0,0,Nat.zero_le _,rfl,rfl,by omega,rfl,by simp [Lib.decFrom,Hid]⟩
   case round =>
    obtain ⟨k,acc,hk,rfl,rfl,hacc,rfl,HD⟩:=hrel
    by_cases hlt:k < s.size
    ·by_cases hd:48≤s[k].toNat∧s[k].toNat≤57
     ·obtain ⟨hd1,hd2⟩:=hd
      have HST:Hid (Lib.decFrom 0 ((bl s).take (k+1))=some (acc * 10+(s[k].toNat - 48))) :=
       Lib.decFrom_take (bl s) k 0 acc s[k] (s[k].toNat - 48) HD.out (List.getElem?_eq_getElem (l:=bl s) hlt) (by unfold Lib.digitVal; rw [if_pos ⟨hd1,hd2⟩])
      have hacc2:acc * 10+(s[k].toNat - 48) < 1000000:=by
       have h1:=Lib.decFrom_lt _ _ _ HST.out
       have h2:((bl s).take (k+1)).length≤6:=by rw [List.length_take]; omega
       have h3:=Nat.pow_le_pow_right (show 0 < 10 by omega) h2
       omega
      have j1:(48:Int)≤(s[k].toNat:Int):=by omega
      have j2:(s[k].toNat:Int)≤57:=by omega
      have j3:IntKind.u8.wrap ((s[k].toNat:Int) - 48)=(s[k].toNat:Int) - 48:=IntWalk.u8_in _ (by omega)
      have j4:IntKind.i64.wrap ((s[k].toNat:Int) - 48)=(s[k].toNat:Int) - 48:=IntWalk.i64_in _ (by omega)
      have j5:IntKind.i64.wrap (10 * (acc:Int))=10 * (acc:Int):=IntWalk.i64_in _ (by omega)
      have j6:IntKind.i64.wrap (10 * (acc:Int)+((s[k].toNat:Int) - 48))=10 * (acc:Int)+((s[k].toNat:Int) - 48):=IntWalk.i64_in _ (by omega)
      clear HD hacc
      go_wp2_with fail
      go_roundw
      case rel=>exact ⟨k+1,acc * 10+(s[k].toNat - 48),by omega,by go_num,by go_num,hacc2,by first | trivial | rfl,HST⟩
      case measure=>simp [intOf] <;> omega
     ·have HZ:Hid (cj (bl s)=none):=by
       cases hq:cj (bl s) with
       | none=>rfl
       | some n =>
        exfalso
        obtain ⟨_,_,h3,_⟩:=fY HT.out hq
        obtain ⟨d,hdd⟩:=Lib.digit_of_decFrom _ _ _ h3 k s[k] (List.getElem?_eq_getElem (l:=bl s) hlt)
        have:=Lib.digitVal_eq hdd
        omega
      by_cases h48:s[k].toNat < 48
      ·have j1:(s[k].toNat:Int) < 48:=by omega
       clear hd
       go_wp2_with fail
       go_ret2
       exact ⟨by rw [HZ.out]; rfl,Below.refl _ _⟩
      ·have j1 : ¬ (s[k].toNat:Int) < 48:=by omega
       have j2:(57:Int) < (s[k].toNat:Int):=by omega
       clear hd h48
       go_wp2_with fail
       go_ret2
       exact ⟨by rw [HZ.out]; rfl,Below.refl _ _⟩
    ·obtain rfl:k=s.size:=by omega
     have HF:Hid (Lib.decFrom 0 (bl s)=some acc):=by
      have h1:=HD.out
      rw [List.take_of_length_le (by rw [ao]; exact Nat.le_refl _)] at h1; exact h1
     clear hlt HD
     have HNUM:Hid (∀ W:World,Calls Tryz.prog 71 #[O U ((acc:Int))] W fun e w'=>e=.returned (uk ⟨(Lib.itoa ((acc:Int))).toArray⟩)∧Below W.heap.size W w'):=fun W=>lg ((acc:Int)) W (by omega) (by omega)
     obtain ⟨nt,hnt⟩ : ∃ x:ByteArray,x=⟨(Lib.itoa ((acc:Int))).toArray⟩:=⟨_,rfl⟩
     have hbn:bl nt=Lib.itoa ((acc:Int)):=by rw [hnt,bK]
     rw [← hnt] at HNUM
     clear hnt
     have j7:IntKind.i64.wrap (-(acc:Int)) = -(acc:Int):=IntWalk.i64_in _ (by omega)
     have j8:True:=trivial
     by_cases hs:Lib.itoa ((acc:Int))=bl s
     ·have HZ:Hid (cj (bl s)=some ((acc:Int))):=lZ ⟨by omega,by omega⟩ hs
      have hb:(nt.toList == s.toList)=true:=by rw [gF,hbn,hs]; simp
      clear hs hbn
      go_wp2_with fail
      refine (HNUM.out _).mono ?_
      rintro e w1 ⟨rfl,hb1⟩
      go_wp2_with fail
      go_ret2
      exact ⟨by rw [HZ.out]; rfl,hb1⟩
     ·have HZ:Hid (cj (bl s)=none):=by
       cases hq:cj (bl s) with
       | none=>rfl
       | some n =>
        exfalso
        obtain ⟨_,_,h3,h4⟩:=fY HT.out hq
        rw [HF.out] at h3
        injection h3 with h3
        have h5:n=(acc:Int):=by rw [h4]; simp; omega
        rw [← h5] at hs
        exact hs (gK hq).2
      have hb:(nt.toList == s.toList)=false:=by rw [gF,hbn]; simp [hs]
      clear hs hbn
      go_wp2_with fail
      refine (HNUM.out _).mono ?_
      rintro e w1 ⟨rfl,hb1⟩
      go_wp2_with fail
      go_ret2
      exact ⟨by rw [HZ.out]; rfl,hb1⟩
  ·have HZ:Hid (cj (bl s)=none):=by
    cases hq:cj (bl s) with
    | none=>rfl
    | some n =>
     exfalso
     obtain ⟨h1,h2,_⟩:=fY hT hq
     rw [ao] at h1 h2
     exact hlen ⟨h1,h2⟩
   have hin:bU (s.size:Int) 1 6=false:=by
    rw [← Bool.not_eq_true,hE]; omega
   clear hlen
   go_wp2_with fail
   refine (aE _ _ _ _).mono ?_
   rintro e w' ⟨rfl,rfl⟩
   rw [hin]
   clear hin
   go_wp2_with fail
   go_ret2
   exact ⟨by rw [HZ.out]; rfl,Below.refl _ _⟩
theorem eK.con {w:World} {B:Nat} {x:aL} {l:Lg} {y:Oc} {v:Value} (h:eK w B x l y v):∃ X:aL,v=aD X l:=by
 rcases h with ⟨rfl,_⟩ | ⟨TA,tc,OA,oc,rfl,_,_⟩
 ·exact ⟨x,rfl⟩
 ·exact ⟨y.at TA tc OA oc,rfl⟩
def iS (w:World) (B g:Nat) (x:aL) (l:Lg) (y:Oc):Prop:=∃ X:aL,ah w g 42 [F X.TA X.t.length X.tc,F X.OA X.o.length X.oc,O U X.got,O U X.sold,O U X.missed,uk l.D,uk l.P,O U l.n]∧eK w B x l y (aD X l)
theorem iS.put {w:World} {B g:Nat} {x X:aL} {l:Lg} {y:Oc} {a0 a1 a2 a3 a4 a5 a6 a7:Value} (hL:ah w g 42 [a0,a1,a2,a3,a4,a5,a6,a7]) (h:eK w B x l y (aD X l)):iS ((((((((w.setCell ⟨g,0,none⟩ (F X.TA X.t.length X.tc)).setCell ⟨g,1,none⟩ (F X.OA X.o.length X.oc)).setCell ⟨g,2,none⟩ (O U X.got)).setCell ⟨g,3,none⟩ (O U X.sold)).setCell ⟨g,4,none⟩ (O U X.missed)).setCell ⟨g,5,none⟩ (uk l.D)).setCell ⟨g,6,none⟩ (uk l.P)).setCell ⟨g,7,none⟩ (O U l.n)) B g x l y:=by
 have gr:w.grownBy ((((((((w.setCell ⟨g,0,none⟩ (F X.TA X.t.length X.tc)).setCell ⟨g,1,none⟩ (F X.OA X.o.length X.oc)).setCell ⟨g,2,none⟩ (O U X.got)).setCell ⟨g,3,none⟩ (O U X.sold)).setCell ⟨g,4,none⟩ (O U X.missed)).setCell ⟨g,5,none⟩ (uk l.D)).setCell ⟨g,6,none⟩ (uk l.P)).setCell ⟨g,7,none⟩ (O U l.n)) (some g):=ab (g:=g) (i:=7) (u:=O U l.n) (ab (g:=g) (i:=6) (u:=uk l.P) (ab (g:=g) (i:=5) (u:=uk l.D) (ab (g:=g) (i:=4) (u:=O U X.missed) (ab (g:=g) (i:=3) (u:=O U X.sold) (ab (g:=g) (i:=2) (u:=O U X.got) (ab (g:=g) (i:=1) (u:=F X.OA X.o.length X.oc) (ab (g:=g) (i:=0) (u:=F X.TA X.t.length X.tc) (World.grownBy.refl w (some g)))))))))
 exact ⟨X,oo (hL) (F X.TA X.t.length X.tc) (F X.OA X.o.length X.oc) (O U X.got) (O U X.sold) (O U X.missed) (uk l.D) (uk l.P) (O U l.n),h.kept hL gr⟩
theorem eK.put {w:World} {B g:Nat} {x X:aL} {l:Lg} {y:Oc} {v:Value} {a0 a1 a2 a3 a4 a5 a6 a7:Value} (hL:ah w g 42 [a0,a1,a2,a3,a4,a5,a6,a7]) (h:eK w B x l y v):eK ((((((((w.setCell ⟨g,0,none⟩ (F X.TA X.t.length X.tc)).setCell ⟨g,1,none⟩ (F X.OA X.o.length X.oc)).setCell ⟨g,2,none⟩ (O U X.got)).setCell ⟨g,3,none⟩ (O U X.sold)).setCell ⟨g,4,none⟩ (O U X.missed)).setCell ⟨g,5,none⟩ (uk l.D)).setCell ⟨g,6,none⟩ (uk l.P)).setCell ⟨g,7,none⟩ (O U l.n)) B x l y v:=by
 have gr:w.grownBy ((((((((w.setCell ⟨g,0,none⟩ (F X.TA X.t.length X.tc)).setCell ⟨g,1,none⟩ (F X.OA X.o.length X.oc)).setCell ⟨g,2,none⟩ (O U X.got)).setCell ⟨g,3,none⟩ (O U X.sold)).setCell ⟨g,4,none⟩ (O U X.missed)).setCell ⟨g,5,none⟩ (uk l.D)).setCell ⟨g,6,none⟩ (uk l.P)).setCell ⟨g,7,none⟩ (O U l.n)) (some g):=ab (g:=g) (i:=7) (u:=O U l.n) (ab (g:=g) (i:=6) (u:=uk l.P) (ab (g:=g) (i:=5) (u:=uk l.D) (ab (g:=g) (i:=4) (u:=O U X.missed) (ab (g:=g) (i:=3) (u:=O U X.sold) (ab (g:=g) (i:=2) (u:=O U X.got) (ab (g:=g) (i:=1) (u:=F X.OA X.o.length X.oc) (ab (g:=g) (i:=0) (u:=F X.TA X.t.length X.tc) (World.grownBy.refl w (some g)))))))))
 exact h.kept hL gr
theorem lh (s:ByteArray) (w:World) (hs:s.size≤1000000000):Calls Tryz.prog 85 #[uk s] w (iu s w):=by
 have hc:=fun W=>qy s W hs
 obtain ⟨v,hv⟩ : ∃ v,(cj (bl s)).getD 0=v:=⟨_,rfl⟩
 obtain ⟨b,hb⟩ : ∃ b,(cj (bl s)).isSome=b:=⟨_,rfl⟩
 unfold iu at hc ⊢
 rw [hv,hb] at hc ⊢
 clear hv hb
 go_enter Tryz.func85,Tryz.ntmps85
 go_wp2_with fail
 refine (hc _).mono ?_
 rintro e w1 ⟨rfl,hb⟩
 go_wp2
 go_ret2
 exact ⟨rfl,hb⟩
structure s6 (w wx:World) (g8:Nat) (ps:List (List UInt8)) (rest:List Value) (v:Value) (m:List Int):Prop where
 bl:Below w.heap.size w wx
 ws:ah wx g8 9 (dn ps++rest)
 row:wx.ownsRow w.heap.size 3 1 v m.length (bn m)
theorem s6.then {w wx wy:World} {g8:Nat} {ps:List (List UInt8)} {rest:List Value} {v:Value} {m:List Int} (S:s6 w wx g8 ps rest v m) (hb:Below wx.heap.size wx wy):s6 w wy g8 ps rest v m :=
 ⟨aq S.bl hb,S.ws.below hb S.ws.lt,ac S.row hb⟩
theorem s6.push {w wx wz:World} {g8:Nat} {ps:List (List UInt8)} {rest:List Value} {v v' : Value} {m:List Int} {n:Int} (S:s6 w wx g8 ps rest v m)
  (ho:wz.ownsRow w.heap.size 3 1 v' (m.length+1) (bn m++[O U n])) (hg:wx.grownBy wz v.ownBlock) (hb2:Below w.heap.size wx wz):s6 w wz g8 ps rest v' (m++[n]) :=
 ⟨S.bl.trans hb2,S.ws.kept hg (dB S.row S.ws (by decide)),by simpa using ho⟩
theorem pz {x:aL} {line:ByteArray} (h:dj ((aH 32 (bl line)).drop 1)=none):iq x line=none:=by unfold iq; rw [h]; rfl
theorem pA {x:aL} {line:ByteArray} {ns:List Int} (h:dj ((aH 32 (bl line)).drop 1)=some ns):iq x line=br x (wd (bl line) 0) ns:=by unfold iq; rw [h]; rfl
theorem mO {x:aL} {w0:ByteArray} {ns:List Int} (h:ns.length=0):br x w0 ns=(cJ x w0).map (x.c,·):=by
 match ns,h with
 | [],_=>rfl
theorem q8 {x:aL} {w0:ByteArray} {ns:List Int} (h:ns.length=1) (h0:0 < ns.length):br x w0 ns=(gC x w0 ns[0]).map (x.c,·):=by
 match ns,h with
 | [a],_=>rfl
theorem tL {x:aL} {w0:ByteArray} {ns:List Int} (h:ns.length=2) (h0:0 < ns.length) (h1:1 < ns.length):br x w0 ns=(cg w0 ns[0] ns[1]).bind (bJ x):=by
 match ns,h with
 | [a,b],_=>rfl
theorem r5 {x:aL} {w0:ByteArray} {ns:List Int} (h:ns.length=3) (h0:0 < ns.length) (h1:1 < ns.length) (h2:2 < ns.length):br x w0 ns=(cr w0 ns[0] ns[1] ns[2]).bind (bJ x):=by
 match ns,h with
 | [a,b,c],_=>rfl
theorem pB {x:aL} {w0:ByteArray} {ns:List Int} (h:4≤ns.length):br x w0 ns=none:=by
 match ns,h with
 | a :: b :: c :: d :: l,_=>rfl
theorem kx {x:aL} (R:Option ByteArray):eM x (R.map (x.c,·))=x.c:=by cases R <;> rfl
theorem pC {x:aL} (R:Option ByteArray):iO (R.map (x.c,·))=R.getD ch:=by cases R <;> rfl
set_option maxRecDepth 100000 in
set_option maxHeartbeats 4000000 in
theorem qz (x:aL) (l:Lg) (s:ByteArray) (a b:Int) (w:World) (h:aM w w.heap.size x) (hcap:x.t.length≤x.tc) :
  Calls Tryz.prog 88 #[aD x l,uk s,O U a,O U b] w (bg w x l ((cg s a b).bind (bJ x))):=by
 have L1:=(ah.new w 42 #[F x.TA x.t.length x.tc,F x.OA x.o.length x.oc,O U x.got,O U x.sold,O U x.missed,uk l.D,uk l.P,O U l.n]).alloc (.cells #[F none 0 0,F none 0 0,O U 0,O U 0,O U 0,uk ⟨#[]⟩,uk ⟨#[]⟩,O U 0] 42)
 have L2:=ah.new1 w (.cells #[F x.TA x.t.length x.tc,F x.OA x.o.length x.oc,O U x.got,O U x.sold,O U x.missed,uk l.D,uk l.P,O U l.n] 42) 42 #[F none 0 0,F none 0 0,O U 0,O U 0,O U 0,uk ⟨#[]⟩,uk ⟨#[]⟩,O U 0]
 have b1:=(Below.refl w.heap.size w).alloc (Nat.le_refl _) (.cells #[F x.TA x.t.length x.tc,F x.OA x.o.length x.oc,O U x.got,O U x.sold,O U x.missed,uk l.D,uk l.P,O U l.n] 42)
 have b2:=b1.alloc b1.size (.cells #[F none 0 0,F none 0 0,O U 0,O U 0,O U 0,uk ⟨#[]⟩,uk ⟨#[]⟩,O U 0] 42)
 have hW:=h.up b2 (Nat.le_refl _)
 have hge:w.heap.size≤w.heap.size+1:=by omega
 clear b1
 by_cases h0:s=⟨#[103,101,116]⟩
 ·subst h0
  have HR:(cg ⟨#[103,101,116]⟩ a b).bind (bJ x)=bJ x ⟨1,a,0,b⟩:=by unfold cg; rw [if_pos rfl]; rfl
  rw [HR]
  clear HR
  have hc:=fun W hW=>fc x l ⟨1,a,0,b⟩ W hW hcap
  obtain ⟨R,hR⟩ : ∃ R,bJ x ⟨1,a,0,b⟩=R:=⟨_,rfl⟩
  rw [hR] at hc ⊢
  clear hR
  obtain ⟨T,hT⟩ : ∃ T,iO R=T:=⟨_,rfl⟩
  unfold bg at hc
  rw [hT] at hc
  go_enter Tryz.func88,Tryz.ntmps88
  go_upto_region 3 with fail
  generalize ((w.alloc (.cells #[F x.TA x.t.length x.tc,F x.OA x.o.length x.oc,O U x.got,O U x.sold,O U x.missed,uk l.D,uk l.P,O U l.n] 42)).alloc (.cells #[F none 0 0,F none 0 0,O U 0,O U 0,O U 0,uk ⟨#[]⟩,uk ⟨#[]⟩,O U 0] 42))=W at L1 L2 b2 hW ⊢
  obtain ⟨c0,c1,c2,c3,c4,c5,c6,c7⟩:=cells8 L1
  go_wp2_with fail
  refine (hc W hW).mono ?_
  rintro e W1 ⟨v,rfl,hv,hb⟩
  obtain ⟨X,rfl⟩:=hv.con
  have K2:=L2.below hb L2.lt
  have b3:=b2.trans (hb.mono (b2).size)
  have hv2:=hv.lower (b2).size
  obtain ⟨z0,z1,z2,z3,z4,z5,z6,z7⟩:=cells8 K2
  obtain ⟨f0,f1,f2,f3,f4,f5,f6,f7⟩:=frz8 K2
  have hN8:=Lib.hid (eK.put (X:=X) K2 hv2)
  have hD8:=Lib.hid (dY (g:=w.heap.size+1) (b3) hge (F X.TA X.t.length X.tc) (F X.OA X.o.length X.oc) (O U X.got) (O U X.sold) (O U X.missed) (uk l.D) (uk l.P) (O U l.n))
  clear K2 b3 hv hv2 hb c0 c1 c2 c3 c4 c5 c6 c7
  go_wp2_with fail
  refine bodyPost_ret (v:=.tuple #[aD X l,uk T]) (by simp [results,Tryz.results88,go_sem, *]) rfl (bg.mk hT hN8.out hD8.out)
 have f0:(s.toList == [103,101,116])=false:=bC h0
 by_cases h1:s=⟨#[109,105,115,115]⟩
 ·subst h1
  have HR:(cg ⟨#[109,105,115,115]⟩ a b).bind (bJ x)=bJ x ⟨5,a,b,0⟩:=by unfold cg; rw [if_neg (by decide),if_pos rfl]; rfl
  rw [HR]
  clear HR
  have hc:=fun W hW=>fc x l ⟨5,a,b,0⟩ W hW hcap
  obtain ⟨R,hR⟩ : ∃ R,bJ x ⟨5,a,b,0⟩=R:=⟨_,rfl⟩
  rw [hR] at hc ⊢
  clear hR
  obtain ⟨T,hT⟩ : ∃ T,iO R=T:=⟨_,rfl⟩
  unfold bg at hc
  rw [hT] at hc
  go_enter Tryz.func88,Tryz.ntmps88
  go_upto_region 5 with fail
  generalize ((w.alloc (.cells #[F x.TA x.t.length x.tc,F x.OA x.o.length x.oc,O U x.got,O U x.sold,O U x.missed,uk l.D,uk l.P,O U l.n] 42)).alloc (.cells #[F none 0 0,F none 0 0,O U 0,O U 0,O U 0,uk ⟨#[]⟩,uk ⟨#[]⟩,O U 0] 42))=W at L1 L2 b2 hW ⊢
  obtain ⟨c0,c1,c2,c3,c4,c5,c6,c7⟩:=cells8 L1
  go_wp2_with fail
  refine (hc W hW).mono ?_
  rintro e W1 ⟨v,rfl,hv,hb⟩
  obtain ⟨X,rfl⟩:=hv.con
  have K2:=L2.below hb L2.lt
  have b3:=b2.trans (hb.mono (b2).size)
  have hv2:=hv.lower (b2).size
  obtain ⟨z0,z1,z2,z3,z4,z5,z6,z7⟩:=cells8 K2
  obtain ⟨f0,f1,f2,f3,f4,f5,f6,f7⟩:=frz8 K2
  have hN8:=Lib.hid (eK.put (X:=X) K2 hv2)
  have hD8:=Lib.hid (dY (g:=w.heap.size+1) (b3) hge (F X.TA X.t.length X.tc) (F X.OA X.o.length X.oc) (O U X.got) (O U X.sold) (O U X.missed) (uk l.D) (uk l.P) (O U l.n))
  clear K2 b3 hv hv2 hb c0 c1 c2 c3 c4 c5 c6 c7
  go_wp2_with fail
  refine bodyPost_ret (v:=.tuple #[aD X l,uk T]) (by simp [results,Tryz.results88,go_sem, *]) rfl (bg.mk hT hN8.out hD8.out)
 have f1:(s.toList == [109,105,115,115])=false:=bC h1
 have HR:Hid ((cg s a b).bind (bJ x)=none):=by unfold Hid cg; rw [if_neg h0,if_neg h1]; rfl
 clear h0 h1
 go_enter Tryz.func88,Tryz.ntmps88
 go_upto_region 6 with fail
 generalize ((w.alloc (.cells #[F x.TA x.t.length x.tc,F x.OA x.o.length x.oc,O U x.got,O U x.sold,O U x.missed,uk l.D,uk l.P,O U l.n] 42)).alloc (.cells #[F none 0 0,F none 0 0,O U 0,O U 0,O U 0,uk ⟨#[]⟩,uk ⟨#[]⟩,O U 0] 42))=W at L1 L2 b2 hW ⊢
 obtain ⟨c0,c1,c2,c3,c4,c5,c6,c7⟩:=cells8 L1
 obtain ⟨z0,z1,z2,z3,z4,z5,z6,z7⟩:=cells8 L2
 obtain ⟨f0,f1,f2,f3,f4,f5,f6,f7⟩:=frz8 L2
 have bz:=Lib.hid (dY (g:=w.heap.size+1) (b2) hge (F x.TA x.t.length x.tc) (F x.OA x.o.length x.oc) (O U x.got) (O U x.sold) (O U x.missed) (uk l.D) (uk l.P) (O U l.n))
 clear L1 L2 b2 hW
 go_wp2
 refine bodyPost_ret (v:=.tuple #[aD x l,uk ⟨#[63]⟩]) (by simp [results,Tryz.results88,go_sem, *]) rfl (by rw [HR.out]; exact ⟨_,rfl,.inl ⟨rfl,rfl⟩,bz.out⟩)
end Go.Proofs.YtoeoimhemojdeaaGreatDoor
