/- Lemmas. -/
import Derived.Deep.DeepCutAuto
import Derived.Lib.AtoiErrMem
import Derived.Lib.Split
import Derived.Lib.CountLaws
import Derived.Test.YtoeoimhemojdeaaGreatDoorFs33
import Derived.Test.YtoeoimhemojdeaaGreatDoorFs35

set_option linter.unusedVariables false
set_option linter.unusedSimpArgs false
set_option maxHeartbeats 8000000
open Go.Value renaming int → O, slice → F, string → wG
open Go.IntKind renaming i64 → U
open Go.Proofs.Tryz renaming prog → wH

namespace Go.Proofs.YtoeoimhemojdeaaGreatDoor
open Go.RowKit
def fE (w:World) (B:Nat) (x:aO) (l:Lg) (y:Oc) (v:Value):Prop :=
 (v=aJ x l∧y=x.c) ∨ ∃ TA tc OA oc,v=aJ (y.at TA tc OA oc) l∧w.ownsRow B 104 2 (F TA y.t.length tc) y.t.length (y.t.flatMap aq.enc)∧w.ownsRow B 147 3 (F OA y.o.length oc) y.o.length (y.o.flatMap ae.enc)
theorem fE.below {w w' : World} {B:Nat} {x:aO} {l:Lg} {y:Oc} {v:Value} (h:fE w B x l y v) (hb:Below w.heap.size w w'):fE w' B x l y v:=by
 rcases h with h | ⟨TA,tc,OA,oc,e,h1,h2⟩
 ·exact .inl h
 ·exact .inr ⟨TA,tc,OA,oc,e,ac h1 hb,ac h2 hb⟩
theorem fE.lower {w:World} {B B' : Nat} {x:aO} {l:Lg} {y:Oc} {v:Value} (h:fE w B x l y v) (hB:B'≤B):fE w B' x l y v:=by
 rcases h with h | ⟨TA,tc,OA,oc,e,h1,h2⟩
 ·exact .inl h
 ·exact .inr ⟨TA,tc,OA,oc,e,ah h1 hB,ah h2 hB⟩
theorem fE.kept {w w' : World} {B g:Nat} {x:aO} {l:Lg} {y:Oc} {v:Value} {cs:List Value} (h:fE w B x l y v) (hL:ai w g 42 cs) (hg:w.grownBy w' (some g)):fE w' B x l y v:=by
 rcases h with h | ⟨TA,tc,OA,oc,e,h1,h2⟩
 ·exact .inl h
 ·exact .inr ⟨TA,tc,OA,oc,e,ak h1 hL fj hg,ak h2 hL fk hg⟩
theorem fE.as {w:World} {B:Nat} {x:aO} {l:Lg} {y:Oc} {v:Value} (h:fE w B x l y v) (hx:aQ w w.heap.size x):∃ X:aO,v=aJ X l∧X.c=y∧aQ w w.heap.size X:=by
 rcases h with ⟨rfl,rfl⟩ | ⟨TA,tc,OA,oc,rfl,h1,h2⟩
 ·exact ⟨x,rfl,rfl,hx⟩
 ·exact ⟨y.at TA tc OA oc,rfl,rfl,aw h1,aw h2⟩
def fF (x:aO) (R:Option (Oc × ByteArray)):Oc:=(R.map Prod.fst).getD x.c
def jN (R:Option (Oc × ByteArray)):ByteArray:=(R.map Prod.snd).getD da
def bu (w:World) (x:aO) (l:Lg) (R:Option (Oc × ByteArray)) (e:Ending) (w' : World):Prop :=
 ∃ v,e=.returned (.tuple #[v,wG (jN R)])∧fE w' w.heap.size x l (fF x R) v∧Below w.heap.size w w'
theorem bu.mk {w w' : World} {x:aO} {l:Lg} {R:Option (Oc × ByteArray)} {v:Value} {T:ByteArray} (hT:jN R=T) (h1:fE w' w.heap.size x l (fF x R) v) (h2:Below w.heap.size w w'):bu w x l R (.returned (.tuple #[v,wG T])) w':=by
 subst hT; exact ⟨v,rfl,h1,h2⟩
theorem jn (x:aO) (s:df) (w:World) (h:aQ w w.heap.size x) (wX:x.t.length≤x.tc):Calls wH 76 #[x.val,s.val] w (aF w (gq x.c s)):=jx x s w h wX
set_option maxRecDepth 100000 in
theorem uo (x:aO) (l:Lg) (kd st pe va:Int) (w:World) (h:aQ w w.heap.size x) (wX:x.t.length≤x.tc) (hN:gq x.c ⟨kd,st,pe,va⟩=none) :
  Calls wH 89 #[aJ x l,.agg #[O U kd,O U st,O U pe,O U va]] w (bu w x l none):=by
 have L1:=((ai.new w 42 #[F x.TA x.t.length x.tc,F x.OA x.o.length x.oc,O U x.gt,O U x.sd,O U x.ms,wG l.D,wG l.P,O U l.n]).alloc (.cells #[O U kd,O U st,O U pe,O U va] 112)).alloc (.cells #[F none 0 0,F none 0 0,O U 0,O U 0,O U 0,wG ⟨#[]⟩,wG ⟨#[]⟩,O U 0] 42)
 have L2:=(ai.new1 w (.cells #[F x.TA x.t.length x.tc,F x.OA x.o.length x.oc,O U x.gt,O U x.sd,O U x.ms,wG l.D,wG l.P,O U l.n] 42) 112 #[O U kd,O U st,O U pe,O U va]).alloc (.cells #[F none 0 0,F none 0 0,O U 0,O U 0,O U 0,wG ⟨#[]⟩,wG ⟨#[]⟩,O U 0] 42)
 have L3:=ai.new2 w (.cells #[F x.TA x.t.length x.tc,F x.OA x.o.length x.oc,O U x.gt,O U x.sd,O U x.ms,wG l.D,wG l.P,O U l.n] 42) (.cells #[O U kd,O U st,O U pe,O U va] 112) 42 #[F none 0 0,F none 0 0,O U 0,O U 0,O U 0,wG ⟨#[]⟩,wG ⟨#[]⟩,O U 0]
 have b1:=bZ w (.cells #[F x.TA x.t.length x.tc,F x.OA x.o.length x.oc,O U x.gt,O U x.sd,O U x.ms,wG l.D,wG l.P,O U l.n] 42)
 have b2:=b1.alloc b1.size (.cells #[O U kd,O U st,O U pe,O U va] 112)
 have b3:=b2.alloc b2.size (.cells #[F none 0 0,F none 0 0,O U 0,O U 0,O U 0,wG ⟨#[]⟩,wG ⟨#[]⟩,O U 0] 42)
 have hW:=h.up b3 nR
 have xq:w.heap.size≤w.heap.size+1+1:=oM
 clear b1 b2 h
 have cS:=fun W hR=>jn x ⟨kd,st,pe,va⟩ W hR wX
 rw [hN] at cS
 clear hN
 go_enter Tryz.func89,Tryz.ntmps89
 go_wp2_with fail
 generalize (((w.alloc (.cells #[F x.TA x.t.length x.tc,F x.OA x.o.length x.oc,O U x.gt,O U x.sd,O U x.ms,wG l.D,wG l.P,O U l.n] 42)).alloc (.cells #[O U kd,O U st,O U pe,O U va] 112)).alloc (.cells #[F none 0 0,F none 0 0,O U 0,O U 0,O U 0,wG ⟨#[]⟩,wG ⟨#[]⟩,O U 0] 42))=W at L1 L2 L3 b3 hW ⊢
 refine (cS W hW).mono ?_
 rintro e W1 ⟨TA,tc,OA,oc,rfl,hT,hO,hb⟩
 simp only [cU,Option.getD_none,Option.isSome_none,Oc.at,aO.val,Oc.zero,List.length_nil]
 have wO:=(Below.refl W1.heap.size W1).alloc nR (.cells #[F TA 0 tc,F OA 0 oc,O U 0,O U 0,O U 0] 40)
 have wM:=av hb wO
 have K1:=L1.below wM L1.lt
 have K3:=L3.below wM L3.lt
 have b4:=av b3 wM
 clear wO hb wM L1 L2 L3 b3 hT hO hW
 obtain ⟨c0,c1,c2,c3,c4,c5,c6,c7⟩:=cells8 K1
 obtain ⟨z0,z1,z2,z3,z4,z5,z6,z7⟩:=cells8 K3
 obtain ⟨f0,f1,f2,f3,f4,f5,f6,f7⟩:=frz8 K3
 have bz:=jZ (eX (g:=w.heap.size+1+1) (b4) xq (F x.TA x.t.length x.tc) (F x.OA x.o.length x.oc) (O U x.gt) (O U x.sd) (O U x.ms) (wG l.D) (wG l.P) (O U l.n))
 clear K1 K3 b4
 go_wp2
 refine bodyPost_ret (v:=.tuple #[aJ x l,wG ⟨#[63]⟩]) (by simp [results,Tryz.results89,go_sem, *]) rfl ?_
 exact ⟨_,rfl,.inl ⟨rfl,rfl⟩,bz.out⟩
set_option maxRecDepth 100000 in
theorem vp (x:aO) (l:Lg) (st pe va:Int) (w:World) (h:aQ w w.heap.size x) (wX:x.t.length≤x.tc) (z:Oc) (hN:gq x.c ⟨1,st,pe,va⟩=some z) :
  Calls wH 89 #[aJ x l,.agg #[O U 1,O U st,O U pe,O U va]] w (bu w x l (some (z,bM (cJ z.t)))):=by
 have L1:=((ai.new w 42 #[F x.TA x.t.length x.tc,F x.OA x.o.length x.oc,O U x.gt,O U x.sd,O U x.ms,wG l.D,wG l.P,O U l.n]).alloc (.cells #[O U 1,O U st,O U pe,O U va] 112)).alloc (.cells #[F none 0 0,F none 0 0,O U 0,O U 0,O U 0,wG ⟨#[]⟩,wG ⟨#[]⟩,O U 0] 42)
 have L2:=(ai.new1 w (.cells #[F x.TA x.t.length x.tc,F x.OA x.o.length x.oc,O U x.gt,O U x.sd,O U x.ms,wG l.D,wG l.P,O U l.n] 42) 112 #[O U 1,O U st,O U pe,O U va]).alloc (.cells #[F none 0 0,F none 0 0,O U 0,O U 0,O U 0,wG ⟨#[]⟩,wG ⟨#[]⟩,O U 0] 42)
 have L3:=ai.new2 w (.cells #[F x.TA x.t.length x.tc,F x.OA x.o.length x.oc,O U x.gt,O U x.sd,O U x.ms,wG l.D,wG l.P,O U l.n] 42) (.cells #[O U 1,O U st,O U pe,O U va] 112) 42 #[F none 0 0,F none 0 0,O U 0,O U 0,O U 0,wG ⟨#[]⟩,wG ⟨#[]⟩,O U 0]
 have b1:=bZ w (.cells #[F x.TA x.t.length x.tc,F x.OA x.o.length x.oc,O U x.gt,O U x.sd,O U x.ms,wG l.D,wG l.P,O U l.n] 42)
 have b2:=b1.alloc b1.size (.cells #[O U 1,O U st,O U pe,O U va] 112)
 have b3:=b2.alloc b2.size (.cells #[F none 0 0,F none 0 0,O U 0,O U 0,O U 0,wG ⟨#[]⟩,wG ⟨#[]⟩,O U 0] 42)
 have hW:=h.up b3 nR
 have xq:w.heap.size≤w.heap.size+1+1:=oM
 clear b1 b2 h
 have cS:=fun W hR=>jn x ⟨1,st,pe,va⟩ W hR wX
 have hz:=fH hN
 rw [hN] at cS
 clear hN
 have GZ:bK (z.at none 0 none 0):=br.1 hz.1
 have HT:Hid (jN (some (z,bM (cJ z.t)))=bM (cJ z.t)):=rfl
 go_enter Tryz.func89,Tryz.ntmps89
 go_wp2_with fail
 generalize (((w.alloc (.cells #[F x.TA x.t.length x.tc,F x.OA x.o.length x.oc,O U x.gt,O U x.sd,O U x.ms,wG l.D,wG l.P,O U l.n] 42)).alloc (.cells #[O U 1,O U st,O U pe,O U va] 112)).alloc (.cells #[F none 0 0,F none 0 0,O U 0,O U 0,O U 0,wG ⟨#[]⟩,wG ⟨#[]⟩,O U 0] 42))=W at L1 L2 L3 b3 hW ⊢
 refine (cS W hW).mono ?_
 rintro e W1 ⟨TA,tc,OA,oc,rfl,hT,hO,hb⟩
 simp only [cU,Option.getD_some,Option.isSome_some,Oc.at,aO.val] at hT hO ⊢
 go_upto_region 4 with fail
 have wO:=(Below.refl W1.heap.size W1).alloc nR (.cells #[F TA z.t.length tc,F OA z.o.length oc,O U z.gt,O U z.sd,O U z.ms] 40)
 have wM:=av hb wO
 have J1:=L1.below wM L1.lt
 have J2:=L2.below wM L2.lt
 have J3:=L3.below wM L3.lt
 have J6:=ai.new W1 40 #[F TA z.t.length tc,F OA z.o.length oc,O U z.gt,O U z.sd,O U z.ms]
 have b4:=av b3 wM
 have yp:=ah (ac hT wO) b3.size
 have yq:=ah (ac hO wO) b3.size
 have g26:w.heap.size+1+1 < W1.heap.size:=jL L3.lt hb.size
 clear wO wM hb hT hO L1 L2 L3 b3
 generalize W1.alloc (.cells #[F TA z.t.length tc,F OA z.o.length oc,O U z.gt,O U z.sd,O U z.ms] 40)=W2 at J1 J2 J3 J6 b4 yp yq ⊢
 generalize W1.heap.size=g6 at J6 g26 ⊢
 obtain ⟨c0,c1,c2,c3,c4,c5,c6,c7⟩:=cells8 J1
 go_upto_region 5 with fail
 clear c0 c1 c2 c3 c4 c5 c6 c7
 have wO:=(Below.refl W2.heap.size W2).alloc nR (.cells #[F x.TA x.t.length x.tc,F x.OA x.o.length x.oc,O U x.gt,O U x.sd,O U x.ms,wG l.D,wG l.P,O U l.n] 42)
 have K1:=J1.below wO J1.lt
 have K2:=J2.below wO J2.lt
 have K3:=J3.below wO J3.lt
 have K6:=J6.below wO J6.lt
 have K8:=ai.new W2 42 #[F x.TA x.t.length x.tc,F x.OA x.o.length x.oc,O U x.gt,O U x.sd,O U x.ms,wG l.D,wG l.P,O U l.n]
 have b5:=b4.trans (wO.mono b4.size)
 have Bw:=ac yp wO
 have Bx:=ac yq wO
 have g68:g6 < W2.heap.size:=J6.lt
 clear wO J1 J2 J3 J6 b4 yp yq
 generalize W2.alloc (.cells #[F x.TA x.t.length x.tc,F x.OA x.o.length x.oc,O U x.gt,O U x.sd,O U x.ms,wG l.D,wG l.P,O U l.n] 42)=W3 at K1 K2 K3 K6 K8 b5 Bw Bx ⊢
 generalize W2.heap.size=g8 at K8 g68 ⊢
 have xu:w.heap.size≤g8:=oM
 obtain ⟨p0,p1,p2,p3,p4⟩:=cells5 K6
 obtain ⟨q0,q1,q2,q3,q4,q5,q6,q7⟩:=cells8 K8
 obtain ⟨f0,f1,f2,f3,f4,f5,f6,f7⟩:=frz8 K8
 go_upto_region 6 with fail
 obtain ⟨W4,Dj,M8,b6,gr,OT⟩:=ja K8 b5 xu (F TA z.t.length tc) (F OA z.o.length oc) (O U z.gt) (O U z.sd) (O U z.ms)
 have M1:=OT _ _ _ oM K1
 have M2:=OT _ _ _ oM K2
 have M3:=OT _ _ _ oM K3
 have M6:=OT _ _ _ oM K6
 have hT:=ak Bw K8 fj gr
 have hO:=ak Bx K8 fk gr
 clear p0 p1 p2 p3 p4 q0 q1 q2 q3 q4 q5 q6 q7 f0 f1 f2 f3 f4 K1 K2 K3 K6 K8 Bw Bx b5 gr OT
 rw [Dj.out]
 clear Dj
 have Bm:aQ W4 W4.heap.size (z.at TA tc OA oc):=⟨aw hT,aw hO⟩
 obtain ⟨s0,s1,s2,s3⟩:=cells4 M2
 obtain ⟨p0,p1,p2,p3,p4⟩:=cells5 M6
 have hs:=jd (z.at TA tc OA oc) W4 Bm
 rw [show ao (z.at TA tc OA oc)=true from hz.1] at hs
 simp only [uI,if_true] at hs
 have hn:=fun W=>gK (cJ z.t) true W (fun _=>⟨GZ.inB.1,by have:=GZ.inB.2; have e:(z.at none 0 none 0).t=z.t:=rfl; rw [e] at this; omega⟩)
 simp only [if_true] at hn
 go_wp2_with fail
 refine hs.mono ?_
 rintro e W5 ⟨rfl,hb5⟩
 have N3:=M3.below hb5 M3.lt
 have N8:=M8.below hb5 M8.lt
 have b7:=b6.trans (hb5.mono b6.size)
 have xN:=ac hT hb5
 have x9:=ac hO hb5
 clear s0 s1 s2 s3 p0 p1 p2 p3 p4 hs M1 M2 M3 M6 M8 b6 hT hO Bm hb5
 go_wp2_with fail
 refine al (Sw 4 (fun W9=>Below W5.heap.size W5 W9) (fun W9=>Below w.heap.size w W9∧dr W9 w.heap.size (w.heap.size+1+1) z l)) (fun i w1 w2=>i ∉ [4]→Below w1.heap.size w1 w2) kZ kZ kZ (Sw.start jB.drew) ?_
 simp only [ax,Act.put,sA,gs0,gs1,Nat.zero_add,Nat.reduceAdd]
 refine aa _ (vb0C8 N8) ?_
 refine aa _ vb0 ?_
 refine aa _ vb0 ?_
 refine aa (wG (bM (cJ z.t))) (fun vs L9 w9 wK wI hB K9 wJ=>?_) ?_
 next =>
  replace wI:=sb wI wK
  have d1:=fe hB 1
  have d2:=fe hB 2
  simp only [d1,d2] at wJ ⊢
  go_simp
  refine (hn w9).mono ?_
  rintro en w8 ⟨rfl,wL⟩
  exact wJ _ _ rfl (Sw.stay wK kZ dD (wI.trans (wL.mono wI.size))) (fun _=>wL)
 refine aa (undef) (fun vs L9 w9 wK wI hB K9 wJ=>?_) ?_
 next =>
  replace wI:=wI.here wK
  have d0:=fe hB 0
  simp only [d0] at wJ ⊢
  have Lr:=N3.below wI N3.lt
  obtain ⟨z0,z1,z2,z3,z4,z5,z6,z7⟩:=cells8 Lr
  obtain ⟨f0,f1,f2,f3,f4,f5,f6,f7⟩:=frz8 Lr
  have xo:=jZ (dr.put (y:=z) (l:=l) Lr (ac xN wI) (ac x9 wI))
  have xK:=jZ (eX (g:=(w.heap.size+1+1)) ((b7).trans (wI.mono (b7).size)) xq (F TA z.t.length tc) (F OA z.o.length oc) (O U z.gt) (O U z.sd) (O U z.ms) (wG l.D) (wG l.P) (O U l.n))
  clear Lr
  go_simp
  exact wJ _ _ rfl (Sw.turn ⟨xK.out,xo.out⟩) nq
 refine aa _ (va1 3) ?_
 refine ar fun vs L9 w9 wS wI hB=>?_
 replace wI:=wI.done wS dD
 have dl:=ag.eq (hB 5 _ rfl rfl dD)
 simp only [dl]
 clear hB dl
 obtain ⟨hD,TB,tb,OB,ob,hN,xj,xM⟩:=wI
 obtain ⟨k0,k1,k2,k3,k4,k5,k6,k7⟩:=cells8 hN
 clear hN
 go_wp2
 refine bodyPost_ret (v:=.tuple #[.agg #[F TB z.t.length tb,F OB z.o.length ob,O U z.gt,O U z.sd,O U z.ms,wG l.D,wG l.P,O U l.n],wG (bM (cJ z.t))]) (by simp [results,Tryz.results89,go_sem, *]) rfl (bu.mk HT.out (.inr ⟨TB,tb,OB,ob,rfl,xj,xM⟩) hD)
set_option maxRecDepth 100000 in
theorem uq (x:aO) (l:Lg) (st pe va:Int) (w:World) (h:aQ w w.heap.size x) (wX:x.t.length≤x.tc) (z:Oc) (hN:gq x.c ⟨4,st,pe,va⟩=some z) :
  Calls wH 89 #[aJ x l,.agg #[O U 4,O U st,O U pe,O U va]] w (bu w x l (some (z,bM z.sd))):=by
 have L1:=((ai.new w 42 #[F x.TA x.t.length x.tc,F x.OA x.o.length x.oc,O U x.gt,O U x.sd,O U x.ms,wG l.D,wG l.P,O U l.n]).alloc (.cells #[O U 4,O U st,O U pe,O U va] 112)).alloc (.cells #[F none 0 0,F none 0 0,O U 0,O U 0,O U 0,wG ⟨#[]⟩,wG ⟨#[]⟩,O U 0] 42)
 have L2:=(ai.new1 w (.cells #[F x.TA x.t.length x.tc,F x.OA x.o.length x.oc,O U x.gt,O U x.sd,O U x.ms,wG l.D,wG l.P,O U l.n] 42) 112 #[O U 4,O U st,O U pe,O U va]).alloc (.cells #[F none 0 0,F none 0 0,O U 0,O U 0,O U 0,wG ⟨#[]⟩,wG ⟨#[]⟩,O U 0] 42)
 have L3:=ai.new2 w (.cells #[F x.TA x.t.length x.tc,F x.OA x.o.length x.oc,O U x.gt,O U x.sd,O U x.ms,wG l.D,wG l.P,O U l.n] 42) (.cells #[O U 4,O U st,O U pe,O U va] 112) 42 #[F none 0 0,F none 0 0,O U 0,O U 0,O U 0,wG ⟨#[]⟩,wG ⟨#[]⟩,O U 0]
 have b1:=bZ w (.cells #[F x.TA x.t.length x.tc,F x.OA x.o.length x.oc,O U x.gt,O U x.sd,O U x.ms,wG l.D,wG l.P,O U l.n] 42)
 have b2:=b1.alloc b1.size (.cells #[O U 4,O U st,O U pe,O U va] 112)
 have b3:=b2.alloc b2.size (.cells #[F none 0 0,F none 0 0,O U 0,O U 0,O U 0,wG ⟨#[]⟩,wG ⟨#[]⟩,O U 0] 42)
 have hW:=h.up b3 nR
 have xq:w.heap.size≤w.heap.size+1+1:=oM
 clear b1 b2 h
 have cS:=fun W hR=>jn x ⟨4,st,pe,va⟩ W hR wX
 have hz:=fH hN
 rw [hN] at cS
 clear hN
 have GZ:bK (z.at none 0 none 0):=br.1 hz.1
 have HT:Hid (jN (some (z,bM z.sd))=bM z.sd):=rfl
 go_enter Tryz.func89,Tryz.ntmps89
 go_wp2_with fail
 generalize (((w.alloc (.cells #[F x.TA x.t.length x.tc,F x.OA x.o.length x.oc,O U x.gt,O U x.sd,O U x.ms,wG l.D,wG l.P,O U l.n] 42)).alloc (.cells #[O U 4,O U st,O U pe,O U va] 112)).alloc (.cells #[F none 0 0,F none 0 0,O U 0,O U 0,O U 0,wG ⟨#[]⟩,wG ⟨#[]⟩,O U 0] 42))=W at L1 L2 L3 b3 hW ⊢
 refine (cS W hW).mono ?_
 rintro e W1 ⟨TA,tc,OA,oc,rfl,hT,hO,hb⟩
 simp only [cU,Option.getD_some,Option.isSome_some,Oc.at,aO.val] at hT hO ⊢
 go_upto_region 4 with fail
 have wO:=(Below.refl W1.heap.size W1).alloc nR (.cells #[F TA z.t.length tc,F OA z.o.length oc,O U z.gt,O U z.sd,O U z.ms] 40)
 have wM:=av hb wO
 have J1:=L1.below wM L1.lt
 have J2:=L2.below wM L2.lt
 have J3:=L3.below wM L3.lt
 have J6:=ai.new W1 40 #[F TA z.t.length tc,F OA z.o.length oc,O U z.gt,O U z.sd,O U z.ms]
 have b4:=av b3 wM
 have yp:=ah (ac hT wO) b3.size
 have yq:=ah (ac hO wO) b3.size
 have g26:w.heap.size+1+1 < W1.heap.size:=jL L3.lt hb.size
 clear wO wM hb hT hO L1 L2 L3 b3
 generalize W1.alloc (.cells #[F TA z.t.length tc,F OA z.o.length oc,O U z.gt,O U z.sd,O U z.ms] 40)=W2 at J1 J2 J3 J6 b4 yp yq ⊢
 generalize W1.heap.size=g6 at J6 g26 ⊢
 obtain ⟨c0,c1,c2,c3,c4,c5,c6,c7⟩:=cells8 J1
 go_upto_region 5 with fail
 clear c0 c1 c2 c3 c4 c5 c6 c7
 have wO:=(Below.refl W2.heap.size W2).alloc nR (.cells #[F x.TA x.t.length x.tc,F x.OA x.o.length x.oc,O U x.gt,O U x.sd,O U x.ms,wG l.D,wG l.P,O U l.n] 42)
 have K1:=J1.below wO J1.lt
 have K2:=J2.below wO J2.lt
 have K3:=J3.below wO J3.lt
 have K6:=J6.below wO J6.lt
 have K8:=ai.new W2 42 #[F x.TA x.t.length x.tc,F x.OA x.o.length x.oc,O U x.gt,O U x.sd,O U x.ms,wG l.D,wG l.P,O U l.n]
 have b5:=b4.trans (wO.mono b4.size)
 have Bw:=ac yp wO
 have Bx:=ac yq wO
 have g68:g6 < W2.heap.size:=J6.lt
 clear wO J1 J2 J3 J6 b4 yp yq
 generalize W2.alloc (.cells #[F x.TA x.t.length x.tc,F x.OA x.o.length x.oc,O U x.gt,O U x.sd,O U x.ms,wG l.D,wG l.P,O U l.n] 42)=W3 at K1 K2 K3 K6 K8 b5 Bw Bx ⊢
 generalize W2.heap.size=g8 at K8 g68 ⊢
 have xu:w.heap.size≤g8:=oM
 obtain ⟨p0,p1,p2,p3,p4⟩:=cells5 K6
 obtain ⟨q0,q1,q2,q3,q4,q5,q6,q7⟩:=cells8 K8
 obtain ⟨f0,f1,f2,f3,f4,f5,f6,f7⟩:=frz8 K8
 go_upto_region 6 with fail
 obtain ⟨W4,Dj,M8,b6,gr,OT⟩:=ja K8 b5 xu (F TA z.t.length tc) (F OA z.o.length oc) (O U z.gt) (O U z.sd) (O U z.ms)
 have M1:=OT _ _ _ oM K1
 have M2:=OT _ _ _ oM K2
 have M3:=OT _ _ _ oM K3
 have M6:=OT _ _ _ oM K6
 have hT:=ak Bw K8 fj gr
 have hO:=ak Bx K8 fk gr
 clear p0 p1 p2 p3 p4 q0 q1 q2 q3 q4 q5 q6 q7 f0 f1 f2 f3 f4 K1 K2 K3 K6 K8 Bw Bx b5 gr OT
 rw [Dj.out]
 clear Dj
 have Bm:aQ W4 W4.heap.size (z.at TA tc OA oc):=⟨aw hT,aw hO⟩
 obtain ⟨s0,s1,s2,s3⟩:=cells4 M2
 obtain ⟨p0,p1,p2,p3,p4⟩:=cells5 M6
 have hn:=fun W=>bP z.sd W GZ.s.1 (by have:=GZ.s.2; have e:(z.at none 0 none 0).sd=z.sd:=rfl; rw [e] at this; omega)
 clear Bm M1 M2
 go_wp2_with fail
 refine al (Sw 4 (fun W9=>Below W4.heap.size W4 W9) (fun W9=>Below w.heap.size w W9∧dr W9 w.heap.size (w.heap.size+1+1) z l)) (fun i w1 w2=>i ∉ [4]→Below w1.heap.size w1 w2) kZ kZ kZ (Sw.start jB.drew) ?_
 simp only [ax,Act.put,sA,gs0,gs1,Nat.zero_add,Nat.reduceAdd]
 refine aa _ (vb0C8 M8) ?_
 refine aa _ vb0 ?_
 refine aa _ (vb1c1 1 M6 3) ?_
 refine aa (wG (bM z.sd)) (fun vs L9 w9 wK wI hB K9 wJ=>?_) ?_
 next =>
  replace wI:=sb wI wK
  have d2:=fe hB 2
  simp only [d2] at wJ ⊢
  go_simp
  refine (hn w9).mono ?_
  rintro en w8 ⟨rfl,wL⟩
  exact wJ _ _ rfl (Sw.stay wK kZ dD (wI.trans (wL.mono wI.size))) (fun _=>wL)
 refine aa (undef) (fun vs L9 w9 wK wI hB K9 wJ=>?_) ?_
 next =>
  replace wI:=wI.here wK
  have d0:=fe hB 0
  simp only [d0] at wJ ⊢
  have Lr:=M3.below wI M3.lt
  obtain ⟨z0,z1,z2,z3,z4,z5,z6,z7⟩:=cells8 Lr
  obtain ⟨f0,f1,f2,f3,f4,f5,f6,f7⟩:=frz8 Lr
  have xo:=jZ (dr.put (y:=z) (l:=l) Lr (ac hT wI) (ac hO wI))
  have xK:=jZ (eX (g:=(w.heap.size+1+1)) ((b6).trans (wI.mono (b6).size)) xq (F TA z.t.length tc) (F OA z.o.length oc) (O U z.gt) (O U z.sd) (O U z.ms) (wG l.D) (wG l.P) (O U l.n))
  clear Lr
  go_simp
  exact wJ _ _ rfl (Sw.turn ⟨xK.out,xo.out⟩) nq
 refine aa _ (va1 3) ?_
 refine ar fun vs L9 w9 wS wI hB=>?_
 replace wI:=wI.done wS dD
 have dl:=ag.eq (hB 5 _ rfl rfl dD)
 simp only [dl]
 clear hB dl
 obtain ⟨hD,TB,tb,OB,ob,hN,xj,xM⟩:=wI
 obtain ⟨k0,k1,k2,k3,k4,k5,k6,k7⟩:=cells8 hN
 clear hN
 go_wp2
 refine bodyPost_ret (v:=.tuple #[.agg #[F TB z.t.length tb,F OB z.o.length ob,O U z.gt,O U z.sd,O U z.ms,wG l.D,wG l.P,O U l.n],wG (bM z.sd)]) (by simp [results,Tryz.results89,go_sem, *]) rfl (bu.mk HT.out (.inr ⟨TB,tb,OB,ob,rfl,xj,xM⟩) hD)
set_option maxRecDepth 100000 in
theorem ur (x:aO) (l:Lg) (st pe va:Int) (w:World) (h:aQ w w.heap.size x) (wX:x.t.length≤x.tc) (z:Oc) (hN:gq x.c ⟨5,st,pe,va⟩=some z) :
  Calls wH 89 #[aJ x l,.agg #[O U 5,O U st,O U pe,O U va]] w (bu w x l (some (z,bM z.ms))):=by
 have L1:=((ai.new w 42 #[F x.TA x.t.length x.tc,F x.OA x.o.length x.oc,O U x.gt,O U x.sd,O U x.ms,wG l.D,wG l.P,O U l.n]).alloc (.cells #[O U 5,O U st,O U pe,O U va] 112)).alloc (.cells #[F none 0 0,F none 0 0,O U 0,O U 0,O U 0,wG ⟨#[]⟩,wG ⟨#[]⟩,O U 0] 42)
 have L2:=(ai.new1 w (.cells #[F x.TA x.t.length x.tc,F x.OA x.o.length x.oc,O U x.gt,O U x.sd,O U x.ms,wG l.D,wG l.P,O U l.n] 42) 112 #[O U 5,O U st,O U pe,O U va]).alloc (.cells #[F none 0 0,F none 0 0,O U 0,O U 0,O U 0,wG ⟨#[]⟩,wG ⟨#[]⟩,O U 0] 42)
 have L3:=ai.new2 w (.cells #[F x.TA x.t.length x.tc,F x.OA x.o.length x.oc,O U x.gt,O U x.sd,O U x.ms,wG l.D,wG l.P,O U l.n] 42) (.cells #[O U 5,O U st,O U pe,O U va] 112) 42 #[F none 0 0,F none 0 0,O U 0,O U 0,O U 0,wG ⟨#[]⟩,wG ⟨#[]⟩,O U 0]
 have b1:=bZ w (.cells #[F x.TA x.t.length x.tc,F x.OA x.o.length x.oc,O U x.gt,O U x.sd,O U x.ms,wG l.D,wG l.P,O U l.n] 42)
 have b2:=b1.alloc b1.size (.cells #[O U 5,O U st,O U pe,O U va] 112)
 have b3:=b2.alloc b2.size (.cells #[F none 0 0,F none 0 0,O U 0,O U 0,O U 0,wG ⟨#[]⟩,wG ⟨#[]⟩,O U 0] 42)
 have hW:=h.up b3 nR
 have xq:w.heap.size≤w.heap.size+1+1:=oM
 clear b1 b2 h
 have cS:=fun W hR=>jn x ⟨5,st,pe,va⟩ W hR wX
 have hz:=fH hN
 rw [hN] at cS
 clear hN
 have GZ:bK (z.at none 0 none 0):=br.1 hz.1
 have HT:Hid (jN (some (z,bM z.ms))=bM z.ms):=rfl
 go_enter Tryz.func89,Tryz.ntmps89
 go_wp2_with fail
 generalize (((w.alloc (.cells #[F x.TA x.t.length x.tc,F x.OA x.o.length x.oc,O U x.gt,O U x.sd,O U x.ms,wG l.D,wG l.P,O U l.n] 42)).alloc (.cells #[O U 5,O U st,O U pe,O U va] 112)).alloc (.cells #[F none 0 0,F none 0 0,O U 0,O U 0,O U 0,wG ⟨#[]⟩,wG ⟨#[]⟩,O U 0] 42))=W at L1 L2 L3 b3 hW ⊢
 refine (cS W hW).mono ?_
 rintro e W1 ⟨TA,tc,OA,oc,rfl,hT,hO,hb⟩
 simp only [cU,Option.getD_some,Option.isSome_some,Oc.at,aO.val] at hT hO ⊢
 go_upto_region 4 with fail
 have wO:=(Below.refl W1.heap.size W1).alloc nR (.cells #[F TA z.t.length tc,F OA z.o.length oc,O U z.gt,O U z.sd,O U z.ms] 40)
 have wM:=av hb wO
 have J1:=L1.below wM L1.lt
 have J2:=L2.below wM L2.lt
 have J3:=L3.below wM L3.lt
 have J6:=ai.new W1 40 #[F TA z.t.length tc,F OA z.o.length oc,O U z.gt,O U z.sd,O U z.ms]
 have b4:=av b3 wM
 have yp:=ah (ac hT wO) b3.size
 have yq:=ah (ac hO wO) b3.size
 have g26:w.heap.size+1+1 < W1.heap.size:=jL L3.lt hb.size
 clear wO wM hb hT hO L1 L2 L3 b3
 generalize W1.alloc (.cells #[F TA z.t.length tc,F OA z.o.length oc,O U z.gt,O U z.sd,O U z.ms] 40)=W2 at J1 J2 J3 J6 b4 yp yq ⊢
 generalize W1.heap.size=g6 at J6 g26 ⊢
 obtain ⟨c0,c1,c2,c3,c4,c5,c6,c7⟩:=cells8 J1
 go_upto_region 5 with fail
 clear c0 c1 c2 c3 c4 c5 c6 c7
 have wO:=(Below.refl W2.heap.size W2).alloc nR (.cells #[F x.TA x.t.length x.tc,F x.OA x.o.length x.oc,O U x.gt,O U x.sd,O U x.ms,wG l.D,wG l.P,O U l.n] 42)
 have K1:=J1.below wO J1.lt
 have K2:=J2.below wO J2.lt
 have K3:=J3.below wO J3.lt
 have K6:=J6.below wO J6.lt
 have K8:=ai.new W2 42 #[F x.TA x.t.length x.tc,F x.OA x.o.length x.oc,O U x.gt,O U x.sd,O U x.ms,wG l.D,wG l.P,O U l.n]
 have b5:=b4.trans (wO.mono b4.size)
 have Bw:=ac yp wO
 have Bx:=ac yq wO
 have g68:g6 < W2.heap.size:=J6.lt
 clear wO J1 J2 J3 J6 b4 yp yq
 generalize W2.alloc (.cells #[F x.TA x.t.length x.tc,F x.OA x.o.length x.oc,O U x.gt,O U x.sd,O U x.ms,wG l.D,wG l.P,O U l.n] 42)=W3 at K1 K2 K3 K6 K8 b5 Bw Bx ⊢
 generalize W2.heap.size=g8 at K8 g68 ⊢
 have xu:w.heap.size≤g8:=oM
 obtain ⟨p0,p1,p2,p3,p4⟩:=cells5 K6
 obtain ⟨q0,q1,q2,q3,q4,q5,q6,q7⟩:=cells8 K8
 obtain ⟨f0,f1,f2,f3,f4,f5,f6,f7⟩:=frz8 K8
 go_upto_region 6 with fail
 obtain ⟨W4,Dj,M8,b6,gr,OT⟩:=ja K8 b5 xu (F TA z.t.length tc) (F OA z.o.length oc) (O U z.gt) (O U z.sd) (O U z.ms)
 have M1:=OT _ _ _ oM K1
 have M2:=OT _ _ _ oM K2
 have M3:=OT _ _ _ oM K3
 have M6:=OT _ _ _ oM K6
 have hT:=ak Bw K8 fj gr
 have hO:=ak Bx K8 fk gr
 clear p0 p1 p2 p3 p4 q0 q1 q2 q3 q4 q5 q6 q7 f0 f1 f2 f3 f4 K1 K2 K3 K6 K8 Bw Bx b5 gr OT
 rw [Dj.out]
 clear Dj
 have Bm:aQ W4 W4.heap.size (z.at TA tc OA oc):=⟨aw hT,aw hO⟩
 obtain ⟨s0,s1,s2,s3⟩:=cells4 M2
 obtain ⟨p0,p1,p2,p3,p4⟩:=cells5 M6
 have hn:=fun W=>bP z.ms W GZ.m.1 (by have:=GZ.m.2; have e:(z.at none 0 none 0).ms=z.ms:=rfl; rw [e] at this; omega)
 clear Bm M1 M2
 go_wp2_with fail
 refine al (Sw 4 (fun W9=>Below W4.heap.size W4 W9) (fun W9=>Below w.heap.size w W9∧dr W9 w.heap.size (w.heap.size+1+1) z l)) (fun i w1 w2=>i ∉ [4]→Below w1.heap.size w1 w2) kZ kZ kZ (Sw.start jB.drew) ?_
 simp only [ax,Act.put,sA,gs0,gs1,Nat.zero_add,Nat.reduceAdd]
 refine aa _ (vb0C8 M8) ?_
 refine aa _ vb0 ?_
 refine aa _ (vb1c1 1 M6 4) ?_
 refine aa (wG (bM z.ms)) (fun vs L9 w9 wK wI hB K9 wJ=>?_) ?_
 next =>
  replace wI:=sb wI wK
  have d2:=fe hB 2
  simp only [d2] at wJ ⊢
  go_simp
  refine (hn w9).mono ?_
  rintro en w8 ⟨rfl,wL⟩
  exact wJ _ _ rfl (Sw.stay wK kZ dD (wI.trans (wL.mono wI.size))) (fun _=>wL)
 refine aa (undef) (fun vs L9 w9 wK wI hB K9 wJ=>?_) ?_
 next =>
  replace wI:=wI.here wK
  have d0:=fe hB 0
  simp only [d0] at wJ ⊢
  have Lr:=M3.below wI M3.lt
  obtain ⟨z0,z1,z2,z3,z4,z5,z6,z7⟩:=cells8 Lr
  obtain ⟨f0,f1,f2,f3,f4,f5,f6,f7⟩:=frz8 Lr
  have xo:=jZ (dr.put (y:=z) (l:=l) Lr (ac hT wI) (ac hO wI))
  have xK:=jZ (eX (g:=(w.heap.size+1+1)) ((b6).trans (wI.mono (b6).size)) xq (F TA z.t.length tc) (F OA z.o.length oc) (O U z.gt) (O U z.sd) (O U z.ms) (wG l.D) (wG l.P) (O U l.n))
  clear Lr
  go_simp
  exact wJ _ _ rfl (Sw.turn ⟨xK.out,xo.out⟩) nq
 refine aa _ (va1 3) ?_
 refine ar fun vs L9 w9 wS wI hB=>?_
 replace wI:=wI.done wS dD
 have dl:=ag.eq (hB 5 _ rfl rfl dD)
 simp only [dl]
 clear hB dl
 obtain ⟨hD,TB,tb,OB,ob,hN,xj,xM⟩:=wI
 obtain ⟨k0,k1,k2,k3,k4,k5,k6,k7⟩:=cells8 hN
 clear hN
 go_wp2
 refine bodyPost_ret (v:=.tuple #[.agg #[F TB z.t.length tb,F OB z.o.length ob,O U z.gt,O U z.sd,O U z.ms,wG l.D,wG l.P,O U l.n],wG (bM z.ms)]) (by simp [results,Tryz.results89,go_sem, *]) rfl (bu.mk HT.out (.inr ⟨TB,tb,OB,ob,rfl,xj,xM⟩) hD)
set_option maxRecDepth 100000 in
theorem us (x:aO) (l:Lg) (kd st pe va:Int) (w:World) (h:aQ w w.heap.size x) (wX:x.t.length≤x.tc) (z:Oc) (hN:gq x.c ⟨kd,st,pe,va⟩=some z) (Av:kd ≠ 1) (Lv:kd ≠ 4) (Lw:kd ≠ 5) :
  Calls wH 89 #[aJ x l,.agg #[O U kd,O U st,O U pe,O U va]] w (bu w x l (some (z,eI z.off st))):=by
 have L1:=((ai.new w 42 #[F x.TA x.t.length x.tc,F x.OA x.o.length x.oc,O U x.gt,O U x.sd,O U x.ms,wG l.D,wG l.P,O U l.n]).alloc (.cells #[O U kd,O U st,O U pe,O U va] 112)).alloc (.cells #[F none 0 0,F none 0 0,O U 0,O U 0,O U 0,wG ⟨#[]⟩,wG ⟨#[]⟩,O U 0] 42)
 have L2:=(ai.new1 w (.cells #[F x.TA x.t.length x.tc,F x.OA x.o.length x.oc,O U x.gt,O U x.sd,O U x.ms,wG l.D,wG l.P,O U l.n] 42) 112 #[O U kd,O U st,O U pe,O U va]).alloc (.cells #[F none 0 0,F none 0 0,O U 0,O U 0,O U 0,wG ⟨#[]⟩,wG ⟨#[]⟩,O U 0] 42)
 have L3:=ai.new2 w (.cells #[F x.TA x.t.length x.tc,F x.OA x.o.length x.oc,O U x.gt,O U x.sd,O U x.ms,wG l.D,wG l.P,O U l.n] 42) (.cells #[O U kd,O U st,O U pe,O U va] 112) 42 #[F none 0 0,F none 0 0,O U 0,O U 0,O U 0,wG ⟨#[]⟩,wG ⟨#[]⟩,O U 0]
 have b1:=bZ w (.cells #[F x.TA x.t.length x.tc,F x.OA x.o.length x.oc,O U x.gt,O U x.sd,O U x.ms,wG l.D,wG l.P,O U l.n] 42)
 have b2:=b1.alloc b1.size (.cells #[O U kd,O U st,O U pe,O U va] 112)
 have b3:=b2.alloc b2.size (.cells #[F none 0 0,F none 0 0,O U 0,O U 0,O U 0,wG ⟨#[]⟩,wG ⟨#[]⟩,O U 0] 42)
 have hW:=h.up b3 nR
 have xq:w.heap.size≤w.heap.size+1+1:=oM
 clear b1 b2 h
 have cS:=fun W hR=>jn x ⟨kd,st,pe,va⟩ W hR wX
 have hz:=fH hN
 rw [hN] at cS
 clear hN
 have GZ:bK (z.at none 0 none 0):=br.1 hz.1
 have HT:Hid (jN (some (z,eI z.off st))=eI z.off st):=rfl
 have n1:(kd == 1)=false:=beq_false_of_ne Av
 have n4:(kd == 4)=false:=beq_false_of_ne Lv
 have n5:(kd == 5)=false:=beq_false_of_ne Lw
 clear Av Lv Lw
 go_enter Tryz.func89,Tryz.ntmps89
 go_wp2_with fail
 generalize (((w.alloc (.cells #[F x.TA x.t.length x.tc,F x.OA x.o.length x.oc,O U x.gt,O U x.sd,O U x.ms,wG l.D,wG l.P,O U l.n] 42)).alloc (.cells #[O U kd,O U st,O U pe,O U va] 112)).alloc (.cells #[F none 0 0,F none 0 0,O U 0,O U 0,O U 0,wG ⟨#[]⟩,wG ⟨#[]⟩,O U 0] 42))=W at L1 L2 L3 b3 hW ⊢
 refine (cS W hW).mono ?_
 rintro e W1 ⟨TA,tc,OA,oc,rfl,hT,hO,hb⟩
 simp only [cU,Option.getD_some,Option.isSome_some,Oc.at,aO.val] at hT hO ⊢
 go_upto_region 4 with fail
 have wO:=(Below.refl W1.heap.size W1).alloc nR (.cells #[F TA z.t.length tc,F OA z.o.length oc,O U z.gt,O U z.sd,O U z.ms] 40)
 have wM:=av hb wO
 have J1:=L1.below wM L1.lt
 have J2:=L2.below wM L2.lt
 have J3:=L3.below wM L3.lt
 have J6:=ai.new W1 40 #[F TA z.t.length tc,F OA z.o.length oc,O U z.gt,O U z.sd,O U z.ms]
 have b4:=av b3 wM
 have yp:=ah (ac hT wO) b3.size
 have yq:=ah (ac hO wO) b3.size
 have g26:w.heap.size+1+1 < W1.heap.size:=jL L3.lt hb.size
 clear wO wM hb hT hO L1 L2 L3 b3
 generalize W1.alloc (.cells #[F TA z.t.length tc,F OA z.o.length oc,O U z.gt,O U z.sd,O U z.ms] 40)=W2 at J1 J2 J3 J6 b4 yp yq ⊢
 generalize W1.heap.size=g6 at J6 g26 ⊢
 obtain ⟨c0,c1,c2,c3,c4,c5,c6,c7⟩:=cells8 J1
 go_upto_region 5 with fail
 clear c0 c1 c2 c3 c4 c5 c6 c7
 have wO:=(Below.refl W2.heap.size W2).alloc nR (.cells #[F x.TA x.t.length x.tc,F x.OA x.o.length x.oc,O U x.gt,O U x.sd,O U x.ms,wG l.D,wG l.P,O U l.n] 42)
 have K1:=J1.below wO J1.lt
 have K2:=J2.below wO J2.lt
 have K3:=J3.below wO J3.lt
 have K6:=J6.below wO J6.lt
 have K8:=ai.new W2 42 #[F x.TA x.t.length x.tc,F x.OA x.o.length x.oc,O U x.gt,O U x.sd,O U x.ms,wG l.D,wG l.P,O U l.n]
 have b5:=b4.trans (wO.mono b4.size)
 have Bw:=ac yp wO
 have Bx:=ac yq wO
 have g68:g6 < W2.heap.size:=J6.lt
 clear wO J1 J2 J3 J6 b4 yp yq
 generalize W2.alloc (.cells #[F x.TA x.t.length x.tc,F x.OA x.o.length x.oc,O U x.gt,O U x.sd,O U x.ms,wG l.D,wG l.P,O U l.n] 42)=W3 at K1 K2 K3 K6 K8 b5 Bw Bx ⊢
 generalize W2.heap.size=g8 at K8 g68 ⊢
 have xu:w.heap.size≤g8:=oM
 obtain ⟨p0,p1,p2,p3,p4⟩:=cells5 K6
 obtain ⟨q0,q1,q2,q3,q4,q5,q6,q7⟩:=cells8 K8
 obtain ⟨f0,f1,f2,f3,f4,f5,f6,f7⟩:=frz8 K8
 go_upto_region 6 with fail
 obtain ⟨W4,Dj,M8,b6,gr,OT⟩:=ja K8 b5 xu (F TA z.t.length tc) (F OA z.o.length oc) (O U z.gt) (O U z.sd) (O U z.ms)
 have M1:=OT _ _ _ oM K1
 have M2:=OT _ _ _ oM K2
 have M3:=OT _ _ _ oM K3
 have M6:=OT _ _ _ oM K6
 have hT:=ak Bw K8 fj gr
 have hO:=ak Bx K8 fk gr
 clear p0 p1 p2 p3 p4 q0 q1 q2 q3 q4 q5 q6 q7 f0 f1 f2 f3 f4 K1 K2 K3 K6 K8 Bw Bx b5 gr OT
 rw [Dj.out]
 clear Dj
 have Bm:aQ W4 W4.heap.size (z.at TA tc OA oc):=⟨aw hT,aw hO⟩
 obtain ⟨s0,s1,s2,s3⟩:=cells4 M2
 obtain ⟨p0,p1,p2,p3,p4⟩:=cells5 M6
 have hn:=fun W hR=>m9 (z.at TA tc OA oc) st W hR
 have e9:(kq (z.at TA tc OA oc) st).getD da=eI z.off st:=by
  unfold kq
  rw [show (ao (z.at TA tc OA oc) && aS (z.at TA tc OA oc).t st)=true from by rw [show ao (z.at TA tc OA oc)=true from hz.1]; exact hz.2]
  rfl
 rw [e9] at hn
 clear e9
 go_wp2_with fail
 refine al (Sw 5 (fun W9=>Below W4.heap.size W4 W9) (fun W9=>Below w.heap.size w W9∧dr W9 w.heap.size (w.heap.size+1+1) z l)) (fun i w1 w2=>i ∉ [5]→Below w1.heap.size w1 w2) kZ kZ kZ (Sw.start jB.drew) ?_
 simp only [ax,Act.put,sA,gs0,gs1,Nat.zero_add,Nat.reduceAdd]
 refine aa _ (vb0C8 M8) ?_
 refine aa _ (vb0C5 M6) ?_
 refine aa _ vb0 ?_
 refine aa _ (vb1c1 2 M2 1) ?_
 refine aa (wG (eI z.off st)) (fun vs L9 w9 wK wI hB K9 wJ=>?_) ?_
 next =>
  replace wI:=sb wI wK
  have d1:=fe hB 1
  have d3:=fe hB 3
  simp only [d1,d3] at wJ ⊢
  go_simp
  refine (hn w9 (Bm.then wI)).mono ?_
  rintro en w8 ⟨rfl,wL⟩
  exact wJ _ _ rfl (Sw.stay wK kZ dD (wI.trans (wL.mono wI.size))) (fun _=>wL)
 refine aa (undef) (fun vs L9 w9 wK wI hB K9 wJ=>?_) ?_
 next =>
  replace wI:=wI.here wK
  have d0:=fe hB 0
  simp only [d0] at wJ ⊢
  have Lr:=M3.below wI M3.lt
  obtain ⟨z0,z1,z2,z3,z4,z5,z6,z7⟩:=cells8 Lr
  obtain ⟨f0,f1,f2,f3,f4,f5,f6,f7⟩:=frz8 Lr
  have xo:=jZ (dr.put (y:=z) (l:=l) Lr (ac hT wI) (ac hO wI))
  have xK:=jZ (eX (g:=(w.heap.size+1+1)) ((b6).trans (wI.mono (b6).size)) xq (F TA z.t.length tc) (F OA z.o.length oc) (O U z.gt) (O U z.sd) (O U z.ms) (wG l.D) (wG l.P) (O U l.n))
  clear Lr
  go_simp
  exact wJ _ _ rfl (Sw.turn ⟨xK.out,xo.out⟩) nq
 refine aa _ (va1 4) ?_
 refine ar fun vs L9 w9 wS wI hB=>?_
 replace wI:=wI.done wS dD
 have dl:=ag.eq (hB 6 _ rfl rfl dD)
 simp only [dl]
 clear hB dl
 obtain ⟨hD,TB,tb,OB,ob,hN,xj,xM⟩:=wI
 obtain ⟨k0,k1,k2,k3,k4,k5,k6,k7⟩:=cells8 hN
 clear hN
 go_wp2
 refine bodyPost_ret (v:=.tuple #[.agg #[F TB z.t.length tb,F OB z.o.length ob,O U z.gt,O U z.sd,O U z.ms,wG l.D,wG l.P,O U l.n],wG (eI z.off st)]) (by simp [results,Tryz.results89,go_sem, *]) rfl (bu.mk HT.out (.inr ⟨TB,tb,OB,ob,rfl,xj,xM⟩) hD)
theorem fT (x:aO) (l:Lg) (s:df) (w:World) (h:aQ w w.heap.size x) (wX:x.t.length≤x.tc) :
  Calls wH 89 #[aJ x l,s.val] w (bu w x l (cc x s)):=by
 obtain ⟨kd,st,pe,va⟩:=s
 unfold cc
 cases hN:gq x.c ⟨kd,st,pe,va⟩ with
 | none=>exact uo x l kd st pe va w h wX hN
 | some z =>
  show Calls _ _ _ _ (bu w x l (some (z,iz z.off ⟨kd,st,pe,va⟩)))
  unfold iz
  by_cases h1:kd=1
  ·subst h1; exact vp x l st pe va w h wX z hN
  ·by_cases h4:kd=4
   ·subst h4; exact uq x l st pe va w h wX z hN
   ·by_cases h5:kd=5
    ·subst h5; exact ur x l st pe va w h wX z hN
    ·simp only [h1,h4,h5,if_false]
     exact us x l kd st pe va w h wX z hN h1 h4 h5
def kJ (w:World) (g:Nat):Prop:=∃ ev,w.cell? ⟨g,0,none⟩=some ev∧(ev=.nilIface ∨ ∃ te pe,ev=.iface te pe)
structure LW (w:World):Prop where
 tab:hQ w
 syn:kJ w 2
 rng:kJ w 3
 ml:∃ m:Int,w.cell? ⟨0,0,none⟩=some (O U m)
theorem tE {w:World} {a:Addr} {v:Value} (h:w.cell? a=some v):a.block < w.heap.size:=by
 rcases Nat.lt_or_ge a.block w.heap.size with h1 | h1
 ·exact h1
 ·unfold World.cell? at h; simp [Array.getElem?_eq_none h1] at h
theorem kJ.then {w w' : World} {g:Nat} (h:kJ w g) (hb:Below w.heap.size w w'):kJ w' g:=by
 obtain ⟨ev,h1,h2⟩:=h
 exact ⟨ev,(hb.cell (tE h1)).trans h1,h2⟩
theorem LW.then {w w' : World} (h:LW w) (hb:Below w.heap.size w w'):LW w':=by
 obtain ⟨h1,h2,h3,m,h4⟩:=h
 exact ⟨h1.then hb,h2.then hb,h3.then hb,m,(hb.cell (tE h4)).trans h4⟩
theorem LW.at {w:World} (h:LW w) (q:ap w.heap.size w):LW q.val:=h.then q.below
theorem vq (ps:List (List UInt8)) (k:Nat) (h:k < ps.length):(dP ps)[k]?=some (wG ⟨(ps[k]).toArray⟩):=by
 unfold dP; rw [List.getElem?_map,List.getElem?_eq_getElem h]; rfl
theorem fU (ps:List (List UInt8)) (rest:List Value) (k:Nat) (h:k < ps.length):(dP ps++rest)[k]?=some (wG ⟨(ps[k]).toArray⟩):=by
 rw [List.getElem?_append_left (by rw [uf]; omega)]; exact vq ps k h
theorem jO (s:ByteArray) (b:UInt8) (w:World) (hs:s.size≤100000000) :
  Calls wH 58 #[wG s,.int .u8 b.toNat] w fun e w'=>∃ (g c:Nat) (rest:List Value),e=.returned (F (some ⟨g,0,none⟩) (aI b (bl s)).length c)∧ai w' g 9 (dP (aI b (bl s))++rest)∧w.heap.size≤g∧Below w.heap.size w w':=by
 refine (iN s b w hs).mono ?_
 rintro e w' ⟨A,c,rfl,ho,hb⟩
 obtain ⟨_,_,⟨h1,h2⟩ | ⟨g,rest,hA,hg,hL⟩⟩:=cz.of ho
 ·exact absurd (List.eq_nil_of_length_eq_zero h2) (lO b _ _)
 ·subst hA; exact ⟨g,c,rest,rfl,hL,hg,hb⟩
theorem iT {b:UInt8} {s:List UInt8} {n:Nat} (h:s.length≤n):∀ t ∈ aI b s,t.length≤n:=fun t ht=>by
 have:=mr s [] ht; simp at this; omega
theorem iU {b:UInt8} {s:List UInt8} {n:Nat} (h:s.length≤n):1≤(aI b s).length∧(aI b s).length≤n+1:=by
 have h1:=gC b s []
 have h3:0 < (dH b [] s).length:=List.length_pos_iff.2 (lO b s [])
 unfold aI; omega
theorem iV {n lo hi:Int} : cg n lo hi=true ↔ lo≤n∧n≤hi:=by simp [cg]
theorem mz (n:Int) (w:World) (h0 : -1000000000≤n) (h1:n≤1000000000) :
  Calls wH 71 #[O U n] w fun e w'=>e=.returned (wG ⟨(Lib.itoa n).toArray⟩)∧Below w.heap.size w w':=by
 by_cases hn:n < 0
 ·have HC:Hid (∀ W:World,Calls wH 71 #[O U (-n)] W fun e w'=>e=.returned (wG ⟨(Lib.itoa (-n)).toArray⟩)∧Below W.heap.size W w'):=fun W=>bP (-n) W oM oM
  have HI:Hid (Lib.itoa n=45 :: Lib.itoa (-n)):=by
   unfold Lib.itoa Hid
   rw [if_pos hn,if_neg oM,show n.natAbs=(-n).toNat by omega]
  have hz:=bD (n:=-n) oM oM
  obtain ⟨t,ht⟩ : ∃ t:ByteArray,t=⟨(Lib.itoa (-n)).toArray⟩:=⟨_,rfl⟩
  rw [← ht] at HC hz
  have HT:=jZ ht
  clear ht
  have hw:IntKind.i64.wrap (-n) = -n:=IntWalk.i64_in _ oM
  go_enter Tryz.func71,Tryz.ntmps71
  go_wp2_with fail
  refine (HC.out _).mono ?_
  rintro e w1 ⟨rfl,hb⟩
  go_wp2_with fail
  go_ret
  refine ⟨?_,hb⟩
  rw [HI.out]
  congr 1
  rw [HT.out,ByteArray.mk_append_mk]; rfl
 ·exact bP n w oM h1
def jo (s:ByteArray) (w:World) (e:Ending) (w' : World):Prop:=e=.returned (.tuple #[O U ((dh (bl s)).getD 0),.bool (dh (bl s)).isSome])∧Below w.heap.size w w'
theorem iB (a b:ByteArray):(a.toList == b.toList)=decide (bl a=bl b):=by
 rw [ByteArray.toList_eq a,ByteArray.toList_eq b,Bool.eq_iff_iff]; simp [bl]
def wB (s t:List UInt8) (neg:Bool):Prop:=(neg=true∧s=45 :: t∧1≤t.length) ∨ (neg=false∧s=t∧(s.head? ≠ some 45 ∨ s.length≤1))
theorem hU {s t:List UInt8} {neg:Bool} (h:wB s t neg) {n:Int} (hq:dh s=some n):1≤t.length∧t.length≤6∧Lib.decFrom 0 t=some n.natAbs∧n=(if neg=true then -(n.natAbs:Int) else (n.natAbs:Int)):=by
 obtain ⟨h6,e⟩:=iS hq
 rcases vi h6 e with ⟨h1,t',h2,h3,h4,h5⟩ | ⟨h1,h2,h3,h4,h5⟩
 ·rcases h with ⟨rfl,h7,h8⟩ | ⟨rfl,h7,h8⟩
  ·rw [h2] at h7; injection h7 with _ h7; subst h7
   exact ⟨h3,h4,h5,by simp; omega⟩
  ·exfalso
   rcases h8 with h8 | h8
   ·rw [h2] at h8; exact h8 rfl
   ·rw [h2] at h8; simp only [List.length_cons] at h8; omega
 ·rcases h with ⟨rfl,h7,h8⟩ | ⟨rfl,h7,h8⟩
  ·exfalso; rw [h7] at h2; exact h2 rfl
  ·subst h7; exact ⟨h3,h4,h5,by simp; omega⟩
set_option maxRecDepth 100000 in
theorem sI (s:ByteArray) (w:World) (hs:s.size≤1000000000) :
  Calls wH 135 #[wG s] w (jo s w):=by
 by_cases xQ:1 < s.size
 ·have hi:(1:Int) < (s.size:Int):=oM
  by_cases h45:s[0].toNat=45
  ·have hT:wB (bl s) (bl (s.extract 1 s.size)) true:=by
    refine .inl ⟨rfl, ?_, ?_⟩
    ·have h1:=kC (s:=s) (k:=0) oM
     rw [bI,List.take_of_length_le (by rw [an]; exact Nat.le_refl _)]
     have h2:s[0]=45:=UInt8.toNat_inj.1 h45
     rw [List.drop_zero,h2] at h1; exact h1
    ·rw [bI,List.length_drop,List.length_take,an]; omega
   obtain ⟨t,ht⟩ : ∃ t,s.extract 1 s.size=t:=⟨_,rfl⟩
   have BT:t.size+1=s.size:=by rw [← ht,← an,bI,List.length_drop,List.length_take,an]; omega
   rw [ht] at hT
   have hq:((s[0].toNat:Int) == 45)=true:=by simp; omega
   have MZ:=jZ h45
   clear h45
   go_enter Tryz.func135,Tryz.ntmps135
   go_upto_region 4 with fail
   clear ht
   by_cases wR:1≤t.size∧t.size≤6
   ·obtain ⟨CP,Ir⟩:=wR
    have HT:=jZ hT
    clear hT
    have i1:(1:Int)≤(t.size:Int):=oM
    have i6:(t.size:Int)≤6:=oM
    have xZ:cg (t.size:Int) 1 6=true:=iV.2 ⟨i1,i6⟩
    go_wp2_with fail
    refine (aK _ _ _ _).mono ?_
    rintro e w' ⟨rfl,rfl⟩
    rw [xZ]
    clear xZ
    go_wp2_with fail
    go_loopw [5,6] (fun m i wr=>∃ (k acc:Nat),k≤t.size∧i=O U k∧m=O U acc∧acc < 1000000∧w=wr∧Hid (Lib.decFrom 0 ((bl t).take k)=some acc)) (fun _ i _=>t.size - (intOf i).toNat)
    case atStart=>exact ⟨0,0,Nat.zero_le _,rfl,rfl,oM,rfl,by simp [Lib.decFrom,Hid]⟩
    case round =>
     obtain ⟨k,acc,hk,rfl,rfl,Am,rfl,HD⟩:=hrel
     by_cases wQ:k < t.size
     ·by_cases hd:48≤t[k].toNat∧t[k].toNat≤57
      ·obtain ⟨Ae,Af⟩:=hd
       have yW:Hid (Lib.decFrom 0 ((bl t).take (k+1))=some (acc * 10+(t[k].toNat - 48))) :=
        Lib.decFrom_take (bl t) k 0 acc t[k] (t[k].toNat - 48) HD.out (List.getElem?_eq_getElem (l:=bl t) wQ) (by unfold Lib.digitVal; rw [if_pos ⟨Ae,Af⟩])
       have AQ:acc * 10+(t[k].toNat - 48) < 1000000:=by
        have h1:=Lib.decFrom_lt _ _ _ yW.out
        have h2:((bl t).take (k+1)).length≤6:=by rw [List.length_take]; omega
        have h3:=Nat.pow_le_pow_right (show 0 < 10 by omega) h2
        omega
       have j1:(48:Int)≤(t[k].toNat:Int):=oM
       have j2:(t[k].toNat:Int)≤57:=oM
       have j3:IntKind.u8.wrap ((t[k].toNat:Int) - 48)=(t[k].toNat:Int) - 48:=IntWalk.u8_in _ oM
       have j4:IntKind.i64.wrap ((t[k].toNat:Int) - 48)=(t[k].toNat:Int) - 48:=IntWalk.i64_in _ oM
       have j5:IntKind.i64.wrap (10 * (acc:Int))=10 * (acc:Int):=IntWalk.i64_in _ oM
       have j6:IntKind.i64.wrap (10 * (acc:Int)+((t[k].toNat:Int) - 48))=10 * (acc:Int)+((t[k].toNat:Int) - 48):=IntWalk.i64_in _ oM
       clear HD Am
       go_wp2_with fail
       go_roundw
       case rel=>exact ⟨k+1,acc * 10+(t[k].toNat - 48),oM,by go_num,by go_num,AQ,by first | trivial | rfl,yW⟩
       case measure=>simp [intOf] <;> omega
      ·have HZ:Hid (dh (bl s)=none):=by
        cases hq:dh (bl s) with
        | none=>rfl
        | some n =>
         exfalso
         obtain ⟨_,_,h3,_⟩:=hU HT.out hq
         obtain ⟨d,GT⟩:=Lib.digit_of_decFrom _ _ _ h3 k t[k] (List.getElem?_eq_getElem (l:=bl t) wQ)
         have:=Lib.digitVal_eq GT
         omega
       by_cases h48:t[k].toNat < 48
       ·have j1:(t[k].toNat:Int) < 48:=oM
        clear hd
        go_wp2_with fail
        go_ret2
        exact ⟨by rw [HZ.out]; rfl,Below.refl _ _⟩
       ·have j1 : ¬ (t[k].toNat:Int) < 48:=oM
        have j2:(57:Int) < (t[k].toNat:Int):=oM
        clear hd h48
        go_wp2_with fail
        go_ret2
        exact ⟨by rw [HZ.out]; rfl,Below.refl _ _⟩
     ·obtain rfl:k=t.size:=oM
      have HF:Hid (Lib.decFrom 0 (bl t)=some acc):=by
       have h1:=HD.out
       rw [List.take_of_length_le (by rw [an]; exact Nat.le_refl _)] at h1; exact h1
      clear wQ HD
      have zO:Hid (∀ W:World,Calls wH 71 #[O U (-(acc:Int))] W fun e w'=>e=.returned (wG ⟨(Lib.itoa (-(acc:Int))).toArray⟩)∧Below W.heap.size W w'):=fun W=>mz (-(acc:Int)) W oM oM
      obtain ⟨nt,By⟩ : ∃ x:ByteArray,x=⟨(Lib.itoa (-(acc:Int))).toArray⟩:=⟨_,rfl⟩
      have AR:bl nt=Lib.itoa (-(acc:Int)):=by rw [By,bo]
      rw [← By] at zO
      clear By
      have j7:IntKind.i64.wrap (-(acc:Int)) = -(acc:Int):=IntWalk.i64_in _ oM
      have j8:(t.size:Int) < (s.size:Int):=oM
      by_cases hs:Lib.itoa (-(acc:Int))=bl s
      ·have HZ:Hid (dh (bl s)=some (-(acc:Int))):=ny ⟨oM,oM⟩ hs
       have hb:(nt.toList == s.toList)=true:=by rw [iB,AR,hs]; simp
       clear hs AR
       go_wp2_with fail
       refine (zO.out _).mono ?_
       rintro e w1 ⟨rfl,wN⟩
       go_wp2_with fail
       go_ret2
       exact ⟨by rw [HZ.out]; rfl,wN⟩
      ·have HZ:Hid (dh (bl s)=none):=by
        cases hq:dh (bl s) with
        | none=>rfl
        | some n =>
         exfalso
         obtain ⟨_,_,h3,h4⟩:=hU HT.out hq
         rw [HF.out] at h3
         injection h3 with h3
         have h5:n = -(acc:Int):=by rw [h4]; simp; omega
         rw [← h5] at hs
         exact hs (iS hq).2
       have hb:(nt.toList == s.toList)=false:=by rw [iB,AR]; simp [hs]
       clear hs AR
       go_wp2_with fail
       refine (zO.out _).mono ?_
       rintro e w1 ⟨rfl,wN⟩
       go_wp2_with fail
       go_ret2
       exact ⟨by rw [HZ.out]; rfl,wN⟩
   ·have HZ:Hid (dh (bl s)=none):=by
     cases hq:dh (bl s) with
     | none=>rfl
     | some n =>
      exfalso
      obtain ⟨h1,h2,_⟩:=hU hT hq
      rw [an] at h1 h2
      exact wR ⟨h1,h2⟩
    have xZ:cg (t.size:Int) 1 6=false:=by
     rw [← Bool.not_eq_true,iV]; omega
    clear wR
    go_wp2_with fail
    refine (aK _ _ _ _).mono ?_
    rintro e w' ⟨rfl,rfl⟩
    rw [xZ]
    clear xZ
    go_wp2_with fail
    go_ret2
    exact ⟨by rw [HZ.out]; rfl,Below.refl _ _⟩
  ·have hT:wB (bl s) (bl s) false:=by
    refine .inr ⟨rfl,rfl,.inl fun h=>h45 ?_⟩
    have h1:=kC (s:=s) (k:=0) oM
    rw [List.drop_zero] at h1
    rw [h1] at h
    simp only [List.head?_cons,Option.some.injEq] at h
    rw [h]; rfl
   have hq:((s[0].toNat:Int) == 45)=false:=by rw [beq_eq_false_iff_ne]; omega
   clear h45
   go_enter Tryz.func135,Tryz.ntmps135
   go_upto_region 4 with fail
   by_cases wR:1≤s.size∧s.size≤6
   ·obtain ⟨CP,Ir⟩:=wR
    have HT:=jZ hT
    clear hT
    have i1:(1:Int)≤(s.size:Int):=oM
    have i6:(s.size:Int)≤6:=oM
    have xZ:cg (s.size:Int) 1 6=true:=iV.2 ⟨i1,i6⟩
    go_wp2_with fail
    refine (aK _ _ _ _).mono ?_
    rintro e w' ⟨rfl,rfl⟩
    rw [xZ]
    clear xZ
    go_wp2_with fail
    go_loopw [5,6] (fun m i wr=>∃ (k acc:Nat),k≤s.size∧i=O U k∧m=O U acc∧acc < 1000000∧w=wr∧Hid (Lib.decFrom 0 ((bl s).take k)=some acc)) (fun _ i _=>s.size - (intOf i).toNat)
    case atStart=>exact ⟨0,0,Nat.zero_le _,rfl,rfl,oM,rfl,by simp [Lib.decFrom,Hid]⟩
    case round =>
     obtain ⟨k,acc,hk,rfl,rfl,Am,rfl,HD⟩:=hrel
     by_cases wQ:k < s.size
     ·by_cases hd:48≤s[k].toNat∧s[k].toNat≤57
      ·obtain ⟨Ae,Af⟩:=hd
       have yW:Hid (Lib.decFrom 0 ((bl s).take (k+1))=some (acc * 10+(s[k].toNat - 48))) :=
        Lib.decFrom_take (bl s) k 0 acc s[k] (s[k].toNat - 48) HD.out (List.getElem?_eq_getElem (l:=bl s) wQ) (by unfold Lib.digitVal; rw [if_pos ⟨Ae,Af⟩])
       have AQ:acc * 10+(s[k].toNat - 48) < 1000000:=by
        have h1:=Lib.decFrom_lt _ _ _ yW.out
        have h2:((bl s).take (k+1)).length≤6:=by rw [List.length_take]; omega
        have h3:=Nat.pow_le_pow_right (show 0 < 10 by omega) h2
        omega
       have j1:(48:Int)≤(s[k].toNat:Int):=oM
       have j2:(s[k].toNat:Int)≤57:=oM
       have j3:IntKind.u8.wrap ((s[k].toNat:Int) - 48)=(s[k].toNat:Int) - 48:=IntWalk.u8_in _ oM
       have j4:IntKind.i64.wrap ((s[k].toNat:Int) - 48)=(s[k].toNat:Int) - 48:=IntWalk.i64_in _ oM
       have j5:IntKind.i64.wrap (10 * (acc:Int))=10 * (acc:Int):=IntWalk.i64_in _ oM
       have j6:IntKind.i64.wrap (10 * (acc:Int)+((s[k].toNat:Int) - 48))=10 * (acc:Int)+((s[k].toNat:Int) - 48):=IntWalk.i64_in _ oM
       clear HD Am
       go_wp2_with fail
       go_roundw
       case rel=>exact ⟨k+1,acc * 10+(s[k].toNat - 48),oM,by go_num,by go_num,AQ,by first | trivial | rfl,yW⟩
       case measure=>simp [intOf] <;> omega
      ·have HZ:Hid (dh (bl s)=none):=by
        cases hq:dh (bl s) with
        | none=>rfl
        | some n =>
         exfalso
         obtain ⟨_,_,h3,_⟩:=hU HT.out hq
         obtain ⟨d,GT⟩:=Lib.digit_of_decFrom _ _ _ h3 k s[k] (List.getElem?_eq_getElem (l:=bl s) wQ)
         have:=Lib.digitVal_eq GT
         omega
       by_cases h48:s[k].toNat < 48
       ·have j1:(s[k].toNat:Int) < 48:=oM
        clear hd
        go_wp2_with fail
        go_ret2
        exact ⟨by rw [HZ.out]; rfl,Below.refl _ _⟩
       ·have j1 : ¬ (s[k].toNat:Int) < 48:=oM
        have j2:(57:Int) < (s[k].toNat:Int):=oM
        clear hd h48
        go_wp2_with fail
        go_ret2
        exact ⟨by rw [HZ.out]; rfl,Below.refl _ _⟩
     ·obtain rfl:k=s.size:=oM
      have HF:Hid (Lib.decFrom 0 (bl s)=some acc):=by
       have h1:=HD.out
       rw [List.take_of_length_le (by rw [an]; exact Nat.le_refl _)] at h1; exact h1
      clear wQ HD
      have zO:Hid (∀ W:World,Calls wH 71 #[O U ((acc:Int))] W fun e w'=>e=.returned (wG ⟨(Lib.itoa ((acc:Int))).toArray⟩)∧Below W.heap.size W w'):=fun W=>mz ((acc:Int)) W oM oM
      obtain ⟨nt,By⟩ : ∃ x:ByteArray,x=⟨(Lib.itoa ((acc:Int))).toArray⟩:=⟨_,rfl⟩
      have AR:bl nt=Lib.itoa ((acc:Int)):=by rw [By,bo]
      rw [← By] at zO
      clear By
      have j7:IntKind.i64.wrap (-(acc:Int)) = -(acc:Int):=IntWalk.i64_in _ oM
      have j8:True:=trivial
      by_cases hs:Lib.itoa ((acc:Int))=bl s
      ·have HZ:Hid (dh (bl s)=some ((acc:Int))):=ny ⟨oM,oM⟩ hs
       have hb:(nt.toList == s.toList)=true:=by rw [iB,AR,hs]; simp
       clear hs AR
       go_wp2_with fail
       refine (zO.out _).mono ?_
       rintro e w1 ⟨rfl,wN⟩
       go_wp2_with fail
       go_ret2
       exact ⟨by rw [HZ.out]; rfl,wN⟩
      ·have HZ:Hid (dh (bl s)=none):=by
        cases hq:dh (bl s) with
        | none=>rfl
        | some n =>
         exfalso
         obtain ⟨_,_,h3,h4⟩:=hU HT.out hq
         rw [HF.out] at h3
         injection h3 with h3
         have h5:n=(acc:Int):=by rw [h4]; simp; omega
         rw [← h5] at hs
         exact hs (iS hq).2
       have hb:(nt.toList == s.toList)=false:=by rw [iB,AR]; simp [hs]
       clear hs AR
       go_wp2_with fail
       refine (zO.out _).mono ?_
       rintro e w1 ⟨rfl,wN⟩
       go_wp2_with fail
       go_ret2
       exact ⟨by rw [HZ.out]; rfl,wN⟩
   ·have HZ:Hid (dh (bl s)=none):=by
     cases hq:dh (bl s) with
     | none=>rfl
     | some n =>
      exfalso
      obtain ⟨h1,h2,_⟩:=hU hT hq
      rw [an] at h1 h2
      exact wR ⟨h1,h2⟩
    have xZ:cg (s.size:Int) 1 6=false:=by
     rw [← Bool.not_eq_true,iV]; omega
    clear wR
    go_wp2_with fail
    refine (aK _ _ _ _).mono ?_
    rintro e w' ⟨rfl,rfl⟩
    rw [xZ]
    clear xZ
    go_wp2_with fail
    go_ret2
    exact ⟨by rw [HZ.out]; rfl,Below.refl _ _⟩
 ·have hi : ¬ (1:Int) < (s.size:Int):=oM
  have hT:wB (bl s) (bl s) false:=.inr ⟨rfl,rfl,.inr (by rw [an]; omega)⟩
  go_enter Tryz.func135,Tryz.ntmps135
  go_upto_region 4 with fail
  by_cases wR:1≤s.size∧s.size≤6
  ·obtain ⟨CP,Ir⟩:=wR
   have HT:=jZ hT
   clear hT
   have i1:(1:Int)≤(s.size:Int):=oM
   have i6:(s.size:Int)≤6:=oM
   have xZ:cg (s.size:Int) 1 6=true:=iV.2 ⟨i1,i6⟩
   go_wp2_with fail
   refine (aK _ _ _ _).mono ?_
   rintro e w' ⟨rfl,rfl⟩
   rw [xZ]
   clear xZ
   go_wp2_with fail
   go_loopw [5,6] (fun m i wr=>∃ (k acc:Nat),k≤s.size∧i=O U k∧m=O U acc∧acc < 1000000∧w=wr∧Hid (Lib.decFrom 0 ((bl s).take k)=some acc)) (fun _ i _=>s.size - (intOf i).toNat)
   case atStart=>exact ⟨0,0,Nat.zero_le _,rfl,rfl,oM,rfl,by simp [Lib.decFrom,Hid]⟩
   case round =>
    obtain ⟨k,acc,hk,rfl,rfl,Am,rfl,HD⟩:=hrel
    by_cases wQ:k < s.size
    ·by_cases hd:48≤s[k].toNat∧s[k].toNat≤57
     ·obtain ⟨Ae,Af⟩:=hd
      have yW:Hid (Lib.decFrom 0 ((bl s).take (k+1))=some (acc * 10+(s[k].toNat - 48))) :=
       Lib.decFrom_take (bl s) k 0 acc s[k] (s[k].toNat - 48) HD.out (List.getElem?_eq_getElem (l:=bl s) wQ) (by unfold Lib.digitVal; rw [if_pos ⟨Ae,Af⟩])
      have AQ:acc * 10+(s[k].toNat - 48) < 1000000:=by
       have h1:=Lib.decFrom_lt _ _ _ yW.out
       have h2:((bl s).take (k+1)).length≤6:=by rw [List.length_take]; omega
       have h3:=Nat.pow_le_pow_right (show 0 < 10 by omega) h2
       omega
      have j1:(48:Int)≤(s[k].toNat:Int):=oM
      have j2:(s[k].toNat:Int)≤57:=oM
      have j3:IntKind.u8.wrap ((s[k].toNat:Int) - 48)=(s[k].toNat:Int) - 48:=IntWalk.u8_in _ oM
      have j4:IntKind.i64.wrap ((s[k].toNat:Int) - 48)=(s[k].toNat:Int) - 48:=IntWalk.i64_in _ oM
      have j5:IntKind.i64.wrap (10 * (acc:Int))=10 * (acc:Int):=IntWalk.i64_in _ oM
      have j6:IntKind.i64.wrap (10 * (acc:Int)+((s[k].toNat:Int) - 48))=10 * (acc:Int)+((s[k].toNat:Int) - 48):=IntWalk.i64_in _ oM
      clear HD Am
      go_wp2_with fail
      go_roundw
      case rel=>exact ⟨k+1,acc * 10+(s[k].toNat - 48),oM,by go_num,by go_num,AQ,by first | trivial | rfl,yW⟩
      case measure=>simp [intOf] <;> omega
     ·have HZ:Hid (dh (bl s)=none):=by
       cases hq:dh (bl s) with
       | none=>rfl
       | some n =>
        exfalso
        obtain ⟨_,_,h3,_⟩:=hU HT.out hq
        obtain ⟨d,GT⟩:=Lib.digit_of_decFrom _ _ _ h3 k s[k] (List.getElem?_eq_getElem (l:=bl s) wQ)
        have:=Lib.digitVal_eq GT
        omega
      by_cases h48:s[k].toNat < 48
      ·have j1:(s[k].toNat:Int) < 48:=oM
       clear hd
       go_wp2_with fail
       go_ret2
       exact ⟨by rw [HZ.out]; rfl,Below.refl _ _⟩
      ·have j1 : ¬ (s[k].toNat:Int) < 48:=oM
       have j2:(57:Int) < (s[k].toNat:Int):=oM
       clear hd h48
       go_wp2_with fail
       go_ret2
       exact ⟨by rw [HZ.out]; rfl,Below.refl _ _⟩
    ·obtain rfl:k=s.size:=oM
     have HF:Hid (Lib.decFrom 0 (bl s)=some acc):=by
      have h1:=HD.out
      rw [List.take_of_length_le (by rw [an]; exact Nat.le_refl _)] at h1; exact h1
     clear wQ HD
     have zO:Hid (∀ W:World,Calls wH 71 #[O U ((acc:Int))] W fun e w'=>e=.returned (wG ⟨(Lib.itoa ((acc:Int))).toArray⟩)∧Below W.heap.size W w'):=fun W=>mz ((acc:Int)) W oM oM
     obtain ⟨nt,By⟩ : ∃ x:ByteArray,x=⟨(Lib.itoa ((acc:Int))).toArray⟩:=⟨_,rfl⟩
     have AR:bl nt=Lib.itoa ((acc:Int)):=by rw [By,bo]
     rw [← By] at zO
     clear By
     have j7:IntKind.i64.wrap (-(acc:Int)) = -(acc:Int):=IntWalk.i64_in _ oM
     have j8:True:=trivial
     by_cases hs:Lib.itoa ((acc:Int))=bl s
     ·have HZ:Hid (dh (bl s)=some ((acc:Int))):=ny ⟨oM,oM⟩ hs
      have hb:(nt.toList == s.toList)=true:=by rw [iB,AR,hs]; simp
      clear hs AR
      go_wp2_with fail
      refine (zO.out _).mono ?_
      rintro e w1 ⟨rfl,wN⟩
      go_wp2_with fail
      go_ret2
      exact ⟨by rw [HZ.out]; rfl,wN⟩
     ·have HZ:Hid (dh (bl s)=none):=by
       cases hq:dh (bl s) with
       | none=>rfl
       | some n =>
        exfalso
        obtain ⟨_,_,h3,h4⟩:=hU HT.out hq
        rw [HF.out] at h3
        injection h3 with h3
        have h5:n=(acc:Int):=by rw [h4]; simp; omega
        rw [← h5] at hs
        exact hs (iS hq).2
      have hb:(nt.toList == s.toList)=false:=by rw [iB,AR]; simp [hs]
      clear hs AR
      go_wp2_with fail
      refine (zO.out _).mono ?_
      rintro e w1 ⟨rfl,wN⟩
      go_wp2_with fail
      go_ret2
      exact ⟨by rw [HZ.out]; rfl,wN⟩
  ·have HZ:Hid (dh (bl s)=none):=by
    cases hq:dh (bl s) with
    | none=>rfl
    | some n =>
     exfalso
     obtain ⟨h1,h2,_⟩:=hU hT hq
     rw [an] at h1 h2
     exact wR ⟨h1,h2⟩
   have xZ:cg (s.size:Int) 1 6=false:=by
    rw [← Bool.not_eq_true,iV]; omega
   clear wR
   go_wp2_with fail
   refine (aK _ _ _ _).mono ?_
   rintro e w' ⟨rfl,rfl⟩
   rw [xZ]
   clear xZ
   go_wp2_with fail
   go_ret2
   exact ⟨by rw [HZ.out]; rfl,Below.refl _ _⟩
theorem oB {s:List UInt8} {n:Int} (h:dh s=some n):Lib.atoiAll s=.ok n:=by
 obtain ⟨h1,h2⟩:=iS h
 rw [← h2]; exact rj h1
theorem ql (s:ByteArray) (w:World) (hs:s.size≤1000000000) (hL:LW w) :
  Calls wH 96 #[wG s] w (jo s w):=by
 rcases ha:Lib.atoiAll s.data.toList with v | _ | _
 ·skip
  obtain ⟨v0,v1⟩:=Lib.atoiAll_bounds ha
  have HA:=jZ (Tryz.strconv_Atoi_ok s oM v ha w)
  have hv:∀ n,dh (bl s)=some n→n=v:=fun n hn=>by
   have h1:=oB hn
   have h2:Lib.atoiAll (bl s)=.ok v:=ha
   rw [h2] at h1; injection h1 with h1; exact h1.symm
  by_cases hr:cg v (-999999) 999999=true
  ·have Kd:=iV.1 hr
   have HI:Hid (∀ W,hQ W→Calls wH 69 #[O U v] W fun e w'=>e=.returned (wG ⟨(Lib.itoa v).toArray⟩)∧Below W.heap.size W w'):=fun W hW=>cq v W v0 v1 hW
   obtain ⟨nt,By⟩ : ∃ x:ByteArray,x=⟨(Lib.itoa v).toArray⟩:=⟨_,rfl⟩
   have AR:bl nt=Lib.itoa v:=by rw [By,bo]
   rw [← By] at HI
   clear By
   have HZ:Hid ((nt.toList == s.toList)=(dh (bl s)).isSome∧((nt.toList == s.toList)=true→dh (bl s)=some v)∧((nt.toList == s.toList)=false→dh (bl s)=none)):=by
    rw [iB,AR]
    by_cases hq:Lib.itoa v=bl s
    ·have h1:=ny (n:=v) ⟨oM,oM⟩ hq
     rw [h1]; simp [hq,Hid]
    ·have h1:dh (bl s)=none:=by
      cases LF:dh (bl s) with
      | none=>rfl
      | some n=>exfalso; have h2:=hv n LF; subst h2; exact hq (iS LF).2
     rw [h1]; simp [hq,Hid]
   clear AR hv
   obtain ⟨bb,ze⟩ : ∃ b:Bool,(nt.toList == s.toList)=b:=⟨_,rfl⟩
   rw [ze] at HZ
   have fin:∀ w2,Below w.heap.size w w2→Hid (LW w2):=fun w2 h2=>hL.then h2
   go_enter Tryz.func96,Tryz.ntmps96
   go_wp2_with fail
   refine HA.out.mono ?_
   rintro e w1 ⟨rfl,AZ⟩
   have wN:Below w.heap.size w w1:=by
    rcases AZ with rfl | ⟨t,rfl⟩
    ·exact Below.refl _ _
    ·exact Lib.bytesWorld_below _ _ _
   have BY:=fin w1 wN
   clear AZ fin
   go_wp2_with fail
   refine (aN _ _ _ _).mono ?_
   rintro e w' ⟨rfl,rfl⟩
   rw [hr]
   go_wp2_with fail
   refine (HI.out _ BY.out.tab).mono ?_
   rintro e w2 ⟨rfl,wM⟩
   have HB:=jZ (av wN wM)
   clear wN wM BY
   cases bb
   ·go_wp2_with fail
    go_ret2
    exact ⟨by rw [HZ.out.2.2 (by first | trivial | rfl)]; rfl,HB.out⟩
   ·go_wp2_with fail
    go_ret2
    exact ⟨by rw [HZ.out.2.1 (by first | trivial | rfl)]; rfl,HB.out⟩
  ·have HZ:Hid (dh (bl s)=none):=by
    cases hq:dh (bl s) with
    | none=>rfl
    | some n =>
     exfalso
     have h2:=hv n hq; subst h2
     obtain ⟨h3,_⟩:=iS hq
     exact hr (iV.2 ⟨h3.1,h3.2⟩)
   have hr' : cg v (-999999) 999999=false:=by simpa using hr
   clear hv hr
   go_enter Tryz.func96,Tryz.ntmps96
   go_wp2_with fail
   refine HA.out.mono ?_
   rintro e w1 ⟨rfl,AZ⟩
   have wN:Below w.heap.size w w1:=by
    rcases AZ with rfl | ⟨t,rfl⟩
    ·exact Below.refl _ _
    ·exact Lib.bytesWorld_below _ _ _
   clear AZ
   go_wp2_with fail
   refine (aN _ _ _ _).mono ?_
   rintro e w' ⟨rfl,rfl⟩
   rw [hr']
   go_wp2_with fail
   go_ret2
   exact ⟨by rw [HZ.out]; rfl,wN⟩
 ·skip
  have HZ:Hid (dh (bl s)=none):=by
   cases hq:dh (bl s) with
   | none=>rfl
   | some n=>exfalso; have h1:=oB hq; rw [show Lib.atoiAll (bl s)=_ from ha] at h1; cases h1
  obtain ⟨ev,Hh,DW⟩:=hL.syn
  have HA:=jZ (Tryz.strconv_Atoi_syntax s oM ha ev w Hh DW)
  clear Hh DW
  go_enter Tryz.func96,Tryz.ntmps96
  go_wp2_with fail
  refine HA.out.mono ?_
  rintro e w1 ⟨N,rfl,_,_,wN⟩
  go_wp2_with fail
  go_ret2
  exact ⟨by rw [HZ.out]; rfl,wN⟩
 ·skip
  have HZ:Hid (dh (bl s)=none):=by
   cases hq:dh (bl s) with
   | none=>rfl
   | some n=>exfalso; have h1:=oB hq; rw [show Lib.atoiAll (bl s)=_ from ha] at h1; cases h1
  obtain ⟨ev,Hh,DW⟩:=hL.rng
  have HA:=jZ (Tryz.strconv_Atoi_range s oM ha ev w Hh DW)
  clear Hh DW
  go_enter Tryz.func96,Tryz.ntmps96
  go_wp2_with fail
  refine HA.out.mono ?_
  rintro e w1 ⟨N,rfl,_,_,wN⟩
  go_wp2_with fail
  go_ret2
  exact ⟨by rw [HZ.out]; rfl,wN⟩
theorem oC (b:UInt8):∀ (fuel:Nat) (l:List UInt8),l.length < fuel→Lib.splitK [b] 0 (Lib.countFrom [b] fuel l) l=aI b l∧(aI b l).length=Lib.countFrom [b] fuel l+1
 | 0,l,h=>absurd h oM
 | fuel+1,l,h=>by
  rcases jy l b with ⟨h1,h2⟩ | ⟨h1,h2⟩
  ·have hc:Lib.countFrom [b] (fuel+1) l=0:=by unfold Lib.countFrom; rw [h2]; rfl
   rw [hc,jC h1]; exact ⟨rfl,rfl⟩
  ·have hp:=dd h1
   have hl:=congrArg List.length hp
   simp only [List.length_append,List.length_cons,List.length_drop] at hl
   obtain ⟨r,hr⟩ : ∃ r,l.drop ((cP b l).length+1)=r:=⟨_,rfl⟩
   have Ke:r.length < fuel:=by rw [← hr,List.length_drop]; omega
   obtain ⟨i1,i2⟩:=oC b fuel r Ke
   have wT : ¬ ((((cP b l).length:Nat):Int) == -1)=true:=fun e=>by have:=beq_iff_eq.1 e; omega
   have hc:Lib.countFrom [b] (fuel+1) l=Lib.countFrom [b] fuel r+1:=by
    rw [Lib.countFrom,h2,if_neg wT,Int.toNat_natCast,show ([b] : List UInt8).length=1 from rfl,hr]; omega
   have hs:aI b l=cP b l :: aI b r:=by
    rw [← hr]
    have:=pw (r:=l.drop ((cP b l).length+1)) (fG b l)
    rw [← hp] at this; exact this
   rw [hc,hs]
   refine ⟨?_,by rw [List.length_cons,i2]⟩
   rw [Lib.splitK,h2,if_neg wT,Int.toNat_natCast,show ([b] : List UInt8).length=1 from rfl,hr,i1,Nat.add_zero,nT]
theorem qm (s:ByteArray) (b:UInt8):((Lib.splitB ⟨#[b]⟩ 0 (Lib.countB s ⟨#[b]⟩) s).map Value.string)=dP (aI b (bl s))∧Lib.countB s ⟨#[b]⟩+1=(aI b (bl s)).length:=by
 have h1:=Lib.splitB_data ⟨#[b]⟩ 0 (Lib.countB s ⟨#[b]⟩) s
 have h2:Lib.countB s ⟨#[b]⟩=Lib.countFrom [b] ((bl s).length+1) (bl s):=by
  rfl
 obtain ⟨h3,h4⟩:=oC b ((bl s).length+1) (bl s) oM
 refine ⟨?_,by rw [h2,h4]⟩
 have h5:(Lib.splitB ⟨#[b]⟩ 0 (Lib.countB s ⟨#[b]⟩) s).map bl=aI b (bl s):=by
  rw [← h3,← h2]; exact h1
 rw [← h5,dP,List.map_map]
 exact List.map_congr_left fun x _=>congrArg Value.string (ee rfl)
theorem pE (s:ByteArray) (b:UInt8) (w:World) (hs:s.size≤1000000000) (hL:LW w) :
  Calls wH 59 #[wG s,wG ⟨#[b]⟩] w fun e w'=>e=.returned (F (some ⟨w.heap.size,0,none⟩) (aI b (bl s)).length (aI b (bl s)).length)∧ai w' w.heap.size 9 (dP (aI b (bl s)))∧Below w.heap.size w w':=by
 obtain ⟨m,hm⟩:=hL.ml
 obtain ⟨h1,h2⟩:=qm s b
 refine (Tryz.strings_Split s ⟨#[b]⟩ m w oM hm (Nat.le_refl 1)).mono ?_
 rintro e w' ⟨rfl,rfl⟩
 rw [h1,h2]
 have:=ai.new w 9 (dP (aI b (bl s))).toArray
 exact ⟨rfl,by simpa using this,bZ w _⟩
theorem nr (s:ByteArray) (w:World) (hs:s.size≤4000) :
  Calls wH 32 #[wG s,wG ⟨#[10]⟩] w fun e w'=>∃ (g c:Nat) (rest:List Value),e=.returned (.tuple #[F (some ⟨g,0,none⟩) (aI 10 (bl s)).length c,.bool true])∧ai w' g 9 (dP (aI 10 (bl s))++rest)∧w.heap.size≤g∧Below w.heap.size w w':=by
 have h1 : ¬ (4000:Int) < (s.size:Int):=oM
 have h2:((⟨#[10]⟩ : ByteArray).size:Int)=1:=rfl
 have HS:=jZ (jO s 10 w oM)
 clear hs
 go_enter Tryz.func32,Tryz.ntmps32
 go_wp2_with fail
 refine HS.out.mono ?_
 rintro e w1 ⟨g,c,rest,rfl,hL,hg,hb⟩
 go_wp2
 refine bodyPost_ret (v:=.tuple #[F (some ⟨g,0,none⟩) (aI 10 (bl s)).length c,.bool true]) (by simp [results,Tryz.results32,go_sem, *]) rfl ?_
 exact ⟨g,c,rest,rfl,hL,hg,hb⟩
end Go.Proofs.YtoeoimhemojdeaaGreatDoor
