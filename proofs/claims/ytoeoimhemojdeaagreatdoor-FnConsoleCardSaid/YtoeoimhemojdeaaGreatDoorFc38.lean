/- Lemmas. -/
import Derived.Shelf.Strings.OnBuilder
import Derived.Test.YtoeoimhemojdeaaGreatDoorProg
import Derived.Test.YtoeoimhemojdeaaGreatDoorFc37

set_option linter.unusedVariables false
set_option linter.unusedSimpArgs false
set_option maxHeartbeats 8000000
open Go.Value renaming int → O, slice → F, string → vw
open Go.IntKind renaming i64 → U
open Go.Proofs.Tryz renaming prog → vx

namespace Go.Proofs.YtoeoimhemojdeaaGreatDoor
open Go.RowKit
theorem dG {w:World} {B g:Nat} {y:Oc} {TA OA:Option Addr} {tc oc:Nat} {cs:List Value} (u0 u1 u2 u3 u4 u5 u6 u7:Value) (hL:ah w g 42 cs) (h1:w.ownsRow B 104 2 (F TA y.t.length tc) y.t.length (y.t.flatMap aq.enc)) (h2:w.ownsRow B 147 3 (F OA y.o.length oc) y.o.length (y.o.flatMap ae.enc)) :
  ((((((((w.setCell ⟨g,0,none⟩ (u0)).setCell ⟨g,1,none⟩ (u1)).setCell ⟨g,2,none⟩ (u2)).setCell ⟨g,3,none⟩ (u3)).setCell ⟨g,4,none⟩ (u4)).setCell ⟨g,5,none⟩ (u5)).setCell ⟨g,6,none⟩ (u6)).setCell ⟨g,7,none⟩ (u7)).ownsRow B 104 2 (F TA y.t.length tc) y.t.length (y.t.flatMap aq.enc)∧((((((((w.setCell ⟨g,0,none⟩ (u0)).setCell ⟨g,1,none⟩ (u1)).setCell ⟨g,2,none⟩ (u2)).setCell ⟨g,3,none⟩ (u3)).setCell ⟨g,4,none⟩ (u4)).setCell ⟨g,5,none⟩ (u5)).setCell ⟨g,6,none⟩ (u6)).setCell ⟨g,7,none⟩ (u7)).ownsRow B 147 3 (F OA y.o.length oc) y.o.length (y.o.flatMap ae.enc):=by
 have gr:w.grownBy ((((((((w.setCell ⟨g,0,none⟩ (u0)).setCell ⟨g,1,none⟩ (u1)).setCell ⟨g,2,none⟩ (u2)).setCell ⟨g,3,none⟩ (u3)).setCell ⟨g,4,none⟩ (u4)).setCell ⟨g,5,none⟩ (u5)).setCell ⟨g,6,none⟩ (u6)).setCell ⟨g,7,none⟩ (u7)) (some g):=ab (g:=g) (i:=7) (u:=u7) (ab (g:=g) (i:=6) (u:=u6) (ab (g:=g) (i:=5) (u:=u5) (gw5 w g u0 u1 u2 u3 u4)))
 exact ⟨ak h1 hL ft gr,ak h2 hL fu gr⟩
theorem us {x X:aO} (h:X.c=x.c) (line:ByteArray):iL X line=iL x line:=by
 cases x; cases X
 simp only [aO.c,Oc.mk.injEq] at h
 obtain ⟨rfl,rfl,rfl,rfl,rfl⟩:=h
 rfl
theorem good_c {x X:aO} (h:X.c=x.c) (G:bH x):bH X:=by
 have e:X.c.good=x.c.good:=by rw [h]
 have e1:an x=true:=bi.2 G
 have e2:X.c.good=true:=e.trans e1
 exact bi.1 (show an X=true from e2)
theorem tn {x:aO} (h:x.c.good=true) (w0:ByteArray) (ns:List Int):(fx x (bD x w0 ns)).good=true:=by
 have key:∀ s:Option cU,(fx x (s.bind (bW x))).good=true:=fun s=>by
  cases s with
  | none=>exact h
  | some s =>
   show (fx x (bW x s)).good=true
   unfold bW
   cases hN:fY x.c s with
   | none=>exact h
   | some z=>exact (fz hN).1
 unfold bD
 split
 ·rw [lw]; exact h
 ·rw [lw]; exact h
 ·exact key _
 ·exact key _
 ·exact h
theorem oQ {x:aO} (h:x.c.good=true) (line:ByteArray):(fx x (iL x line)).good=true:=by
 unfold iL
 cases dQ ((aK 32 (bl line)).drop 1) with
 | none=>exact h
 | some ns=>exact tn h _ _
theorem uZ {x X:aO} (h:X.c=x.c) (R:Option (Oc × ByteArray)):fx X R=fx x R:=by cases R <;> simp [fx,h]
def cK (w:World) (x:aO) (l:Lg) (line:ByteArray) (e:Ending) (w' : World):Prop :=
 ∃ v,e=.returned (.tuple #[v,vw (f8 x l line)])∧iv w' w.heap.size (fq x l line) (fL x l line) v∧Below w.heap.size w w'
theorem cK.mk {w w' : World} {x:aO} {l l' : Lg} {line T:ByteArray} {y:Oc} {v:Value} (hT:f8 x l line=T) (hO:fq x l line=y) (hL:fL x l line=l') (h1:iv w' w.heap.size y l' v) (h2:Below w.heap.size w w'):cK w x l line (.returned (.tuple #[v,vw T])) w':=by
 subst hT; subst hO; subst hL; exact ⟨v,rfl,h1,h2⟩
set_option maxRecDepth 100000 in
theorem tp (x:aO) (l:Lg) (line:ByteArray) (w:World) (h:aP w w.heap.size x) (tl:x.t.length≤1048576) (ol:x.o.length≤1048576) (hs:l.D.size+l.P.size≤2000000) (yF:line.size≤1048576) (vF:dV x l=false) :
  Calls vx 14 #[aI x l,vw line] w (cK w x l line):=by
 have L1:=(ah.new w 42 #[F x.TA x.t.length x.tc,F x.OA x.o.length x.oc,O U x.gt,O U x.sd,O U x.ms,vw l.D,vw l.P,O U l.n]).alloc (.cells #[F none 0 0,F none 0 0,O U 0,O U 0,O U 0,vw ⟨#[]⟩,vw ⟨#[]⟩,O U 0] 42)
 have L2:=ah.new1 w (.cells #[F x.TA x.t.length x.tc,F x.OA x.o.length x.oc,O U x.gt,O U x.sd,O U x.ms,vw l.D,vw l.P,O U l.n] 42) 42 #[F none 0 0,F none 0 0,O U 0,O U 0,O U 0,vw ⟨#[]⟩,vw ⟨#[]⟩,O U 0]
 have b1:=bZ w (.cells #[F x.TA x.t.length x.tc,F x.OA x.o.length x.oc,O U x.gt,O U x.sd,O U x.ms,vw l.D,vw l.P,O U l.n] 42)
 have b2:=b1.alloc b1.size (.cells #[F none 0 0,F none 0 0,O U 0,O U 0,O U 0,vw ⟨#[]⟩,vw ⟨#[]⟩,O U 0] 42)
 have hW:=h.up b2 nR
 have we:w.heap.size≤w.heap.size+1:=oM
 clear b1 h
 go_enter Tryz.func14,Tryz.ntmps14
 go_wp2_with fail
 generalize ((w.alloc (.cells #[F x.TA x.t.length x.tc,F x.OA x.o.length x.oc,O U x.gt,O U x.sd,O U x.ms,vw l.D,vw l.P,O U l.n] 42)).alloc (.cells #[F none 0 0,F none 0 0,O U 0,O U 0,O U 0,vw ⟨#[]⟩,vw ⟨#[]⟩,O U 0] 42))=W at L1 L2 b2 hW ⊢
 refine (io x l W hW tl ol).mono ?_
 rintro e W1 ⟨v,rfl,⟨TA,tc,OA,oc,rfl,yG,yH⟩,hb⟩
 go_upto_region 2 with fail
 have vE:=(Below.refl W1.heap.size W1).alloc nR (.cells #[F TA x.c.t.length tc,F OA x.c.o.length oc,O U x.c.gt,O U x.c.sd,O U x.c.ms,vw l.D,vw l.P,O U l.n] 42)
 have vC:=av hb vE
 have J1:=L1.below vC L1.lt
 have J2:=L2.below vC L2.lt
 have J6:=ah.new W1 42 #[F TA x.c.t.length tc,F OA x.c.o.length oc,O U x.c.gt,O U x.c.sd,O U x.c.ms,vw l.D,vw l.P,O U l.n]
 have b4:=av b2 vC
 have xl:=ai (ac yG vE) b2.size
 have xm:=ai (ac yH vE) b2.size
 have zb:=hW.then vC
 have hg26:w.heap.size+1 < W1.heap.size:=jL L2.lt hb.size
 clear vE vC hb yG yH L1 L2 b2 hW
 generalize W1.alloc (.cells #[F TA x.c.t.length tc,F OA x.c.o.length oc,O U x.c.gt,O U x.c.sd,O U x.c.ms,vw l.D,vw l.P,O U l.n] 42)=W2 at J1 J2 J6 b4 xl xm zb ⊢
 generalize W1.heap.size=g6 at J6 hg26 ⊢
 have xL:w.heap.size≤g6:=oM
 obtain ⟨c0,c1,c2,c3,c4,c5,c6,c7⟩:=cells8 J1
 go_wp2_with fail
 refine (fI x l W2 zb hs).mono ?_
 rintro e W3 ⟨rfl,vQ⟩
 have K1:=J1.below vQ J1.lt
 have K2:=J2.below vQ J2.lt
 have K6:=J6.below vQ J6.lt
 have b5:=b4.trans (vQ.mono b4.size)
 have wJ:=ac xl vQ
 have wa:=ac xm vQ
 have wE:=zb.then vQ
 clear vQ J1 J2 J6 b4 xl xm zb c0 c1 c2 c3 c4 c5 c6 c7
 rw [vF]
 obtain ⟨p0,p1,p2,p3,p4,p5,p6,p7⟩:=cells8 K6
 obtain ⟨z0,z1,z2,z3,z4,z5,z6,z7⟩:=cells8 K2
 obtain ⟨f0,f1,f2,f3,f4,f5,f6,f7⟩:=frz8 K2
 obtain ⟨wh,vZ⟩:=dG (F TA x.c.t.length tc) (F OA x.c.o.length oc) (O U x.c.gt) (O U x.c.sd) (O U x.c.ms) (vw l.D) (vw l.P) (O U l.n) K2 wJ wa
 have bz:=jZ (eO (g:=w.heap.size+1) (b5) we (F TA x.c.t.length tc) (F OA x.c.o.length oc) (O U x.c.gt) (O U x.c.sd) (O U x.c.ms) (vw l.D) (vw l.P) (O U l.n))
 have BO:=jZ wh
 have AR:=jZ vZ
 clear K1 K2 K6 b5 wJ wa wE wh vZ
 go_wp2_with fail
 refine bodyPost_ret (v:=.tuple #[.agg #[F TA x.c.t.length tc,F OA x.c.o.length oc,O U x.c.gt,O U x.c.sd,O U x.c.ms,vw l.D,vw l.P,O U l.n],vw ⟨#[110,111]⟩]) (by simp [results,Tryz.results14,go_sem, *]) rfl (cK.mk (by unfold f8; rw [if_neg (by rw [vF]; exact Bool.false_ne_true)]) (by unfold fq; rw [if_neg (by rw [vF]; exact Bool.false_ne_true)]) (by unfold fL; rw [if_neg (by rw [vF]; exact Bool.false_ne_true)]) ⟨TA,tc,OA,oc,rfl,BO.out,AR.out⟩ bz.out)
set_option maxRecDepth 100000 in
theorem rM (x:aO) (l:Lg) (line:ByteArray) (w:World) (h:aP w w.heap.size x) (tl:x.t.length≤1048576) (ol:x.o.length≤1048576) (hs:l.D.size+l.P.size≤2000000) (yF:line.size≤1048576) (vF:dV x l=true) (xh:dq.ok ⟨line,⟨#[]⟩⟩=false) :
  Calls vx 14 #[aI x l,vw line] w (cK w x l line):=by
 have L1:=(ah.new w 42 #[F x.TA x.t.length x.tc,F x.OA x.o.length x.oc,O U x.gt,O U x.sd,O U x.ms,vw l.D,vw l.P,O U l.n]).alloc (.cells #[F none 0 0,F none 0 0,O U 0,O U 0,O U 0,vw ⟨#[]⟩,vw ⟨#[]⟩,O U 0] 42)
 have L2:=ah.new1 w (.cells #[F x.TA x.t.length x.tc,F x.OA x.o.length x.oc,O U x.gt,O U x.sd,O U x.ms,vw l.D,vw l.P,O U l.n] 42) 42 #[F none 0 0,F none 0 0,O U 0,O U 0,O U 0,vw ⟨#[]⟩,vw ⟨#[]⟩,O U 0]
 have b1:=bZ w (.cells #[F x.TA x.t.length x.tc,F x.OA x.o.length x.oc,O U x.gt,O U x.sd,O U x.ms,vw l.D,vw l.P,O U l.n] 42)
 have b2:=b1.alloc b1.size (.cells #[F none 0 0,F none 0 0,O U 0,O U 0,O U 0,vw ⟨#[]⟩,vw ⟨#[]⟩,O U 0] 42)
 have hW:=h.up b2 nR
 have we:w.heap.size≤w.heap.size+1:=oM
 clear b1 h
 go_enter Tryz.func14,Tryz.ntmps14
 go_wp2_with fail
 generalize ((w.alloc (.cells #[F x.TA x.t.length x.tc,F x.OA x.o.length x.oc,O U x.gt,O U x.sd,O U x.ms,vw l.D,vw l.P,O U l.n] 42)).alloc (.cells #[F none 0 0,F none 0 0,O U 0,O U 0,O U 0,vw ⟨#[]⟩,vw ⟨#[]⟩,O U 0] 42))=W at L1 L2 b2 hW ⊢
 refine (io x l W hW tl ol).mono ?_
 rintro e W1 ⟨v,rfl,⟨TA,tc,OA,oc,rfl,yG,yH⟩,hb⟩
 go_upto_region 2 with fail
 have vE:=(Below.refl W1.heap.size W1).alloc nR (.cells #[F TA x.c.t.length tc,F OA x.c.o.length oc,O U x.c.gt,O U x.c.sd,O U x.c.ms,vw l.D,vw l.P,O U l.n] 42)
 have vC:=av hb vE
 have J1:=L1.below vC L1.lt
 have J2:=L2.below vC L2.lt
 have J6:=ah.new W1 42 #[F TA x.c.t.length tc,F OA x.c.o.length oc,O U x.c.gt,O U x.c.sd,O U x.c.ms,vw l.D,vw l.P,O U l.n]
 have b4:=av b2 vC
 have xl:=ai (ac yG vE) b2.size
 have xm:=ai (ac yH vE) b2.size
 have zb:=hW.then vC
 have hg26:w.heap.size+1 < W1.heap.size:=jL L2.lt hb.size
 clear vE vC hb yG yH L1 L2 b2 hW
 generalize W1.alloc (.cells #[F TA x.c.t.length tc,F OA x.c.o.length oc,O U x.c.gt,O U x.c.sd,O U x.c.ms,vw l.D,vw l.P,O U l.n] 42)=W2 at J1 J2 J6 b4 xl xm zb ⊢
 generalize W1.heap.size=g6 at J6 hg26 ⊢
 have xL:w.heap.size≤g6:=oM
 obtain ⟨c0,c1,c2,c3,c4,c5,c6,c7⟩:=cells8 J1
 go_wp2_with fail
 refine (fI x l W2 zb hs).mono ?_
 rintro e W3 ⟨rfl,vQ⟩
 have K1:=J1.below vQ J1.lt
 have K2:=J2.below vQ J2.lt
 have K6:=J6.below vQ J6.lt
 have b5:=b4.trans (vQ.mono b4.size)
 have wJ:=ac xl vQ
 have wa:=ac xm vQ
 have wE:=zb.then vQ
 clear vQ J1 J2 J6 b4 xl xm zb c0 c1 c2 c3 c4 c5 c6 c7
 rw [vF]
 go_wp2_with fail
 refine (gE ⟨line,⟨#[]⟩⟩ W3 (jT yF dD) (show (0:Nat)≤1000000000 by omega)).mono ?_
 rintro e W4 ⟨rfl,vN⟩
 have N1:=K1.below vN K1.lt
 have N2:=K2.below vN K2.lt
 have N6:=K6.below vN K6.lt
 have b6:=b5.trans (vN.mono b5.size)
 have xd:=ac wJ vN
 have xe:=ac wa vN
 have wP:=wE.then vN
 clear vN K1 K2 K6 b5 wJ wa wE
 rw [xh]
 obtain ⟨p0,p1,p2,p3,p4,p5,p6,p7⟩:=cells8 N6
 obtain ⟨z0,z1,z2,z3,z4,z5,z6,z7⟩:=cells8 N2
 obtain ⟨f0,f1,f2,f3,f4,f5,f6,f7⟩:=frz8 N2
 obtain ⟨wh,vZ⟩:=dG (F TA x.c.t.length tc) (F OA x.c.o.length oc) (O U x.c.gt) (O U x.c.sd) (O U x.c.ms) (vw l.D) (vw l.P) (O U l.n) N2 xd xe
 have bz:=jZ (eO (g:=w.heap.size+1) (b6) we (F TA x.c.t.length tc) (F OA x.c.o.length oc) (O U x.c.gt) (O U x.c.sd) (O U x.c.ms) (vw l.D) (vw l.P) (O U l.n))
 have BO:=jZ wh
 have AR:=jZ vZ
 clear N1 N2 N6 b6 xd xe wP wh vZ
 go_wp2_with fail
 refine bodyPost_ret (v:=.tuple #[.agg #[F TA x.c.t.length tc,F OA x.c.o.length oc,O U x.c.gt,O U x.c.sd,O U x.c.ms,vw l.D,vw l.P,O U l.n],vw ⟨#[98,97,100]⟩]) (by simp [results,Tryz.results14,go_sem, *]) rfl (cK.mk (by unfold f8; rw [if_pos vF,if_neg (by rw [xh]; exact Bool.false_ne_true)]) (by unfold fq; rw [if_pos vF,if_neg (by rw [xh]; exact Bool.false_ne_true)]) (by unfold fL; rw [if_pos vF,if_neg (by rw [xh]; exact Bool.false_ne_true)]) ⟨TA,tc,OA,oc,rfl,BO.out,AR.out⟩ bz.out)
set_option maxRecDepth 100000 in
theorem qG (x:aO) (l:Lg) (line:ByteArray) (w:World) (h:aP w w.heap.size x) (tl:x.t.length≤1048576) (ol:x.o.length≤1048576) (hs:l.D.size+l.P.size≤2000000) (yF:line.size≤1048576) (vF:dV x l=true) (xh:dq.ok ⟨line,⟨#[]⟩⟩=true) (hn:l.n=60) :
  Calls vx 14 #[aI x l,vw line] w (cK w x l line):=by
 have vJ:(l.n == 60)=true:=by rw [hn]; rfl
 have HN:=jZ hn
 clear hn
 have L1:=(ah.new w 42 #[F x.TA x.t.length x.tc,F x.OA x.o.length x.oc,O U x.gt,O U x.sd,O U x.ms,vw l.D,vw l.P,O U l.n]).alloc (.cells #[F none 0 0,F none 0 0,O U 0,O U 0,O U 0,vw ⟨#[]⟩,vw ⟨#[]⟩,O U 0] 42)
 have L2:=ah.new1 w (.cells #[F x.TA x.t.length x.tc,F x.OA x.o.length x.oc,O U x.gt,O U x.sd,O U x.ms,vw l.D,vw l.P,O U l.n] 42) 42 #[F none 0 0,F none 0 0,O U 0,O U 0,O U 0,vw ⟨#[]⟩,vw ⟨#[]⟩,O U 0]
 have b1:=bZ w (.cells #[F x.TA x.t.length x.tc,F x.OA x.o.length x.oc,O U x.gt,O U x.sd,O U x.ms,vw l.D,vw l.P,O U l.n] 42)
 have b2:=b1.alloc b1.size (.cells #[F none 0 0,F none 0 0,O U 0,O U 0,O U 0,vw ⟨#[]⟩,vw ⟨#[]⟩,O U 0] 42)
 have hW:=h.up b2 nR
 have we:w.heap.size≤w.heap.size+1:=oM
 clear b1 h
 go_enter Tryz.func14,Tryz.ntmps14
 go_wp2_with fail
 generalize ((w.alloc (.cells #[F x.TA x.t.length x.tc,F x.OA x.o.length x.oc,O U x.gt,O U x.sd,O U x.ms,vw l.D,vw l.P,O U l.n] 42)).alloc (.cells #[F none 0 0,F none 0 0,O U 0,O U 0,O U 0,vw ⟨#[]⟩,vw ⟨#[]⟩,O U 0] 42))=W at L1 L2 b2 hW ⊢
 refine (io x l W hW tl ol).mono ?_
 rintro e W1 ⟨v,rfl,⟨TA,tc,OA,oc,rfl,yG,yH⟩,hb⟩
 go_upto_region 2 with fail
 have vE:=(Below.refl W1.heap.size W1).alloc nR (.cells #[F TA x.c.t.length tc,F OA x.c.o.length oc,O U x.c.gt,O U x.c.sd,O U x.c.ms,vw l.D,vw l.P,O U l.n] 42)
 have vC:=av hb vE
 have J1:=L1.below vC L1.lt
 have J2:=L2.below vC L2.lt
 have J6:=ah.new W1 42 #[F TA x.c.t.length tc,F OA x.c.o.length oc,O U x.c.gt,O U x.c.sd,O U x.c.ms,vw l.D,vw l.P,O U l.n]
 have b4:=av b2 vC
 have xl:=ai (ac yG vE) b2.size
 have xm:=ai (ac yH vE) b2.size
 have zb:=hW.then vC
 have hg26:w.heap.size+1 < W1.heap.size:=jL L2.lt hb.size
 clear vE vC hb yG yH L1 L2 b2 hW
 generalize W1.alloc (.cells #[F TA x.c.t.length tc,F OA x.c.o.length oc,O U x.c.gt,O U x.c.sd,O U x.c.ms,vw l.D,vw l.P,O U l.n] 42)=W2 at J1 J2 J6 b4 xl xm zb ⊢
 generalize W1.heap.size=g6 at J6 hg26 ⊢
 have xL:w.heap.size≤g6:=oM
 obtain ⟨c0,c1,c2,c3,c4,c5,c6,c7⟩:=cells8 J1
 go_wp2_with fail
 refine (fI x l W2 zb hs).mono ?_
 rintro e W3 ⟨rfl,vQ⟩
 have K1:=J1.below vQ J1.lt
 have K2:=J2.below vQ J2.lt
 have K6:=J6.below vQ J6.lt
 have b5:=b4.trans (vQ.mono b4.size)
 have wJ:=ac xl vQ
 have wa:=ac xm vQ
 have wE:=zb.then vQ
 clear vQ J1 J2 J6 b4 xl xm zb c0 c1 c2 c3 c4 c5 c6 c7
 rw [vF]
 go_wp2_with fail
 refine (gE ⟨line,⟨#[]⟩⟩ W3 (jT yF dD) (show (0:Nat)≤1000000000 by omega)).mono ?_
 rintro e W4 ⟨rfl,vN⟩
 have N1:=K1.below vN K1.lt
 have N2:=K2.below vN K2.lt
 have N6:=K6.below vN K6.lt
 have b6:=b5.trans (vN.mono b5.size)
 have xd:=ac wJ vN
 have xe:=ac wa vN
 have wP:=wE.then vN
 clear vN K1 K2 K6 b5 wJ wa wE
 rw [xh]
 obtain ⟨c0,c1,c2,c3,c4,c5,c6,c7⟩:=cells8 N1
 obtain ⟨p0,p1,p2,p3,p4,p5,p6,p7⟩:=cells8 N6
 obtain ⟨z0,z1,z2,z3,z4,z5,z6,z7⟩:=cells8 N2
 obtain ⟨f0,f1,f2,f3,f4,f5,f6,f7⟩:=frz8 N2
 obtain ⟨wh,vZ⟩:=dG (F TA x.c.t.length tc) (F OA x.c.o.length oc) (O U x.c.gt) (O U x.c.sd) (O U x.c.ms) (vw l.D) (vw l.P) (O U l.n) N2 xd xe
 have bz:=jZ (eO (g:=w.heap.size+1) (b6) we (F TA x.c.t.length tc) (F OA x.c.o.length oc) (O U x.c.gt) (O U x.c.sd) (O U x.c.ms) (vw l.D) (vw l.P) (O U l.n))
 have BO:=jZ wh
 have AR:=jZ vZ
 clear N1 N2 N6 b6 xd xe wP wh vZ
 go_wp2_with fail
 refine bodyPost_ret (v:=.tuple #[.agg #[F TA x.c.t.length tc,F OA x.c.o.length oc,O U x.c.gt,O U x.c.sd,O U x.c.ms,vw l.D,vw l.P,O U l.n],vw ⟨#[102,117,108,108]⟩]) (by simp [results,Tryz.results14,go_sem, *]) rfl (cK.mk (by unfold f8; rw [if_pos vF,if_pos xh,if_pos HN.out]) (by unfold fq; rw [if_pos vF,if_pos xh,if_pos HN.out]) (by unfold fL; rw [if_pos vF,if_pos xh,if_pos HN.out]) ⟨TA,tc,OA,oc,rfl,BO.out,AR.out⟩ bz.out)
set_option maxRecDepth 100000 in
theorem rO (x:aO) (l:Lg) (line:ByteArray) (w:World) (h:aP w w.heap.size x) (tl:x.t.length≤1048576) (ol:x.o.length≤1048576) (hs:l.D.size+l.P.size≤2000000) (yF:line.size≤1048576) (vF:dV x l=true) (xh:dq.ok ⟨line,⟨#[]⟩⟩=true) (hn : ¬ l.n=60) :
  Calls vx 14 #[aI x l,vw line] w (cK w x l line):=by
 have vJ:(l.n == 60)=false:=beq_false_of_ne hn
 have G:=nF vF
 have hl160:line.size≤1000:=by
  have h1:=(cQ.1 xh).2.1
  have h2:line.size≤160:=h1
  omega
 have DH:f8 x l line=iY x line:=by unfold f8; rw [if_pos vF,if_pos xh,if_neg hn]
 have Eq:fq x l line=qz x line:=by unfold fq; rw [if_pos vF,if_pos xh,if_neg hn]
 have Cz:fL x l line=cp l ⟨line,iY x line⟩:=by unfold fL; rw [if_pos vF,if_pos xh,if_neg hn]
 obtain ⟨R,hR⟩ : ∃ R,iL x line=R:=⟨_,rfl⟩
 have zF:iY x line=if 200 < (js R).size then ⟨#[108,111,110,103]⟩ else js R:=by
  unfold iY; rw [hR]; cases R with
  | none=>exact (if_neg dD).symm
  | some r=>rfl
 have zi:qz x line=fx x R:=by unfold qz; rw [hR]; cases R <;> rfl
 obtain ⟨rep,An⟩ : ∃ rep,iY x line=rep:=⟨_,rfl⟩
 have BI:rep.size≤200:=by
  rw [← An,zF]; split
  ·show (4:Nat)≤200; omega
  ·omega
 obtain ⟨l2,yn⟩ : ∃ l2,cp l ⟨line,rep⟩=l2:=⟨_,rfl⟩
 have cA:=fun W=>ig l ⟨line,rep⟩ W hs (jT hl160 dD) (jT BI dD)
 rw [An] at DH Cz zF
 rw [yn] at cA Cz
 have ET:=jZ DH
 have EO:=jZ (Eq.trans zi)
 have EL:=jZ Cz
 have HC:=jZ hR
 clear hn DH Eq Cz zi An yn hR
 have L1:=(ah.new w 42 #[F x.TA x.t.length x.tc,F x.OA x.o.length x.oc,O U x.gt,O U x.sd,O U x.ms,vw l.D,vw l.P,O U l.n]).alloc (.cells #[F none 0 0,F none 0 0,O U 0,O U 0,O U 0,vw ⟨#[]⟩,vw ⟨#[]⟩,O U 0] 42)
 have L2:=ah.new1 w (.cells #[F x.TA x.t.length x.tc,F x.OA x.o.length x.oc,O U x.gt,O U x.sd,O U x.ms,vw l.D,vw l.P,O U l.n] 42) 42 #[F none 0 0,F none 0 0,O U 0,O U 0,O U 0,vw ⟨#[]⟩,vw ⟨#[]⟩,O U 0]
 have b1:=bZ w (.cells #[F x.TA x.t.length x.tc,F x.OA x.o.length x.oc,O U x.gt,O U x.sd,O U x.ms,vw l.D,vw l.P,O U l.n] 42)
 have b2:=b1.alloc b1.size (.cells #[F none 0 0,F none 0 0,O U 0,O U 0,O U 0,vw ⟨#[]⟩,vw ⟨#[]⟩,O U 0] 42)
 have hW:=h.up b2 nR
 have we:w.heap.size≤w.heap.size+1:=oM
 clear b1 h
 go_enter Tryz.func14,Tryz.ntmps14
 go_wp2_with fail
 generalize ((w.alloc (.cells #[F x.TA x.t.length x.tc,F x.OA x.o.length x.oc,O U x.gt,O U x.sd,O U x.ms,vw l.D,vw l.P,O U l.n] 42)).alloc (.cells #[F none 0 0,F none 0 0,O U 0,O U 0,O U 0,vw ⟨#[]⟩,vw ⟨#[]⟩,O U 0] 42))=W at L1 L2 b2 hW ⊢
 refine (io x l W hW tl ol).mono ?_
 rintro e W1 ⟨v,rfl,⟨TA,tc,OA,oc,rfl,yG,yH⟩,hb⟩
 go_upto_region 2 with fail
 have vE:=(Below.refl W1.heap.size W1).alloc nR (.cells #[F TA x.c.t.length tc,F OA x.c.o.length oc,O U x.c.gt,O U x.c.sd,O U x.c.ms,vw l.D,vw l.P,O U l.n] 42)
 have vC:=av hb vE
 have J1:=L1.below vC L1.lt
 have J2:=L2.below vC L2.lt
 have J6:=ah.new W1 42 #[F TA x.c.t.length tc,F OA x.c.o.length oc,O U x.c.gt,O U x.c.sd,O U x.c.ms,vw l.D,vw l.P,O U l.n]
 have b4:=av b2 vC
 have xl:=ai (ac yG vE) b2.size
 have xm:=ai (ac yH vE) b2.size
 have zb:=hW.then vC
 have hg26:w.heap.size+1 < W1.heap.size:=jL L2.lt hb.size
 clear vE vC hb yG yH L1 L2 b2 hW
 generalize W1.alloc (.cells #[F TA x.c.t.length tc,F OA x.c.o.length oc,O U x.c.gt,O U x.c.sd,O U x.c.ms,vw l.D,vw l.P,O U l.n] 42)=W2 at J1 J2 J6 b4 xl xm zb ⊢
 generalize W1.heap.size=g6 at J6 hg26 ⊢
 have xL:w.heap.size≤g6:=oM
 obtain ⟨c0,c1,c2,c3,c4,c5,c6,c7⟩:=cells8 J1
 go_wp2_with fail
 refine (fI x l W2 zb hs).mono ?_
 rintro e W3 ⟨rfl,vQ⟩
 have K1:=J1.below vQ J1.lt
 have K2:=J2.below vQ J2.lt
 have K6:=J6.below vQ J6.lt
 have b5:=b4.trans (vQ.mono b4.size)
 have wJ:=ac xl vQ
 have wa:=ac xm vQ
 have wE:=zb.then vQ
 clear vQ J1 J2 J6 b4 xl xm zb c0 c1 c2 c3 c4 c5 c6 c7
 rw [vF]
 go_wp2_with fail
 refine (gE ⟨line,⟨#[]⟩⟩ W3 (jT yF dD) (show (0:Nat)≤1000000000 by omega)).mono ?_
 rintro e W4 ⟨rfl,vN⟩
 have N1:=K1.below vN K1.lt
 have N2:=K2.below vN K2.lt
 have N6:=K6.below vN K6.lt
 have b6:=b5.trans (vN.mono b5.size)
 have xd:=ac wJ vN
 have xe:=ac wa vN
 have wP:=wE.then vN
 clear vN K1 K2 K6 b5 wJ wa wE
 rw [xh]
 obtain ⟨c0,c1,c2,c3,c4,c5,c6,c7⟩:=cells8 N1
 have CA:(x.c.at TA tc OA oc).c=x.c:=rfl
 have Im:aP W4 W4.heap.size (x.c.at TA tc OA oc):=⟨ay xd,ay xe⟩
 have hcapX:(x.c.at TA tc OA oc).t.length≤(x.c.at TA tc OA oc).tc:=iz xd
 have wo:=rL (x.c.at TA tc OA oc) l line W4 Im hcapX (good_c CA G) hl160
 rw [us CA,HC.out] at wo
 obtain ⟨p0,p1,p2,p3,p4,p5,p6,p7⟩:=cells8 N6
 go_wp2_with fail
 refine wo.mono ?_
 rintro e W5 ⟨v,rfl,hv,hb5⟩
 obtain ⟨X,rfl,FD,zM⟩:=hv.as (Im.then hb5)
 have vE:=(Below.refl W5.heap.size W5).alloc nR (.cells #[F X.TA X.t.length X.tc,F X.OA X.o.length X.oc,O U X.gt,O U X.sd,O U X.ms,vw l.D,vw l.P,O U l.n] 42)
 have wk:=av hb5 vE
 have J1:=N1.below wk N1.lt
 have J2:=N2.below wk N2.lt
 have J6:=N6.below wk N6.lt
 have J7:=ah.new W5 42 #[F X.TA X.t.length X.tc,F X.OA X.o.length X.oc,O U X.gt,O U X.sd,O U X.ms,vw l.D,vw l.P,O U l.n]
 have b7:=b6.trans (wk.mono b6.size)
 have In:=zM.then vE
 have hg67:g6 < W5.heap.size:=jL N6.lt hb5.size
 clear p0 p1 p2 p3 p4 p5 p6 p7 c0 c1 c2 c3 c4 c5 c6 c7
 go_upto_region 9 with fail
 clear vE wk hb5 hv zM N1 N2 N6 b6 xd xe Im wo hcapX wP
 generalize W5.alloc (.cells #[F X.TA X.t.length X.tc,F X.OA X.o.length X.oc,O U X.gt,O U X.sd,O U X.ms,vw l.D,vw l.P,O U l.n] 42)=W6 at J1 J2 J6 J7 b7 In ⊢
 generalize W5.heap.size=g7 at J7 hg67 ⊢
 rw [uZ CA] at FD
 have Jo:(fx x R).good=true:=by rw [← HC.out]; exact oQ (by have e1:an x=true:=bi.2 G; exact e1) line
 have vG:=j9 Jo
 rw [← FD] at vG
 have vT:=io X l W6 In (by have:=vG.1; show X.c.t.length≤_; omega) (by have:=vG.2; show X.c.o.length≤_; omega)
 rw [FD] at vT
 have KQ:=jZ FD
 clear vG FD CA
 obtain ⟨y,hy⟩ : ∃ y,fx x R=y:=⟨_,rfl⟩
 rw [hy] at vT EO
 clear hy Jo KQ
 obtain ⟨c0,c1,c2,c3,c4,c5,c6,c7⟩:=cells8 J7
 go_wp2_with fail
 refine vT.mono ?_
 rintro e W7 ⟨v,rfl,⟨TB,tb,OB,ob,rfl,Ef,Cq⟩,xM⟩
 have K1:=J1.below xM J1.lt
 have K2:=J2.below xM J2.lt
 have K6:=J6.below xM J6.lt
 have b8:=b7.trans (xM.mono b7.size)
 have yp:=ai Ef b7.size
 have vU:=ai Cq b7.size
 obtain ⟨vV,wB⟩:=dG (F TB y.t.length tb) (F OB y.o.length ob) (O U y.gt) (O U y.sd) (O U y.ms) (vw l.D) (vw l.P) (O U l.n) K6 yp vU
 have M1:ah ((((((((W7.setCell ⟨g6,0,none⟩ (F TB y.t.length tb)).setCell ⟨g6,1,none⟩ (F OB y.o.length ob)).setCell ⟨g6,2,none⟩ (O U y.gt)).setCell ⟨g6,3,none⟩ (O U y.sd)).setCell ⟨g6,4,none⟩ (O U y.ms)).setCell ⟨g6,5,none⟩ (vw l.D)).setCell ⟨g6,6,none⟩ (vw l.P)).setCell ⟨g6,7,none⟩ (O U l.n)) w.heap.size 42 [F x.TA x.t.length x.tc,F x.OA x.o.length x.oc,O U x.gt,O U x.sd,O U x.ms,vw l.D,vw l.P,O U l.n]:=((((((((K1).other (p:=⟨g6,0,none⟩) (by simp only; omega) (F TB y.t.length tb)).other (p:=⟨g6,1,none⟩) (by simp only; omega) (F OB y.o.length ob)).other (p:=⟨g6,2,none⟩) (by simp only; omega) (O U y.gt)).other (p:=⟨g6,3,none⟩) (by simp only; omega) (O U y.sd)).other (p:=⟨g6,4,none⟩) (by simp only; omega) (O U y.ms)).other (p:=⟨g6,5,none⟩) (by simp only; omega) (vw l.D)).other (p:=⟨g6,6,none⟩) (by simp only; omega) (vw l.P)).other (p:=⟨g6,7,none⟩) (by simp only; omega) (O U l.n)
 have M2:ah ((((((((W7.setCell ⟨g6,0,none⟩ (F TB y.t.length tb)).setCell ⟨g6,1,none⟩ (F OB y.o.length ob)).setCell ⟨g6,2,none⟩ (O U y.gt)).setCell ⟨g6,3,none⟩ (O U y.sd)).setCell ⟨g6,4,none⟩ (O U y.ms)).setCell ⟨g6,5,none⟩ (vw l.D)).setCell ⟨g6,6,none⟩ (vw l.P)).setCell ⟨g6,7,none⟩ (O U l.n)) (w.heap.size+1) 42 [F none 0 0,F none 0 0,O U 0,O U 0,O U 0,vw ⟨#[]⟩,vw ⟨#[]⟩,O U 0]:=((((((((K2).other (p:=⟨g6,0,none⟩) (by simp only; omega) (F TB y.t.length tb)).other (p:=⟨g6,1,none⟩) (by simp only; omega) (F OB y.o.length ob)).other (p:=⟨g6,2,none⟩) (by simp only; omega) (O U y.gt)).other (p:=⟨g6,3,none⟩) (by simp only; omega) (O U y.sd)).other (p:=⟨g6,4,none⟩) (by simp only; omega) (O U y.ms)).other (p:=⟨g6,5,none⟩) (by simp only; omega) (vw l.D)).other (p:=⟨g6,6,none⟩) (by simp only; omega) (vw l.P)).other (p:=⟨g6,7,none⟩) (by simp only; omega) (O U l.n)
 have M6:ah ((((((((W7.setCell ⟨g6,0,none⟩ (F TB y.t.length tb)).setCell ⟨g6,1,none⟩ (F OB y.o.length ob)).setCell ⟨g6,2,none⟩ (O U y.gt)).setCell ⟨g6,3,none⟩ (O U y.sd)).setCell ⟨g6,4,none⟩ (O U y.ms)).setCell ⟨g6,5,none⟩ (vw l.D)).setCell ⟨g6,6,none⟩ (vw l.P)).setCell ⟨g6,7,none⟩ (O U l.n)) g6 42 [F TB y.t.length tb,F OB y.o.length ob,O U y.gt,O U y.sd,O U y.ms,vw l.D,vw l.P,O U l.n]:=oh (K6) (F TB y.t.length tb) (F OB y.o.length ob) (O U y.gt) (O U y.sd) (O U y.ms) (vw l.D) (vw l.P) (O U l.n)
 have b9:=eO (g:=g6) (b8) xL (F TB y.t.length tb) (F OB y.o.length ob) (O U y.gt) (O U y.sd) (O U y.ms) (vw l.D) (vw l.P) (O U l.n)
 obtain ⟨z0,z1,z2,z3,z4,z5,z6,z7⟩:=cells8 K6
 obtain ⟨f0,f1,f2,f3,f4,f5,f6,f7⟩:=frz8 K6
 clear J1 J2 J6 J7 b7 In xM K1 K2 Ef Cq yp vU b8 c0 c1 c2 c3 c4 c5 c6 c7 vT
 go_upto_region 10 with fail
 clear K6 z0 z1 z2 z3 z4 z5 z6 z7 f0 f1 f2 f3 f4 f5 f6 f7
 generalize ((((((((W7.setCell ⟨g6,0,none⟩ (F TB y.t.length tb)).setCell ⟨g6,1,none⟩ (F OB y.o.length ob)).setCell ⟨g6,2,none⟩ (O U y.gt)).setCell ⟨g6,3,none⟩ (O U y.sd)).setCell ⟨g6,4,none⟩ (O U y.ms)).setCell ⟨g6,5,none⟩ (vw l.D)).setCell ⟨g6,6,none⟩ (vw l.P)).setCell ⟨g6,7,none⟩ (O U l.n))=W8 at M1 M2 M6 b9 vV wB ⊢
 obtain ⟨cod,yI⟩ : ∃ cod,dR l ⟨line,rep⟩=cod:=⟨_,rfl⟩
 rw [yI] at cA
 clear yI
 obtain ⟨T0,FE⟩ : ∃ T0,js R=T0:=⟨_,rfl⟩
 rw [FE] at zF ⊢
 clear FE
 by_cases hlong:200 < T0.size
 ·have Io:(200:Int) < (T0.size:Int):=oM
  rw [if_pos hlong] at zF
  subst zF
  obtain ⟨c0,c1,c2,c3,c4,c5,c6,c7⟩:=cells8 M1
  go_wp2_with fail
  refine (cA W8).mono ?_
  rintro e W9 ⟨rfl,hb9⟩
  have Q1:=M1.below hb9 M1.lt
  have Q2:=M2.below hb9 M2.lt
  have Q6:=M6.below hb9 M6.lt
  have b10:=b9.trans (hb9.mono b9.size)
  have yg:=ac vV hb9
  have wZ:=ac wB hb9
  have gr9:W9.grownBy (((W9.setCell ⟨g6,5,none⟩ (vw l2.D)).setCell ⟨g6,6,none⟩ (vw l2.P)).setCell ⟨g6,7,none⟩ (O U l2.n)) (some g6):=ab (g:=g6) (i:=7) (u:=O U l2.n) (ab (g:=g6) (i:=6) (u:=vw l2.P) (ab (g:=g6) (i:=5) (u:=vw l2.D) (World.grownBy.refl W9 (some g6))))
  have zc:=ak yg Q6 ft gr9
  have zd:=ak wZ Q6 fu gr9
  have R2:ah (((W9.setCell ⟨g6,5,none⟩ (vw l2.D)).setCell ⟨g6,6,none⟩ (vw l2.P)).setCell ⟨g6,7,none⟩ (O U l2.n)) (w.heap.size+1) 42 [F none 0 0,F none 0 0,O U 0,O U 0,O U 0,vw ⟨#[]⟩,vw ⟨#[]⟩,O U 0]:=(((Q2).other (p:=⟨g6,5,none⟩) (by simp only; omega) (vw l2.D)).other (p:=⟨g6,6,none⟩) (by simp only; omega) (vw l2.P)).other (p:=⟨g6,7,none⟩) (by simp only; omega) (O U l2.n)
  have R6:ah (((W9.setCell ⟨g6,5,none⟩ (vw l2.D)).setCell ⟨g6,6,none⟩ (vw l2.P)).setCell ⟨g6,7,none⟩ (O U l2.n)) g6 42 [F TB y.t.length tb,F OB y.o.length ob,O U y.gt,O U y.sd,O U y.ms,vw l2.D,vw l2.P,O U l2.n]:=(((Q6).set 5 (vw l2.D)).set 6 (vw l2.P)).set 7 (O U l2.n)
  have b11:=(((b10).setCell (p:=⟨g6,5,none⟩) xL (vw l2.D)).setCell (p:=⟨g6,6,none⟩) xL (vw l2.P)).setCell (p:=⟨g6,7,none⟩) xL (O U l2.n)
  obtain ⟨z0,z1,z2,z3,z4,z5,z6,z7⟩:=cells8 Q6
  obtain ⟨f0,f1,f2,f3,f4,f5,f6,f7⟩:=frz8 Q6
  clear M1 M2 Q1 Q2 hb9 b9 b10 yg wZ vV wB gr9 c0 c1 c2 c3 c4 c5 c6 c7
  go_upto_region 13 with fail
  clear M6 Q6 z0 z1 z2 z3 z4 z5 z6 z7 f0 f1 f2 f3 f4 f5 f6 f7
  generalize (((W9.setCell ⟨g6,5,none⟩ (vw l2.D)).setCell ⟨g6,6,none⟩ (vw l2.P)).setCell ⟨g6,7,none⟩ (O U l2.n))=WB at R2 R6 b11 zc zd ⊢
  obtain ⟨p0,p1,p2,p3,p4,p5,p6,p7⟩:=cells8 R6
  obtain ⟨z0,z1,z2,z3,z4,z5,z6,z7⟩:=cells8 R2
  obtain ⟨f0,f1,f2,f3,f4,f5,f6,f7⟩:=frz8 R2
  obtain ⟨Ax,Ay⟩:=dG (F TB y.t.length tb) (F OB y.o.length ob) (O U y.gt) (O U y.sd) (O U y.ms) (vw l2.D) (vw l2.P) (O U l2.n) R2 zc zd
  have bz:=jZ (eO (g:=w.heap.size+1) (b11) we (F TB y.t.length tb) (F OB y.o.length ob) (O U y.gt) (O U y.sd) (O U y.ms) (vw l2.D) (vw l2.P) (O U l2.n))
  have CB:=jZ Ax
  have CC:=jZ Ay
  clear R2 R6 b11 zc zd Ax Ay
  go_wp2_with fail
  refine bodyPost_ret (v:=.tuple #[.agg #[F TB y.t.length tb,F OB y.o.length ob,O U y.gt,O U y.sd,O U y.ms,vw l2.D,vw l2.P,O U l2.n],vw ⟨#[108,111,110,103]⟩]) (by simp [results,Tryz.results14,go_sem, *]) rfl (cK.mk ET.out EO.out EL.out ⟨TB,tb,OB,ob,rfl,CB.out,CC.out⟩ bz.out)
 ·have Io : ¬ (200:Int) < (T0.size:Int):=oM
  rw [if_neg hlong] at zF
  subst zF
  obtain ⟨c0,c1,c2,c3,c4,c5,c6,c7⟩:=cells8 M1
  go_wp2_with fail
  refine (cA W8).mono ?_
  rintro e W9 ⟨rfl,hb9⟩
  have Q1:=M1.below hb9 M1.lt
  have Q2:=M2.below hb9 M2.lt
  have Q6:=M6.below hb9 M6.lt
  have b10:=b9.trans (hb9.mono b9.size)
  have yg:=ac vV hb9
  have wZ:=ac wB hb9
  have gr9:W9.grownBy (((W9.setCell ⟨g6,5,none⟩ (vw l2.D)).setCell ⟨g6,6,none⟩ (vw l2.P)).setCell ⟨g6,7,none⟩ (O U l2.n)) (some g6):=ab (g:=g6) (i:=7) (u:=O U l2.n) (ab (g:=g6) (i:=6) (u:=vw l2.P) (ab (g:=g6) (i:=5) (u:=vw l2.D) (World.grownBy.refl W9 (some g6))))
  have zc:=ak yg Q6 ft gr9
  have zd:=ak wZ Q6 fu gr9
  have R2:ah (((W9.setCell ⟨g6,5,none⟩ (vw l2.D)).setCell ⟨g6,6,none⟩ (vw l2.P)).setCell ⟨g6,7,none⟩ (O U l2.n)) (w.heap.size+1) 42 [F none 0 0,F none 0 0,O U 0,O U 0,O U 0,vw ⟨#[]⟩,vw ⟨#[]⟩,O U 0]:=(((Q2).other (p:=⟨g6,5,none⟩) (by simp only; omega) (vw l2.D)).other (p:=⟨g6,6,none⟩) (by simp only; omega) (vw l2.P)).other (p:=⟨g6,7,none⟩) (by simp only; omega) (O U l2.n)
  have R6:ah (((W9.setCell ⟨g6,5,none⟩ (vw l2.D)).setCell ⟨g6,6,none⟩ (vw l2.P)).setCell ⟨g6,7,none⟩ (O U l2.n)) g6 42 [F TB y.t.length tb,F OB y.o.length ob,O U y.gt,O U y.sd,O U y.ms,vw l2.D,vw l2.P,O U l2.n]:=(((Q6).set 5 (vw l2.D)).set 6 (vw l2.P)).set 7 (O U l2.n)
  have b11:=(((b10).setCell (p:=⟨g6,5,none⟩) xL (vw l2.D)).setCell (p:=⟨g6,6,none⟩) xL (vw l2.P)).setCell (p:=⟨g6,7,none⟩) xL (O U l2.n)
  obtain ⟨z0,z1,z2,z3,z4,z5,z6,z7⟩:=cells8 Q6
  obtain ⟨f0,f1,f2,f3,f4,f5,f6,f7⟩:=frz8 Q6
  clear M1 M2 Q1 Q2 hb9 b9 b10 yg wZ vV wB gr9 c0 c1 c2 c3 c4 c5 c6 c7
  go_upto_region 13 with fail
  clear M6 Q6 z0 z1 z2 z3 z4 z5 z6 z7 f0 f1 f2 f3 f4 f5 f6 f7
  generalize (((W9.setCell ⟨g6,5,none⟩ (vw l2.D)).setCell ⟨g6,6,none⟩ (vw l2.P)).setCell ⟨g6,7,none⟩ (O U l2.n))=WB at R2 R6 b11 zc zd ⊢
  obtain ⟨p0,p1,p2,p3,p4,p5,p6,p7⟩:=cells8 R6
  obtain ⟨z0,z1,z2,z3,z4,z5,z6,z7⟩:=cells8 R2
  obtain ⟨f0,f1,f2,f3,f4,f5,f6,f7⟩:=frz8 R2
  obtain ⟨Ax,Ay⟩:=dG (F TB y.t.length tb) (F OB y.o.length ob) (O U y.gt) (O U y.sd) (O U y.ms) (vw l2.D) (vw l2.P) (O U l2.n) R2 zc zd
  have bz:=jZ (eO (g:=w.heap.size+1) (b11) we (F TB y.t.length tb) (F OB y.o.length ob) (O U y.gt) (O U y.sd) (O U y.ms) (vw l2.D) (vw l2.P) (O U l2.n))
  have CB:=jZ Ax
  have CC:=jZ Ay
  clear R2 R6 b11 zc zd Ax Ay
  go_wp2_with fail
  refine bodyPost_ret (v:=.tuple #[.agg #[F TB y.t.length tb,F OB y.o.length ob,O U y.gt,O U y.sd,O U y.ms,vw l2.D,vw l2.P,O U l2.n],vw rep]) (by simp [results,Tryz.results14,go_sem, *]) rfl (cK.mk ET.out EO.out EL.out ⟨TB,tb,OB,ob,rfl,CB.out,CC.out⟩ bz.out)
theorem nK (x:aO) (l:Lg) (line:ByteArray) (w:World) (h:aP w w.heap.size x) (tl:x.t.length≤1048576) (ol:x.o.length≤1048576) (hs:l.D.size+l.P.size≤2000000) (yF:line.size≤1048576) :
  Calls vx 14 #[aI x l,vw line] w (cK w x l line):=by
 cases vF:dV x l
 ·exact tp x l line w h tl ol hs yF vF
 ·cases xh:dq.ok ⟨line,⟨#[]⟩⟩
  ·exact rM x l line w h tl ol hs yF vF xh
  ·by_cases hn:l.n=60
   ·exact qG x l line w h tl ol hs yF vF xh hn
   ·exact rO x l line w h tl ol hs yF vF xh hn
end Go.Proofs.YtoeoimhemojdeaaGreatDoor
namespace Go.Proofs
open Go.Shelf
def Tryz.lays156_ren:Go.Shelf.Ren:=⟨fun | 156=>211 | 165=>230 | 166=>231 | 169=>232 | 240=>243 | 241=>244 | 276=>248 | 277=>249 | n=>n,fun | 31=>49 | 9=>9 | 3=>3 | 4=>4 | 0=>0 | 20=>20 | 72=>232 | 76=>174 | 70=>230 | 37=>54 | 75=>173 | 127=>245 | 164=>252 | 5=>5 | 80=>234 | n=>n,fun | n=>n⟩
theorem Tryz.lays156:Go.Proofs.Lays.n156 vx Tryz.lays156_ren:={
 mixed:=by kernel_rfl
 f156:=Tryz.func211.trans (congrArg some (by kernel_rfl))
 f165:=Tryz.func230.trans (congrArg some (by kernel_rfl))
 f166:=Tryz.func231.trans (congrArg some (by kernel_rfl))
 f169:=Tryz.func232.trans (congrArg some (by kernel_rfl))
 f240:=Tryz.func243.trans (congrArg some (by kernel_rfl))
 f241:=Tryz.func244.trans (congrArg some (by kernel_rfl))
 f276:=Tryz.func248.trans (congrArg some (by kernel_rfl))
 f277:=Tryz.func249.trans (congrArg some (by kernel_rfl))
 t0:=Tryz.underlying0
 a0:=Tryz.isAgg0
 z0:=Tryz.sizeOf0
 v0:=Tryz.zeroValue0
 t3:=Tryz.underlying3
 a3:=Tryz.isAgg3
 z3:=Tryz.sizeOf3
 v3:=Tryz.zeroValue3
 t4:=Tryz.underlying4
 a4:=Tryz.isAgg4
 z4:=Tryz.sizeOf4
 v4:=Tryz.zeroValue4
 t9:=Tryz.underlying9
 a9:=Tryz.isAgg9
 z9:=Tryz.sizeOf9
 v9:=Tryz.zeroValue9
 t20:=Tryz.underlying20
 a20:=Tryz.isAgg20
 z20:=Tryz.sizeOf20
 v20:=Tryz.zeroValue20
 t31:=Tryz.underlying49
 a31:=Tryz.isAgg49
 z31:=Tryz.sizeOf49
 v31:=Tryz.zeroValue49
 t37:=Tryz.underlying54
 a37:=Tryz.isAgg54
 z37:=Tryz.sizeOf54
 v37:=Tryz.zeroValue54
 t70:=Tryz.underlying230
 a70:=Tryz.isAgg230
 z70:=Tryz.sizeOf230
 v70:=Tryz.zeroValue230
 t72:=Tryz.underlying232
 a72:=Tryz.isAgg232
 z72:=Tryz.sizeOf232
 v72:=Tryz.zeroValue232
 t75:=Tryz.underlying173
 a75:=Tryz.isAgg173
 z75:=Tryz.sizeOf173
 v75:=Tryz.zeroValue173
 t76:=Tryz.underlying174
 a76:=Tryz.isAgg174
 z76:=Tryz.sizeOf174
 v76:=Tryz.zeroValue174
 t127:=Tryz.underlying245
 a127:=Tryz.isAgg245
 z127:=Tryz.sizeOf245
 v127:=Tryz.zeroValue245
 t164:=Tryz.underlying252
 a164:=Tryz.isAgg252
 z164:=Tryz.sizeOf252
 v164:=Tryz.zeroValue252 }
theorem Tryz.Builder_Extra_156:Builder.Extra vx Tryz.lays156_ren:={
 sizeBuilder:=by kernel_rfl
 liesBuilder:=by kernel_rfl
 t5:=Tryz.underlying5
 a5:=Tryz.isAgg5
 z5:=Tryz.sizeOf5
 v5:=Tryz.zeroValue5
 infoByte:=by kernel_rfl
 cellsByte:=by kernel_rfl
 sizeByte:=by kernel_rfl
 neB5:=by decide }
open Go.RowKit in
theorem Tryz.strings_Join_none (a:Option Addr) (c:Nat) (sep:ByteArray) (w:World) :
  Calls vx 211 #[F a 0 c,vw sep] w fun e w'=>e=.returned (vw ⟨#[]⟩)∧w'=w:=Any.strings_Join_none Tryz.lays156 Tryz.Builder_Extra_156 a c sep w
open Go.RowKit in
theorem Tryz.strings_Join (bk o c:Nat) (xs:List ByteArray) (sep:ByteArray) (w:World) (hcells:∀ (j:Nat) x,xs[j]?=some x→w.cell? ⟨bk,o+j,none⟩=some (vw x)) (KR:bk < w.heap.size) (hN:xs.length≤140737488355328) (vM:xs.length≤c) (vG:(Lib.join (xs.map (·.data.toList)) sep.data.toList).length≤140737488355328) :
  Calls vx 211 #[F (some ⟨bk,o,none⟩) xs.length c,vw sep] w fun e w'=>e=.returned (vw ⟨(Lib.join (xs.map (·.data.toList)) sep.data.toList).toArray⟩)∧Below w.heap.size w w':=Any.strings_Join Tryz.lays156 Tryz.Builder_Extra_156 bk o c xs sep w hcells KR hN vM vG
end Go.Proofs
namespace Go.Proofs.YtoeoimhemojdeaaGreatDoor
open Go.RowKit
def pw (l:List (List UInt8)):List Value:=l.map fun b=>vw ⟨b.toArray⟩
theorem tq (l:List (List UInt8)) (b:List UInt8):pw (l++[b])=pw l++[vw ⟨b.toArray⟩]:=by simp [pw]
theorem rP:(vx.info? 9).map (fun i=>(i.zero,i.size,i.bytes))=some (some (vw ⟨#[]⟩),1,16):=kZ
theorem tu {α:Type} {l:List α} {k:Nat} (h:k < l.length):l.take (k+1)=l.take k++[l[k]]:=sP
theorem px {w w' : World} {B:Nat} {e:TypeId} {k:Nat} {v:Value} {n:Nat} {xs:List Value} (h:w.ownsRow B e k v n xs) (hb:Below w.heap.size w w'):w'.ownsRow B e k v n xs:=by
 unfold World.ownsRow at *
 obtain ⟨hl,h | ⟨g,cap,cells,hv,hB,hg,r⟩⟩:=h
 ·exact ⟨hl,Or.inl h⟩
 ·exact ⟨hl,Or.inr ⟨g,cap,cells,hv,hB,(hb.block g (ah.lt (cs:=cells.toList) hg)).trans hg,r⟩⟩
theorem ut (l:List (List UInt8)) (A:Option Addr) (c B:Nat) (sep:ByteArray) (w:World) (h:w.ownsRow B 9 1 (F A l.length c) l.length (pw l))
  (hn:l.length≤1000000) (vG:(Lib.join l (bl sep)).length≤1000000000) :
  Calls vx 211 #[F A l.length c,vw sep] w fun e w'=>e=.returned (vw ⟨(Lib.join l (bl sep)).toArray⟩)∧Below w.heap.size w w':=by
 obtain ⟨hl,⟨h0,h1⟩ | ⟨g,cap,cells,hv,hB,hg,h5,h6,h7,h8⟩⟩:=h
 ·have Db:l = []:=List.eq_nil_of_length_eq_zero oM
  subst Db
  exact (Tryz.strings_Join_none A c sep w).mono fun e w' ⟨he,hw⟩=>⟨he,hw ▸ Below.refl _ _⟩
 ·injection hv with hA hn' hc
  subst hA; subst hc
  have hx:(l.map fun b=>(⟨b.toArray⟩ : ByteArray)).length=l.length:=sP
  have hm:(l.map fun b=>(⟨b.toArray⟩ : ByteArray)).map (·.data.toList)=l:=by simp [List.map_map,Function.comp_def]
  have hJ:=Tryz.strings_Join g 0 c (l.map fun b=>(⟨b.toArray⟩ : ByteArray)) sep w (fun j x hj=>by
   have EQ:j < l.length:=by have:=(List.getElem?_eq_some_iff.1 hj).1; simpa using this
   have hq:(pw l)[j]?=some (vw x):=by
    rw [pw,List.getElem?_map]; rw [List.getElem?_map] at hj
    rw [List.getElem?_eq_getElem EQ] at hj ⊢
    simpa using hj
   rw [← h8,List.getElem?_take_of_lt oM] at hq
   rw [Nat.zero_add,(ah.cell (cs:=cells.toList) hg j)]
   exact hq) (ah.lt (cs:=cells.toList) hg) (by rw [hx]; omega) (by rw [hx]; exact h5) (by rw [hm]; have:=vG; unfold bl at this; omega)
  rw [hm,hx] at hJ
  exact hJ
theorem mJ (sep:List UInt8) (m:Nat):∀ l:List (List UInt8),(∀ x ∈ l,x.length≤m)→(Lib.joinTail sep l).length≤l.length * (sep.length+m)
 | [],_=>by simp [Lib.joinTail]
 | x :: l,h=>by
  have h1:=mJ sep m l fun y hy=>h y (List.mem_cons_of_mem _ hy)
  have h2:=h x List.mem_cons_self
  have e:Lib.joinTail sep (x :: l)=sep++x++Lib.joinTail sep l:=by simp [Lib.joinTail]
  rw [e,List.length_append,List.length_append,List.length_cons,Nat.succ_mul]; omega
theorem uM (sep:List UInt8) (m:Nat) (l:List (List UInt8)) (h:∀ x ∈ l,x.length≤m):(Lib.join l sep).length≤l.length * (sep.length+m):=by
 cases l with
 | nil=>simp [Lib.join_nil]
 | cons x l =>
  have h1:=mJ sep m l fun y hy=>h y (List.mem_cons_of_mem _ hy)
  have h2:=h x List.mem_cons_self
  rw [Lib.join_cons,List.length_append,List.length_cons,Nat.succ_mul]; omega
theorem tw {n:Int} (h0:0≤n) (h1:n≤1000000000):(Lib.itoa n).length≤100:=by
 have h3:(⟨(Lib.itoa n).toArray⟩ : ByteArray).size≤100:=cE h0 h1
 rw [← bL (Lib.itoa n),ao]; exact h3
theorem om (A:Option Addr) (c:Nat) (l:List Int) (sep:ByteArray) (w:World) (h:iw w w.heap.size A l) (KS:l.length≤9)
  (hr:∀ i (hi:i < l.length),0≤l[i]∧l[i]≤1000000) (hs:sep.size≤10) (ht:iN w) :
  Calls vx 184 #[F A l.length c,vw sep] w fun e w'=>e=.returned (vw ⟨(Lib.join (l.map Lib.itoa) (bl sep)).toArray⟩)∧Below w.heap.size w w':=by
 have hl:=h.big
 have xi:=iw.ints h
 have EQ:(Lib.join (l.map Lib.itoa) (bl sep)).length≤1000000000:=by
  have h1:=uM (bl sep) 100 (l.map Lib.itoa) fun x hx=>by
   obtain ⟨n,hn,rfl⟩:=List.mem_map.1 hx
   obtain ⟨i,hi,rfl⟩:=List.getElem_of_mem hn
   exact tw (by have:=hr i hi; omega) (by have:=hr i hi; omega)
  rw [ao,List.length_map] at h1
  have h2:l.length * (sep.size+100)≤9 * 110:=Nat.mul_le_mul KS oM
  omega
 replace hr:=jZ hr
 go_enter Tryz.func184,Tryz.ntmps184
 go_wp2_with fail
 go_loopw [5,10] (fun out i wr=>∃ (k:Nat),k≤l.length∧i=O U k∧Hid (wr.ownsRow w.heap.size 9 1 out k (pw ((l.take k).map Lib.itoa)))∧(Below w.heap.size w wr)) (fun _ i _=>l.length - (intOf i).toNat)
 case atStart=>exact ⟨0,Nat.zero_le _,rfl,(World.ownsRow_nil _ _ _ _),Below.refl _ _⟩
 case round =>
  obtain ⟨k,hk,rfl,HO,yx⟩:=hrel
  obtain ⟨q,rfl⟩ : ∃ q:ap w.heap.size w,wr=q.val:=⟨⟨wr,yx⟩,rfl⟩
  by_cases vH:k < l.length
  ·obtain ⟨b,off,rfl,hb,hcell⟩:=xi oM
   have c0:=hcell k vH
   obtain ⟨f1,f2⟩:=hr.out k vH
   have HT:=jZ (tu vH)
   obtain ⟨f,Jp⟩ : ∃ f,f=l[k]:=⟨_,rfl⟩
   rw [← Jp] at c0 f1 f2 HT
   clear Jp hcell xi
   obtain ⟨fv,Ip⟩ : ∃ s:ByteArray,s=⟨(Lib.itoa f).toArray⟩:=⟨_,rfl⟩
   have HQ:=ht.at q
   have NUMF:∀ W:World,iN W→Calls vx 69 #[O U f] W fun e w'=>e=.returned (vw fv)∧Below W.heap.size W w':=by
    intro W hW; rw [Ip]; exact dw _ _ oM oM hW
   replace NUMF:=jZ NUMF
   have KT:=jZ Ip; clear Ip
   go_wp2_with (first
    | (go_at_call 69; refine (NUMF.out _ HQ).mono ?_; rintro e w4 ⟨rfl,vN⟩; have hb5:Below w.heap.size w w4:=yx.trans (vN.mono yx.size); have AR:=jZ (px HO.out vN); have Gc:=hb5.size)
    | (at_builtin; refine cZ (w0:=w4) rfl _ _ 49 rfl 9 (vw ⟨#[]⟩) 1 16 Tryz.underlying49 rP rfl (by decide) (by omega) w.heap.size _ _ _ rfl AR #[vw fv] 1 _ rfl (by first | rfl | exact Array.size_push _) rfl (by simp [Value.oneCell']) (by omega) Gc rfl rfl rfl rfl ?_; intro v' w6 BG xL wk))
   obtain ⟨A3,c3,rfl⟩:=az BG.out
   go_wp2
   go_roundw
   case rel=>exact ⟨k+1,oM,by go_num,by rw [HT.out,List.map_append,List.map_cons,List.map_nil,tq,← KT.out]; exact BG,hb5.trans wk⟩
   case measure=>simp [intOf]; omega
  ·have ek:k=l.length:=oM
   subst ek
   rw [List.take_length] at HO
   obtain ⟨A3,c3,rfl⟩:=az HO.out
   clear xi
   have HJ:=jZ (ut (l.map Lib.itoa) A3 c3 w.heap.size sep)
   rw [List.length_map] at HJ
   go_wp2_with (go_at_call 211; refine (HJ.out _ HO.out oM EQ).mono ?_; rintro e w7 ⟨rfl,xM⟩)
   go_ret
   exact ⟨rfl,yx.trans (xM.mono yx.size)⟩
theorem py (o:ae) (gk:Nat) (kd:Int) (w:World) (hk:gk < w.heap.size) (hc:w.cell? ⟨gk,0,none⟩=some (O U kd)) :
  Calls vx 183 (#[o.val]++#[.pointer (some ⟨gk,0,none⟩)]) w fun e w'=>e=.returned (.bool (decide (o.p=kd)))∧Below w.heap.size w w':=by
 show Calls vx 183 #[o.val,.pointer (some ⟨gk,0,none⟩)] w _
 have hc' : (w.alloc (.cells #[O U o.k,O U o.p,O U o.c] 147)).cell? ⟨gk,0,none⟩=some (O U kd):=(bZ w _).cell hk |>.trans hc
 obtain ⟨v,hv⟩ : ∃ v,(o.p == kd)=v:=⟨_,rfl⟩
 have HV:Hid (decide (o.p=kd)=v):=by rw [← hv]; unfold Hid; rw [Bool.eq_iff_iff]; simp
 cases v
 all_goals
  go_enter Tryz.func183,Tryz.ntmps183
  go_wp2
  go_ret
  exact ⟨by rw [HV.out]; rfl,jB.alloc nR _⟩
def iq (pp:Value) (w:World):Nat :=
 match pp with
 | .pointer (some a)=>(match w.cell? a with | some (.int _ p)=>(1000 - p).toNat | _=>0)
 | _=>0
theorem mK {w:World} {g:Nat} {t:TypeId} {p:Int} (h:ah w g t [O U p]):iq (.pointer (some ⟨g,0,none⟩)) w=(1000 - p).toNat:=by
 unfold iq
 simp only [h.cell 0,List.getElem?_cons_zero]
set_option maxRecDepth 20000 in
theorem jy (x:aO) (w:World) (h:aP w w.heap.size x) :
  Calls vx 152 #[x.val] w fun e w'=>e=.returned (.tuple #[O U (dF x),.bool (dd x)])∧Below w.heap.size w w':=by
 have Bl:∀ (fn:Fn) (first cap:Array Value) (w:World),(Instr.makeFunc fn first cap).run vx w=.ok (.func fn first cap) w:=fun _ _ _ _=>rfl
 have b1:=bZ w (.cells #[F x.TA x.t.length x.tc,F x.OA x.o.length x.oc,O U x.gt,O U x.sd,O U x.ms] 40)
 have hA:=hQ h 40
 have cG:=fun W hW=>aZ x w.heap.size W hW
 cases hg:an x
 ·have HF:Hid (dF x=0∧dd x=false):=by unfold dF dd; rw [hg]; exact ⟨rfl,rfl⟩
  rw [hg] at cG
  clear hg
  go_enter Tryz.func152,Tryz.ntmps152
  go_wp2_with fail
  generalize w.alloc (.cells #[F x.TA x.t.length x.tc,F x.OA x.o.length x.oc,O U x.gt,O U x.sd,O U x.ms] 40)=W at b1 hA ⊢
  refine (cG _ hA).mono ?_
  rintro e w1 ⟨rfl,hb⟩
  go_wp2
  go_ret2
  exact ⟨by rw [HF.out.1,HF.out.2]; rfl,av b1 hb⟩
 ·have G:=bi.1 hg
  have ol:=G.ol
  have zS:=jZ G.oall
  have Ij:Hid (an x=true):=hg
  have ye:∀ r ∈ x.o,1≤r.c:=fun r hr=>by
   obtain ⟨i,hi,rfl⟩:=List.getElem_of_mem hr
   exact (ae.bounds (G.oall i hi)).2.2.1
  have BZ:∀ r ∈ x.o,1≤r.p∧r.p≤999:=fun r hr=>by
   obtain ⟨i,hi,rfl⟩:=List.getElem_of_mem hr
   exact (ae.bounds (G.oall i hi)).2.1
  have Ch:=jZ (sX x.o ye BZ)
  rw [hg] at cG
  clear hg G ye BZ
  by_cases vG:0 < x.o.length
  ·have HF:Hid (dF x=(dE x.o x.o (0,0)).1∧dd x=true):=by
    have:dd x=true:=by unfold dd; rw [Ij.out,jD vG]; rfl
    unfold dF; rw [this]; exact ⟨rfl,rfl⟩
   have vJ:((x.o.length:Int) == 0)=false:=by rw [beq_eq_false_iff_ne]; omega
   go_enter Tryz.func152,Tryz.ntmps152
   go_wp2_with fail
   generalize w.alloc (.cells #[F x.TA x.t.length x.tc,F x.OA x.o.length x.oc,O U x.gt,O U x.sd,O U x.ms] 40)=W at b1 hA ⊢
   obtain ⟨s0,s1,s2,s3,s4⟩:=hA.s
   refine (aX (cG _ hA)).mono ?_
   rintro e w1 ⟨rfl,q1,rfl⟩
   have Di:=ah.new q1.val 3 #[O U 1]
   have KU:=q1.below.alloc q1.size (.cells #[O U 1] 3)
   have IG:=q1.size
   go_wp2
   go_loopw [4,5,6] (fun bb mm pp wr=>∃ (k g:Nat) (p:Int) (b:Int × Int),(k:Int)+p=1000∧1≤p∧pp=.pointer (some ⟨g,0,none⟩)∧bb=O U b.1∧mm=O U b.2∧W.heap.size≤g∧Hid (ah wr g 3 [O U p])∧Below W.heap.size W wr∧Hid (ij x.o k p b=dE x.o x.o (0,0))) (fun _ _ pp wr=>iq pp wr)
   case atStart=>exact ⟨999,q1.val.heap.size,1,(0,0),oM,oM,rfl,rfl,rfl,IG,Di,KU,Ch.out⟩
   case round =>
    obtain ⟨k,g,p,⟨b1',b2'⟩,KV,BZ,rfl,rfl,rfl,hg,HL,yx,HR⟩:=hrel
    have c0:wr.cell? ⟨g,0,none⟩=some (O U p):=HL.out.cell 0
    cases k with
    | zero =>
     have hp:p=1000:=oM
     subst hp
     have HE:Hid ((b1',b2')=dE x.o x.o (0,0)):=HR.out
     go_wp2
     go_ret2
     exact ⟨by rw [HF.out.1,HF.out.2,← HE.out]; rfl,b1.trans (yx.mono b1.size)⟩
    | succ k =>
     have Ae:p≤999:=oM
     have Ba:(k:Int)+p≤999:=oM
     have Eg:999≤(k:Int)+p:=oM
     clear KV
     have HS:Hid (ij x.o (k+1) p (b1',b2')=ij x.o k (p+1) (if b2' < jv x.o p then (p,jv x.o p) else (b1',b2'))):=rfl
     have vH:=HL.out.lt
     have HM:=mK HL.out
     go_wp2_with fail
     refine (fp (fun o=>decide (o.p=p)) 183 #[.pointer (some ⟨g,0,none⟩)] Tryz.call183 x w.heap.size wr (fun o q=>py o g p q.val (jL vH q.size) ((q.cell vH).trans c0)) (hA.at ⟨wr,yx⟩) ol zS.out).mono ?_
     rintro e w2 ⟨rfl,vC⟩
     have c1:w2.cell? ⟨g,0,none⟩=some (O U p):=(vC.cell vH).trans c0
     have Iq:=yx.trans (vC.mono yx.size)
     have xR:=ah.new w2 3 #[O U (p+1)]
     have Jq:=Iq.alloc Iq.size (.cells #[O U (p+1)] 3)
     have AD:=Iq.size
     have Jr:aW (fun o=>decide (o.p=p)) x.o=jv x.o p:=rfl
     rw [Jr]
     clear Jr
     obtain ⟨V,hV⟩ : ∃ V,jv x.o p=V:=⟨_,rfl⟩
     rw [hV] at HS
     rw [hV]
     clear hV c0
     have Js:=jZ (mK xR)
     have FF:=jZ HM; clear HM
     by_cases Al:b2' < V
     ·rw [if_pos Al] at HS
      go_wp2
      go_roundw
      case rel=>exact ⟨k,w2.heap.size,p+1,(p,V),oM,oM,rfl,rfl,rfl,AD,xR,Jq,by have h1:=HR.out; rw [HS.out] at h1; exact h1⟩
      case measure=>show iq _ _ < iq _ _; rw [FF.out,Js.out]; omega
     ·rw [if_neg Al] at HS
      have hv:V≤b2':=oM
      clear Al
      go_wp2
      go_roundw
      case rel=>exact ⟨k,w2.heap.size,p+1,(b1',b2'),oM,oM,rfl,rfl,rfl,AD,xR,Jq,by have h1:=HR.out; rw [HS.out] at h1; exact h1⟩
      case measure=>show iq _ _ < iq _ _; rw [FF.out,Js.out]; omega
  ·have HF:Hid (dF x=0∧dd x=false):=by
    have:dd x=false:=by unfold dd; rw [jE vG,Bool.and_false]
    unfold dF; rw [this]; exact ⟨rfl,rfl⟩
   have vJ:((x.o.length:Int) == 0)=true:=by rw [beq_iff_eq]; omega
   go_enter Tryz.func152,Tryz.ntmps152
   go_wp2_with fail
   generalize w.alloc (.cells #[F x.TA x.t.length x.tc,F x.OA x.o.length x.oc,O U x.gt,O U x.sd,O U x.ms] 40)=W at b1 hA ⊢
   obtain ⟨s0,s1,s2,s3,s4⟩:=hA.s
   refine (aX (cG _ hA)).mono ?_
   rintro e w1 ⟨rfl,q1,rfl⟩
   go_wp2
   go_ret2
   exact ⟨by rw [HF.out.1,HF.out.2]; rfl,b1.trans (q1.below.mono b1.size)⟩
def dX (w:World) (R:Option ByteArray) (e:Ending) (w' : World):Prop :=
 (∃ s,e=.returned (.tuple #[vw s,.bool R.isSome])∧(∀ r,R=some r→s=r))∧Below w.heap.size w w'
theorem dX.yes {w w' : World} {r:ByteArray} (hb:Below w.heap.size w w'):dX w (some r) (.returned (.tuple #[vw r,.bool true])) w':=⟨⟨r,rfl,fun _ h=>by injection h⟩,hb⟩
theorem dX.no {w w' : World} {s:ByteArray} (hb:Below w.heap.size w w'):dX w none (.returned (.tuple #[vw s,.bool false])) w':=⟨⟨s,rfl,fun _ h=>by cases h⟩,hb⟩
theorem ly (A:Option Addr) (c:Nat) (l:List Int) (ok:Bool) (w:World) (h:iw w w.heap.size A l) (Dm:l.length≤8) (hr:∀ n ∈ l,0≤n∧n≤1000000) (ht:iN w) :
  Calls vx 153 #[F A l.length c,.bool ok] w fun e w'=>e=.returned (.tuple #[vw (fl l),.bool ok])∧Below w.heap.size w w':=by
 rcases Nat.eq_zero_or_pos l.length with h0 | h0
 ·have HL:Hid (fl l=⟨#[110,111,110,101]⟩):=by unfold Hid fl; rw [if_pos h0]
  have hz:((l.length:Int) == 0)=true:=by rw [h0]; rfl
  go_enter Tryz.func153,Tryz.ntmps153
  go_wp2
  go_ret2
  exact ⟨by rw [HL.out]; rfl,Below.refl _ _⟩
 ·have hz:((l.length:Int) == 0)=false:=beq_false_of_ne oM
  have HL:Hid (fl l=⟨(Lib.join (l.map Lib.itoa) (bl ⟨#[32]⟩)).toArray⟩):=by unfold Hid fl; rw [if_neg oM]; rfl
  have hj:=om A c l ⟨#[32]⟩ w h oM (fun i hi=>hr _ (List.getElem_mem hi)) dD ht
  obtain ⟨T,hT⟩ : ∃ T:ByteArray,(⟨(Lib.join (l.map Lib.itoa) (bl ⟨#[32]⟩)).toArray⟩ : ByteArray)=T:=⟨_,rfl⟩
  rw [hT] at hj HL
  clear hT
  go_enter Tryz.func153,Tryz.ntmps153
  go_wp2_with fail
  refine hj.mono ?_
  rintro e w1 ⟨rfl,hb⟩
  go_wp2
  go_ret2
  exact ⟨by rw [HL.out]; rfl,hb⟩
theorem tz {x:aO} (G:bH x) (n:Int) (b:Bool):(br b (aT (fun r:ae=>decide (r.p=n)) ae.k x.o)).length≤8∧∀ m ∈ br b (aT (fun r:ae=>decide (r.p=n)) ae.k x.o),0≤m∧m≤1000000:=by
 refine ⟨(qB G n b).1,fun m hm=>?_⟩
 cases b
 ·simp [br] at hm
 ·obtain ⟨r,hr,_,rfl⟩:=fK.1 (show m ∈ aT _ _ _ from hm)
  obtain ⟨j,hj,e⟩:=List.getElem_of_mem hr
  have h1:=ew G.tall (ae.bounds (G.oall j hj)).1
  rw [e] at h1; omega
theorem qH {x:aO} (G:bH x) (n:Int) (b:Bool):(br b (aT (fun r:ae=>decide (r.k=n)) ae.p x.o)).length≤8∧∀ m ∈ br b (aT (fun r:ae=>decide (r.k=n)) ae.p x.o),0≤m∧m≤1000000:=by
 refine ⟨(nH G n b).1,fun m hm=>?_⟩
 cases b
 ·simp [br] at hm
 ·obtain ⟨r,hr,_,rfl⟩:=fK.1 (show m ∈ aT _ _ _ from hm)
  obtain ⟨j,hj,e⟩:=List.getElem_of_mem hr
  have h1:=(ae.bounds (G.oall j hj)).2.1
  rw [e] at h1; omega
theorem pz (o:ae) (w:World):Calls vx 151 (#[o.val]++#[]) w fun e w'=>e=.returned (.bool (de o))∧Below w.heap.size w w':=by
 go_enter Tryz.func151,Tryz.ntmps151
 go_wp2
 go_ret
 refine ⟨rfl, ?_⟩
 go_grown
set_option maxRecDepth 100000 in
theorem oR (x:aO) (l:Lg) (s:ByteArray) (g:Nat) (w:World) (hL:ah w g 42 [F x.TA x.t.length x.tc,F x.OA x.o.length x.oc,O U x.gt,O U x.sd,O U x.ms,vw l.D,vw l.P,O U l.n]) (h:aP w w.heap.size x) (G:bH x) (ht:iN w) :
  Calls vx 97 #[.pointer (some ⟨g,0,none⟩),vw s] w (dX w (dn x s)):=by
 have hat:cm w w.heap.size g x:=kG hL h
 have xX:an x=true:=bi.2 G
 by_cases h0:s=⟨#[105,110]⟩
 ·subst h0
  have HV:dn x ⟨#[105,110]⟩=some (bJ (cr x.t)):=by unfold dn; rw [if_pos rfl]
  rw [HV]
  clear HV
  have bd:=G.inB
  have hn:=fun W hW=>dw (cr x.t) W oM oM hW
  obtain ⟨T,hT⟩ : ∃ T:ByteArray,(⟨(Lib.itoa (cr x.t)).toArray⟩ : ByteArray)=T:=⟨_,rfl⟩
  rw [show bJ (cr x.t)=T from hT]
  rw [hT] at hn
  clear hT bd
  have hc:=jf x g w hat G.tl G.tall
  go_enter Tryz.func97,Tryz.ntmps97
  go_wp2_with fail
  refine hc.mono ?_
  rintro e w1 ⟨rfl,vD⟩
  go_wp2_with fail
  refine (hn _ (ht.then vD)).mono ?_
  rintro e w2 ⟨rfl,vC⟩
  go_wp2
  go_ret2
  exact dX.yes (av vD vC)
 have f0:(s.toList == [105,110])=false:=bT h0
 by_cases h1:s=⟨#[111,117,116]⟩
 ·subst h1
  have HV:dn x ⟨#[111,117,116]⟩=some (bJ (aW de x.o)):=by unfold dn; rw [if_neg dD,if_pos rfl]
  rw [HV]
  clear HV
  have bd:=G.outB de
  have hn:=fun W hW=>dw (aW de x.o) W oM oM hW
  obtain ⟨T,hT⟩ : ∃ T:ByteArray,(⟨(Lib.itoa (aW de x.o)).toArray⟩ : ByteArray)=T:=⟨_,rfl⟩
  rw [show bJ (aW de x.o)=T from hT]
  rw [hT] at hn
  clear hT bd
  have eg:∀ args w,(callFunc 151 args).run vx w=.ok (.enter 151 args) w:=Tryz.call151
  have hc:=fp de 151 #[] eg x g w (fun o p=>pz o p.val) hat G.ol G.oall
  go_enter Tryz.func97,Tryz.ntmps97
  go_wp2_with fail
  refine hc.mono ?_
  rintro e w1 ⟨rfl,vD⟩
  go_wp2_with fail
  refine (hn _ (ht.then vD)).mono ?_
  rintro e w2 ⟨rfl,vC⟩
  go_wp2
  go_ret2
  exact dX.yes (av vD vC)
 have f1:(s.toList == [111,117,116])=false:=bT h1
 by_cases h2:s=⟨#[103,111,116]⟩
 ·subst h2
  have HV:dn x ⟨#[103,111,116]⟩=some (bJ (x.gt)):=by unfold dn; rw [if_neg dD,if_neg dD,if_pos rfl]
  rw [HV]
  clear HV
  have bd:=G.g
  have hn:=fun W hW=>dw (x.gt) W oM oM hW
  obtain ⟨T,hT⟩ : ∃ T:ByteArray,(⟨(Lib.itoa (x.gt)).toArray⟩ : ByteArray)=T:=⟨_,rfl⟩
  rw [show bJ (x.gt)=T from hT]
  rw [hT] at hn
  clear hT bd
  obtain ⟨c0,c1,c2,c3,c4⟩:=cells5 hL
  go_enter Tryz.func97,Tryz.ntmps97
  go_wp2_with fail
  refine (hn _ ht).mono ?_
  rintro e w2 ⟨rfl,vC⟩
  go_wp2
  go_ret2
  exact dX.yes vC
 have f2:(s.toList == [103,111,116])=false:=bT h2
 by_cases h3:s=⟨#[115,111,108,100]⟩
 ·subst h3
  have HV:dn x ⟨#[115,111,108,100]⟩=some (bJ (x.sd)):=by unfold dn; rw [if_neg dD,if_neg dD,if_neg dD,if_pos rfl]
  rw [HV]
  clear HV
  have bd:=G.s
  have hn:=fun W hW=>dw (x.sd) W oM oM hW
  obtain ⟨T,hT⟩ : ∃ T:ByteArray,(⟨(Lib.itoa (x.sd)).toArray⟩ : ByteArray)=T:=⟨_,rfl⟩
  rw [show bJ (x.sd)=T from hT]
  rw [hT] at hn
  clear hT bd
  obtain ⟨c0,c1,c2,c3,c4⟩:=cells5 hL
  go_enter Tryz.func97,Tryz.ntmps97
  go_wp2_with fail
  refine (hn _ ht).mono ?_
  rintro e w2 ⟨rfl,vC⟩
  go_wp2
  go_ret2
  exact dX.yes vC
 have f3:(s.toList == [115,111,108,100])=false:=bT h3
 by_cases h4:s=⟨#[109,105,115,115,101,100]⟩
 ·subst h4
  have HV:dn x ⟨#[109,105,115,115,101,100]⟩=some (bJ (x.ms)):=by unfold dn; rw [if_neg dD,if_neg dD,if_neg dD,if_neg dD,if_pos rfl]
  rw [HV]
  clear HV
  have bd:=G.m
  have hn:=fun W hW=>dw (x.ms) W oM oM hW
  obtain ⟨T,hT⟩ : ∃ T:ByteArray,(⟨(Lib.itoa (x.ms)).toArray⟩ : ByteArray)=T:=⟨_,rfl⟩
  rw [show bJ (x.ms)=T from hT]
  rw [hT] at hn
  clear hT bd
  obtain ⟨c0,c1,c2,c3,c4⟩:=cells5 hL
  go_enter Tryz.func97,Tryz.ntmps97
  go_wp2_with fail
  refine (hn _ ht).mono ?_
  rintro e w2 ⟨rfl,vC⟩
  go_wp2
  go_ret2
  exact dX.yes vC
 have f4:(s.toList == [109,105,115,115,101,100])=false:=bT h4
 by_cases h5:s=⟨#[98,117,115,105,101,115,116]⟩
 ·subst h5
  have HV:dn x ⟨#[98,117,115,105,101,115,116]⟩=if dd x then some (bJ (dF x)) else none:=by unfold dn; rw [if_neg dD,if_neg dD,if_neg dD,if_neg dD,if_neg dD,if_pos rfl]
  rw [HV]
  clear HV
  have hc:=jy x w h
  have bd:=um (x:=x)
  have hn:=fun W hW=>dw (dF x) W oM oM hW
  obtain ⟨T,hT⟩ : ∃ T:ByteArray,(⟨(Lib.itoa (dF x)).toArray⟩ : ByteArray)=T:=⟨_,rfl⟩
  rw [show bJ (dF x)=T from hT]
  rw [hT] at hn
  clear hT
  obtain ⟨v,hv⟩ : ∃ v,dF x=v:=⟨_,rfl⟩
  rw [hv] at hc hn
  clear hv bd
  obtain ⟨b,hb⟩ : ∃ b,dd x=b:=⟨_,rfl⟩
  rw [hb] at hc ⊢
  clear hb
  obtain ⟨c0,c1,c2,c3,c4⟩:=cells5 hL
  cases b
  all_goals
   go_enter Tryz.func97,Tryz.ntmps97
   go_wp2_with fail
   refine hc.mono ?_
   rintro e w1 ⟨rfl,vD⟩
   go_wp2_with fail
   refine (hn _ (ht.then vD)).mono ?_
   rintro e w2 ⟨rfl,vC⟩
   go_wp2
   go_ret2
   first
    | exact dX.yes (av vD vC)
    | exact dX.no (av vD vC)
 have f5:(s.toList == [98,117,115,105,101,115,116])=false:=bT h5
 have HV:dn x s=none:=by unfold dn; rw [if_neg h0,if_neg h1,if_neg h2,if_neg h3,if_neg h4,if_neg h5]
 rw [HV]
 clear h0 h1 h2 h3 h4 h5 HV
 have hn:=fun W hW=>dw 0 W oM oM hW
 obtain ⟨T,hT⟩ : ∃ T:ByteArray,(⟨(Lib.itoa 0).toArray⟩ : ByteArray)=T:=⟨_,rfl⟩
 rw [hT] at hn
 clear hT
 go_enter Tryz.func97,Tryz.ntmps97
 go_wp2_with fail
 refine (hn _ ht).mono ?_
 rintro e w2 ⟨rfl,vC⟩
 go_wp2
 go_ret2
 exact dX.no vC
set_option maxRecDepth 100000 in
theorem sq (x:aO) (l:Lg) (s:ByteArray) (n:Int) (g:Nat) (w:World) (hL:ah w g 42 [F x.TA x.t.length x.tc,F x.OA x.o.length x.oc,O U x.gt,O U x.sd,O U x.ms,vw l.D,vw l.P,O U l.n]) (h:aP w w.heap.size x) (G:bH x) (ht:iN w) :
  Calls vx 98 #[.pointer (some ⟨g,0,none⟩),vw s,O U n] w (dX w (gH x s n)):=by
 obtain ⟨c0,c1,c2,c3,c4⟩:=cells5 hL
 by_cases h0:s=⟨#[97,116]⟩
 ·subst h0
  have HV:gH x ⟨#[97,116]⟩ n=kH x n:=by unfold gH; rw [if_pos rfl]
  rw [HV]
  clear HV
  have BD:=tz G n (an x && cc n 1 999)
  have hc:=mR x n w h
  have HT:kH x n=if (an x && cc n 1 999)=true then some (fl (br (an x && cc n 1 999) (aT (fun r:ae=>decide (r.p=n)) ae.k x.o))) else none:=rfl
  rw [HT]
  clear HT
  obtain ⟨ok,vF⟩ : ∃ b,(an x && cc n 1 999)=b:=⟨_,rfl⟩
  obtain ⟨ns,xW⟩ : ∃ b,br (an x && cc n 1 999) (aT (fun r:ae=>decide (r.p=n)) ae.k x.o)=b:=⟨_,rfl⟩
  rw [xW] at BD hc ⊢
  rw [vF] at hc ⊢
  have hl:=fun W A c hR hT=>ly A c ns ok W hR BD.1 BD.2 hT
  clear vF xW BD
  obtain ⟨T,hT⟩ : ∃ T,fl ns=T:=⟨_,rfl⟩
  rw [hT] at hl ⊢
  clear hT
  cases ok
  all_goals
   go_enter Tryz.func98,Tryz.ntmps98
   go_wp2_with fail
   refine hc.mono ?_
   rintro e w1 ⟨A',c',rfl,hO,vD⟩
   go_wp2_with fail
   refine (hl _ A' c' hO.reads (ht.then vD)).mono ?_
   rintro e w2 ⟨rfl,vC⟩
   go_wp2
   go_ret2
   first
    | exact dX.yes (av vD vC)
    | exact dX.no (av vD vC)
 have f0:(s.toList == [97,116])=false:=bT h0
 by_cases h1:s=⟨#[119,105,116,104]⟩
 ·subst h1
  have HV:gH x ⟨#[119,105,116,104]⟩ n=il x n:=by unfold gH; rw [if_neg dD,if_pos rfl]
  rw [HV]
  clear HV
  have BD:=qH G n (an x && aS x.t n)
  have hc:=kr x n w h
  have HT:il x n=if (an x && aS x.t n)=true then some (fl (br (an x && aS x.t n) (aT (fun r:ae=>decide (r.k=n)) ae.p x.o))) else none:=rfl
  rw [HT]
  clear HT
  obtain ⟨ok,vF⟩ : ∃ b,(an x && aS x.t n)=b:=⟨_,rfl⟩
  obtain ⟨ns,xW⟩ : ∃ b,br (an x && aS x.t n) (aT (fun r:ae=>decide (r.k=n)) ae.p x.o)=b:=⟨_,rfl⟩
  rw [xW] at BD hc ⊢
  rw [vF] at hc ⊢
  have hl:=fun W A c hR hT=>ly A c ns ok W hR BD.1 BD.2 hT
  clear vF xW BD
  obtain ⟨T,hT⟩ : ∃ T,fl ns=T:=⟨_,rfl⟩
  rw [hT] at hl ⊢
  clear hT
  cases ok
  all_goals
   go_enter Tryz.func98,Tryz.ntmps98
   go_wp2_with fail
   refine hc.mono ?_
   rintro e w1 ⟨A',c',rfl,hO,vD⟩
   go_wp2_with fail
   refine (hl _ A' c' hO.reads (ht.then vD)).mono ?_
   rintro e w2 ⟨rfl,vC⟩
   go_wp2
   go_ret2
   first
    | exact dX.yes (av vD vC)
    | exact dX.no (av vD vC)
 have f1:(s.toList == [119,105,116,104])=false:=bT h1
 by_cases h2:s=⟨#[116,101,120,116]⟩
 ·subst h2
  have HV:gH x ⟨#[116,101,120,116]⟩ n=jU x n:=by unfold gH; rw [if_neg dD,if_neg dD,if_pos rfl]
  rw [HV]
  clear HV
  have hc:=lW x n w h ht
  have HT:jU x n=if (an x && aS x.t n)=true then some (eE x n) else none:=rfl
  rw [HT]
  clear HT
  obtain ⟨ok,vF⟩ : ∃ b,(an x && aS x.t n)=b:=⟨_,rfl⟩
  rw [vF] at hc ⊢
  obtain ⟨T,hT⟩ : ∃ T,eE x n=T:=⟨_,rfl⟩
  rw [hT] at hc ⊢
  clear hT vF
  cases ok
  all_goals
   go_enter Tryz.func98,Tryz.ntmps98
   go_wp2_with fail
   refine hc.mono ?_
   rintro e w1 ⟨rfl,vD⟩
   go_wp2
   go_ret2
   first
    | exact dX.yes vD
    | exact dX.no vD
 have f2:(s.toList == [116,101,120,116])=false:=bT h2
 have HV:gH x s n=none:=by unfold gH; rw [if_neg h0,if_neg h1,if_neg h2]
 rw [HV]
 clear h0 h1 h2 HV
 go_enter Tryz.func98,Tryz.ntmps98
 go_wp2
 go_ret2
 exact dX.no jB
end Go.Proofs.YtoeoimhemojdeaaGreatDoor
