/- Lemmas. -/
import Derived.Shelf.Strings.OnBuilder
import Derived.Test.YtoeoimhemojdeaaGreatDoorProg
import Derived.Test.YtoeoimhemojdeaaGreatDoorFs37

set_option linter.unusedVariables false
set_option linter.unusedSimpArgs false
set_option maxHeartbeats 8000000
open Go.Value renaming int → O, slice → F, string → wG
open Go.IntKind renaming i64 → U
open Go.Proofs.Tryz renaming prog → wH

namespace Go.Proofs.YtoeoimhemojdeaaGreatDoor
open Go.RowKit
theorem dt {w:World} {B g:Nat} {y:Oc} {TA OA:Option Addr} {tc oc:Nat} {cs:List Value} (u0 u1 u2 u3 u4 u5 u6 u7:Value) (hL:ai w g 42 cs) (h1:w.ownsRow B 104 2 (F TA y.t.length tc) y.t.length (y.t.flatMap aq.enc)) (h2:w.ownsRow B 147 3 (F OA y.o.length oc) y.o.length (y.o.flatMap ae.enc)) :
  ((((((((w.setCell ⟨g,0,none⟩ (u0)).setCell ⟨g,1,none⟩ (u1)).setCell ⟨g,2,none⟩ (u2)).setCell ⟨g,3,none⟩ (u3)).setCell ⟨g,4,none⟩ (u4)).setCell ⟨g,5,none⟩ (u5)).setCell ⟨g,6,none⟩ (u6)).setCell ⟨g,7,none⟩ (u7)).ownsRow B 104 2 (F TA y.t.length tc) y.t.length (y.t.flatMap aq.enc)∧((((((((w.setCell ⟨g,0,none⟩ (u0)).setCell ⟨g,1,none⟩ (u1)).setCell ⟨g,2,none⟩ (u2)).setCell ⟨g,3,none⟩ (u3)).setCell ⟨g,4,none⟩ (u4)).setCell ⟨g,5,none⟩ (u5)).setCell ⟨g,6,none⟩ (u6)).setCell ⟨g,7,none⟩ (u7)).ownsRow B 147 3 (F OA y.o.length oc) y.o.length (y.o.flatMap ae.enc):=by
 have gr:w.grownBy ((((((((w.setCell ⟨g,0,none⟩ (u0)).setCell ⟨g,1,none⟩ (u1)).setCell ⟨g,2,none⟩ (u2)).setCell ⟨g,3,none⟩ (u3)).setCell ⟨g,4,none⟩ (u4)).setCell ⟨g,5,none⟩ (u5)).setCell ⟨g,6,none⟩ (u6)).setCell ⟨g,7,none⟩ (u7)) (some g):=ab (g:=g) (i:=7) (u:=u7) (ab (g:=g) (i:=6) (u:=u6) (ab (g:=g) (i:=5) (u:=u5) (gw5 w g u0 u1 u2 u3 u4)))
 exact ⟨ak h1 hL fj gr,ak h2 hL fk gr⟩
theorem vu {x X:aO} (h:X.c=x.c) (line:ByteArray):iZ X line=iZ x line:=by
 cases x; cases X
 simp only [aO.c,Oc.mk.injEq] at h
 obtain ⟨rfl,rfl,rfl,rfl,rfl⟩:=h
 rfl
theorem good_c {x X:aO} (h:X.c=x.c) (G:bK x):bK X:=by
 have e:X.c.good=x.c.good:=by rw [h]
 have e1:ao x=true:=br.2 G
 have e2:X.c.good=true:=e.trans e1
 exact br.1 (show ao X=true from e2)
theorem uu {x:aO} (h:x.c.good=true) (w0:ByteArray) (ns:List Int):(fF x (bH x w0 ns)).good=true:=by
 have key:∀ s:Option df,(fF x (s.bind (cc x))).good=true:=fun s=>by
  cases s with
  | none=>exact h
  | some s =>
   show (fF x (cc x s)).good=true
   unfold cc
   cases hN:gq x.c s with
   | none=>exact h
   | some z=>exact (fH hN).1
 unfold bH
 split
 ·rw [lS]; exact h
 ·rw [lS]; exact h
 ·exact key _
 ·exact key _
 ·exact h
theorem pC {x:aO} (h:x.c.good=true) (line:ByteArray):(fF x (iZ x line)).good=true:=by
 unfold iZ
 cases dY ((aI 32 (bl line)).drop 1) with
 | none=>exact h
 | some ns=>exact uu h _ _
theorem wb {x X:aO} (h:X.c=x.c) (R:Option (Oc × ByteArray)):fF X R=fF x R:=by cases R <;> simp [fF,h]
def db (w:World) (x:aO) (l:Lg) (line:ByteArray) (e:Ending) (w' : World):Prop :=
 ∃ v,e=.returned (.tuple #[v,wG (gw x l line)])∧i8 w' w.heap.size (fD x l line) (fS x l line) v∧Below w.heap.size w w'
theorem db.mk {w w' : World} {x:aO} {l l' : Lg} {line T:ByteArray} {y:Oc} {v:Value} (hT:gw x l line=T) (hO:fD x l line=y) (hL:fS x l line=l') (h1:i8 w' w.heap.size y l' v) (h2:Below w.heap.size w w'):db w x l line (.returned (.tuple #[v,wG T])) w':=by
 subst hT; subst hO; subst hL; exact ⟨v,rfl,h1,h2⟩
set_option maxRecDepth 100000 in
theorem uv (x:aO) (l:Lg) (line:ByteArray) (w:World) (h:aQ w w.heap.size x) (tl:x.t.length≤1048576) (ol:x.o.length≤1048576) (hs:l.D.size+l.P.size≤2000000) (zc:line.size≤1048576) (wP:dx x l=false) :
  Calls wH 14 #[aJ x l,wG line] w (db w x l line):=by
 have L1:=(ai.new w 42 #[F x.TA x.t.length x.tc,F x.OA x.o.length x.oc,O U x.gt,O U x.sd,O U x.ms,wG l.D,wG l.P,O U l.n]).alloc (.cells #[F none 0 0,F none 0 0,O U 0,O U 0,O U 0,wG ⟨#[]⟩,wG ⟨#[]⟩,O U 0] 42)
 have L2:=ai.new1 w (.cells #[F x.TA x.t.length x.tc,F x.OA x.o.length x.oc,O U x.gt,O U x.sd,O U x.ms,wG l.D,wG l.P,O U l.n] 42) 42 #[F none 0 0,F none 0 0,O U 0,O U 0,O U 0,wG ⟨#[]⟩,wG ⟨#[]⟩,O U 0]
 have b1:=bZ w (.cells #[F x.TA x.t.length x.tc,F x.OA x.o.length x.oc,O U x.gt,O U x.sd,O U x.ms,wG l.D,wG l.P,O U l.n] 42)
 have b2:=b1.alloc b1.size (.cells #[F none 0 0,F none 0 0,O U 0,O U 0,O U 0,wG ⟨#[]⟩,wG ⟨#[]⟩,O U 0] 42)
 have hW:=h.up b2 nR
 have xq:w.heap.size≤w.heap.size+1:=oM
 clear b1 h
 go_enter Tryz.func14,Tryz.ntmps14
 go_wp2_with fail
 generalize ((w.alloc (.cells #[F x.TA x.t.length x.tc,F x.OA x.o.length x.oc,O U x.gt,O U x.sd,O U x.ms,wG l.D,wG l.P,O U l.n] 42)).alloc (.cells #[F none 0 0,F none 0 0,O U 0,O U 0,O U 0,wG ⟨#[]⟩,wG ⟨#[]⟩,O U 0] 42))=W at L1 L2 b2 hW ⊢
 refine (iA x l W hW tl ol).mono ?_
 rintro e W1 ⟨v,rfl,⟨TA,tc,OA,oc,rfl,zd,zo⟩,hb⟩
 go_upto_region 2 with fail
 have wO:=(Below.refl W1.heap.size W1).alloc nR (.cells #[F TA x.c.t.length tc,F OA x.c.o.length oc,O U x.c.gt,O U x.c.sd,O U x.c.ms,wG l.D,wG l.P,O U l.n] 42)
 have wM:=av hb wO
 have J1:=L1.below wM L1.lt
 have J2:=L2.below wM L2.lt
 have J6:=ai.new W1 42 #[F TA x.c.t.length tc,F OA x.c.o.length oc,O U x.c.gt,O U x.c.sd,O U x.c.ms,wG l.D,wG l.P,O U l.n]
 have b4:=av b2 wM
 have yp:=ah (ac zd wO) b2.size
 have yq:=ah (ac zo wO) b2.size
 have y5:=hW.then wM
 have hg26:w.heap.size+1 < W1.heap.size:=jL L2.lt hb.size
 clear wO wM hb zd zo L1 L2 b2 hW
 generalize W1.alloc (.cells #[F TA x.c.t.length tc,F OA x.c.o.length oc,O U x.c.gt,O U x.c.sd,O U x.c.ms,wG l.D,wG l.P,O U l.n] 42)=W2 at J1 J2 J6 b4 yp yq y5 ⊢
 generalize W1.heap.size=g6 at J6 hg26 ⊢
 have yS:w.heap.size≤g6:=oM
 obtain ⟨c0,c1,c2,c3,c4,c5,c6,c7⟩:=cells8 J1
 go_wp2_with fail
 refine (eH x l W2 y5 hs).mono ?_
 rintro e W3 ⟨rfl,wZ⟩
 have K1:=J1.below wZ J1.lt
 have K2:=J2.below wZ J2.lt
 have K6:=J6.below wZ J6.lt
 have b5:=b4.trans (wZ.mono b4.size)
 have xR:=ac yp wZ
 have xp:=ac yq wZ
 have xH:=y5.then wZ
 clear wZ J1 J2 J6 b4 yp yq y5 c0 c1 c2 c3 c4 c5 c6 c7
 rw [wP]
 obtain ⟨p0,p1,p2,p3,p4,p5,p6,p7⟩:=cells8 K6
 obtain ⟨z0,z1,z2,z3,z4,z5,z6,z7⟩:=cells8 K2
 obtain ⟨f0,f1,f2,f3,f4,f5,f6,f7⟩:=frz8 K2
 obtain ⟨xt,xm⟩:=dt (F TA x.c.t.length tc) (F OA x.c.o.length oc) (O U x.c.gt) (O U x.c.sd) (O U x.c.ms) (wG l.D) (wG l.P) (O U l.n) K2 xR xp
 have bz:=jZ (eX (g:=w.heap.size+1) (b5) xq (F TA x.c.t.length tc) (F OA x.c.o.length oc) (O U x.c.gt) (O U x.c.sd) (O U x.c.ms) (wG l.D) (wG l.P) (O U l.n))
 have Do:=jZ xt
 have Co:=jZ xm
 clear K1 K2 K6 b5 xR xp xH xt xm
 go_wp2_with fail
 refine bodyPost_ret (v:=.tuple #[.agg #[F TA x.c.t.length tc,F OA x.c.o.length oc,O U x.c.gt,O U x.c.sd,O U x.c.ms,wG l.D,wG l.P,O U l.n],wG ⟨#[110,111]⟩]) (by simp [results,Tryz.results14,go_sem, *]) rfl (db.mk (by unfold gw; rw [if_neg (by rw [wP]; exact Bool.false_ne_true)]) (by unfold fD; rw [if_neg (by rw [wP]; exact Bool.false_ne_true)]) (by unfold fS; rw [if_neg (by rw [wP]; exact Bool.false_ne_true)]) ⟨TA,tc,OA,oc,rfl,Do.out,Co.out⟩ bz.out)
set_option maxRecDepth 100000 in
theorem sL (x:aO) (l:Lg) (line:ByteArray) (w:World) (h:aQ w w.heap.size x) (tl:x.t.length≤1048576) (ol:x.o.length≤1048576) (hs:l.D.size+l.P.size≤2000000) (zc:line.size≤1048576) (wP:dx x l=true) (yl:dA.ok ⟨line,⟨#[]⟩⟩=false) :
  Calls wH 14 #[aJ x l,wG line] w (db w x l line):=by
 have L1:=(ai.new w 42 #[F x.TA x.t.length x.tc,F x.OA x.o.length x.oc,O U x.gt,O U x.sd,O U x.ms,wG l.D,wG l.P,O U l.n]).alloc (.cells #[F none 0 0,F none 0 0,O U 0,O U 0,O U 0,wG ⟨#[]⟩,wG ⟨#[]⟩,O U 0] 42)
 have L2:=ai.new1 w (.cells #[F x.TA x.t.length x.tc,F x.OA x.o.length x.oc,O U x.gt,O U x.sd,O U x.ms,wG l.D,wG l.P,O U l.n] 42) 42 #[F none 0 0,F none 0 0,O U 0,O U 0,O U 0,wG ⟨#[]⟩,wG ⟨#[]⟩,O U 0]
 have b1:=bZ w (.cells #[F x.TA x.t.length x.tc,F x.OA x.o.length x.oc,O U x.gt,O U x.sd,O U x.ms,wG l.D,wG l.P,O U l.n] 42)
 have b2:=b1.alloc b1.size (.cells #[F none 0 0,F none 0 0,O U 0,O U 0,O U 0,wG ⟨#[]⟩,wG ⟨#[]⟩,O U 0] 42)
 have hW:=h.up b2 nR
 have xq:w.heap.size≤w.heap.size+1:=oM
 clear b1 h
 go_enter Tryz.func14,Tryz.ntmps14
 go_wp2_with fail
 generalize ((w.alloc (.cells #[F x.TA x.t.length x.tc,F x.OA x.o.length x.oc,O U x.gt,O U x.sd,O U x.ms,wG l.D,wG l.P,O U l.n] 42)).alloc (.cells #[F none 0 0,F none 0 0,O U 0,O U 0,O U 0,wG ⟨#[]⟩,wG ⟨#[]⟩,O U 0] 42))=W at L1 L2 b2 hW ⊢
 refine (iA x l W hW tl ol).mono ?_
 rintro e W1 ⟨v,rfl,⟨TA,tc,OA,oc,rfl,zd,zo⟩,hb⟩
 go_upto_region 2 with fail
 have wO:=(Below.refl W1.heap.size W1).alloc nR (.cells #[F TA x.c.t.length tc,F OA x.c.o.length oc,O U x.c.gt,O U x.c.sd,O U x.c.ms,wG l.D,wG l.P,O U l.n] 42)
 have wM:=av hb wO
 have J1:=L1.below wM L1.lt
 have J2:=L2.below wM L2.lt
 have J6:=ai.new W1 42 #[F TA x.c.t.length tc,F OA x.c.o.length oc,O U x.c.gt,O U x.c.sd,O U x.c.ms,wG l.D,wG l.P,O U l.n]
 have b4:=av b2 wM
 have yp:=ah (ac zd wO) b2.size
 have yq:=ah (ac zo wO) b2.size
 have y5:=hW.then wM
 have hg26:w.heap.size+1 < W1.heap.size:=jL L2.lt hb.size
 clear wO wM hb zd zo L1 L2 b2 hW
 generalize W1.alloc (.cells #[F TA x.c.t.length tc,F OA x.c.o.length oc,O U x.c.gt,O U x.c.sd,O U x.c.ms,wG l.D,wG l.P,O U l.n] 42)=W2 at J1 J2 J6 b4 yp yq y5 ⊢
 generalize W1.heap.size=g6 at J6 hg26 ⊢
 have yS:w.heap.size≤g6:=oM
 obtain ⟨c0,c1,c2,c3,c4,c5,c6,c7⟩:=cells8 J1
 go_wp2_with fail
 refine (eH x l W2 y5 hs).mono ?_
 rintro e W3 ⟨rfl,wZ⟩
 have K1:=J1.below wZ J1.lt
 have K2:=J2.below wZ J2.lt
 have K6:=J6.below wZ J6.lt
 have b5:=b4.trans (wZ.mono b4.size)
 have xR:=ac yp wZ
 have xp:=ac yq wZ
 have xH:=y5.then wZ
 clear wZ J1 J2 J6 b4 yp yq y5 c0 c1 c2 c3 c4 c5 c6 c7
 rw [wP]
 go_wp2_with fail
 refine (gP ⟨line,⟨#[]⟩⟩ W3 (jT zc dD) (show (0:Nat)≤1000000000 by omega)).mono ?_
 rintro e W4 ⟨rfl,wV⟩
 have N1:=K1.below wV K1.lt
 have N2:=K2.below wV K2.lt
 have N6:=K6.below wV K6.lt
 have b6:=b5.trans (wV.mono b5.size)
 have xN:=ac xR wV
 have x9:=ac xp wV
 have xU:=xH.then wV
 clear wV K1 K2 K6 b5 xR xp xH
 rw [yl]
 obtain ⟨p0,p1,p2,p3,p4,p5,p6,p7⟩:=cells8 N6
 obtain ⟨z0,z1,z2,z3,z4,z5,z6,z7⟩:=cells8 N2
 obtain ⟨f0,f1,f2,f3,f4,f5,f6,f7⟩:=frz8 N2
 obtain ⟨xt,xm⟩:=dt (F TA x.c.t.length tc) (F OA x.c.o.length oc) (O U x.c.gt) (O U x.c.sd) (O U x.c.ms) (wG l.D) (wG l.P) (O U l.n) N2 xN x9
 have bz:=jZ (eX (g:=w.heap.size+1) (b6) xq (F TA x.c.t.length tc) (F OA x.c.o.length oc) (O U x.c.gt) (O U x.c.sd) (O U x.c.ms) (wG l.D) (wG l.P) (O U l.n))
 have Do:=jZ xt
 have Co:=jZ xm
 clear N1 N2 N6 b6 xN x9 xU xt xm
 go_wp2_with fail
 refine bodyPost_ret (v:=.tuple #[.agg #[F TA x.c.t.length tc,F OA x.c.o.length oc,O U x.c.gt,O U x.c.sd,O U x.c.ms,wG l.D,wG l.P,O U l.n],wG ⟨#[98,97,100]⟩]) (by simp [results,Tryz.results14,go_sem, *]) rfl (db.mk (by unfold gw; rw [if_pos wP,if_neg (by rw [yl]; exact Bool.false_ne_true)]) (by unfold fD; rw [if_pos wP,if_neg (by rw [yl]; exact Bool.false_ne_true)]) (by unfold fS; rw [if_pos wP,if_neg (by rw [yl]; exact Bool.false_ne_true)]) ⟨TA,tc,OA,oc,rfl,Do.out,Co.out⟩ bz.out)
set_option maxRecDepth 100000 in
theorem ry (x:aO) (l:Lg) (line:ByteArray) (w:World) (h:aQ w w.heap.size x) (tl:x.t.length≤1048576) (ol:x.o.length≤1048576) (hs:l.D.size+l.P.size≤2000000) (zc:line.size≤1048576) (wP:dx x l=true) (yl:dA.ok ⟨line,⟨#[]⟩⟩=true) (hn:l.n=60) :
  Calls wH 14 #[aJ x l,wG line] w (db w x l line):=by
 have wT:(l.n == 60)=true:=by rw [hn]; rfl
 have HN:=jZ hn
 clear hn
 have L1:=(ai.new w 42 #[F x.TA x.t.length x.tc,F x.OA x.o.length x.oc,O U x.gt,O U x.sd,O U x.ms,wG l.D,wG l.P,O U l.n]).alloc (.cells #[F none 0 0,F none 0 0,O U 0,O U 0,O U 0,wG ⟨#[]⟩,wG ⟨#[]⟩,O U 0] 42)
 have L2:=ai.new1 w (.cells #[F x.TA x.t.length x.tc,F x.OA x.o.length x.oc,O U x.gt,O U x.sd,O U x.ms,wG l.D,wG l.P,O U l.n] 42) 42 #[F none 0 0,F none 0 0,O U 0,O U 0,O U 0,wG ⟨#[]⟩,wG ⟨#[]⟩,O U 0]
 have b1:=bZ w (.cells #[F x.TA x.t.length x.tc,F x.OA x.o.length x.oc,O U x.gt,O U x.sd,O U x.ms,wG l.D,wG l.P,O U l.n] 42)
 have b2:=b1.alloc b1.size (.cells #[F none 0 0,F none 0 0,O U 0,O U 0,O U 0,wG ⟨#[]⟩,wG ⟨#[]⟩,O U 0] 42)
 have hW:=h.up b2 nR
 have xq:w.heap.size≤w.heap.size+1:=oM
 clear b1 h
 go_enter Tryz.func14,Tryz.ntmps14
 go_wp2_with fail
 generalize ((w.alloc (.cells #[F x.TA x.t.length x.tc,F x.OA x.o.length x.oc,O U x.gt,O U x.sd,O U x.ms,wG l.D,wG l.P,O U l.n] 42)).alloc (.cells #[F none 0 0,F none 0 0,O U 0,O U 0,O U 0,wG ⟨#[]⟩,wG ⟨#[]⟩,O U 0] 42))=W at L1 L2 b2 hW ⊢
 refine (iA x l W hW tl ol).mono ?_
 rintro e W1 ⟨v,rfl,⟨TA,tc,OA,oc,rfl,zd,zo⟩,hb⟩
 go_upto_region 2 with fail
 have wO:=(Below.refl W1.heap.size W1).alloc nR (.cells #[F TA x.c.t.length tc,F OA x.c.o.length oc,O U x.c.gt,O U x.c.sd,O U x.c.ms,wG l.D,wG l.P,O U l.n] 42)
 have wM:=av hb wO
 have J1:=L1.below wM L1.lt
 have J2:=L2.below wM L2.lt
 have J6:=ai.new W1 42 #[F TA x.c.t.length tc,F OA x.c.o.length oc,O U x.c.gt,O U x.c.sd,O U x.c.ms,wG l.D,wG l.P,O U l.n]
 have b4:=av b2 wM
 have yp:=ah (ac zd wO) b2.size
 have yq:=ah (ac zo wO) b2.size
 have y5:=hW.then wM
 have hg26:w.heap.size+1 < W1.heap.size:=jL L2.lt hb.size
 clear wO wM hb zd zo L1 L2 b2 hW
 generalize W1.alloc (.cells #[F TA x.c.t.length tc,F OA x.c.o.length oc,O U x.c.gt,O U x.c.sd,O U x.c.ms,wG l.D,wG l.P,O U l.n] 42)=W2 at J1 J2 J6 b4 yp yq y5 ⊢
 generalize W1.heap.size=g6 at J6 hg26 ⊢
 have yS:w.heap.size≤g6:=oM
 obtain ⟨c0,c1,c2,c3,c4,c5,c6,c7⟩:=cells8 J1
 go_wp2_with fail
 refine (eH x l W2 y5 hs).mono ?_
 rintro e W3 ⟨rfl,wZ⟩
 have K1:=J1.below wZ J1.lt
 have K2:=J2.below wZ J2.lt
 have K6:=J6.below wZ J6.lt
 have b5:=b4.trans (wZ.mono b4.size)
 have xR:=ac yp wZ
 have xp:=ac yq wZ
 have xH:=y5.then wZ
 clear wZ J1 J2 J6 b4 yp yq y5 c0 c1 c2 c3 c4 c5 c6 c7
 rw [wP]
 go_wp2_with fail
 refine (gP ⟨line,⟨#[]⟩⟩ W3 (jT zc dD) (show (0:Nat)≤1000000000 by omega)).mono ?_
 rintro e W4 ⟨rfl,wV⟩
 have N1:=K1.below wV K1.lt
 have N2:=K2.below wV K2.lt
 have N6:=K6.below wV K6.lt
 have b6:=b5.trans (wV.mono b5.size)
 have xN:=ac xR wV
 have x9:=ac xp wV
 have xU:=xH.then wV
 clear wV K1 K2 K6 b5 xR xp xH
 rw [yl]
 obtain ⟨c0,c1,c2,c3,c4,c5,c6,c7⟩:=cells8 N1
 obtain ⟨p0,p1,p2,p3,p4,p5,p6,p7⟩:=cells8 N6
 obtain ⟨z0,z1,z2,z3,z4,z5,z6,z7⟩:=cells8 N2
 obtain ⟨f0,f1,f2,f3,f4,f5,f6,f7⟩:=frz8 N2
 obtain ⟨xt,xm⟩:=dt (F TA x.c.t.length tc) (F OA x.c.o.length oc) (O U x.c.gt) (O U x.c.sd) (O U x.c.ms) (wG l.D) (wG l.P) (O U l.n) N2 xN x9
 have bz:=jZ (eX (g:=w.heap.size+1) (b6) xq (F TA x.c.t.length tc) (F OA x.c.o.length oc) (O U x.c.gt) (O U x.c.sd) (O U x.c.ms) (wG l.D) (wG l.P) (O U l.n))
 have Do:=jZ xt
 have Co:=jZ xm
 clear N1 N2 N6 b6 xN x9 xU xt xm
 go_wp2_with fail
 refine bodyPost_ret (v:=.tuple #[.agg #[F TA x.c.t.length tc,F OA x.c.o.length oc,O U x.c.gt,O U x.c.sd,O U x.c.ms,wG l.D,wG l.P,O U l.n],wG ⟨#[102,117,108,108]⟩]) (by simp [results,Tryz.results14,go_sem, *]) rfl (db.mk (by unfold gw; rw [if_pos wP,if_pos yl,if_pos HN.out]) (by unfold fD; rw [if_pos wP,if_pos yl,if_pos HN.out]) (by unfold fS; rw [if_pos wP,if_pos yl,if_pos HN.out]) ⟨TA,tc,OA,oc,rfl,Do.out,Co.out⟩ bz.out)
set_option maxRecDepth 100000 in
theorem sM (x:aO) (l:Lg) (line:ByteArray) (w:World) (h:aQ w w.heap.size x) (tl:x.t.length≤1048576) (ol:x.o.length≤1048576) (hs:l.D.size+l.P.size≤2000000) (zc:line.size≤1048576) (wP:dx x l=true) (yl:dA.ok ⟨line,⟨#[]⟩⟩=true) (hn : ¬ l.n=60) :
  Calls wH 14 #[aJ x l,wG line] w (db w x l line):=by
 have wT:(l.n == 60)=false:=beq_false_of_ne hn
 have G:=jK wP
 have hl160:line.size≤1000:=by
  have h1:=(de.1 yl).2.1
  have h2:line.size≤160:=h1
  omega
 have Fg:gw x l line=jl x line:=by unfold gw; rw [if_pos wP,if_pos yl,if_neg hn]
 have FO:fD x l line=rn x line:=by unfold fD; rw [if_pos wP,if_pos yl,if_neg hn]
 have DY:fS x l line=cH l ⟨line,jl x line⟩:=by unfold fS; rw [if_pos wP,if_pos yl,if_neg hn]
 obtain ⟨R,hR⟩ : ∃ R,iZ x line=R:=⟨_,rfl⟩
 have AS:jl x line=if 200 < (jN R).size then ⟨#[108,111,110,103]⟩ else jN R:=by
  unfold jl; rw [hR]; cases R with
  | none=>exact (if_neg dD).symm
  | some r=>rfl
 have At:rn x line=fF x R:=by unfold rn; rw [hR]; cases R <;> rfl
 obtain ⟨rep,BE⟩ : ∃ rep,jl x line=rep:=⟨_,rfl⟩
 have Dg:rep.size≤200:=by
  rw [← BE,AS]; split
  ·show (4:Nat)≤200; omega
  ·omega
 obtain ⟨l2,y7⟩ : ∃ l2,cH l ⟨line,rep⟩=l2:=⟨_,rfl⟩
 have cA:=fun W=>iu l ⟨line,rep⟩ W hs (jT hl160 dD) (jT Dg dD)
 rw [BE] at Fg DY AS
 rw [y7] at cA DY
 have ET:=jZ Fg
 have EO:=jZ (FO.trans At)
 have EL:=jZ DY
 have HC:=jZ hR
 clear hn Fg FO DY At BE y7 hR
 have L1:=(ai.new w 42 #[F x.TA x.t.length x.tc,F x.OA x.o.length x.oc,O U x.gt,O U x.sd,O U x.ms,wG l.D,wG l.P,O U l.n]).alloc (.cells #[F none 0 0,F none 0 0,O U 0,O U 0,O U 0,wG ⟨#[]⟩,wG ⟨#[]⟩,O U 0] 42)
 have L2:=ai.new1 w (.cells #[F x.TA x.t.length x.tc,F x.OA x.o.length x.oc,O U x.gt,O U x.sd,O U x.ms,wG l.D,wG l.P,O U l.n] 42) 42 #[F none 0 0,F none 0 0,O U 0,O U 0,O U 0,wG ⟨#[]⟩,wG ⟨#[]⟩,O U 0]
 have b1:=bZ w (.cells #[F x.TA x.t.length x.tc,F x.OA x.o.length x.oc,O U x.gt,O U x.sd,O U x.ms,wG l.D,wG l.P,O U l.n] 42)
 have b2:=b1.alloc b1.size (.cells #[F none 0 0,F none 0 0,O U 0,O U 0,O U 0,wG ⟨#[]⟩,wG ⟨#[]⟩,O U 0] 42)
 have hW:=h.up b2 nR
 have xq:w.heap.size≤w.heap.size+1:=oM
 clear b1 h
 go_enter Tryz.func14,Tryz.ntmps14
 go_wp2_with fail
 generalize ((w.alloc (.cells #[F x.TA x.t.length x.tc,F x.OA x.o.length x.oc,O U x.gt,O U x.sd,O U x.ms,wG l.D,wG l.P,O U l.n] 42)).alloc (.cells #[F none 0 0,F none 0 0,O U 0,O U 0,O U 0,wG ⟨#[]⟩,wG ⟨#[]⟩,O U 0] 42))=W at L1 L2 b2 hW ⊢
 refine (iA x l W hW tl ol).mono ?_
 rintro e W1 ⟨v,rfl,⟨TA,tc,OA,oc,rfl,zd,zo⟩,hb⟩
 go_upto_region 2 with fail
 have wO:=(Below.refl W1.heap.size W1).alloc nR (.cells #[F TA x.c.t.length tc,F OA x.c.o.length oc,O U x.c.gt,O U x.c.sd,O U x.c.ms,wG l.D,wG l.P,O U l.n] 42)
 have wM:=av hb wO
 have J1:=L1.below wM L1.lt
 have J2:=L2.below wM L2.lt
 have J6:=ai.new W1 42 #[F TA x.c.t.length tc,F OA x.c.o.length oc,O U x.c.gt,O U x.c.sd,O U x.c.ms,wG l.D,wG l.P,O U l.n]
 have b4:=av b2 wM
 have yp:=ah (ac zd wO) b2.size
 have yq:=ah (ac zo wO) b2.size
 have y5:=hW.then wM
 have hg26:w.heap.size+1 < W1.heap.size:=jL L2.lt hb.size
 clear wO wM hb zd zo L1 L2 b2 hW
 generalize W1.alloc (.cells #[F TA x.c.t.length tc,F OA x.c.o.length oc,O U x.c.gt,O U x.c.sd,O U x.c.ms,wG l.D,wG l.P,O U l.n] 42)=W2 at J1 J2 J6 b4 yp yq y5 ⊢
 generalize W1.heap.size=g6 at J6 hg26 ⊢
 have yS:w.heap.size≤g6:=oM
 obtain ⟨c0,c1,c2,c3,c4,c5,c6,c7⟩:=cells8 J1
 go_wp2_with fail
 refine (eH x l W2 y5 hs).mono ?_
 rintro e W3 ⟨rfl,wZ⟩
 have K1:=J1.below wZ J1.lt
 have K2:=J2.below wZ J2.lt
 have K6:=J6.below wZ J6.lt
 have b5:=b4.trans (wZ.mono b4.size)
 have xR:=ac yp wZ
 have xp:=ac yq wZ
 have xH:=y5.then wZ
 clear wZ J1 J2 J6 b4 yp yq y5 c0 c1 c2 c3 c4 c5 c6 c7
 rw [wP]
 go_wp2_with fail
 refine (gP ⟨line,⟨#[]⟩⟩ W3 (jT zc dD) (show (0:Nat)≤1000000000 by omega)).mono ?_
 rintro e W4 ⟨rfl,wV⟩
 have N1:=K1.below wV K1.lt
 have N2:=K2.below wV K2.lt
 have N6:=K6.below wV K6.lt
 have b6:=b5.trans (wV.mono b5.size)
 have xN:=ac xR wV
 have x9:=ac xp wV
 have xU:=xH.then wV
 clear wV K1 K2 K6 b5 xR xp xH
 rw [yl]
 obtain ⟨c0,c1,c2,c3,c4,c5,c6,c7⟩:=cells8 N1
 have DZ:(x.c.at TA tc OA oc).c=x.c:=rfl
 have JS:aQ W4 W4.heap.size (x.c.at TA tc OA oc):=⟨aw xN,aw x9⟩
 have hcapX:(x.c.at TA tc OA oc).t.length≤(x.c.at TA tc OA oc).tc:=iK xN
 have xz:=sK (x.c.at TA tc OA oc) l line W4 JS hcapX (good_c DZ G) hl160
 rw [vu DZ,HC.out] at xz
 obtain ⟨p0,p1,p2,p3,p4,p5,p6,p7⟩:=cells8 N6
 go_wp2_with fail
 refine xz.mono ?_
 rintro e W5 ⟨v,rfl,hv,hb5⟩
 obtain ⟨X,rfl,GW,Ba⟩:=hv.as (JS.then hb5)
 have wO:=(Below.refl W5.heap.size W5).alloc nR (.cells #[F X.TA X.t.length X.tc,F X.OA X.o.length X.oc,O U X.gt,O U X.sd,O U X.ms,wG l.D,wG l.P,O U l.n] 42)
 have xn:=av hb5 wO
 have J1:=N1.below xn N1.lt
 have J2:=N2.below xn N2.lt
 have J6:=N6.below xn N6.lt
 have J7:=ai.new W5 42 #[F X.TA X.t.length X.tc,F X.OA X.o.length X.oc,O U X.gt,O U X.sd,O U X.ms,wG l.D,wG l.P,O U l.n]
 have b7:=b6.trans (xn.mono b6.size)
 have JT:=Ba.then wO
 have hg67:g6 < W5.heap.size:=jL N6.lt hb5.size
 clear p0 p1 p2 p3 p4 p5 p6 p7 c0 c1 c2 c3 c4 c5 c6 c7
 go_upto_region 9 with fail
 clear wO xn hb5 hv Ba N1 N2 N6 b6 xN x9 JS xz hcapX xU
 generalize W5.alloc (.cells #[F X.TA X.t.length X.tc,F X.OA X.o.length X.oc,O U X.gt,O U X.sd,O U X.ms,wG l.D,wG l.P,O U l.n] 42)=W6 at J1 J2 J6 J7 b7 JT ⊢
 generalize W5.heap.size=g7 at J7 hg67 ⊢
 rw [wb DZ] at GW
 have Ly:(fF x R).good=true:=by rw [← HC.out]; exact pC (by have e1:ao x=true:=br.2 G; exact e1) line
 have wR:=kA Ly
 rw [← GW] at wR
 have xg:=iA X l W6 JT (by have:=wR.1; show X.c.t.length≤_; omega) (by have:=wR.2; show X.c.o.length≤_; omega)
 rw [GW] at xg
 have Nb:=jZ GW
 clear wR GW DZ
 obtain ⟨y,hy⟩ : ∃ y,fF x R=y:=⟨_,rfl⟩
 rw [hy] at xg EO
 clear hy Ly Nb
 obtain ⟨c0,c1,c2,c3,c4,c5,c6,c7⟩:=cells8 J7
 go_wp2_with fail
 refine xg.mono ?_
 rintro e W7 ⟨v,rfl,⟨TB,tb,OB,ob,rfl,FI,Cy⟩,yJ⟩
 have K1:=J1.below yJ J1.lt
 have K2:=J2.below yJ J2.lt
 have K6:=J6.below yJ J6.lt
 have b8:=b7.trans (yJ.mono b7.size)
 have zA:=ah FI b7.size
 have xi:=ah Cy b7.size
 obtain ⟨xj,xM⟩:=dt (F TB y.t.length tb) (F OB y.o.length ob) (O U y.gt) (O U y.sd) (O U y.ms) (wG l.D) (wG l.P) (O U l.n) K6 zA xi
 have M1:ai ((((((((W7.setCell ⟨g6,0,none⟩ (F TB y.t.length tb)).setCell ⟨g6,1,none⟩ (F OB y.o.length ob)).setCell ⟨g6,2,none⟩ (O U y.gt)).setCell ⟨g6,3,none⟩ (O U y.sd)).setCell ⟨g6,4,none⟩ (O U y.ms)).setCell ⟨g6,5,none⟩ (wG l.D)).setCell ⟨g6,6,none⟩ (wG l.P)).setCell ⟨g6,7,none⟩ (O U l.n)) w.heap.size 42 [F x.TA x.t.length x.tc,F x.OA x.o.length x.oc,O U x.gt,O U x.sd,O U x.ms,wG l.D,wG l.P,O U l.n]:=((((((((K1).other (p:=⟨g6,0,none⟩) (by simp only; omega) (F TB y.t.length tb)).other (p:=⟨g6,1,none⟩) (by simp only; omega) (F OB y.o.length ob)).other (p:=⟨g6,2,none⟩) (by simp only; omega) (O U y.gt)).other (p:=⟨g6,3,none⟩) (by simp only; omega) (O U y.sd)).other (p:=⟨g6,4,none⟩) (by simp only; omega) (O U y.ms)).other (p:=⟨g6,5,none⟩) (by simp only; omega) (wG l.D)).other (p:=⟨g6,6,none⟩) (by simp only; omega) (wG l.P)).other (p:=⟨g6,7,none⟩) (by simp only; omega) (O U l.n)
 have M2:ai ((((((((W7.setCell ⟨g6,0,none⟩ (F TB y.t.length tb)).setCell ⟨g6,1,none⟩ (F OB y.o.length ob)).setCell ⟨g6,2,none⟩ (O U y.gt)).setCell ⟨g6,3,none⟩ (O U y.sd)).setCell ⟨g6,4,none⟩ (O U y.ms)).setCell ⟨g6,5,none⟩ (wG l.D)).setCell ⟨g6,6,none⟩ (wG l.P)).setCell ⟨g6,7,none⟩ (O U l.n)) (w.heap.size+1) 42 [F none 0 0,F none 0 0,O U 0,O U 0,O U 0,wG ⟨#[]⟩,wG ⟨#[]⟩,O U 0]:=((((((((K2).other (p:=⟨g6,0,none⟩) (by simp only; omega) (F TB y.t.length tb)).other (p:=⟨g6,1,none⟩) (by simp only; omega) (F OB y.o.length ob)).other (p:=⟨g6,2,none⟩) (by simp only; omega) (O U y.gt)).other (p:=⟨g6,3,none⟩) (by simp only; omega) (O U y.sd)).other (p:=⟨g6,4,none⟩) (by simp only; omega) (O U y.ms)).other (p:=⟨g6,5,none⟩) (by simp only; omega) (wG l.D)).other (p:=⟨g6,6,none⟩) (by simp only; omega) (wG l.P)).other (p:=⟨g6,7,none⟩) (by simp only; omega) (O U l.n)
 have M6:ai ((((((((W7.setCell ⟨g6,0,none⟩ (F TB y.t.length tb)).setCell ⟨g6,1,none⟩ (F OB y.o.length ob)).setCell ⟨g6,2,none⟩ (O U y.gt)).setCell ⟨g6,3,none⟩ (O U y.sd)).setCell ⟨g6,4,none⟩ (O U y.ms)).setCell ⟨g6,5,none⟩ (wG l.D)).setCell ⟨g6,6,none⟩ (wG l.P)).setCell ⟨g6,7,none⟩ (O U l.n)) g6 42 [F TB y.t.length tb,F OB y.o.length ob,O U y.gt,O U y.sd,O U y.ms,wG l.D,wG l.P,O U l.n]:=nn (K6) (F TB y.t.length tb) (F OB y.o.length ob) (O U y.gt) (O U y.sd) (O U y.ms) (wG l.D) (wG l.P) (O U l.n)
 have b9:=eX (g:=g6) (b8) yS (F TB y.t.length tb) (F OB y.o.length ob) (O U y.gt) (O U y.sd) (O U y.ms) (wG l.D) (wG l.P) (O U l.n)
 obtain ⟨z0,z1,z2,z3,z4,z5,z6,z7⟩:=cells8 K6
 obtain ⟨f0,f1,f2,f3,f4,f5,f6,f7⟩:=frz8 K6
 clear J1 J2 J6 J7 b7 JT yJ K1 K2 FI Cy zA xi b8 c0 c1 c2 c3 c4 c5 c6 c7 xg
 go_upto_region 10 with fail
 clear K6 z0 z1 z2 z3 z4 z5 z6 z7 f0 f1 f2 f3 f4 f5 f6 f7
 generalize ((((((((W7.setCell ⟨g6,0,none⟩ (F TB y.t.length tb)).setCell ⟨g6,1,none⟩ (F OB y.o.length ob)).setCell ⟨g6,2,none⟩ (O U y.gt)).setCell ⟨g6,3,none⟩ (O U y.sd)).setCell ⟨g6,4,none⟩ (O U y.ms)).setCell ⟨g6,5,none⟩ (wG l.D)).setCell ⟨g6,6,none⟩ (wG l.P)).setCell ⟨g6,7,none⟩ (O U l.n))=W8 at M1 M2 M6 b9 xj xM ⊢
 obtain ⟨cod,zQ⟩ : ∃ cod,dZ l ⟨line,rep⟩=cod:=⟨_,rfl⟩
 rw [zQ] at cA
 clear zQ
 obtain ⟨T0,GX⟩ : ∃ T0,jN R=T0:=⟨_,rfl⟩
 rw [GX] at AS ⊢
 clear GX
 by_cases hlong:200 < T0.size
 ·have JU:(200:Int) < (T0.size:Int):=oM
  rw [if_pos hlong] at AS
  subst AS
  obtain ⟨c0,c1,c2,c3,c4,c5,c6,c7⟩:=cells8 M1
  go_wp2_with fail
  refine (cA W8).mono ?_
  rintro e W9 ⟨rfl,hb9⟩
  have Q1:=M1.below hb9 M1.lt
  have Q2:=M2.below hb9 M2.lt
  have Q6:=M6.below hb9 M6.lt
  have b10:=b9.trans (hb9.mono b9.size)
  have yO:=ac xj hb9
  have yf:=ac xM hb9
  have gr9:W9.grownBy (((W9.setCell ⟨g6,5,none⟩ (wG l2.D)).setCell ⟨g6,6,none⟩ (wG l2.P)).setCell ⟨g6,7,none⟩ (O U l2.n)) (some g6):=ab (g:=g6) (i:=7) (u:=O U l2.n) (ab (g:=g6) (i:=6) (u:=wG l2.P) (ab (g:=g6) (i:=5) (u:=wG l2.D) (World.grownBy.refl W9 (some g6))))
  have Ao:=ak yO Q6 fj gr9
  have Ap:=ak yf Q6 fk gr9
  have R2:ai (((W9.setCell ⟨g6,5,none⟩ (wG l2.D)).setCell ⟨g6,6,none⟩ (wG l2.P)).setCell ⟨g6,7,none⟩ (O U l2.n)) (w.heap.size+1) 42 [F none 0 0,F none 0 0,O U 0,O U 0,O U 0,wG ⟨#[]⟩,wG ⟨#[]⟩,O U 0]:=(((Q2).other (p:=⟨g6,5,none⟩) (by simp only; omega) (wG l2.D)).other (p:=⟨g6,6,none⟩) (by simp only; omega) (wG l2.P)).other (p:=⟨g6,7,none⟩) (by simp only; omega) (O U l2.n)
  have R6:ai (((W9.setCell ⟨g6,5,none⟩ (wG l2.D)).setCell ⟨g6,6,none⟩ (wG l2.P)).setCell ⟨g6,7,none⟩ (O U l2.n)) g6 42 [F TB y.t.length tb,F OB y.o.length ob,O U y.gt,O U y.sd,O U y.ms,wG l2.D,wG l2.P,O U l2.n]:=(((Q6).set 5 (wG l2.D)).set 6 (wG l2.P)).set 7 (O U l2.n)
  have b11:=(((b10).setCell (p:=⟨g6,5,none⟩) yS (wG l2.D)).setCell (p:=⟨g6,6,none⟩) yS (wG l2.P)).setCell (p:=⟨g6,7,none⟩) yS (O U l2.n)
  obtain ⟨z0,z1,z2,z3,z4,z5,z6,z7⟩:=cells8 Q6
  obtain ⟨f0,f1,f2,f3,f4,f5,f6,f7⟩:=frz8 Q6
  clear M1 M2 Q1 Q2 hb9 b9 b10 yO yf xj xM gr9 c0 c1 c2 c3 c4 c5 c6 c7
  go_upto_region 13 with fail
  clear M6 Q6 z0 z1 z2 z3 z4 z5 z6 z7 f0 f1 f2 f3 f4 f5 f6 f7
  generalize (((W9.setCell ⟨g6,5,none⟩ (wG l2.D)).setCell ⟨g6,6,none⟩ (wG l2.P)).setCell ⟨g6,7,none⟩ (O U l2.n))=WB at R2 R6 b11 Ao Ap ⊢
  obtain ⟨p0,p1,p2,p3,p4,p5,p6,p7⟩:=cells8 R6
  obtain ⟨z0,z1,z2,z3,z4,z5,z6,z7⟩:=cells8 R2
  obtain ⟨f0,f1,f2,f3,f4,f5,f6,f7⟩:=frz8 R2
  obtain ⟨BU,BV⟩:=dt (F TB y.t.length tb) (F OB y.o.length ob) (O U y.gt) (O U y.sd) (O U y.ms) (wG l2.D) (wG l2.P) (O U l2.n) R2 Ao Ap
  have bz:=jZ (eX (g:=w.heap.size+1) (b11) xq (F TB y.t.length tb) (F OB y.o.length ob) (O U y.gt) (O U y.sd) (O U y.ms) (wG l2.D) (wG l2.P) (O U l2.n))
  have Ea:=jZ BU
  have Eb:=jZ BV
  clear R2 R6 b11 Ao Ap BU BV
  go_wp2_with fail
  refine bodyPost_ret (v:=.tuple #[.agg #[F TB y.t.length tb,F OB y.o.length ob,O U y.gt,O U y.sd,O U y.ms,wG l2.D,wG l2.P,O U l2.n],wG ⟨#[108,111,110,103]⟩]) (by simp [results,Tryz.results14,go_sem, *]) rfl (db.mk ET.out EO.out EL.out ⟨TB,tb,OB,ob,rfl,Ea.out,Eb.out⟩ bz.out)
 ·have JU : ¬ (200:Int) < (T0.size:Int):=oM
  rw [if_neg hlong] at AS
  subst AS
  obtain ⟨c0,c1,c2,c3,c4,c5,c6,c7⟩:=cells8 M1
  go_wp2_with fail
  refine (cA W8).mono ?_
  rintro e W9 ⟨rfl,hb9⟩
  have Q1:=M1.below hb9 M1.lt
  have Q2:=M2.below hb9 M2.lt
  have Q6:=M6.below hb9 M6.lt
  have b10:=b9.trans (hb9.mono b9.size)
  have yO:=ac xj hb9
  have yf:=ac xM hb9
  have gr9:W9.grownBy (((W9.setCell ⟨g6,5,none⟩ (wG l2.D)).setCell ⟨g6,6,none⟩ (wG l2.P)).setCell ⟨g6,7,none⟩ (O U l2.n)) (some g6):=ab (g:=g6) (i:=7) (u:=O U l2.n) (ab (g:=g6) (i:=6) (u:=wG l2.P) (ab (g:=g6) (i:=5) (u:=wG l2.D) (World.grownBy.refl W9 (some g6))))
  have Ao:=ak yO Q6 fj gr9
  have Ap:=ak yf Q6 fk gr9
  have R2:ai (((W9.setCell ⟨g6,5,none⟩ (wG l2.D)).setCell ⟨g6,6,none⟩ (wG l2.P)).setCell ⟨g6,7,none⟩ (O U l2.n)) (w.heap.size+1) 42 [F none 0 0,F none 0 0,O U 0,O U 0,O U 0,wG ⟨#[]⟩,wG ⟨#[]⟩,O U 0]:=(((Q2).other (p:=⟨g6,5,none⟩) (by simp only; omega) (wG l2.D)).other (p:=⟨g6,6,none⟩) (by simp only; omega) (wG l2.P)).other (p:=⟨g6,7,none⟩) (by simp only; omega) (O U l2.n)
  have R6:ai (((W9.setCell ⟨g6,5,none⟩ (wG l2.D)).setCell ⟨g6,6,none⟩ (wG l2.P)).setCell ⟨g6,7,none⟩ (O U l2.n)) g6 42 [F TB y.t.length tb,F OB y.o.length ob,O U y.gt,O U y.sd,O U y.ms,wG l2.D,wG l2.P,O U l2.n]:=(((Q6).set 5 (wG l2.D)).set 6 (wG l2.P)).set 7 (O U l2.n)
  have b11:=(((b10).setCell (p:=⟨g6,5,none⟩) yS (wG l2.D)).setCell (p:=⟨g6,6,none⟩) yS (wG l2.P)).setCell (p:=⟨g6,7,none⟩) yS (O U l2.n)
  obtain ⟨z0,z1,z2,z3,z4,z5,z6,z7⟩:=cells8 Q6
  obtain ⟨f0,f1,f2,f3,f4,f5,f6,f7⟩:=frz8 Q6
  clear M1 M2 Q1 Q2 hb9 b9 b10 yO yf xj xM gr9 c0 c1 c2 c3 c4 c5 c6 c7
  go_upto_region 13 with fail
  clear M6 Q6 z0 z1 z2 z3 z4 z5 z6 z7 f0 f1 f2 f3 f4 f5 f6 f7
  generalize (((W9.setCell ⟨g6,5,none⟩ (wG l2.D)).setCell ⟨g6,6,none⟩ (wG l2.P)).setCell ⟨g6,7,none⟩ (O U l2.n))=WB at R2 R6 b11 Ao Ap ⊢
  obtain ⟨p0,p1,p2,p3,p4,p5,p6,p7⟩:=cells8 R6
  obtain ⟨z0,z1,z2,z3,z4,z5,z6,z7⟩:=cells8 R2
  obtain ⟨f0,f1,f2,f3,f4,f5,f6,f7⟩:=frz8 R2
  obtain ⟨BU,BV⟩:=dt (F TB y.t.length tb) (F OB y.o.length ob) (O U y.gt) (O U y.sd) (O U y.ms) (wG l2.D) (wG l2.P) (O U l2.n) R2 Ao Ap
  have bz:=jZ (eX (g:=w.heap.size+1) (b11) xq (F TB y.t.length tb) (F OB y.o.length ob) (O U y.gt) (O U y.sd) (O U y.ms) (wG l2.D) (wG l2.P) (O U l2.n))
  have Ea:=jZ BU
  have Eb:=jZ BV
  clear R2 R6 b11 Ao Ap BU BV
  go_wp2_with fail
  refine bodyPost_ret (v:=.tuple #[.agg #[F TB y.t.length tb,F OB y.o.length ob,O U y.gt,O U y.sd,O U y.ms,wG l2.D,wG l2.P,O U l2.n],wG rep]) (by simp [results,Tryz.results14,go_sem, *]) rfl (db.mk ET.out EO.out EL.out ⟨TB,tb,OB,ob,rfl,Ea.out,Eb.out⟩ bz.out)
theorem oz (x:aO) (l:Lg) (line:ByteArray) (w:World) (h:aQ w w.heap.size x) (tl:x.t.length≤1048576) (ol:x.o.length≤1048576) (hs:l.D.size+l.P.size≤2000000) (zc:line.size≤1048576) :
  Calls wH 14 #[aJ x l,wG line] w (db w x l line):=by
 cases wP:dx x l
 ·exact uv x l line w h tl ol hs zc wP
 ·cases yl:dA.ok ⟨line,⟨#[]⟩⟩
  ·exact sL x l line w h tl ol hs zc wP yl
  ·by_cases hn:l.n=60
   ·exact ry x l line w h tl ol hs zc wP yl hn
   ·exact sM x l line w h tl ol hs zc wP yl hn
end Go.Proofs.YtoeoimhemojdeaaGreatDoor
namespace Go.Proofs
open Go.Shelf
def Tryz.lays156_ren:Go.Shelf.Ren:=⟨fun | 156=>211 | 165=>230 | 166=>231 | 169=>232 | 240=>243 | 241=>244 | 276=>248 | 277=>249 | n=>n,fun | 31=>49 | 9=>9 | 3=>3 | 4=>4 | 0=>0 | 20=>20 | 72=>232 | 76=>174 | 70=>230 | 37=>54 | 75=>173 | 127=>245 | 164=>252 | 5=>5 | 80=>234 | n=>n,fun | n=>n⟩
theorem Tryz.lays156:Go.Proofs.Lays.n156 wH Tryz.lays156_ren:={
 mixed:=by kernel_rfl
 f156:=Tryz.func211.trans (congrArg some (by kernel_rfl))
 f165:=Tryz.func230.trans (congrArg some (by kernel_rfl))
 f166:=Tryz.func231.trans (congrArg some (by kernel_rfl))
 f169:=Tryz.func232.trans (congrArg some (by kernel_rfl))
 f240:=Tryz.func243.trans (congrArg some (by kernel_rfl))
 f241:=Tryz.func244.trans (congrArg some (by kernel_rfl))
 f276:=Tryz.func248.trans (congrArg some (by kernel_rfl))
 f277:=Tryz.func249.trans (congrArg some (by kernel_rfl))
 t0:=Tryz.underlying0
 a0:=Tryz.isAgg0
 z0:=Tryz.sizeOf0
 v0:=Tryz.zeroValue0
 t3:=Tryz.underlying3
 a3:=Tryz.isAgg3
 z3:=Tryz.sizeOf3
 v3:=Tryz.zeroValue3
 t4:=Tryz.underlying4
 a4:=Tryz.isAgg4
 z4:=Tryz.sizeOf4
 v4:=Tryz.zeroValue4
 t9:=Tryz.underlying9
 a9:=Tryz.isAgg9
 z9:=Tryz.sizeOf9
 v9:=Tryz.zeroValue9
 t20:=Tryz.underlying20
 a20:=Tryz.isAgg20
 z20:=Tryz.sizeOf20
 v20:=Tryz.zeroValue20
 t31:=Tryz.underlying49
 a31:=Tryz.isAgg49
 z31:=Tryz.sizeOf49
 v31:=Tryz.zeroValue49
 t37:=Tryz.underlying54
 a37:=Tryz.isAgg54
 z37:=Tryz.sizeOf54
 v37:=Tryz.zeroValue54
 t70:=Tryz.underlying230
 a70:=Tryz.isAgg230
 z70:=Tryz.sizeOf230
 v70:=Tryz.zeroValue230
 t72:=Tryz.underlying232
 a72:=Tryz.isAgg232
 z72:=Tryz.sizeOf232
 v72:=Tryz.zeroValue232
 t75:=Tryz.underlying173
 a75:=Tryz.isAgg173
 z75:=Tryz.sizeOf173
 v75:=Tryz.zeroValue173
 t76:=Tryz.underlying174
 a76:=Tryz.isAgg174
 z76:=Tryz.sizeOf174
 v76:=Tryz.zeroValue174
 t127:=Tryz.underlying245
 a127:=Tryz.isAgg245
 z127:=Tryz.sizeOf245
 v127:=Tryz.zeroValue245
 t164:=Tryz.underlying252
 a164:=Tryz.isAgg252
 z164:=Tryz.sizeOf252
 v164:=Tryz.zeroValue252 }
theorem Tryz.Builder_Extra_156:Builder.Extra wH Tryz.lays156_ren:={
 sizeBuilder:=by kernel_rfl
 liesBuilder:=by kernel_rfl
 t5:=Tryz.underlying5
 a5:=Tryz.isAgg5
 z5:=Tryz.sizeOf5
 v5:=Tryz.zeroValue5
 infoByte:=by kernel_rfl
 cellsByte:=by kernel_rfl
 sizeByte:=by kernel_rfl
 neB5:=by decide }
open Go.RowKit in
theorem Tryz.strings_Join_none (a:Option Addr) (c:Nat) (sep:ByteArray) (w:World) :
  Calls wH 211 #[F a 0 c,wG sep] w fun e w'=>e=.returned (wG ⟨#[]⟩)∧w'=w:=Any.strings_Join_none Tryz.lays156 Tryz.Builder_Extra_156 a c sep w
open Go.RowKit in
theorem Tryz.strings_Join (bk o c:Nat) (xs:List ByteArray) (sep:ByteArray) (w:World) (hcells:∀ (j:Nat) x,xs[j]?=some x→w.cell? ⟨bk,o+j,none⟩=some (wG x)) (Nc:bk < w.heap.size) (hN:xs.length≤140737488355328) (wX:xs.length≤c) (wR:(Lib.join (xs.map (·.data.toList)) sep.data.toList).length≤140737488355328) :
  Calls wH 211 #[F (some ⟨bk,o,none⟩) xs.length c,wG sep] w fun e w'=>e=.returned (wG ⟨(Lib.join (xs.map (·.data.toList)) sep.data.toList).toArray⟩)∧Below w.heap.size w w':=Any.strings_Join Tryz.lays156 Tryz.Builder_Extra_156 bk o c xs sep w hcells Nc hN wX wR
end Go.Proofs
namespace Go.Proofs.YtoeoimhemojdeaaGreatDoor
open Go.RowKit
def qg (l:List (List UInt8)):List Value:=l.map fun b=>wG ⟨b.toArray⟩
theorem uw (l:List (List UInt8)) (b:List UInt8):qg (l++[b])=qg l++[wG ⟨b.toArray⟩]:=by simp [qg]
theorem sN:(wH.info? 9).map (fun i=>(i.zero,i.size,i.bytes))=some (some (wG ⟨#[]⟩),1,16):=kZ
theorem ux {α:Type} {l:List α} {k:Nat} (h:k < l.length):l.take (k+1)=l.take k++[l[k]]:=sP
theorem qh {w w' : World} {B:Nat} {e:TypeId} {k:Nat} {v:Value} {n:Nat} {xs:List Value} (h:w.ownsRow B e k v n xs) (hb:Below w.heap.size w w'):w'.ownsRow B e k v n xs:=by
 unfold World.ownsRow at *
 obtain ⟨hl,h | ⟨g,cap,cells,hv,hB,hg,r⟩⟩:=h
 ·exact ⟨hl,Or.inl h⟩
 ·exact ⟨hl,Or.inr ⟨g,cap,cells,hv,hB,(hb.block g (ai.lt (cs:=cells.toList) hg)).trans hg,r⟩⟩
theorem vv (l:List (List UInt8)) (A:Option Addr) (c B:Nat) (sep:ByteArray) (w:World) (h:w.ownsRow B 9 1 (F A l.length c) l.length (qg l))
  (hn:l.length≤1000000) (wR:(Lib.join l (bl sep)).length≤1000000000) :
  Calls wH 211 #[F A l.length c,wG sep] w fun e w'=>e=.returned (wG ⟨(Lib.join l (bl sep)).toArray⟩)∧Below w.heap.size w w':=by
 obtain ⟨hl,⟨h0,h1⟩ | ⟨g,cap,cells,hv,hB,hg,h5,h6,h7,h8⟩⟩:=h
 ·have EB:l = []:=List.eq_nil_of_length_eq_zero oM
  subst EB
  exact (Tryz.strings_Join_none A c sep w).mono fun e w' ⟨he,hw⟩=>⟨he,hw ▸ Below.refl _ _⟩
 ·injection hv with hA hn' hc
  subst hA; subst hc
  have hx:(l.map fun b=>(⟨b.toArray⟩ : ByteArray)).length=l.length:=sP
  have hm:(l.map fun b=>(⟨b.toArray⟩ : ByteArray)).map (·.data.toList)=l:=by simp [List.map_map,Function.comp_def]
  have hJ:=Tryz.strings_Join g 0 c (l.map fun b=>(⟨b.toArray⟩ : ByteArray)) sep w (fun j x hj=>by
   have Gn:j < l.length:=by have:=(List.getElem?_eq_some_iff.1 hj).1; simpa using this
   have hq:(qg l)[j]?=some (wG x):=by
    rw [qg,List.getElem?_map]; rw [List.getElem?_map] at hj
    rw [List.getElem?_eq_getElem Gn] at hj ⊢
    simpa using hj
   rw [← h8,List.getElem?_take_of_lt oM] at hq
   rw [Nat.zero_add,(ai.cell (cs:=cells.toList) hg j)]
   exact hq) (ai.lt (cs:=cells.toList) hg) (by rw [hx]; omega) (by rw [hx]; exact h5) (by rw [hm]; have:=wR; unfold bl at this; omega)
  rw [hm,hx] at hJ
  exact hJ
theorem nc (sep:List UInt8) (m:Nat):∀ l:List (List UInt8),(∀ x ∈ l,x.length≤m)→(Lib.joinTail sep l).length≤l.length * (sep.length+m)
 | [],_=>by simp [Lib.joinTail]
 | x :: l,h=>by
  have h1:=nc sep m l fun y hy=>h y (List.mem_cons_of_mem _ hy)
  have h2:=h x List.mem_cons_self
  have e:Lib.joinTail sep (x :: l)=sep++x++Lib.joinTail sep l:=by simp [Lib.joinTail]
  rw [e,List.length_append,List.length_append,List.length_cons,Nat.succ_mul]; omega
theorem vR (sep:List UInt8) (m:Nat) (l:List (List UInt8)) (h:∀ x ∈ l,x.length≤m):(Lib.join l sep).length≤l.length * (sep.length+m):=by
 cases l with
 | nil=>simp [Lib.join_nil]
 | cons x l =>
  have h1:=nc sep m l fun y hy=>h y (List.mem_cons_of_mem _ hy)
  have h2:=h x List.mem_cons_self
  rw [Lib.join_cons,List.length_append,List.length_cons,Nat.succ_mul]; omega
theorem uy {n:Int} (h0:0≤n) (h1:n≤1000000000):(Lib.itoa n).length≤100:=by
 have h3:(⟨(Lib.itoa n).toArray⟩ : ByteArray).size≤100:=bD h0 h1
 rw [← bo (Lib.itoa n),an]; exact h3
theorem o9 (A:Option Addr) (c:Nat) (l:List Int) (sep:ByteArray) (w:World) (h:iG w w.heap.size A l) (Nd:l.length≤9)
  (hr:∀ i (hi:i < l.length),0≤l[i]∧l[i]≤1000000) (hs:sep.size≤10) (ht:hQ w) :
  Calls wH 184 #[F A l.length c,wG sep] w fun e w'=>e=.returned (wG ⟨(Lib.join (l.map Lib.itoa) (bl sep)).toArray⟩)∧Below w.heap.size w w':=by
 have hl:=h.big
 have yn:=iG.ints h
 have Gn:(Lib.join (l.map Lib.itoa) (bl sep)).length≤1000000000:=by
  have h1:=vR (bl sep) 100 (l.map Lib.itoa) fun x hx=>by
   obtain ⟨n,hn,rfl⟩:=List.mem_map.1 hx
   obtain ⟨i,hi,rfl⟩:=List.getElem_of_mem hn
   exact uy (by have:=hr i hi; omega) (by have:=hr i hi; omega)
  rw [an,List.length_map] at h1
  have h2:l.length * (sep.size+100)≤9 * 110:=Nat.mul_le_mul Nd oM
  omega
 replace hr:=jZ hr
 go_enter Tryz.func184,Tryz.ntmps184
 go_wp2_with fail
 go_loopw [5,10] (fun out i wr=>∃ (k:Nat),k≤l.length∧i=O U k∧Hid (wr.ownsRow w.heap.size 9 1 out k (qg ((l.take k).map Lib.itoa)))∧(Below w.heap.size w wr)) (fun _ i _=>l.length - (intOf i).toNat)
 case atStart=>exact ⟨0,Nat.zero_le _,rfl,(World.ownsRow_nil _ _ _ _),Below.refl _ _⟩
 case round =>
  obtain ⟨k,hk,rfl,HO,yM⟩:=hrel
  obtain ⟨q,rfl⟩ : ∃ q:ap w.heap.size w,wr=q.val:=⟨⟨wr,yM⟩,rfl⟩
  by_cases wQ:k < l.length
  ·obtain ⟨b,off,rfl,hb,hcell⟩:=yn oM
   have c0:=hcell k wQ
   obtain ⟨f1,f2⟩:=hr.out k wQ
   have HT:=jZ (ux wQ)
   obtain ⟨f,Lz⟩ : ∃ f,f=l[k]:=⟨_,rfl⟩
   rw [← Lz] at c0 f1 f2 HT
   clear Lz hcell yn
   obtain ⟨fv,JV⟩ : ∃ s:ByteArray,s=⟨(Lib.itoa f).toArray⟩:=⟨_,rfl⟩
   have HQ:=ht.at q
   have NUMF:∀ W:World,hQ W→Calls wH 69 #[O U f] W fun e w'=>e=.returned (wG fv)∧Below W.heap.size W w':=by
    intro W hW; rw [JV]; exact cq _ _ oM oM hW
   replace NUMF:=jZ NUMF
   have Nf:=jZ JV; clear JV
   go_wp2_with (first
    | (go_at_call 69; refine (NUMF.out _ HQ).mono ?_; rintro e w4 ⟨rfl,wV⟩; have hb5:Below w.heap.size w w4:=yM.trans (wV.mono yM.size); have Co:=jZ (qh HO.out wV); have DQ:=hb5.size)
    | (at_builtin; refine cF (w0:=w4) rfl _ _ 49 rfl 9 (wG ⟨#[]⟩) 1 16 Tryz.underlying49 sN rfl (by decide) (by omega) w.heap.size _ _ _ rfl Co #[wG fv] 1 _ rfl (by first | rfl | exact Array.size_push _) rfl (by simp [Value.oneCell']) (by omega) DQ rfl rfl rfl rfl ?_; intro v' w6 AM yS xn))
   obtain ⟨A3,c3,rfl⟩:=az AM.out
   go_wp2
   go_roundw
   case rel=>exact ⟨k+1,oM,by go_num,by rw [HT.out,List.map_append,List.map_cons,List.map_nil,uw,← Nf.out]; exact AM,hb5.trans xn⟩
   case measure=>simp [intOf]; omega
  ·have ek:k=l.length:=oM
   subst ek
   rw [List.take_length] at HO
   obtain ⟨A3,c3,rfl⟩:=az HO.out
   clear yn
   have HJ:=jZ (vv (l.map Lib.itoa) A3 c3 w.heap.size sep)
   rw [List.length_map] at HJ
   go_wp2_with (go_at_call 211; refine (HJ.out _ HO.out oM Gn).mono ?_; rintro e w7 ⟨rfl,yJ⟩)
   go_ret
   exact ⟨rfl,yM.trans (yJ.mono yM.size)⟩
theorem qi (o:ae) (gk:Nat) (kd:Int) (w:World) (hk:gk < w.heap.size) (hc:w.cell? ⟨gk,0,none⟩=some (O U kd)) :
  Calls wH 183 (#[o.val]++#[.pointer (some ⟨gk,0,none⟩)]) w fun e w'=>e=.returned (.bool (decide (o.p=kd)))∧Below w.heap.size w w':=by
 show Calls wH 183 #[o.val,.pointer (some ⟨gk,0,none⟩)] w _
 have hc' : (w.alloc (.cells #[O U o.k,O U o.p,O U o.c] 147)).cell? ⟨gk,0,none⟩=some (O U kd):=(bZ w _).cell hk |>.trans hc
 obtain ⟨v,hv⟩ : ∃ v,(o.p == kd)=v:=⟨_,rfl⟩
 have HV:Hid (decide (o.p=kd)=v):=by rw [← hv]; unfold Hid; rw [Bool.eq_iff_iff]; simp
 cases v
 all_goals
  go_enter Tryz.func183,Tryz.ntmps183
  go_wp2
  go_ret
  exact ⟨by rw [HV.out]; rfl,jB.alloc nR _⟩
def iC (pp:Value) (w:World):Nat :=
 match pp with
 | .pointer (some a)=>(match w.cell? a with | some (.int _ p)=>(1000 - p).toNat | _=>0)
 | _=>0
theorem nd {w:World} {g:Nat} {t:TypeId} {p:Int} (h:ai w g t [O U p]):iC (.pointer (some ⟨g,0,none⟩)) w=(1000 - p).toNat:=by
 unfold iC
 simp only [h.cell 0,List.getElem?_cons_zero]
set_option maxRecDepth 20000 in
theorem jW (x:aO) (w:World) (h:aQ w w.heap.size x) :
  Calls wH 152 #[x.val] w fun e w'=>e=.returned (.tuple #[O U (dN x),.bool (dn x)])∧Below w.heap.size w w':=by
 have CJ:∀ (fn:Fn) (first cap:Array Value) (w:World),(Instr.makeFunc fn first cap).run wH w=.ok (.func fn first cap) w:=fun _ _ _ _=>rfl
 have b1:=bZ w (.cells #[F x.TA x.t.length x.tc,F x.OA x.o.length x.oc,O U x.gt,O U x.sd,O U x.ms] 40)
 have hA:=il h 40
 have cG:=fun W hW=>bc x w.heap.size W hW
 cases hg:ao x
 ·have HF:Hid (dN x=0∧dn x=false):=by unfold dN dn; rw [hg]; exact ⟨rfl,rfl⟩
  rw [hg] at cG
  clear hg
  go_enter Tryz.func152,Tryz.ntmps152
  go_wp2_with fail
  generalize w.alloc (.cells #[F x.TA x.t.length x.tc,F x.OA x.o.length x.oc,O U x.gt,O U x.sd,O U x.ms] 40)=W at b1 hA ⊢
  refine (cG _ hA).mono ?_
  rintro e w1 ⟨rfl,hb⟩
  go_wp2
  go_ret2
  exact ⟨by rw [HF.out.1,HF.out.2]; rfl,av b1 hb⟩
 ·have G:=br.1 hg
  have ol:=G.ol
  have Bi:=jZ G.oall
  have JQ:Hid (ao x=true):=hg
  have zl:∀ r ∈ x.o,1≤r.c:=fun r hr=>by
   obtain ⟨i,hi,rfl⟩:=List.getElem_of_mem hr
   exact (ae.bounds (G.oall i hi)).2.2.1
  have Ct:∀ r ∈ x.o,1≤r.p∧r.p≤999:=fun r hr=>by
   obtain ⟨i,hi,rfl⟩:=List.getElem_of_mem hr
   exact (ae.bounds (G.oall i hi)).2.1
  have DJ:=jZ (ul x.o zl Ct)
  rw [hg] at cG
  clear hg G zl Ct
  by_cases wR:0 < x.o.length
  ·have HF:Hid (dN x=(dM x.o x.o (0,0)).1∧dn x=true):=by
    have:dn x=true:=by unfold dn; rw [JQ.out,jD wR]; rfl
    unfold dN; rw [this]; exact ⟨rfl,rfl⟩
   have wT:((x.o.length:Int) == 0)=false:=by rw [beq_eq_false_iff_ne]; omega
   go_enter Tryz.func152,Tryz.ntmps152
   go_wp2_with fail
   generalize w.alloc (.cells #[F x.TA x.t.length x.tc,F x.OA x.o.length x.oc,O U x.gt,O U x.sd,O U x.ms] 40)=W at b1 hA ⊢
   obtain ⟨s0,s1,s2,s3,s4⟩:=hA.s
   refine (aY (cG _ hA)).mono ?_
   rintro e w1 ⟨rfl,q1,rfl⟩
   have Cx:=ai.new q1.val 3 #[O U 1]
   have Ng:=q1.below.alloc q1.size (.cells #[O U 1] 3)
   have KH:=q1.size
   go_wp2
   go_loopw [4,5,6] (fun bb mm pp wr=>∃ (k g:Nat) (p:Int) (b:Int × Int),(k:Int)+p=1000∧1≤p∧pp=.pointer (some ⟨g,0,none⟩)∧bb=O U b.1∧mm=O U b.2∧W.heap.size≤g∧Hid (ai wr g 3 [O U p])∧Below W.heap.size W wr∧Hid (iw x.o k p b=dM x.o x.o (0,0))) (fun _ _ pp wr=>iC pp wr)
   case atStart=>exact ⟨999,q1.val.heap.size,1,(0,0),oM,oM,rfl,rfl,rfl,KH,Cx,Ng,DJ.out⟩
   case round =>
    obtain ⟨k,g,p,⟨b1',b2'⟩,Nh,Ct,rfl,rfl,rfl,hg,HL,yM,HR⟩:=hrel
    have c0:wr.cell? ⟨g,0,none⟩=some (O U p):=HL.out.cell 0
    cases k with
    | zero =>
     have hp:p=1000:=oM
     subst hp
     have HE:Hid ((b1',b2')=dM x.o x.o (0,0)):=HR.out
     go_wp2
     go_ret2
     exact ⟨by rw [HF.out.1,HF.out.2,← HE.out]; rfl,b1.trans (yM.mono b1.size)⟩
    | succ k =>
     have zz:p≤999:=oM
     have Av:(k:Int)+p≤999:=oM
     have Il:999≤(k:Int)+p:=oM
     clear Nh
     have HS:Hid (iw x.o (k+1) p (b1',b2')=iw x.o k (p+1) (if b2' < jR x.o p then (p,jR x.o p) else (b1',b2'))):=rfl
     have wQ:=HL.out.lt
     have HM:=nd HL.out
     go_wp2_with fail
     refine (fC (fun o=>decide (o.p=p)) 183 #[.pointer (some ⟨g,0,none⟩)] Tryz.call183 x w.heap.size wr (fun o q=>qi o g p q.val (jL wQ q.size) ((q.cell wQ).trans c0)) (hA.at ⟨wr,yM⟩) ol Bi.out).mono ?_
     rintro e w2 ⟨rfl,wM⟩
     have c1:w2.cell? ⟨g,0,none⟩=some (O U p):=(wM.cell wQ).trans c0
     have JW:=yM.trans (wM.mono yM.size)
     have yY:=ai.new w2 3 #[O U (p+1)]
     have LA:=JW.alloc JW.size (.cells #[O U (p+1)] 3)
     have Cc:=JW.size
     have LB:aW (fun o=>decide (o.p=p)) x.o=jR x.o p:=rfl
     rw [LB]
     clear LB
     obtain ⟨V,hV⟩ : ∃ V,jR x.o p=V:=⟨_,rfl⟩
     rw [hV] at HS
     rw [hV]
     clear hV c0
     have LC:=jZ (nd yY)
     have LD:=jZ HM; clear HM
     by_cases zP:b2' < V
     ·rw [if_pos zP] at HS
      go_wp2
      go_roundw
      case rel=>exact ⟨k,w2.heap.size,p+1,(p,V),oM,oM,rfl,rfl,rfl,Cc,yY,LA,by have h1:=HR.out; rw [HS.out] at h1; exact h1⟩
      case measure=>show iC _ _ < iC _ _; rw [LD.out,LC.out]; omega
     ·rw [if_neg zP] at HS
      have hv:V≤b2':=oM
      clear zP
      go_wp2
      go_roundw
      case rel=>exact ⟨k,w2.heap.size,p+1,(b1',b2'),oM,oM,rfl,rfl,rfl,Cc,yY,LA,by have h1:=HR.out; rw [HS.out] at h1; exact h1⟩
      case measure=>show iC _ _ < iC _ _; rw [LD.out,LC.out]; omega
  ·have HF:Hid (dN x=0∧dn x=false):=by
    have:dn x=false:=by unfold dn; rw [jE wR,Bool.and_false]
    unfold dN; rw [this]; exact ⟨rfl,rfl⟩
   have wT:((x.o.length:Int) == 0)=true:=by rw [beq_iff_eq]; omega
   go_enter Tryz.func152,Tryz.ntmps152
   go_wp2_with fail
   generalize w.alloc (.cells #[F x.TA x.t.length x.tc,F x.OA x.o.length x.oc,O U x.gt,O U x.sd,O U x.ms] 40)=W at b1 hA ⊢
   obtain ⟨s0,s1,s2,s3,s4⟩:=hA.s
   refine (aY (cG _ hA)).mono ?_
   rintro e w1 ⟨rfl,q1,rfl⟩
   go_wp2
   go_ret2
   exact ⟨by rw [HF.out.1,HF.out.2]; rfl,b1.trans (q1.below.mono b1.size)⟩
def ef (w:World) (R:Option ByteArray) (e:Ending) (w' : World):Prop :=
 (∃ s,e=.returned (.tuple #[wG s,.bool R.isSome])∧(∀ r,R=some r→s=r))∧Below w.heap.size w w'
theorem ef.yes {w w' : World} {r:ByteArray} (hb:Below w.heap.size w w'):ef w (some r) (.returned (.tuple #[wG r,.bool true])) w':=⟨⟨r,rfl,fun _ h=>by injection h⟩,hb⟩
theorem ef.no {w w' : World} {s:ByteArray} (hb:Below w.heap.size w w'):ef w none (.returned (.tuple #[wG s,.bool false])) w':=⟨⟨s,rfl,fun _ h=>by cases h⟩,hb⟩
theorem lT (A:Option Addr) (c:Nat) (l:List Int) (ok:Bool) (w:World) (h:iG w w.heap.size A l) (Cd:l.length≤8) (hr:∀ n ∈ l,0≤n∧n≤1000000) (ht:hQ w) :
  Calls wH 153 #[F A l.length c,.bool ok] w fun e w'=>e=.returned (.tuple #[wG (fA l),.bool ok])∧Below w.heap.size w w':=by
 rcases Nat.eq_zero_or_pos l.length with h0 | h0
 ·have HL:Hid (fA l=⟨#[110,111,110,101]⟩):=by unfold Hid fA; rw [if_pos h0]
  have hz:((l.length:Int) == 0)=true:=by rw [h0]; rfl
  go_enter Tryz.func153,Tryz.ntmps153
  go_wp2
  go_ret2
  exact ⟨by rw [HL.out]; rfl,Below.refl _ _⟩
 ·have hz:((l.length:Int) == 0)=false:=beq_false_of_ne oM
  have HL:Hid (fA l=⟨(Lib.join (l.map Lib.itoa) (bl ⟨#[32]⟩)).toArray⟩):=by unfold Hid fA; rw [if_neg oM]; rfl
  have hj:=o9 A c l ⟨#[32]⟩ w h oM (fun i hi=>hr _ (List.getElem_mem hi)) dD ht
  obtain ⟨T,hT⟩ : ∃ T:ByteArray,(⟨(Lib.join (l.map Lib.itoa) (bl ⟨#[32]⟩)).toArray⟩ : ByteArray)=T:=⟨_,rfl⟩
  rw [hT] at hj HL
  clear hT
  go_enter Tryz.func153,Tryz.ntmps153
  go_wp2_with fail
  refine hj.mono ?_
  rintro e w1 ⟨rfl,hb⟩
  go_wp2
  go_ret2
  exact ⟨by rw [HL.out]; rfl,hb⟩
theorem uz {x:aO} (G:bK x) (n:Int) (b:Bool):(bC b (aT (fun r:ae=>decide (r.p=n)) ae.k x.o)).length≤8∧∀ m ∈ bC b (aT (fun r:ae=>decide (r.p=n)) ae.k x.o),0≤m∧m≤1000000:=by
 refine ⟨(rq G n b).1,fun m hm=>?_⟩
 cases b
 ·simp [bC] at hm
 ·obtain ⟨r,hr,_,rfl⟩:=fR.1 (show m ∈ aT _ _ _ from hm)
  obtain ⟨j,hj,e⟩:=List.getElem_of_mem hr
  have h1:=eC G.tall (ae.bounds (G.oall j hj)).1
  rw [e] at h1; omega
theorem rz {x:aO} (G:bK x) (n:Int) (b:Bool):(bC b (aT (fun r:ae=>decide (r.k=n)) ae.p x.o)).length≤8∧∀ m ∈ bC b (aT (fun r:ae=>decide (r.k=n)) ae.p x.o),0≤m∧m≤1000000:=by
 refine ⟨(ow G n b).1,fun m hm=>?_⟩
 cases b
 ·simp [bC] at hm
 ·obtain ⟨r,hr,_,rfl⟩:=fR.1 (show m ∈ aT _ _ _ from hm)
  obtain ⟨j,hj,e⟩:=List.getElem_of_mem hr
  have h1:=(ae.bounds (G.oall j hj)).2.1
  rw [e] at h1; omega
theorem qj (o:ae) (w:World):Calls wH 151 (#[o.val]++#[]) w fun e w'=>e=.returned (.bool (dp o))∧Below w.heap.size w w':=by
 go_enter Tryz.func151,Tryz.ntmps151
 go_wp2
 go_ret
 refine ⟨rfl, ?_⟩
 go_grown
set_option maxRecDepth 100000 in
theorem pD (x:aO) (l:Lg) (s:ByteArray) (g:Nat) (w:World) (hL:ai w g 42 [F x.TA x.t.length x.tc,F x.OA x.o.length x.oc,O U x.gt,O U x.sd,O U x.ms,wG l.D,wG l.P,O U l.n]) (h:aQ w w.heap.size x) (G:bK x) (ht:hQ w) :
  Calls wH 97 #[.pointer (some ⟨g,0,none⟩),wG s] w (ef w (dy x s)):=by
 have hat:cw w w.heap.size g x:=jH hL h
 have yF:ao x=true:=br.2 G
 by_cases h0:s=⟨#[105,110]⟩
 ·subst h0
  have HV:dy x ⟨#[105,110]⟩=some (bM (cJ x.t)):=by unfold dy; rw [if_pos rfl]
  rw [HV]
  clear HV
  have bd:=G.inB
  have hn:=fun W hW=>cq (cJ x.t) W oM oM hW
  obtain ⟨T,hT⟩ : ∃ T:ByteArray,(⟨(Lib.itoa (cJ x.t)).toArray⟩ : ByteArray)=T:=⟨_,rfl⟩
  rw [show bM (cJ x.t)=T from hT]
  rw [hT] at hn
  clear hT bd
  have hc:=jt x g w hat G.tl G.tall
  go_enter Tryz.func97,Tryz.ntmps97
  go_wp2_with fail
  refine hc.mono ?_
  rintro e w1 ⟨rfl,wN⟩
  go_wp2_with fail
  refine (hn _ (ht.then wN)).mono ?_
  rintro e w2 ⟨rfl,wM⟩
  go_wp2
  go_ret2
  exact ef.yes (av wN wM)
 have f0:(s.toList == [105,110])=false:=bW h0
 by_cases h1:s=⟨#[111,117,116]⟩
 ·subst h1
  have HV:dy x ⟨#[111,117,116]⟩=some (bM (aW dp x.o)):=by unfold dy; rw [if_neg dD,if_pos rfl]
  rw [HV]
  clear HV
  have bd:=G.outB dp
  have hn:=fun W hW=>cq (aW dp x.o) W oM oM hW
  obtain ⟨T,hT⟩ : ∃ T:ByteArray,(⟨(Lib.itoa (aW dp x.o)).toArray⟩ : ByteArray)=T:=⟨_,rfl⟩
  rw [show bM (aW dp x.o)=T from hT]
  rw [hT] at hn
  clear hT bd
  have eg:∀ args w,(callFunc 151 args).run wH w=.ok (.enter 151 args) w:=Tryz.call151
  have hc:=fC dp 151 #[] eg x g w (fun o p=>qj o p.val) hat G.ol G.oall
  go_enter Tryz.func97,Tryz.ntmps97
  go_wp2_with fail
  refine hc.mono ?_
  rintro e w1 ⟨rfl,wN⟩
  go_wp2_with fail
  refine (hn _ (ht.then wN)).mono ?_
  rintro e w2 ⟨rfl,wM⟩
  go_wp2
  go_ret2
  exact ef.yes (av wN wM)
 have f1:(s.toList == [111,117,116])=false:=bW h1
 by_cases h2:s=⟨#[103,111,116]⟩
 ·subst h2
  have HV:dy x ⟨#[103,111,116]⟩=some (bM (x.gt)):=by unfold dy; rw [if_neg dD,if_neg dD,if_pos rfl]
  rw [HV]
  clear HV
  have bd:=G.g
  have hn:=fun W hW=>cq (x.gt) W oM oM hW
  obtain ⟨T,hT⟩ : ∃ T:ByteArray,(⟨(Lib.itoa (x.gt)).toArray⟩ : ByteArray)=T:=⟨_,rfl⟩
  rw [show bM (x.gt)=T from hT]
  rw [hT] at hn
  clear hT bd
  obtain ⟨c0,c1,c2,c3,c4⟩:=cells5 hL
  go_enter Tryz.func97,Tryz.ntmps97
  go_wp2_with fail
  refine (hn _ ht).mono ?_
  rintro e w2 ⟨rfl,wM⟩
  go_wp2
  go_ret2
  exact ef.yes wM
 have f2:(s.toList == [103,111,116])=false:=bW h2
 by_cases h3:s=⟨#[115,111,108,100]⟩
 ·subst h3
  have HV:dy x ⟨#[115,111,108,100]⟩=some (bM (x.sd)):=by unfold dy; rw [if_neg dD,if_neg dD,if_neg dD,if_pos rfl]
  rw [HV]
  clear HV
  have bd:=G.s
  have hn:=fun W hW=>cq (x.sd) W oM oM hW
  obtain ⟨T,hT⟩ : ∃ T:ByteArray,(⟨(Lib.itoa (x.sd)).toArray⟩ : ByteArray)=T:=⟨_,rfl⟩
  rw [show bM (x.sd)=T from hT]
  rw [hT] at hn
  clear hT bd
  obtain ⟨c0,c1,c2,c3,c4⟩:=cells5 hL
  go_enter Tryz.func97,Tryz.ntmps97
  go_wp2_with fail
  refine (hn _ ht).mono ?_
  rintro e w2 ⟨rfl,wM⟩
  go_wp2
  go_ret2
  exact ef.yes wM
 have f3:(s.toList == [115,111,108,100])=false:=bW h3
 by_cases h4:s=⟨#[109,105,115,115,101,100]⟩
 ·subst h4
  have HV:dy x ⟨#[109,105,115,115,101,100]⟩=some (bM (x.ms)):=by unfold dy; rw [if_neg dD,if_neg dD,if_neg dD,if_neg dD,if_pos rfl]
  rw [HV]
  clear HV
  have bd:=G.m
  have hn:=fun W hW=>cq (x.ms) W oM oM hW
  obtain ⟨T,hT⟩ : ∃ T:ByteArray,(⟨(Lib.itoa (x.ms)).toArray⟩ : ByteArray)=T:=⟨_,rfl⟩
  rw [show bM (x.ms)=T from hT]
  rw [hT] at hn
  clear hT bd
  obtain ⟨c0,c1,c2,c3,c4⟩:=cells5 hL
  go_enter Tryz.func97,Tryz.ntmps97
  go_wp2_with fail
  refine (hn _ ht).mono ?_
  rintro e w2 ⟨rfl,wM⟩
  go_wp2
  go_ret2
  exact ef.yes wM
 have f4:(s.toList == [109,105,115,115,101,100])=false:=bW h4
 by_cases h5:s=⟨#[98,117,115,105,101,115,116]⟩
 ·subst h5
  have HV:dy x ⟨#[98,117,115,105,101,115,116]⟩=if dn x then some (bM (dN x)) else none:=by unfold dy; rw [if_neg dD,if_neg dD,if_neg dD,if_neg dD,if_neg dD,if_pos rfl]
  rw [HV]
  clear HV
  have hc:=jW x w h
  have bd:=vk (x:=x)
  have hn:=fun W hW=>cq (dN x) W oM oM hW
  obtain ⟨T,hT⟩ : ∃ T:ByteArray,(⟨(Lib.itoa (dN x)).toArray⟩ : ByteArray)=T:=⟨_,rfl⟩
  rw [show bM (dN x)=T from hT]
  rw [hT] at hn
  clear hT
  obtain ⟨v,hv⟩ : ∃ v,dN x=v:=⟨_,rfl⟩
  rw [hv] at hc hn
  clear hv bd
  obtain ⟨b,hb⟩ : ∃ b,dn x=b:=⟨_,rfl⟩
  rw [hb] at hc ⊢
  clear hb
  obtain ⟨c0,c1,c2,c3,c4⟩:=cells5 hL
  cases b
  all_goals
   go_enter Tryz.func97,Tryz.ntmps97
   go_wp2_with fail
   refine hc.mono ?_
   rintro e w1 ⟨rfl,wN⟩
   go_wp2_with fail
   refine (hn _ (ht.then wN)).mono ?_
   rintro e w2 ⟨rfl,wM⟩
   go_wp2
   go_ret2
   first
    | exact ef.yes (av wN wM)
    | exact ef.no (av wN wM)
 have f5:(s.toList == [98,117,115,105,101,115,116])=false:=bW h5
 have HV:dy x s=none:=by unfold dy; rw [if_neg h0,if_neg h1,if_neg h2,if_neg h3,if_neg h4,if_neg h5]
 rw [HV]
 clear h0 h1 h2 h3 h4 h5 HV
 have hn:=fun W hW=>cq 0 W oM oM hW
 obtain ⟨T,hT⟩ : ∃ T:ByteArray,(⟨(Lib.itoa 0).toArray⟩ : ByteArray)=T:=⟨_,rfl⟩
 rw [hT] at hn
 clear hT
 go_enter Tryz.func97,Tryz.ntmps97
 go_wp2_with fail
 refine (hn _ ht).mono ?_
 rintro e w2 ⟨rfl,wM⟩
 go_wp2
 go_ret2
 exact ef.no wM
set_option maxRecDepth 100000 in
theorem tG (x:aO) (l:Lg) (s:ByteArray) (n:Int) (g:Nat) (w:World) (hL:ai w g 42 [F x.TA x.t.length x.tc,F x.OA x.o.length x.oc,O U x.gt,O U x.sd,O U x.ms,wG l.D,wG l.P,O U l.n]) (h:aQ w w.heap.size x) (G:bK x) (ht:hQ w) :
  Calls wH 98 #[.pointer (some ⟨g,0,none⟩),wG s,O U n] w (ef w (gV x s n)):=by
 obtain ⟨c0,c1,c2,c3,c4⟩:=cells5 hL
 by_cases h0:s=⟨#[97,116]⟩
 ·subst h0
  have HV:gV x ⟨#[97,116]⟩ n=lj x n:=by unfold gV; rw [if_pos rfl]
  rw [HV]
  clear HV
  have BD:=uz G n (ao x && cg n 1 999)
  have hc:=nl x n w h
  have HT:lj x n=if (ao x && cg n 1 999)=true then some (fA (bC (ao x && cg n 1 999) (aT (fun r:ae=>decide (r.p=n)) ae.k x.o))) else none:=rfl
  rw [HT]
  clear HT
  obtain ⟨ok,wP⟩ : ∃ b,(ao x && cg n 1 999)=b:=⟨_,rfl⟩
  obtain ⟨ns,zb⟩ : ∃ b,bC (ao x && cg n 1 999) (aT (fun r:ae=>decide (r.p=n)) ae.k x.o)=b:=⟨_,rfl⟩
  rw [zb] at BD hc ⊢
  rw [wP] at hc ⊢
  have hl:=fun W A c hR hT=>lT A c ns ok W hR BD.1 BD.2 hT
  clear wP zb BD
  obtain ⟨T,hT⟩ : ∃ T,fA ns=T:=⟨_,rfl⟩
  rw [hT] at hl ⊢
  clear hT
  cases ok
  all_goals
   go_enter Tryz.func98,Tryz.ntmps98
   go_wp2_with fail
   refine hc.mono ?_
   rintro e w1 ⟨A',c',rfl,hO,wN⟩
   go_wp2_with fail
   refine (hl _ A' c' hO.reads (ht.then wN)).mono ?_
   rintro e w2 ⟨rfl,wM⟩
   go_wp2
   go_ret2
   first
    | exact ef.yes (av wN wM)
    | exact ef.no (av wN wM)
 have f0:(s.toList == [97,116])=false:=bW h0
 by_cases h1:s=⟨#[119,105,116,104]⟩
 ·subst h1
  have HV:gV x ⟨#[119,105,116,104]⟩ n=iy x n:=by unfold gV; rw [if_neg dD,if_pos rfl]
  rw [HV]
  clear HV
  have BD:=rz G n (ao x && aS x.t n)
  have hc:=kO x n w h
  have HT:iy x n=if (ao x && aS x.t n)=true then some (fA (bC (ao x && aS x.t n) (aT (fun r:ae=>decide (r.k=n)) ae.p x.o))) else none:=rfl
  rw [HT]
  clear HT
  obtain ⟨ok,wP⟩ : ∃ b,(ao x && aS x.t n)=b:=⟨_,rfl⟩
  obtain ⟨ns,zb⟩ : ∃ b,bC (ao x && aS x.t n) (aT (fun r:ae=>decide (r.k=n)) ae.p x.o)=b:=⟨_,rfl⟩
  rw [zb] at BD hc ⊢
  rw [wP] at hc ⊢
  have hl:=fun W A c hR hT=>lT A c ns ok W hR BD.1 BD.2 hT
  clear wP zb BD
  obtain ⟨T,hT⟩ : ∃ T,fA ns=T:=⟨_,rfl⟩
  rw [hT] at hl ⊢
  clear hT
  cases ok
  all_goals
   go_enter Tryz.func98,Tryz.ntmps98
   go_wp2_with fail
   refine hc.mono ?_
   rintro e w1 ⟨A',c',rfl,hO,wN⟩
   go_wp2_with fail
   refine (hl _ A' c' hO.reads (ht.then wN)).mono ?_
   rintro e w2 ⟨rfl,wM⟩
   go_wp2
   go_ret2
   first
    | exact ef.yes (av wN wM)
    | exact ef.no (av wN wM)
 have f1:(s.toList == [119,105,116,104])=false:=bW h1
 by_cases h2:s=⟨#[116,101,120,116]⟩
 ·subst h2
  have HV:gV x ⟨#[116,101,120,116]⟩ n=kq x n:=by unfold gV; rw [if_neg dD,if_neg dD,if_pos rfl]
  rw [HV]
  clear HV
  have hc:=my x n w h ht
  have HT:kq x n=if (ao x && aS x.t n)=true then some (eI x n) else none:=rfl
  rw [HT]
  clear HT
  obtain ⟨ok,wP⟩ : ∃ b,(ao x && aS x.t n)=b:=⟨_,rfl⟩
  rw [wP] at hc ⊢
  obtain ⟨T,hT⟩ : ∃ T,eI x n=T:=⟨_,rfl⟩
  rw [hT] at hc ⊢
  clear hT wP
  cases ok
  all_goals
   go_enter Tryz.func98,Tryz.ntmps98
   go_wp2_with fail
   refine hc.mono ?_
   rintro e w1 ⟨rfl,wN⟩
   go_wp2
   go_ret2
   first
    | exact ef.yes wN
    | exact ef.no wN
 have f2:(s.toList == [116,101,120,116])=false:=bW h2
 have HV:gV x s n=none:=by unfold gV; rw [if_neg h0,if_neg h1,if_neg h2]
 rw [HV]
 clear h0 h1 h2 HV
 go_enter Tryz.func98,Tryz.ntmps98
 go_wp2
 go_ret2
 exact ef.no jB
end Go.Proofs.YtoeoimhemojdeaaGreatDoor
