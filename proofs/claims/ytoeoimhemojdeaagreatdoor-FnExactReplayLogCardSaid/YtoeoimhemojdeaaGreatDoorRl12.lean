/- Rl12: the texts ExT Joinb JoinW OffBusy3 ExI StepA StepGet StepMove, joined into one file. -/
import Derived.Shelf.Strings.OnBuilder
import Derived.Test.YtoeoimhemojdeaaGreatDoorProg
import Derived.Test.YtoeoimhemojdeaaGreatDoorRl01
import Derived.Test.YtoeoimhemojdeaaGreatDoorRl02
import Derived.Test.YtoeoimhemojdeaaGreatDoorRl03
import Derived.Test.YtoeoimhemojdeaaGreatDoorRl07
import Derived.Test.YtoeoimhemojdeaaGreatDoorRl09
import Derived.Test.YtoeoimhemojdeaaGreatDoorRl11

set_option linter.unusedVariables false
open Go.Value renaming int → O, slice → F, string → sQ
open Go.IntKind renaming i64 → U

namespace Go.Proofs.YtoeoimhemojdeaaGreatDoor
open Go.RowKit
theorem dL {w:World} {B g:Nat} {y:Oc} {TA OA:Option Addr} {tc oc:Nat} {cs:List Value} (u0 u1 u2 u3 u4 u5 u6 u7:Value) (hL:ai w g 42 cs) (h1:w.ownsRow B 104 2 (F TA y.t.length tc) y.t.length (y.t.flatMap aq.enc)) (h2:w.ownsRow B 147 3 (F OA y.o.length oc) y.o.length (y.o.flatMap ae.enc)) :
  ((((((((w.setCell ⟨g,0,none⟩ (u0)).setCell ⟨g,1,none⟩ (u1)).setCell ⟨g,2,none⟩ (u2)).setCell ⟨g,3,none⟩ (u3)).setCell ⟨g,4,none⟩ (u4)).setCell ⟨g,5,none⟩ (u5)).setCell ⟨g,6,none⟩ (u6)).setCell ⟨g,7,none⟩ (u7)).ownsRow B 104 2 (F TA y.t.length tc) y.t.length (y.t.flatMap aq.enc)∧((((((((w.setCell ⟨g,0,none⟩ (u0)).setCell ⟨g,1,none⟩ (u1)).setCell ⟨g,2,none⟩ (u2)).setCell ⟨g,3,none⟩ (u3)).setCell ⟨g,4,none⟩ (u4)).setCell ⟨g,5,none⟩ (u5)).setCell ⟨g,6,none⟩ (u6)).setCell ⟨g,7,none⟩ (u7)).ownsRow B 147 3 (F OA y.o.length oc) y.o.length (y.o.flatMap ae.enc):=by
 have gr:w.grownBy ((((((((w.setCell ⟨g,0,none⟩ (u0)).setCell ⟨g,1,none⟩ (u1)).setCell ⟨g,2,none⟩ (u2)).setCell ⟨g,3,none⟩ (u3)).setCell ⟨g,4,none⟩ (u4)).setCell ⟨g,5,none⟩ (u5)).setCell ⟨g,6,none⟩ (u6)).setCell ⟨g,7,none⟩ (u7)) (some g):=ac (g:=g) (i:=7) (u:=u7) (ac (g:=g) (i:=6) (u:=u6) (ac (g:=g) (i:=5) (u:=u5) (ac (g:=g) (i:=4) (u:=u4) (ac (g:=g) (i:=3) (u:=u3) (ac (g:=g) (i:=2) (u:=u2) (ac (g:=g) (i:=1) (u:=u1) (ac (g:=g) (i:=0) (u:=u0) (World.grownBy.refl w (some g)))))))))
 exact ⟨aj h1 hL eN gr,aj h2 hL eQ gr⟩
theorem rX {x X:aM} (h:X.c=x.c) (line:ByteArray):gX X line=gX x line:=by
 cases x; cases X
 simp only [aM.c,Oc.mk.injEq] at h
 obtain ⟨rfl,rfl,rfl,rfl,rfl⟩:=h
 rfl
theorem good_c {x X:aM} (h:X.c=x.c) (G:bn x):bn X:=by
 have e:X.c.good=x.c.good:=by rw [h]
 have e1:am x=true:=bm.2 G
 have e2:X.c.good=true:=e.trans e1
 exact bm.1 (show am X=true from e2)
theorem rd {x:aM} (h:x.c.good=true) (w0:ByteArray) (ns:List Int):(eF x (bp x w0 ns)).good=true:=by
 have key:∀ s:Option dH,(eF x (s.bind (bL x))).good=true:=fun s=>by
  cases s with
  | none=>exact h
  | some s =>
   show (eF x (bL x s)).good=true
   unfold bL
   cases hN:fL x.c s with
   | none=>exact h
   | some z=>exact (eG hN).1
 unfold bp
 split
 ·rw [jX]; exact h
 ·rw [jX]; exact h
 ·exact key _
 ·exact key _
 ·exact h
theorem mT {x:aM} (h:x.c.good=true) (line:ByteArray):(eF x (gX x line)).good=true:=by
 unfold gX
 cases cZ ((aG 32 (bl line)).drop 1) with
 | none=>exact h
 | some ns=>exact rd h _ _
theorem sC {x X:aM} (h:X.c=x.c) (R:Option (Oc × ByteArray)):eF X R=eF x R:=by cases R <;> simp [eF,h]
def bV (w:World) (x:aM) (l:Lg) (line:ByteArray) (e:Ending) (w' : World):Prop :=
 ∃ v,e=.returned (.tuple #[v,sQ (gH x l line)])∧kB w' w.heap.size (fC x l line) (gj x l line) v∧Below w.heap.size w w'
theorem bV.mk {w w' : World} {x:aM} {l l' : Lg} {line T:ByteArray} {y:Oc} {v:Value} (hT:gH x l line=T) (hO:fC x l line=y) (hL:gj x l line=l') (h1:kB w' w.heap.size y l' v) (h2:Below w.heap.size w w'):bV w x l line (.returned (.tuple #[v,sQ T])) w':=by
 subst hT; subst hO; subst hL; exact ⟨v,rfl,h1,h2⟩
set_option maxRecDepth 100000 in
set_option maxHeartbeats 8000000 in
theorem re (x:aM) (l:Lg) (line:ByteArray) (w:World) (h:aQ w w.heap.size x) (tl:x.t.length≤1048576) (ol:x.o.length≤1048576) (hs:l.D.size+l.P.size≤2000000) (hsl:line.size≤1048576) (hok:dD x l=false) :
  Calls Tryz.prog 14 #[aL x l,sQ line] w (bV w x l line):=by
 have L1:=(ai.new w 42 #[F x.TA x.t.length x.tc,F x.OA x.o.length x.oc,O U x.got,O U x.sold,O U x.missed,sQ l.D,sQ l.P,O U l.n]).alloc (.cells #[F none 0 0,F none 0 0,O U 0,O U 0,O U 0,sQ ⟨#[]⟩,sQ ⟨#[]⟩,O U 0] 42)
 have L2:=ai.new1 w (.cells #[F x.TA x.t.length x.tc,F x.OA x.o.length x.oc,O U x.got,O U x.sold,O U x.missed,sQ l.D,sQ l.P,O U l.n] 42) 42 #[F none 0 0,F none 0 0,O U 0,O U 0,O U 0,sQ ⟨#[]⟩,sQ ⟨#[]⟩,O U 0]
 have b1:=(Below.refl w.heap.size w).alloc (Nat.le_refl _) (.cells #[F x.TA x.t.length x.tc,F x.OA x.o.length x.oc,O U x.got,O U x.sold,O U x.missed,sQ l.D,sQ l.P,O U l.n] 42)
 have b2:=b1.alloc b1.size (.cells #[F none 0 0,F none 0 0,O U 0,O U 0,O U 0,sQ ⟨#[]⟩,sQ ⟨#[]⟩,O U 0] 42)
 have hW:=h.up b2 (Nat.le_refl _)
 have hge:w.heap.size≤w.heap.size+1:=by omega
 clear b1 h
 go_enter Tryz.func14,Tryz.ntmps14
 go_wp2_with fail
 generalize ((w.alloc (.cells #[F x.TA x.t.length x.tc,F x.OA x.o.length x.oc,O U x.got,O U x.sold,O U x.missed,sQ l.D,sQ l.P,O U l.n] 42)).alloc (.cells #[F none 0 0,F none 0 0,O U 0,O U 0,O U 0,sQ ⟨#[]⟩,sQ ⟨#[]⟩,O U 0] 42))=W at L1 L2 b2 hW ⊢
 refine (gl x l W hW tl ol).mono ?_
 rintro e W1 ⟨v,rfl,⟨TA,tc,OA,oc,rfl,hT0,hO0⟩,hb⟩
 go_upto_region 2 with fail
 have hal:=(Below.refl W1.heap.size W1).alloc (Nat.le_refl _) (.cells #[F TA x.c.t.length tc,F OA x.c.o.length oc,O U x.c.got,O U x.c.sold,O U x.c.missed,sQ l.D,sQ l.P,O U l.n] 42)
 have hb2:=ar hb hal
 have J1:=L1.below hb2 L1.lt
 have J2:=L2.below hb2 L2.lt
 have J6:=ai.new W1 42 #[F TA x.c.t.length tc,F OA x.c.o.length oc,O U x.c.got,O U x.c.sold,O U x.c.missed,sQ l.D,sQ l.P,O U l.n]
 have b4:=ar b2 hb2
 have hT1:=af (ab hT0 hal) b2.size
 have hO1:=af (ab hO0 hal) b2.size
 have hW2:=hW.then hb2
 have hg26:w.heap.size+1 < W1.heap.size:=Nat.lt_of_lt_of_le L2.lt hb.size
 clear hal hb2 hb hT0 hO0 L1 L2 b2 hW
 generalize W1.alloc (.cells #[F TA x.c.t.length tc,F OA x.c.o.length oc,O U x.c.got,O U x.c.sold,O U x.c.missed,sQ l.D,sQ l.P,O U l.n] 42)=W2 at J1 J2 J6 b4 hT1 hO1 hW2 ⊢
 generalize W1.heap.size=g6 at J6 hg26 ⊢
 have hg6:w.heap.size≤g6:=by omega
 obtain ⟨c0,c1,c2,c3,c4,c5,c6,c7⟩:=cells8 J1
 go_wp2_with fail
 refine (fB x l W2 hW2 hs).mono ?_
 rintro e W3 ⟨rfl,hb3⟩
 have K1:=J1.below hb3 J1.lt
 have K2:=J2.below hb3 J2.lt
 have K6:=J6.below hb3 J6.lt
 have b5:=b4.trans (hb3.mono b4.size)
 have hT3:=ab hT1 hb3
 have hO3:=ab hO1 hb3
 have hW3:=hW2.then hb3
 clear hb3 J1 J2 J6 b4 hT1 hO1 hW2 c0 c1 c2 c3 c4 c5 c6 c7
 rw [hok]
 obtain ⟨p0,p1,p2,p3,p4,p5,p6,p7⟩:=cells8 K6
 obtain ⟨z0,z1,z2,z3,z4,z5,z6,z7⟩:=cells8 K2
 obtain ⟨f0,f1,f2,f3,f4,f5,f6,f7⟩:=frz8 K2
 obtain ⟨hT4,hO4⟩:=dL (F TA x.c.t.length tc) (F OA x.c.o.length oc) (O U x.c.got) (O U x.c.sold) (O U x.c.missed) (sQ l.D) (sQ l.P) (O U l.n) K2 hT3 hO3
 have bz:=Lib.hid (dN (g:=w.heap.size+1) (b5) hge (F TA x.c.t.length tc) (F OA x.c.o.length oc) (O U x.c.got) (O U x.c.sold) (O U x.c.missed) (sQ l.D) (sQ l.P) (O U l.n))
 have HT4:=Lib.hid hT4
 have HO4:=Lib.hid hO4
 clear K1 K2 K6 b5 hT3 hO3 hW3 hT4 hO4
 go_wp2_with fail
 refine bodyPost_ret (v:=.tuple #[.agg #[F TA x.c.t.length tc,F OA x.c.o.length oc,O U x.c.got,O U x.c.sold,O U x.c.missed,sQ l.D,sQ l.P,O U l.n],sQ ⟨#[110,111]⟩]) (by simp [results,Tryz.results14,go_sem, *]) rfl (bV.mk (by unfold gH; rw [if_neg (by rw [hok]; exact Bool.false_ne_true)]) (by unfold fC; rw [if_neg (by rw [hok]; exact Bool.false_ne_true)]) (by unfold gj; rw [if_neg (by rw [hok]; exact Bool.false_ne_true)]) ⟨TA,tc,OA,oc,rfl,HT4.out,HO4.out⟩ bz.out)
set_option maxRecDepth 100000 in
set_option maxHeartbeats 8000000 in
theorem pR (x:aM) (l:Lg) (line:ByteArray) (w:World) (h:aQ w w.heap.size x) (tl:x.t.length≤1048576) (ol:x.o.length≤1048576) (hs:l.D.size+l.P.size≤2000000) (hsl:line.size≤1048576) (hok:dD x l=true) (hrk:da.ok ⟨line,⟨#[]⟩⟩=false) :
  Calls Tryz.prog 14 #[aL x l,sQ line] w (bV w x l line):=by
 have L1:=(ai.new w 42 #[F x.TA x.t.length x.tc,F x.OA x.o.length x.oc,O U x.got,O U x.sold,O U x.missed,sQ l.D,sQ l.P,O U l.n]).alloc (.cells #[F none 0 0,F none 0 0,O U 0,O U 0,O U 0,sQ ⟨#[]⟩,sQ ⟨#[]⟩,O U 0] 42)
 have L2:=ai.new1 w (.cells #[F x.TA x.t.length x.tc,F x.OA x.o.length x.oc,O U x.got,O U x.sold,O U x.missed,sQ l.D,sQ l.P,O U l.n] 42) 42 #[F none 0 0,F none 0 0,O U 0,O U 0,O U 0,sQ ⟨#[]⟩,sQ ⟨#[]⟩,O U 0]
 have b1:=(Below.refl w.heap.size w).alloc (Nat.le_refl _) (.cells #[F x.TA x.t.length x.tc,F x.OA x.o.length x.oc,O U x.got,O U x.sold,O U x.missed,sQ l.D,sQ l.P,O U l.n] 42)
 have b2:=b1.alloc b1.size (.cells #[F none 0 0,F none 0 0,O U 0,O U 0,O U 0,sQ ⟨#[]⟩,sQ ⟨#[]⟩,O U 0] 42)
 have hW:=h.up b2 (Nat.le_refl _)
 have hge:w.heap.size≤w.heap.size+1:=by omega
 clear b1 h
 go_enter Tryz.func14,Tryz.ntmps14
 go_wp2_with fail
 generalize ((w.alloc (.cells #[F x.TA x.t.length x.tc,F x.OA x.o.length x.oc,O U x.got,O U x.sold,O U x.missed,sQ l.D,sQ l.P,O U l.n] 42)).alloc (.cells #[F none 0 0,F none 0 0,O U 0,O U 0,O U 0,sQ ⟨#[]⟩,sQ ⟨#[]⟩,O U 0] 42))=W at L1 L2 b2 hW ⊢
 refine (gl x l W hW tl ol).mono ?_
 rintro e W1 ⟨v,rfl,⟨TA,tc,OA,oc,rfl,hT0,hO0⟩,hb⟩
 go_upto_region 2 with fail
 have hal:=(Below.refl W1.heap.size W1).alloc (Nat.le_refl _) (.cells #[F TA x.c.t.length tc,F OA x.c.o.length oc,O U x.c.got,O U x.c.sold,O U x.c.missed,sQ l.D,sQ l.P,O U l.n] 42)
 have hb2:=ar hb hal
 have J1:=L1.below hb2 L1.lt
 have J2:=L2.below hb2 L2.lt
 have J6:=ai.new W1 42 #[F TA x.c.t.length tc,F OA x.c.o.length oc,O U x.c.got,O U x.c.sold,O U x.c.missed,sQ l.D,sQ l.P,O U l.n]
 have b4:=ar b2 hb2
 have hT1:=af (ab hT0 hal) b2.size
 have hO1:=af (ab hO0 hal) b2.size
 have hW2:=hW.then hb2
 have hg26:w.heap.size+1 < W1.heap.size:=Nat.lt_of_lt_of_le L2.lt hb.size
 clear hal hb2 hb hT0 hO0 L1 L2 b2 hW
 generalize W1.alloc (.cells #[F TA x.c.t.length tc,F OA x.c.o.length oc,O U x.c.got,O U x.c.sold,O U x.c.missed,sQ l.D,sQ l.P,O U l.n] 42)=W2 at J1 J2 J6 b4 hT1 hO1 hW2 ⊢
 generalize W1.heap.size=g6 at J6 hg26 ⊢
 have hg6:w.heap.size≤g6:=by omega
 obtain ⟨c0,c1,c2,c3,c4,c5,c6,c7⟩:=cells8 J1
 go_wp2_with fail
 refine (fB x l W2 hW2 hs).mono ?_
 rintro e W3 ⟨rfl,hb3⟩
 have K1:=J1.below hb3 J1.lt
 have K2:=J2.below hb3 J2.lt
 have K6:=J6.below hb3 J6.lt
 have b5:=b4.trans (hb3.mono b4.size)
 have hT3:=ab hT1 hb3
 have hO3:=ab hO1 hb3
 have hW3:=hW2.then hb3
 clear hb3 J1 J2 J6 b4 hT1 hO1 hW2 c0 c1 c2 c3 c4 c5 c6 c7
 rw [hok]
 go_wp2_with fail
 refine (fA ⟨line,⟨#[]⟩⟩ W3 (Nat.le_trans hsl (by decide)) (show (0:Nat)≤1000000000 by omega)).mono ?_
 rintro e W4 ⟨rfl,hb4⟩
 have N1:=K1.below hb4 K1.lt
 have N2:=K2.below hb4 K2.lt
 have N6:=K6.below hb4 K6.lt
 have b6:=b5.trans (hb4.mono b5.size)
 have hT5:=ab hT3 hb4
 have hO5:=ab hO3 hb4
 have hW4:=hW3.then hb4
 clear hb4 K1 K2 K6 b5 hT3 hO3 hW3
 rw [hrk]
 obtain ⟨p0,p1,p2,p3,p4,p5,p6,p7⟩:=cells8 N6
 obtain ⟨z0,z1,z2,z3,z4,z5,z6,z7⟩:=cells8 N2
 obtain ⟨f0,f1,f2,f3,f4,f5,f6,f7⟩:=frz8 N2
 obtain ⟨hT4,hO4⟩:=dL (F TA x.c.t.length tc) (F OA x.c.o.length oc) (O U x.c.got) (O U x.c.sold) (O U x.c.missed) (sQ l.D) (sQ l.P) (O U l.n) N2 hT5 hO5
 have bz:=Lib.hid (dN (g:=w.heap.size+1) (b6) hge (F TA x.c.t.length tc) (F OA x.c.o.length oc) (O U x.c.got) (O U x.c.sold) (O U x.c.missed) (sQ l.D) (sQ l.P) (O U l.n))
 have HT4:=Lib.hid hT4
 have HO4:=Lib.hid hO4
 clear N1 N2 N6 b6 hT5 hO5 hW4 hT4 hO4
 go_wp2_with fail
 refine bodyPost_ret (v:=.tuple #[.agg #[F TA x.c.t.length tc,F OA x.c.o.length oc,O U x.c.got,O U x.c.sold,O U x.c.missed,sQ l.D,sQ l.P,O U l.n],sQ ⟨#[98,97,100]⟩]) (by simp [results,Tryz.results14,go_sem, *]) rfl (bV.mk (by unfold gH; rw [if_pos hok,if_neg (by rw [hrk]; exact Bool.false_ne_true)]) (by unfold fC; rw [if_pos hok,if_neg (by rw [hrk]; exact Bool.false_ne_true)]) (by unfold gj; rw [if_pos hok,if_neg (by rw [hrk]; exact Bool.false_ne_true)]) ⟨TA,tc,OA,oc,rfl,HT4.out,HO4.out⟩ bz.out)
set_option maxRecDepth 100000 in
set_option maxHeartbeats 8000000 in
theorem oQ (x:aM) (l:Lg) (line:ByteArray) (w:World) (h:aQ w w.heap.size x) (tl:x.t.length≤1048576) (ol:x.o.length≤1048576) (hs:l.D.size+l.P.size≤2000000) (hsl:line.size≤1048576) (hok:dD x l=true) (hrk:da.ok ⟨line,⟨#[]⟩⟩=true) (hn:l.n=60) :
  Calls Tryz.prog 14 #[aL x l,sQ line] w (bV w x l line):=by
 have hne:(l.n == 60)=true:=by rw [hn]; rfl
 have HN:=Lib.hid hn
 clear hn
 have L1:=(ai.new w 42 #[F x.TA x.t.length x.tc,F x.OA x.o.length x.oc,O U x.got,O U x.sold,O U x.missed,sQ l.D,sQ l.P,O U l.n]).alloc (.cells #[F none 0 0,F none 0 0,O U 0,O U 0,O U 0,sQ ⟨#[]⟩,sQ ⟨#[]⟩,O U 0] 42)
 have L2:=ai.new1 w (.cells #[F x.TA x.t.length x.tc,F x.OA x.o.length x.oc,O U x.got,O U x.sold,O U x.missed,sQ l.D,sQ l.P,O U l.n] 42) 42 #[F none 0 0,F none 0 0,O U 0,O U 0,O U 0,sQ ⟨#[]⟩,sQ ⟨#[]⟩,O U 0]
 have b1:=(Below.refl w.heap.size w).alloc (Nat.le_refl _) (.cells #[F x.TA x.t.length x.tc,F x.OA x.o.length x.oc,O U x.got,O U x.sold,O U x.missed,sQ l.D,sQ l.P,O U l.n] 42)
 have b2:=b1.alloc b1.size (.cells #[F none 0 0,F none 0 0,O U 0,O U 0,O U 0,sQ ⟨#[]⟩,sQ ⟨#[]⟩,O U 0] 42)
 have hW:=h.up b2 (Nat.le_refl _)
 have hge:w.heap.size≤w.heap.size+1:=by omega
 clear b1 h
 go_enter Tryz.func14,Tryz.ntmps14
 go_wp2_with fail
 generalize ((w.alloc (.cells #[F x.TA x.t.length x.tc,F x.OA x.o.length x.oc,O U x.got,O U x.sold,O U x.missed,sQ l.D,sQ l.P,O U l.n] 42)).alloc (.cells #[F none 0 0,F none 0 0,O U 0,O U 0,O U 0,sQ ⟨#[]⟩,sQ ⟨#[]⟩,O U 0] 42))=W at L1 L2 b2 hW ⊢
 refine (gl x l W hW tl ol).mono ?_
 rintro e W1 ⟨v,rfl,⟨TA,tc,OA,oc,rfl,hT0,hO0⟩,hb⟩
 go_upto_region 2 with fail
 have hal:=(Below.refl W1.heap.size W1).alloc (Nat.le_refl _) (.cells #[F TA x.c.t.length tc,F OA x.c.o.length oc,O U x.c.got,O U x.c.sold,O U x.c.missed,sQ l.D,sQ l.P,O U l.n] 42)
 have hb2:=ar hb hal
 have J1:=L1.below hb2 L1.lt
 have J2:=L2.below hb2 L2.lt
 have J6:=ai.new W1 42 #[F TA x.c.t.length tc,F OA x.c.o.length oc,O U x.c.got,O U x.c.sold,O U x.c.missed,sQ l.D,sQ l.P,O U l.n]
 have b4:=ar b2 hb2
 have hT1:=af (ab hT0 hal) b2.size
 have hO1:=af (ab hO0 hal) b2.size
 have hW2:=hW.then hb2
 have hg26:w.heap.size+1 < W1.heap.size:=Nat.lt_of_lt_of_le L2.lt hb.size
 clear hal hb2 hb hT0 hO0 L1 L2 b2 hW
 generalize W1.alloc (.cells #[F TA x.c.t.length tc,F OA x.c.o.length oc,O U x.c.got,O U x.c.sold,O U x.c.missed,sQ l.D,sQ l.P,O U l.n] 42)=W2 at J1 J2 J6 b4 hT1 hO1 hW2 ⊢
 generalize W1.heap.size=g6 at J6 hg26 ⊢
 have hg6:w.heap.size≤g6:=by omega
 obtain ⟨c0,c1,c2,c3,c4,c5,c6,c7⟩:=cells8 J1
 go_wp2_with fail
 refine (fB x l W2 hW2 hs).mono ?_
 rintro e W3 ⟨rfl,hb3⟩
 have K1:=J1.below hb3 J1.lt
 have K2:=J2.below hb3 J2.lt
 have K6:=J6.below hb3 J6.lt
 have b5:=b4.trans (hb3.mono b4.size)
 have hT3:=ab hT1 hb3
 have hO3:=ab hO1 hb3
 have hW3:=hW2.then hb3
 clear hb3 J1 J2 J6 b4 hT1 hO1 hW2 c0 c1 c2 c3 c4 c5 c6 c7
 rw [hok]
 go_wp2_with fail
 refine (fA ⟨line,⟨#[]⟩⟩ W3 (Nat.le_trans hsl (by decide)) (show (0:Nat)≤1000000000 by omega)).mono ?_
 rintro e W4 ⟨rfl,hb4⟩
 have N1:=K1.below hb4 K1.lt
 have N2:=K2.below hb4 K2.lt
 have N6:=K6.below hb4 K6.lt
 have b6:=b5.trans (hb4.mono b5.size)
 have hT5:=ab hT3 hb4
 have hO5:=ab hO3 hb4
 have hW4:=hW3.then hb4
 clear hb4 K1 K2 K6 b5 hT3 hO3 hW3
 rw [hrk]
 obtain ⟨c0,c1,c2,c3,c4,c5,c6,c7⟩:=cells8 N1
 obtain ⟨p0,p1,p2,p3,p4,p5,p6,p7⟩:=cells8 N6
 obtain ⟨z0,z1,z2,z3,z4,z5,z6,z7⟩:=cells8 N2
 obtain ⟨f0,f1,f2,f3,f4,f5,f6,f7⟩:=frz8 N2
 obtain ⟨hT4,hO4⟩:=dL (F TA x.c.t.length tc) (F OA x.c.o.length oc) (O U x.c.got) (O U x.c.sold) (O U x.c.missed) (sQ l.D) (sQ l.P) (O U l.n) N2 hT5 hO5
 have bz:=Lib.hid (dN (g:=w.heap.size+1) (b6) hge (F TA x.c.t.length tc) (F OA x.c.o.length oc) (O U x.c.got) (O U x.c.sold) (O U x.c.missed) (sQ l.D) (sQ l.P) (O U l.n))
 have HT4:=Lib.hid hT4
 have HO4:=Lib.hid hO4
 clear N1 N2 N6 b6 hT5 hO5 hW4 hT4 hO4
 go_wp2_with fail
 refine bodyPost_ret (v:=.tuple #[.agg #[F TA x.c.t.length tc,F OA x.c.o.length oc,O U x.c.got,O U x.c.sold,O U x.c.missed,sQ l.D,sQ l.P,O U l.n],sQ ⟨#[102,117,108,108]⟩]) (by simp [results,Tryz.results14,go_sem, *]) rfl (bV.mk (by unfold gH; rw [if_pos hok,if_pos hrk,if_pos HN.out]) (by unfold fC; rw [if_pos hok,if_pos hrk,if_pos HN.out]) (by unfold gj; rw [if_pos hok,if_pos hrk,if_pos HN.out]) ⟨TA,tc,OA,oc,rfl,HT4.out,HO4.out⟩ bz.out)
set_option maxRecDepth 100000 in
set_option maxHeartbeats 8000000 in
theorem pS (x:aM) (l:Lg) (line:ByteArray) (w:World) (h:aQ w w.heap.size x) (tl:x.t.length≤1048576) (ol:x.o.length≤1048576) (hs:l.D.size+l.P.size≤2000000) (hsl:line.size≤1048576) (hok:dD x l=true) (hrk:da.ok ⟨line,⟨#[]⟩⟩=true) (hn : ¬ l.n=60) :
  Calls Tryz.prog 14 #[aL x l,sQ line] w (bV w x l line):=by
 have hne:(l.n == 60)=false:=beq_false_of_ne hn
 have G:=l5 hok
 have hl160:line.size≤1000:=by
  have h1:=(cP.1 hrk).2.1
  have h2:line.size≤160:=h1
  omega
 have HET:gH x l line=kA x line:=by unfold gH; rw [if_pos hok,if_pos hrk,if_neg hn]
 have HEO:fC x l line=oJ x line:=by unfold fC; rw [if_pos hok,if_pos hrk,if_neg hn]
 have HEL:gj x l line=fG l ⟨line,kA x line⟩:=by unfold gj; rw [if_pos hok,if_pos hrk,if_neg hn]
 obtain ⟨R,hR⟩ : ∃ R,gX x line=R:=⟨_,rfl⟩
 have HRT:kA x line=if 200 < (ix R).size then ⟨#[108,111,110,103]⟩ else ix R:=by
  unfold kA; rw [hR]; cases R with
  | none=>exact (if_neg (by decide)).symm
  | some r=>rfl
 have HRO:oJ x line=eF x R:=by unfold oJ; rw [hR]; cases R <;> rfl
 obtain ⟨rep,hrep⟩ : ∃ rep,kA x line=rep:=⟨_,rfl⟩
 have hrs:rep.size≤200:=by
  rw [← hrep,HRT]; split
  ·show (4:Nat)≤200; omega
  ·omega
 obtain ⟨l2,hl2⟩ : ∃ l2,fG l ⟨line,rep⟩=l2:=⟨_,rfl⟩
 have cA:=fun W=>l7 l ⟨line,rep⟩ W hs (Nat.le_trans hl160 (by decide)) (Nat.le_trans hrs (by decide))
 rw [hrep] at HET HEL HRT
 rw [hl2] at cA HEL
 have ET:=Lib.hid HET
 have EO:=Lib.hid (HEO.trans HRO)
 have EL:=Lib.hid HEL
 have HC:=Lib.hid hR
 clear hn HET HEO HEL HRO hrep hl2 hR
 have L1:=(ai.new w 42 #[F x.TA x.t.length x.tc,F x.OA x.o.length x.oc,O U x.got,O U x.sold,O U x.missed,sQ l.D,sQ l.P,O U l.n]).alloc (.cells #[F none 0 0,F none 0 0,O U 0,O U 0,O U 0,sQ ⟨#[]⟩,sQ ⟨#[]⟩,O U 0] 42)
 have L2:=ai.new1 w (.cells #[F x.TA x.t.length x.tc,F x.OA x.o.length x.oc,O U x.got,O U x.sold,O U x.missed,sQ l.D,sQ l.P,O U l.n] 42) 42 #[F none 0 0,F none 0 0,O U 0,O U 0,O U 0,sQ ⟨#[]⟩,sQ ⟨#[]⟩,O U 0]
 have b1:=(Below.refl w.heap.size w).alloc (Nat.le_refl _) (.cells #[F x.TA x.t.length x.tc,F x.OA x.o.length x.oc,O U x.got,O U x.sold,O U x.missed,sQ l.D,sQ l.P,O U l.n] 42)
 have b2:=b1.alloc b1.size (.cells #[F none 0 0,F none 0 0,O U 0,O U 0,O U 0,sQ ⟨#[]⟩,sQ ⟨#[]⟩,O U 0] 42)
 have hW:=h.up b2 (Nat.le_refl _)
 have hge:w.heap.size≤w.heap.size+1:=by omega
 clear b1 h
 go_enter Tryz.func14,Tryz.ntmps14
 go_wp2_with fail
 generalize ((w.alloc (.cells #[F x.TA x.t.length x.tc,F x.OA x.o.length x.oc,O U x.got,O U x.sold,O U x.missed,sQ l.D,sQ l.P,O U l.n] 42)).alloc (.cells #[F none 0 0,F none 0 0,O U 0,O U 0,O U 0,sQ ⟨#[]⟩,sQ ⟨#[]⟩,O U 0] 42))=W at L1 L2 b2 hW ⊢
 refine (gl x l W hW tl ol).mono ?_
 rintro e W1 ⟨v,rfl,⟨TA,tc,OA,oc,rfl,hT0,hO0⟩,hb⟩
 go_upto_region 2 with fail
 have hal:=(Below.refl W1.heap.size W1).alloc (Nat.le_refl _) (.cells #[F TA x.c.t.length tc,F OA x.c.o.length oc,O U x.c.got,O U x.c.sold,O U x.c.missed,sQ l.D,sQ l.P,O U l.n] 42)
 have hb2:=ar hb hal
 have J1:=L1.below hb2 L1.lt
 have J2:=L2.below hb2 L2.lt
 have J6:=ai.new W1 42 #[F TA x.c.t.length tc,F OA x.c.o.length oc,O U x.c.got,O U x.c.sold,O U x.c.missed,sQ l.D,sQ l.P,O U l.n]
 have b4:=ar b2 hb2
 have hT1:=af (ab hT0 hal) b2.size
 have hO1:=af (ab hO0 hal) b2.size
 have hW2:=hW.then hb2
 have hg26:w.heap.size+1 < W1.heap.size:=Nat.lt_of_lt_of_le L2.lt hb.size
 clear hal hb2 hb hT0 hO0 L1 L2 b2 hW
 generalize W1.alloc (.cells #[F TA x.c.t.length tc,F OA x.c.o.length oc,O U x.c.got,O U x.c.sold,O U x.c.missed,sQ l.D,sQ l.P,O U l.n] 42)=W2 at J1 J2 J6 b4 hT1 hO1 hW2 ⊢
 generalize W1.heap.size=g6 at J6 hg26 ⊢
 have hg6:w.heap.size≤g6:=by omega
 obtain ⟨c0,c1,c2,c3,c4,c5,c6,c7⟩:=cells8 J1
 go_wp2_with fail
 refine (fB x l W2 hW2 hs).mono ?_
 rintro e W3 ⟨rfl,hb3⟩
 have K1:=J1.below hb3 J1.lt
 have K2:=J2.below hb3 J2.lt
 have K6:=J6.below hb3 J6.lt
 have b5:=b4.trans (hb3.mono b4.size)
 have hT3:=ab hT1 hb3
 have hO3:=ab hO1 hb3
 have hW3:=hW2.then hb3
 clear hb3 J1 J2 J6 b4 hT1 hO1 hW2 c0 c1 c2 c3 c4 c5 c6 c7
 rw [hok]
 go_wp2_with fail
 refine (fA ⟨line,⟨#[]⟩⟩ W3 (Nat.le_trans hsl (by decide)) (show (0:Nat)≤1000000000 by omega)).mono ?_
 rintro e W4 ⟨rfl,hb4⟩
 have N1:=K1.below hb4 K1.lt
 have N2:=K2.below hb4 K2.lt
 have N6:=K6.below hb4 K6.lt
 have b6:=b5.trans (hb4.mono b5.size)
 have hT5:=ab hT3 hb4
 have hO5:=ab hO3 hb4
 have hW4:=hW3.then hb4
 clear hb4 K1 K2 K6 b5 hT3 hO3 hW3
 rw [hrk]
 obtain ⟨c0,c1,c2,c3,c4,c5,c6,c7⟩:=cells8 N1
 have hXc:(x.c.at TA tc OA oc).c=x.c:=rfl
 have hRX:aQ W4 W4.heap.size (x.c.at TA tc OA oc):=⟨aB hT5,aB hO5⟩
 have hcapX:(x.c.at TA tc OA oc).t.length≤(x.c.at TA tc OA oc).tc:=iL hT5
 have hrun:=pQ (x.c.at TA tc OA oc) l line W4 hRX hcapX (good_c hXc G) hl160
 rw [rX hXc,HC.out] at hrun
 obtain ⟨p0,p1,p2,p3,p4,p5,p6,p7⟩:=cells8 N6
 go_wp2_with fail
 refine hrun.mono ?_
 rintro e W5 ⟨v,rfl,hv,hb5⟩
 obtain ⟨X,rfl,hXy,hR5⟩:=hv.as (hRX.then hb5)
 have hal:=(Below.refl W5.heap.size W5).alloc (Nat.le_refl _) (.cells #[F X.TA X.t.length X.tc,F X.OA X.o.length X.oc,O U X.got,O U X.sold,O U X.missed,sQ l.D,sQ l.P,O U l.n] 42)
 have hb6:=ar hb5 hal
 have J1:=N1.below hb6 N1.lt
 have J2:=N2.below hb6 N2.lt
 have J6:=N6.below hb6 N6.lt
 have J7:=ai.new W5 42 #[F X.TA X.t.length X.tc,F X.OA X.o.length X.oc,O U X.got,O U X.sold,O U X.missed,sQ l.D,sQ l.P,O U l.n]
 have b7:=b6.trans (hb6.mono b6.size)
 have hR6:=hR5.then hal
 have hg67:g6 < W5.heap.size:=Nat.lt_of_lt_of_le N6.lt hb5.size
 clear p0 p1 p2 p3 p4 p5 p6 p7 c0 c1 c2 c3 c4 c5 c6 c7
 go_upto_region 9 with fail
 clear hal hb6 hb5 hv hR5 N1 N2 N6 b6 hT5 hO5 hRX hrun hcapX hW4
 generalize W5.alloc (.cells #[F X.TA X.t.length X.tc,F X.OA X.o.length X.oc,O U X.got,O U X.sold,O U X.missed,sQ l.D,sQ l.P,O U l.n] 42)=W6 at J1 J2 J6 J7 b7 hR6 ⊢
 generalize W5.heap.size=g7 at J7 hg67 ⊢
 rw [sC hXc] at hXy
 have hyg:(eF x R).good=true:=by rw [← HC.out]; exact mT (by have e1:am x=true:=bm.2 G; exact e1) line
 have hlen:=kn hyg
 rw [← hXy] at hlen
 have hown:=gl X l W6 hR6 (by have:=hlen.1; show X.c.t.length≤_; omega) (by have:=hlen.2; show X.c.o.length≤_; omega)
 rw [hXy] at hown
 have HXY:=Lib.hid hXy
 clear hlen hXy hXc
 obtain ⟨y,hy⟩ : ∃ y,eF x R=y:=⟨_,rfl⟩
 rw [hy] at hown EO
 clear hy hyg HXY
 obtain ⟨c0,c1,c2,c3,c4,c5,c6,c7⟩:=cells8 J7
 go_wp2_with fail
 refine hown.mono ?_
 rintro e W7 ⟨v,rfl,⟨TB,tb,OB,ob,rfl,hT7,hO7⟩,hb7⟩
 have K1:=J1.below hb7 J1.lt
 have K2:=J2.below hb7 J2.lt
 have K6:=J6.below hb7 J6.lt
 have b8:=b7.trans (hb7.mono b7.size)
 have hT8:=af hT7 b7.size
 have hO8:=af hO7 b7.size
 obtain ⟨hT9,hO9⟩:=dL (F TB y.t.length tb) (F OB y.o.length ob) (O U y.got) (O U y.sold) (O U y.missed) (sQ l.D) (sQ l.P) (O U l.n) K6 hT8 hO8
 have M1:ai ((((((((W7.setCell ⟨g6,0,none⟩ (F TB y.t.length tb)).setCell ⟨g6,1,none⟩ (F OB y.o.length ob)).setCell ⟨g6,2,none⟩ (O U y.got)).setCell ⟨g6,3,none⟩ (O U y.sold)).setCell ⟨g6,4,none⟩ (O U y.missed)).setCell ⟨g6,5,none⟩ (sQ l.D)).setCell ⟨g6,6,none⟩ (sQ l.P)).setCell ⟨g6,7,none⟩ (O U l.n)) w.heap.size 42 [F x.TA x.t.length x.tc,F x.OA x.o.length x.oc,O U x.got,O U x.sold,O U x.missed,sQ l.D,sQ l.P,O U l.n]:=((((((((K1).other (p:=⟨g6,0,none⟩) (by simp only; omega) (F TB y.t.length tb)).other (p:=⟨g6,1,none⟩) (by simp only; omega) (F OB y.o.length ob)).other (p:=⟨g6,2,none⟩) (by simp only; omega) (O U y.got)).other (p:=⟨g6,3,none⟩) (by simp only; omega) (O U y.sold)).other (p:=⟨g6,4,none⟩) (by simp only; omega) (O U y.missed)).other (p:=⟨g6,5,none⟩) (by simp only; omega) (sQ l.D)).other (p:=⟨g6,6,none⟩) (by simp only; omega) (sQ l.P)).other (p:=⟨g6,7,none⟩) (by simp only; omega) (O U l.n)
 have M2:ai ((((((((W7.setCell ⟨g6,0,none⟩ (F TB y.t.length tb)).setCell ⟨g6,1,none⟩ (F OB y.o.length ob)).setCell ⟨g6,2,none⟩ (O U y.got)).setCell ⟨g6,3,none⟩ (O U y.sold)).setCell ⟨g6,4,none⟩ (O U y.missed)).setCell ⟨g6,5,none⟩ (sQ l.D)).setCell ⟨g6,6,none⟩ (sQ l.P)).setCell ⟨g6,7,none⟩ (O U l.n)) (w.heap.size+1) 42 [F none 0 0,F none 0 0,O U 0,O U 0,O U 0,sQ ⟨#[]⟩,sQ ⟨#[]⟩,O U 0]:=((((((((K2).other (p:=⟨g6,0,none⟩) (by simp only; omega) (F TB y.t.length tb)).other (p:=⟨g6,1,none⟩) (by simp only; omega) (F OB y.o.length ob)).other (p:=⟨g6,2,none⟩) (by simp only; omega) (O U y.got)).other (p:=⟨g6,3,none⟩) (by simp only; omega) (O U y.sold)).other (p:=⟨g6,4,none⟩) (by simp only; omega) (O U y.missed)).other (p:=⟨g6,5,none⟩) (by simp only; omega) (sQ l.D)).other (p:=⟨g6,6,none⟩) (by simp only; omega) (sQ l.P)).other (p:=⟨g6,7,none⟩) (by simp only; omega) (O U l.n)
 have M6:ai ((((((((W7.setCell ⟨g6,0,none⟩ (F TB y.t.length tb)).setCell ⟨g6,1,none⟩ (F OB y.o.length ob)).setCell ⟨g6,2,none⟩ (O U y.got)).setCell ⟨g6,3,none⟩ (O U y.sold)).setCell ⟨g6,4,none⟩ (O U y.missed)).setCell ⟨g6,5,none⟩ (sQ l.D)).setCell ⟨g6,6,none⟩ (sQ l.P)).setCell ⟨g6,7,none⟩ (O U l.n)) g6 42 [F TB y.t.length tb,F OB y.o.length ob,O U y.got,O U y.sold,O U y.missed,sQ l.D,sQ l.P,O U l.n]:=nz (K6) (F TB y.t.length tb) (F OB y.o.length ob) (O U y.got) (O U y.sold) (O U y.missed) (sQ l.D) (sQ l.P) (O U l.n)
 have b9:=dN (g:=g6) (b8) hg6 (F TB y.t.length tb) (F OB y.o.length ob) (O U y.got) (O U y.sold) (O U y.missed) (sQ l.D) (sQ l.P) (O U l.n)
 obtain ⟨z0,z1,z2,z3,z4,z5,z6,z7⟩:=cells8 K6
 obtain ⟨f0,f1,f2,f3,f4,f5,f6,f7⟩:=frz8 K6
 clear J1 J2 J6 J7 b7 hR6 hb7 K1 K2 hT7 hO7 hT8 hO8 b8 c0 c1 c2 c3 c4 c5 c6 c7 hown
 go_upto_region 10 with fail
 clear K6 z0 z1 z2 z3 z4 z5 z6 z7 f0 f1 f2 f3 f4 f5 f6 f7
 generalize ((((((((W7.setCell ⟨g6,0,none⟩ (F TB y.t.length tb)).setCell ⟨g6,1,none⟩ (F OB y.o.length ob)).setCell ⟨g6,2,none⟩ (O U y.got)).setCell ⟨g6,3,none⟩ (O U y.sold)).setCell ⟨g6,4,none⟩ (O U y.missed)).setCell ⟨g6,5,none⟩ (sQ l.D)).setCell ⟨g6,6,none⟩ (sQ l.P)).setCell ⟨g6,7,none⟩ (O U l.n))=W8 at M1 M2 M6 b9 hT9 hO9 ⊢
 obtain ⟨cod,hcod⟩ : ∃ cod,dS l ⟨line,rep⟩=cod:=⟨_,rfl⟩
 rw [hcod] at cA
 clear hcod
 obtain ⟨T0,hT0'⟩ : ∃ T0,ix R=T0:=⟨_,rfl⟩
 rw [hT0'] at HRT ⊢
 clear hT0'
 by_cases hlong:200 < T0.size
 ·have hlg:(200:Int) < (T0.size:Int):=by omega
  rw [if_pos hlong] at HRT
  subst HRT
  obtain ⟨c0,c1,c2,c3,c4,c5,c6,c7⟩:=cells8 M1
  go_wp2_with fail
  refine (cA W8).mono ?_
  rintro e W9 ⟨rfl,hb9⟩
  have Q1:=M1.below hb9 M1.lt
  have Q2:=M2.below hb9 M2.lt
  have Q6:=M6.below hb9 M6.lt
  have b10:=b9.trans (hb9.mono b9.size)
  have hTA:=ab hT9 hb9
  have hOA:=ab hO9 hb9
  have gr9:W9.grownBy (((W9.setCell ⟨g6,5,none⟩ (sQ l2.D)).setCell ⟨g6,6,none⟩ (sQ l2.P)).setCell ⟨g6,7,none⟩ (O U l2.n)) (some g6):=ac (g:=g6) (i:=7) (u:=O U l2.n) (ac (g:=g6) (i:=6) (u:=sQ l2.P) (ac (g:=g6) (i:=5) (u:=sQ l2.D) (World.grownBy.refl W9 (some g6))))
  have hTB:=aj hTA Q6 eN gr9
  have hOB:=aj hOA Q6 eQ gr9
  have R2:ai (((W9.setCell ⟨g6,5,none⟩ (sQ l2.D)).setCell ⟨g6,6,none⟩ (sQ l2.P)).setCell ⟨g6,7,none⟩ (O U l2.n)) (w.heap.size+1) 42 [F none 0 0,F none 0 0,O U 0,O U 0,O U 0,sQ ⟨#[]⟩,sQ ⟨#[]⟩,O U 0]:=(((Q2).other (p:=⟨g6,5,none⟩) (by simp only; omega) (sQ l2.D)).other (p:=⟨g6,6,none⟩) (by simp only; omega) (sQ l2.P)).other (p:=⟨g6,7,none⟩) (by simp only; omega) (O U l2.n)
  have R6:ai (((W9.setCell ⟨g6,5,none⟩ (sQ l2.D)).setCell ⟨g6,6,none⟩ (sQ l2.P)).setCell ⟨g6,7,none⟩ (O U l2.n)) g6 42 [F TB y.t.length tb,F OB y.o.length ob,O U y.got,O U y.sold,O U y.missed,sQ l2.D,sQ l2.P,O U l2.n]:=(((Q6).set 5 (sQ l2.D)).set 6 (sQ l2.P)).set 7 (O U l2.n)
  have b11:=(((b10).setCell (p:=⟨g6,5,none⟩) hg6 (sQ l2.D)).setCell (p:=⟨g6,6,none⟩) hg6 (sQ l2.P)).setCell (p:=⟨g6,7,none⟩) hg6 (O U l2.n)
  obtain ⟨z0,z1,z2,z3,z4,z5,z6,z7⟩:=cells8 Q6
  obtain ⟨f0,f1,f2,f3,f4,f5,f6,f7⟩:=frz8 Q6
  clear M1 M2 Q1 Q2 hb9 b9 b10 hTA hOA hT9 hO9 gr9 c0 c1 c2 c3 c4 c5 c6 c7
  go_upto_region 13 with fail
  clear M6 Q6 z0 z1 z2 z3 z4 z5 z6 z7 f0 f1 f2 f3 f4 f5 f6 f7
  generalize (((W9.setCell ⟨g6,5,none⟩ (sQ l2.D)).setCell ⟨g6,6,none⟩ (sQ l2.P)).setCell ⟨g6,7,none⟩ (O U l2.n))=WB at R2 R6 b11 hTB hOB ⊢
  obtain ⟨p0,p1,p2,p3,p4,p5,p6,p7⟩:=cells8 R6
  obtain ⟨z0,z1,z2,z3,z4,z5,z6,z7⟩:=cells8 R2
  obtain ⟨f0,f1,f2,f3,f4,f5,f6,f7⟩:=frz8 R2
  obtain ⟨hTC,hOC⟩:=dL (F TB y.t.length tb) (F OB y.o.length ob) (O U y.got) (O U y.sold) (O U y.missed) (sQ l2.D) (sQ l2.P) (O U l2.n) R2 hTB hOB
  have bz:=Lib.hid (dN (g:=w.heap.size+1) (b11) hge (F TB y.t.length tb) (F OB y.o.length ob) (O U y.got) (O U y.sold) (O U y.missed) (sQ l2.D) (sQ l2.P) (O U l2.n))
  have HTC:=Lib.hid hTC
  have HOC:=Lib.hid hOC
  clear R2 R6 b11 hTB hOB hTC hOC
  go_wp2_with fail
  refine bodyPost_ret (v:=.tuple #[.agg #[F TB y.t.length tb,F OB y.o.length ob,O U y.got,O U y.sold,O U y.missed,sQ l2.D,sQ l2.P,O U l2.n],sQ ⟨#[108,111,110,103]⟩]) (by simp [results,Tryz.results14,go_sem, *]) rfl (bV.mk ET.out EO.out EL.out ⟨TB,tb,OB,ob,rfl,HTC.out,HOC.out⟩ bz.out)
 ·have hlg : ¬ (200:Int) < (T0.size:Int):=by omega
  rw [if_neg hlong] at HRT
  subst HRT
  obtain ⟨c0,c1,c2,c3,c4,c5,c6,c7⟩:=cells8 M1
  go_wp2_with fail
  refine (cA W8).mono ?_
  rintro e W9 ⟨rfl,hb9⟩
  have Q1:=M1.below hb9 M1.lt
  have Q2:=M2.below hb9 M2.lt
  have Q6:=M6.below hb9 M6.lt
  have b10:=b9.trans (hb9.mono b9.size)
  have hTA:=ab hT9 hb9
  have hOA:=ab hO9 hb9
  have gr9:W9.grownBy (((W9.setCell ⟨g6,5,none⟩ (sQ l2.D)).setCell ⟨g6,6,none⟩ (sQ l2.P)).setCell ⟨g6,7,none⟩ (O U l2.n)) (some g6):=ac (g:=g6) (i:=7) (u:=O U l2.n) (ac (g:=g6) (i:=6) (u:=sQ l2.P) (ac (g:=g6) (i:=5) (u:=sQ l2.D) (World.grownBy.refl W9 (some g6))))
  have hTB:=aj hTA Q6 eN gr9
  have hOB:=aj hOA Q6 eQ gr9
  have R2:ai (((W9.setCell ⟨g6,5,none⟩ (sQ l2.D)).setCell ⟨g6,6,none⟩ (sQ l2.P)).setCell ⟨g6,7,none⟩ (O U l2.n)) (w.heap.size+1) 42 [F none 0 0,F none 0 0,O U 0,O U 0,O U 0,sQ ⟨#[]⟩,sQ ⟨#[]⟩,O U 0]:=(((Q2).other (p:=⟨g6,5,none⟩) (by simp only; omega) (sQ l2.D)).other (p:=⟨g6,6,none⟩) (by simp only; omega) (sQ l2.P)).other (p:=⟨g6,7,none⟩) (by simp only; omega) (O U l2.n)
  have R6:ai (((W9.setCell ⟨g6,5,none⟩ (sQ l2.D)).setCell ⟨g6,6,none⟩ (sQ l2.P)).setCell ⟨g6,7,none⟩ (O U l2.n)) g6 42 [F TB y.t.length tb,F OB y.o.length ob,O U y.got,O U y.sold,O U y.missed,sQ l2.D,sQ l2.P,O U l2.n]:=(((Q6).set 5 (sQ l2.D)).set 6 (sQ l2.P)).set 7 (O U l2.n)
  have b11:=(((b10).setCell (p:=⟨g6,5,none⟩) hg6 (sQ l2.D)).setCell (p:=⟨g6,6,none⟩) hg6 (sQ l2.P)).setCell (p:=⟨g6,7,none⟩) hg6 (O U l2.n)
  obtain ⟨z0,z1,z2,z3,z4,z5,z6,z7⟩:=cells8 Q6
  obtain ⟨f0,f1,f2,f3,f4,f5,f6,f7⟩:=frz8 Q6
  clear M1 M2 Q1 Q2 hb9 b9 b10 hTA hOA hT9 hO9 gr9 c0 c1 c2 c3 c4 c5 c6 c7
  go_upto_region 13 with fail
  clear M6 Q6 z0 z1 z2 z3 z4 z5 z6 z7 f0 f1 f2 f3 f4 f5 f6 f7
  generalize (((W9.setCell ⟨g6,5,none⟩ (sQ l2.D)).setCell ⟨g6,6,none⟩ (sQ l2.P)).setCell ⟨g6,7,none⟩ (O U l2.n))=WB at R2 R6 b11 hTB hOB ⊢
  obtain ⟨p0,p1,p2,p3,p4,p5,p6,p7⟩:=cells8 R6
  obtain ⟨z0,z1,z2,z3,z4,z5,z6,z7⟩:=cells8 R2
  obtain ⟨f0,f1,f2,f3,f4,f5,f6,f7⟩:=frz8 R2
  obtain ⟨hTC,hOC⟩:=dL (F TB y.t.length tb) (F OB y.o.length ob) (O U y.got) (O U y.sold) (O U y.missed) (sQ l2.D) (sQ l2.P) (O U l2.n) R2 hTB hOB
  have bz:=Lib.hid (dN (g:=w.heap.size+1) (b11) hge (F TB y.t.length tb) (F OB y.o.length ob) (O U y.got) (O U y.sold) (O U y.missed) (sQ l2.D) (sQ l2.P) (O U l2.n))
  have HTC:=Lib.hid hTC
  have HOC:=Lib.hid hOC
  clear R2 R6 b11 hTB hOB hTC hOC
  go_wp2_with fail
  refine bodyPost_ret (v:=.tuple #[.agg #[F TB y.t.length tb,F OB y.o.length ob,O U y.got,O U y.sold,O U y.missed,sQ l2.D,sQ l2.P,O U l2.n],sQ rep]) (by simp [results,Tryz.results14,go_sem, *]) rfl (bV.mk ET.out EO.out EL.out ⟨TB,tb,OB,ob,rfl,HTC.out,HOC.out⟩ bz.out)
theorem pT (x:aM) (l:Lg) (line:ByteArray) (w:World) (h:aQ w w.heap.size x) (tl:x.t.length≤1048576) (ol:x.o.length≤1048576) (hs:l.D.size+l.P.size≤2000000) (hsl:line.size≤1048576) :
  Calls Tryz.prog 14 #[aL x l,sQ line] w (bV w x l line):=by
 cases hok:dD x l
 ·exact re x l line w h tl ol hs hsl hok
 ·cases hrk:da.ok ⟨line,⟨#[]⟩⟩
  ·exact pR x l line w h tl ol hs hsl hok hrk
  ·by_cases hn:l.n=60
   ·exact oQ x l line w h tl ol hs hsl hok hrk hn
   ·exact pS x l line w h tl ol hs hsl hok hrk hn
end Go.Proofs.YtoeoimhemojdeaaGreatDoor
namespace Go.Proofs
open Go.Shelf
def Tryz.lays156_ren:Go.Shelf.Ren:=⟨fun | 156=>211 | 165=>230 | 166=>231 | 169=>232 | 240=>243 | 241=>244 | 276=>248 | 277=>249 | n=>n,fun | 31=>49 | 9=>9 | 3=>3 | 4=>4 | 0=>0 | 20=>20 | 72=>232 | 76=>174 | 70=>230 | 37=>54 | 75=>173 | 127=>245 | 164=>252 | 5=>5 | 80=>234 | n=>n,fun | n=>n⟩
theorem Tryz.lays156:Go.Proofs.Lays.n156 Tryz.prog Tryz.lays156_ren:={
 mixed:=by kernel_rfl
 f156:=Tryz.func211.trans (congrArg some (by kernel_rfl))
 f165:=Tryz.func230.trans (congrArg some (by kernel_rfl))
 f166:=Tryz.func231.trans (congrArg some (by kernel_rfl))
 f169:=Tryz.func232.trans (congrArg some (by kernel_rfl))
 f240:=Tryz.func243.trans (congrArg some (by kernel_rfl))
 f241:=Tryz.func244.trans (congrArg some (by kernel_rfl))
 f276:=Tryz.func248.trans (congrArg some (by kernel_rfl))
 f277:=Tryz.func249.trans (congrArg some (by kernel_rfl))
 t0:=Tryz.underlying0
 a0:=Tryz.isAgg0
 z0:=Tryz.sizeOf0
 v0:=Tryz.zeroValue0
 t3:=Tryz.underlying3
 a3:=Tryz.isAgg3
 z3:=Tryz.sizeOf3
 v3:=Tryz.zeroValue3
 t4:=Tryz.underlying4
 a4:=Tryz.isAgg4
 z4:=Tryz.sizeOf4
 v4:=Tryz.zeroValue4
 t9:=Tryz.underlying9
 a9:=Tryz.isAgg9
 z9:=Tryz.sizeOf9
 v9:=Tryz.zeroValue9
 t20:=Tryz.underlying20
 a20:=Tryz.isAgg20
 z20:=Tryz.sizeOf20
 v20:=Tryz.zeroValue20
 t31:=Tryz.underlying49
 a31:=Tryz.isAgg49
 z31:=Tryz.sizeOf49
 v31:=Tryz.zeroValue49
 t37:=Tryz.underlying54
 a37:=Tryz.isAgg54
 z37:=Tryz.sizeOf54
 v37:=Tryz.zeroValue54
 t70:=Tryz.underlying230
 a70:=Tryz.isAgg230
 z70:=Tryz.sizeOf230
 v70:=Tryz.zeroValue230
 t72:=Tryz.underlying232
 a72:=Tryz.isAgg232
 z72:=Tryz.sizeOf232
 v72:=Tryz.zeroValue232
 t75:=Tryz.underlying173
 a75:=Tryz.isAgg173
 z75:=Tryz.sizeOf173
 v75:=Tryz.zeroValue173
 t76:=Tryz.underlying174
 a76:=Tryz.isAgg174
 z76:=Tryz.sizeOf174
 v76:=Tryz.zeroValue174
 t127:=Tryz.underlying245
 a127:=Tryz.isAgg245
 z127:=Tryz.sizeOf245
 v127:=Tryz.zeroValue245
 t164:=Tryz.underlying252
 a164:=Tryz.isAgg252
 z164:=Tryz.sizeOf252
 v164:=Tryz.zeroValue252 }
theorem Tryz.Builder_Extra_156:Builder.Extra Tryz.prog Tryz.lays156_ren:={
 sizeBuilder:=by kernel_rfl
 liesBuilder:=by kernel_rfl
 t5:=Tryz.underlying5
 a5:=Tryz.isAgg5
 z5:=Tryz.sizeOf5
 v5:=Tryz.zeroValue5
 infoByte:=by kernel_rfl
 cellsByte:=by kernel_rfl
 sizeByte:=by kernel_rfl
 neB5:=by decide }
open Go.RowKit in
theorem Tryz.strings_Join_none (a:Option Addr) (c:Nat) (sep:ByteArray) (w:World) :
  Calls Tryz.prog 211 #[F a 0 c,sQ sep] w fun e w'=>e=.returned (sQ ⟨#[]⟩)∧w'=w:=Any.strings_Join_none Tryz.lays156 Tryz.Builder_Extra_156 a c sep w
open Go.RowKit in
theorem Tryz.strings_Join (bk o c:Nat) (xs:List ByteArray) (sep:ByteArray) (w:World) (hcells:∀ (j:Nat) x,xs[j]?=some x→w.cell? ⟨bk,o+j,none⟩=some (sQ x)) (hbk:bk < w.heap.size) (hN:xs.length≤140737488355328) (hcap:xs.length≤c) (hlen:(Lib.join (xs.map (·.data.toList)) sep.data.toList).length≤140737488355328) :
  Calls Tryz.prog 211 #[F (some ⟨bk,o,none⟩) xs.length c,sQ sep] w fun e w'=>e=.returned (sQ ⟨(Lib.join (xs.map (·.data.toList)) sep.data.toList).toArray⟩)∧Below w.heap.size w w':=Any.strings_Join Tryz.lays156 Tryz.Builder_Extra_156 bk o c xs sep w hcells hbk hN hcap hlen
end Go.Proofs
namespace Go.Proofs.YtoeoimhemojdeaaGreatDoor
open Go.RowKit
def nB (l:List (List UInt8)):List Value:=l.map fun b=>sQ ⟨b.toArray⟩
theorem rf (l:List (List UInt8)) (b:List UInt8):nB (l++[b])=nB l++[sQ ⟨b.toArray⟩]:=by simp [nB]
theorem pU:(Tryz.prog.info? 9).map (fun i=>(i.zero,i.size,i.bytes))=some (some (sQ ⟨#[]⟩),1,16):=by kernel_rfl
theorem rg {α:Type} {l:List α} {k:Nat} (h:k < l.length):l.take (k+1)=l.take k++[l[k]]:=by simp
theorem nC {w w' : World} {B:Nat} {e:TypeId} {k:Nat} {v:Value} {n:Nat} {xs:List Value} (h:w.ownsRow B e k v n xs) (hb:Below w.heap.size w w'):w'.ownsRow B e k v n xs:=by
 unfold World.ownsRow at *
 obtain ⟨hl,h | ⟨g,cap,cells,hv,hB,hg,r⟩⟩:=h
 ·exact ⟨hl,Or.inl h⟩
 ·exact ⟨hl,Or.inr ⟨g,cap,cells,hv,hB,(hb.block g (ai.lt (cs:=cells.toList) hg)).trans hg,r⟩⟩
theorem rY (l:List (List UInt8)) (A:Option Addr) (c B:Nat) (sep:ByteArray) (w:World) (h:w.ownsRow B 9 1 (F A l.length c) l.length (nB l))
  (hn:l.length≤1000000) (hlen:(Lib.join l (bl sep)).length≤1000000000) :
  Calls Tryz.prog 211 #[F A l.length c,sQ sep] w fun e w'=>e=.returned (sQ ⟨(Lib.join l (bl sep)).toArray⟩)∧Below w.heap.size w w':=by
 obtain ⟨hl,⟨h0,h1⟩ | ⟨g,cap,cells,hv,hB,hg,h5,h6,h7,h8⟩⟩:=h
 ·have hl0:l = []:=List.eq_nil_of_length_eq_zero (by omega)
  subst hl0
  exact (Tryz.strings_Join_none A c sep w).mono fun e w' ⟨he,hw⟩=>⟨he,hw ▸ Below.refl _ _⟩
 ·injection hv with hA hn' hc
  subst hA; subst hc
  have hx:(l.map fun b=>(⟨b.toArray⟩ : ByteArray)).length=l.length:=by simp
  have hm:(l.map fun b=>(⟨b.toArray⟩ : ByteArray)).map (·.data.toList)=l:=by simp [List.map_map,Function.comp_def]
  have hJ:=Tryz.strings_Join g 0 c (l.map fun b=>(⟨b.toArray⟩ : ByteArray)) sep w (fun j x hj=>by
   have hjl:j < l.length:=by have:=(List.getElem?_eq_some_iff.1 hj).1; simpa using this
   have hq:(nB l)[j]?=some (sQ x):=by
    rw [nB,List.getElem?_map]; rw [List.getElem?_map] at hj
    rw [List.getElem?_eq_getElem hjl] at hj ⊢
    simpa using hj
   rw [← h8,List.getElem?_take_of_lt (by omega)] at hq
   rw [Nat.zero_add,(ai.cell (cs:=cells.toList) hg j)]
   exact hq) (ai.lt (cs:=cells.toList) hg) (by rw [hx]; omega) (by rw [hx]; exact h5) (by rw [hm]; have:=hlen; unfold bl at this; omega)
  rw [hm,hx] at hJ
  exact hJ
theorem li (sep:List UInt8) (m:Nat):∀ l:List (List UInt8),(∀ x ∈ l,x.length≤m)→(Lib.joinTail sep l).length≤l.length * (sep.length+m)
 | [],_=>by simp [Lib.joinTail]
 | x :: l,h=>by
  have h1:=li sep m l fun y hy=>h y (List.mem_cons_of_mem _ hy)
  have h2:=h x List.mem_cons_self
  have e:Lib.joinTail sep (x :: l)=sep++x++Lib.joinTail sep l:=by simp [Lib.joinTail]
  rw [e,List.length_append,List.length_append,List.length_cons,Nat.succ_mul]; omega
theorem sm (sep:List UInt8) (m:Nat) (l:List (List UInt8)) (h:∀ x ∈ l,x.length≤m):(Lib.join l sep).length≤l.length * (sep.length+m):=by
 cases l with
 | nil=>simp [Lib.join_nil]
 | cons x l =>
  have h1:=li sep m l fun y hy=>h y (List.mem_cons_of_mem _ hy)
  have h2:=h x List.mem_cons_self
  rw [Lib.join_cons,List.length_append,List.length_cons,Nat.succ_mul]; omega
theorem rh {n:Int} (h0:0≤n) (h1:n≤1000000000):(Lib.itoa n).length≤100:=by
 have h3:(⟨(Lib.itoa n).toArray⟩ : ByteArray).size≤100:=cr h0 h1
 rw [← bM (Lib.itoa n),ap]; exact h3
set_option maxHeartbeats 2000000 in
theorem mD (A:Option Addr) (c:Nat) (l:List Int) (sep:ByteArray) (w:World) (h:jf w w.heap.size A l) (hl9:l.length≤9)
  (hr:∀ i (hi:i < l.length),0≤l[i]∧l[i]≤1000000) (hs:sep.size≤10) (ht:hU w) :
  Calls Tryz.prog 184 #[F A l.length c,sQ sep] w fun e w'=>e=.returned (sQ ⟨(Lib.join (l.map Lib.itoa) (bl sep)).toArray⟩)∧Below w.heap.size w w':=by
 have hl:=h.big
 have hrd:=jf.ints h
 have hjl:(Lib.join (l.map Lib.itoa) (bl sep)).length≤1000000000:=by
  have h1:=sm (bl sep) 100 (l.map Lib.itoa) fun x hx=>by
   obtain ⟨n,hn,rfl⟩:=List.mem_map.1 hx
   obtain ⟨i,hi,rfl⟩:=List.getElem_of_mem hn
   exact rh (by have:=hr i hi; omega) (by have:=hr i hi; omega)
  rw [ap,List.length_map] at h1
  have h2:l.length * (sep.size+100)≤9 * 110:=Nat.mul_le_mul hl9 (by omega)
  omega
 replace hr:=Lib.hid hr
 go_enter Tryz.func184,Tryz.ntmps184
 go_wp2_with fail
 go_loopw [5,10] (fun out i wr=>∃ (k:Nat),k≤l.length∧i=O U k∧Hid (wr.ownsRow w.heap.size 9 1 out k (nB ((l.take k).map Lib.itoa)))∧(Below w.heap.size w wr)) (fun _ i _=>l.length - (intOf i).toNat)
 case atStart=>exact ⟨0,Nat.zero_le _,rfl,(World.ownsRow_nil _ _ _ _),Below.refl _ _⟩
 case round =>
  obtain ⟨k,hk,rfl,HO,hbr⟩:=hrel
  obtain ⟨q,rfl⟩ : ∃ q:ao w.heap.size w,wr=q.val:=⟨⟨wr,hbr⟩,rfl⟩
  by_cases hlt:k < l.length
  ·obtain ⟨b,off,rfl,hb,hcell⟩:=hrd (by omega)
   have c0:=hcell k hlt
   obtain ⟨f1,f2⟩:=hr.out k hlt
   have HT:=Lib.hid (rg hlt)
   obtain ⟨f,hfe⟩ : ∃ f,f=l[k]:=⟨_,rfl⟩
   rw [← hfe] at c0 f1 f2 HT
   clear hfe hcell hrd
   obtain ⟨fv,hfv⟩ : ∃ s:ByteArray,s=⟨(Lib.itoa f).toArray⟩:=⟨_,rfl⟩
   have HQ:=ht.at q
   have NUMF:∀ W:World,hU W→Calls Tryz.prog 69 #[O U f] W fun e w'=>e=.returned (sQ fv)∧Below W.heap.size W w':=by
    intro W hW; rw [hfv]; exact cu _ _ (by omega) (by omega) hW
   replace NUMF:=Lib.hid NUMF
   have HFV:=Lib.hid hfv; clear hfv
   go_wp2_with (first
    | (go_at_call 69; refine (NUMF.out _ HQ).mono ?_; rintro e w4 ⟨rfl,hb4⟩; have hb5:Below w.heap.size w w4:=hbr.trans (hb4.mono hbr.size); have HO4:=Lib.hid (nC HO.out hb4); have hs4:=hb5.size)
    | (at_builtin; refine bU (w0:=w4) rfl _ _ 49 rfl 9 (sQ ⟨#[]⟩) 1 16 Tryz.underlying49 pU rfl (by decide) (by omega) w.heap.size _ _ _ rfl HO4 #[sQ fv] 1 _ rfl (by first | rfl | exact Array.size_push _) rfl (by simp [Value.oneCell']) (by omega) hs4 rfl rfl rfl rfl ?_; intro v' w6 HO6 hg6 hb6))
   obtain ⟨A3,c3,rfl⟩:=aw HO6.out
   go_wp2
   go_roundw
   case rel=>exact ⟨k+1,by omega,by go_num,by rw [HT.out,List.map_append,List.map_cons,List.map_nil,rf,← HFV.out]; exact HO6,hb5.trans hb6⟩
   case measure=>simp [intOf]; omega
  ·have ek:k=l.length:=by omega
   subst ek
   rw [List.take_length] at HO
   obtain ⟨A3,c3,rfl⟩:=aw HO.out
   clear hrd
   have HJ:=Lib.hid (rY (l.map Lib.itoa) A3 c3 w.heap.size sep)
   rw [List.length_map] at HJ
   go_wp2_with (go_at_call 211; refine (HJ.out _ HO.out (by omega) hjl).mono ?_; rintro e w7 ⟨rfl,hb7⟩)
   go_ret
   exact ⟨rfl,hbr.trans (hb7.mono hbr.size)⟩
theorem nD (o:ae) (gk:Nat) (kd:Int) (w:World) (hk:gk < w.heap.size) (hc:w.cell? ⟨gk,0,none⟩=some (O U kd)) :
  Calls Tryz.prog 183 (#[o.val]++#[.pointer (some ⟨gk,0,none⟩)]) w fun e w'=>e=.returned (.bool (decide (o.p=kd)))∧Below w.heap.size w w':=by
 show Calls Tryz.prog 183 #[o.val,.pointer (some ⟨gk,0,none⟩)] w _
 have hc' : (w.alloc (.cells #[O U o.k,O U o.p,O U o.c] 147)).cell? ⟨gk,0,none⟩=some (O U kd):=((Below.refl w.heap.size w).alloc (Nat.le_refl _) _).cell hk |>.trans hc
 obtain ⟨v,hv⟩ : ∃ v,(o.p == kd)=v:=⟨_,rfl⟩
 have HV:Hid (decide (o.p=kd)=v):=by rw [← hv]; unfold Hid; rw [Bool.eq_iff_iff]; simp
 cases v
 all_goals
  go_enter Tryz.func183,Tryz.ntmps183
  go_wp2
  go_ret
  exact ⟨by rw [HV.out]; rfl,(Below.refl _ _).alloc (Nat.le_refl _) _⟩
def gp (pp:Value) (w:World):Nat :=
 match pp with
 | .pointer (some a)=>(match w.cell? a with | some (.int _ p)=>(1000 - p).toNat | _=>0)
 | _=>0
theorem lj {w:World} {g:Nat} {t:TypeId} {p:Int} (h:ai w g t [O U p]):gp (.pointer (some ⟨g,0,none⟩)) w=(1000 - p).toNat:=by
 unfold gp
 simp only [h.cell 0,List.getElem?_cons_zero]
set_option maxRecDepth 20000 in
set_option maxHeartbeats 2000000 in
theorem iC (x:aM) (w:World) (h:aQ w w.heap.size x) :
  Calls Tryz.prog 152 #[x.val] w fun e w'=>e=.returned (.tuple #[O U (cJ x),.bool (ch x)])∧Below w.heap.size w w':=by
 have hmf:∀ (fn:Fn) (first cap:Array Value) (w:World),(Instr.makeFunc fn first cap).run Tryz.prog w=.ok (.func fn first cap) w:=fun _ _ _ _=>rfl
 have b1:=(Below.refl w.heap.size w).alloc (Nat.le_refl _) (.cells #[F x.TA x.t.length x.tc,F x.OA x.o.length x.oc,O U x.got,O U x.sold,O U x.missed] 40)
 have hA:=fY h 40
 have cG:=fun W hW=>aX x w.heap.size W hW
 cases hg:am x
 ·have HF:Hid (cJ x=0∧ch x=false):=by unfold cJ ch; rw [hg]; exact ⟨rfl,rfl⟩
  rw [hg] at cG
  clear hg
  go_enter Tryz.func152,Tryz.ntmps152
  go_wp2_with fail
  generalize w.alloc (.cells #[F x.TA x.t.length x.tc,F x.OA x.o.length x.oc,O U x.got,O U x.sold,O U x.missed] 40)=W at b1 hA ⊢
  refine (cG _ hA).mono ?_
  rintro e w1 ⟨rfl,hb⟩
  go_wp2
  go_ret2
  exact ⟨by rw [HF.out.1,HF.out.2]; rfl,ar b1 hb⟩
 ·have G:=bm.1 hg
  have ol:=G.ol
  have HOLL:=Lib.hid G.oall
  have HGD:Hid (am x=true):=hg
  have hc1:∀ r ∈ x.o,1≤r.c:=fun r hr=>by
   obtain ⟨i,hi,rfl⟩:=List.getElem_of_mem hr
   exact (ae.bounds (G.oall i hi)).2.2.1
  have hp1:∀ r ∈ x.o,1≤r.p∧r.p≤999:=fun r hr=>by
   obtain ⟨i,hi,rfl⟩:=List.getElem_of_mem hr
   exact (ae.bounds (G.oall i hi)).2.1
  have HSM:=Lib.hid (qN x.o hc1 hp1)
  rw [hg] at cG
  clear hg G hc1 hp1
  by_cases hlen:0 < x.o.length
  ·have HF:Hid (cJ x=(cH x.o x.o (0,0)).1∧ch x=true):=by
    have:ch x=true:=by unfold ch; rw [HGD.out,decide_eq_true hlen]; rfl
    unfold cJ; rw [this]; exact ⟨rfl,rfl⟩
   have hne:((x.o.length:Int) == 0)=false:=by rw [beq_eq_false_iff_ne]; omega
   go_enter Tryz.func152,Tryz.ntmps152
   go_wp2_with fail
   generalize w.alloc (.cells #[F x.TA x.t.length x.tc,F x.OA x.o.length x.oc,O U x.got,O U x.sold,O U x.missed] 40)=W at b1 hA ⊢
   obtain ⟨s0,s1,s2,s3,s4⟩:=hA.s
   refine (aU (cG _ hA)).mono ?_
   rintro e w1 ⟨rfl,q1,rfl⟩
   have hL0:=ai.new q1.val 3 #[O U 1]
   have hB0:=q1.below.alloc q1.size (.cells #[O U 1] 3)
   have hs0:=q1.size
   go_wp2
   go_loopw [4,5,6] (fun bb mm pp wr=>∃ (k g:Nat) (p:Int) (b:Int × Int),(k:Int)+p=1000∧1≤p∧pp=.pointer (some ⟨g,0,none⟩)∧bb=O U b.1∧mm=O U b.2∧W.heap.size≤g∧Hid (ai wr g 3 [O U p])∧Below W.heap.size W wr∧Hid (f9 x.o k p b=cH x.o x.o (0,0))) (fun _ _ pp wr=>gp pp wr)
   case atStart=>exact ⟨999,q1.val.heap.size,1,(0,0),by omega,by omega,rfl,rfl,rfl,hs0,hL0,hB0,HSM.out⟩
   case round =>
    obtain ⟨k,g,p,⟨b1',b2'⟩,hkp,hp1,rfl,rfl,rfl,hg,HL,hbr,HR⟩:=hrel
    have c0:wr.cell? ⟨g,0,none⟩=some (O U p):=HL.out.cell 0
    cases k with
    | zero =>
     have hp:p=1000:=by omega
     subst hp
     have HE:Hid ((b1',b2')=cH x.o x.o (0,0)):=HR.out
     go_wp2
     go_ret2
     exact ⟨by rw [HF.out.1,HF.out.2,← HE.out]; rfl,b1.trans (hbr.mono b1.size)⟩
    | succ k =>
     have hle:p≤999:=by omega
     have hk1:(k:Int)+p≤999:=by omega
     have hk2:999≤(k:Int)+p:=by omega
     clear hkp
     have HS:Hid (f9 x.o (k+1) p (b1',b2')=f9 x.o k (p+1) (if b2' < iy x.o p then (p,iy x.o p) else (b1',b2'))):=rfl
     have hlt:=HL.out.lt
     have HM:=lj HL.out
     go_wp2_with fail
     refine (eB (fun o=>decide (o.p=p)) 183 #[.pointer (some ⟨g,0,none⟩)] Tryz.call183 x w.heap.size wr (fun o q=>nD o g p q.val (Nat.lt_of_lt_of_le hlt q.size) ((q.cell hlt).trans c0)) (hA.at ⟨wr,hbr⟩) ol HOLL.out).mono ?_
     rintro e w2 ⟨rfl,hb2⟩
     have c1:w2.cell? ⟨g,0,none⟩=some (O U p):=(hb2.cell hlt).trans c0
     have hB2:=hbr.trans (hb2.mono hbr.size)
     have hL3:=ai.new w2 3 #[O U (p+1)]
     have hB3:=hB2.alloc hB2.size (.cells #[O U (p+1)] 3)
     have hs3:=hB2.size
     have hVe:aS (fun o=>decide (o.p=p)) x.o=iy x.o p:=rfl
     rw [hVe]
     clear hVe
     obtain ⟨V,hV⟩ : ∃ V,iy x.o p=V:=⟨_,rfl⟩
     rw [hV] at HS
     rw [hV]
     clear hV c0
     have HM3:=Lib.hid (lj hL3)
     have HML:=Lib.hid HM; clear HM
     by_cases hlt2:b2' < V
     ·rw [if_pos hlt2] at HS
      go_wp2
      go_roundw
      case rel=>exact ⟨k,w2.heap.size,p+1,(p,V),by omega,by omega,rfl,rfl,rfl,hs3,hL3,hB3,by have h1:=HR.out; rw [HS.out] at h1; exact h1⟩
      case measure=>show gp _ _ < gp _ _; rw [HML.out,HM3.out]; omega
     ·rw [if_neg hlt2] at HS
      have hv:V≤b2':=by omega
      clear hlt2
      go_wp2
      go_roundw
      case rel=>exact ⟨k,w2.heap.size,p+1,(b1',b2'),by omega,by omega,rfl,rfl,rfl,hs3,hL3,hB3,by have h1:=HR.out; rw [HS.out] at h1; exact h1⟩
      case measure=>show gp _ _ < gp _ _; rw [HML.out,HM3.out]; omega
  ·have HF:Hid (cJ x=0∧ch x=false):=by
    have:ch x=false:=by unfold ch; rw [decide_eq_false hlen,Bool.and_false]
    unfold cJ; rw [this]; exact ⟨rfl,rfl⟩
   have hne:((x.o.length:Int) == 0)=true:=by rw [beq_iff_eq]; omega
   go_enter Tryz.func152,Tryz.ntmps152
   go_wp2_with fail
   generalize w.alloc (.cells #[F x.TA x.t.length x.tc,F x.OA x.o.length x.oc,O U x.got,O U x.sold,O U x.missed] 40)=W at b1 hA ⊢
   obtain ⟨s0,s1,s2,s3,s4⟩:=hA.s
   refine (aU (cG _ hA)).mono ?_
   rintro e w1 ⟨rfl,q1,rfl⟩
   go_wp2
   go_ret2
   exact ⟨by rw [HF.out.1,HF.out.2]; rfl,b1.trans (q1.below.mono b1.size)⟩
def de (w:World) (R:Option ByteArray) (e:Ending) (w' : World):Prop :=
 (∃ s,e=.returned (.tuple #[sQ s,.bool R.isSome])∧(∀ r,R=some r→s=r))∧Below w.heap.size w w'
theorem de.yes {w w' : World} {r:ByteArray} (hb:Below w.heap.size w w'):de w (some r) (.returned (.tuple #[sQ r,.bool true])) w':=⟨⟨r,rfl,fun _ h=>by injection h⟩,hb⟩
theorem de.no {w w' : World} {s:ByteArray} (hb:Below w.heap.size w w'):de w none (.returned (.tuple #[sQ s,.bool false])) w':=⟨⟨s,rfl,fun _ h=>by cases h⟩,hb⟩
set_option maxHeartbeats 1000000 in
theorem jY (A:Option Addr) (c:Nat) (l:List Int) (ok:Bool) (w:World) (h:jf w w.heap.size A l) (hl8:l.length≤8) (hr:∀ n ∈ l,0≤n∧n≤1000000) (ht:hU w) :
  Calls Tryz.prog 153 #[F A l.length c,.bool ok] w fun e w'=>e=.returned (.tuple #[sQ (eM l),.bool ok])∧Below w.heap.size w w':=by
 rcases Nat.eq_zero_or_pos l.length with h0 | h0
 ·have HL:Hid (eM l=⟨#[110,111,110,101]⟩):=by unfold Hid eM; rw [if_pos h0]
  have hz:((l.length:Int) == 0)=true:=by rw [h0]; rfl
  go_enter Tryz.func153,Tryz.ntmps153
  go_wp2
  go_ret2
  exact ⟨by rw [HL.out]; rfl,Below.refl _ _⟩
 ·have hz:((l.length:Int) == 0)=false:=beq_false_of_ne (by omega)
  have HL:Hid (eM l=⟨(Lib.join (l.map Lib.itoa) (bl ⟨#[32]⟩)).toArray⟩):=by unfold Hid eM; rw [if_neg (by omega)]; rfl
  have hj:=mD A c l ⟨#[32]⟩ w h (by omega) (fun i hi=>hr _ (List.getElem_mem hi)) (by decide) ht
  obtain ⟨T,hT⟩ : ∃ T:ByteArray,(⟨(Lib.join (l.map Lib.itoa) (bl ⟨#[32]⟩)).toArray⟩ : ByteArray)=T:=⟨_,rfl⟩
  rw [hT] at hj HL
  clear hT
  go_enter Tryz.func153,Tryz.ntmps153
  go_wp2_with fail
  refine hj.mono ?_
  rintro e w1 ⟨rfl,hb⟩
  go_wp2
  go_ret2
  exact ⟨by rw [HL.out]; rfl,hb⟩
theorem ri {x:aM} (G:bn x) (n:Int) (b:Bool):(bh b (aO (fun r:ae=>decide (r.p=n)) ae.k x.o)).length≤8∧∀ m ∈ bh b (aO (fun r:ae=>decide (r.p=n)) ae.k x.o),0≤m∧m≤1000000:=by
 refine ⟨(oL G n b).1,fun m hm=>?_⟩
 cases b
 ·simp [bh] at hm
 ·obtain ⟨r,hr,_,rfl⟩:=eK.1 (show m ∈ aO _ _ _ from hm)
  obtain ⟨j,hj,e⟩:=List.getElem_of_mem hr
  have h1:=dW G.tall (ae.bounds (G.oall j hj)).1
  rw [e] at h1; omega
theorem oS {x:aM} (G:bn x) (n:Int) (b:Bool):(bh b (aO (fun r:ae=>decide (r.k=n)) ae.p x.o)).length≤8∧∀ m ∈ bh b (aO (fun r:ae=>decide (r.k=n)) ae.p x.o),0≤m∧m≤1000000:=by
 refine ⟨(ma G n b).1,fun m hm=>?_⟩
 cases b
 ·simp [bh] at hm
 ·obtain ⟨r,hr,_,rfl⟩:=eK.1 (show m ∈ aO _ _ _ from hm)
  obtain ⟨j,hj,e⟩:=List.getElem_of_mem hr
  have h1:=(ae.bounds (G.oall j hj)).2.1
  rw [e] at h1; omega
theorem nE (o:ae) (w:World):Calls Tryz.prog 151 (#[o.val]++#[]) w fun e w'=>e=.returned (.bool (ci o))∧Below w.heap.size w w':=by
 go_enter Tryz.func151,Tryz.ntmps151
 go_wp2
 go_ret
 refine ⟨rfl, ?_⟩
 go_grown
set_option maxRecDepth 100000 in
set_option maxHeartbeats 4000000 in
theorem mU (x:aM) (l:Lg) (s:ByteArray) (g:Nat) (w:World) (hL:ai w g 42 [F x.TA x.t.length x.tc,F x.OA x.o.length x.oc,O U x.got,O U x.sold,O U x.missed,sQ l.D,sQ l.P,O U l.n]) (h:aQ w w.heap.size x) (G:bn x) (ht:hU w) :
  Calls Tryz.prog 97 #[.pointer (some ⟨g,0,none⟩),sQ s] w (de w (cy x s)):=by
 have hat:bT w w.heap.size g x:=ju hL h
 have hgd:am x=true:=bm.2 G
 by_cases h0:s=⟨#[105,110]⟩
 ·subst h0
  have HV:cy x ⟨#[105,110]⟩=some (bu (bW x.t)):=by unfold cy; rw [if_pos rfl]
  rw [HV]
  clear HV
  have bd:=G.inB
  have hn:=fun W hW=>cu (bW x.t) W (by omega) (by omega) hW
  obtain ⟨T,hT⟩ : ∃ T:ByteArray,(⟨(Lib.itoa (bW x.t)).toArray⟩ : ByteArray)=T:=⟨_,rfl⟩
  rw [show bu (bW x.t)=T from hT]
  rw [hT] at hn
  clear hT bd
  have hc:=ik x g w hat G.tl G.tall
  go_enter Tryz.func97,Tryz.ntmps97
  go_wp2_with fail
  refine hc.mono ?_
  rintro e w1 ⟨rfl,hb1⟩
  go_wp2_with fail
  refine (hn _ (ht.then hb1)).mono ?_
  rintro e w2 ⟨rfl,hb2⟩
  go_wp2
  go_ret2
  exact de.yes (ar hb1 hb2)
 have f0:(s.toList == [105,110])=false:=bC h0
 by_cases h1:s=⟨#[111,117,116]⟩
 ·subst h1
  have HV:cy x ⟨#[111,117,116]⟩=some (bu (aS ci x.o)):=by unfold cy; rw [if_neg (by decide),if_pos rfl]
  rw [HV]
  clear HV
  have bd:=G.outB ci
  have hn:=fun W hW=>cu (aS ci x.o) W (by omega) (by omega) hW
  obtain ⟨T,hT⟩ : ∃ T:ByteArray,(⟨(Lib.itoa (aS ci x.o)).toArray⟩ : ByteArray)=T:=⟨_,rfl⟩
  rw [show bu (aS ci x.o)=T from hT]
  rw [hT] at hn
  clear hT bd
  have eg:∀ args w,(callFunc 151 args).run Tryz.prog w=.ok (.enter 151 args) w:=Tryz.call151
  have hc:=eB ci 151 #[] eg x g w (fun o p=>nE o p.val) hat G.ol G.oall
  go_enter Tryz.func97,Tryz.ntmps97
  go_wp2_with fail
  refine hc.mono ?_
  rintro e w1 ⟨rfl,hb1⟩
  go_wp2_with fail
  refine (hn _ (ht.then hb1)).mono ?_
  rintro e w2 ⟨rfl,hb2⟩
  go_wp2
  go_ret2
  exact de.yes (ar hb1 hb2)
 have f1:(s.toList == [111,117,116])=false:=bC h1
 by_cases h2:s=⟨#[103,111,116]⟩
 ·subst h2
  have HV:cy x ⟨#[103,111,116]⟩=some (bu (x.got)):=by unfold cy; rw [if_neg (by decide),if_neg (by decide),if_pos rfl]
  rw [HV]
  clear HV
  have bd:=G.g
  have hn:=fun W hW=>cu (x.got) W (by omega) (by omega) hW
  obtain ⟨T,hT⟩ : ∃ T:ByteArray,(⟨(Lib.itoa (x.got)).toArray⟩ : ByteArray)=T:=⟨_,rfl⟩
  rw [show bu (x.got)=T from hT]
  rw [hT] at hn
  clear hT bd
  obtain ⟨c0,c1,c2,c3,c4⟩:=cells5 hL
  go_enter Tryz.func97,Tryz.ntmps97
  go_wp2_with fail
  refine (hn _ ht).mono ?_
  rintro e w2 ⟨rfl,hb2⟩
  go_wp2
  go_ret2
  exact de.yes hb2
 have f2:(s.toList == [103,111,116])=false:=bC h2
 by_cases h3:s=⟨#[115,111,108,100]⟩
 ·subst h3
  have HV:cy x ⟨#[115,111,108,100]⟩=some (bu (x.sold)):=by unfold cy; rw [if_neg (by decide),if_neg (by decide),if_neg (by decide),if_pos rfl]
  rw [HV]
  clear HV
  have bd:=G.s
  have hn:=fun W hW=>cu (x.sold) W (by omega) (by omega) hW
  obtain ⟨T,hT⟩ : ∃ T:ByteArray,(⟨(Lib.itoa (x.sold)).toArray⟩ : ByteArray)=T:=⟨_,rfl⟩
  rw [show bu (x.sold)=T from hT]
  rw [hT] at hn
  clear hT bd
  obtain ⟨c0,c1,c2,c3,c4⟩:=cells5 hL
  go_enter Tryz.func97,Tryz.ntmps97
  go_wp2_with fail
  refine (hn _ ht).mono ?_
  rintro e w2 ⟨rfl,hb2⟩
  go_wp2
  go_ret2
  exact de.yes hb2
 have f3:(s.toList == [115,111,108,100])=false:=bC h3
 by_cases h4:s=⟨#[109,105,115,115,101,100]⟩
 ·subst h4
  have HV:cy x ⟨#[109,105,115,115,101,100]⟩=some (bu (x.missed)):=by unfold cy; rw [if_neg (by decide),if_neg (by decide),if_neg (by decide),if_neg (by decide),if_pos rfl]
  rw [HV]
  clear HV
  have bd:=G.m
  have hn:=fun W hW=>cu (x.missed) W (by omega) (by omega) hW
  obtain ⟨T,hT⟩ : ∃ T:ByteArray,(⟨(Lib.itoa (x.missed)).toArray⟩ : ByteArray)=T:=⟨_,rfl⟩
  rw [show bu (x.missed)=T from hT]
  rw [hT] at hn
  clear hT bd
  obtain ⟨c0,c1,c2,c3,c4⟩:=cells5 hL
  go_enter Tryz.func97,Tryz.ntmps97
  go_wp2_with fail
  refine (hn _ ht).mono ?_
  rintro e w2 ⟨rfl,hb2⟩
  go_wp2
  go_ret2
  exact de.yes hb2
 have f4:(s.toList == [109,105,115,115,101,100])=false:=bC h4
 by_cases h5:s=⟨#[98,117,115,105,101,115,116]⟩
 ·subst h5
  have HV:cy x ⟨#[98,117,115,105,101,115,116]⟩=if ch x then some (bu (cJ x)) else none:=by unfold cy; rw [if_neg (by decide),if_neg (by decide),if_neg (by decide),if_neg (by decide),if_neg (by decide),if_pos rfl]
  rw [HV]
  clear HV
  have hc:=iC x w h
  have bd:=rS (x:=x)
  have hn:=fun W hW=>cu (cJ x) W (by omega) (by omega) hW
  obtain ⟨T,hT⟩ : ∃ T:ByteArray,(⟨(Lib.itoa (cJ x)).toArray⟩ : ByteArray)=T:=⟨_,rfl⟩
  rw [show bu (cJ x)=T from hT]
  rw [hT] at hn
  clear hT
  obtain ⟨v,hv⟩ : ∃ v,cJ x=v:=⟨_,rfl⟩
  rw [hv] at hc hn
  clear hv bd
  obtain ⟨b,hb⟩ : ∃ b,ch x=b:=⟨_,rfl⟩
  rw [hb] at hc ⊢
  clear hb
  obtain ⟨c0,c1,c2,c3,c4⟩:=cells5 hL
  cases b
  all_goals
   go_enter Tryz.func97,Tryz.ntmps97
   go_wp2_with fail
   refine hc.mono ?_
   rintro e w1 ⟨rfl,hb1⟩
   go_wp2_with fail
   refine (hn _ (ht.then hb1)).mono ?_
   rintro e w2 ⟨rfl,hb2⟩
   go_wp2
   go_ret2
   first
    | exact de.yes (ar hb1 hb2)
    | exact de.no (ar hb1 hb2)
 have f5:(s.toList == [98,117,115,105,101,115,116])=false:=bC h5
 have HV:cy x s=none:=by unfold cy; rw [if_neg h0,if_neg h1,if_neg h2,if_neg h3,if_neg h4,if_neg h5]
 rw [HV]
 clear h0 h1 h2 h3 h4 h5 HV
 have hn:=fun W hW=>cu 0 W (by omega) (by omega) hW
 obtain ⟨T,hT⟩ : ∃ T:ByteArray,(⟨(Lib.itoa 0).toArray⟩ : ByteArray)=T:=⟨_,rfl⟩
 rw [hT] at hn
 clear hT
 go_enter Tryz.func97,Tryz.ntmps97
 go_wp2_with fail
 refine (hn _ ht).mono ?_
 rintro e w2 ⟨rfl,hb2⟩
 go_wp2
 go_ret2
 exact de.no hb2
set_option maxRecDepth 100000 in
set_option maxHeartbeats 4000000 in
theorem qq (x:aM) (l:Lg) (s:ByteArray) (n:Int) (g:Nat) (w:World) (hL:ai w g 42 [F x.TA x.t.length x.tc,F x.OA x.o.length x.oc,O U x.got,O U x.sold,O U x.missed,sQ l.D,sQ l.P,O U l.n]) (h:aQ w w.heap.size x) (G:bn x) (ht:hU w) :
  Calls Tryz.prog 98 #[.pointer (some ⟨g,0,none⟩),sQ s,O U n] w (de w (gi x s n)):=by
 obtain ⟨c0,c1,c2,c3,c4⟩:=cells5 hL
 by_cases h0:s=⟨#[97,116]⟩
 ·subst h0
  have HV:gi x ⟨#[97,116]⟩ n=kz x n:=by unfold gi; rw [if_pos rfl]
  rw [HV]
  clear HV
  have BD:=ri G n (am x && bI n 1 999)
  have hc:=lp x n w h
  have HT:kz x n=if (am x && bI n 1 999)=true then some (eM (bh (am x && bI n 1 999) (aO (fun r:ae=>decide (r.p=n)) ae.k x.o))) else none:=rfl
  rw [HT]
  clear HT
  obtain ⟨ok,hok⟩ : ∃ b,(am x && bI n 1 999)=b:=⟨_,rfl⟩
  obtain ⟨ns,hns⟩ : ∃ b,bh (am x && bI n 1 999) (aO (fun r:ae=>decide (r.p=n)) ae.k x.o)=b:=⟨_,rfl⟩
  rw [hns] at BD hc ⊢
  rw [hok] at hc ⊢
  have hl:=fun W A c hR hT=>jY A c ns ok W hR BD.1 BD.2 hT
  clear hok hns BD
  obtain ⟨T,hT⟩ : ∃ T,eM ns=T:=⟨_,rfl⟩
  rw [hT] at hl ⊢
  clear hT
  cases ok
  all_goals
   go_enter Tryz.func98,Tryz.ntmps98
   go_wp2_with fail
   refine hc.mono ?_
   rintro e w1 ⟨A',c',rfl,hO,hb1⟩
   go_wp2_with fail
   refine (hl _ A' c' hO.reads (ht.then hb1)).mono ?_
   rintro e w2 ⟨rfl,hb2⟩
   go_wp2
   go_ret2
   first
    | exact de.yes (ar hb1 hb2)
    | exact de.no (ar hb1 hb2)
 have f0:(s.toList == [97,116])=false:=bC h0
 by_cases h1:s=⟨#[119,105,116,104]⟩
 ·subst h1
  have HV:gi x ⟨#[119,105,116,104]⟩ n=gW x n:=by unfold gi; rw [if_neg (by decide),if_pos rfl]
  rw [HV]
  clear HV
  have BD:=oS G n (am x && aN x.t n)
  have hc:=jd x n w h
  have HT:gW x n=if (am x && aN x.t n)=true then some (eM (bh (am x && aN x.t n) (aO (fun r:ae=>decide (r.k=n)) ae.p x.o))) else none:=rfl
  rw [HT]
  clear HT
  obtain ⟨ok,hok⟩ : ∃ b,(am x && aN x.t n)=b:=⟨_,rfl⟩
  obtain ⟨ns,hns⟩ : ∃ b,bh (am x && aN x.t n) (aO (fun r:ae=>decide (r.k=n)) ae.p x.o)=b:=⟨_,rfl⟩
  rw [hns] at BD hc ⊢
  rw [hok] at hc ⊢
  have hl:=fun W A c hR hT=>jY A c ns ok W hR BD.1 BD.2 hT
  clear hok hns BD
  obtain ⟨T,hT⟩ : ∃ T,eM ns=T:=⟨_,rfl⟩
  rw [hT] at hl ⊢
  clear hT
  cases ok
  all_goals
   go_enter Tryz.func98,Tryz.ntmps98
   go_wp2_with fail
   refine hc.mono ?_
   rintro e w1 ⟨A',c',rfl,hO,hb1⟩
   go_wp2_with fail
   refine (hl _ A' c' hO.reads (ht.then hb1)).mono ?_
   rintro e w2 ⟨rfl,hb2⟩
   go_wp2
   go_ret2
   first
    | exact de.yes (ar hb1 hb2)
    | exact de.no (ar hb1 hb2)
 have f1:(s.toList == [119,105,116,104])=false:=bC h1
 by_cases h2:s=⟨#[116,101,120,116]⟩
 ·subst h2
  have HV:gi x ⟨#[116,101,120,116]⟩ n=jn x n:=by unfold gi; rw [if_neg (by decide),if_neg (by decide),if_pos rfl]
  rw [HV]
  clear HV
  have hc:=kq x n w h ht
  have HT:jn x n=if (am x && aN x.t n)=true then some (dP x n) else none:=rfl
  rw [HT]
  clear HT
  obtain ⟨ok,hok⟩ : ∃ b,(am x && aN x.t n)=b:=⟨_,rfl⟩
  rw [hok] at hc ⊢
  obtain ⟨T,hT⟩ : ∃ T,dP x n=T:=⟨_,rfl⟩
  rw [hT] at hc ⊢
  clear hT hok
  cases ok
  all_goals
   go_enter Tryz.func98,Tryz.ntmps98
   go_wp2_with fail
   refine hc.mono ?_
   rintro e w1 ⟨rfl,hb1⟩
   go_wp2
   go_ret2
   first
    | exact de.yes hb1
    | exact de.no hb1
 have f2:(s.toList == [116,101,120,116])=false:=bC h2
 have HV:gi x s n=none:=by unfold gi; rw [if_neg h0,if_neg h1,if_neg h2]
 rw [HV]
 clear h0 h1 h2 HV
 go_enter Tryz.func98,Tryz.ntmps98
 go_wp2
 go_ret2
 exact de.no (Below.refl _ _)
theorem bO (x:aM) (g:Nat) (w:World) (h:bT w w.heap.size g x) (tl:x.t.length≤1000000) (ol:x.o.length≤1000000) :
  Calls Tryz.prog 93 #[.pointer (some ⟨g,0,none⟩)] w fun e w'=>∃ TA tc OA oc,e=.returned (.agg #[F TA x.t.length tc,F OA x.o.length oc,O U x.got,O U x.sold,O U x.missed])∧w'.ownsRow w.heap.size 104 2 (F TA x.t.length tc) x.t.length (x.t.flatMap aq.enc)∧w'.ownsRow w.heap.size 147 3 (F OA x.o.length oc) x.o.length (x.o.flatMap ae.enc)∧Below w.heap.size w w':=lQ x g w h tl ol
set_option maxRecDepth 100000 in
set_option maxHeartbeats 1500000 in
theorem eS (x:aM) (g:Nat) (kd:Int) (st pe va:Int) (w:World) (h:bT w w.heap.size g x) (G:bn x) (hk:(kd == 1)=false) (hI:av x.t st < 0) :
  Calls Tryz.prog 186 #[.pointer (some ⟨g,0,none⟩),.agg #[O U kd,O U st,O U pe,O U va]] w (aC w (aZ x.c ⟨kd,st,pe,va⟩)):=by
 have HN:Hid (aZ x.c ⟨kd,st,pe,va⟩=none):=by
  unfold Hid aZ
  rw [if_neg (by simpa using hk),if_pos (by show ¬ 0≤av x.t st; omega)]
 have L1:=(ai.new w 112 #[O U kd,O U st,O U pe,O U va]).alloc (.cells #[F none 0 0,F none 0 0,O U 0,O U 0,O U 0] 40)
 have L2:=ai.new1 w (.cells #[O U kd,O U st,O U pe,O U va] 112) 40 #[F none 0 0,F none 0 0,O U 0,O U 0,O U 0]
 have b1:=(Below.refl w.heap.size w).alloc (Nat.le_refl _) (.cells #[O U kd,O U st,O U pe,O U va] 112)
 have b2:=b1.alloc b1.size (.cells #[F none 0 0,F none 0 0,O U 0,O U 0,O U 0] 40)
 have hA:=h.then b2 b2.size
 have tl:=G.tl
 have ol:=G.ol
 clear b1
 go_enter Tryz.func186,Tryz.ntmps186
 go_wp2_with fail
 generalize ((w.alloc (.cells #[O U kd,O U st,O U pe,O U va] 112)).alloc (.cells #[F none 0 0,F none 0 0,O U 0,O U 0,O U 0] 40))=W2 at L1 L2 b2 hA ⊢
 refine (bO x g W2 hA (by omega) (by omega)).mono ?_
 rintro e W3 ⟨TA,tc,OA,oc,rfl,hT,hO,k3⟩
 have hal:=(Below.refl W3.heap.size W3).alloc (Nat.le_refl _) (.cells #[F TA x.t.length tc,F OA x.o.length oc,O U x.got,O U x.sold,O U x.missed] 40)
 have hOwn:aA (W3.alloc (.cells #[F TA x.t.length tc,F OA x.o.length oc,O U x.got,O U x.sold,O U x.missed] 40)) W2.heap.size W3.heap.size _ _ x.c:=⟨ai.new W3 40 #[F TA x.t.length tc,F OA x.o.length oc,O U x.got,O U x.sold,O U x.missed],k3.size,ab hT hal,ab hO hal⟩
 have k4:=k3.trans (hal.mono k3.size)
 have s0:=(L1.below k4 L1.lt).cell 0
 have s1:=(L1.below k4 L1.lt).cell 1
 simp only [List.getElem?_cons_zero,List.getElem?_cons_succ] at s0 s1
 have hgO:w.heap.size+1 < W3.heap.size:=Nat.lt_of_lt_of_le L2.lt k3.size
 clear hT hO k3
 go_wp2_with fail
 clear s0 s1 hal
 generalize W3.alloc (.cells #[F TA x.t.length tc,F OA x.o.length oc,O U x.got,O U x.sold,O U x.missed] 40)=W4 at hOwn k4 ⊢
 generalize W3.heap.size=gO at hOwn hgO ⊢
 refine (ba (x.c.at TA tc OA oc) gO st W4 (aA.at_ (y:=x.c) hOwn)).mono ?_
 rintro e W5 ⟨rfl,hb5⟩
 have hOwn5:=hOwn.then hb5
 have k5:=k4.trans (hb5.mono k4.size)
 rw [show av (x.c.at TA tc OA oc).t st=av x.t st from rfl]
 generalize av x.t st=I at hI ⊢
 have L2z:=L2.below k5 L2.lt
 have z0:=L2z.cell 0
 have z1:=L2z.cell 1
 have z2:=L2z.cell 2
 have z3:=L2z.cell 3
 have z4:=L2z.cell 4
 obtain ⟨f0,f1,f2,f3,f4⟩:=frz5 L2z
 simp only [List.getElem?_cons_zero,List.getElem?_cons_succ] at z0 z1 z2 z3 z4
 have hgr:=ac (g:=w.heap.size+1) (i:=4) (u:=O U 0) (ac (g:=w.heap.size+1) (i:=3) (u:=O U 0) (ac (g:=w.heap.size+1) (i:=2) (u:=O U 0) (ac (g:=w.heap.size+1) (i:=1) (u:=F none 0 0) (ac (g:=w.heap.size+1) (i:=0) (u:=F none 0 0) (World.grownBy.refl W5 (some (w.heap.size+1)))))))
 have bw:=b2.trans (k5.mono b2.size)
 have bz:=bw.grown hgr bw.size (by rintro _ ⟨⟩; omega)
 go_wp2
 rw [HN.out]
 refine bodyPost_ret (v:=.tuple #[.agg #[F none 0 0,F none 0 0,O U 0,O U 0,O U 0],.bool false]) (by simp [results,Tryz.results186,go_sem, *]) rfl (aC.no rfl bz)
set_option maxRecDepth 100000 in
set_option maxHeartbeats 1500000 in
theorem oT (x:aM) (g:Nat) (st pe va:Int) (w:World) (h:bT w w.heap.size g x) (G:bn x) (i:Nat) (hi:i < x.t.length) (hI:av x.t st=i) (hpe:pe=0) (hva:1≤va∧va≤9999) :
  Calls Tryz.prog 186 #[.pointer (some ⟨g,0,none⟩),.agg #[O U 1,O U st,O U pe,O U va]] w (aC w (aZ x.c ⟨1,st,pe,va⟩)):=by
 subst hpe
 obtain ⟨tr,htr⟩ : ∃ tr,x.c.t[i]=tr:=⟨_,rfl⟩
 obtain ⟨r,hr⟩ : ∃ r:Oc,r=⟨x.t.set i ⟨tr.k,tr.c+va⟩,x.o,x.got+va,x.sold,x.missed⟩:=⟨_,rfl⟩
 have HR:Hid (aZ x.c ⟨1,st,0,va⟩=Oc.fin r):=by
  unfold Hid aZ
  rw [if_pos rfl]
  rw [show ah x.c.t st (va)=x.t.set i ⟨tr.k,tr.c+va⟩ from by show ah x.t st _=_; rw [f8 hI hi,show x.t[i]=tr from htr]]
  rw [hr]
  rfl
 have hNb:=G.at_bd st 0
 have hz0:(0:Int)≤(i:Int):=by omega
 have hzi : ¬ (i:Int) < 0:=by omega
 have htb:=(aq.bounds (G.tall i hi)).2
 rw [show x.t[i]=tr from htr] at htb
 obtain ⟨htb1,htb2⟩:=htb
 have hgg:=G.g
 obtain ⟨hgg1,hgg2⟩:=hgg
 obtain ⟨hva1,hva2⟩:=hva
 have L1:=(ai.new w 112 #[O U 1,O U st,O U 0,O U va]).alloc (.cells #[F none 0 0,F none 0 0,O U 0,O U 0,O U 0] 40)
 have L2:=ai.new1 w (.cells #[O U 1,O U st,O U 0,O U va] 112) 40 #[F none 0 0,F none 0 0,O U 0,O U 0,O U 0]
 have b1:=(Below.refl w.heap.size w).alloc (Nat.le_refl _) (.cells #[O U 1,O U st,O U 0,O U va] 112)
 have b2:=b1.alloc b1.size (.cells #[F none 0 0,F none 0 0,O U 0,O U 0,O U 0] 40)
 have hA:=h.then b2 b2.size
 have tl:=G.tl
 have ol:=G.ol
 clear b1
 go_enter Tryz.func186,Tryz.ntmps186
 go_wp2_with fail
 generalize ((w.alloc (.cells #[O U 1,O U st,O U 0,O U va] 112)).alloc (.cells #[F none 0 0,F none 0 0,O U 0,O U 0,O U 0] 40))=W2 at L1 L2 b2 hA ⊢
 refine (bO x g W2 hA (by omega) (by omega)).mono ?_
 rintro e W3 ⟨TA,tc,OA,oc,rfl,hT,hO,k3⟩
 obtain ⟨gT,cT,_,hvt,_,_,_⟩:=bJ hT (by omega)
 injection hvt with e1 e2 e3
 subst e1; subst e3
 have hal:=(Below.refl W3.heap.size W3).alloc (Nat.le_refl _) (.cells #[F (some ⟨gT,0,none⟩) x.t.length tc,F OA x.o.length oc,O U x.got,O U x.sold,O U x.missed] 40)
 have hOwn:aA (W3.alloc (.cells #[F (some ⟨gT,0,none⟩) x.t.length tc,F OA x.o.length oc,O U x.got,O U x.sold,O U x.missed] 40)) W2.heap.size W3.heap.size _ _ x.c:=⟨ai.new W3 40 #[F (some ⟨gT,0,none⟩) x.t.length tc,F OA x.o.length oc,O U x.got,O U x.sold,O U x.missed],k3.size,ab hT hal,ab hO hal⟩
 have k4:=k3.trans (hal.mono k3.size)
 have s0:=(L1.below k4 L1.lt).cell 0
 have s1:=(L1.below k4 L1.lt).cell 1
 simp only [List.getElem?_cons_zero,List.getElem?_cons_succ] at s0 s1
 have hgO:w.heap.size+1 < W3.heap.size:=Nat.lt_of_lt_of_le L2.lt k3.size
 clear hT hO k3
 have hA4:=hA.then k4 k4.size
 go_wp2_with fail
 clear s0 s1 hal
 generalize W3.alloc (.cells #[F (some ⟨gT,0,none⟩) x.t.length tc,F OA x.o.length oc,O U x.got,O U x.sold,O U x.missed] 40)=W4 at hOwn k4 hA4 ⊢
 generalize W3.heap.size=gO at hOwn hgO ⊢
 refine (ba x g st W4 hA4).mono ?_
 rintro e W4b ⟨rfl,hb4⟩
 rw [hI]
 have hOwn4:=hOwn.then hb4
 have k4b:=k4.trans (hb4.mono k4.size)
 have L1b:=L1.below k4b L1.lt
 have s1:=L1b.cell 1
 simp only [List.getElem?_cons_zero,List.getElem?_cons_succ] at s1
 go_wp2_with fail
 refine (ba (x.c.at (some ⟨gT,0,none⟩) tc OA oc) gO st W4b (aA.at_ (y:=x.c) hOwn4)).mono ?_
 rintro e W5 ⟨rfl,hb5⟩
 have hOwn5:=hOwn4.then hb5
 have k5:=k4b.trans (hb5.mono k4b.size)
 clear s1 L1b hOwn4 hb4 k4b hA4
 rw [show av (x.c.at (some ⟨gT,0,none⟩) tc OA oc).t st=av x.t st from rfl,hI]
 have L1c:=L1.below k5 L1.lt
 have hA5:=hA.then k5 k5.size
 have hmf:∀ (fn:Fn) (first cap:Array Value) (w:World),(Instr.makeFunc fn first cap).run Tryz.prog w=.ok (.func fn first cap) w:=fun _ _ _ _=>rfl
 go_wp2_with fail
 refine (cK (B:=0) L1c hA5 G (Nat.zero_le _)).mono ?_
 rintro e W6 ⟨rfl,hb6⟩
 have hOwn6:=hOwn5.then hb6
 have k6:=k5.trans (hb6.mono k5.size)
 have L1d:=L1.below k6 L1.lt
 obtain ⟨s0,s1,s2,s3⟩:=cells4 L1d
 clear L1c hA5 hOwn5 hOwn hb5 hb6 k4
 generalize aJ st 0 x.o=N at *
 obtain ⟨hNb1,hNb2⟩:=hNb
 have c0:=hOwn6.lies.cell 0
 simp only [List.getElem?_cons_zero] at c0
 obtain ⟨v,hv⟩ : ∃ v,(N == 0)=v:=⟨_,rfl⟩
 cases v
 all_goals
  go_wp2
  obtain ⟨hOt,kt,ct,cf⟩:=aA.setT' (y:=x.c) (hOwn6.then (Below.refl _ _).drew) hi tr htr (tr.c+va)
  have kd:=k6.drew
  have L1e:=L1.below kd L1.lt
  have u1:=L1e.cell 1
  have u2:=L1e.cell 2
  have u3:=L1e.cell 3
  simp only [List.getElem?_cons_zero,List.getElem?_cons_succ] at u1 u2 u3
  go_still_tail 9,(by kernel_rfl)
  change wpList _ _ _ _ _ W6.drew
  generalize W6.drew=Wd at hOt kt ct cf kd L1e u1 u2 u3 ⊢
  have k7:=kd.trans kt
  have hneT : ¬ gT=w.heap.size:=fun e=>by have:=(hOt.t.lt gT rfl).1; have:=L1.lt; omega
  have hneT' : ¬ w.heap.size=gT:=fun e=>hneT e.symm
  have hneO : ¬ gO=w.heap.size:=by omega
  have hneO' : ¬ w.heap.size=gO:=by omega
  have hneG : ¬ gT=gO:=fun e=>hOt.ne_t (by rw [← e]; rfl)
  have hneG' : ¬ gO=gT:=fun e=>hneG e.symm
  have d2:Wd.cell? ⟨gO,2,none⟩=some (O U x.got):=by
   have:=hOt.lies.cell 2
   rw [World.cell?_setCell_other _ _ _ _ (by simp)] at this
   exact this
  have d2f:Wd.frozen? ⟨gO,2,none⟩=false:=by
   have:=hOt.lies.frozen 2
   rwa [World.frozen?_setCell] at this
  have hOu:=(hOt.setN (x.got+va)).1
  have k8:=k7.trans (hOt.belowN 2 (O U (x.got+va)))
  go_wp2_with fail
  generalize (Wd.setCell ⟨gT,i * 2+1,none⟩ (O U (tr.c+va))).setCell ⟨gO,2,none⟩ (O U (x.got+va))=W8 at hOu k8 ⊢
  replace hO8:∃ vt vo,aA W8 W2.heap.size gO vt vo r:=⟨_,_,by rw [hr]; exact hOu⟩
  obtain ⟨vt,vo,hO8⟩:=hO8
  clear hr hOt hOu hOwn6 c0 ct cf u1 u2 u3 s0 s1 s2 s3 L1d L1e kt kd k7 k6 k5 d2 d2f
  obtain ⟨A1,a1,A2,a2,rfl,rfl⟩:=hO8.form
  have cV:=aX (r.at A1 a1 A2 a2) gO W8 (aA.at_ (y:=r) hO8)
  rw [Oc.good_at] at cV
  cases hg:r.good
  ·rw [hg] at cV
   have HN:Hid (aZ x.c ⟨1,st,0,va⟩=none):=by unfold Hid; rw [HR.out,Oc.fin,hg]; rfl
   clear hg
   go_wp2_with fail
   refine cV.mono ?_
   rintro e W9 ⟨rfl,hb9⟩
   have k9:=k8.trans (hb9.mono k8.size)
   clear hb9 cV
   have L2z:=L2.below k9 L2.lt
   have z0:=L2z.cell 0
   have z1:=L2z.cell 1
   have z2:=L2z.cell 2
   have z3:=L2z.cell 3
   have z4:=L2z.cell 4
   obtain ⟨f0,f1,f2,f3,f4⟩:=frz5 L2z
   simp only [List.getElem?_cons_zero,List.getElem?_cons_succ] at z0 z1 z2 z3 z4
   have hgr:=ac (g:=w.heap.size+1) (i:=4) (u:=O U 0) (ac (g:=w.heap.size+1) (i:=3) (u:=O U 0) (ac (g:=w.heap.size+1) (i:=2) (u:=O U 0) (ac (g:=w.heap.size+1) (i:=1) (u:=F none 0 0) (ac (g:=w.heap.size+1) (i:=0) (u:=F none 0 0) (World.grownBy.refl W9 (some (w.heap.size+1)))))))
   have bw:=b2.trans (k9.mono b2.size)
   have bz:=bw.grown hgr bw.size (by rintro _ ⟨⟩; omega)
   go_wp2
   rw [HN.out]
   refine bodyPost_ret (v:=.tuple #[.agg #[F none 0 0,F none 0 0,O U 0,O U 0,O U 0],.bool false]) (by simp [results,Tryz.results186,go_sem, *]) rfl (aC.no rfl bz)
  ·rw [hg] at cV
   have HN:Hid (aZ x.c ⟨1,st,0,va⟩=some r):=by unfold Hid; rw [HR.out,Oc.fin,hg]; rfl
   clear hg
   go_wp2_with fail
   refine cV.mono ?_
   rintro e W9 ⟨rfl,hb9⟩
   have k9:=k8.trans (hb9.mono k8.size)
   have hO9:=hO8.then hb9
   clear hb9 cV hO8
   obtain ⟨c0,c1,c2,c3,c4⟩:=cells5 hO9.lies
   have L2z:=L2.below k9 L2.lt
   have z0:=L2z.cell 0
   have z1:=L2z.cell 1
   have z2:=L2z.cell 2
   have z3:=L2z.cell 3
   have z4:=L2z.cell 4
   obtain ⟨f0,f1,f2,f3,f4⟩:=frz5 L2z
   simp only [List.getElem?_cons_zero,List.getElem?_cons_succ] at z0 z1 z2 z3 z4
   have hgr:=ac (g:=w.heap.size+1) (i:=4) (u:=O U r.missed) (ac (g:=w.heap.size+1) (i:=3) (u:=O U r.sold) (ac (g:=w.heap.size+1) (i:=2) (u:=O U r.got) (ac (g:=w.heap.size+1) (i:=1) (u:=F A2 r.o.length a2) (ac (g:=w.heap.size+1) (i:=0) (u:=F A1 r.t.length a1) (World.grownBy.refl W9 (some (w.heap.size+1)))))))
   have bw:=b2.trans (k9.mono b2.size)
   have bz:=bw.grown hgr bw.size (by rintro _ ⟨⟩; omega)
   have r8:=af (aj hO9.t L2z ez hgr) b2.size
   have r9:=af (aj hO9.o L2z dY hgr) b2.size
   have R8:=Lib.hid r8; clear r8
   have R9:=Lib.hid r9; clear r9
   clear hgr hO9
   go_wp2
   rw [HN.out]
   refine bodyPost_ret (v:=.tuple #[.agg #[F A1 r.t.length a1,F A2 r.o.length a2,O U r.got,O U r.sold,O U r.missed],.bool true]) (by simp [results,Tryz.results186,go_sem, *]) rfl ?_
   exact aC.yes rfl R8.out R9.out bz
set_option maxRecDepth 100000 in
set_option maxHeartbeats 1500000 in
theorem oU (x:aM) (g:Nat) (st pe va:Int) (w:World) (h:bT w w.heap.size g x) (G:bn x) (hI:av x.t st < 0) (hst:1≤st∧st≤99) (hpe:pe=0) (hva:1≤va∧va≤9999) :
  Calls Tryz.prog 186 #[.pointer (some ⟨g,0,none⟩),.agg #[O U 1,O U st,O U pe,O U va]] w (aC w (aZ x.c ⟨1,st,pe,va⟩)):=by
 subst hpe
 obtain ⟨hst1,hst2⟩:=hst
 have hInn : ¬ 0≤av x.t st:=by omega
 have hIx:=pi hInn
 have hin:=nU va hInn
 have hple:=iW x.t st
 have hnl:=n8 x.t st
 obtain ⟨hi0,hat⟩:=pt x.t st
 have hfl:(x.t.flatMap aq.enc).take (cw x.t st * 2)++aq.enc ⟨st,0⟩++(x.t.flatMap aq.enc).drop (cw x.t st * 2)=(dk x.t st).flatMap aq.enc:=(nZ aq.enc 2 aq.enc_len x.t (cw x.t st) ⟨st,0⟩).symm
 have hlo:∀ i (h:i < x.t.length),i < cw x.t st→gq x.t[i].k st < 0:=fun i h hi=>qi.2 (qe x.t st i h hi)
 have hhi:∀ i (h:i < x.t.length),cw x.t st≤i→¬ gq x.t[i].k st < 0:=fun i h hi hc=>sd x.t st G.ascT i h hi (qi.1 hc)
 have hfd:∀ h:cw x.t st < x.t.length,false=decide (gq x.t[cw x.t st].k st=0):=fun h=>by
  symm; rw [decide_eq_false_iff_not,qH]; exact kL hInn _ (List.getElem_mem _)
 have cB:=fun (A:Option Addr) (c:Nat) (W:World) (hW:eX W W.heap.size A x.t)=>pn (fun t=>gq t.k st) (O U st) 213 #[] Tryz.call213 A c x.t W (fun t p=>pr t st p.val) hW (by have:=G.tl; omega) (cw x.t st) hple hlo hhi false hfd (fun _=>rfl)
 obtain ⟨tr,htr0⟩ : ∃ tr:aq,tr=⟨st,0⟩:=⟨_,rfl⟩
 have htb1:0≤tr.c:=by rw [htr0]; exact Int.le_refl _
 have htb2:tr.c≤9999:=by rw [htr0]; show (0:Int)≤9999; omega
 have hgd:(dk x.t st).getD (cw x.t st) default=tr:=by rw [List.getD_eq_getElem?_getD,List.getElem?_eq_getElem hi0,hat,htr0]; rfl
 rw [hgd] at hin
 rw [← htr0] at hat
 clear hgd hlo hhi hfd htr0
 generalize dk x.t st=T1 at hIx hin hnl hi0 hat hfl
 generalize cw x.t st=i at hIx hin hple hi0 hat hfl cB
 have hi:i < T1.length:=hi0
 have htr:T1[i]=tr:=hat
 obtain ⟨r,hr⟩ : ∃ r:Oc,r=⟨T1.set i ⟨tr.k,tr.c+va⟩,x.o,x.got+va,x.sold,x.missed⟩:=⟨_,rfl⟩
 have HR:Hid (aZ x.c ⟨1,st,0,va⟩=Oc.fin r):=by
  unfold Hid aZ
  rw [if_pos rfl]
  show Oc.fin ⟨ah x.t st va,x.o,x.got+va,x.sold,x.missed⟩=_
  rw [hin,hr]
 have hNb:=G.at_bd st 0
 have hz0:(0:Int)≤(i:Int):=by omega
 have HFL:=Lib.hid hfl
 clear hin hfl hat hi0
 have hgg:=G.g
 obtain ⟨hgg1,hgg2⟩:=hgg
 obtain ⟨hva1,hva2⟩:=hva
 have L1:=(ai.new w 112 #[O U 1,O U st,O U 0,O U va]).alloc (.cells #[F none 0 0,F none 0 0,O U 0,O U 0,O U 0] 40)
 have L2:=ai.new1 w (.cells #[O U 1,O U st,O U 0,O U va] 112) 40 #[F none 0 0,F none 0 0,O U 0,O U 0,O U 0]
 have b1:=(Below.refl w.heap.size w).alloc (Nat.le_refl _) (.cells #[O U 1,O U st,O U 0,O U va] 112)
 have b2:=b1.alloc b1.size (.cells #[F none 0 0,F none 0 0,O U 0,O U 0,O U 0] 40)
 have hA:=h.then b2 b2.size
 have tl:=G.tl
 have ol:=G.ol
 clear b1
 go_enter Tryz.func186,Tryz.ntmps186
 go_wp2_with fail
 generalize ((w.alloc (.cells #[O U 1,O U st,O U 0,O U va] 112)).alloc (.cells #[F none 0 0,F none 0 0,O U 0,O U 0,O U 0] 40))=W2 at L1 L2 b2 hA ⊢
 refine (bO x g W2 hA (by omega) (by omega)).mono ?_
 rintro e W3 ⟨TA,tc,OA,oc,rfl,hT,hO,k3⟩
 have hal:=(Below.refl W3.heap.size W3).alloc (Nat.le_refl _) (.cells #[F TA x.t.length tc,F OA x.o.length oc,O U x.got,O U x.sold,O U x.missed] 40)
 have hOwn:aA (W3.alloc (.cells #[F TA x.t.length tc,F OA x.o.length oc,O U x.got,O U x.sold,O U x.missed] 40)) W2.heap.size W3.heap.size _ _ x.c:=⟨ai.new W3 40 #[F TA x.t.length tc,F OA x.o.length oc,O U x.got,O U x.sold,O U x.missed],k3.size,ab hT hal,ab hO hal⟩
 have k4:=k3.trans (hal.mono k3.size)
 have s0:=(L1.below k4 L1.lt).cell 0
 have s1:=(L1.below k4 L1.lt).cell 1
 simp only [List.getElem?_cons_zero,List.getElem?_cons_succ] at s0 s1
 have hgO:w.heap.size+1 < W3.heap.size:=Nat.lt_of_lt_of_le L2.lt k3.size
 clear hT hO k3
 have hA4:=hA.then k4 k4.size
 go_wp2_with fail
 clear s0 s1 hal
 generalize W3.alloc (.cells #[F TA x.t.length tc,F OA x.o.length oc,O U x.got,O U x.sold,O U x.missed] 40)=W4 at hOwn k4 hA4 ⊢
 generalize W3.heap.size=gO at hOwn hgO ⊢
 refine (ba x g st W4 hA4).mono ?_
 rintro e W4b ⟨rfl,hb4⟩
 generalize av x.t st=I0 at hI ⊢
 have hOwn4:=hOwn.then hb4
 have k4b:=k4.trans (hb4.mono k4.size)
 have L1b:=L1.below k4b L1.lt
 have s1:=L1b.cell 1
 simp only [List.getElem?_cons_zero,List.getElem?_cons_succ] at s1
 have q0:W4b.cell? ⟨gO,0,none⟩=some (F TA x.t.length tc):=hOwn4.lies.cell 0
 go_wp2_with fail
 refine (cB TA tc W4b (aB hOwn4.t)).mono ?_
 rintro e W5 ⟨rfl,hb5⟩
 have hOwn5:=hOwn4.then hb5
 have k5:=k4b.trans (hb5.mono k4b.size)
 have L1c:=L1.below k5 L1.lt
 clear s1 q0
 have s1:=L1c.cell 1
 simp only [List.getElem?_cons_zero,List.getElem?_cons_succ] at s1
 have q0:W5.cell? ⟨gO,0,none⟩=some (F TA x.t.length tc):=hOwn5.lies.cell 0
 have al5:=(Below.refl W5.heap.size W5).alloc (Nat.le_refl _) (.cells #[O U st,O U 0] 104)
 have hOwn5a:=hOwn5.then al5
 have cI:=nY W2.heap.size (F TA x.t.length tc) x.t.length (x.t.flatMap aq.enc) (W5.alloc (.cells #[O U st,O U 0] 104)) hOwn5a.t (by omega) i hple ⟨st,0⟩ W5.heap.size 1 (ai.new W5 104 #[O U st,O U 0]) (fun e=>by have:=(hOwn5.t.lt _ e).2; omega) (Nat.le_trans k5.size al5.size) dF
 rw [HFL.out,← hnl] at cI
 clear hnl
 go_wp2_with fail
 clear s1 q0
 generalize W5.alloc (.cells #[O U st,O U 0] 104)=W5a at al5 hOwn5a cI ⊢
 refine cI.mono ?_
 rintro e W5b ⟨v',rfl,HO5,hg5⟩
 obtain ⟨gT,tc',_,rfl,_,_,_⟩:=bJ HO5 (by omega)
 have k5b:Below W2.heap.size W2 W5b:=(k5.trans (al5.mono k5.size)).grown hg5 (Nat.le_trans k5.size al5.size) (fun j hj=>(hOwn5a.t.lt j hj).1)
 have hL5:=hOwn5a.lies.kept hg5 (fun e=>hOwn5a.ne_t e.symm)
 have q0:W5b.cell? ⟨gO,0,none⟩=some (F TA x.t.length tc):=hL5.cell 0
 have q1:=hL5.frozen 0
 have hOwn6a:=hOwn5a.setTs hg5 HO5
 have k6a:=k5b.trans ((Below.refl W2.heap.size W5b).grown (ac (g:=gO) (i:=0) (u:=F (some ⟨gT,0,none⟩) T1.length tc') (World.grownBy.refl W5b (some gO))) k5b.size (by rintro _ ⟨⟩; exact hOwn5a.hg))
 have L1f:=L1.below k5b L1.lt
 have s1:=L1f.cell 1
 simp only [List.getElem?_cons_zero,List.getElem?_cons_succ] at s1
 have hneO : ¬ gO=w.heap.size:=by omega
 have hneO' : ¬ w.heap.size=gO:=by omega
 go_wp2_with fail
 generalize W5b.setCell ⟨gO,0,none⟩ (F (some ⟨gT,0,none⟩) T1.length tc')=W6a at hOwn6a k6a ⊢
 refine (ba ((⟨T1,x.o,x.got,x.sold,x.missed⟩ : Oc).at (some ⟨gT,0,none⟩) tc' OA oc) gO st W6a (aA.at_ (y:=⟨T1,x.o,x.got,x.sold,x.missed⟩) hOwn6a)).mono ?_
 rintro e W6b ⟨rfl,hb6b⟩
 have hOwn5':=hOwn6a.then hb6b
 have k5':=k6a.trans (hb6b.mono k6a.size)
 clear hneO hneO' s1 q0 q1 L1f hL5 k5b hOwn5a al5 hOwn5 k5 L1c hOwn4 hb4 k4b hA4 cI cB hg5 HO5 hb5 L1b
 rw [show av ((⟨T1,x.o,x.got,x.sold,x.missed⟩ : Oc).at (some ⟨gT,0,none⟩) tc' OA oc).t st=av T1 st from rfl,hIx]
 have L1c:=L1.below k5' L1.lt
 have hA5:=hA.then k5' k5'.size
 have hmf:∀ (fn:Fn) (first cap:Array Value) (w:World),(Instr.makeFunc fn first cap).run Tryz.prog w=.ok (.func fn first cap) w:=fun _ _ _ _=>rfl
 go_wp2_with fail
 refine (cK (B:=0) L1c hA5 G (Nat.zero_le _)).mono ?_
 rintro e W6 ⟨rfl,hb6⟩
 have hOwn6:=hOwn5'.then hb6
 have k6:=k5'.trans (hb6.mono k5'.size)
 have L1d:=L1.below k6 L1.lt
 obtain ⟨s0,s1,s2,s3⟩:=cells4 L1d
 have k5:=k5'
 clear L1c hA5 hOwn5' hOwn6a hb6b k6a hb6 k4
 generalize aJ st 0 x.o=N at *
 obtain ⟨hNb1,hNb2⟩:=hNb
 have c0:=hOwn6.lies.cell 0
 simp only [List.getElem?_cons_zero] at c0
 obtain ⟨v,hv⟩ : ∃ v,(N == 0)=v:=⟨_,rfl⟩
 cases v
 all_goals
  go_wp2
  obtain ⟨hOt,kt,ct,cf⟩:=aA.setT' (y:=⟨T1,x.o,x.got,x.sold,x.missed⟩) (hOwn6.then (Below.refl _ _).drew) hi tr htr (tr.c+va)
  have kd:=k6.drew
  have L1e:=L1.below kd L1.lt
  have u1:=L1e.cell 1
  have u2:=L1e.cell 2
  have u3:=L1e.cell 3
  simp only [List.getElem?_cons_zero,List.getElem?_cons_succ] at u1 u2 u3
  go_still_tail 9,(by kernel_rfl)
  change wpList _ _ _ _ _ W6.drew
  generalize W6.drew=Wd at hOt kt ct cf kd L1e u1 u2 u3 ⊢
  have k7:=kd.trans kt
  have hneT : ¬ gT=w.heap.size:=fun e=>by have:=(hOt.t.lt gT rfl).1; have:=L1.lt; omega
  have hneT' : ¬ w.heap.size=gT:=fun e=>hneT e.symm
  have hneO : ¬ gO=w.heap.size:=by omega
  have hneO' : ¬ w.heap.size=gO:=by omega
  have hneG : ¬ gT=gO:=fun e=>hOt.ne_t (by rw [← e]; rfl)
  have hneG' : ¬ gO=gT:=fun e=>hneG e.symm
  have d2:Wd.cell? ⟨gO,2,none⟩=some (O U x.got):=by
   have:=hOt.lies.cell 2
   rw [World.cell?_setCell_other _ _ _ _ (by simp)] at this
   exact this
  have d2f:Wd.frozen? ⟨gO,2,none⟩=false:=by
   have:=hOt.lies.frozen 2
   rwa [World.frozen?_setCell] at this
  have hOu:=(hOt.setN (x.got+va)).1
  have k8:=k7.trans (hOt.belowN 2 (O U (x.got+va)))
  go_wp2_with fail
  generalize (Wd.setCell ⟨gT,i * 2+1,none⟩ (O U (tr.c+va))).setCell ⟨gO,2,none⟩ (O U (x.got+va))=W8 at hOu k8 ⊢
  replace hO8:∃ vt vo,aA W8 W2.heap.size gO vt vo r:=⟨_,_,by rw [hr]; exact hOu⟩
  obtain ⟨vt,vo,hO8⟩:=hO8
  clear hr hOt hOu hOwn6 c0 ct cf u1 u2 u3 s0 s1 s2 s3 L1d L1e kt kd k7 k6 k5 d2 d2f
  obtain ⟨A1,a1,A2,a2,rfl,rfl⟩:=hO8.form
  have cV:=aX (r.at A1 a1 A2 a2) gO W8 (aA.at_ (y:=r) hO8)
  rw [Oc.good_at] at cV
  cases hg:r.good
  ·rw [hg] at cV
   have HN:Hid (aZ x.c ⟨1,st,0,va⟩=none):=by unfold Hid; rw [HR.out,Oc.fin,hg]; rfl
   clear hg
   go_wp2_with fail
   refine cV.mono ?_
   rintro e W9 ⟨rfl,hb9⟩
   have k9:=k8.trans (hb9.mono k8.size)
   clear hb9 cV
   have L2z:=L2.below k9 L2.lt
   have z0:=L2z.cell 0
   have z1:=L2z.cell 1
   have z2:=L2z.cell 2
   have z3:=L2z.cell 3
   have z4:=L2z.cell 4
   obtain ⟨f0,f1,f2,f3,f4⟩:=frz5 L2z
   simp only [List.getElem?_cons_zero,List.getElem?_cons_succ] at z0 z1 z2 z3 z4
   have hgr:=ac (g:=w.heap.size+1) (i:=4) (u:=O U 0) (ac (g:=w.heap.size+1) (i:=3) (u:=O U 0) (ac (g:=w.heap.size+1) (i:=2) (u:=O U 0) (ac (g:=w.heap.size+1) (i:=1) (u:=F none 0 0) (ac (g:=w.heap.size+1) (i:=0) (u:=F none 0 0) (World.grownBy.refl W9 (some (w.heap.size+1)))))))
   have bw:=b2.trans (k9.mono b2.size)
   have bz:=bw.grown hgr bw.size (by rintro _ ⟨⟩; omega)
   go_wp2
   rw [HN.out]
   refine bodyPost_ret (v:=.tuple #[.agg #[F none 0 0,F none 0 0,O U 0,O U 0,O U 0],.bool false]) (by simp [results,Tryz.results186,go_sem, *]) rfl (aC.no rfl bz)
  ·rw [hg] at cV
   have HN:Hid (aZ x.c ⟨1,st,0,va⟩=some r):=by unfold Hid; rw [HR.out,Oc.fin,hg]; rfl
   clear hg
   go_wp2_with fail
   refine cV.mono ?_
   rintro e W9 ⟨rfl,hb9⟩
   have k9:=k8.trans (hb9.mono k8.size)
   have hO9:=hO8.then hb9
   clear hb9 cV hO8
   obtain ⟨c0,c1,c2,c3,c4⟩:=cells5 hO9.lies
   have L2z:=L2.below k9 L2.lt
   have z0:=L2z.cell 0
   have z1:=L2z.cell 1
   have z2:=L2z.cell 2
   have z3:=L2z.cell 3
   have z4:=L2z.cell 4
   obtain ⟨f0,f1,f2,f3,f4⟩:=frz5 L2z
   simp only [List.getElem?_cons_zero,List.getElem?_cons_succ] at z0 z1 z2 z3 z4
   have hgr:=ac (g:=w.heap.size+1) (i:=4) (u:=O U r.missed) (ac (g:=w.heap.size+1) (i:=3) (u:=O U r.sold) (ac (g:=w.heap.size+1) (i:=2) (u:=O U r.got) (ac (g:=w.heap.size+1) (i:=1) (u:=F A2 r.o.length a2) (ac (g:=w.heap.size+1) (i:=0) (u:=F A1 r.t.length a1) (World.grownBy.refl W9 (some (w.heap.size+1)))))))
   have bw:=b2.trans (k9.mono b2.size)
   have bz:=bw.grown hgr bw.size (by rintro _ ⟨⟩; omega)
   have r8:=af (aj hO9.t L2z ez hgr) b2.size
   have r9:=af (aj hO9.o L2z dY hgr) b2.size
   have R8:=Lib.hid r8; clear r8
   have R9:=Lib.hid r9; clear r9
   clear hgr hO9
   go_wp2
   rw [HN.out]
   refine bodyPost_ret (v:=.tuple #[.agg #[F A1 r.t.length a1,F A2 r.o.length a2,O U r.got,O U r.sold,O U r.missed],.bool true]) (by simp [results,Tryz.results186,go_sem, *]) rfl ?_
   exact aC.yes rfl R8.out R9.out bz
set_option maxRecDepth 100000 in
set_option maxHeartbeats 1500000 in
theorem rj (x:aM) (g:Nat) (st pe va:Int) (w:World) (h:bT w w.heap.size g x) (G:bn x) (i:Nat) (hi:i < x.t.length) (hI:av x.t st=i) (hpe:1≤pe∧pe≤999) (hva:1≤va∧va≤999) (hn1:aJ st pe x.o ≠ 0) :
  Calls Tryz.prog 186 #[.pointer (some ⟨g,0,none⟩),.agg #[O U 6,O U st,O U pe,O U va]] w (aC w (aZ x.c ⟨6,st,pe,va⟩)):=by
 obtain ⟨r,hr⟩ : ∃ r:Oc,r=⟨x.t,dM st va (aJ st pe x.o) (dM st pe (-aJ st pe x.o) x.o),x.got,x.sold,x.missed⟩:=⟨_,rfl⟩
 have HR:Hid (aZ x.c ⟨6,st,pe,va⟩=Oc.fin r):=by
  unfold Hid aZ
  rw [if_neg (by simp)]
  rw [if_neg (by show ¬ ¬ 0≤av x.t st; rw [hI]; omega)]
  rw [if_neg (by simp)]
  rw [if_neg (by show ¬ (aJ st pe x.o=0∧0 < pe); omega)]
  rw [if_neg (by simp)]
  rw [if_neg (by simp)]
  rw [if_neg (by simp)]
  rw [hr]
  rfl
 have hNb:=G.at_bd st pe
 have hasc:=G.asc
 have hoc:=G.oc
 have hz0:(0:Int)≤(i:Int):=by omega
 obtain ⟨hpe1,hpe2⟩:=hpe
 obtain ⟨hva1,hva2⟩:=hva
 have hsub:(dM st pe (-aJ st pe x.o) x.o).Sublist x.o:=by
  rw [fy x.o hasc (fun h=>absurd h hn1),show aJ st pe x.o+-aJ st pe x.o=0 by omega]
  exact ej _
 have L1:=(ai.new w 112 #[O U 6,O U st,O U pe,O U va]).alloc (.cells #[F none 0 0,F none 0 0,O U 0,O U 0,O U 0] 40)
 have L2:=ai.new1 w (.cells #[O U 6,O U st,O U pe,O U va] 112) 40 #[F none 0 0,F none 0 0,O U 0,O U 0,O U 0]
 have b1:=(Below.refl w.heap.size w).alloc (Nat.le_refl _) (.cells #[O U 6,O U st,O U pe,O U va] 112)
 have b2:=b1.alloc b1.size (.cells #[F none 0 0,F none 0 0,O U 0,O U 0,O U 0] 40)
 have hA:=h.then b2 b2.size
 have tl:=G.tl
 have ol:=G.ol
 clear b1
 go_enter Tryz.func186,Tryz.ntmps186
 go_wp2_with fail
 generalize ((w.alloc (.cells #[O U 6,O U st,O U pe,O U va] 112)).alloc (.cells #[F none 0 0,F none 0 0,O U 0,O U 0,O U 0] 40))=W2 at L1 L2 b2 hA ⊢
 refine (bO x g W2 hA (by omega) (by omega)).mono ?_
 rintro e W3 ⟨TA,tc,OA,oc,rfl,hT,hO,k3⟩
 obtain ⟨gT,cT,_,hvt,_,_,_⟩:=bJ hT (by omega)
 injection hvt with e1 e2 e3
 subst e1; subst e3
 have hal:=(Below.refl W3.heap.size W3).alloc (Nat.le_refl _) (.cells #[F (some ⟨gT,0,none⟩) x.t.length tc,F OA x.o.length oc,O U x.got,O U x.sold,O U x.missed] 40)
 have hOwn:aA (W3.alloc (.cells #[F (some ⟨gT,0,none⟩) x.t.length tc,F OA x.o.length oc,O U x.got,O U x.sold,O U x.missed] 40)) W2.heap.size W3.heap.size _ _ x.c:=⟨ai.new W3 40 #[F (some ⟨gT,0,none⟩) x.t.length tc,F OA x.o.length oc,O U x.got,O U x.sold,O U x.missed],k3.size,ab hT hal,ab hO hal⟩
 have k4:=k3.trans (hal.mono k3.size)
 have s0:=(L1.below k4 L1.lt).cell 0
 have s1:=(L1.below k4 L1.lt).cell 1
 simp only [List.getElem?_cons_zero,List.getElem?_cons_succ] at s0 s1
 have hgO:w.heap.size+1 < W3.heap.size:=Nat.lt_of_lt_of_le L2.lt k3.size
 clear hT hO k3
 go_wp2_with fail
 clear s0 s1 hal
 generalize W3.alloc (.cells #[F (some ⟨gT,0,none⟩) x.t.length tc,F OA x.o.length oc,O U x.got,O U x.sold,O U x.missed] 40)=W4 at hOwn k4 ⊢
 generalize W3.heap.size=gO at hOwn hgO ⊢
 refine (ba (x.c.at (some ⟨gT,0,none⟩) tc OA oc) gO st W4 (aA.at_ (y:=x.c) hOwn)).mono ?_
 rintro e W5 ⟨rfl,hb5⟩
 have hOwn5:=hOwn.then hb5
 have k5:=k4.trans (hb5.mono k4.size)
 rw [show av (x.c.at (some ⟨gT,0,none⟩) tc OA oc).t st=av x.t st from rfl,hI]
 have L1c:=L1.below k5 L1.lt
 have hA5:=hA.then k5 k5.size
 have hmf:∀ (fn:Fn) (first cap:Array Value) (w:World),(Instr.makeFunc fn first cap).run Tryz.prog w=.ok (.func fn first cap) w:=fun _ _ _ _=>rfl
 go_wp2_with fail
 refine (cK (B:=0) L1c hA5 G (Nat.zero_le _)).mono ?_
 rintro e W6 ⟨rfl,hb6⟩
 have hOwn6:=hOwn5.then hb6
 have k6:=k5.trans (hb6.mono k5.size)
 have L1d:=L1.below k6 L1.lt
 obtain ⟨s0,s1,s2,s3⟩:=cells4 L1d
 clear L1c hA5 hOwn5 hOwn hb5 hb6 k4
 generalize aJ st pe x.o=N at *
 obtain ⟨hNb1,hNb2⟩:=hNb
 have c0:=hOwn6.lies.cell 0
 simp only [List.getElem?_cons_zero] at c0
 have hn0:(N == 0)=false:=by simp; omega
 have hasc2:mq (dM st pe (-N) x.o):=hasc.sublist hsub
 have hoc2:∀ o ∈ dM st pe (-N) x.o, -1000000000≤o.c∧o.c≤1000000000:=fun o ho=>hoc o (hsub.subset ho)
 have hl2:=hsub.length_le
 go_wp2_with fail
 have cC:=fk W2.heap.size gO _ _ x.c st pe (-N) W6 hOwn6 k6.size (by exact hasc) (by show x.o.length≤100000; omega) (by exact hoc) (by omega)
 refine cC.mono ?_
 rintro e W7 ⟨vo1,rfl,hO8,hb8⟩
 have k7:=k6.trans hb8
 clear hb8 cC
 have L1e:=L1.below k7 L1.lt
 have u1:=L1e.cell 1
 have u3:=L1e.cell 3
 simp only [List.getElem?_cons_zero,List.getElem?_cons_succ] at u1 u3
 have hO7:aA W7 W2.heap.size gO (F (some ⟨gT,0,none⟩) x.t.length tc) vo1 ⟨x.t,dM st pe (-N) x.o,x.got,x.sold,x.missed⟩:=hO8
 clear hO8
 go_wp2_with fail
 have cC:=fk W2.heap.size gO _ _ ⟨x.t,dM st pe (-N) x.o,x.got,x.sold,x.missed⟩ st va N W7 hO7 k7.size (by exact hasc2) (by show (dM st pe (-N) x.o).length≤100000; omega) (by exact hoc2) (by omega)
 refine cC.mono ?_
 rintro e W8 ⟨vo',rfl,hO8,hb8⟩
 have k8:=k7.trans hb8
 clear hb8 cC
 replace hO8:∃ vt,aA W8 W2.heap.size gO vt vo' r:=⟨_,by rw [hr]; exact hO8⟩
 obtain ⟨vt,hO8⟩:=hO8
 clear hr
 clear hO7 hOwn6 c0 u1 u3 s0 s1 s2 s3 L1d L1e k7 k6 k5
 obtain ⟨A1,a1,A2,a2,rfl,rfl⟩:=hO8.form
 have cV:=aX (r.at A1 a1 A2 a2) gO W8 (aA.at_ (y:=r) hO8)
 rw [Oc.good_at] at cV
 cases hg:r.good
 ·rw [hg] at cV
  have HN:Hid (aZ x.c ⟨6,st,pe,va⟩=none):=by unfold Hid; rw [HR.out,Oc.fin,hg]; rfl
  clear hg
  go_wp2_with fail
  refine cV.mono ?_
  rintro e W9 ⟨rfl,hb9⟩
  have k9:=k8.trans (hb9.mono k8.size)
  clear hb9 cV
  have L2z:=L2.below k9 L2.lt
  have z0:=L2z.cell 0
  have z1:=L2z.cell 1
  have z2:=L2z.cell 2
  have z3:=L2z.cell 3
  have z4:=L2z.cell 4
  obtain ⟨f0,f1,f2,f3,f4⟩:=frz5 L2z
  simp only [List.getElem?_cons_zero,List.getElem?_cons_succ] at z0 z1 z2 z3 z4
  have hgr:=ac (g:=w.heap.size+1) (i:=4) (u:=O U 0) (ac (g:=w.heap.size+1) (i:=3) (u:=O U 0) (ac (g:=w.heap.size+1) (i:=2) (u:=O U 0) (ac (g:=w.heap.size+1) (i:=1) (u:=F none 0 0) (ac (g:=w.heap.size+1) (i:=0) (u:=F none 0 0) (World.grownBy.refl W9 (some (w.heap.size+1)))))))
  have bw:=b2.trans (k9.mono b2.size)
  have bz:=bw.grown hgr bw.size (by rintro _ ⟨⟩; omega)
  go_wp2
  rw [HN.out]
  refine bodyPost_ret (v:=.tuple #[.agg #[F none 0 0,F none 0 0,O U 0,O U 0,O U 0],.bool false]) (by simp [results,Tryz.results186,go_sem, *]) rfl (aC.no rfl bz)
 ·rw [hg] at cV
  have HN:Hid (aZ x.c ⟨6,st,pe,va⟩=some r):=by unfold Hid; rw [HR.out,Oc.fin,hg]; rfl
  clear hg
  go_wp2_with fail
  refine cV.mono ?_
  rintro e W9 ⟨rfl,hb9⟩
  have k9:=k8.trans (hb9.mono k8.size)
  have hO9:=hO8.then hb9
  clear hb9 cV hO8
  obtain ⟨c0,c1,c2,c3,c4⟩:=cells5 hO9.lies
  have L2z:=L2.below k9 L2.lt
  have z0:=L2z.cell 0
  have z1:=L2z.cell 1
  have z2:=L2z.cell 2
  have z3:=L2z.cell 3
  have z4:=L2z.cell 4
  obtain ⟨f0,f1,f2,f3,f4⟩:=frz5 L2z
  simp only [List.getElem?_cons_zero,List.getElem?_cons_succ] at z0 z1 z2 z3 z4
  have hgr:=ac (g:=w.heap.size+1) (i:=4) (u:=O U r.missed) (ac (g:=w.heap.size+1) (i:=3) (u:=O U r.sold) (ac (g:=w.heap.size+1) (i:=2) (u:=O U r.got) (ac (g:=w.heap.size+1) (i:=1) (u:=F A2 r.o.length a2) (ac (g:=w.heap.size+1) (i:=0) (u:=F A1 r.t.length a1) (World.grownBy.refl W9 (some (w.heap.size+1)))))))
  have bw:=b2.trans (k9.mono b2.size)
  have bz:=bw.grown hgr bw.size (by rintro _ ⟨⟩; omega)
  have r8:=af (aj hO9.t L2z ez hgr) b2.size
  have r9:=af (aj hO9.o L2z dY hgr) b2.size
  have R8:=Lib.hid r8; clear r8
  have R9:=Lib.hid r9; clear r9
  clear hgr hO9
  go_wp2
  rw [HN.out]
  refine bodyPost_ret (v:=.tuple #[.agg #[F A1 r.t.length a1,F A2 r.o.length a2,O U r.got,O U r.sold,O U r.missed],.bool true]) (by simp [results,Tryz.results186,go_sem, *]) rfl ?_
  exact aC.yes rfl R8.out R9.out bz
end Go.Proofs.YtoeoimhemojdeaaGreatDoor
