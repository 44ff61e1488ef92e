/- Lemmas. -/
import Derived.Test.YtoeoimhemojdeaaGreatDoorFs29
import Derived.Test.YtoeoimhemojdeaaGreatDoorFs34

set_option linter.unusedVariables false
set_option linter.unusedSimpArgs false
set_option maxHeartbeats 8000000
open Go.Value renaming int → O, slice → F, string → wG
open Go.IntKind renaming i64 → U
open Go.Proofs.Tryz renaming prog → wH

namespace Go.Proofs.YtoeoimhemojdeaaGreatDoor
open Go.RowKit
def i8 (w:World) (B:Nat) (y:Oc) (l:Lg) (v:Value):Prop :=
 ∃ TA tc OA oc,v=.agg #[F TA y.t.length tc,F OA y.o.length oc,O U y.gt,O U y.sd,O U y.ms,wG l.D,wG l.P,O U l.n]∧w.ownsRow B 104 2 (F TA y.t.length tc) y.t.length (y.t.flatMap aq.enc)∧w.ownsRow B 147 3 (F OA y.o.length oc) y.o.length (y.o.flatMap ae.enc)
def vl (w:World) (y:Oc) (l:Lg) (e:Ending) (w' : World):Prop:=∃ v,e=.returned v∧i8 w' w.heap.size y l v∧Below w.heap.size w w'
theorem i8.below {w w' : World} {B:Nat} {y:Oc} {l:Lg} {v:Value} (h:i8 w B y l v) (hb:Below w.heap.size w w'):i8 w' B y l v:=by
 obtain ⟨TA,tc,OA,oc,e,h1,h2⟩:=h
 exact ⟨TA,tc,OA,oc,e,ac h1 hb,ac h2 hb⟩
theorem i8.lower {w:World} {B B' : Nat} {y:Oc} {l:Lg} {v:Value} (h:i8 w B y l v) (hB:B'≤B):i8 w B' y l v:=by
 obtain ⟨TA,tc,OA,oc,e,h1,h2⟩:=h
 exact ⟨TA,tc,OA,oc,e,ah h1 hB,ah h2 hB⟩
theorem i8.as {w:World} {B:Nat} {y:Oc} {l:Lg} {v:Value} (h:i8 w B y l v):∃ X:aO,v=aJ X l∧X.c=y∧aQ w w.heap.size X∧X.t.length≤X.tc:=by
 obtain ⟨TA,tc,OA,oc,e,h1,h2⟩:=h
 exact ⟨y.at TA tc OA oc,e,rfl,⟨aw h1,aw h2⟩,iK h1⟩
theorem ja {w0 w:World} {B g:Nat} {t:TypeId} {x0 x1 x2 x3 x4:Value} {r:List Value} (hL:ai w g t (x0 :: x1 :: x2 :: x3 :: x4 :: r)) (b:Below B w0 w) (hB:B≤g) (a0 a1 a2 a3 a4:Value) :
  ∃ W' : World,Hid ((((((w.setCell ⟨g,0,none⟩ a0).setCell ⟨g,1,none⟩ a1).setCell ⟨g,2,none⟩ a2).setCell ⟨g,3,none⟩ a3).setCell ⟨g,4,none⟩ a4)=W')∧ai W' g t (a0 :: a1 :: a2 :: a3 :: a4 :: r)∧Below B w0 W'∧w.grownBy W' (some g)∧(∀ g' t' cs',g' ≠ g→ai w g' t' cs'→ai W' g' t' cs'):=by
 have gr:w.grownBy (((((w.setCell ⟨g,0,none⟩ a0).setCell ⟨g,1,none⟩ a1).setCell ⟨g,2,none⟩ a2).setCell ⟨g,3,none⟩ a3).setCell ⟨g,4,none⟩ a4) (some g):=ab (g:=g) (i:=4) (u:=a4) (gw4 w g a0 a1 a2 a3)
 exact ⟨_,rfl,(((((hL).set 0 a0).set 1 a1).set 2 a2).set 3 a3).set 4 a4,(((((b).setCell (p:=⟨g,0,none⟩) hB a0).setCell (p:=⟨g,1,none⟩) hB a1).setCell (p:=⟨g,2,none⟩) hB a2).setCell (p:=⟨g,3,none⟩) hB a3).setCell (p:=⟨g,4,none⟩) hB a4,gr,fun g' t' cs' wT h=>h.kept gr (by intro e; injection e with e; exact wT e)⟩
theorem fj:104 ≠ 42:=dD
theorem fk:147 ≠ 42:=dD
def dr (w:World) (B g:Nat) (y:Oc) (l:Lg):Prop :=
 ∃ TA tc OA oc,ai w g 42 [F TA y.t.length tc,F OA y.o.length oc,O U y.gt,O U y.sd,O U y.ms,wG l.D,wG l.P,O U l.n]∧w.ownsRow B 104 2 (F TA y.t.length tc) y.t.length (y.t.flatMap aq.enc)∧w.ownsRow B 147 3 (F OA y.o.length oc) y.o.length (y.o.flatMap ae.enc)
theorem dr.below {w w' : World} {B g:Nat} {y:Oc} {l:Lg} (h:dr w B g y l) (hb:Below w.heap.size w w'):dr w' B g y l:=by
 obtain ⟨TA,tc,OA,oc,hL,h1,h2⟩:=h
 exact ⟨TA,tc,OA,oc,hL.below hb hL.lt,ac h1 hb,ac h2 hb⟩
theorem dr.lower {w:World} {B B' g:Nat} {y:Oc} {l:Lg} (h:dr w B g y l) (hB:B'≤B):dr w B' g y l:=by
 obtain ⟨TA,tc,OA,oc,hL,h1,h2⟩:=h
 exact ⟨TA,tc,OA,oc,hL,ah h1 hB,ah h2 hB⟩
theorem dr.put {w:World} {B g:Nat} {y:Oc} {l:Lg} {TA OA:Option Addr} {tc oc:Nat} {a0 a1 a2 a3 a4 a5 a6 a7:Value} (hL:ai w g 42 [a0,a1,a2,a3,a4,a5,a6,a7]) (h1:w.ownsRow B 104 2 (F TA y.t.length tc) y.t.length (y.t.flatMap aq.enc)) (h2:w.ownsRow B 147 3 (F OA y.o.length oc) y.o.length (y.o.flatMap ae.enc)) :
  dr ((((((((w.setCell ⟨g,0,none⟩ (F TA y.t.length tc)).setCell ⟨g,1,none⟩ (F OA y.o.length oc)).setCell ⟨g,2,none⟩ (O U y.gt)).setCell ⟨g,3,none⟩ (O U y.sd)).setCell ⟨g,4,none⟩ (O U y.ms)).setCell ⟨g,5,none⟩ (wG l.D)).setCell ⟨g,6,none⟩ (wG l.P)).setCell ⟨g,7,none⟩ (O U l.n)) B g y l:=by
 have gr:w.grownBy ((((((((w.setCell ⟨g,0,none⟩ (F TA y.t.length tc)).setCell ⟨g,1,none⟩ (F OA y.o.length oc)).setCell ⟨g,2,none⟩ (O U y.gt)).setCell ⟨g,3,none⟩ (O U y.sd)).setCell ⟨g,4,none⟩ (O U y.ms)).setCell ⟨g,5,none⟩ (wG l.D)).setCell ⟨g,6,none⟩ (wG l.P)).setCell ⟨g,7,none⟩ (O U l.n)) (some g):=ab (g:=g) (i:=7) (u:=O U l.n) (ab (g:=g) (i:=6) (u:=wG l.P) (ab (g:=g) (i:=5) (u:=wG l.D) (gw5 w g (F TA y.t.length tc) (F OA y.o.length oc) (O U y.gt) (O U y.sd) (O U y.ms))))
 exact ⟨TA,tc,OA,oc,nn (hL) (F TA y.t.length tc) (F OA y.o.length oc) (O U y.gt) (O U y.sd) (O U y.ms) (wG l.D) (wG l.P) (O U l.n),ak h1 hL fj gr,ak h2 hL fk gr⟩
set_option maxRecDepth 100000 in
theorem iA (x:aO) (l:Lg) (w:World) (h:aQ w w.heap.size x) (tl:x.t.length≤1048576) (ol:x.o.length≤1048576) :
  Calls wH 44 #[aJ x l] w (vl w x.c l):=by
 have L1:=(ai.new w 42 #[F x.TA x.t.length x.tc,F x.OA x.o.length x.oc,O U x.gt,O U x.sd,O U x.ms,wG l.D,wG l.P,O U l.n]).alloc (.cells #[F none 0 0,F none 0 0,O U 0,O U 0,O U 0,wG ⟨#[]⟩,wG ⟨#[]⟩,O U 0] 42)
 have L2:=ai.new1 w (.cells #[F x.TA x.t.length x.tc,F x.OA x.o.length x.oc,O U x.gt,O U x.sd,O U x.ms,wG l.D,wG l.P,O U l.n] 42) 42 #[F none 0 0,F none 0 0,O U 0,O U 0,O U 0,wG ⟨#[]⟩,wG ⟨#[]⟩,O U 0]
 have b1:=bZ w (.cells #[F x.TA x.t.length x.tc,F x.OA x.o.length x.oc,O U x.gt,O U x.sd,O U x.ms,wG l.D,wG l.P,O U l.n] 42)
 have b2:=b1.alloc b1.size (.cells #[F none 0 0,F none 0 0,O U 0,O U 0,O U 0,wG ⟨#[]⟩,wG ⟨#[]⟩,O U 0] 42)
 have hW:=h.up b2 nR
 have xq:w.heap.size≤w.heap.size+1:=oM
 clear b1 h
 go_enter Tryz.func44,Tryz.ntmps44
 go_wp2_with fail
 generalize ((w.alloc (.cells #[F x.TA x.t.length x.tc,F x.OA x.o.length x.oc,O U x.gt,O U x.sd,O U x.ms,wG l.D,wG l.P,O U l.n] 42)).alloc (.cells #[F none 0 0,F none 0 0,O U 0,O U 0,O U 0,wG ⟨#[]⟩,wG ⟨#[]⟩,O U 0] 42))=W at L1 L2 b2 hW ⊢
 refine al (Sw 6 (fun W9=>Below W.heap.size W W9) (fun W9=>Below w.heap.size w W9∧dr W9 w.heap.size (w.heap.size+1) x.c l)) (fun i w1 w2=>i ∉ [6]→Below w1.heap.size w1 w2) kZ kZ kZ (Sw.start jB.drew) ?_
 simp only [ax,Act.put,sA,gs0,gs1,Nat.zero_add,Nat.reduceAdd]
 refine aa _ vb0 ?_
 refine aa _ (vb1C5 0 L1) ?_
 refine sm [6] (fun v w9=>fh w9 w.heap.size x.c v) (fun vs L9 w9 wK wI hB K9 wJ=>?_) ?_
 next =>
  replace wI:=sb wI wK
  have d1:=fe hB 1
  simp only [d1] at wJ ⊢
  simp only [Act.put,sA,gs0,gs1] at wJ
  go_simp
  refine (sH x w9 (hW.then wI) tl ol).mono ?_
  rintro en w8 ⟨TA,tc,OA,oc,rfl,h1,h2,wL⟩
  exact wJ _ _ _ rfl ⟨TA,tc,OA,oc,rfl,ah h1 (jT (b2).size wI.size),ah h2 (jT (b2).size wI.size)⟩ (Sw.stay wK kZ dD (wI.trans (wL.mono wI.size))) (fun _=>wL)
 refine aa _ vb0 ?_
 apply aa
 case h1 =>
  intro vs L9 w9 wK wI hB K9 wJ
  replace wI:=sb wI wK
  have d3:=fe hB 3
  simp only [d3] at wJ ⊢
  have q0:w9.cell? ⟨w.heap.size,5,none⟩=some (wG l.D):=(L1.below wI L1.lt).cell 5
  have q1:w9.cell? ⟨w.heap.size,6,none⟩=some (wG l.P):=(L1.below wI L1.lt).cell 6
  have q2:w9.cell? ⟨w.heap.size,7,none⟩=some (O U l.n):=(L1.below wI L1.lt).cell 7
  simp only [Act.put,sA,gs0,gs1] at wJ
  go_simp
  exact wJ _ _ rfl (sy wK wI) bR
 refine sm [6] (fun v w9=>i8 w9 w.heap.size x.c l v) (fun vs L9 w9 wK wI hB K9 wJ=>?_) ?_
 next =>
  replace wI:=sb wI wK
  have d4:=fe hB 4
  simp only [d4] at wJ ⊢
  simp only [Act.put,sA,gs0,gs1] at wJ
  obtain ⟨TA,tc,OA,oc,e0,h1,h2⟩:=fs hB 2
  simp only [e0] at wJ ⊢
  go_simp
  exact wJ _ _ _ rfl ⟨TA,tc,OA,oc,rfl,h1,h2⟩ (sy wK wI) bR
 refine aa (undef) (fun vs L9 w9 wK wI hB K9 wJ=>?_) ?_
 next =>
  replace wI:=wI.here wK
  obtain ⟨TA,tc,OA,oc,e0,h1,h2⟩:=fs hB 5
  simp only [e0] at wJ ⊢
  have Lr:=L2.below wI L2.lt
  obtain ⟨z0,z1,z2,z3,z4,z5,z6,z7⟩:=cells8 Lr
  obtain ⟨f0,f1,f2,f3,f4,f5,f6,f7⟩:=frz8 Lr
  have xo:=jZ (dr.put (y:=x.c) (l:=l) Lr h1 h2)
  have xK:=jZ (eX (g:=(w.heap.size+1)) ((b2).trans (wI.mono (b2).size)) xq (F TA x.t.length tc) (F OA x.o.length oc) (O U x.gt) (O U x.sd) (O U x.ms) (wG l.D) (wG l.P) (O U l.n))
  clear Lr h1 h2
  go_simp
  exact wJ _ _ rfl (Sw.turn ⟨xK.out,xo.out⟩) nq
 refine ar fun vs L9 w9 wS wI hB=>?_
 replace wI:=wI.done wS dD
 obtain ⟨hD,TA,tc,OA,oc,hN,hT,hO⟩:=wI
 obtain ⟨k0,k1,k2,k3,k4,k5,k6,k7⟩:=cells8 hN
 clear hN hB
 go_wp2
 refine bodyPost_ret (v:=.agg #[F TA x.c.t.length tc,F OA x.c.o.length oc,O U x.c.gt,O U x.c.sd,O U x.c.ms,wG l.D,wG l.P,O U l.n]) (by simp [results,Tryz.results44,go_sem, *]) rfl ⟨_,rfl,⟨TA,tc,OA,oc,rfl,hT,hO⟩,hD⟩
set_option maxRecDepth 100000 in
theorem fI (x:aO) (l:Lg) (g:Nat) (w:World) (hL:ai w g 42 [F x.TA x.t.length x.tc,F x.OA x.o.length x.oc,O U x.gt,O U x.sd,O U x.ms,wG l.D,wG l.P,O U l.n]) (h:aQ w w.heap.size x) (tl:x.t.length≤1048576) (ol:x.o.length≤1048576) :
  Calls wH 50 #[.pointer (some ⟨g,0,none⟩)] w (vl w x.c l):=by
 have L1:=hL.alloc (.cells #[F none 0 0,F none 0 0,O U 0,O U 0,O U 0,wG ⟨#[]⟩,wG ⟨#[]⟩,O U 0] 42)
 have L2:=ai.new w 42 #[F none 0 0,F none 0 0,O U 0,O U 0,O U 0,wG ⟨#[]⟩,wG ⟨#[]⟩,O U 0]
 have b2:=bZ w (.cells #[F none 0 0,F none 0 0,O U 0,O U 0,O U 0,wG ⟨#[]⟩,wG ⟨#[]⟩,O U 0] 42)
 have hW:=h.up b2 nR
 have xq:w.heap.size≤w.heap.size:=Nat.le_refl _
 clear h hL
 go_enter Tryz.func50,Tryz.ntmps50
 go_wp2_with fail
 generalize w.alloc (.cells #[F none 0 0,F none 0 0,O U 0,O U 0,O U 0,wG ⟨#[]⟩,wG ⟨#[]⟩,O U 0] 42)=W at L1 L2 b2 hW ⊢
 refine al (Sw 9 (fun W9=>Below W.heap.size W W9) (fun W9=>Below w.heap.size w W9∧dr W9 w.heap.size w.heap.size x.c l)) (fun i w1 w2=>i ∉ [9]→Below w1.heap.size w1 w2) kZ kZ kZ (Sw.start jB.drew) ?_
 simp only [ax,Act.put,sA,gs0,gs1,Nat.zero_add,Nat.reduceAdd]
 refine aa _ vb0 ?_
 refine aa _ (vb1 0) ?_
 refine aa _ (vb1 1) ?_
 refine sm [9] (fun v w9=>fh w9 w.heap.size x.c v) (fun vs L9 w9 wK wI hB K9 wJ=>?_) ?_
 next =>
  replace wI:=sb wI wK
  have d2:=fe hB 2
  simp only [d2] at wJ ⊢
  simp only [Act.put,sA,gs0,gs1] at wJ
  go_simp
  refine (ox x g w9 (jH (L1.below wI L1.lt) (hW.then wI)) tl ol).mono ?_
  rintro en w8 ⟨TA,tc,OA,oc,rfl,h1,h2,wL⟩
  exact wJ _ _ _ rfl ⟨TA,tc,OA,oc,rfl,ah h1 (jT (b2).size wI.size),ah h2 (jT (b2).size wI.size)⟩ (Sw.stay wK kZ dD (wI.trans (wL.mono wI.size))) (fun _=>wL)
 refine aa _ vb0 ?_
 refine aa _ (vb1 4) ?_
 refine aa _ (vb1 5) ?_
 apply aa
 case h1 =>
  intro vs L9 w9 wK wI hB K9 wJ
  replace wI:=sb wI wK
  have d6:=fe hB 6
  simp only [d6] at wJ ⊢
  have q0:w9.cell? ⟨g,5,none⟩=some (wG l.D):=(L1.below wI L1.lt).cell 5
  have q1:w9.cell? ⟨g,6,none⟩=some (wG l.P):=(L1.below wI L1.lt).cell 6
  have q2:w9.cell? ⟨g,7,none⟩=some (O U l.n):=(L1.below wI L1.lt).cell 7
  simp only [Act.put,sA,gs0,gs1] at wJ
  go_simp
  exact wJ _ _ rfl (sy wK wI) bR
 refine sm [9] (fun v w9=>i8 w9 w.heap.size x.c l v) (fun vs L9 w9 wK wI hB K9 wJ=>?_) ?_
 next =>
  replace wI:=sb wI wK
  have d7:=fe hB 7
  simp only [d7] at wJ ⊢
  simp only [Act.put,sA,gs0,gs1] at wJ
  obtain ⟨TA,tc,OA,oc,e0,h1,h2⟩:=fs hB 3
  simp only [e0] at wJ ⊢
  go_simp
  exact wJ _ _ _ rfl ⟨TA,tc,OA,oc,rfl,h1,h2⟩ (sy wK wI) bR
 refine aa (undef) (fun vs L9 w9 wK wI hB K9 wJ=>?_) ?_
 next =>
  replace wI:=wI.here wK
  obtain ⟨TA,tc,OA,oc,e0,h1,h2⟩:=fs hB 8
  simp only [e0] at wJ ⊢
  have Lr:=L2.below wI L2.lt
  obtain ⟨z0,z1,z2,z3,z4,z5,z6,z7⟩:=cells8 Lr
  obtain ⟨f0,f1,f2,f3,f4,f5,f6,f7⟩:=frz8 Lr
  have xo:=jZ (dr.put (y:=x.c) (l:=l) Lr h1 h2)
  have xK:=jZ (eX (g:=w.heap.size) ((b2).trans (wI.mono (b2).size)) xq (F TA x.t.length tc) (F OA x.o.length oc) (O U x.gt) (O U x.sd) (O U x.ms) (wG l.D) (wG l.P) (O U l.n))
  clear Lr h1 h2
  go_simp
  exact wJ _ _ rfl (Sw.turn ⟨xK.out,xo.out⟩) nq
 refine ar fun vs L9 w9 wS wI hB=>?_
 replace wI:=wI.done wS dD
 obtain ⟨hD,TA,tc,OA,oc,hN,hT,hO⟩:=wI
 obtain ⟨k0,k1,k2,k3,k4,k5,k6,k7⟩:=cells8 hN
 clear hN hB
 go_wp2
 refine bodyPost_ret (v:=.agg #[F TA x.c.t.length tc,F OA x.c.o.length oc,O U x.c.gt,O U x.c.sd,O U x.c.ms,wG l.D,wG l.P,O U l.n]) (by simp [results,Tryz.results50,go_sem, *]) rfl ⟨_,rfl,⟨TA,tc,OA,oc,rfl,hT,hO⟩,hD⟩
end Go.Proofs.YtoeoimhemojdeaaGreatDoor
