/- Lemmas. -/
import Derived.Deep.DeepCutAuto
import Derived.Lib.Split
import Derived.Lib.CountLaws
import Derived.Test.YtoeoimhemojdeaaGreatDoorFc33
import Derived.Test.YtoeoimhemojdeaaGreatDoorFc34

set_option linter.unusedVariables false
set_option linter.unusedSimpArgs false
set_option maxHeartbeats 8000000
open Go.Value renaming int → O, slice → F, string → vw
open Go.IntKind renaming i64 → U
open Go.Proofs.Tryz renaming prog → vx

namespace Go.Proofs.YtoeoimhemojdeaaGreatDoor
open Go.RowKit
def iv (w:World) (B:Nat) (y:Oc) (l:Lg) (v:Value):Prop :=
 ∃ TA tc OA oc,v=.agg #[F TA y.t.length tc,F OA y.o.length oc,O U y.gt,O U y.sd,O U y.ms,vw l.D,vw l.P,O U l.n]∧w.ownsRow B 104 2 (F TA y.t.length tc) y.t.length (y.t.flatMap aq.enc)∧w.ownsRow B 147 3 (F OA y.o.length oc) y.o.length (y.o.flatMap ae.enc)
def un (w:World) (y:Oc) (l:Lg) (e:Ending) (w' : World):Prop:=∃ v,e=.returned v∧iv w' w.heap.size y l v∧Below w.heap.size w w'
theorem iv.below {w w' : World} {B:Nat} {y:Oc} {l:Lg} {v:Value} (h:iv w B y l v) (hb:Below w.heap.size w w'):iv w' B y l v:=by
 obtain ⟨TA,tc,OA,oc,e,h1,h2⟩:=h
 exact ⟨TA,tc,OA,oc,e,ac h1 hb,ac h2 hb⟩
theorem iv.lower {w:World} {B B' : Nat} {y:Oc} {l:Lg} {v:Value} (h:iv w B y l v) (hB:B'≤B):iv w B' y l v:=by
 obtain ⟨TA,tc,OA,oc,e,h1,h2⟩:=h
 exact ⟨TA,tc,OA,oc,e,ai h1 hB,ai h2 hB⟩
theorem iv.as {w:World} {B:Nat} {y:Oc} {l:Lg} {v:Value} (h:iv w B y l v):∃ X:aO,v=aI X l∧X.c=y∧aP w w.heap.size X∧X.t.length≤X.tc:=by
 obtain ⟨TA,tc,OA,oc,e,h1,h2⟩:=h
 exact ⟨y.at TA tc OA oc,e,rfl,⟨ay h1,ay h2⟩,iz h1⟩
theorem iM {w0 w:World} {B g:Nat} {t:TypeId} {x0 x1 x2 x3 x4:Value} {r:List Value} (hL:ah w g t (x0 :: x1 :: x2 :: x3 :: x4 :: r)) (b:Below B w0 w) (hB:B≤g) (a0 a1 a2 a3 a4:Value) :
  ∃ W' : World,Hid ((((((w.setCell ⟨g,0,none⟩ a0).setCell ⟨g,1,none⟩ a1).setCell ⟨g,2,none⟩ a2).setCell ⟨g,3,none⟩ a3).setCell ⟨g,4,none⟩ a4)=W')∧ah W' g t (a0 :: a1 :: a2 :: a3 :: a4 :: r)∧Below B w0 W'∧w.grownBy W' (some g)∧(∀ g' t' cs',g' ≠ g→ah w g' t' cs'→ah W' g' t' cs'):=by
 have gr:w.grownBy (((((w.setCell ⟨g,0,none⟩ a0).setCell ⟨g,1,none⟩ a1).setCell ⟨g,2,none⟩ a2).setCell ⟨g,3,none⟩ a3).setCell ⟨g,4,none⟩ a4) (some g):=ab (g:=g) (i:=4) (u:=a4) (gw4 w g a0 a1 a2 a3)
 exact ⟨_,rfl,(((((hL).set 0 a0).set 1 a1).set 2 a2).set 3 a3).set 4 a4,(((((b).setCell (p:=⟨g,0,none⟩) hB a0).setCell (p:=⟨g,1,none⟩) hB a1).setCell (p:=⟨g,2,none⟩) hB a2).setCell (p:=⟨g,3,none⟩) hB a3).setCell (p:=⟨g,4,none⟩) hB a4,gr,fun g' t' cs' vJ h=>h.kept gr (by intro e; injection e with e; exact vJ e)⟩
theorem ft:104 ≠ 42:=dD
theorem fu:147 ≠ 42:=dD
def di (w:World) (B g:Nat) (y:Oc) (l:Lg):Prop :=
 ∃ TA tc OA oc,ah w g 42 [F TA y.t.length tc,F OA y.o.length oc,O U y.gt,O U y.sd,O U y.ms,vw l.D,vw l.P,O U l.n]∧w.ownsRow B 104 2 (F TA y.t.length tc) y.t.length (y.t.flatMap aq.enc)∧w.ownsRow B 147 3 (F OA y.o.length oc) y.o.length (y.o.flatMap ae.enc)
theorem di.below {w w' : World} {B g:Nat} {y:Oc} {l:Lg} (h:di w B g y l) (hb:Below w.heap.size w w'):di w' B g y l:=by
 obtain ⟨TA,tc,OA,oc,hL,h1,h2⟩:=h
 exact ⟨TA,tc,OA,oc,hL.below hb hL.lt,ac h1 hb,ac h2 hb⟩
theorem di.lower {w:World} {B B' g:Nat} {y:Oc} {l:Lg} (h:di w B g y l) (hB:B'≤B):di w B' g y l:=by
 obtain ⟨TA,tc,OA,oc,hL,h1,h2⟩:=h
 exact ⟨TA,tc,OA,oc,hL,ai h1 hB,ai h2 hB⟩
theorem di.put {w:World} {B g:Nat} {y:Oc} {l:Lg} {TA OA:Option Addr} {tc oc:Nat} {a0 a1 a2 a3 a4 a5 a6 a7:Value} (hL:ah w g 42 [a0,a1,a2,a3,a4,a5,a6,a7]) (h1:w.ownsRow B 104 2 (F TA y.t.length tc) y.t.length (y.t.flatMap aq.enc)) (h2:w.ownsRow B 147 3 (F OA y.o.length oc) y.o.length (y.o.flatMap ae.enc)) :
  di ((((((((w.setCell ⟨g,0,none⟩ (F TA y.t.length tc)).setCell ⟨g,1,none⟩ (F OA y.o.length oc)).setCell ⟨g,2,none⟩ (O U y.gt)).setCell ⟨g,3,none⟩ (O U y.sd)).setCell ⟨g,4,none⟩ (O U y.ms)).setCell ⟨g,5,none⟩ (vw l.D)).setCell ⟨g,6,none⟩ (vw l.P)).setCell ⟨g,7,none⟩ (O U l.n)) B g y l:=by
 have gr:w.grownBy ((((((((w.setCell ⟨g,0,none⟩ (F TA y.t.length tc)).setCell ⟨g,1,none⟩ (F OA y.o.length oc)).setCell ⟨g,2,none⟩ (O U y.gt)).setCell ⟨g,3,none⟩ (O U y.sd)).setCell ⟨g,4,none⟩ (O U y.ms)).setCell ⟨g,5,none⟩ (vw l.D)).setCell ⟨g,6,none⟩ (vw l.P)).setCell ⟨g,7,none⟩ (O U l.n)) (some g):=ab (g:=g) (i:=7) (u:=O U l.n) (ab (g:=g) (i:=6) (u:=vw l.P) (ab (g:=g) (i:=5) (u:=vw l.D) (gw5 w g (F TA y.t.length tc) (F OA y.o.length oc) (O U y.gt) (O U y.sd) (O U y.ms))))
 exact ⟨TA,tc,OA,oc,oh (hL) (F TA y.t.length tc) (F OA y.o.length oc) (O U y.gt) (O U y.sd) (O U y.ms) (vw l.D) (vw l.P) (O U l.n),ak h1 hL ft gr,ak h2 hL fu gr⟩
set_option maxRecDepth 100000 in
theorem io (x:aO) (l:Lg) (w:World) (h:aP w w.heap.size x) (tl:x.t.length≤1048576) (ol:x.o.length≤1048576) :
  Calls vx 44 #[aI x l] w (un w x.c l):=by
 have L1:=(ah.new w 42 #[F x.TA x.t.length x.tc,F x.OA x.o.length x.oc,O U x.gt,O U x.sd,O U x.ms,vw l.D,vw l.P,O U l.n]).alloc (.cells #[F none 0 0,F none 0 0,O U 0,O U 0,O U 0,vw ⟨#[]⟩,vw ⟨#[]⟩,O U 0] 42)
 have L2:=ah.new1 w (.cells #[F x.TA x.t.length x.tc,F x.OA x.o.length x.oc,O U x.gt,O U x.sd,O U x.ms,vw l.D,vw l.P,O U l.n] 42) 42 #[F none 0 0,F none 0 0,O U 0,O U 0,O U 0,vw ⟨#[]⟩,vw ⟨#[]⟩,O U 0]
 have b1:=bZ w (.cells #[F x.TA x.t.length x.tc,F x.OA x.o.length x.oc,O U x.gt,O U x.sd,O U x.ms,vw l.D,vw l.P,O U l.n] 42)
 have b2:=b1.alloc b1.size (.cells #[F none 0 0,F none 0 0,O U 0,O U 0,O U 0,vw ⟨#[]⟩,vw ⟨#[]⟩,O U 0] 42)
 have hW:=h.up b2 nR
 have we:w.heap.size≤w.heap.size+1:=oM
 clear b1 h
 go_enter Tryz.func44,Tryz.ntmps44
 go_wp2_with fail
 generalize ((w.alloc (.cells #[F x.TA x.t.length x.tc,F x.OA x.o.length x.oc,O U x.gt,O U x.sd,O U x.ms,vw l.D,vw l.P,O U l.n] 42)).alloc (.cells #[F none 0 0,F none 0 0,O U 0,O U 0,O U 0,vw ⟨#[]⟩,vw ⟨#[]⟩,O U 0] 42))=W at L1 L2 b2 hW ⊢
 refine al (Sw 6 (fun W9=>Below W.heap.size W W9) (fun W9=>Below w.heap.size w W9∧di W9 w.heap.size (w.heap.size+1) x.c l)) (fun i w1 w2=>i ∉ [6]→Below w1.heap.size w1 w2) kZ kZ kZ (Sw.start jB.drew) ?_
 simp only [aw,Act.put,sA,gs0,gs1,Nat.zero_add,Nat.reduceAdd]
 refine aa _ vb0 ?_
 refine aa _ (vb1C5 0 L1) ?_
 refine sm [6] (fun v w9=>eW w9 w.heap.size x.c v) (fun vs L9 w9 vA vy hB K9 vz=>?_) ?_
 next =>
  replace vy:=sb vy vA
  have d1:=fe hB 1
  simp only [d1] at vz ⊢
  simp only [Act.put,sA,gs0,gs1] at vz
  go_simp
  refine (rI x w9 (hW.then vy) tl ol).mono ?_
  rintro en w8 ⟨TA,tc,OA,oc,rfl,h1,h2,vB⟩
  exact vz _ _ _ rfl ⟨TA,tc,OA,oc,rfl,ai h1 (jT (b2).size vy.size),ai h2 (jT (b2).size vy.size)⟩ (Sw.stay vA kZ dD (vy.trans (vB.mono vy.size))) (fun _=>vB)
 refine aa _ vb0 ?_
 apply aa
 case h1 =>
  intro vs L9 w9 vA vy hB K9 vz
  replace vy:=sb vy vA
  have d3:=fe hB 3
  simp only [d3] at vz ⊢
  have q0:w9.cell? ⟨w.heap.size,5,none⟩=some (vw l.D):=(L1.below vy L1.lt).cell 5
  have q1:w9.cell? ⟨w.heap.size,6,none⟩=some (vw l.P):=(L1.below vy L1.lt).cell 6
  have q2:w9.cell? ⟨w.heap.size,7,none⟩=some (O U l.n):=(L1.below vy L1.lt).cell 7
  simp only [Act.put,sA,gs0,gs1] at vz
  go_simp
  exact vz _ _ rfl (sy vA vy) bR
 refine sm [6] (fun v w9=>iv w9 w.heap.size x.c l v) (fun vs L9 w9 vA vy hB K9 vz=>?_) ?_
 next =>
  replace vy:=sb vy vA
  have d4:=fe hB 4
  simp only [d4] at vz ⊢
  simp only [Act.put,sA,gs0,gs1] at vz
  obtain ⟨TA,tc,OA,oc,e0,h1,h2⟩:=fs hB 2
  simp only [e0] at vz ⊢
  go_simp
  exact vz _ _ _ rfl ⟨TA,tc,OA,oc,rfl,h1,h2⟩ (sy vA vy) bR
 refine aa (undef) (fun vs L9 w9 vA vy hB K9 vz=>?_) ?_
 next =>
  replace vy:=vy.here vA
  obtain ⟨TA,tc,OA,oc,e0,h1,h2⟩:=fs hB 5
  simp only [e0] at vz ⊢
  have Lr:=L2.below vy L2.lt
  obtain ⟨z0,z1,z2,z3,z4,z5,z6,z7⟩:=cells8 Lr
  obtain ⟨f0,f1,f2,f3,f4,f5,f6,f7⟩:=frz8 Lr
  have wb:=jZ (di.put (y:=x.c) (l:=l) Lr h1 h2)
  have wI:=jZ (eO (g:=(w.heap.size+1)) ((b2).trans (vy.mono (b2).size)) we (F TA x.t.length tc) (F OA x.o.length oc) (O U x.gt) (O U x.sd) (O U x.ms) (vw l.D) (vw l.P) (O U l.n))
  clear Lr h1 h2
  go_simp
  exact vz _ _ rfl (Sw.turn ⟨wI.out,wb.out⟩) nq
 refine au fun vs L9 w9 vI vy hB=>?_
 replace vy:=vy.done vI dD
 obtain ⟨hD,TA,tc,OA,oc,hN,hT,hO⟩:=vy
 obtain ⟨k0,k1,k2,k3,k4,k5,k6,k7⟩:=cells8 hN
 clear hN hB
 go_wp2
 refine bodyPost_ret (v:=.agg #[F TA x.c.t.length tc,F OA x.c.o.length oc,O U x.c.gt,O U x.c.sd,O U x.c.ms,vw l.D,vw l.P,O U l.n]) (by simp [results,Tryz.results44,go_sem, *]) rfl ⟨_,rfl,⟨TA,tc,OA,oc,rfl,hT,hO⟩,hD⟩
set_option maxRecDepth 100000 in
theorem fA (x:aO) (l:Lg) (g:Nat) (w:World) (hL:ah w g 42 [F x.TA x.t.length x.tc,F x.OA x.o.length x.oc,O U x.gt,O U x.sd,O U x.ms,vw l.D,vw l.P,O U l.n]) (h:aP w w.heap.size x) (tl:x.t.length≤1048576) (ol:x.o.length≤1048576) :
  Calls vx 50 #[.pointer (some ⟨g,0,none⟩)] w (un w x.c l):=by
 have L1:=hL.alloc (.cells #[F none 0 0,F none 0 0,O U 0,O U 0,O U 0,vw ⟨#[]⟩,vw ⟨#[]⟩,O U 0] 42)
 have L2:=ah.new w 42 #[F none 0 0,F none 0 0,O U 0,O U 0,O U 0,vw ⟨#[]⟩,vw ⟨#[]⟩,O U 0]
 have b2:=bZ w (.cells #[F none 0 0,F none 0 0,O U 0,O U 0,O U 0,vw ⟨#[]⟩,vw ⟨#[]⟩,O U 0] 42)
 have hW:=h.up b2 nR
 have we:w.heap.size≤w.heap.size:=Nat.le_refl _
 clear h hL
 go_enter Tryz.func50,Tryz.ntmps50
 go_wp2_with fail
 generalize w.alloc (.cells #[F none 0 0,F none 0 0,O U 0,O U 0,O U 0,vw ⟨#[]⟩,vw ⟨#[]⟩,O U 0] 42)=W at L1 L2 b2 hW ⊢
 refine al (Sw 9 (fun W9=>Below W.heap.size W W9) (fun W9=>Below w.heap.size w W9∧di W9 w.heap.size w.heap.size x.c l)) (fun i w1 w2=>i ∉ [9]→Below w1.heap.size w1 w2) kZ kZ kZ (Sw.start jB.drew) ?_
 simp only [aw,Act.put,sA,gs0,gs1,Nat.zero_add,Nat.reduceAdd]
 refine aa _ vb0 ?_
 refine aa _ (vb1 0) ?_
 refine aa _ (vb1 1) ?_
 refine sm [9] (fun v w9=>eW w9 w.heap.size x.c v) (fun vs L9 w9 vA vy hB K9 vz=>?_) ?_
 next =>
  replace vy:=sb vy vA
  have d2:=fe hB 2
  simp only [d2] at vz ⊢
  simp only [Act.put,sA,gs0,gs1] at vz
  go_simp
  refine (nI x g w9 (kG (L1.below vy L1.lt) (hW.then vy)) tl ol).mono ?_
  rintro en w8 ⟨TA,tc,OA,oc,rfl,h1,h2,vB⟩
  exact vz _ _ _ rfl ⟨TA,tc,OA,oc,rfl,ai h1 (jT (b2).size vy.size),ai h2 (jT (b2).size vy.size)⟩ (Sw.stay vA kZ dD (vy.trans (vB.mono vy.size))) (fun _=>vB)
 refine aa _ vb0 ?_
 refine aa _ (vb1 4) ?_
 refine aa _ (vb1 5) ?_
 apply aa
 case h1 =>
  intro vs L9 w9 vA vy hB K9 vz
  replace vy:=sb vy vA
  have d6:=fe hB 6
  simp only [d6] at vz ⊢
  have q0:w9.cell? ⟨g,5,none⟩=some (vw l.D):=(L1.below vy L1.lt).cell 5
  have q1:w9.cell? ⟨g,6,none⟩=some (vw l.P):=(L1.below vy L1.lt).cell 6
  have q2:w9.cell? ⟨g,7,none⟩=some (O U l.n):=(L1.below vy L1.lt).cell 7
  simp only [Act.put,sA,gs0,gs1] at vz
  go_simp
  exact vz _ _ rfl (sy vA vy) bR
 refine sm [9] (fun v w9=>iv w9 w.heap.size x.c l v) (fun vs L9 w9 vA vy hB K9 vz=>?_) ?_
 next =>
  replace vy:=sb vy vA
  have d7:=fe hB 7
  simp only [d7] at vz ⊢
  simp only [Act.put,sA,gs0,gs1] at vz
  obtain ⟨TA,tc,OA,oc,e0,h1,h2⟩:=fs hB 3
  simp only [e0] at vz ⊢
  go_simp
  exact vz _ _ _ rfl ⟨TA,tc,OA,oc,rfl,h1,h2⟩ (sy vA vy) bR
 refine aa (undef) (fun vs L9 w9 vA vy hB K9 vz=>?_) ?_
 next =>
  replace vy:=vy.here vA
  obtain ⟨TA,tc,OA,oc,e0,h1,h2⟩:=fs hB 8
  simp only [e0] at vz ⊢
  have Lr:=L2.below vy L2.lt
  obtain ⟨z0,z1,z2,z3,z4,z5,z6,z7⟩:=cells8 Lr
  obtain ⟨f0,f1,f2,f3,f4,f5,f6,f7⟩:=frz8 Lr
  have wb:=jZ (di.put (y:=x.c) (l:=l) Lr h1 h2)
  have wI:=jZ (eO (g:=w.heap.size) ((b2).trans (vy.mono (b2).size)) we (F TA x.t.length tc) (F OA x.o.length oc) (O U x.gt) (O U x.sd) (O U x.ms) (vw l.D) (vw l.P) (O U l.n))
  clear Lr h1 h2
  go_simp
  exact vz _ _ rfl (Sw.turn ⟨wI.out,wb.out⟩) nq
 refine au fun vs L9 w9 vI vy hB=>?_
 replace vy:=vy.done vI dD
 obtain ⟨hD,TA,tc,OA,oc,hN,hT,hO⟩:=vy
 obtain ⟨k0,k1,k2,k3,k4,k5,k6,k7⟩:=cells8 hN
 clear hN hB
 go_wp2
 refine bodyPost_ret (v:=.agg #[F TA x.c.t.length tc,F OA x.c.o.length oc,O U x.c.gt,O U x.c.sd,O U x.c.ms,vw l.D,vw l.P,O U l.n]) (by simp [results,Tryz.results50,go_sem, *]) rfl ⟨_,rfl,⟨TA,tc,OA,oc,rfl,hT,hO⟩,hD⟩
def fw (w:World) (B:Nat) (x:aO) (l:Lg) (y:Oc) (v:Value):Prop :=
 (v=aI x l∧y=x.c) ∨ ∃ TA tc OA oc,v=aI (y.at TA tc OA oc) l∧w.ownsRow B 104 2 (F TA y.t.length tc) y.t.length (y.t.flatMap aq.enc)∧w.ownsRow B 147 3 (F OA y.o.length oc) y.o.length (y.o.flatMap ae.enc)
theorem fw.below {w w' : World} {B:Nat} {x:aO} {l:Lg} {y:Oc} {v:Value} (h:fw w B x l y v) (hb:Below w.heap.size w w'):fw w' B x l y v:=by
 rcases h with h | ⟨TA,tc,OA,oc,e,h1,h2⟩
 ·exact .inl h
 ·exact .inr ⟨TA,tc,OA,oc,e,ac h1 hb,ac h2 hb⟩
theorem fw.lower {w:World} {B B' : Nat} {x:aO} {l:Lg} {y:Oc} {v:Value} (h:fw w B x l y v) (hB:B'≤B):fw w B' x l y v:=by
 rcases h with h | ⟨TA,tc,OA,oc,e,h1,h2⟩
 ·exact .inl h
 ·exact .inr ⟨TA,tc,OA,oc,e,ai h1 hB,ai h2 hB⟩
theorem fw.kept {w w' : World} {B g:Nat} {x:aO} {l:Lg} {y:Oc} {v:Value} {cs:List Value} (h:fw w B x l y v) (hL:ah w g 42 cs) (hg:w.grownBy w' (some g)):fw w' B x l y v:=by
 rcases h with h | ⟨TA,tc,OA,oc,e,h1,h2⟩
 ·exact .inl h
 ·exact .inr ⟨TA,tc,OA,oc,e,ak h1 hL ft hg,ak h2 hL fu hg⟩
theorem fw.as {w:World} {B:Nat} {x:aO} {l:Lg} {y:Oc} {v:Value} (h:fw w B x l y v) (hx:aP w w.heap.size x):∃ X:aO,v=aI X l∧X.c=y∧aP w w.heap.size X:=by
 rcases h with ⟨rfl,rfl⟩ | ⟨TA,tc,OA,oc,rfl,h1,h2⟩
 ·exact ⟨x,rfl,rfl,hx⟩
 ·exact ⟨y.at TA tc OA oc,rfl,rfl,ay h1,ay h2⟩
def fx (x:aO) (R:Option (Oc × ByteArray)):Oc:=(R.map Prod.fst).getD x.c
def js (R:Option (Oc × ByteArray)):ByteArray:=(R.map Prod.snd).getD cJ
def bo (w:World) (x:aO) (l:Lg) (R:Option (Oc × ByteArray)) (e:Ending) (w' : World):Prop :=
 ∃ v,e=.returned (.tuple #[v,vw (js R)])∧fw w' w.heap.size x l (fx x R) v∧Below w.heap.size w w'
theorem bo.mk {w w' : World} {x:aO} {l:Lg} {R:Option (Oc × ByteArray)} {v:Value} {T:ByteArray} (hT:js R=T) (h1:fw w' w.heap.size x l (fx x R) v) (h2:Below w.heap.size w w'):bo w x l R (.returned (.tuple #[v,vw T])) w':=by
 subst hT; exact ⟨v,rfl,h1,h2⟩
theorem i8 (x:aO) (s:cU) (w:World) (h:aP w w.heap.size x) (vM:x.t.length≤x.tc):Calls vx 76 #[x.val,s.val] w (aE w (fY x.c s)):=jj x s w h vM
set_option maxRecDepth 100000 in
theorem td (x:aO) (l:Lg) (kd st pe va:Int) (w:World) (h:aP w w.heap.size x) (vM:x.t.length≤x.tc) (hN:fY x.c ⟨kd,st,pe,va⟩=none) :
  Calls vx 89 #[aI x l,.agg #[O U kd,O U st,O U pe,O U va]] w (bo w x l none):=by
 have L1:=((ah.new w 42 #[F x.TA x.t.length x.tc,F x.OA x.o.length x.oc,O U x.gt,O U x.sd,O U x.ms,vw l.D,vw l.P,O U l.n]).alloc (.cells #[O U kd,O U st,O U pe,O U va] 112)).alloc (.cells #[F none 0 0,F none 0 0,O U 0,O U 0,O U 0,vw ⟨#[]⟩,vw ⟨#[]⟩,O U 0] 42)
 have L2:=(ah.new1 w (.cells #[F x.TA x.t.length x.tc,F x.OA x.o.length x.oc,O U x.gt,O U x.sd,O U x.ms,vw l.D,vw l.P,O U l.n] 42) 112 #[O U kd,O U st,O U pe,O U va]).alloc (.cells #[F none 0 0,F none 0 0,O U 0,O U 0,O U 0,vw ⟨#[]⟩,vw ⟨#[]⟩,O U 0] 42)
 have L3:=ah.new2 w (.cells #[F x.TA x.t.length x.tc,F x.OA x.o.length x.oc,O U x.gt,O U x.sd,O U x.ms,vw l.D,vw l.P,O U l.n] 42) (.cells #[O U kd,O U st,O U pe,O U va] 112) 42 #[F none 0 0,F none 0 0,O U 0,O U 0,O U 0,vw ⟨#[]⟩,vw ⟨#[]⟩,O U 0]
 have b1:=bZ w (.cells #[F x.TA x.t.length x.tc,F x.OA x.o.length x.oc,O U x.gt,O U x.sd,O U x.ms,vw l.D,vw l.P,O U l.n] 42)
 have b2:=b1.alloc b1.size (.cells #[O U kd,O U st,O U pe,O U va] 112)
 have b3:=b2.alloc b2.size (.cells #[F none 0 0,F none 0 0,O U 0,O U 0,O U 0,vw ⟨#[]⟩,vw ⟨#[]⟩,O U 0] 42)
 have hW:=h.up b3 nR
 have we:w.heap.size≤w.heap.size+1+1:=oM
 clear b1 b2 h
 have cS:=fun W hR=>i8 x ⟨kd,st,pe,va⟩ W hR vM
 rw [hN] at cS
 clear hN
 go_enter Tryz.func89,Tryz.ntmps89
 go_wp2_with fail
 generalize (((w.alloc (.cells #[F x.TA x.t.length x.tc,F x.OA x.o.length x.oc,O U x.gt,O U x.sd,O U x.ms,vw l.D,vw l.P,O U l.n] 42)).alloc (.cells #[O U kd,O U st,O U pe,O U va] 112)).alloc (.cells #[F none 0 0,F none 0 0,O U 0,O U 0,O U 0,vw ⟨#[]⟩,vw ⟨#[]⟩,O U 0] 42))=W at L1 L2 L3 b3 hW ⊢
 refine (cS W hW).mono ?_
 rintro e W1 ⟨TA,tc,OA,oc,rfl,hT,hO,hb⟩
 simp only [cz,Option.getD_none,Option.isSome_none,Oc.at,aO.val,Oc.zero,List.length_nil]
 have vE:=(Below.refl W1.heap.size W1).alloc nR (.cells #[F TA 0 tc,F OA 0 oc,O U 0,O U 0,O U 0] 40)
 have vC:=av hb vE
 have K1:=L1.below vC L1.lt
 have K3:=L3.below vC L3.lt
 have b4:=av b3 vC
 clear vE hb vC L1 L2 L3 b3 hT hO hW
 obtain ⟨c0,c1,c2,c3,c4,c5,c6,c7⟩:=cells8 K1
 obtain ⟨z0,z1,z2,z3,z4,z5,z6,z7⟩:=cells8 K3
 obtain ⟨f0,f1,f2,f3,f4,f5,f6,f7⟩:=frz8 K3
 have bz:=jZ (eO (g:=w.heap.size+1+1) (b4) we (F x.TA x.t.length x.tc) (F x.OA x.o.length x.oc) (O U x.gt) (O U x.sd) (O U x.ms) (vw l.D) (vw l.P) (O U l.n))
 clear K1 K3 b4
 go_wp2
 refine bodyPost_ret (v:=.tuple #[aI x l,vw ⟨#[63]⟩]) (by simp [results,Tryz.results89,go_sem, *]) rfl ?_
 exact ⟨_,rfl,.inl ⟨rfl,rfl⟩,bz.out⟩
set_option maxRecDepth 100000 in
theorem uo (x:aO) (l:Lg) (st pe va:Int) (w:World) (h:aP w w.heap.size x) (vM:x.t.length≤x.tc) (z:Oc) (hN:fY x.c ⟨1,st,pe,va⟩=some z) :
  Calls vx 89 #[aI x l,.agg #[O U 1,O U st,O U pe,O U va]] w (bo w x l (some (z,bJ (cr z.t)))):=by
 have L1:=((ah.new w 42 #[F x.TA x.t.length x.tc,F x.OA x.o.length x.oc,O U x.gt,O U x.sd,O U x.ms,vw l.D,vw l.P,O U l.n]).alloc (.cells #[O U 1,O U st,O U pe,O U va] 112)).alloc (.cells #[F none 0 0,F none 0 0,O U 0,O U 0,O U 0,vw ⟨#[]⟩,vw ⟨#[]⟩,O U 0] 42)
 have L2:=(ah.new1 w (.cells #[F x.TA x.t.length x.tc,F x.OA x.o.length x.oc,O U x.gt,O U x.sd,O U x.ms,vw l.D,vw l.P,O U l.n] 42) 112 #[O U 1,O U st,O U pe,O U va]).alloc (.cells #[F none 0 0,F none 0 0,O U 0,O U 0,O U 0,vw ⟨#[]⟩,vw ⟨#[]⟩,O U 0] 42)
 have L3:=ah.new2 w (.cells #[F x.TA x.t.length x.tc,F x.OA x.o.length x.oc,O U x.gt,O U x.sd,O U x.ms,vw l.D,vw l.P,O U l.n] 42) (.cells #[O U 1,O U st,O U pe,O U va] 112) 42 #[F none 0 0,F none 0 0,O U 0,O U 0,O U 0,vw ⟨#[]⟩,vw ⟨#[]⟩,O U 0]
 have b1:=bZ w (.cells #[F x.TA x.t.length x.tc,F x.OA x.o.length x.oc,O U x.gt,O U x.sd,O U x.ms,vw l.D,vw l.P,O U l.n] 42)
 have b2:=b1.alloc b1.size (.cells #[O U 1,O U st,O U pe,O U va] 112)
 have b3:=b2.alloc b2.size (.cells #[F none 0 0,F none 0 0,O U 0,O U 0,O U 0,vw ⟨#[]⟩,vw ⟨#[]⟩,O U 0] 42)
 have hW:=h.up b3 nR
 have we:w.heap.size≤w.heap.size+1+1:=oM
 clear b1 b2 h
 have cS:=fun W hR=>i8 x ⟨1,st,pe,va⟩ W hR vM
 have hz:=fz hN
 rw [hN] at cS
 clear hN
 have GZ:bH (z.at none 0 none 0):=bi.1 hz.1
 have HT:Hid (js (some (z,bJ (cr z.t)))=bJ (cr z.t)):=rfl
 go_enter Tryz.func89,Tryz.ntmps89
 go_wp2_with fail
 generalize (((w.alloc (.cells #[F x.TA x.t.length x.tc,F x.OA x.o.length x.oc,O U x.gt,O U x.sd,O U x.ms,vw l.D,vw l.P,O U l.n] 42)).alloc (.cells #[O U 1,O U st,O U pe,O U va] 112)).alloc (.cells #[F none 0 0,F none 0 0,O U 0,O U 0,O U 0,vw ⟨#[]⟩,vw ⟨#[]⟩,O U 0] 42))=W at L1 L2 L3 b3 hW ⊢
 refine (cS W hW).mono ?_
 rintro e W1 ⟨TA,tc,OA,oc,rfl,hT,hO,hb⟩
 simp only [cz,Option.getD_some,Option.isSome_some,Oc.at,aO.val] at hT hO ⊢
 go_upto_region 4 with fail
 have vE:=(Below.refl W1.heap.size W1).alloc nR (.cells #[F TA z.t.length tc,F OA z.o.length oc,O U z.gt,O U z.sd,O U z.ms] 40)
 have vC:=av hb vE
 have J1:=L1.below vC L1.lt
 have J2:=L2.below vC L2.lt
 have J3:=L3.below vC L3.lt
 have J6:=ah.new W1 40 #[F TA z.t.length tc,F OA z.o.length oc,O U z.gt,O U z.sd,O U z.ms]
 have b4:=av b3 vC
 have xl:=ai (ac hT vE) b3.size
 have xm:=ai (ac hO vE) b3.size
 have g26:w.heap.size+1+1 < W1.heap.size:=jL L3.lt hb.size
 clear vE vC hb hT hO L1 L2 L3 b3
 generalize W1.alloc (.cells #[F TA z.t.length tc,F OA z.o.length oc,O U z.gt,O U z.sd,O U z.ms] 40)=W2 at J1 J2 J3 J6 b4 xl xm ⊢
 generalize W1.heap.size=g6 at J6 g26 ⊢
 obtain ⟨c0,c1,c2,c3,c4,c5,c6,c7⟩:=cells8 J1
 go_upto_region 5 with fail
 clear c0 c1 c2 c3 c4 c5 c6 c7
 have vE:=(Below.refl W2.heap.size W2).alloc nR (.cells #[F x.TA x.t.length x.tc,F x.OA x.o.length x.oc,O U x.gt,O U x.sd,O U x.ms,vw l.D,vw l.P,O U l.n] 42)
 have K1:=J1.below vE J1.lt
 have K2:=J2.below vE J2.lt
 have K3:=J3.below vE J3.lt
 have K6:=J6.below vE J6.lt
 have K8:=ah.new W2 42 #[F x.TA x.t.length x.tc,F x.OA x.o.length x.oc,O U x.gt,O U x.sd,O U x.ms,vw l.D,vw l.P,O U l.n]
 have b5:=b4.trans (vE.mono b4.size)
 have Ai:=ac xl vE
 have Aj:=ac xm vE
 have g68:g6 < W2.heap.size:=J6.lt
 clear vE J1 J2 J3 J6 b4 xl xm
 generalize W2.alloc (.cells #[F x.TA x.t.length x.tc,F x.OA x.o.length x.oc,O U x.gt,O U x.sd,O U x.ms,vw l.D,vw l.P,O U l.n] 42)=W3 at K1 K2 K3 K6 K8 b5 Ai Aj ⊢
 generalize W2.heap.size=g8 at K8 g68 ⊢
 have wg:w.heap.size≤g8:=oM
 obtain ⟨p0,p1,p2,p3,p4⟩:=cells5 K6
 obtain ⟨q0,q1,q2,q3,q4,q5,q6,q7⟩:=cells8 K8
 obtain ⟨f0,f1,f2,f3,f4,f5,f6,f7⟩:=frz8 K8
 go_upto_region 6 with fail
 obtain ⟨W4,BK,M8,b6,gr,OT⟩:=iM K8 b5 wg (F TA z.t.length tc) (F OA z.o.length oc) (O U z.gt) (O U z.sd) (O U z.ms)
 have M1:=OT _ _ _ oM K1
 have M2:=OT _ _ _ oM K2
 have M3:=OT _ _ _ oM K3
 have M6:=OT _ _ _ oM K6
 have hT:=ak Ai K8 ft gr
 have hO:=ak Aj K8 fu gr
 clear p0 p1 p2 p3 p4 q0 q1 q2 q3 q4 q5 q6 q7 f0 f1 f2 f3 f4 K1 K2 K3 K6 K8 Ai Aj b5 gr OT
 rw [BK.out]
 clear BK
 have zW:aP W4 W4.heap.size (z.at TA tc OA oc):=⟨ay hT,ay hO⟩
 obtain ⟨s0,s1,s2,s3⟩:=cells4 M2
 obtain ⟨p0,p1,p2,p3,p4⟩:=cells5 M6
 have hs:=iQ (z.at TA tc OA oc) W4 zW
 rw [show an (z.at TA tc OA oc)=true from hz.1] at hs
 simp only [tK,if_true] at hs
 have hn:=fun W=>gB (cr z.t) true W (fun _=>⟨GZ.inB.1,by have:=GZ.inB.2; have e:(z.at none 0 none 0).t=z.t:=rfl; rw [e] at this; omega⟩)
 simp only [if_true] at hn
 go_wp2_with fail
 refine hs.mono ?_
 rintro e W5 ⟨rfl,hb5⟩
 have N3:=M3.below hb5 M3.lt
 have N8:=M8.below hb5 M8.lt
 have b7:=b6.trans (hb5.mono b6.size)
 have xd:=ac hT hb5
 have xe:=ac hO hb5
 clear s0 s1 s2 s3 p0 p1 p2 p3 p4 hs M1 M2 M3 M6 M8 b6 hT hO zW hb5
 go_wp2_with fail
 refine al (Sw 4 (fun W9=>Below W5.heap.size W5 W9) (fun W9=>Below w.heap.size w W9∧di W9 w.heap.size (w.heap.size+1+1) z l)) (fun i w1 w2=>i ∉ [4]→Below w1.heap.size w1 w2) kZ kZ kZ (Sw.start jB.drew) ?_
 simp only [aw,Act.put,sA,gs0,gs1,Nat.zero_add,Nat.reduceAdd]
 refine aa _ (vb0C8 N8) ?_
 refine aa _ vb0 ?_
 refine aa _ vb0 ?_
 refine aa (vw (bJ (cr z.t))) (fun vs L9 w9 vA vy hB K9 vz=>?_) ?_
 next =>
  replace vy:=sb vy vA
  have d1:=fe hB 1
  have d2:=fe hB 2
  simp only [d1,d2] at vz ⊢
  go_simp
  refine (hn w9).mono ?_
  rintro en w8 ⟨rfl,vB⟩
  exact vz _ _ rfl (Sw.stay vA kZ dD (vy.trans (vB.mono vy.size))) (fun _=>vB)
 refine aa (undef) (fun vs L9 w9 vA vy hB K9 vz=>?_) ?_
 next =>
  replace vy:=vy.here vA
  have d0:=fe hB 0
  simp only [d0] at vz ⊢
  have Lr:=N3.below vy N3.lt
  obtain ⟨z0,z1,z2,z3,z4,z5,z6,z7⟩:=cells8 Lr
  obtain ⟨f0,f1,f2,f3,f4,f5,f6,f7⟩:=frz8 Lr
  have wb:=jZ (di.put (y:=z) (l:=l) Lr (ac xd vy) (ac xe vy))
  have wI:=jZ (eO (g:=(w.heap.size+1+1)) ((b7).trans (vy.mono (b7).size)) we (F TA z.t.length tc) (F OA z.o.length oc) (O U z.gt) (O U z.sd) (O U z.ms) (vw l.D) (vw l.P) (O U l.n))
  clear Lr
  go_simp
  exact vz _ _ rfl (Sw.turn ⟨wI.out,wb.out⟩) nq
 refine aa _ (va1 3) ?_
 refine au fun vs L9 w9 vI vy hB=>?_
 replace vy:=vy.done vI dD
 have dl:=ag.eq (hB 5 _ rfl rfl dD)
 simp only [dl]
 clear hB dl
 obtain ⟨hD,TB,tb,OB,ob,hN,vV,wB⟩:=vy
 obtain ⟨k0,k1,k2,k3,k4,k5,k6,k7⟩:=cells8 hN
 clear hN
 go_wp2
 refine bodyPost_ret (v:=.tuple #[.agg #[F TB z.t.length tb,F OB z.o.length ob,O U z.gt,O U z.sd,O U z.ms,vw l.D,vw l.P,O U l.n],vw (bJ (cr z.t))]) (by simp [results,Tryz.results89,go_sem, *]) rfl (bo.mk HT.out (.inr ⟨TB,tb,OB,ob,rfl,vV,wB⟩) hD)
set_option maxRecDepth 100000 in
theorem tf (x:aO) (l:Lg) (st pe va:Int) (w:World) (h:aP w w.heap.size x) (vM:x.t.length≤x.tc) (z:Oc) (hN:fY x.c ⟨4,st,pe,va⟩=some z) :
  Calls vx 89 #[aI x l,.agg #[O U 4,O U st,O U pe,O U va]] w (bo w x l (some (z,bJ z.sd))):=by
 have L1:=((ah.new w 42 #[F x.TA x.t.length x.tc,F x.OA x.o.length x.oc,O U x.gt,O U x.sd,O U x.ms,vw l.D,vw l.P,O U l.n]).alloc (.cells #[O U 4,O U st,O U pe,O U va] 112)).alloc (.cells #[F none 0 0,F none 0 0,O U 0,O U 0,O U 0,vw ⟨#[]⟩,vw ⟨#[]⟩,O U 0] 42)
 have L2:=(ah.new1 w (.cells #[F x.TA x.t.length x.tc,F x.OA x.o.length x.oc,O U x.gt,O U x.sd,O U x.ms,vw l.D,vw l.P,O U l.n] 42) 112 #[O U 4,O U st,O U pe,O U va]).alloc (.cells #[F none 0 0,F none 0 0,O U 0,O U 0,O U 0,vw ⟨#[]⟩,vw ⟨#[]⟩,O U 0] 42)
 have L3:=ah.new2 w (.cells #[F x.TA x.t.length x.tc,F x.OA x.o.length x.oc,O U x.gt,O U x.sd,O U x.ms,vw l.D,vw l.P,O U l.n] 42) (.cells #[O U 4,O U st,O U pe,O U va] 112) 42 #[F none 0 0,F none 0 0,O U 0,O U 0,O U 0,vw ⟨#[]⟩,vw ⟨#[]⟩,O U 0]
 have b1:=bZ w (.cells #[F x.TA x.t.length x.tc,F x.OA x.o.length x.oc,O U x.gt,O U x.sd,O U x.ms,vw l.D,vw l.P,O U l.n] 42)
 have b2:=b1.alloc b1.size (.cells #[O U 4,O U st,O U pe,O U va] 112)
 have b3:=b2.alloc b2.size (.cells #[F none 0 0,F none 0 0,O U 0,O U 0,O U 0,vw ⟨#[]⟩,vw ⟨#[]⟩,O U 0] 42)
 have hW:=h.up b3 nR
 have we:w.heap.size≤w.heap.size+1+1:=oM
 clear b1 b2 h
 have cS:=fun W hR=>i8 x ⟨4,st,pe,va⟩ W hR vM
 have hz:=fz hN
 rw [hN] at cS
 clear hN
 have GZ:bH (z.at none 0 none 0):=bi.1 hz.1
 have HT:Hid (js (some (z,bJ z.sd))=bJ z.sd):=rfl
 go_enter Tryz.func89,Tryz.ntmps89
 go_wp2_with fail
 generalize (((w.alloc (.cells #[F x.TA x.t.length x.tc,F x.OA x.o.length x.oc,O U x.gt,O U x.sd,O U x.ms,vw l.D,vw l.P,O U l.n] 42)).alloc (.cells #[O U 4,O U st,O U pe,O U va] 112)).alloc (.cells #[F none 0 0,F none 0 0,O U 0,O U 0,O U 0,vw ⟨#[]⟩,vw ⟨#[]⟩,O U 0] 42))=W at L1 L2 L3 b3 hW ⊢
 refine (cS W hW).mono ?_
 rintro e W1 ⟨TA,tc,OA,oc,rfl,hT,hO,hb⟩
 simp only [cz,Option.getD_some,Option.isSome_some,Oc.at,aO.val] at hT hO ⊢
 go_upto_region 4 with fail
 have vE:=(Below.refl W1.heap.size W1).alloc nR (.cells #[F TA z.t.length tc,F OA z.o.length oc,O U z.gt,O U z.sd,O U z.ms] 40)
 have vC:=av hb vE
 have J1:=L1.below vC L1.lt
 have J2:=L2.below vC L2.lt
 have J3:=L3.below vC L3.lt
 have J6:=ah.new W1 40 #[F TA z.t.length tc,F OA z.o.length oc,O U z.gt,O U z.sd,O U z.ms]
 have b4:=av b3 vC
 have xl:=ai (ac hT vE) b3.size
 have xm:=ai (ac hO vE) b3.size
 have g26:w.heap.size+1+1 < W1.heap.size:=jL L3.lt hb.size
 clear vE vC hb hT hO L1 L2 L3 b3
 generalize W1.alloc (.cells #[F TA z.t.length tc,F OA z.o.length oc,O U z.gt,O U z.sd,O U z.ms] 40)=W2 at J1 J2 J3 J6 b4 xl xm ⊢
 generalize W1.heap.size=g6 at J6 g26 ⊢
 obtain ⟨c0,c1,c2,c3,c4,c5,c6,c7⟩:=cells8 J1
 go_upto_region 5 with fail
 clear c0 c1 c2 c3 c4 c5 c6 c7
 have vE:=(Below.refl W2.heap.size W2).alloc nR (.cells #[F x.TA x.t.length x.tc,F x.OA x.o.length x.oc,O U x.gt,O U x.sd,O U x.ms,vw l.D,vw l.P,O U l.n] 42)
 have K1:=J1.below vE J1.lt
 have K2:=J2.below vE J2.lt
 have K3:=J3.below vE J3.lt
 have K6:=J6.below vE J6.lt
 have K8:=ah.new W2 42 #[F x.TA x.t.length x.tc,F x.OA x.o.length x.oc,O U x.gt,O U x.sd,O U x.ms,vw l.D,vw l.P,O U l.n]
 have b5:=b4.trans (vE.mono b4.size)
 have Ai:=ac xl vE
 have Aj:=ac xm vE
 have g68:g6 < W2.heap.size:=J6.lt
 clear vE J1 J2 J3 J6 b4 xl xm
 generalize W2.alloc (.cells #[F x.TA x.t.length x.tc,F x.OA x.o.length x.oc,O U x.gt,O U x.sd,O U x.ms,vw l.D,vw l.P,O U l.n] 42)=W3 at K1 K2 K3 K6 K8 b5 Ai Aj ⊢
 generalize W2.heap.size=g8 at K8 g68 ⊢
 have wg:w.heap.size≤g8:=oM
 obtain ⟨p0,p1,p2,p3,p4⟩:=cells5 K6
 obtain ⟨q0,q1,q2,q3,q4,q5,q6,q7⟩:=cells8 K8
 obtain ⟨f0,f1,f2,f3,f4,f5,f6,f7⟩:=frz8 K8
 go_upto_region 6 with fail
 obtain ⟨W4,BK,M8,b6,gr,OT⟩:=iM K8 b5 wg (F TA z.t.length tc) (F OA z.o.length oc) (O U z.gt) (O U z.sd) (O U z.ms)
 have M1:=OT _ _ _ oM K1
 have M2:=OT _ _ _ oM K2
 have M3:=OT _ _ _ oM K3
 have M6:=OT _ _ _ oM K6
 have hT:=ak Ai K8 ft gr
 have hO:=ak Aj K8 fu gr
 clear p0 p1 p2 p3 p4 q0 q1 q2 q3 q4 q5 q6 q7 f0 f1 f2 f3 f4 K1 K2 K3 K6 K8 Ai Aj b5 gr OT
 rw [BK.out]
 clear BK
 have zW:aP W4 W4.heap.size (z.at TA tc OA oc):=⟨ay hT,ay hO⟩
 obtain ⟨s0,s1,s2,s3⟩:=cells4 M2
 obtain ⟨p0,p1,p2,p3,p4⟩:=cells5 M6
 have hn:=fun W=>cn z.sd W GZ.s.1 (by have:=GZ.s.2; have e:(z.at none 0 none 0).sd=z.sd:=rfl; rw [e] at this; omega)
 clear zW M1 M2
 go_wp2_with fail
 refine al (Sw 4 (fun W9=>Below W4.heap.size W4 W9) (fun W9=>Below w.heap.size w W9∧di W9 w.heap.size (w.heap.size+1+1) z l)) (fun i w1 w2=>i ∉ [4]→Below w1.heap.size w1 w2) kZ kZ kZ (Sw.start jB.drew) ?_
 simp only [aw,Act.put,sA,gs0,gs1,Nat.zero_add,Nat.reduceAdd]
 refine aa _ (vb0C8 M8) ?_
 refine aa _ vb0 ?_
 refine aa _ (vb1c1 1 M6 3) ?_
 refine aa (vw (bJ z.sd)) (fun vs L9 w9 vA vy hB K9 vz=>?_) ?_
 next =>
  replace vy:=sb vy vA
  have d2:=fe hB 2
  simp only [d2] at vz ⊢
  go_simp
  refine (hn w9).mono ?_
  rintro en w8 ⟨rfl,vB⟩
  exact vz _ _ rfl (Sw.stay vA kZ dD (vy.trans (vB.mono vy.size))) (fun _=>vB)
 refine aa (undef) (fun vs L9 w9 vA vy hB K9 vz=>?_) ?_
 next =>
  replace vy:=vy.here vA
  have d0:=fe hB 0
  simp only [d0] at vz ⊢
  have Lr:=M3.below vy M3.lt
  obtain ⟨z0,z1,z2,z3,z4,z5,z6,z7⟩:=cells8 Lr
  obtain ⟨f0,f1,f2,f3,f4,f5,f6,f7⟩:=frz8 Lr
  have wb:=jZ (di.put (y:=z) (l:=l) Lr (ac hT vy) (ac hO vy))
  have wI:=jZ (eO (g:=(w.heap.size+1+1)) ((b6).trans (vy.mono (b6).size)) we (F TA z.t.length tc) (F OA z.o.length oc) (O U z.gt) (O U z.sd) (O U z.ms) (vw l.D) (vw l.P) (O U l.n))
  clear Lr
  go_simp
  exact vz _ _ rfl (Sw.turn ⟨wI.out,wb.out⟩) nq
 refine aa _ (va1 3) ?_
 refine au fun vs L9 w9 vI vy hB=>?_
 replace vy:=vy.done vI dD
 have dl:=ag.eq (hB 5 _ rfl rfl dD)
 simp only [dl]
 clear hB dl
 obtain ⟨hD,TB,tb,OB,ob,hN,vV,wB⟩:=vy
 obtain ⟨k0,k1,k2,k3,k4,k5,k6,k7⟩:=cells8 hN
 clear hN
 go_wp2
 refine bodyPost_ret (v:=.tuple #[.agg #[F TB z.t.length tb,F OB z.o.length ob,O U z.gt,O U z.sd,O U z.ms,vw l.D,vw l.P,O U l.n],vw (bJ z.sd)]) (by simp [results,Tryz.results89,go_sem, *]) rfl (bo.mk HT.out (.inr ⟨TB,tb,OB,ob,rfl,vV,wB⟩) hD)
set_option maxRecDepth 100000 in
theorem th (x:aO) (l:Lg) (st pe va:Int) (w:World) (h:aP w w.heap.size x) (vM:x.t.length≤x.tc) (z:Oc) (hN:fY x.c ⟨5,st,pe,va⟩=some z) :
  Calls vx 89 #[aI x l,.agg #[O U 5,O U st,O U pe,O U va]] w (bo w x l (some (z,bJ z.ms))):=by
 have L1:=((ah.new w 42 #[F x.TA x.t.length x.tc,F x.OA x.o.length x.oc,O U x.gt,O U x.sd,O U x.ms,vw l.D,vw l.P,O U l.n]).alloc (.cells #[O U 5,O U st,O U pe,O U va] 112)).alloc (.cells #[F none 0 0,F none 0 0,O U 0,O U 0,O U 0,vw ⟨#[]⟩,vw ⟨#[]⟩,O U 0] 42)
 have L2:=(ah.new1 w (.cells #[F x.TA x.t.length x.tc,F x.OA x.o.length x.oc,O U x.gt,O U x.sd,O U x.ms,vw l.D,vw l.P,O U l.n] 42) 112 #[O U 5,O U st,O U pe,O U va]).alloc (.cells #[F none 0 0,F none 0 0,O U 0,O U 0,O U 0,vw ⟨#[]⟩,vw ⟨#[]⟩,O U 0] 42)
 have L3:=ah.new2 w (.cells #[F x.TA x.t.length x.tc,F x.OA x.o.length x.oc,O U x.gt,O U x.sd,O U x.ms,vw l.D,vw l.P,O U l.n] 42) (.cells #[O U 5,O U st,O U pe,O U va] 112) 42 #[F none 0 0,F none 0 0,O U 0,O U 0,O U 0,vw ⟨#[]⟩,vw ⟨#[]⟩,O U 0]
 have b1:=bZ w (.cells #[F x.TA x.t.length x.tc,F x.OA x.o.length x.oc,O U x.gt,O U x.sd,O U x.ms,vw l.D,vw l.P,O U l.n] 42)
 have b2:=b1.alloc b1.size (.cells #[O U 5,O U st,O U pe,O U va] 112)
 have b3:=b2.alloc b2.size (.cells #[F none 0 0,F none 0 0,O U 0,O U 0,O U 0,vw ⟨#[]⟩,vw ⟨#[]⟩,O U 0] 42)
 have hW:=h.up b3 nR
 have we:w.heap.size≤w.heap.size+1+1:=oM
 clear b1 b2 h
 have cS:=fun W hR=>i8 x ⟨5,st,pe,va⟩ W hR vM
 have hz:=fz hN
 rw [hN] at cS
 clear hN
 have GZ:bH (z.at none 0 none 0):=bi.1 hz.1
 have HT:Hid (js (some (z,bJ z.ms))=bJ z.ms):=rfl
 go_enter Tryz.func89,Tryz.ntmps89
 go_wp2_with fail
 generalize (((w.alloc (.cells #[F x.TA x.t.length x.tc,F x.OA x.o.length x.oc,O U x.gt,O U x.sd,O U x.ms,vw l.D,vw l.P,O U l.n] 42)).alloc (.cells #[O U 5,O U st,O U pe,O U va] 112)).alloc (.cells #[F none 0 0,F none 0 0,O U 0,O U 0,O U 0,vw ⟨#[]⟩,vw ⟨#[]⟩,O U 0] 42))=W at L1 L2 L3 b3 hW ⊢
 refine (cS W hW).mono ?_
 rintro e W1 ⟨TA,tc,OA,oc,rfl,hT,hO,hb⟩
 simp only [cz,Option.getD_some,Option.isSome_some,Oc.at,aO.val] at hT hO ⊢
 go_upto_region 4 with fail
 have vE:=(Below.refl W1.heap.size W1).alloc nR (.cells #[F TA z.t.length tc,F OA z.o.length oc,O U z.gt,O U z.sd,O U z.ms] 40)
 have vC:=av hb vE
 have J1:=L1.below vC L1.lt
 have J2:=L2.below vC L2.lt
 have J3:=L3.below vC L3.lt
 have J6:=ah.new W1 40 #[F TA z.t.length tc,F OA z.o.length oc,O U z.gt,O U z.sd,O U z.ms]
 have b4:=av b3 vC
 have xl:=ai (ac hT vE) b3.size
 have xm:=ai (ac hO vE) b3.size
 have g26:w.heap.size+1+1 < W1.heap.size:=jL L3.lt hb.size
 clear vE vC hb hT hO L1 L2 L3 b3
 generalize W1.alloc (.cells #[F TA z.t.length tc,F OA z.o.length oc,O U z.gt,O U z.sd,O U z.ms] 40)=W2 at J1 J2 J3 J6 b4 xl xm ⊢
 generalize W1.heap.size=g6 at J6 g26 ⊢
 obtain ⟨c0,c1,c2,c3,c4,c5,c6,c7⟩:=cells8 J1
 go_upto_region 5 with fail
 clear c0 c1 c2 c3 c4 c5 c6 c7
 have vE:=(Below.refl W2.heap.size W2).alloc nR (.cells #[F x.TA x.t.length x.tc,F x.OA x.o.length x.oc,O U x.gt,O U x.sd,O U x.ms,vw l.D,vw l.P,O U l.n] 42)
 have K1:=J1.below vE J1.lt
 have K2:=J2.below vE J2.lt
 have K3:=J3.below vE J3.lt
 have K6:=J6.below vE J6.lt
 have K8:=ah.new W2 42 #[F x.TA x.t.length x.tc,F x.OA x.o.length x.oc,O U x.gt,O U x.sd,O U x.ms,vw l.D,vw l.P,O U l.n]
 have b5:=b4.trans (vE.mono b4.size)
 have Ai:=ac xl vE
 have Aj:=ac xm vE
 have g68:g6 < W2.heap.size:=J6.lt
 clear vE J1 J2 J3 J6 b4 xl xm
 generalize W2.alloc (.cells #[F x.TA x.t.length x.tc,F x.OA x.o.length x.oc,O U x.gt,O U x.sd,O U x.ms,vw l.D,vw l.P,O U l.n] 42)=W3 at K1 K2 K3 K6 K8 b5 Ai Aj ⊢
 generalize W2.heap.size=g8 at K8 g68 ⊢
 have wg:w.heap.size≤g8:=oM
 obtain ⟨p0,p1,p2,p3,p4⟩:=cells5 K6
 obtain ⟨q0,q1,q2,q3,q4,q5,q6,q7⟩:=cells8 K8
 obtain ⟨f0,f1,f2,f3,f4,f5,f6,f7⟩:=frz8 K8
 go_upto_region 6 with fail
 obtain ⟨W4,BK,M8,b6,gr,OT⟩:=iM K8 b5 wg (F TA z.t.length tc) (F OA z.o.length oc) (O U z.gt) (O U z.sd) (O U z.ms)
 have M1:=OT _ _ _ oM K1
 have M2:=OT _ _ _ oM K2
 have M3:=OT _ _ _ oM K3
 have M6:=OT _ _ _ oM K6
 have hT:=ak Ai K8 ft gr
 have hO:=ak Aj K8 fu gr
 clear p0 p1 p2 p3 p4 q0 q1 q2 q3 q4 q5 q6 q7 f0 f1 f2 f3 f4 K1 K2 K3 K6 K8 Ai Aj b5 gr OT
 rw [BK.out]
 clear BK
 have zW:aP W4 W4.heap.size (z.at TA tc OA oc):=⟨ay hT,ay hO⟩
 obtain ⟨s0,s1,s2,s3⟩:=cells4 M2
 obtain ⟨p0,p1,p2,p3,p4⟩:=cells5 M6
 have hn:=fun W=>cn z.ms W GZ.m.1 (by have:=GZ.m.2; have e:(z.at none 0 none 0).ms=z.ms:=rfl; rw [e] at this; omega)
 clear zW M1 M2
 go_wp2_with fail
 refine al (Sw 4 (fun W9=>Below W4.heap.size W4 W9) (fun W9=>Below w.heap.size w W9∧di W9 w.heap.size (w.heap.size+1+1) z l)) (fun i w1 w2=>i ∉ [4]→Below w1.heap.size w1 w2) kZ kZ kZ (Sw.start jB.drew) ?_
 simp only [aw,Act.put,sA,gs0,gs1,Nat.zero_add,Nat.reduceAdd]
 refine aa _ (vb0C8 M8) ?_
 refine aa _ vb0 ?_
 refine aa _ (vb1c1 1 M6 4) ?_
 refine aa (vw (bJ z.ms)) (fun vs L9 w9 vA vy hB K9 vz=>?_) ?_
 next =>
  replace vy:=sb vy vA
  have d2:=fe hB 2
  simp only [d2] at vz ⊢
  go_simp
  refine (hn w9).mono ?_
  rintro en w8 ⟨rfl,vB⟩
  exact vz _ _ rfl (Sw.stay vA kZ dD (vy.trans (vB.mono vy.size))) (fun _=>vB)
 refine aa (undef) (fun vs L9 w9 vA vy hB K9 vz=>?_) ?_
 next =>
  replace vy:=vy.here vA
  have d0:=fe hB 0
  simp only [d0] at vz ⊢
  have Lr:=M3.below vy M3.lt
  obtain ⟨z0,z1,z2,z3,z4,z5,z6,z7⟩:=cells8 Lr
  obtain ⟨f0,f1,f2,f3,f4,f5,f6,f7⟩:=frz8 Lr
  have wb:=jZ (di.put (y:=z) (l:=l) Lr (ac hT vy) (ac hO vy))
  have wI:=jZ (eO (g:=(w.heap.size+1+1)) ((b6).trans (vy.mono (b6).size)) we (F TA z.t.length tc) (F OA z.o.length oc) (O U z.gt) (O U z.sd) (O U z.ms) (vw l.D) (vw l.P) (O U l.n))
  clear Lr
  go_simp
  exact vz _ _ rfl (Sw.turn ⟨wI.out,wb.out⟩) nq
 refine aa _ (va1 3) ?_
 refine au fun vs L9 w9 vI vy hB=>?_
 replace vy:=vy.done vI dD
 have dl:=ag.eq (hB 5 _ rfl rfl dD)
 simp only [dl]
 clear hB dl
 obtain ⟨hD,TB,tb,OB,ob,hN,vV,wB⟩:=vy
 obtain ⟨k0,k1,k2,k3,k4,k5,k6,k7⟩:=cells8 hN
 clear hN
 go_wp2
 refine bodyPost_ret (v:=.tuple #[.agg #[F TB z.t.length tb,F OB z.o.length ob,O U z.gt,O U z.sd,O U z.ms,vw l.D,vw l.P,O U l.n],vw (bJ z.ms)]) (by simp [results,Tryz.results89,go_sem, *]) rfl (bo.mk HT.out (.inr ⟨TB,tb,OB,ob,rfl,vV,wB⟩) hD)
set_option maxRecDepth 100000 in
theorem ti (x:aO) (l:Lg) (kd st pe va:Int) (w:World) (h:aP w w.heap.size x) (vM:x.t.length≤x.tc) (z:Oc) (hN:fY x.c ⟨kd,st,pe,va⟩=some z) (Ba:kd ≠ 1) (Jl:kd ≠ 4) (Jm:kd ≠ 5) :
  Calls vx 89 #[aI x l,.agg #[O U kd,O U st,O U pe,O U va]] w (bo w x l (some (z,eE z.off st))):=by
 have L1:=((ah.new w 42 #[F x.TA x.t.length x.tc,F x.OA x.o.length x.oc,O U x.gt,O U x.sd,O U x.ms,vw l.D,vw l.P,O U l.n]).alloc (.cells #[O U kd,O U st,O U pe,O U va] 112)).alloc (.cells #[F none 0 0,F none 0 0,O U 0,O U 0,O U 0,vw ⟨#[]⟩,vw ⟨#[]⟩,O U 0] 42)
 have L2:=(ah.new1 w (.cells #[F x.TA x.t.length x.tc,F x.OA x.o.length x.oc,O U x.gt,O U x.sd,O U x.ms,vw l.D,vw l.P,O U l.n] 42) 112 #[O U kd,O U st,O U pe,O U va]).alloc (.cells #[F none 0 0,F none 0 0,O U 0,O U 0,O U 0,vw ⟨#[]⟩,vw ⟨#[]⟩,O U 0] 42)
 have L3:=ah.new2 w (.cells #[F x.TA x.t.length x.tc,F x.OA x.o.length x.oc,O U x.gt,O U x.sd,O U x.ms,vw l.D,vw l.P,O U l.n] 42) (.cells #[O U kd,O U st,O U pe,O U va] 112) 42 #[F none 0 0,F none 0 0,O U 0,O U 0,O U 0,vw ⟨#[]⟩,vw ⟨#[]⟩,O U 0]
 have b1:=bZ w (.cells #[F x.TA x.t.length x.tc,F x.OA x.o.length x.oc,O U x.gt,O U x.sd,O U x.ms,vw l.D,vw l.P,O U l.n] 42)
 have b2:=b1.alloc b1.size (.cells #[O U kd,O U st,O U pe,O U va] 112)
 have b3:=b2.alloc b2.size (.cells #[F none 0 0,F none 0 0,O U 0,O U 0,O U 0,vw ⟨#[]⟩,vw ⟨#[]⟩,O U 0] 42)
 have hW:=h.up b3 nR
 have we:w.heap.size≤w.heap.size+1+1:=oM
 clear b1 b2 h
 have cS:=fun W hR=>i8 x ⟨kd,st,pe,va⟩ W hR vM
 have hz:=fz hN
 rw [hN] at cS
 clear hN
 have GZ:bH (z.at none 0 none 0):=bi.1 hz.1
 have HT:Hid (js (some (z,eE z.off st))=eE z.off st):=rfl
 have n1:(kd == 1)=false:=beq_false_of_ne Ba
 have n4:(kd == 4)=false:=beq_false_of_ne Jl
 have n5:(kd == 5)=false:=beq_false_of_ne Jm
 clear Ba Jl Jm
 go_enter Tryz.func89,Tryz.ntmps89
 go_wp2_with fail
 generalize (((w.alloc (.cells #[F x.TA x.t.length x.tc,F x.OA x.o.length x.oc,O U x.gt,O U x.sd,O U x.ms,vw l.D,vw l.P,O U l.n] 42)).alloc (.cells #[O U kd,O U st,O U pe,O U va] 112)).alloc (.cells #[F none 0 0,F none 0 0,O U 0,O U 0,O U 0,vw ⟨#[]⟩,vw ⟨#[]⟩,O U 0] 42))=W at L1 L2 L3 b3 hW ⊢
 refine (cS W hW).mono ?_
 rintro e W1 ⟨TA,tc,OA,oc,rfl,hT,hO,hb⟩
 simp only [cz,Option.getD_some,Option.isSome_some,Oc.at,aO.val] at hT hO ⊢
 go_upto_region 4 with fail
 have vE:=(Below.refl W1.heap.size W1).alloc nR (.cells #[F TA z.t.length tc,F OA z.o.length oc,O U z.gt,O U z.sd,O U z.ms] 40)
 have vC:=av hb vE
 have J1:=L1.below vC L1.lt
 have J2:=L2.below vC L2.lt
 have J3:=L3.below vC L3.lt
 have J6:=ah.new W1 40 #[F TA z.t.length tc,F OA z.o.length oc,O U z.gt,O U z.sd,O U z.ms]
 have b4:=av b3 vC
 have xl:=ai (ac hT vE) b3.size
 have xm:=ai (ac hO vE) b3.size
 have g26:w.heap.size+1+1 < W1.heap.size:=jL L3.lt hb.size
 clear vE vC hb hT hO L1 L2 L3 b3
 generalize W1.alloc (.cells #[F TA z.t.length tc,F OA z.o.length oc,O U z.gt,O U z.sd,O U z.ms] 40)=W2 at J1 J2 J3 J6 b4 xl xm ⊢
 generalize W1.heap.size=g6 at J6 g26 ⊢
 obtain ⟨c0,c1,c2,c3,c4,c5,c6,c7⟩:=cells8 J1
 go_upto_region 5 with fail
 clear c0 c1 c2 c3 c4 c5 c6 c7
 have vE:=(Below.refl W2.heap.size W2).alloc nR (.cells #[F x.TA x.t.length x.tc,F x.OA x.o.length x.oc,O U x.gt,O U x.sd,O U x.ms,vw l.D,vw l.P,O U l.n] 42)
 have K1:=J1.below vE J1.lt
 have K2:=J2.below vE J2.lt
 have K3:=J3.below vE J3.lt
 have K6:=J6.below vE J6.lt
 have K8:=ah.new W2 42 #[F x.TA x.t.length x.tc,F x.OA x.o.length x.oc,O U x.gt,O U x.sd,O U x.ms,vw l.D,vw l.P,O U l.n]
 have b5:=b4.trans (vE.mono b4.size)
 have Ai:=ac xl vE
 have Aj:=ac xm vE
 have g68:g6 < W2.heap.size:=J6.lt
 clear vE J1 J2 J3 J6 b4 xl xm
 generalize W2.alloc (.cells #[F x.TA x.t.length x.tc,F x.OA x.o.length x.oc,O U x.gt,O U x.sd,O U x.ms,vw l.D,vw l.P,O U l.n] 42)=W3 at K1 K2 K3 K6 K8 b5 Ai Aj ⊢
 generalize W2.heap.size=g8 at K8 g68 ⊢
 have wg:w.heap.size≤g8:=oM
 obtain ⟨p0,p1,p2,p3,p4⟩:=cells5 K6
 obtain ⟨q0,q1,q2,q3,q4,q5,q6,q7⟩:=cells8 K8
 obtain ⟨f0,f1,f2,f3,f4,f5,f6,f7⟩:=frz8 K8
 go_upto_region 6 with fail
 obtain ⟨W4,BK,M8,b6,gr,OT⟩:=iM K8 b5 wg (F TA z.t.length tc) (F OA z.o.length oc) (O U z.gt) (O U z.sd) (O U z.ms)
 have M1:=OT _ _ _ oM K1
 have M2:=OT _ _ _ oM K2
 have M3:=OT _ _ _ oM K3
 have M6:=OT _ _ _ oM K6
 have hT:=ak Ai K8 ft gr
 have hO:=ak Aj K8 fu gr
 clear p0 p1 p2 p3 p4 q0 q1 q2 q3 q4 q5 q6 q7 f0 f1 f2 f3 f4 K1 K2 K3 K6 K8 Ai Aj b5 gr OT
 rw [BK.out]
 clear BK
 have zW:aP W4 W4.heap.size (z.at TA tc OA oc):=⟨ay hT,ay hO⟩
 obtain ⟨s0,s1,s2,s3⟩:=cells4 M2
 obtain ⟨p0,p1,p2,p3,p4⟩:=cells5 M6
 have hn:=fun W hR=>mE (z.at TA tc OA oc) st W hR
 have e9:(jU (z.at TA tc OA oc) st).getD cJ=eE z.off st:=by
  unfold jU
  rw [show (an (z.at TA tc OA oc) && aS (z.at TA tc OA oc).t st)=true from by rw [show an (z.at TA tc OA oc)=true from hz.1]; exact hz.2]
  rfl
 rw [e9] at hn
 clear e9
 go_wp2_with fail
 refine al (Sw 5 (fun W9=>Below W4.heap.size W4 W9) (fun W9=>Below w.heap.size w W9∧di W9 w.heap.size (w.heap.size+1+1) z l)) (fun i w1 w2=>i ∉ [5]→Below w1.heap.size w1 w2) kZ kZ kZ (Sw.start jB.drew) ?_
 simp only [aw,Act.put,sA,gs0,gs1,Nat.zero_add,Nat.reduceAdd]
 refine aa _ (vb0C8 M8) ?_
 refine aa _ (vb0C5 M6) ?_
 refine aa _ vb0 ?_
 refine aa _ (vb1c1 2 M2 1) ?_
 refine aa (vw (eE z.off st)) (fun vs L9 w9 vA vy hB K9 vz=>?_) ?_
 next =>
  replace vy:=sb vy vA
  have d1:=fe hB 1
  have d3:=fe hB 3
  simp only [d1,d3] at vz ⊢
  go_simp
  refine (hn w9 (zW.then vy)).mono ?_
  rintro en w8 ⟨rfl,vB⟩
  exact vz _ _ rfl (Sw.stay vA kZ dD (vy.trans (vB.mono vy.size))) (fun _=>vB)
 refine aa (undef) (fun vs L9 w9 vA vy hB K9 vz=>?_) ?_
 next =>
  replace vy:=vy.here vA
  have d0:=fe hB 0
  simp only [d0] at vz ⊢
  have Lr:=M3.below vy M3.lt
  obtain ⟨z0,z1,z2,z3,z4,z5,z6,z7⟩:=cells8 Lr
  obtain ⟨f0,f1,f2,f3,f4,f5,f6,f7⟩:=frz8 Lr
  have wb:=jZ (di.put (y:=z) (l:=l) Lr (ac hT vy) (ac hO vy))
  have wI:=jZ (eO (g:=(w.heap.size+1+1)) ((b6).trans (vy.mono (b6).size)) we (F TA z.t.length tc) (F OA z.o.length oc) (O U z.gt) (O U z.sd) (O U z.ms) (vw l.D) (vw l.P) (O U l.n))
  clear Lr
  go_simp
  exact vz _ _ rfl (Sw.turn ⟨wI.out,wb.out⟩) nq
 refine aa _ (va1 4) ?_
 refine au fun vs L9 w9 vI vy hB=>?_
 replace vy:=vy.done vI dD
 have dl:=ag.eq (hB 6 _ rfl rfl dD)
 simp only [dl]
 clear hB dl
 obtain ⟨hD,TB,tb,OB,ob,hN,vV,wB⟩:=vy
 obtain ⟨k0,k1,k2,k3,k4,k5,k6,k7⟩:=cells8 hN
 clear hN
 go_wp2
 refine bodyPost_ret (v:=.tuple #[.agg #[F TB z.t.length tb,F OB z.o.length ob,O U z.gt,O U z.sd,O U z.ms,vw l.D,vw l.P,O U l.n],vw (eE z.off st)]) (by simp [results,Tryz.results89,go_sem, *]) rfl (bo.mk HT.out (.inr ⟨TB,tb,OB,ob,rfl,vV,wB⟩) hD)
theorem fM (x:aO) (l:Lg) (s:cU) (w:World) (h:aP w w.heap.size x) (vM:x.t.length≤x.tc) :
  Calls vx 89 #[aI x l,s.val] w (bo w x l (bW x s)):=by
 obtain ⟨kd,st,pe,va⟩:=s
 unfold bW
 cases hN:fY x.c ⟨kd,st,pe,va⟩ with
 | none=>exact td x l kd st pe va w h vM hN
 | some z =>
  show Calls _ _ _ _ (bo w x l (some (z,im z.off ⟨kd,st,pe,va⟩)))
  unfold im
  by_cases h1:kd=1
  ·subst h1; exact uo x l st pe va w h vM z hN
  ·by_cases h4:kd=4
   ·subst h4; exact tf x l st pe va w h vM z hN
   ·by_cases h5:kd=5
    ·subst h5; exact th x l st pe va w h vM z hN
    ·simp only [h1,h4,h5,if_false]
     exact ti x l kd st pe va w h vM z hN h1 h4 h5
def km (w:World) (g:Nat):Prop:=∃ ev,w.cell? ⟨g,0,none⟩=some ev∧(ev=.nilIface ∨ ∃ te pe,ev=.iface te pe)
structure LW (w:World):Prop where
 tab:iN w
 syn:km w 2
 rng:km w 3
 ml:∃ m:Int,w.cell? ⟨0,0,none⟩=some (O U m)
theorem sn {w:World} {a:Addr} {v:Value} (h:w.cell? a=some v):a.block < w.heap.size:=by
 rcases Nat.lt_or_ge a.block w.heap.size with h1 | h1
 ·exact h1
 ·unfold World.cell? at h; simp [Array.getElem?_eq_none h1] at h
theorem km.then {w w' : World} {g:Nat} (h:km w g) (hb:Below w.heap.size w w'):km w' g:=by
 obtain ⟨ev,h1,h2⟩:=h
 exact ⟨ev,(hb.cell (sn h1)).trans h1,h2⟩
theorem LW.then {w w' : World} (h:LW w) (hb:Below w.heap.size w w'):LW w':=by
 obtain ⟨h1,h2,h3,m,h4⟩:=h
 exact ⟨h1.then hb,h2.then hb,h3.then hb,m,(hb.cell (sn h4)).trans h4⟩
theorem LW.at {w:World} (h:LW w) (q:ap w.heap.size w):LW q.val:=h.then q.below
theorem uq (ps:List (List UInt8)) (k:Nat) (h:k < ps.length):(eD ps)[k]?=some (vw ⟨(ps[k]).toArray⟩):=by
 unfold eD; rw [List.getElem?_map,List.getElem?_eq_getElem h]; rfl
theorem ja (ps:List (List UInt8)) (rest:List Value) (k:Nat) (h:k < ps.length):(eD ps++rest)[k]?=some (vw ⟨(ps[k]).toArray⟩):=by
 rw [List.getElem?_append_left (by rw [sQ]; omega)]; exact uq ps k h
theorem pv (s:ByteArray) (b:UInt8) (w:World) (hs:s.size≤100000000) :
  Calls vx 58 #[vw s,.int .u8 b.toNat] w fun e w'=>∃ (g c:Nat) (rest:List Value),e=.returned (F (some ⟨g,0,none⟩) (aK b (bl s)).length c)∧ah w' g 9 (eD (aK b (bl s))++rest)∧w.heap.size≤g∧Below w.heap.size w w':=by
 refine (iC s b w hs).mono ?_
 rintro e w' ⟨A,c,rfl,ho,hb⟩
 obtain ⟨_,_,⟨h1,h2⟩ | ⟨g,rest,hA,hg,hL⟩⟩:=cq.of ho
 ·exact absurd (List.eq_nil_of_length_eq_zero h2) (lp b _ _)
 ·subst hA; exact ⟨g,c,rest,rfl,hL,hg,hb⟩
theorem mH {b:UInt8} {s:List UInt8} {n:Nat} (h:s.length≤n):∀ t ∈ aK b s,t.length≤n:=fun t ht=>by
 have:=lQ s [] ht; simp at this; omega
theorem mI {b:UInt8} {s:List UInt8} {n:Nat} (h:s.length≤n):1≤(aK b s).length∧(aK b s).length≤n+1:=by
 have h1:=gn b s []
 have h3:0 < (dx b [] s).length:=List.length_pos_iff.2 (lp b s [])
 unfold aK; omega
theorem uK (v:ByteArray) (l:List UInt8):(v.toList == l)=decide (bl v=l):=by
 rw [ByteArray.toList_eq]; unfold bl
 by_cases h:v.data.toList=l <;> simp [h]
theorem iI {n lo hi:Int} : cc n lo hi=true ↔ lo≤n∧n≤hi:=by simp [cc]
theorem lX (n:Int) (w:World) (h0 : -1000000000≤n) (h1:n≤1000000000) :
  Calls vx 71 #[O U n] w fun e w'=>e=.returned (vw ⟨(Lib.itoa n).toArray⟩)∧Below w.heap.size w w':=by
 by_cases hn:n < 0
 ·have HC:Hid (∀ W:World,Calls vx 71 #[O U (-n)] W fun e w'=>e=.returned (vw ⟨(Lib.itoa (-n)).toArray⟩)∧Below W.heap.size W w'):=fun W=>cn (-n) W oM oM
  have HI:Hid (Lib.itoa n=45 :: Lib.itoa (-n)):=by
   unfold Lib.itoa Hid
   rw [if_pos hn,if_neg oM,show n.natAbs=(-n).toNat by omega]
  have hz:=cE (n:=-n) oM oM
  obtain ⟨t,ht⟩ : ∃ t:ByteArray,t=⟨(Lib.itoa (-n)).toArray⟩:=⟨_,rfl⟩
  rw [← ht] at HC hz
  have HT:=jZ ht
  clear ht
  have hw:IntKind.i64.wrap (-n) = -n:=IntWalk.i64_in _ oM
  go_enter Tryz.func71,Tryz.ntmps71
  go_wp2_with fail
  refine (HC.out _).mono ?_
  rintro e w1 ⟨rfl,hb⟩
  go_wp2_with fail
  go_ret
  refine ⟨?_,hb⟩
  rw [HI.out]
  congr 1
  rw [HT.out,ByteArray.mk_append_mk]; rfl
 ·exact cn n w oM h1
def jb (s:ByteArray) (w:World) (e:Ending) (w' : World):Prop:=e=.returned (.tuple #[O U ((cW (bl s)).getD 0),.bool (cW (bl s)).isSome])∧Below w.heap.size w w'
theorem nO (b:UInt8):∀ (fuel:Nat) (l:List UInt8),l.length < fuel→Lib.splitK [b] 0 (Lib.countFrom [b] fuel l) l=aK b l∧(aK b l).length=Lib.countFrom [b] fuel l+1
 | 0,l,h=>absurd h oM
 | fuel+1,l,h=>by
  rcases jk l b with ⟨h1,h2⟩ | ⟨h1,h2⟩
  ·have hc:Lib.countFrom [b] (fuel+1) l=0:=by unfold Lib.countFrom; rw [h2]; rfl
   rw [hc,jn h1]; exact ⟨rfl,rfl⟩
  ·have hp:=cP h1
   have hl:=congrArg List.length hp
   simp only [List.length_append,List.length_cons,List.length_drop] at hl
   obtain ⟨r,hr⟩ : ∃ r,l.drop ((cw b l).length+1)=r:=⟨_,rfl⟩
   have Iy:r.length < fuel:=by rw [← hr,List.length_drop]; omega
   obtain ⟨i1,i2⟩:=nO b fuel r Iy
   have vJ : ¬ ((((cw b l).length:Nat):Int) == -1)=true:=fun e=>by have:=beq_iff_eq.1 e; omega
   have hc:Lib.countFrom [b] (fuel+1) l=Lib.countFrom [b] fuel r+1:=by
    rw [Lib.countFrom,h2,if_neg vJ,Int.toNat_natCast,show ([b] : List UInt8).length=1 from rfl,hr]; omega
   have hs:aK b l=cw b l :: aK b r:=by
    rw [← hr]
    have:=oL (r:=l.drop ((cw b l).length+1)) (fy b l)
    rw [← hp] at this; exact this
   rw [hc,hs]
   refine ⟨?_,by rw [List.length_cons,i2]⟩
   rw [Lib.splitK,h2,if_neg vJ,Int.toNat_natCast,show ([b] : List UInt8).length=1 from rfl,hr,i1,Nat.add_zero,nl]
theorem pB (s:ByteArray) (b:UInt8):((Lib.splitB ⟨#[b]⟩ 0 (Lib.countB s ⟨#[b]⟩) s).map Value.string)=eD (aK b (bl s))∧Lib.countB s ⟨#[b]⟩+1=(aK b (bl s)).length:=by
 have h1:=Lib.splitB_data ⟨#[b]⟩ 0 (Lib.countB s ⟨#[b]⟩) s
 have h2:Lib.countB s ⟨#[b]⟩=Lib.countFrom [b] ((bl s).length+1) (bl s):=by
  rfl
 obtain ⟨h3,h4⟩:=nO b ((bl s).length+1) (bl s) oM
 refine ⟨?_,by rw [h2,h4]⟩
 have h5:(Lib.splitB ⟨#[b]⟩ 0 (Lib.countB s ⟨#[b]⟩) s).map bl=aK b (bl s):=by
  rw [← h3,← h2]; exact h1
 rw [← h5,eD,List.map_map]
 exact List.map_congr_left fun x _=>congrArg Value.string (dW rfl)
theorem tF (s:ByteArray) (b:UInt8) (w:World) (hs:s.size≤1000000000) (hL:LW w) :
  Calls vx 59 #[vw s,vw ⟨#[b]⟩] w fun e w'=>e=.returned (F (some ⟨w.heap.size,0,none⟩) (aK b (bl s)).length (aK b (bl s)).length)∧ah w' w.heap.size 9 (eD (aK b (bl s)))∧Below w.heap.size w w':=by
 obtain ⟨m,hm⟩:=hL.ml
 obtain ⟨h1,h2⟩:=pB s b
 refine (Tryz.strings_Split s ⟨#[b]⟩ m w oM hm (Nat.le_refl 1)).mono ?_
 rintro e w' ⟨rfl,rfl⟩
 rw [h1,h2]
 have:=ah.new w 9 (eD (aK b (bl s))).toArray
 exact ⟨rfl,by simpa using this,bZ w _⟩
end Go.Proofs.YtoeoimhemojdeaaGreatDoor
