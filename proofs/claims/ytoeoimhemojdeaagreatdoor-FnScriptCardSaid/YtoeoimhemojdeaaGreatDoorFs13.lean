/- Lemmas. -/
import Derived.Test.YtoeoimhemojdeaaGreatDoorFs11
import Derived.Test.YtoeoimhemojdeaaGreatDoorFs12

set_option linter.unusedVariables false
set_option linter.unusedSimpArgs false
set_option maxHeartbeats 8000000
open Go.Value renaming int → O, slice → F, string → wG
open Go.IntKind renaming i64 → U
open Go.Proofs.Tryz renaming prog → wH

namespace Go.Proofs.YtoeoimhemojdeaaGreatDoor
open Go.RowKit
structure aE (w:World) (B g:Nat) (vt vo:Value) (y:Oc):Prop where
 lies:ai w g 40 [vt,vo,O U y.gt,O U y.sd,O U y.ms]
 hg:B≤g
 t:w.ownsRow B 104 2 vt y.t.length (y.t.flatMap aq.enc)
 o:w.ownsRow B 147 3 vo y.o.length (y.o.flatMap ae.enc)
theorem fz:104 ≠ 40:=dD
theorem fg:147 ≠ 40:=dD
theorem tj:147 ≠ 104:=dD
set_option maxRecDepth 100000 in
theorem nN (x:aO) (g:Nat) (w:World) (h:cw w w.heap.size g x) (tl:x.t.length≤1000000) (ol:x.o.length≤1000000) :
  Calls wH 93 #[.pointer (some ⟨g,0,none⟩)] w fun e w'=>∃ TA tc OA oc,e=.returned (aO.val (x.c.at TA tc OA oc))∧w'.ownsRow w.heap.size 104 2 (F TA x.t.length tc) x.t.length (x.t.flatMap aq.enc)∧w'.ownsRow w.heap.size 147 3 (F OA x.o.length oc) x.o.length (x.o.flatMap ae.enc)∧Below w.heap.size w w':=by
 have b1:=bZ w (.cells #[F none 0 0,F none 0 0,O U 0,O U 0,O U 0] 40)
 have L1:=ai.new w 40 #[F none 0 0,F none 0 0,O U 0,O U 0,O U 0]
 have hA:=h.then b1 b1.size
 go_enter Tryz.func93,Tryz.ntmps93
 go_wp2
 generalize w.alloc (.cells #[F none 0 0,F none 0 0,O U 0,O U 0,O U 0] 40)=W at b1 L1 hA ⊢
 have cT:∀ W',Below W.heap.size W W'→Calls wH 147 #[F x.TA x.t.length x.tc] W' (fun e w'=>∃ A c,e=.returned (F A x.t.length c)∧w'.ownsRow w.heap.size 104 2 (F A x.t.length c) x.t.length (x.t.flatMap aq.enc)∧Below W'.heap.size W' w'∧Below W.heap.size W w'):=fun W' hb =>
  (oT x.TA x.tc x.t W' (hA.r.up hb nR).ts tl).mono fun e w' ⟨A,c,he,ho,hb'⟩=>⟨A,c,he,ah ho (jT b1.size hb.size),hb',av hb hb'⟩
 have cO:∀ W',Below W.heap.size W W'→Calls wH 148 #[F x.OA x.o.length x.oc] W' (fun e w'=>∃ A c,e=.returned (F A x.o.length c)∧w'.ownsRow w.heap.size 147 3 (F A x.o.length c) x.o.length (x.o.flatMap ae.enc)∧Below W'.heap.size W' w'∧Below W.heap.size W w'):=fun W' hb =>
  (nh x.OA x.oc x.o W' (hA.r.up hb nR).os ol).mono fun e w' ⟨A,c,he,ho,hb'⟩=>⟨A,c,he,ah ho (jT b1.size hb.size),hb',av hb hb'⟩
 have Gg:∀ W',Below w.heap.size w W'→(Below w.heap.size w W'∧W'.cell? ⟨g,0,none⟩=some (F x.TA x.t.length x.tc)∧W'.cell? ⟨g,1,none⟩=some (F x.OA x.o.length x.oc)∧W'.cell? ⟨g,2,none⟩=some (O U x.gt)∧W'.cell? ⟨g,3,none⟩=some (O U x.sd)∧W'.cell? ⟨g,4,none⟩=some (O U x.ms)):=fun W' hb =>
  ⟨hb,h.s.c0 ⟨W',hb⟩,h.s.c1 ⟨W',hb⟩,h.s.c2 ⟨W',hb⟩,h.s.c3 ⟨W',hb⟩,h.s.c4 ⟨W',hb⟩⟩
 have HK:∀ W',Below W.heap.size W W'→(Below w.heap.size w W'∧W'.cell? ⟨g,0,none⟩=some (F x.TA x.t.length x.tc)∧W'.cell? ⟨g,1,none⟩=some (F x.OA x.o.length x.oc)∧W'.cell? ⟨g,2,none⟩=some (O U x.gt)∧W'.cell? ⟨g,3,none⟩=some (O U x.sd)∧W'.cell? ⟨g,4,none⟩=some (O U x.ms)):=fun W' hb=>Gg W' (b1.trans (hb.mono b1.size))
 have Gh:∀ W' (u0 u1 u2 u3 u4:Value),Below W.heap.size W W'→(Below w.heap.size w (((((W'.setCell ⟨w.heap.size,0,none⟩ u0).setCell ⟨w.heap.size,1,none⟩ u1).setCell ⟨w.heap.size,2,none⟩ u2).setCell ⟨w.heap.size,3,none⟩ u3).setCell ⟨w.heap.size,4,none⟩ u4)∧(((((W'.setCell ⟨w.heap.size,0,none⟩ u0).setCell ⟨w.heap.size,1,none⟩ u1).setCell ⟨w.heap.size,2,none⟩ u2).setCell ⟨w.heap.size,3,none⟩ u3).setCell ⟨w.heap.size,4,none⟩ u4).cell? ⟨g,0,none⟩=some (F x.TA x.t.length x.tc)∧(((((W'.setCell ⟨w.heap.size,0,none⟩ u0).setCell ⟨w.heap.size,1,none⟩ u1).setCell ⟨w.heap.size,2,none⟩ u2).setCell ⟨w.heap.size,3,none⟩ u3).setCell ⟨w.heap.size,4,none⟩ u4).cell? ⟨g,1,none⟩=some (F x.OA x.o.length x.oc)∧(((((W'.setCell ⟨w.heap.size,0,none⟩ u0).setCell ⟨w.heap.size,1,none⟩ u1).setCell ⟨w.heap.size,2,none⟩ u2).setCell ⟨w.heap.size,3,none⟩ u3).setCell ⟨w.heap.size,4,none⟩ u4).cell? ⟨g,2,none⟩=some (O U x.gt)∧(((((W'.setCell ⟨w.heap.size,0,none⟩ u0).setCell ⟨w.heap.size,1,none⟩ u1).setCell ⟨w.heap.size,2,none⟩ u2).setCell ⟨w.heap.size,3,none⟩ u3).setCell ⟨w.heap.size,4,none⟩ u4).cell? ⟨g,3,none⟩=some (O U x.sd)∧(((((W'.setCell ⟨w.heap.size,0,none⟩ u0).setCell ⟨w.heap.size,1,none⟩ u1).setCell ⟨w.heap.size,2,none⟩ u2).setCell ⟨w.heap.size,3,none⟩ u3).setCell ⟨w.heap.size,4,none⟩ u4).cell? ⟨g,4,none⟩=some (O U x.ms)):=fun W' u0 u1 u2 u3 u4 hb=>Gg _ ((b1.trans (hb.mono b1.size)).grown (ab (ab (ab (ab (ab (World.grownBy.refl W' (some w.heap.size))))))) (jT b1.size hb.size) (by rintro _ ⟨⟩; exact Nat.le_refl _))
 have HZ:∀ W',Below W.heap.size W W'→(W'.cell? ⟨w.heap.size,0,none⟩=some (F none 0 0)∧W'.cell? ⟨w.heap.size,1,none⟩=some (F none 0 0)∧W'.cell? ⟨w.heap.size,2,none⟩=some (O U 0)∧W'.cell? ⟨w.heap.size,3,none⟩=some (O U 0)∧W'.cell? ⟨w.heap.size,4,none⟩=some (O U 0) ∧
   W'.frozen? ⟨w.heap.size,0,none⟩=false∧W'.frozen? ⟨w.heap.size,1,none⟩=false∧W'.frozen? ⟨w.heap.size,2,none⟩=false∧W'.frozen? ⟨w.heap.size,3,none⟩=false∧W'.frozen? ⟨w.heap.size,4,none⟩=false):=fun W' hb =>
  have L:=L1.below hb L1.lt
  ⟨L.cell 0,L.cell 1,L.cell 2,L.cell 3,L.cell 4,L.frozen 0,L.frozen 1,L.frozen 2,L.frozen 3,L.frozen 4⟩
 have BY:=jZ L1; clear L1
 have Gi:=jZ b1; clear b1
 clear hA h
 go_region_held3 (fun W'=>(Below w.heap.size w W'∧W'.cell? ⟨g,0,none⟩=some (F x.TA x.t.length x.tc)∧W'.cell? ⟨g,1,none⟩=some (F x.OA x.o.length x.oc)∧W'.cell? ⟨g,2,none⟩=some (O U x.gt)∧W'.cell? ⟨g,3,none⟩=some (O U x.sd)∧W'.cell? ⟨g,4,none⟩=some (O U x.ms))) (first | exact HK _ jB.drew | exact HK _ hb9 | exact HK _ wL | exact Gh _ _ _ _ _ _ hb9 | exact Gh _ _ _ _ _ _ wL) (first | (go_at_call 147; (first | (refine (cT _ jB.drew).mono ?_) | (refine (cT _ hb9).mono ?_)); rintro e w8 ⟨A8,c8,rfl,Cb,Mm,wL⟩; obtain ⟨z0,z1,z2,z3,z4,f0,f1,f2,f3,f4⟩:=HZ _ wL) | (go_at_call 148; (first | (refine (cO _ jB.drew).mono ?_) | (refine (cO _ wL).mono ?_)); rintro e w9 ⟨A9,c9,rfl,Gj,DO,hb9⟩; obtain ⟨y0,y1,y2,y3,y4,g0,g1,g2,g3,g4⟩:=HZ _ hb9))
 have wS:ai w9 w.heap.size 40 [F none 0 0,F none 0 0,O U 0,O U 0,O U 0]:=BY.out.below hb9 BY.out.lt
 have e0:=(((((wS.set 0 (F A8 x.t.length c8)).set 1 (F A9 x.o.length c9)).set 2 (O U x.gt)).set 3 (O U x.sd)).set 4 (O U x.ms))
 have wY:=ab (g:=w.heap.size) (i:=4) (u:=O U x.ms) (gw4 w9 w.heap.size (F A8 x.t.length c8) (F A9 x.o.length c9) (O U x.gt) (O U x.sd))
 have r8:=ak (ac Cb DO) wS fz wY
 have r9:=ak Gj wS fg wY
 have b9:Below w.heap.size w w9:=Gi.out.trans (hb9.mono Gi.out.size)
 have b10:=b9.grown wY b9.size (by rintro _ ⟨⟩; exact Nat.le_refl _)
 generalize (((((w9.setCell ⟨w.heap.size,0,none⟩ (F A8 x.t.length c8)).setCell ⟨w.heap.size,1,none⟩ (F A9 x.o.length c9)).setCell ⟨w.heap.size,2,none⟩ (O U x.gt)).setCell ⟨w.heap.size,3,none⟩ (O U x.sd)).setCell ⟨w.heap.size,4,none⟩ (O U x.ms))=W10 at e0 wY r8 r9 b10 ⊢
 simp only [List.set_cons_zero,List.set_cons_succ] at e0
 obtain ⟨k0,k1,k2,k3,k4⟩:=cells5 e0
 have R8:=jZ r8; clear r8
 have R9:=jZ r9; clear r9
 clear z0 z1 z2 z3 z4 f0 f1 f2 f3 f4 y0 y1 y2 y3 y4 g0 g1 g2 g3 g4 Cb Gj wY
 go_wp2
 refine bodyPost_ret (v:=aO.val (x.c.at A8 c8 A9 c9)) (by simp [results,Tryz.results93,go_sem,Oc.at,aO.c, *]) rfl ⟨A8,c8,A9,c9,rfl,R8.out,R9.out,b10⟩
end Go.Proofs.YtoeoimhemojdeaaGreatDoor
