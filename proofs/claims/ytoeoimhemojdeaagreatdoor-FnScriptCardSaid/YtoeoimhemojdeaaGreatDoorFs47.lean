/- Lemmas. -/
import Derived.Deep.DeepCutAuto
import Derived.Test.YtoeoimhemojdeaaGreatDoorFs38
import Derived.Test.YtoeoimhemojdeaaGreatDoorFs46

set_option linter.unusedVariables false
set_option linter.unusedSimpArgs false
set_option maxHeartbeats 8000000
open Go.Value renaming int → O, slice → F, string → wG
open Go.IntKind renaming i64 → U
open Go.Proofs.Tryz renaming prog → wH

namespace Go.Proofs.YtoeoimhemojdeaaGreatDoor
open Go.RowKit
theorem mD {w w' : World} {g b i:Nat} {v:Value} (gr:w.grownBy w' (some g)) (hb:b < w.heap.size) (wT : ¬ b=g) (h:w.cell? ⟨b,i,none⟩=some v):w'.cell? ⟨b,i,none⟩=some v :=
 (World.cell?_of_block (gr.block b hb (by intro e; injection e with e; exact wT e))).trans h
theorem vw {ns:List Int} {a0 a1:Int} (hl:ns.length=2) (h0:0 < ns.length) (h1:1 < ns.length) (e0:ns[0]=a0) (e1:ns[1]=a1):ns = [a0,a1]:=by
 subst e0; subst e1
 match ns,hl with
 | [b0,b1],_=>rfl
theorem sQ {ns:List Int} {a0 a1 a2:Int} (hl:ns.length=3) (h0:0 < ns.length) (h1:1 < ns.length) (h2:2 < ns.length) (e0:ns[0]=a0) (e1:ns[1]=a1) (e2:ns[2]=a2):ns = [a0,a1,a2]:=by
 subst e0; subst e1; subst e2
 match ns,hl with
 | [b0,b1,b2],_=>rfl
theorem ii (x:aO) (s:df) (w:World) (h:aQ w w.heap.size x):Calls wH 157 #[x.val,s.val] w (aF w (gq x.c s)):=ll x s w h
def bL (w:World) (B g:Nat) (x:aO) (l:Lg) (R:Option (Oc × ByteArray)) (e:Ending) (w' : World):Prop :=
 (R=none∧(∃ s,e=.returned (.tuple #[wG s,.bool false]))∧Below w.heap.size w w') ∨
 ∃ z r,R=some (z,r)∧e=.returned (.tuple #[wG r,.bool true])∧dr w' B g z l∧Below B w w'∧w.heap.size≤w'.heap.size∧(∀ j,j < w.heap.size→j ≠ g→w'.heap[j]?=w.heap[j]?)
theorem bL.no {w w' : World} {B g:Nat} {x:aO} {l:Lg} {s:ByteArray} (hb:Below w.heap.size w w'):bL w B g x l none (.returned (.tuple #[wG s,.bool false])) w':=.inl ⟨rfl,⟨s,rfl⟩,hb⟩
theorem bL.yes {w w' : World} {B g:Nat} {x:aO} {l:Lg} {z:Oc} {r T:ByteArray} (hT:r=T) (h1:dr w' B g z l) (h2:Below B w w') (h3:w.heap.size≤w'.heap.size) (h4:∀ j,j < w.heap.size→j ≠ g→w'.heap[j]?=w.heap[j]?):bL w B g x l (some (z,r)) (.returned (.tuple #[wG T,.bool true])) w':=by
 subst hT; exact .inr ⟨z,r,rfl,rfl,h1,h2,h3,h4⟩
set_option maxRecDepth 100000 in
theorem rC (x:aO) (l:Lg) (s:ByteArray) (AN:Option Addr) (cN:Nat) (ns:List Int) (Df:2≤ns.length) (It:ns.length≤3) (g:Nat) (W0 w:World) (hL:ai w g 42 [F x.TA x.t.length x.tc,F x.OA x.o.length x.oc,O U x.gt,O U x.sd,O U x.ms,wG l.D,wG l.P,O U l.n]) (hB:W0.heap.size≤g) (hb0:Below W0.heap.size W0 w) (h:aQ w w.heap.size x) (hN:iG w w.heap.size AN ns) (Kb:AN.map (·.block) ≠ some g) (ht:hQ W0) :
  Calls wH 99 #[.pointer (some ⟨g,0,none⟩),wG s,F AN ns.length cN] w (bL w W0.heap.size g x l (bH x s ns)):=by
 obtain ⟨bN,off,rfl,hbN,hcN⟩:=hN.ints oM
 have Kc : ¬ bN=g:=fun e=>Kb (by rw [← e]; rfl)
 have EB:0 < ns.length:=oM
 have CP:1 < ns.length:=oM
 obtain ⟨a0,Ab⟩ : ∃ a,ns[0]'EB=a:=⟨_,rfl⟩
 obtain ⟨a1,Bc⟩ : ∃ a,ns[1]'CP=a:=⟨_,rfl⟩
 have c0n:∀ p:ap w.heap.size w,p.val.cell? ⟨bN,off,none⟩=some (O U a0):=fun p=>by have:=hcN 0 EB p; rw [Ab] at this; exact this
 have c1n:∀ p:ap w.heap.size w,p.val.cell? ⟨bN,off+1,none⟩=some (O U a1):=fun p=>by have:=hcN 1 CP p; rw [Bc] at this; exact this
 have Nl:(0:Int) < (ns.length:Int):=oM
 have Nm:(1:Int) < (ns.length:Int):=oM
 have IB:=jZ hcN
 clear hcN
 have H2:Hid (∀ (hl:ns.length=2),ns = [a0,a1]):=fun hl=>vw hl EB CP Ab Bc
 have H3:Hid (∀ (hl:ns.length=3) (a2:Int),ns[2]'oM=a2→ns = [a0,a1,a2]):=fun hl a2 zT=>sQ hl EB CP oM Ab Bc zT
 clear Ab Bc
 go_enter Tryz.func99,Tryz.ntmps99
 go_upto_region 1 with fail
 refine al (fun _=>(fun W9=>Below w.heap.size w W9)) (fun i w1 w2=>i ∉ [8]→Below w1.heap.size w1 w2) kZ kZ kZ jB.drew ?_
 simp only [ax,Act.put,sA,gs0,gs1,Nat.zero_add,Nat.reduceAdd]
 refine aa _ vp0 ?_
 refine aa _ (vp1 0) ?_
 refine aa _ (vp1s 1 c0n) ?_
 refine aa _ vp0 ?_
 refine aa _ (vp1 3) ?_
 refine aa _ (vp1s 4 c1n) ?_
 refine aa _ (vp2 2 5) ?_
 refine sm [8] (fun v w9=>∃ g9,v=.pointer (some ⟨g9,0,none⟩)∧w.heap.size≤g9∧ai w9 g9 112 [O U 0,O U 0,O U 0,O U 0]) (fun vs L9 w9 wK wI hB K9 wJ=>?_) ?_
 next =>
  simp only [Act.put,sA,gs0,gs1] at wJ
  go_simp
  have wL:=(Below.refl w9.heap.size w9).alloc nR (.cells #[O U 0,O U 0,O U 0,O U 0] 112)
  exact wJ _ _ _ rfl ⟨_,rfl,wI.size,ai.new w9 112 #[O U 0,O U 0,O U 0,O U 0]⟩ (wI.trans (wL.mono wI.size)) (fun _=>wL)
 refine pm [] 7 (fun u _ w9=>∃ g9,u=.pointer (some ⟨g9,0,none⟩)∧w.heap.size≤g9∧ai w9 g9 112 [O U 0,O U a0,O U a1,O U 0]) (fun vs L9 w9 wK wI hB K9 wJ=>?_) ?_
 next =>
  have d6:=fe hB 6
  simp only [d6] at wJ ⊢
  obtain ⟨g9,AH,ym,xx⟩:=fs hB 7
  simp only [AH] at wJ ⊢
  obtain ⟨z0,z1,z2,z3⟩:=cells4 xx
  obtain ⟨f0,f1,f2,f3⟩:=frz4 xx
  have xo:=jZ (show ai _ g9 112 [O U 0,O U a0,O U a1,O U 0] from ((((xx.set 0 (O U 0)).set 1 (O U a0)).set 2 (O U a1)).set 3 (O U 0)))
  have xK:=jZ (wI.grown (row:=some g9) (ab (g:=g9) (i:=3) (u:=O U 0) (ab (g:=g9) (i:=2) (u:=O U a1) (ab (g:=g9) (i:=1) (u:=O U a0) (ab (g:=g9) (i:=0) (u:=O U 0) jG)))) wI.size (by rintro _ ⟨⟩; exact ym))
  clear xx
  go_simp
  exact wJ _ undef _ rfl ⟨g9,rfl,ym,xo.out⟩ xK.out nq
 refine ar fun vs L9 w2 wS b2 hB=>?_
 obtain ⟨g5,yx,yy,K5⟩:=hB 8 _ rfl rfl dD
 simp only [yx]
 clear hB wS yx
 have n0w:∀ W:World,Below w.heap.size w W→W.cell? ⟨bN,off,none⟩=some (O U a0):=fun W hb=>c0n ⟨W,hb⟩
 have n1w:∀ W:World,Below w.heap.size w W→W.cell? ⟨bN,off+1,none⟩=some (O U a1):=fun W hb=>c1n ⟨W,hb⟩
 have hneN : ¬ bN=g5:=oM
 have hneN2 : ¬ g5=bN:=oM
 clear c0n c1n
 by_cases h0:s=⟨#[103,101,116]⟩
 ·subst h0
  by_cases hl:ns.length=2
  ·have zb:=H2.out hl
   have hr:bH x ⟨#[103,101,116]⟩ ns=cc x ⟨1,a0,0,a1⟩:=by
    rw [zb,show bH x ⟨#[103,101,116]⟩ [a0,a1]=(cZ ⟨#[103,101,116]⟩ a0 a1).bind (cc x) from rfl]
    unfold cZ
    rw [if_pos rfl]; rfl
   clear zb
   have zz:((ns.length:Int) != 2)=false:=by rw [hl]; rfl
   have HL:=jZ hl
   clear hl
   have hc:=fun W hW=>ii x ⟨1,a0,0,a1⟩ W hW
   obtain ⟨R,hR⟩ : ∃ R,gq x.c ⟨1,a0,0,a1⟩=R:=⟨_,rfl⟩
   rw [hR] at hc
   unfold cc at hr
   rw [hR] at hr
   go_upto_region 6 with fail
   refine al (Sw 7 (fun W9=>Below w2.heap.size w2 W9) (fun W9=>Below w.heap.size w W9∧ai W9 g5 112 [O U 1,O U a0,O U 0,O U a1])) (fun i w1 w2=>i ∉ [7]→Below w1.heap.size w1 w2) kZ kZ kZ (Sw.start jB.drew) ?_
   simp only [ax,Act.put,sA,gs0,gs1,Nat.zero_add,Nat.reduceAdd]
   refine aa _ vb0 ?_
   refine aa _ (vb1 0) ?_
   apply aa
   case h1 =>
    intro vs L9 w9 wK wI hB K9 wJ
    replace wI:=sb wI wK
    have d1:=fe hB 1
    simp only [d1] at wJ ⊢
    have q0:w9.cell? ⟨bN,off,none⟩=some (O U a0):=n0w w9 (b2.trans (wI.mono b2.size))
    simp only [Act.put,sA,gs0,gs1] at wJ
    go_simp
    exact wJ _ _ rfl (sy wK wI) bR
   refine aa _ vb0 ?_
   refine aa _ (vb1 3) ?_
   apply aa
   case h1 =>
    intro vs L9 w9 wK wI hB K9 wJ
    replace wI:=sb wI wK
    have d4:=fe hB 4
    simp only [d4] at wJ ⊢
    have q0:w9.cell? ⟨bN,off+1,none⟩=some (O U a1):=n1w w9 (b2.trans (wI.mono b2.size))
    simp only [Act.put,sA,gs0,gs1] at wJ
    go_simp
    exact wJ _ _ rfl (sy wK wI) bR
   refine aa _ (vb2 2 5) ?_
   refine aa (undef) (fun vs L9 w9 wK wI hB K9 wJ=>?_) ?_
   next =>
    replace wI:=wI.here wK
    have d6:=fe hB 6
    simp only [d6] at wJ ⊢
    have Lr:=K5.below wI K5.lt
    obtain ⟨z0,z1,z2,z3⟩:=cells4 Lr
    obtain ⟨f0,f1,f2,f3⟩:=frz4 Lr
    have xo:=jZ (show ai _ g5 112 [O U 1,O U a0,O U 0,O U a1] from wF (Lr) (O U 1) (O U a0) (O U 0) (O U a1))
    have xK:=jZ (wn (g:=g5) (b2.trans (wI.mono b2.size)) yy (O U 1) (O U a0) (O U 0) (O U a1))
    clear Lr
    go_simp
    exact wJ _ _ rfl (Sw.turn ⟨xK.out,xo.out⟩) nq
   refine aa _ va0 ?_
   refine ar fun vs L9 w9 wS wI hB=>?_
   replace wI:=wI.done wS dD
   have dl:=ag.eq (hB 8 _ rfl rfl dD)
   simp only [dl]
   clear hB dl b2 K5
   obtain ⟨b3,K5⟩:=wI
   go_upto_region 21 with fail
   generalize w9=w3 at b3 K5 ⊢
   have yY:=hL.below b3 hL.lt
   have yu:=h.up b3 nR
   obtain ⟨y,hy⟩ : ∃ y,cU R=y:=⟨_,rfl⟩
   obtain ⟨ok,wP⟩ : ∃ ok,R.isSome=ok:=⟨_,rfl⟩
   have HR:=jZ hR
   have HY:=jZ hy
   have xf:=jZ wP
   unfold aF at hc
   rw [hy,wP] at hc
   clear hR hy wP
   refine al (fun _=>(fun W9=>Below w3.heap.size w3 W9)) (fun i w1 w2=>i ∉ [10]→Below w1.heap.size w1 w2) kZ kZ kZ jB.drew ?_
   simp only [ax,Act.put,sA,gs0,gs1,Nat.zero_add,Nat.reduceAdd]
   refine aa _ vp0 ?_
   refine aa _ (vp1 0) ?_
   refine aa _ (vp1 1) ?_
   refine aa _ (vp1C5 2 yY) ?_
   refine aa _ (vp0C4 K5) ?_
   refine sm [10] (fun v w9=>∃ TA tc OA oc,v=.tuple #[.agg #[F TA y.t.length tc,F OA y.o.length oc,O U y.gt,O U y.sd,O U y.ms],.bool ok]∧w9.ownsRow w.heap.size 104 2 (F TA y.t.length tc) y.t.length (y.t.flatMap aq.enc)∧w9.ownsRow w.heap.size 147 3 (F OA y.o.length oc) y.o.length (y.o.flatMap ae.enc)) (fun vs L9 w9 wK wI hB K9 wJ=>?_) ?_
   next =>
    have d3:=fe hB 3
    have d4:=fe hB 4
    simp only [d3,d4] at wJ ⊢
    simp only [Act.put,sA,gs0,gs1] at wJ
    go_simp
    refine (hc w9 (yu.then wI)).mono ?_
    rintro en w8 ⟨TA,tc,OA,oc,rfl,h1,h2,wL⟩
    simp only [Oc.at,aO.val]
    exact wJ _ _ _ rfl ⟨TA,tc,OA,oc,rfl,ah h1 (jT b3.size wI.size),ah h2 (jT b3.size wI.size)⟩ (wI.trans (wL.mono wI.size)) (fun _=>wL)
   refine pm0 [] 5 (fun u v w9=>v=u∧∃ TA tc OA oc,u=.tuple #[.agg #[F TA y.t.length tc,F OA y.o.length oc,O U y.gt,O U y.sd,O U y.ms],.bool ok]) (fun vs L9 w9 wK wI hB K9 wJ=>?_) ?_
   next =>
    obtain ⟨TA,tc,OA,oc,e0,h1,h2⟩:=fs hB 5
    simp only [e0] at wJ ⊢
    go_simp
    exact wJ _ _ _ rfl ⟨rfl,TA,tc,OA,oc,rfl⟩ wI bR
   refine sm [10] (fun v w9=>∃ TA tc OA oc,v=.agg #[F TA y.t.length tc,F OA y.o.length oc,O U y.gt,O U y.sd,O U y.ms]∧w9.ownsRow w.heap.size 104 2 (F TA y.t.length tc) y.t.length (y.t.flatMap aq.enc)∧w9.ownsRow w.heap.size 147 3 (F OA y.o.length oc) y.o.length (y.o.flatMap ae.enc)) (fun vs L9 w9 wK wI hB K9 wJ=>?_) ?_
   next =>
    simp only [Act.put,sA,gs0,gs1] at wJ
    obtain ⟨TA,tc,OA,oc,e0,h1,h2⟩:=fs hB 5
    obtain ⟨e6,_⟩:=fs hB 6
    simp only [e6,e0] at wJ ⊢
    go_simp
    exact wJ _ _ _ rfl ⟨TA,tc,OA,oc,rfl,h1,h2⟩ wI bR
   refine aa (.bool ok) (fun vs L9 w9 wK wI hB K9 wJ=>?_) ?_
   next =>
    obtain ⟨e6,TA,tc,OA,oc,e0⟩:=fs hB 6
    simp only [e6,e0] at wJ ⊢
    go_simp
    exact wJ _ _ rfl wI bR
   refine sm [10] (fun v w9=>∃ g9,v=.pointer (some ⟨g9,0,none⟩)∧w3.heap.size≤g9∧ai w9 g9 40 [F none 0 0,F none 0 0,O U 0,O U 0,O U 0]) (fun vs L9 w9 wK wI hB K9 wJ=>?_) ?_
   next =>
    simp only [Act.put,sA,gs0,gs1] at wJ
    go_simp
    have wL:=(Below.refl w9.heap.size w9).alloc nR (.cells #[F none 0 0,F none 0 0,O U 0,O U 0,O U 0] 40)
    exact wJ _ _ _ rfl ⟨_,rfl,wI.size,ai.new w9 40 #[F none 0 0,F none 0 0,O U 0,O U 0,O U 0]⟩ (wI.trans (wL.mono wI.size)) (fun _=>wL)
   refine pm [] 9 (fun u _ w9=>∃ g9 TA tc OA oc,u=.pointer (some ⟨g9,0,none⟩)∧w3.heap.size≤g9∧ai w9 g9 40 [F TA y.t.length tc,F OA y.o.length oc,O U y.gt,O U y.sd,O U y.ms]∧w9.ownsRow w.heap.size 104 2 (F TA y.t.length tc) y.t.length (y.t.flatMap aq.enc)∧w9.ownsRow w.heap.size 147 3 (F OA y.o.length oc) y.o.length (y.o.flatMap ae.enc)) (fun vs L9 w9 wK wI hB K9 wJ=>?_) ?_
   next =>
    obtain ⟨g9,AH,ym,xx⟩:=fs hB 9
    simp only [AH] at wJ ⊢
    obtain ⟨TA,tc,OA,oc,e0,h1,h2⟩:=fs hB 7
    simp only [e0] at wJ ⊢
    obtain ⟨z0,z1,z2,z3,z4⟩:=cells5 xx
    obtain ⟨f0,f1,f2,f3,f4⟩:=frz5 xx
    have xo:=jZ (show ai _ g9 40 [F TA y.t.length tc,F OA y.o.length oc,O U y.gt,O U y.sd,O U y.ms] from un (xx) (F TA y.t.length tc) (F OA y.o.length oc) (O U y.gt) (O U y.sd) (O U y.ms))
    have xK:=jZ (wI.grown (row:=some g9) (gw5 _ g9 (F TA y.t.length tc) (F OA y.o.length oc) (O U y.gt) (O U y.sd) (O U y.ms)) wI.size (by rintro _ ⟨⟩; exact ym))
    have zA:=jZ (ak h1 xx fz (gw5 _ g9 (F TA y.t.length tc) (F OA y.o.length oc) (O U y.gt) (O U y.sd) (O U y.ms)))
    have xi:=jZ (ak h2 xx fg (gw5 _ g9 (F TA y.t.length tc) (F OA y.o.length oc) (O U y.gt) (O U y.sd) (O U y.ms)))
    clear xx
    go_simp
    exact wJ _ undef _ rfl ⟨g9,TA,tc,OA,oc,rfl,ym,xo.out,zA.out,xi.out⟩ xK.out nq
   refine aa _ (vp1 8) ?_
   refine ar fun vs L9 w4 wS wI hB=>?_
   obtain ⟨gt,TA,tc,OA,oc,yx,Ag,Kt,xt,xm⟩:=hB 10 _ rfl rfl dD
   have dl:=ag.eq (hB 11 _ rfl rfl dD)
   simp only [yx,dl]
   clear hB wS yx dl
   have b4:=b3.trans (wI.mono b3.size)
   cases R with
   | none =>
    have e1:ok=false:=xf.out.symm
    subst e1
    have HE:Hid (bH x ⟨#[103,101,116]⟩ ns=none):=hr
    clear hr
    clear Kt K5 yY yu xt xm HY
    go_wp2_with fail
    go_ret2
    rw [HE.out]
    exact bL.no b4
   | some z =>
   have e1:ok=true:=xf.out.symm
   subst e1
   have e2:z=y:=HY.out
   subst e2
   have yC:=HR.out
   have HE:Hid (bH x ⟨#[103,101,116]⟩ ns=some (z,iz z.off ⟨1,a0,0,a1⟩)):=hr
   clear hr
   have xC:=hL.below b4 hL.lt
   have yb:g < gt:=jL hL.lt (jT b3.size Ag)
   have xD:W0.heap.size≤w.heap.size:=hb0.size
   obtain ⟨w5,zU,M,b5,gr5,OT⟩:=ja xC (b4.mono xD) hB (F TA z.t.length tc) (F OA z.o.length oc) (O U z.gt) (O U z.sd) (O U z.ms)
   have Mt:=OT _ _ _ oM Kt
   have xN:=ak xt xC fj gr5
   have x9:=ak xm xC fk gr5
   have Dt:Hid (∀ j,j < w.heap.size→j ≠ g→w5.heap[j]?=w.heap[j]?):=fun j hj wT=>(gr5.block j (jL hj b4.size) (by intro e; injection e with e; exact wT e)).trans (b4.block j hj)
   have zR:w.heap.size≤w5.heap.size:=jT b4.size gr5.size
   obtain ⟨z0,z1,z2,z3,z4⟩:=cells5 Kt
   obtain ⟨k0,k1,k2,k3,k4,k5,k6,k7⟩:=cells8 xC
   obtain ⟨f0,f1,f2,f3,f4,f5,f6,f7⟩:=frz8 xC
   go_upto_region 25 with fail
   clear z0 z1 z2 z3 z4 k0 k1 k2 k3 k4 k5 k6 k7 f0 f1 f2 f3 f4 xC gr5 yY yu K5
   rw [zU.out]
   clear zU OT
   have b05:=hb0.trans b5
   have Du:=ht.then b05
   have Dv:w.heap.size≤gt:=jT b3.size Ag
   have Dw:aE w5 w.heap.size gt (F TA z.t.length tc) (F OA z.o.length oc) z:=⟨Mt,Dv,xN,x9⟩
   have hat:=aE.at_ Dw
   have yX:=fH yC
   have GZ:bK (z.at TA tc OA oc):=Oc.good_off yX.1 TA tc OA oc
   have Ah:dr w5 W0.heap.size g z l:=⟨TA,tc,OA,oc,M,ah xN xD,ah x9 xD⟩
   obtain ⟨z0,z1,z2,z3,z4⟩:=cells5 Mt
   have bd:=GZ.inB
   have zl:=jt (z.at TA tc OA oc) gt w5 hat GZ.tl GZ.tall
   have hn:=fun W hW=>cq (cJ z.t) W (by have e:(z.at TA tc OA oc).t=z.t:=rfl; rw [e] at bd; omega) (by have e:(z.at TA tc OA oc).t=z.t:=rfl; rw [e] at bd; omega) hW
   clear bd
   go_wp2_with fail
   refine zl.mono ?_
   rintro e W6 ⟨rfl,xn⟩
   go_wp2_with fail
   refine (hn _ (Du.then xn)).mono ?_
   rintro e W7 ⟨rfl,yJ⟩
   have wL:=av xn yJ
   go_wp2
   go_ret2
   rw [HE.out]
   exact bL.yes rfl (Ah.below wL) (b5.trans (wL.mono (jT xD zR))) (jT zR wL.size) (fun j hj wT=>(wL.block j (jL hj zR)).trans (Dt.out j hj wT))
  ·have hr:bH x ⟨#[103,101,116]⟩ ns=none:=by
    rw [H3.out oM (ns[2]'oM) rfl]; generalize ns[2]'oM=b2; rw [show bH x ⟨#[103,101,116]⟩ [a0,a1,b2]=(dB ⟨#[103,101,116]⟩ a0 a1 b2).bind (cc x) from rfl]; unfold dB; rw [if_neg dD,if_neg dD,if_neg dD,if_neg dD]; rfl
   have HE:Hid (bH x ⟨#[103,101,116]⟩ ns=none):=hr
   clear hr
   have zz:((ns.length:Int) != 2)=true:=by rw [bne_iff_ne]; omega
   go_upto_region 6 with fail
   refine al (Sw 7 (fun W9=>Below w2.heap.size w2 W9) (fun W9=>Below w.heap.size w W9)) (fun i w1 w2=>i ∉ [7]→Below w1.heap.size w1 w2) kZ kZ kZ (Sw.start jB.drew) ?_
   simp only [ax,Act.put,sA,gs0,gs1,Nat.zero_add,Nat.reduceAdd]
   refine aa _ vb0 ?_
   refine aa _ (vb1 0) ?_
   apply aa
   case h1 =>
    intro vs L9 w9 wK wI hB K9 wJ
    replace wI:=sb wI wK
    have d1:=fe hB 1
    simp only [d1] at wJ ⊢
    have q0:w9.cell? ⟨bN,off,none⟩=some (O U a0):=n0w w9 (b2.trans (wI.mono b2.size))
    simp only [Act.put,sA,gs0,gs1] at wJ
    go_simp
    exact wJ _ _ rfl (sy wK wI) bR
   refine aa _ vb0 ?_
   refine aa _ (vb1 3) ?_
   apply aa
   case h1 =>
    intro vs L9 w9 wK wI hB K9 wJ
    replace wI:=sb wI wK
    have d4:=fe hB 4
    simp only [d4] at wJ ⊢
    have q0:w9.cell? ⟨bN,off+1,none⟩=some (O U a1):=n1w w9 (b2.trans (wI.mono b2.size))
    simp only [Act.put,sA,gs0,gs1] at wJ
    go_simp
    exact wJ _ _ rfl (sy wK wI) bR
   refine aa _ (vb2 2 5) ?_
   refine aa (undef) (fun vs L9 w9 wK wI hB K9 wJ=>?_) ?_
   next =>
    replace wI:=wI.here wK
    have d6:=fe hB 6
    simp only [d6] at wJ ⊢
    have Lr:=K5.below wI K5.lt
    obtain ⟨z0,z1,z2,z3⟩:=cells4 Lr
    obtain ⟨f0,f1,f2,f3⟩:=frz4 Lr
    have xK:=jZ (wn (g:=g5) (b2.trans (wI.mono b2.size)) yy (O U 1) (O U a0) (O U 0) (O U a1))
    clear Lr
    go_simp
    exact wJ _ _ rfl (Sw.turn xK.out) nq
   refine aa _ va0 ?_
   refine ar fun vs L9 w9 wS wI hB=>?_
   replace wI:=wI.done wS dD
   have dl:=ag.eq (hB 8 _ rfl rfl dD)
   simp only [dl]
   clear hB dl b2 K5
   go_wp2_with fail
   go_ret2
   rw [HE.out]
   exact bL.no wI
 have f0:(s.toList == [103,101,116])=false:=bW h0
 by_cases h1:s=⟨#[115,104,111,119]⟩
 ·subst h1
  by_cases hl:ns.length=3
  ·have y7:2 < ns.length:=oM
   have Fl:(2:Int) < (ns.length:Int):=oM
   obtain ⟨a2,zT⟩ : ∃ a,ns[2]'y7=a:=⟨_,rfl⟩
   have n2w:∀ W:World,Below w.heap.size w W→W.cell? ⟨bN,off+2,none⟩=some (O U a2):=fun W hb=>by have:=IB.out 2 y7 ⟨W,hb⟩; rw [zT] at this; exact this
   have zb:=H3.out hl a2 zT
   have hr:bH x ⟨#[115,104,111,119]⟩ ns=cc x ⟨2,a0,a1,a2⟩:=by
    rw [zb,show bH x ⟨#[115,104,111,119]⟩ [a0,a1,a2]=(dB ⟨#[115,104,111,119]⟩ a0 a1 a2).bind (cc x) from rfl]
    unfold dB
    rw [if_pos rfl]; rfl
   clear zb zT
   have zz:((ns.length:Int) != 3)=false:=by rw [hl]; rfl
   have HL:=jZ hl
   clear hl
   have hc:=fun W hW=>ii x ⟨2,a0,a1,a2⟩ W hW
   obtain ⟨R,hR⟩ : ∃ R,gq x.c ⟨2,a0,a1,a2⟩=R:=⟨_,rfl⟩
   rw [hR] at hc
   unfold cc at hr
   rw [hR] at hr
   obtain ⟨s0,s1,s2,s3⟩:=cells4 K5
   obtain ⟨fs0,fs1,fs2,fs3⟩:=frz4 K5
   have n2c:=n2w w2 b2
   go_upto_region 21 with fail
   have K6:ai ((w2.setCell ⟨g5,0,none⟩ (O U 2)).setCell ⟨g5,3,none⟩ (O U a2)) g5 112 [O U 2,O U a0,O U a1,O U a2]:=((K5.set 0 (O U 2)).set 3 (O U a2))
   have b3:=((b2.setCell (p:=⟨g5,0,none⟩) yy (O U 2)).setCell (p:=⟨g5,3,none⟩) yy (O U a2))
   clear K5 b2 s0 s1 s2 s3 fs0 fs1 fs2 fs3 n2c
   generalize ((w2.setCell ⟨g5,0,none⟩ (O U 2)).setCell ⟨g5,3,none⟩ (O U a2))=w3 at K6 b3 ⊢
   have K5:=K6
   clear K6
   have yY:=hL.below b3 hL.lt
   have yu:=h.up b3 nR
   obtain ⟨y,hy⟩ : ∃ y,cU R=y:=⟨_,rfl⟩
   obtain ⟨ok,wP⟩ : ∃ ok,R.isSome=ok:=⟨_,rfl⟩
   have HR:=jZ hR
   have HY:=jZ hy
   have xf:=jZ wP
   unfold aF at hc
   rw [hy,wP] at hc
   clear hR hy wP
   refine al (fun _=>(fun W9=>Below w3.heap.size w3 W9)) (fun i w1 w2=>i ∉ [10]→Below w1.heap.size w1 w2) kZ kZ kZ jB.drew ?_
   simp only [ax,Act.put,sA,gs0,gs1,Nat.zero_add,Nat.reduceAdd]
   refine aa _ vp0 ?_
   refine aa _ (vp1 0) ?_
   refine aa _ (vp1 1) ?_
   refine aa _ (vp1C5 2 yY) ?_
   refine aa _ (vp0C4 K5) ?_
   refine sm [10] (fun v w9=>∃ TA tc OA oc,v=.tuple #[.agg #[F TA y.t.length tc,F OA y.o.length oc,O U y.gt,O U y.sd,O U y.ms],.bool ok]∧w9.ownsRow w.heap.size 104 2 (F TA y.t.length tc) y.t.length (y.t.flatMap aq.enc)∧w9.ownsRow w.heap.size 147 3 (F OA y.o.length oc) y.o.length (y.o.flatMap ae.enc)) (fun vs L9 w9 wK wI hB K9 wJ=>?_) ?_
   next =>
    have d3:=fe hB 3
    have d4:=fe hB 4
    simp only [d3,d4] at wJ ⊢
    simp only [Act.put,sA,gs0,gs1] at wJ
    go_simp
    refine (hc w9 (yu.then wI)).mono ?_
    rintro en w8 ⟨TA,tc,OA,oc,rfl,h1,h2,wL⟩
    simp only [Oc.at,aO.val]
    exact wJ _ _ _ rfl ⟨TA,tc,OA,oc,rfl,ah h1 (jT b3.size wI.size),ah h2 (jT b3.size wI.size)⟩ (wI.trans (wL.mono wI.size)) (fun _=>wL)
   refine pm0 [] 5 (fun u v w9=>v=u∧∃ TA tc OA oc,u=.tuple #[.agg #[F TA y.t.length tc,F OA y.o.length oc,O U y.gt,O U y.sd,O U y.ms],.bool ok]) (fun vs L9 w9 wK wI hB K9 wJ=>?_) ?_
   next =>
    obtain ⟨TA,tc,OA,oc,e0,h1,h2⟩:=fs hB 5
    simp only [e0] at wJ ⊢
    go_simp
    exact wJ _ _ _ rfl ⟨rfl,TA,tc,OA,oc,rfl⟩ wI bR
   refine sm [10] (fun v w9=>∃ TA tc OA oc,v=.agg #[F TA y.t.length tc,F OA y.o.length oc,O U y.gt,O U y.sd,O U y.ms]∧w9.ownsRow w.heap.size 104 2 (F TA y.t.length tc) y.t.length (y.t.flatMap aq.enc)∧w9.ownsRow w.heap.size 147 3 (F OA y.o.length oc) y.o.length (y.o.flatMap ae.enc)) (fun vs L9 w9 wK wI hB K9 wJ=>?_) ?_
   next =>
    simp only [Act.put,sA,gs0,gs1] at wJ
    obtain ⟨TA,tc,OA,oc,e0,h1,h2⟩:=fs hB 5
    obtain ⟨e6,_⟩:=fs hB 6
    simp only [e6,e0] at wJ ⊢
    go_simp
    exact wJ _ _ _ rfl ⟨TA,tc,OA,oc,rfl,h1,h2⟩ wI bR
   refine aa (.bool ok) (fun vs L9 w9 wK wI hB K9 wJ=>?_) ?_
   next =>
    obtain ⟨e6,TA,tc,OA,oc,e0⟩:=fs hB 6
    simp only [e6,e0] at wJ ⊢
    go_simp
    exact wJ _ _ rfl wI bR
   refine sm [10] (fun v w9=>∃ g9,v=.pointer (some ⟨g9,0,none⟩)∧w3.heap.size≤g9∧ai w9 g9 40 [F none 0 0,F none 0 0,O U 0,O U 0,O U 0]) (fun vs L9 w9 wK wI hB K9 wJ=>?_) ?_
   next =>
    simp only [Act.put,sA,gs0,gs1] at wJ
    go_simp
    have wL:=(Below.refl w9.heap.size w9).alloc nR (.cells #[F none 0 0,F none 0 0,O U 0,O U 0,O U 0] 40)
    exact wJ _ _ _ rfl ⟨_,rfl,wI.size,ai.new w9 40 #[F none 0 0,F none 0 0,O U 0,O U 0,O U 0]⟩ (wI.trans (wL.mono wI.size)) (fun _=>wL)
   refine pm [] 9 (fun u _ w9=>∃ g9 TA tc OA oc,u=.pointer (some ⟨g9,0,none⟩)∧w3.heap.size≤g9∧ai w9 g9 40 [F TA y.t.length tc,F OA y.o.length oc,O U y.gt,O U y.sd,O U y.ms]∧w9.ownsRow w.heap.size 104 2 (F TA y.t.length tc) y.t.length (y.t.flatMap aq.enc)∧w9.ownsRow w.heap.size 147 3 (F OA y.o.length oc) y.o.length (y.o.flatMap ae.enc)) (fun vs L9 w9 wK wI hB K9 wJ=>?_) ?_
   next =>
    obtain ⟨g9,AH,ym,xx⟩:=fs hB 9
    simp only [AH] at wJ ⊢
    obtain ⟨TA,tc,OA,oc,e0,h1,h2⟩:=fs hB 7
    simp only [e0] at wJ ⊢
    obtain ⟨z0,z1,z2,z3,z4⟩:=cells5 xx
    obtain ⟨f0,f1,f2,f3,f4⟩:=frz5 xx
    have xo:=jZ (show ai _ g9 40 [F TA y.t.length tc,F OA y.o.length oc,O U y.gt,O U y.sd,O U y.ms] from un (xx) (F TA y.t.length tc) (F OA y.o.length oc) (O U y.gt) (O U y.sd) (O U y.ms))
    have xK:=jZ (wI.grown (row:=some g9) (gw5 _ g9 (F TA y.t.length tc) (F OA y.o.length oc) (O U y.gt) (O U y.sd) (O U y.ms)) wI.size (by rintro _ ⟨⟩; exact ym))
    have zA:=jZ (ak h1 xx fz (gw5 _ g9 (F TA y.t.length tc) (F OA y.o.length oc) (O U y.gt) (O U y.sd) (O U y.ms)))
    have xi:=jZ (ak h2 xx fg (gw5 _ g9 (F TA y.t.length tc) (F OA y.o.length oc) (O U y.gt) (O U y.sd) (O U y.ms)))
    clear xx
    go_simp
    exact wJ _ undef _ rfl ⟨g9,TA,tc,OA,oc,rfl,ym,xo.out,zA.out,xi.out⟩ xK.out nq
   refine aa _ (vp1 8) ?_
   refine ar fun vs L9 w4 wS wI hB=>?_
   obtain ⟨gt,TA,tc,OA,oc,yx,Ag,Kt,xt,xm⟩:=hB 10 _ rfl rfl dD
   have dl:=ag.eq (hB 11 _ rfl rfl dD)
   simp only [yx,dl]
   clear hB wS yx dl
   have b4:=b3.trans (wI.mono b3.size)
   cases R with
   | none =>
    have e1:ok=false:=xf.out.symm
    subst e1
    have HE:Hid (bH x ⟨#[115,104,111,119]⟩ ns=none):=hr
    clear hr
    clear Kt K5 yY yu xt xm HY
    go_wp2_with fail
    go_ret2
    rw [HE.out]
    exact bL.no b4
   | some z =>
   have e1:ok=true:=xf.out.symm
   subst e1
   have e2:z=y:=HY.out
   subst e2
   have yC:=HR.out
   have HE:Hid (bH x ⟨#[115,104,111,119]⟩ ns=some (z,iz z.off ⟨2,a0,a1,a2⟩)):=hr
   clear hr
   have xC:=hL.below b4 hL.lt
   have yb:g < gt:=jL hL.lt (jT b3.size Ag)
   have xD:W0.heap.size≤w.heap.size:=hb0.size
   obtain ⟨w5,zU,M,b5,gr5,OT⟩:=ja xC (b4.mono xD) hB (F TA z.t.length tc) (F OA z.o.length oc) (O U z.gt) (O U z.sd) (O U z.ms)
   have Mt:=OT _ _ _ oM Kt
   have xN:=ak xt xC fj gr5
   have x9:=ak xm xC fk gr5
   have Dt:Hid (∀ j,j < w.heap.size→j ≠ g→w5.heap[j]?=w.heap[j]?):=fun j hj wT=>(gr5.block j (jL hj b4.size) (by intro e; injection e with e; exact wT e)).trans (b4.block j hj)
   have n0c:=mD gr5 (jL hbN b4.size) Kc (n0w w4 b4)
   have zR:w.heap.size≤w5.heap.size:=jT b4.size gr5.size
   obtain ⟨z0,z1,z2,z3,z4⟩:=cells5 Kt
   obtain ⟨k0,k1,k2,k3,k4,k5,k6,k7⟩:=cells8 xC
   obtain ⟨f0,f1,f2,f3,f4,f5,f6,f7⟩:=frz8 xC
   go_upto_region 25 with fail
   clear z0 z1 z2 z3 z4 k0 k1 k2 k3 k4 k5 k6 k7 f0 f1 f2 f3 f4 xC gr5 yY yu K5
   rw [zU.out]
   clear zU OT
   have b05:=hb0.trans b5
   have Du:=ht.then b05
   have Dv:w.heap.size≤gt:=jT b3.size Ag
   have Dw:aE w5 w.heap.size gt (F TA z.t.length tc) (F OA z.o.length oc) z:=⟨Mt,Dv,xN,x9⟩
   have hat:=aE.at_ Dw
   have yX:=fH yC
   have GZ:bK (z.at TA tc OA oc):=Oc.good_off yX.1 TA tc OA oc
   have Ah:dr w5 W0.heap.size g z l:=⟨TA,tc,OA,oc,M,ah xN xD,ah x9 xD⟩
   obtain ⟨z0,z1,z2,z3,z4⟩:=cells5 Mt
   obtain ⟨i,hi⟩:=gF (ts:=z.t) (kd:=a0) (of_decide_eq_true (by rw [dU]; exact yX.2))
   obtain ⟨zm,zj⟩:=ig hi
   have zl:=gm (z.at TA tc OA oc) gt i a0 w5 hat GZ hi zm Du
   have Hg:eI z.off a0=rk (bM (z.t[i]'zm).c) (bM (aW (bG a0) z.o)):=by
    unfold eI
    rw [if_pos (show (ao z.off && aS z.off.t a0)=true from by rw [show ao z.off=true from yX.1]; exact yX.2)]
    unfold mw
    show rk (bM (z.t.getD (ay z.t a0).toNat default).c) _=_
    rw [hi,Int.toNat_natCast,eM zm]
    rfl
   go_wp2_with fail
   refine zl.mono ?_
   rintro e W7 ⟨rfl,wL⟩
   go_wp2
   go_ret2
   rw [HE.out]
   exact bL.yes Hg (Ah.below wL) (b5.trans (wL.mono (jT xD zR))) (jT zR wL.size) (fun j hj wT=>(wL.block j (jL hj zR)).trans (Dt.out j hj wT))
  ·have hr:bH x ⟨#[115,104,111,119]⟩ ns=none:=by
    rw [H2.out oM]; rw [show bH x ⟨#[115,104,111,119]⟩ [a0,a1]=(cZ ⟨#[115,104,111,119]⟩ a0 a1).bind (cc x) from rfl]; unfold cZ; rw [if_neg dD,if_neg dD]; rfl
   have HE:Hid (bH x ⟨#[115,104,111,119]⟩ ns=none):=hr
   clear hr
   have zz:((ns.length:Int) != 3)=true:=by rw [bne_iff_ne]; omega
   obtain ⟨s0,s1,s2,s3⟩:=cells4 K5
   obtain ⟨fs0,fs1,fs2,fs3⟩:=frz4 K5
   have b3:=jZ (b2.setCell (p:=⟨g5,0,none⟩) yy (O U 2))
   clear K5 b2
   go_wp2_with fail
   go_ret2
   rw [HE.out]
   exact bL.no b3.out
 have f1:(s.toList == [115,104,111,119])=false:=bW h1
 by_cases h2:s=⟨#[98,97,99,107]⟩
 ·subst h2
  by_cases hl:ns.length=3
  ·have y7:2 < ns.length:=oM
   have Fl:(2:Int) < (ns.length:Int):=oM
   obtain ⟨a2,zT⟩ : ∃ a,ns[2]'y7=a:=⟨_,rfl⟩
   have n2w:∀ W:World,Below w.heap.size w W→W.cell? ⟨bN,off+2,none⟩=some (O U a2):=fun W hb=>by have:=IB.out 2 y7 ⟨W,hb⟩; rw [zT] at this; exact this
   have zb:=H3.out hl a2 zT
   have hr:bH x ⟨#[98,97,99,107]⟩ ns=cc x ⟨3,a0,a1,a2⟩:=by
    rw [zb,show bH x ⟨#[98,97,99,107]⟩ [a0,a1,a2]=(dB ⟨#[98,97,99,107]⟩ a0 a1 a2).bind (cc x) from rfl]
    unfold dB
    rw [if_neg dD,if_pos rfl]; rfl
   clear zb zT
   have zz:((ns.length:Int) != 3)=false:=by rw [hl]; rfl
   have HL:=jZ hl
   clear hl
   have hc:=fun W hW=>ii x ⟨3,a0,a1,a2⟩ W hW
   obtain ⟨R,hR⟩ : ∃ R,gq x.c ⟨3,a0,a1,a2⟩=R:=⟨_,rfl⟩
   rw [hR] at hc
   unfold cc at hr
   rw [hR] at hr
   obtain ⟨s0,s1,s2,s3⟩:=cells4 K5
   obtain ⟨fs0,fs1,fs2,fs3⟩:=frz4 K5
   have n2c:=n2w w2 b2
   go_upto_region 21 with fail
   have K6:ai ((w2.setCell ⟨g5,0,none⟩ (O U 3)).setCell ⟨g5,3,none⟩ (O U a2)) g5 112 [O U 3,O U a0,O U a1,O U a2]:=((K5.set 0 (O U 3)).set 3 (O U a2))
   have b3:=((b2.setCell (p:=⟨g5,0,none⟩) yy (O U 3)).setCell (p:=⟨g5,3,none⟩) yy (O U a2))
   clear K5 b2 s0 s1 s2 s3 fs0 fs1 fs2 fs3 n2c
   generalize ((w2.setCell ⟨g5,0,none⟩ (O U 3)).setCell ⟨g5,3,none⟩ (O U a2))=w3 at K6 b3 ⊢
   have K5:=K6
   clear K6
   have yY:=hL.below b3 hL.lt
   have yu:=h.up b3 nR
   obtain ⟨y,hy⟩ : ∃ y,cU R=y:=⟨_,rfl⟩
   obtain ⟨ok,wP⟩ : ∃ ok,R.isSome=ok:=⟨_,rfl⟩
   have HR:=jZ hR
   have HY:=jZ hy
   have xf:=jZ wP
   unfold aF at hc
   rw [hy,wP] at hc
   clear hR hy wP
   refine al (fun _=>(fun W9=>Below w3.heap.size w3 W9)) (fun i w1 w2=>i ∉ [10]→Below w1.heap.size w1 w2) kZ kZ kZ jB.drew ?_
   simp only [ax,Act.put,sA,gs0,gs1,Nat.zero_add,Nat.reduceAdd]
   refine aa _ vp0 ?_
   refine aa _ (vp1 0) ?_
   refine aa _ (vp1 1) ?_
   refine aa _ (vp1C5 2 yY) ?_
   refine aa _ (vp0C4 K5) ?_
   refine sm [10] (fun v w9=>∃ TA tc OA oc,v=.tuple #[.agg #[F TA y.t.length tc,F OA y.o.length oc,O U y.gt,O U y.sd,O U y.ms],.bool ok]∧w9.ownsRow w.heap.size 104 2 (F TA y.t.length tc) y.t.length (y.t.flatMap aq.enc)∧w9.ownsRow w.heap.size 147 3 (F OA y.o.length oc) y.o.length (y.o.flatMap ae.enc)) (fun vs L9 w9 wK wI hB K9 wJ=>?_) ?_
   next =>
    have d3:=fe hB 3
    have d4:=fe hB 4
    simp only [d3,d4] at wJ ⊢
    simp only [Act.put,sA,gs0,gs1] at wJ
    go_simp
    refine (hc w9 (yu.then wI)).mono ?_
    rintro en w8 ⟨TA,tc,OA,oc,rfl,h1,h2,wL⟩
    simp only [Oc.at,aO.val]
    exact wJ _ _ _ rfl ⟨TA,tc,OA,oc,rfl,ah h1 (jT b3.size wI.size),ah h2 (jT b3.size wI.size)⟩ (wI.trans (wL.mono wI.size)) (fun _=>wL)
   refine pm0 [] 5 (fun u v w9=>v=u∧∃ TA tc OA oc,u=.tuple #[.agg #[F TA y.t.length tc,F OA y.o.length oc,O U y.gt,O U y.sd,O U y.ms],.bool ok]) (fun vs L9 w9 wK wI hB K9 wJ=>?_) ?_
   next =>
    obtain ⟨TA,tc,OA,oc,e0,h1,h2⟩:=fs hB 5
    simp only [e0] at wJ ⊢
    go_simp
    exact wJ _ _ _ rfl ⟨rfl,TA,tc,OA,oc,rfl⟩ wI bR
   refine sm [10] (fun v w9=>∃ TA tc OA oc,v=.agg #[F TA y.t.length tc,F OA y.o.length oc,O U y.gt,O U y.sd,O U y.ms]∧w9.ownsRow w.heap.size 104 2 (F TA y.t.length tc) y.t.length (y.t.flatMap aq.enc)∧w9.ownsRow w.heap.size 147 3 (F OA y.o.length oc) y.o.length (y.o.flatMap ae.enc)) (fun vs L9 w9 wK wI hB K9 wJ=>?_) ?_
   next =>
    simp only [Act.put,sA,gs0,gs1] at wJ
    obtain ⟨TA,tc,OA,oc,e0,h1,h2⟩:=fs hB 5
    obtain ⟨e6,_⟩:=fs hB 6
    simp only [e6,e0] at wJ ⊢
    go_simp
    exact wJ _ _ _ rfl ⟨TA,tc,OA,oc,rfl,h1,h2⟩ wI bR
   refine aa (.bool ok) (fun vs L9 w9 wK wI hB K9 wJ=>?_) ?_
   next =>
    obtain ⟨e6,TA,tc,OA,oc,e0⟩:=fs hB 6
    simp only [e6,e0] at wJ ⊢
    go_simp
    exact wJ _ _ rfl wI bR
   refine sm [10] (fun v w9=>∃ g9,v=.pointer (some ⟨g9,0,none⟩)∧w3.heap.size≤g9∧ai w9 g9 40 [F none 0 0,F none 0 0,O U 0,O U 0,O U 0]) (fun vs L9 w9 wK wI hB K9 wJ=>?_) ?_
   next =>
    simp only [Act.put,sA,gs0,gs1] at wJ
    go_simp
    have wL:=(Below.refl w9.heap.size w9).alloc nR (.cells #[F none 0 0,F none 0 0,O U 0,O U 0,O U 0] 40)
    exact wJ _ _ _ rfl ⟨_,rfl,wI.size,ai.new w9 40 #[F none 0 0,F none 0 0,O U 0,O U 0,O U 0]⟩ (wI.trans (wL.mono wI.size)) (fun _=>wL)
   refine pm [] 9 (fun u _ w9=>∃ g9 TA tc OA oc,u=.pointer (some ⟨g9,0,none⟩)∧w3.heap.size≤g9∧ai w9 g9 40 [F TA y.t.length tc,F OA y.o.length oc,O U y.gt,O U y.sd,O U y.ms]∧w9.ownsRow w.heap.size 104 2 (F TA y.t.length tc) y.t.length (y.t.flatMap aq.enc)∧w9.ownsRow w.heap.size 147 3 (F OA y.o.length oc) y.o.length (y.o.flatMap ae.enc)) (fun vs L9 w9 wK wI hB K9 wJ=>?_) ?_
   next =>
    obtain ⟨g9,AH,ym,xx⟩:=fs hB 9
    simp only [AH] at wJ ⊢
    obtain ⟨TA,tc,OA,oc,e0,h1,h2⟩:=fs hB 7
    simp only [e0] at wJ ⊢
    obtain ⟨z0,z1,z2,z3,z4⟩:=cells5 xx
    obtain ⟨f0,f1,f2,f3,f4⟩:=frz5 xx
    have xo:=jZ (show ai _ g9 40 [F TA y.t.length tc,F OA y.o.length oc,O U y.gt,O U y.sd,O U y.ms] from un (xx) (F TA y.t.length tc) (F OA y.o.length oc) (O U y.gt) (O U y.sd) (O U y.ms))
    have xK:=jZ (wI.grown (row:=some g9) (gw5 _ g9 (F TA y.t.length tc) (F OA y.o.length oc) (O U y.gt) (O U y.sd) (O U y.ms)) wI.size (by rintro _ ⟨⟩; exact ym))
    have zA:=jZ (ak h1 xx fz (gw5 _ g9 (F TA y.t.length tc) (F OA y.o.length oc) (O U y.gt) (O U y.sd) (O U y.ms)))
    have xi:=jZ (ak h2 xx fg (gw5 _ g9 (F TA y.t.length tc) (F OA y.o.length oc) (O U y.gt) (O U y.sd) (O U y.ms)))
    clear xx
    go_simp
    exact wJ _ undef _ rfl ⟨g9,TA,tc,OA,oc,rfl,ym,xo.out,zA.out,xi.out⟩ xK.out nq
   refine aa _ (vp1 8) ?_
   refine ar fun vs L9 w4 wS wI hB=>?_
   obtain ⟨gt,TA,tc,OA,oc,yx,Ag,Kt,xt,xm⟩:=hB 10 _ rfl rfl dD
   have dl:=ag.eq (hB 11 _ rfl rfl dD)
   simp only [yx,dl]
   clear hB wS yx dl
   have b4:=b3.trans (wI.mono b3.size)
   cases R with
   | none =>
    have e1:ok=false:=xf.out.symm
    subst e1
    have HE:Hid (bH x ⟨#[98,97,99,107]⟩ ns=none):=hr
    clear hr
    clear Kt K5 yY yu xt xm HY
    go_wp2_with fail
    go_ret2
    rw [HE.out]
    exact bL.no b4
   | some z =>
   have e1:ok=true:=xf.out.symm
   subst e1
   have e2:z=y:=HY.out
   subst e2
   have yC:=HR.out
   have HE:Hid (bH x ⟨#[98,97,99,107]⟩ ns=some (z,iz z.off ⟨3,a0,a1,a2⟩)):=hr
   clear hr
   have xC:=hL.below b4 hL.lt
   have yb:g < gt:=jL hL.lt (jT b3.size Ag)
   have xD:W0.heap.size≤w.heap.size:=hb0.size
   obtain ⟨w5,zU,M,b5,gr5,OT⟩:=ja xC (b4.mono xD) hB (F TA z.t.length tc) (F OA z.o.length oc) (O U z.gt) (O U z.sd) (O U z.ms)
   have Mt:=OT _ _ _ oM Kt
   have xN:=ak xt xC fj gr5
   have x9:=ak xm xC fk gr5
   have Dt:Hid (∀ j,j < w.heap.size→j ≠ g→w5.heap[j]?=w.heap[j]?):=fun j hj wT=>(gr5.block j (jL hj b4.size) (by intro e; injection e with e; exact wT e)).trans (b4.block j hj)
   have n0c:=mD gr5 (jL hbN b4.size) Kc (n0w w4 b4)
   have zR:w.heap.size≤w5.heap.size:=jT b4.size gr5.size
   obtain ⟨z0,z1,z2,z3,z4⟩:=cells5 Kt
   obtain ⟨k0,k1,k2,k3,k4,k5,k6,k7⟩:=cells8 xC
   obtain ⟨f0,f1,f2,f3,f4,f5,f6,f7⟩:=frz8 xC
   go_upto_region 25 with fail
   clear z0 z1 z2 z3 z4 k0 k1 k2 k3 k4 k5 k6 k7 f0 f1 f2 f3 f4 xC gr5 yY yu K5
   rw [zU.out]
   clear zU OT
   have b05:=hb0.trans b5
   have Du:=ht.then b05
   have Dv:w.heap.size≤gt:=jT b3.size Ag
   have Dw:aE w5 w.heap.size gt (F TA z.t.length tc) (F OA z.o.length oc) z:=⟨Mt,Dv,xN,x9⟩
   have hat:=aE.at_ Dw
   have yX:=fH yC
   have GZ:bK (z.at TA tc OA oc):=Oc.good_off yX.1 TA tc OA oc
   have Ah:dr w5 W0.heap.size g z l:=⟨TA,tc,OA,oc,M,ah xN xD,ah x9 xD⟩
   obtain ⟨z0,z1,z2,z3,z4⟩:=cells5 Mt
   obtain ⟨i,hi⟩:=gF (ts:=z.t) (kd:=a0) (of_decide_eq_true (by rw [dU]; exact yX.2))
   obtain ⟨zm,zj⟩:=ig hi
   have zl:=gm (z.at TA tc OA oc) gt i a0 w5 hat GZ hi zm Du
   have Hg:eI z.off a0=rk (bM (z.t[i]'zm).c) (bM (aW (bG a0) z.o)):=by
    unfold eI
    rw [if_pos (show (ao z.off && aS z.off.t a0)=true from by rw [show ao z.off=true from yX.1]; exact yX.2)]
    unfold mw
    show rk (bM (z.t.getD (ay z.t a0).toNat default).c) _=_
    rw [hi,Int.toNat_natCast,eM zm]
    rfl
   go_wp2_with fail
   refine zl.mono ?_
   rintro e W7 ⟨rfl,wL⟩
   go_wp2
   go_ret2
   rw [HE.out]
   exact bL.yes Hg (Ah.below wL) (b5.trans (wL.mono (jT xD zR))) (jT zR wL.size) (fun j hj wT=>(wL.block j (jL hj zR)).trans (Dt.out j hj wT))
  ·have hr:bH x ⟨#[98,97,99,107]⟩ ns=none:=by
    rw [H2.out oM]; rw [show bH x ⟨#[98,97,99,107]⟩ [a0,a1]=(cZ ⟨#[98,97,99,107]⟩ a0 a1).bind (cc x) from rfl]; unfold cZ; rw [if_neg dD,if_neg dD]; rfl
   have HE:Hid (bH x ⟨#[98,97,99,107]⟩ ns=none):=hr
   clear hr
   have zz:((ns.length:Int) != 3)=true:=by rw [bne_iff_ne]; omega
   obtain ⟨s0,s1,s2,s3⟩:=cells4 K5
   obtain ⟨fs0,fs1,fs2,fs3⟩:=frz4 K5
   have b3:=jZ (b2.setCell (p:=⟨g5,0,none⟩) yy (O U 3))
   clear K5 b2
   go_wp2_with fail
   go_ret2
   rw [HE.out]
   exact bL.no b3.out
 have f2:(s.toList == [98,97,99,107])=false:=bW h2
 by_cases h3:s=⟨#[115,101,108,108]⟩
 ·subst h3
  by_cases hl:ns.length=3
  ·have y7:2 < ns.length:=oM
   have Fl:(2:Int) < (ns.length:Int):=oM
   obtain ⟨a2,zT⟩ : ∃ a,ns[2]'y7=a:=⟨_,rfl⟩
   have n2w:∀ W:World,Below w.heap.size w W→W.cell? ⟨bN,off+2,none⟩=some (O U a2):=fun W hb=>by have:=IB.out 2 y7 ⟨W,hb⟩; rw [zT] at this; exact this
   have zb:=H3.out hl a2 zT
   have hr:bH x ⟨#[115,101,108,108]⟩ ns=cc x ⟨4,a0,a1,a2⟩:=by
    rw [zb,show bH x ⟨#[115,101,108,108]⟩ [a0,a1,a2]=(dB ⟨#[115,101,108,108]⟩ a0 a1 a2).bind (cc x) from rfl]
    unfold dB
    rw [if_neg dD,if_neg dD,if_pos rfl]; rfl
   clear zb zT
   have zz:((ns.length:Int) != 3)=false:=by rw [hl]; rfl
   have HL:=jZ hl
   clear hl
   have hc:=fun W hW=>ii x ⟨4,a0,a1,a2⟩ W hW
   obtain ⟨R,hR⟩ : ∃ R,gq x.c ⟨4,a0,a1,a2⟩=R:=⟨_,rfl⟩
   rw [hR] at hc
   unfold cc at hr
   rw [hR] at hr
   obtain ⟨s0,s1,s2,s3⟩:=cells4 K5
   obtain ⟨fs0,fs1,fs2,fs3⟩:=frz4 K5
   have n2c:=n2w w2 b2
   go_upto_region 21 with fail
   have K6:ai ((w2.setCell ⟨g5,0,none⟩ (O U 4)).setCell ⟨g5,3,none⟩ (O U a2)) g5 112 [O U 4,O U a0,O U a1,O U a2]:=((K5.set 0 (O U 4)).set 3 (O U a2))
   have b3:=((b2.setCell (p:=⟨g5,0,none⟩) yy (O U 4)).setCell (p:=⟨g5,3,none⟩) yy (O U a2))
   clear K5 b2 s0 s1 s2 s3 fs0 fs1 fs2 fs3 n2c
   generalize ((w2.setCell ⟨g5,0,none⟩ (O U 4)).setCell ⟨g5,3,none⟩ (O U a2))=w3 at K6 b3 ⊢
   have K5:=K6
   clear K6
   have yY:=hL.below b3 hL.lt
   have yu:=h.up b3 nR
   obtain ⟨y,hy⟩ : ∃ y,cU R=y:=⟨_,rfl⟩
   obtain ⟨ok,wP⟩ : ∃ ok,R.isSome=ok:=⟨_,rfl⟩
   have HR:=jZ hR
   have HY:=jZ hy
   have xf:=jZ wP
   unfold aF at hc
   rw [hy,wP] at hc
   clear hR hy wP
   refine al (fun _=>(fun W9=>Below w3.heap.size w3 W9)) (fun i w1 w2=>i ∉ [10]→Below w1.heap.size w1 w2) kZ kZ kZ jB.drew ?_
   simp only [ax,Act.put,sA,gs0,gs1,Nat.zero_add,Nat.reduceAdd]
   refine aa _ vp0 ?_
   refine aa _ (vp1 0) ?_
   refine aa _ (vp1 1) ?_
   refine aa _ (vp1C5 2 yY) ?_
   refine aa _ (vp0C4 K5) ?_
   refine sm [10] (fun v w9=>∃ TA tc OA oc,v=.tuple #[.agg #[F TA y.t.length tc,F OA y.o.length oc,O U y.gt,O U y.sd,O U y.ms],.bool ok]∧w9.ownsRow w.heap.size 104 2 (F TA y.t.length tc) y.t.length (y.t.flatMap aq.enc)∧w9.ownsRow w.heap.size 147 3 (F OA y.o.length oc) y.o.length (y.o.flatMap ae.enc)) (fun vs L9 w9 wK wI hB K9 wJ=>?_) ?_
   next =>
    have d3:=fe hB 3
    have d4:=fe hB 4
    simp only [d3,d4] at wJ ⊢
    simp only [Act.put,sA,gs0,gs1] at wJ
    go_simp
    refine (hc w9 (yu.then wI)).mono ?_
    rintro en w8 ⟨TA,tc,OA,oc,rfl,h1,h2,wL⟩
    simp only [Oc.at,aO.val]
    exact wJ _ _ _ rfl ⟨TA,tc,OA,oc,rfl,ah h1 (jT b3.size wI.size),ah h2 (jT b3.size wI.size)⟩ (wI.trans (wL.mono wI.size)) (fun _=>wL)
   refine pm0 [] 5 (fun u v w9=>v=u∧∃ TA tc OA oc,u=.tuple #[.agg #[F TA y.t.length tc,F OA y.o.length oc,O U y.gt,O U y.sd,O U y.ms],.bool ok]) (fun vs L9 w9 wK wI hB K9 wJ=>?_) ?_
   next =>
    obtain ⟨TA,tc,OA,oc,e0,h1,h2⟩:=fs hB 5
    simp only [e0] at wJ ⊢
    go_simp
    exact wJ _ _ _ rfl ⟨rfl,TA,tc,OA,oc,rfl⟩ wI bR
   refine sm [10] (fun v w9=>∃ TA tc OA oc,v=.agg #[F TA y.t.length tc,F OA y.o.length oc,O U y.gt,O U y.sd,O U y.ms]∧w9.ownsRow w.heap.size 104 2 (F TA y.t.length tc) y.t.length (y.t.flatMap aq.enc)∧w9.ownsRow w.heap.size 147 3 (F OA y.o.length oc) y.o.length (y.o.flatMap ae.enc)) (fun vs L9 w9 wK wI hB K9 wJ=>?_) ?_
   next =>
    simp only [Act.put,sA,gs0,gs1] at wJ
    obtain ⟨TA,tc,OA,oc,e0,h1,h2⟩:=fs hB 5
    obtain ⟨e6,_⟩:=fs hB 6
    simp only [e6,e0] at wJ ⊢
    go_simp
    exact wJ _ _ _ rfl ⟨TA,tc,OA,oc,rfl,h1,h2⟩ wI bR
   refine aa (.bool ok) (fun vs L9 w9 wK wI hB K9 wJ=>?_) ?_
   next =>
    obtain ⟨e6,TA,tc,OA,oc,e0⟩:=fs hB 6
    simp only [e6,e0] at wJ ⊢
    go_simp
    exact wJ _ _ rfl wI bR
   refine sm [10] (fun v w9=>∃ g9,v=.pointer (some ⟨g9,0,none⟩)∧w3.heap.size≤g9∧ai w9 g9 40 [F none 0 0,F none 0 0,O U 0,O U 0,O U 0]) (fun vs L9 w9 wK wI hB K9 wJ=>?_) ?_
   next =>
    simp only [Act.put,sA,gs0,gs1] at wJ
    go_simp
    have wL:=(Below.refl w9.heap.size w9).alloc nR (.cells #[F none 0 0,F none 0 0,O U 0,O U 0,O U 0] 40)
    exact wJ _ _ _ rfl ⟨_,rfl,wI.size,ai.new w9 40 #[F none 0 0,F none 0 0,O U 0,O U 0,O U 0]⟩ (wI.trans (wL.mono wI.size)) (fun _=>wL)
   refine pm [] 9 (fun u _ w9=>∃ g9 TA tc OA oc,u=.pointer (some ⟨g9,0,none⟩)∧w3.heap.size≤g9∧ai w9 g9 40 [F TA y.t.length tc,F OA y.o.length oc,O U y.gt,O U y.sd,O U y.ms]∧w9.ownsRow w.heap.size 104 2 (F TA y.t.length tc) y.t.length (y.t.flatMap aq.enc)∧w9.ownsRow w.heap.size 147 3 (F OA y.o.length oc) y.o.length (y.o.flatMap ae.enc)) (fun vs L9 w9 wK wI hB K9 wJ=>?_) ?_
   next =>
    obtain ⟨g9,AH,ym,xx⟩:=fs hB 9
    simp only [AH] at wJ ⊢
    obtain ⟨TA,tc,OA,oc,e0,h1,h2⟩:=fs hB 7
    simp only [e0] at wJ ⊢
    obtain ⟨z0,z1,z2,z3,z4⟩:=cells5 xx
    obtain ⟨f0,f1,f2,f3,f4⟩:=frz5 xx
    have xo:=jZ (show ai _ g9 40 [F TA y.t.length tc,F OA y.o.length oc,O U y.gt,O U y.sd,O U y.ms] from un (xx) (F TA y.t.length tc) (F OA y.o.length oc) (O U y.gt) (O U y.sd) (O U y.ms))
    have xK:=jZ (wI.grown (row:=some g9) (gw5 _ g9 (F TA y.t.length tc) (F OA y.o.length oc) (O U y.gt) (O U y.sd) (O U y.ms)) wI.size (by rintro _ ⟨⟩; exact ym))
    have zA:=jZ (ak h1 xx fz (gw5 _ g9 (F TA y.t.length tc) (F OA y.o.length oc) (O U y.gt) (O U y.sd) (O U y.ms)))
    have xi:=jZ (ak h2 xx fg (gw5 _ g9 (F TA y.t.length tc) (F OA y.o.length oc) (O U y.gt) (O U y.sd) (O U y.ms)))
    clear xx
    go_simp
    exact wJ _ undef _ rfl ⟨g9,TA,tc,OA,oc,rfl,ym,xo.out,zA.out,xi.out⟩ xK.out nq
   refine aa _ (vp1 8) ?_
   refine ar fun vs L9 w4 wS wI hB=>?_
   obtain ⟨gt,TA,tc,OA,oc,yx,Ag,Kt,xt,xm⟩:=hB 10 _ rfl rfl dD
   have dl:=ag.eq (hB 11 _ rfl rfl dD)
   simp only [yx,dl]
   clear hB wS yx dl
   have b4:=b3.trans (wI.mono b3.size)
   cases R with
   | none =>
    have e1:ok=false:=xf.out.symm
    subst e1
    have HE:Hid (bH x ⟨#[115,101,108,108]⟩ ns=none):=hr
    clear hr
    clear Kt K5 yY yu xt xm HY
    go_wp2_with fail
    go_ret2
    rw [HE.out]
    exact bL.no b4
   | some z =>
   have e1:ok=true:=xf.out.symm
   subst e1
   have e2:z=y:=HY.out
   subst e2
   have yC:=HR.out
   have HE:Hid (bH x ⟨#[115,101,108,108]⟩ ns=some (z,iz z.off ⟨4,a0,a1,a2⟩)):=hr
   clear hr
   have xC:=hL.below b4 hL.lt
   have yb:g < gt:=jL hL.lt (jT b3.size Ag)
   have xD:W0.heap.size≤w.heap.size:=hb0.size
   obtain ⟨w5,zU,M,b5,gr5,OT⟩:=ja xC (b4.mono xD) hB (F TA z.t.length tc) (F OA z.o.length oc) (O U z.gt) (O U z.sd) (O U z.ms)
   have Mt:=OT _ _ _ oM Kt
   have xN:=ak xt xC fj gr5
   have x9:=ak xm xC fk gr5
   have Dt:Hid (∀ j,j < w.heap.size→j ≠ g→w5.heap[j]?=w.heap[j]?):=fun j hj wT=>(gr5.block j (jL hj b4.size) (by intro e; injection e with e; exact wT e)).trans (b4.block j hj)
   have zR:w.heap.size≤w5.heap.size:=jT b4.size gr5.size
   obtain ⟨z0,z1,z2,z3,z4⟩:=cells5 Kt
   obtain ⟨k0,k1,k2,k3,k4,k5,k6,k7⟩:=cells8 xC
   obtain ⟨f0,f1,f2,f3,f4,f5,f6,f7⟩:=frz8 xC
   go_upto_region 25 with fail
   clear z0 z1 z2 z3 z4 k0 k1 k2 k3 k4 k5 k6 k7 f0 f1 f2 f3 f4 xC gr5 yY yu K5
   rw [zU.out]
   clear zU OT
   have b05:=hb0.trans b5
   have Du:=ht.then b05
   have Dv:w.heap.size≤gt:=jT b3.size Ag
   have Dw:aE w5 w.heap.size gt (F TA z.t.length tc) (F OA z.o.length oc) z:=⟨Mt,Dv,xN,x9⟩
   have hat:=aE.at_ Dw
   have yX:=fH yC
   have GZ:bK (z.at TA tc OA oc):=Oc.good_off yX.1 TA tc OA oc
   have Ah:dr w5 W0.heap.size g z l:=⟨TA,tc,OA,oc,M,ah xN xD,ah x9 xD⟩
   obtain ⟨z0,z1,z2,z3,z4⟩:=cells5 Mt
   have bd:0≤z.sd∧z.sd≤99999:=GZ.s
   have hn:=fun W hW=>cq z.sd W oM oM hW
   clear bd
   go_wp2_with fail
   refine (hn _ Du).mono ?_
   rintro e W7 ⟨rfl,wL⟩
   go_wp2
   go_ret2
   rw [HE.out]
   exact bL.yes rfl (Ah.below wL) (b5.trans (wL.mono (jT xD zR))) (jT zR wL.size) (fun j hj wT=>(wL.block j (jL hj zR)).trans (Dt.out j hj wT))
  ·have hr:bH x ⟨#[115,101,108,108]⟩ ns=none:=by
    rw [H2.out oM]; rw [show bH x ⟨#[115,101,108,108]⟩ [a0,a1]=(cZ ⟨#[115,101,108,108]⟩ a0 a1).bind (cc x) from rfl]; unfold cZ; rw [if_neg dD,if_neg dD]; rfl
   have HE:Hid (bH x ⟨#[115,101,108,108]⟩ ns=none):=hr
   clear hr
   have zz:((ns.length:Int) != 3)=true:=by rw [bne_iff_ne]; omega
   obtain ⟨s0,s1,s2,s3⟩:=cells4 K5
   obtain ⟨fs0,fs1,fs2,fs3⟩:=frz4 K5
   have b3:=jZ (b2.setCell (p:=⟨g5,0,none⟩) yy (O U 4))
   clear K5 b2
   go_wp2_with fail
   go_ret2
   rw [HE.out]
   exact bL.no b3.out
 have f3:(s.toList == [115,101,108,108])=false:=bW h3
 by_cases h4:s=⟨#[109,105,115,115]⟩
 ·subst h4
  by_cases hl:ns.length=2
  ·have zb:=H2.out hl
   have hr:bH x ⟨#[109,105,115,115]⟩ ns=cc x ⟨5,a0,a1,0⟩:=by
    rw [zb,show bH x ⟨#[109,105,115,115]⟩ [a0,a1]=(cZ ⟨#[109,105,115,115]⟩ a0 a1).bind (cc x) from rfl]
    unfold cZ
    rw [if_neg dD,if_pos rfl]; rfl
   clear zb
   have zz:((ns.length:Int) != 2)=false:=by rw [hl]; rfl
   have HL:=jZ hl
   clear hl
   have hc:=fun W hW=>ii x ⟨5,a0,a1,0⟩ W hW
   obtain ⟨R,hR⟩ : ∃ R,gq x.c ⟨5,a0,a1,0⟩=R:=⟨_,rfl⟩
   rw [hR] at hc
   unfold cc at hr
   rw [hR] at hr
   obtain ⟨s0,s1,s2,s3⟩:=cells4 K5
   obtain ⟨fs0,fs1,fs2,fs3⟩:=frz4 K5
   go_upto_region 21 with fail
   have K6:ai (w2.setCell ⟨g5,0,none⟩ (O U 5)) g5 112 [O U 5,O U a0,O U a1,O U 0]:=(K5.set 0 (O U 5))
   have b3:=(b2.setCell (p:=⟨g5,0,none⟩) yy (O U 5))
   clear K5 b2 s0 s1 s2 s3 fs0 fs1 fs2 fs3
   generalize (w2.setCell ⟨g5,0,none⟩ (O U 5))=w3 at K6 b3 ⊢
   have K5:=K6
   clear K6
   have yY:=hL.below b3 hL.lt
   have yu:=h.up b3 nR
   obtain ⟨y,hy⟩ : ∃ y,cU R=y:=⟨_,rfl⟩
   obtain ⟨ok,wP⟩ : ∃ ok,R.isSome=ok:=⟨_,rfl⟩
   have HR:=jZ hR
   have HY:=jZ hy
   have xf:=jZ wP
   unfold aF at hc
   rw [hy,wP] at hc
   clear hR hy wP
   refine al (fun _=>(fun W9=>Below w3.heap.size w3 W9)) (fun i w1 w2=>i ∉ [10]→Below w1.heap.size w1 w2) kZ kZ kZ jB.drew ?_
   simp only [ax,Act.put,sA,gs0,gs1,Nat.zero_add,Nat.reduceAdd]
   refine aa _ vp0 ?_
   refine aa _ (vp1 0) ?_
   refine aa _ (vp1 1) ?_
   refine aa _ (vp1C5 2 yY) ?_
   refine aa _ (vp0C4 K5) ?_
   refine sm [10] (fun v w9=>∃ TA tc OA oc,v=.tuple #[.agg #[F TA y.t.length tc,F OA y.o.length oc,O U y.gt,O U y.sd,O U y.ms],.bool ok]∧w9.ownsRow w.heap.size 104 2 (F TA y.t.length tc) y.t.length (y.t.flatMap aq.enc)∧w9.ownsRow w.heap.size 147 3 (F OA y.o.length oc) y.o.length (y.o.flatMap ae.enc)) (fun vs L9 w9 wK wI hB K9 wJ=>?_) ?_
   next =>
    have d3:=fe hB 3
    have d4:=fe hB 4
    simp only [d3,d4] at wJ ⊢
    simp only [Act.put,sA,gs0,gs1] at wJ
    go_simp
    refine (hc w9 (yu.then wI)).mono ?_
    rintro en w8 ⟨TA,tc,OA,oc,rfl,h1,h2,wL⟩
    simp only [Oc.at,aO.val]
    exact wJ _ _ _ rfl ⟨TA,tc,OA,oc,rfl,ah h1 (jT b3.size wI.size),ah h2 (jT b3.size wI.size)⟩ (wI.trans (wL.mono wI.size)) (fun _=>wL)
   refine pm0 [] 5 (fun u v w9=>v=u∧∃ TA tc OA oc,u=.tuple #[.agg #[F TA y.t.length tc,F OA y.o.length oc,O U y.gt,O U y.sd,O U y.ms],.bool ok]) (fun vs L9 w9 wK wI hB K9 wJ=>?_) ?_
   next =>
    obtain ⟨TA,tc,OA,oc,e0,h1,h2⟩:=fs hB 5
    simp only [e0] at wJ ⊢
    go_simp
    exact wJ _ _ _ rfl ⟨rfl,TA,tc,OA,oc,rfl⟩ wI bR
   refine sm [10] (fun v w9=>∃ TA tc OA oc,v=.agg #[F TA y.t.length tc,F OA y.o.length oc,O U y.gt,O U y.sd,O U y.ms]∧w9.ownsRow w.heap.size 104 2 (F TA y.t.length tc) y.t.length (y.t.flatMap aq.enc)∧w9.ownsRow w.heap.size 147 3 (F OA y.o.length oc) y.o.length (y.o.flatMap ae.enc)) (fun vs L9 w9 wK wI hB K9 wJ=>?_) ?_
   next =>
    simp only [Act.put,sA,gs0,gs1] at wJ
    obtain ⟨TA,tc,OA,oc,e0,h1,h2⟩:=fs hB 5
    obtain ⟨e6,_⟩:=fs hB 6
    simp only [e6,e0] at wJ ⊢
    go_simp
    exact wJ _ _ _ rfl ⟨TA,tc,OA,oc,rfl,h1,h2⟩ wI bR
   refine aa (.bool ok) (fun vs L9 w9 wK wI hB K9 wJ=>?_) ?_
   next =>
    obtain ⟨e6,TA,tc,OA,oc,e0⟩:=fs hB 6
    simp only [e6,e0] at wJ ⊢
    go_simp
    exact wJ _ _ rfl wI bR
   refine sm [10] (fun v w9=>∃ g9,v=.pointer (some ⟨g9,0,none⟩)∧w3.heap.size≤g9∧ai w9 g9 40 [F none 0 0,F none 0 0,O U 0,O U 0,O U 0]) (fun vs L9 w9 wK wI hB K9 wJ=>?_) ?_
   next =>
    simp only [Act.put,sA,gs0,gs1] at wJ
    go_simp
    have wL:=(Below.refl w9.heap.size w9).alloc nR (.cells #[F none 0 0,F none 0 0,O U 0,O U 0,O U 0] 40)
    exact wJ _ _ _ rfl ⟨_,rfl,wI.size,ai.new w9 40 #[F none 0 0,F none 0 0,O U 0,O U 0,O U 0]⟩ (wI.trans (wL.mono wI.size)) (fun _=>wL)
   refine pm [] 9 (fun u _ w9=>∃ g9 TA tc OA oc,u=.pointer (some ⟨g9,0,none⟩)∧w3.heap.size≤g9∧ai w9 g9 40 [F TA y.t.length tc,F OA y.o.length oc,O U y.gt,O U y.sd,O U y.ms]∧w9.ownsRow w.heap.size 104 2 (F TA y.t.length tc) y.t.length (y.t.flatMap aq.enc)∧w9.ownsRow w.heap.size 147 3 (F OA y.o.length oc) y.o.length (y.o.flatMap ae.enc)) (fun vs L9 w9 wK wI hB K9 wJ=>?_) ?_
   next =>
    obtain ⟨g9,AH,ym,xx⟩:=fs hB 9
    simp only [AH] at wJ ⊢
    obtain ⟨TA,tc,OA,oc,e0,h1,h2⟩:=fs hB 7
    simp only [e0] at wJ ⊢
    obtain ⟨z0,z1,z2,z3,z4⟩:=cells5 xx
    obtain ⟨f0,f1,f2,f3,f4⟩:=frz5 xx
    have xo:=jZ (show ai _ g9 40 [F TA y.t.length tc,F OA y.o.length oc,O U y.gt,O U y.sd,O U y.ms] from un (xx) (F TA y.t.length tc) (F OA y.o.length oc) (O U y.gt) (O U y.sd) (O U y.ms))
    have xK:=jZ (wI.grown (row:=some g9) (gw5 _ g9 (F TA y.t.length tc) (F OA y.o.length oc) (O U y.gt) (O U y.sd) (O U y.ms)) wI.size (by rintro _ ⟨⟩; exact ym))
    have zA:=jZ (ak h1 xx fz (gw5 _ g9 (F TA y.t.length tc) (F OA y.o.length oc) (O U y.gt) (O U y.sd) (O U y.ms)))
    have xi:=jZ (ak h2 xx fg (gw5 _ g9 (F TA y.t.length tc) (F OA y.o.length oc) (O U y.gt) (O U y.sd) (O U y.ms)))
    clear xx
    go_simp
    exact wJ _ undef _ rfl ⟨g9,TA,tc,OA,oc,rfl,ym,xo.out,zA.out,xi.out⟩ xK.out nq
   refine aa _ (vp1 8) ?_
   refine ar fun vs L9 w4 wS wI hB=>?_
   obtain ⟨gt,TA,tc,OA,oc,yx,Ag,Kt,xt,xm⟩:=hB 10 _ rfl rfl dD
   have dl:=ag.eq (hB 11 _ rfl rfl dD)
   simp only [yx,dl]
   clear hB wS yx dl
   have b4:=b3.trans (wI.mono b3.size)
   cases R with
   | none =>
    have e1:ok=false:=xf.out.symm
    subst e1
    have HE:Hid (bH x ⟨#[109,105,115,115]⟩ ns=none):=hr
    clear hr
    clear Kt K5 yY yu xt xm HY
    go_wp2_with fail
    go_ret2
    rw [HE.out]
    exact bL.no b4
   | some z =>
   have e1:ok=true:=xf.out.symm
   subst e1
   have e2:z=y:=HY.out
   subst e2
   have yC:=HR.out
   have HE:Hid (bH x ⟨#[109,105,115,115]⟩ ns=some (z,iz z.off ⟨5,a0,a1,0⟩)):=hr
   clear hr
   have xC:=hL.below b4 hL.lt
   have yb:g < gt:=jL hL.lt (jT b3.size Ag)
   have xD:W0.heap.size≤w.heap.size:=hb0.size
   obtain ⟨w5,zU,M,b5,gr5,OT⟩:=ja xC (b4.mono xD) hB (F TA z.t.length tc) (F OA z.o.length oc) (O U z.gt) (O U z.sd) (O U z.ms)
   have Mt:=OT _ _ _ oM Kt
   have xN:=ak xt xC fj gr5
   have x9:=ak xm xC fk gr5
   have Dt:Hid (∀ j,j < w.heap.size→j ≠ g→w5.heap[j]?=w.heap[j]?):=fun j hj wT=>(gr5.block j (jL hj b4.size) (by intro e; injection e with e; exact wT e)).trans (b4.block j hj)
   have zR:w.heap.size≤w5.heap.size:=jT b4.size gr5.size
   obtain ⟨z0,z1,z2,z3,z4⟩:=cells5 Kt
   obtain ⟨k0,k1,k2,k3,k4,k5,k6,k7⟩:=cells8 xC
   obtain ⟨f0,f1,f2,f3,f4,f5,f6,f7⟩:=frz8 xC
   go_upto_region 25 with fail
   clear z0 z1 z2 z3 z4 k0 k1 k2 k3 k4 k5 k6 k7 f0 f1 f2 f3 f4 xC gr5 yY yu K5
   rw [zU.out]
   clear zU OT
   have b05:=hb0.trans b5
   have Du:=ht.then b05
   have Dv:w.heap.size≤gt:=jT b3.size Ag
   have Dw:aE w5 w.heap.size gt (F TA z.t.length tc) (F OA z.o.length oc) z:=⟨Mt,Dv,xN,x9⟩
   have hat:=aE.at_ Dw
   have yX:=fH yC
   have GZ:bK (z.at TA tc OA oc):=Oc.good_off yX.1 TA tc OA oc
   have Ah:dr w5 W0.heap.size g z l:=⟨TA,tc,OA,oc,M,ah xN xD,ah x9 xD⟩
   obtain ⟨z0,z1,z2,z3,z4⟩:=cells5 Mt
   have bd:0≤z.ms∧z.ms≤99999:=GZ.m
   have hn:=fun W hW=>cq z.ms W oM oM hW
   clear bd
   go_wp2_with fail
   refine (hn _ Du).mono ?_
   rintro e W7 ⟨rfl,wL⟩
   go_wp2
   go_ret2
   rw [HE.out]
   exact bL.yes rfl (Ah.below wL) (b5.trans (wL.mono (jT xD zR))) (jT zR wL.size) (fun j hj wT=>(wL.block j (jL hj zR)).trans (Dt.out j hj wT))
  ·have hr:bH x ⟨#[109,105,115,115]⟩ ns=none:=by
    rw [H3.out oM (ns[2]'oM) rfl]; generalize ns[2]'oM=b2; rw [show bH x ⟨#[109,105,115,115]⟩ [a0,a1,b2]=(dB ⟨#[109,105,115,115]⟩ a0 a1 b2).bind (cc x) from rfl]; unfold dB; rw [if_neg dD,if_neg dD,if_neg dD,if_neg dD]; rfl
   have HE:Hid (bH x ⟨#[109,105,115,115]⟩ ns=none):=hr
   clear hr
   have zz:((ns.length:Int) != 2)=true:=by rw [bne_iff_ne]; omega
   obtain ⟨s0,s1,s2,s3⟩:=cells4 K5
   obtain ⟨fs0,fs1,fs2,fs3⟩:=frz4 K5
   have b3:=jZ (b2.setCell (p:=⟨g5,0,none⟩) yy (O U 5))
   clear K5 b2
   go_wp2_with fail
   go_ret2
   rw [HE.out]
   exact bL.no b3.out
 have f4:(s.toList == [109,105,115,115])=false:=bW h4
 by_cases h5:s=⟨#[109,111,118,101]⟩
 ·subst h5
  by_cases hl:ns.length=3
  ·have y7:2 < ns.length:=oM
   have Fl:(2:Int) < (ns.length:Int):=oM
   obtain ⟨a2,zT⟩ : ∃ a,ns[2]'y7=a:=⟨_,rfl⟩
   have n2w:∀ W:World,Below w.heap.size w W→W.cell? ⟨bN,off+2,none⟩=some (O U a2):=fun W hb=>by have:=IB.out 2 y7 ⟨W,hb⟩; rw [zT] at this; exact this
   have zb:=H3.out hl a2 zT
   have hr:bH x ⟨#[109,111,118,101]⟩ ns=cc x ⟨6,a0,a1,a2⟩:=by
    rw [zb,show bH x ⟨#[109,111,118,101]⟩ [a0,a1,a2]=(dB ⟨#[109,111,118,101]⟩ a0 a1 a2).bind (cc x) from rfl]
    unfold dB
    rw [if_neg dD,if_neg dD,if_neg dD,if_pos rfl]; rfl
   clear zb zT
   have zz:((ns.length:Int) != 3)=false:=by rw [hl]; rfl
   have HL:=jZ hl
   clear hl
   have hc:=fun W hW=>ii x ⟨6,a0,a1,a2⟩ W hW
   obtain ⟨R,hR⟩ : ∃ R,gq x.c ⟨6,a0,a1,a2⟩=R:=⟨_,rfl⟩
   rw [hR] at hc
   unfold cc at hr
   rw [hR] at hr
   obtain ⟨s0,s1,s2,s3⟩:=cells4 K5
   obtain ⟨fs0,fs1,fs2,fs3⟩:=frz4 K5
   have n2c:=n2w w2 b2
   go_upto_region 21 with fail
   have K6:ai ((w2.setCell ⟨g5,0,none⟩ (O U 6)).setCell ⟨g5,3,none⟩ (O U a2)) g5 112 [O U 6,O U a0,O U a1,O U a2]:=((K5.set 0 (O U 6)).set 3 (O U a2))
   have b3:=((b2.setCell (p:=⟨g5,0,none⟩) yy (O U 6)).setCell (p:=⟨g5,3,none⟩) yy (O U a2))
   clear K5 b2 s0 s1 s2 s3 fs0 fs1 fs2 fs3 n2c
   generalize ((w2.setCell ⟨g5,0,none⟩ (O U 6)).setCell ⟨g5,3,none⟩ (O U a2))=w3 at K6 b3 ⊢
   have K5:=K6
   clear K6
   have yY:=hL.below b3 hL.lt
   have yu:=h.up b3 nR
   obtain ⟨y,hy⟩ : ∃ y,cU R=y:=⟨_,rfl⟩
   obtain ⟨ok,wP⟩ : ∃ ok,R.isSome=ok:=⟨_,rfl⟩
   have HR:=jZ hR
   have HY:=jZ hy
   have xf:=jZ wP
   unfold aF at hc
   rw [hy,wP] at hc
   clear hR hy wP
   refine al (fun _=>(fun W9=>Below w3.heap.size w3 W9)) (fun i w1 w2=>i ∉ [10]→Below w1.heap.size w1 w2) kZ kZ kZ jB.drew ?_
   simp only [ax,Act.put,sA,gs0,gs1,Nat.zero_add,Nat.reduceAdd]
   refine aa _ vp0 ?_
   refine aa _ (vp1 0) ?_
   refine aa _ (vp1 1) ?_
   refine aa _ (vp1C5 2 yY) ?_
   refine aa _ (vp0C4 K5) ?_
   refine sm [10] (fun v w9=>∃ TA tc OA oc,v=.tuple #[.agg #[F TA y.t.length tc,F OA y.o.length oc,O U y.gt,O U y.sd,O U y.ms],.bool ok]∧w9.ownsRow w.heap.size 104 2 (F TA y.t.length tc) y.t.length (y.t.flatMap aq.enc)∧w9.ownsRow w.heap.size 147 3 (F OA y.o.length oc) y.o.length (y.o.flatMap ae.enc)) (fun vs L9 w9 wK wI hB K9 wJ=>?_) ?_
   next =>
    have d3:=fe hB 3
    have d4:=fe hB 4
    simp only [d3,d4] at wJ ⊢
    simp only [Act.put,sA,gs0,gs1] at wJ
    go_simp
    refine (hc w9 (yu.then wI)).mono ?_
    rintro en w8 ⟨TA,tc,OA,oc,rfl,h1,h2,wL⟩
    simp only [Oc.at,aO.val]
    exact wJ _ _ _ rfl ⟨TA,tc,OA,oc,rfl,ah h1 (jT b3.size wI.size),ah h2 (jT b3.size wI.size)⟩ (wI.trans (wL.mono wI.size)) (fun _=>wL)
   refine pm0 [] 5 (fun u v w9=>v=u∧∃ TA tc OA oc,u=.tuple #[.agg #[F TA y.t.length tc,F OA y.o.length oc,O U y.gt,O U y.sd,O U y.ms],.bool ok]) (fun vs L9 w9 wK wI hB K9 wJ=>?_) ?_
   next =>
    obtain ⟨TA,tc,OA,oc,e0,h1,h2⟩:=fs hB 5
    simp only [e0] at wJ ⊢
    go_simp
    exact wJ _ _ _ rfl ⟨rfl,TA,tc,OA,oc,rfl⟩ wI bR
   refine sm [10] (fun v w9=>∃ TA tc OA oc,v=.agg #[F TA y.t.length tc,F OA y.o.length oc,O U y.gt,O U y.sd,O U y.ms]∧w9.ownsRow w.heap.size 104 2 (F TA y.t.length tc) y.t.length (y.t.flatMap aq.enc)∧w9.ownsRow w.heap.size 147 3 (F OA y.o.length oc) y.o.length (y.o.flatMap ae.enc)) (fun vs L9 w9 wK wI hB K9 wJ=>?_) ?_
   next =>
    simp only [Act.put,sA,gs0,gs1] at wJ
    obtain ⟨TA,tc,OA,oc,e0,h1,h2⟩:=fs hB 5
    obtain ⟨e6,_⟩:=fs hB 6
    simp only [e6,e0] at wJ ⊢
    go_simp
    exact wJ _ _ _ rfl ⟨TA,tc,OA,oc,rfl,h1,h2⟩ wI bR
   refine aa (.bool ok) (fun vs L9 w9 wK wI hB K9 wJ=>?_) ?_
   next =>
    obtain ⟨e6,TA,tc,OA,oc,e0⟩:=fs hB 6
    simp only [e6,e0] at wJ ⊢
    go_simp
    exact wJ _ _ rfl wI bR
   refine sm [10] (fun v w9=>∃ g9,v=.pointer (some ⟨g9,0,none⟩)∧w3.heap.size≤g9∧ai w9 g9 40 [F none 0 0,F none 0 0,O U 0,O U 0,O U 0]) (fun vs L9 w9 wK wI hB K9 wJ=>?_) ?_
   next =>
    simp only [Act.put,sA,gs0,gs1] at wJ
    go_simp
    have wL:=(Below.refl w9.heap.size w9).alloc nR (.cells #[F none 0 0,F none 0 0,O U 0,O U 0,O U 0] 40)
    exact wJ _ _ _ rfl ⟨_,rfl,wI.size,ai.new w9 40 #[F none 0 0,F none 0 0,O U 0,O U 0,O U 0]⟩ (wI.trans (wL.mono wI.size)) (fun _=>wL)
   refine pm [] 9 (fun u _ w9=>∃ g9 TA tc OA oc,u=.pointer (some ⟨g9,0,none⟩)∧w3.heap.size≤g9∧ai w9 g9 40 [F TA y.t.length tc,F OA y.o.length oc,O U y.gt,O U y.sd,O U y.ms]∧w9.ownsRow w.heap.size 104 2 (F TA y.t.length tc) y.t.length (y.t.flatMap aq.enc)∧w9.ownsRow w.heap.size 147 3 (F OA y.o.length oc) y.o.length (y.o.flatMap ae.enc)) (fun vs L9 w9 wK wI hB K9 wJ=>?_) ?_
   next =>
    obtain ⟨g9,AH,ym,xx⟩:=fs hB 9
    simp only [AH] at wJ ⊢
    obtain ⟨TA,tc,OA,oc,e0,h1,h2⟩:=fs hB 7
    simp only [e0] at wJ ⊢
    obtain ⟨z0,z1,z2,z3,z4⟩:=cells5 xx
    obtain ⟨f0,f1,f2,f3,f4⟩:=frz5 xx
    have xo:=jZ (show ai _ g9 40 [F TA y.t.length tc,F OA y.o.length oc,O U y.gt,O U y.sd,O U y.ms] from un (xx) (F TA y.t.length tc) (F OA y.o.length oc) (O U y.gt) (O U y.sd) (O U y.ms))
    have xK:=jZ (wI.grown (row:=some g9) (gw5 _ g9 (F TA y.t.length tc) (F OA y.o.length oc) (O U y.gt) (O U y.sd) (O U y.ms)) wI.size (by rintro _ ⟨⟩; exact ym))
    have zA:=jZ (ak h1 xx fz (gw5 _ g9 (F TA y.t.length tc) (F OA y.o.length oc) (O U y.gt) (O U y.sd) (O U y.ms)))
    have xi:=jZ (ak h2 xx fg (gw5 _ g9 (F TA y.t.length tc) (F OA y.o.length oc) (O U y.gt) (O U y.sd) (O U y.ms)))
    clear xx
    go_simp
    exact wJ _ undef _ rfl ⟨g9,TA,tc,OA,oc,rfl,ym,xo.out,zA.out,xi.out⟩ xK.out nq
   refine aa _ (vp1 8) ?_
   refine ar fun vs L9 w4 wS wI hB=>?_
   obtain ⟨gt,TA,tc,OA,oc,yx,Ag,Kt,xt,xm⟩:=hB 10 _ rfl rfl dD
   have dl:=ag.eq (hB 11 _ rfl rfl dD)
   simp only [yx,dl]
   clear hB wS yx dl
   have b4:=b3.trans (wI.mono b3.size)
   cases R with
   | none =>
    have e1:ok=false:=xf.out.symm
    subst e1
    have HE:Hid (bH x ⟨#[109,111,118,101]⟩ ns=none):=hr
    clear hr
    clear Kt K5 yY yu xt xm HY
    go_wp2_with fail
    go_ret2
    rw [HE.out]
    exact bL.no b4
   | some z =>
   have e1:ok=true:=xf.out.symm
   subst e1
   have e2:z=y:=HY.out
   subst e2
   have yC:=HR.out
   have HE:Hid (bH x ⟨#[109,111,118,101]⟩ ns=some (z,iz z.off ⟨6,a0,a1,a2⟩)):=hr
   clear hr
   have xC:=hL.below b4 hL.lt
   have yb:g < gt:=jL hL.lt (jT b3.size Ag)
   have xD:W0.heap.size≤w.heap.size:=hb0.size
   obtain ⟨w5,zU,M,b5,gr5,OT⟩:=ja xC (b4.mono xD) hB (F TA z.t.length tc) (F OA z.o.length oc) (O U z.gt) (O U z.sd) (O U z.ms)
   have Mt:=OT _ _ _ oM Kt
   have xN:=ak xt xC fj gr5
   have x9:=ak xm xC fk gr5
   have Dt:Hid (∀ j,j < w.heap.size→j ≠ g→w5.heap[j]?=w.heap[j]?):=fun j hj wT=>(gr5.block j (jL hj b4.size) (by intro e; injection e with e; exact wT e)).trans (b4.block j hj)
   have n0c:=mD gr5 (jL hbN b4.size) Kc (n0w w4 b4)
   have zR:w.heap.size≤w5.heap.size:=jT b4.size gr5.size
   obtain ⟨z0,z1,z2,z3,z4⟩:=cells5 Kt
   obtain ⟨k0,k1,k2,k3,k4,k5,k6,k7⟩:=cells8 xC
   obtain ⟨f0,f1,f2,f3,f4,f5,f6,f7⟩:=frz8 xC
   go_upto_region 25 with fail
   clear z0 z1 z2 z3 z4 k0 k1 k2 k3 k4 k5 k6 k7 f0 f1 f2 f3 f4 xC gr5 yY yu K5
   rw [zU.out]
   clear zU OT
   have b05:=hb0.trans b5
   have Du:=ht.then b05
   have Dv:w.heap.size≤gt:=jT b3.size Ag
   have Dw:aE w5 w.heap.size gt (F TA z.t.length tc) (F OA z.o.length oc) z:=⟨Mt,Dv,xN,x9⟩
   have hat:=aE.at_ Dw
   have yX:=fH yC
   have GZ:bK (z.at TA tc OA oc):=Oc.good_off yX.1 TA tc OA oc
   have Ah:dr w5 W0.heap.size g z l:=⟨TA,tc,OA,oc,M,ah xN xD,ah x9 xD⟩
   obtain ⟨z0,z1,z2,z3,z4⟩:=cells5 Mt
   obtain ⟨i,hi⟩:=gF (ts:=z.t) (kd:=a0) (of_decide_eq_true (by rw [dU]; exact yX.2))
   obtain ⟨zm,zj⟩:=ig hi
   have zl:=gm (z.at TA tc OA oc) gt i a0 w5 hat GZ hi zm Du
   have Hg:eI z.off a0=rk (bM (z.t[i]'zm).c) (bM (aW (bG a0) z.o)):=by
    unfold eI
    rw [if_pos (show (ao z.off && aS z.off.t a0)=true from by rw [show ao z.off=true from yX.1]; exact yX.2)]
    unfold mw
    show rk (bM (z.t.getD (ay z.t a0).toNat default).c) _=_
    rw [hi,Int.toNat_natCast,eM zm]
    rfl
   go_wp2_with fail
   refine zl.mono ?_
   rintro e W7 ⟨rfl,wL⟩
   go_wp2
   go_ret2
   rw [HE.out]
   exact bL.yes Hg (Ah.below wL) (b5.trans (wL.mono (jT xD zR))) (jT zR wL.size) (fun j hj wT=>(wL.block j (jL hj zR)).trans (Dt.out j hj wT))
  ·have hr:bH x ⟨#[109,111,118,101]⟩ ns=none:=by
    rw [H2.out oM]; rw [show bH x ⟨#[109,111,118,101]⟩ [a0,a1]=(cZ ⟨#[109,111,118,101]⟩ a0 a1).bind (cc x) from rfl]; unfold cZ; rw [if_neg dD,if_neg dD]; rfl
   have HE:Hid (bH x ⟨#[109,111,118,101]⟩ ns=none):=hr
   clear hr
   have zz:((ns.length:Int) != 3)=true:=by rw [bne_iff_ne]; omega
   obtain ⟨s0,s1,s2,s3⟩:=cells4 K5
   obtain ⟨fs0,fs1,fs2,fs3⟩:=frz4 K5
   have b3:=jZ (b2.setCell (p:=⟨g5,0,none⟩) yy (O U 6))
   clear K5 b2
   go_wp2_with fail
   go_ret2
   rw [HE.out]
   exact bL.no b3.out
 have f5:(s.toList == [109,111,118,101])=false:=bW h5
 have hr:bH x s ns=none:=by
  rcases Nat.lt_or_ge ns.length 3 with hl | hl
  ·rw [H2.out oM,show bH x s [a0,a1]=(cZ s a0 a1).bind (cc x) from rfl]; unfold cZ; rw [if_neg h0,if_neg h4]; rfl
  ·rw [H3.out oM (ns[2]'oM) rfl]; generalize ns[2]'oM=b2
   rw [show bH x s [a0,a1,b2]=(dB s a0 a1 b2).bind (cc x) from rfl]; unfold dB; rw [if_neg h1,if_neg h2,if_neg h3,if_neg h5]; rfl
 have HE:Hid (bH x s ns=none):=hr
 clear hr h0 h1 h2 h3 h4 h5
 go_wp2_with fail
 go_ret2
 rw [HE.out]
 exact bL.no b2
end Go.Proofs.YtoeoimhemojdeaaGreatDoor
