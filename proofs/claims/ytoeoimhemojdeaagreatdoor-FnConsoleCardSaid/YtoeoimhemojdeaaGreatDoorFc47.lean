/- Lemmas. -/
import Derived.Deep.DeepCutAuto
import Derived.Test.YtoeoimhemojdeaaGreatDoorFc52
import Derived.Test.YtoeoimhemojdeaaGreatDoorFc38
import Derived.Test.YtoeoimhemojdeaaGreatDoorFc46

set_option linter.unusedVariables false
set_option linter.unusedSimpArgs false
set_option maxHeartbeats 8000000
open Go.Value renaming int → O, slice → F, string → vw
open Go.IntKind renaming i64 → U
open Go.Proofs.Tryz renaming prog → vx

namespace Go.Proofs.YtoeoimhemojdeaaGreatDoor
open Go.RowKit
theorem l7 {w w' : World} {g b i:Nat} {v:Value} (gr:w.grownBy w' (some g)) (hb:b < w.heap.size) (vJ : ¬ b=g) (h:w.cell? ⟨b,i,none⟩=some v):w'.cell? ⟨b,i,none⟩=some v :=
 (World.cell?_of_block (gr.block b hb (by intro e; injection e with e; exact vJ e))).trans h
theorem uu {ns:List Int} {a0 a1:Int} (hl:ns.length=2) (h0:0 < ns.length) (h1:1 < ns.length) (e0:ns[0]=a0) (e1:ns[1]=a1):ns = [a0,a1]:=by
 subst e0; subst e1
 match ns,hl with
 | [b0,b1],_=>rfl
theorem rR {ns:List Int} {a0 a1 a2:Int} (hl:ns.length=3) (h0:0 < ns.length) (h1:1 < ns.length) (h2:2 < ns.length) (e0:ns[0]=a0) (e1:ns[1]=a1) (e2:ns[2]=a2):ns = [a0,a1,a2]:=by
 subst e0; subst e1; subst e2
 match ns,hl with
 | [b0,b1,b2],_=>rfl
theorem gX (x:aO) (s:cU) (w:World) (h:aP w w.heap.size x):Calls vx 157 #[x.val,s.val] w (aE w (fY x.c s)):=kJ x s w h
def bI (w:World) (B g:Nat) (x:aO) (l:Lg) (R:Option (Oc × ByteArray)) (e:Ending) (w' : World):Prop :=
 (R=none∧(∃ s,e=.returned (.tuple #[vw s,.bool false]))∧Below w.heap.size w w') ∨
 ∃ z r,R=some (z,r)∧e=.returned (.tuple #[vw r,.bool true])∧di w' B g z l∧Below B w w'∧w.heap.size≤w'.heap.size∧(∀ j,j < w.heap.size→j ≠ g→w'.heap[j]?=w.heap[j]?)
theorem bI.no {w w' : World} {B g:Nat} {x:aO} {l:Lg} {s:ByteArray} (hb:Below w.heap.size w w'):bI w B g x l none (.returned (.tuple #[vw s,.bool false])) w':=.inl ⟨rfl,⟨s,rfl⟩,hb⟩
theorem bI.yes {w w' : World} {B g:Nat} {x:aO} {l:Lg} {z:Oc} {r T:ByteArray} (hT:r=T) (h1:di w' B g z l) (h2:Below B w w') (h3:w.heap.size≤w'.heap.size) (h4:∀ j,j < w.heap.size→j ≠ g→w'.heap[j]?=w.heap[j]?):bI w B g x l (some (z,r)) (.returned (.tuple #[vw T,.bool true])) w':=by
 subst hT; exact .inr ⟨z,r,rfl,rfl,h1,h2,h3,h4⟩
set_option maxRecDepth 100000 in
theorem qK (x:aO) (l:Lg) (s:ByteArray) (AN:Option Addr) (cN:Nat) (ns:List Int) (Cc:2≤ns.length) (Gt:ns.length≤3) (g:Nat) (W0 w:World) (hL:ah w g 42 [F x.TA x.t.length x.tc,F x.OA x.o.length x.oc,O U x.gt,O U x.sd,O U x.ms,vw l.D,vw l.P,O U l.n]) (hB:W0.heap.size≤g) (hb0:Below W0.heap.size W0 w) (h:aP w w.heap.size x) (hN:iw w w.heap.size AN ns) (Iw:AN.map (·.block) ≠ some g) (ht:iN W0) :
  Calls vx 99 #[.pointer (some ⟨g,0,none⟩),vw s,F AN ns.length cN] w (bI w W0.heap.size g x l (bD x s ns)):=by
 obtain ⟨bN,off,rfl,hbN,hcN⟩:=hN.ints oM
 have Ix : ¬ bN=g:=fun e=>Iw (by rw [← e]; rfl)
 have Db:0 < ns.length:=oM
 have Bq:1 < ns.length:=oM
 obtain ⟨a0,yQ⟩ : ∃ a,ns[0]'Db=a:=⟨_,rfl⟩
 obtain ⟨a1,zO⟩ : ∃ a,ns[1]'Bq=a:=⟨_,rfl⟩
 have c0n:∀ p:ap w.heap.size w,p.val.cell? ⟨bN,off,none⟩=some (O U a0):=fun p=>by have:=hcN 0 Db p; rw [yQ] at this; exact this
 have c1n:∀ p:ap w.heap.size w,p.val.cell? ⟨bN,off+1,none⟩=some (O U a1):=fun p=>by have:=hcN 1 Bq p; rw [zO] at this; exact this
 have KZ:(0:Int) < (ns.length:Int):=oM
 have La:(1:Int) < (ns.length:Int):=oM
 have GA:=jZ hcN
 clear hcN
 have H2:Hid (∀ (hl:ns.length=2),ns = [a0,a1]):=fun hl=>uu hl Db Bq yQ zO
 have H3:Hid (∀ (hl:ns.length=3) (a2:Int),ns[2]'oM=a2→ns = [a0,a1,a2]):=fun hl a2 yL=>rR hl Db Bq oM yQ zO yL
 clear yQ zO
 go_enter Tryz.func99,Tryz.ntmps99
 go_upto_region 1 with fail
 refine al (fun _=>(fun W9=>Below w.heap.size w W9)) (fun i w1 w2=>i ∉ [8]→Below w1.heap.size w1 w2) kZ kZ kZ jB.drew ?_
 simp only [aw,Act.put,sA,gs0,gs1,Nat.zero_add,Nat.reduceAdd]
 refine aa _ vp0 ?_
 refine aa _ (vp1 0) ?_
 refine aa _ (vp1s 1 c0n) ?_
 refine aa _ vp0 ?_
 refine aa _ (vp1 3) ?_
 refine aa _ (vp1s 4 c1n) ?_
 refine aa _ (vp2 2 5) ?_
 refine smz [8] (fun v w9=>∃ g9,v=.pointer (some ⟨g9,0,none⟩)∧w.heap.size≤g9∧ah w9 g9 112 [O U 0,O U 0,O U 0,O U 0]) (fun vs L9 w9 vA vy hB K9 vz=>?_) ?_
 next =>
  simp only [Act.put,sA,gs0,gs1] at vz
  go_simp
  have vB:=(Below.refl w9.heap.size w9).alloc nR (.cells #[O U 0,O U 0,O U 0,O U 0] 112)
  exact vz _ _ _ rfl ⟨_,rfl,vy.size,ah.new w9 112 #[O U 0,O U 0,O U 0,O U 0]⟩ (vy.trans (vB.mono vy.size)) (fun _=>vB)
 refine pmz [] 7 (fun u _ w9=>∃ g9,u=.pointer (some ⟨g9,0,none⟩)∧w.heap.size≤g9∧ah w9 g9 112 [O U 0,O U a0,O U a1,O U 0]) (fun vs L9 w9 vA vy hB K9 vz=>?_) ?_
 next =>
  have d6:=fe hB 6
  simp only [d6] at vz ⊢
  obtain ⟨g9,Aa,xt,wn⟩:=fs hB 7
  simp only [Aa] at vz ⊢
  obtain ⟨z0,z1,z2,z3⟩:=cells4 wn
  obtain ⟨f0,f1,f2,f3⟩:=frz4 wn
  have wb:=jZ (show ah _ g9 112 [O U 0,O U a0,O U a1,O U 0] from ((((wn.set 0 (O U 0)).set 1 (O U a0)).set 2 (O U a1)).set 3 (O U 0)))
  have wI:=jZ (vy.grown (row:=some g9) (ab (g:=g9) (i:=3) (u:=O U 0) (ab (g:=g9) (i:=2) (u:=O U a1) (ab (g:=g9) (i:=1) (u:=O U a0) (ab (g:=g9) (i:=0) (u:=O U 0) jG)))) vy.size (by rintro _ ⟨⟩; exact xt))
  clear wn
  go_simp
  exact vz _ undef _ rfl ⟨g9,rfl,xt,wb.out⟩ wI.out nq
 refine au fun vs L9 w2 vI b2 hB=>?_
 obtain ⟨g5,yB,xw,K5⟩:=hB 8 _ rfl rfl dD
 simp only [yB]
 clear hB vI yB
 have n0w:∀ W:World,Below w.heap.size w W→W.cell? ⟨bN,off,none⟩=some (O U a0):=fun W hb=>c0n ⟨W,hb⟩
 have n1w:∀ W:World,Below w.heap.size w W→W.cell? ⟨bN,off+1,none⟩=some (O U a1):=fun W hb=>c1n ⟨W,hb⟩
 have hneN : ¬ bN=g5:=oM
 have hneN2 : ¬ g5=bN:=oM
 clear c0n c1n
 by_cases h0:s=⟨#[103,101,116]⟩
 ·subst h0
  by_cases hl:ns.length=2
  ·have xW:=H2.out hl
   have hr:bD x ⟨#[103,101,116]⟩ ns=bW x ⟨1,a0,0,a1⟩:=by
    rw [xW,show bD x ⟨#[103,101,116]⟩ [a0,a1]=(cH ⟨#[103,101,116]⟩ a0 a1).bind (bW x) from rfl]
    unfold cH
    rw [if_pos rfl]; rfl
   clear xW
   have Ae:((ns.length:Int) != 2)=false:=by rw [hl]; rfl
   have HL:=jZ hl
   clear hl
   have hc:=fun W hW=>gX x ⟨1,a0,0,a1⟩ W hW
   obtain ⟨R,hR⟩ : ∃ R,fY x.c ⟨1,a0,0,a1⟩=R:=⟨_,rfl⟩
   rw [hR] at hc
   unfold bW at hr
   rw [hR] at hr
   go_upto_region 6 with fail
   refine al (Sw 7 (fun W9=>Below w2.heap.size w2 W9) (fun W9=>Below w.heap.size w W9∧ah W9 g5 112 [O U 1,O U a0,O U 0,O U a1])) (fun i w1 w2=>i ∉ [7]→Below w1.heap.size w1 w2) kZ kZ kZ (Sw.start jB.drew) ?_
   simp only [aw,Act.put,sA,gs0,gs1,Nat.zero_add,Nat.reduceAdd]
   refine aa _ vb0 ?_
   refine aa _ (vb1 0) ?_
   apply aa
   case h1 =>
    intro vs L9 w9 vA vy hB K9 vz
    replace vy:=sb vy vA
    have d1:=fe hB 1
    simp only [d1] at vz ⊢
    have q0:w9.cell? ⟨bN,off,none⟩=some (O U a0):=n0w w9 (b2.trans (vy.mono b2.size))
    simp only [Act.put,sA,gs0,gs1] at vz
    go_simp
    exact vz _ _ rfl (sy vA vy) bR
   refine aa _ vb0 ?_
   refine aa _ (vb1 3) ?_
   apply aa
   case h1 =>
    intro vs L9 w9 vA vy hB K9 vz
    replace vy:=sb vy vA
    have d4:=fe hB 4
    simp only [d4] at vz ⊢
    have q0:w9.cell? ⟨bN,off+1,none⟩=some (O U a1):=n1w w9 (b2.trans (vy.mono b2.size))
    simp only [Act.put,sA,gs0,gs1] at vz
    go_simp
    exact vz _ _ rfl (sy vA vy) bR
   refine aa _ (vb2 2 5) ?_
   refine aa (undef) (fun vs L9 w9 vA vy hB K9 vz=>?_) ?_
   next =>
    replace vy:=vy.here vA
    have d6:=fe hB 6
    simp only [d6] at vz ⊢
    have Lr:=K5.below vy K5.lt
    obtain ⟨z0,z1,z2,z3⟩:=cells4 Lr
    obtain ⟨f0,f1,f2,f3⟩:=frz4 Lr
    have wb:=jZ (show ah _ g5 112 [O U 1,O U a0,O U 0,O U a1] from vv (Lr) (O U 1) (O U a0) (O U 0) (O U a1))
    have wI:=jZ (vh (g:=g5) (b2.trans (vy.mono b2.size)) xw (O U 1) (O U a0) (O U 0) (O U a1))
    clear Lr
    go_simp
    exact vz _ _ rfl (Sw.turn ⟨wI.out,wb.out⟩) nq
   refine aa _ va0 ?_
   refine au fun vs L9 w9 vI vy hB=>?_
   replace vy:=vy.done vI dD
   have dl:=ag.eq (hB 8 _ rfl rfl dD)
   simp only [dl]
   clear hB dl b2 K5
   obtain ⟨b3,K5⟩:=vy
   go_upto_region 21 with fail
   generalize w9=w3 at b3 K5 ⊢
   have xR:=hL.below b3 hL.lt
   have xo:=h.up b3 nR
   obtain ⟨y,hy⟩ : ∃ y,cz R=y:=⟨_,rfl⟩
   obtain ⟨ok,vF⟩ : ∃ ok,R.isSome=ok:=⟨_,rfl⟩
   have HR:=jZ hR
   have HY:=jZ hy
   have vY:=jZ vF
   unfold aE at hc
   rw [hy,vF] at hc
   clear hR hy vF
   refine al (fun _=>(fun W9=>Below w3.heap.size w3 W9)) (fun i w1 w2=>i ∉ [10]→Below w1.heap.size w1 w2) kZ kZ kZ jB.drew ?_
   simp only [aw,Act.put,sA,gs0,gs1,Nat.zero_add,Nat.reduceAdd]
   refine aa _ vp0 ?_
   refine aa _ (vp1 0) ?_
   refine aa _ (vp1 1) ?_
   refine aa _ (vp1C5 2 xR) ?_
   refine aa _ (vp0C4 K5) ?_
   refine sm [10] (fun v w9=>∃ TA tc OA oc,v=.tuple #[.agg #[F TA y.t.length tc,F OA y.o.length oc,O U y.gt,O U y.sd,O U y.ms],.bool ok]∧w9.ownsRow w.heap.size 104 2 (F TA y.t.length tc) y.t.length (y.t.flatMap aq.enc)∧w9.ownsRow w.heap.size 147 3 (F OA y.o.length oc) y.o.length (y.o.flatMap ae.enc)) (fun vs L9 w9 vA vy hB K9 vz=>?_) ?_
   next =>
    have d3:=fe hB 3
    have d4:=fe hB 4
    simp only [d3,d4] at vz ⊢
    simp only [Act.put,sA,gs0,gs1] at vz
    go_simp
    refine (hc w9 (xo.then vy)).mono ?_
    rintro en w8 ⟨TA,tc,OA,oc,rfl,h1,h2,vB⟩
    simp only [Oc.at,aO.val]
    exact vz _ _ _ rfl ⟨TA,tc,OA,oc,rfl,ai h1 (jT b3.size vy.size),ai h2 (jT b3.size vy.size)⟩ (vy.trans (vB.mono vy.size)) (fun _=>vB)
   refine pm0 [] 5 (fun u v w9=>v=u∧∃ TA tc OA oc,u=.tuple #[.agg #[F TA y.t.length tc,F OA y.o.length oc,O U y.gt,O U y.sd,O U y.ms],.bool ok]) (fun vs L9 w9 vA vy hB K9 vz=>?_) ?_
   next =>
    obtain ⟨TA,tc,OA,oc,e0,h1,h2⟩:=fs hB 5
    simp only [e0] at vz ⊢
    go_simp
    exact vz _ _ _ rfl ⟨rfl,TA,tc,OA,oc,rfl⟩ vy bR
   refine sm [10] (fun v w9=>∃ TA tc OA oc,v=.agg #[F TA y.t.length tc,F OA y.o.length oc,O U y.gt,O U y.sd,O U y.ms]∧w9.ownsRow w.heap.size 104 2 (F TA y.t.length tc) y.t.length (y.t.flatMap aq.enc)∧w9.ownsRow w.heap.size 147 3 (F OA y.o.length oc) y.o.length (y.o.flatMap ae.enc)) (fun vs L9 w9 vA vy hB K9 vz=>?_) ?_
   next =>
    simp only [Act.put,sA,gs0,gs1] at vz
    obtain ⟨TA,tc,OA,oc,e0,h1,h2⟩:=fs hB 5
    obtain ⟨e6,_⟩:=fs hB 6
    simp only [e6,e0] at vz ⊢
    go_simp
    exact vz _ _ _ rfl ⟨TA,tc,OA,oc,rfl,h1,h2⟩ vy bR
   refine aa (.bool ok) (fun vs L9 w9 vA vy hB K9 vz=>?_) ?_
   next =>
    obtain ⟨e6,TA,tc,OA,oc,e0⟩:=fs hB 6
    simp only [e6,e0] at vz ⊢
    go_simp
    exact vz _ _ rfl vy bR
   refine smz [10] (fun v w9=>∃ g9,v=.pointer (some ⟨g9,0,none⟩)∧w3.heap.size≤g9∧ah w9 g9 40 [F none 0 0,F none 0 0,O U 0,O U 0,O U 0]) (fun vs L9 w9 vA vy hB K9 vz=>?_) ?_
   next =>
    simp only [Act.put,sA,gs0,gs1] at vz
    go_simp
    have vB:=(Below.refl w9.heap.size w9).alloc nR (.cells #[F none 0 0,F none 0 0,O U 0,O U 0,O U 0] 40)
    exact vz _ _ _ rfl ⟨_,rfl,vy.size,ah.new w9 40 #[F none 0 0,F none 0 0,O U 0,O U 0,O U 0]⟩ (vy.trans (vB.mono vy.size)) (fun _=>vB)
   refine pmz [] 9 (fun u _ w9=>∃ g9 TA tc OA oc,u=.pointer (some ⟨g9,0,none⟩)∧w3.heap.size≤g9∧ah w9 g9 40 [F TA y.t.length tc,F OA y.o.length oc,O U y.gt,O U y.sd,O U y.ms]∧w9.ownsRow w.heap.size 104 2 (F TA y.t.length tc) y.t.length (y.t.flatMap aq.enc)∧w9.ownsRow w.heap.size 147 3 (F OA y.o.length oc) y.o.length (y.o.flatMap ae.enc)) (fun vs L9 w9 vA vy hB K9 vz=>?_) ?_
   next =>
    obtain ⟨g9,Aa,xt,wn⟩:=fs hB 9
    simp only [Aa] at vz ⊢
    obtain ⟨TA,tc,OA,oc,e0,h1,h2⟩:=fs hB 7
    simp only [e0] at vz ⊢
    obtain ⟨z0,z1,z2,z3,z4⟩:=cells5 wn
    obtain ⟨f0,f1,f2,f3,f4⟩:=frz5 wn
    have wb:=jZ (show ah _ g9 40 [F TA y.t.length tc,F OA y.o.length oc,O U y.gt,O U y.sd,O U y.ms] from sZ (wn) (F TA y.t.length tc) (F OA y.o.length oc) (O U y.gt) (O U y.sd) (O U y.ms))
    have wI:=jZ (vy.grown (row:=some g9) (gw5 _ g9 (F TA y.t.length tc) (F OA y.o.length oc) (O U y.gt) (O U y.sd) (O U y.ms)) vy.size (by rintro _ ⟨⟩; exact xt))
    have yp:=jZ (ak h1 wn fk (gw5 _ g9 (F TA y.t.length tc) (F OA y.o.length oc) (O U y.gt) (O U y.sd) (O U y.ms)))
    have vU:=jZ (ak h2 wn eV (gw5 _ g9 (F TA y.t.length tc) (F OA y.o.length oc) (O U y.gt) (O U y.sd) (O U y.ms)))
    clear wn
    go_simp
    exact vz _ undef _ rfl ⟨g9,TA,tc,OA,oc,rfl,xt,wb.out,yp.out,vU.out⟩ wI.out nq
   refine aa _ (vp1 8) ?_
   refine au fun vs L9 w4 vI vy hB=>?_
   obtain ⟨gt,TA,tc,OA,oc,yB,yW,Kt,wh,vZ⟩:=hB 10 _ rfl rfl dD
   have dl:=ag.eq (hB 11 _ rfl rfl dD)
   simp only [yB,dl]
   clear hB vI yB dl
   have b4:=b3.trans (vy.mono b3.size)
   cases R with
   | none =>
    have e1:ok=false:=vY.out.symm
    subst e1
    have HE:Hid (bD x ⟨#[103,101,116]⟩ ns=none):=hr
    clear hr
    clear Kt K5 xR xo wh vZ HY
    go_wp2_with fail
    go_ret2
    rw [HE.out]
    exact bI.no b4
   | some z =>
   have e1:ok=true:=vY.out.symm
   subst e1
   have e2:z=y:=HY.out
   subst e2
   have xz:=HR.out
   have HE:Hid (bD x ⟨#[103,101,116]⟩ ns=some (z,im z.off ⟨1,a0,0,a1⟩)):=hr
   clear hr
   have wu:=hL.below b4 hL.lt
   have wW:g < gt:=jL hL.lt (jT b3.size yW)
   have wv:W0.heap.size≤w.heap.size:=hb0.size
   obtain ⟨w5,zG,M,b5,gr5,OT⟩:=iM wu (b4.mono wv) hB (F TA z.t.length tc) (F OA z.o.length oc) (O U z.gt) (O U z.sd) (O U z.ms)
   have Mt:=OT _ _ _ oM Kt
   have xd:=ak wh wu ft gr5
   have xe:=ak vZ wu fu gr5
   have BS:Hid (∀ j,j < w.heap.size→j ≠ g→w5.heap[j]?=w.heap[j]?):=fun j hj vJ=>(gr5.block j (jL hj b4.size) (by intro e; injection e with e; exact vJ e)).trans (b4.block j hj)
   have yJ:w.heap.size≤w5.heap.size:=jT b4.size gr5.size
   obtain ⟨z0,z1,z2,z3,z4⟩:=cells5 Kt
   obtain ⟨k0,k1,k2,k3,k4,k5,k6,k7⟩:=cells8 wu
   obtain ⟨f0,f1,f2,f3,f4,f5,f6,f7⟩:=frz8 wu
   go_upto_region 25 with fail
   clear z0 z1 z2 z3 z4 k0 k1 k2 k3 k4 k5 k6 k7 f0 f1 f2 f3 f4 wu gr5 xR xo K5
   rw [zG.out]
   clear zG OT
   have b05:=hb0.trans b5
   have BT:=ht.then b05
   have BU:w.heap.size≤gt:=jT b3.size yW
   have BV:aC w5 w.heap.size gt (F TA z.t.length tc) (F OA z.o.length oc) z:=⟨Mt,BU,xd,xe⟩
   have hat:=aC.at_ BV
   have xQ:=fz xz
   have GZ:bH (z.at TA tc OA oc):=Oc.good_off xQ.1 TA tc OA oc
   have yX:di w5 W0.heap.size g z l:=⟨TA,tc,OA,oc,M,ai xd wv,ai xe wv⟩
   obtain ⟨z0,z1,z2,z3,z4⟩:=cells5 Mt
   have bd:=GZ.inB
   have ye:=jf (z.at TA tc OA oc) gt w5 hat GZ.tl GZ.tall
   have hn:=fun W hW=>dw (cr z.t) W (by have e:(z.at TA tc OA oc).t=z.t:=rfl; rw [e] at bd; omega) (by have e:(z.at TA tc OA oc).t=z.t:=rfl; rw [e] at bd; omega) hW
   clear bd
   go_wp2_with fail
   refine ye.mono ?_
   rintro e W6 ⟨rfl,wk⟩
   go_wp2_with fail
   refine (hn _ (BT.then wk)).mono ?_
   rintro e W7 ⟨rfl,xM⟩
   have vB:=av wk xM
   go_wp2
   go_ret2
   rw [HE.out]
   exact bI.yes rfl (yX.below vB) (b5.trans (vB.mono (jT wv yJ))) (jT yJ vB.size) (fun j hj vJ=>(vB.block j (jL hj yJ)).trans (BS.out j hj vJ))
  ·have hr:bD x ⟨#[103,101,116]⟩ ns=none:=by
    rw [H3.out oM (ns[2]'oM) rfl]; generalize ns[2]'oM=b2; rw [show bD x ⟨#[103,101,116]⟩ [a0,a1,b2]=(dr ⟨#[103,101,116]⟩ a0 a1 b2).bind (bW x) from rfl]; unfold dr; rw [if_neg dD,if_neg dD,if_neg dD,if_neg dD]; rfl
   have HE:Hid (bD x ⟨#[103,101,116]⟩ ns=none):=hr
   clear hr
   have Ae:((ns.length:Int) != 2)=true:=by rw [bne_iff_ne]; omega
   go_upto_region 6 with fail
   refine al (Sw 7 (fun W9=>Below w2.heap.size w2 W9) (fun W9=>Below w.heap.size w W9)) (fun i w1 w2=>i ∉ [7]→Below w1.heap.size w1 w2) kZ kZ kZ (Sw.start jB.drew) ?_
   simp only [aw,Act.put,sA,gs0,gs1,Nat.zero_add,Nat.reduceAdd]
   refine aa _ vb0 ?_
   refine aa _ (vb1 0) ?_
   apply aa
   case h1 =>
    intro vs L9 w9 vA vy hB K9 vz
    replace vy:=sb vy vA
    have d1:=fe hB 1
    simp only [d1] at vz ⊢
    have q0:w9.cell? ⟨bN,off,none⟩=some (O U a0):=n0w w9 (b2.trans (vy.mono b2.size))
    simp only [Act.put,sA,gs0,gs1] at vz
    go_simp
    exact vz _ _ rfl (sy vA vy) bR
   refine aa _ vb0 ?_
   refine aa _ (vb1 3) ?_
   apply aa
   case h1 =>
    intro vs L9 w9 vA vy hB K9 vz
    replace vy:=sb vy vA
    have d4:=fe hB 4
    simp only [d4] at vz ⊢
    have q0:w9.cell? ⟨bN,off+1,none⟩=some (O U a1):=n1w w9 (b2.trans (vy.mono b2.size))
    simp only [Act.put,sA,gs0,gs1] at vz
    go_simp
    exact vz _ _ rfl (sy vA vy) bR
   refine aa _ (vb2 2 5) ?_
   refine aa (undef) (fun vs L9 w9 vA vy hB K9 vz=>?_) ?_
   next =>
    replace vy:=vy.here vA
    have d6:=fe hB 6
    simp only [d6] at vz ⊢
    have Lr:=K5.below vy K5.lt
    obtain ⟨z0,z1,z2,z3⟩:=cells4 Lr
    obtain ⟨f0,f1,f2,f3⟩:=frz4 Lr
    have wI:=jZ (vh (g:=g5) (b2.trans (vy.mono b2.size)) xw (O U 1) (O U a0) (O U 0) (O U a1))
    clear Lr
    go_simp
    exact vz _ _ rfl (Sw.turn wI.out) nq
   refine aa _ va0 ?_
   refine au fun vs L9 w9 vI vy hB=>?_
   replace vy:=vy.done vI dD
   have dl:=ag.eq (hB 8 _ rfl rfl dD)
   simp only [dl]
   clear hB dl b2 K5
   go_wp2_with fail
   go_ret2
   rw [HE.out]
   exact bI.no vy
 have f0:(s.toList == [103,101,116])=false:=bT h0
 by_cases h1:s=⟨#[115,104,111,119]⟩
 ·subst h1
  by_cases hl:ns.length=3
  ·have yn:2 < ns.length:=oM
   have DM:(2:Int) < (ns.length:Int):=oM
   obtain ⟨a2,yL⟩ : ∃ a,ns[2]'yn=a:=⟨_,rfl⟩
   have n2w:∀ W:World,Below w.heap.size w W→W.cell? ⟨bN,off+2,none⟩=some (O U a2):=fun W hb=>by have:=GA.out 2 yn ⟨W,hb⟩; rw [yL] at this; exact this
   have xW:=H3.out hl a2 yL
   have hr:bD x ⟨#[115,104,111,119]⟩ ns=bW x ⟨2,a0,a1,a2⟩:=by
    rw [xW,show bD x ⟨#[115,104,111,119]⟩ [a0,a1,a2]=(dr ⟨#[115,104,111,119]⟩ a0 a1 a2).bind (bW x) from rfl]
    unfold dr
    rw [if_pos rfl]; rfl
   clear xW yL
   have Ae:((ns.length:Int) != 3)=false:=by rw [hl]; rfl
   have HL:=jZ hl
   clear hl
   have hc:=fun W hW=>gX x ⟨2,a0,a1,a2⟩ W hW
   obtain ⟨R,hR⟩ : ∃ R,fY x.c ⟨2,a0,a1,a2⟩=R:=⟨_,rfl⟩
   rw [hR] at hc
   unfold bW at hr
   rw [hR] at hr
   obtain ⟨s0,s1,s2,s3⟩:=cells4 K5
   obtain ⟨fs0,fs1,fs2,fs3⟩:=frz4 K5
   have n2c:=n2w w2 b2
   go_upto_region 21 with fail
   have K6:ah ((w2.setCell ⟨g5,0,none⟩ (O U 2)).setCell ⟨g5,3,none⟩ (O U a2)) g5 112 [O U 2,O U a0,O U a1,O U a2]:=((K5.set 0 (O U 2)).set 3 (O U a2))
   have b3:=((b2.setCell (p:=⟨g5,0,none⟩) xw (O U 2)).setCell (p:=⟨g5,3,none⟩) xw (O U a2))
   clear K5 b2 s0 s1 s2 s3 fs0 fs1 fs2 fs3 n2c
   generalize ((w2.setCell ⟨g5,0,none⟩ (O U 2)).setCell ⟨g5,3,none⟩ (O U a2))=w3 at K6 b3 ⊢
   have K5:=K6
   clear K6
   have xR:=hL.below b3 hL.lt
   have xo:=h.up b3 nR
   obtain ⟨y,hy⟩ : ∃ y,cz R=y:=⟨_,rfl⟩
   obtain ⟨ok,vF⟩ : ∃ ok,R.isSome=ok:=⟨_,rfl⟩
   have HR:=jZ hR
   have HY:=jZ hy
   have vY:=jZ vF
   unfold aE at hc
   rw [hy,vF] at hc
   clear hR hy vF
   refine al (fun _=>(fun W9=>Below w3.heap.size w3 W9)) (fun i w1 w2=>i ∉ [10]→Below w1.heap.size w1 w2) kZ kZ kZ jB.drew ?_
   simp only [aw,Act.put,sA,gs0,gs1,Nat.zero_add,Nat.reduceAdd]
   refine aa _ vp0 ?_
   refine aa _ (vp1 0) ?_
   refine aa _ (vp1 1) ?_
   refine aa _ (vp1C5 2 xR) ?_
   refine aa _ (vp0C4 K5) ?_
   refine sm [10] (fun v w9=>∃ TA tc OA oc,v=.tuple #[.agg #[F TA y.t.length tc,F OA y.o.length oc,O U y.gt,O U y.sd,O U y.ms],.bool ok]∧w9.ownsRow w.heap.size 104 2 (F TA y.t.length tc) y.t.length (y.t.flatMap aq.enc)∧w9.ownsRow w.heap.size 147 3 (F OA y.o.length oc) y.o.length (y.o.flatMap ae.enc)) (fun vs L9 w9 vA vy hB K9 vz=>?_) ?_
   next =>
    have d3:=fe hB 3
    have d4:=fe hB 4
    simp only [d3,d4] at vz ⊢
    simp only [Act.put,sA,gs0,gs1] at vz
    go_simp
    refine (hc w9 (xo.then vy)).mono ?_
    rintro en w8 ⟨TA,tc,OA,oc,rfl,h1,h2,vB⟩
    simp only [Oc.at,aO.val]
    exact vz _ _ _ rfl ⟨TA,tc,OA,oc,rfl,ai h1 (jT b3.size vy.size),ai h2 (jT b3.size vy.size)⟩ (vy.trans (vB.mono vy.size)) (fun _=>vB)
   refine pm0 [] 5 (fun u v w9=>v=u∧∃ TA tc OA oc,u=.tuple #[.agg #[F TA y.t.length tc,F OA y.o.length oc,O U y.gt,O U y.sd,O U y.ms],.bool ok]) (fun vs L9 w9 vA vy hB K9 vz=>?_) ?_
   next =>
    obtain ⟨TA,tc,OA,oc,e0,h1,h2⟩:=fs hB 5
    simp only [e0] at vz ⊢
    go_simp
    exact vz _ _ _ rfl ⟨rfl,TA,tc,OA,oc,rfl⟩ vy bR
   refine sm [10] (fun v w9=>∃ TA tc OA oc,v=.agg #[F TA y.t.length tc,F OA y.o.length oc,O U y.gt,O U y.sd,O U y.ms]∧w9.ownsRow w.heap.size 104 2 (F TA y.t.length tc) y.t.length (y.t.flatMap aq.enc)∧w9.ownsRow w.heap.size 147 3 (F OA y.o.length oc) y.o.length (y.o.flatMap ae.enc)) (fun vs L9 w9 vA vy hB K9 vz=>?_) ?_
   next =>
    simp only [Act.put,sA,gs0,gs1] at vz
    obtain ⟨TA,tc,OA,oc,e0,h1,h2⟩:=fs hB 5
    obtain ⟨e6,_⟩:=fs hB 6
    simp only [e6,e0] at vz ⊢
    go_simp
    exact vz _ _ _ rfl ⟨TA,tc,OA,oc,rfl,h1,h2⟩ vy bR
   refine aa (.bool ok) (fun vs L9 w9 vA vy hB K9 vz=>?_) ?_
   next =>
    obtain ⟨e6,TA,tc,OA,oc,e0⟩:=fs hB 6
    simp only [e6,e0] at vz ⊢
    go_simp
    exact vz _ _ rfl vy bR
   refine smz [10] (fun v w9=>∃ g9,v=.pointer (some ⟨g9,0,none⟩)∧w3.heap.size≤g9∧ah w9 g9 40 [F none 0 0,F none 0 0,O U 0,O U 0,O U 0]) (fun vs L9 w9 vA vy hB K9 vz=>?_) ?_
   next =>
    simp only [Act.put,sA,gs0,gs1] at vz
    go_simp
    have vB:=(Below.refl w9.heap.size w9).alloc nR (.cells #[F none 0 0,F none 0 0,O U 0,O U 0,O U 0] 40)
    exact vz _ _ _ rfl ⟨_,rfl,vy.size,ah.new w9 40 #[F none 0 0,F none 0 0,O U 0,O U 0,O U 0]⟩ (vy.trans (vB.mono vy.size)) (fun _=>vB)
   refine pmz [] 9 (fun u _ w9=>∃ g9 TA tc OA oc,u=.pointer (some ⟨g9,0,none⟩)∧w3.heap.size≤g9∧ah w9 g9 40 [F TA y.t.length tc,F OA y.o.length oc,O U y.gt,O U y.sd,O U y.ms]∧w9.ownsRow w.heap.size 104 2 (F TA y.t.length tc) y.t.length (y.t.flatMap aq.enc)∧w9.ownsRow w.heap.size 147 3 (F OA y.o.length oc) y.o.length (y.o.flatMap ae.enc)) (fun vs L9 w9 vA vy hB K9 vz=>?_) ?_
   next =>
    obtain ⟨g9,Aa,xt,wn⟩:=fs hB 9
    simp only [Aa] at vz ⊢
    obtain ⟨TA,tc,OA,oc,e0,h1,h2⟩:=fs hB 7
    simp only [e0] at vz ⊢
    obtain ⟨z0,z1,z2,z3,z4⟩:=cells5 wn
    obtain ⟨f0,f1,f2,f3,f4⟩:=frz5 wn
    have wb:=jZ (show ah _ g9 40 [F TA y.t.length tc,F OA y.o.length oc,O U y.gt,O U y.sd,O U y.ms] from sZ (wn) (F TA y.t.length tc) (F OA y.o.length oc) (O U y.gt) (O U y.sd) (O U y.ms))
    have wI:=jZ (vy.grown (row:=some g9) (gw5 _ g9 (F TA y.t.length tc) (F OA y.o.length oc) (O U y.gt) (O U y.sd) (O U y.ms)) vy.size (by rintro _ ⟨⟩; exact xt))
    have yp:=jZ (ak h1 wn fk (gw5 _ g9 (F TA y.t.length tc) (F OA y.o.length oc) (O U y.gt) (O U y.sd) (O U y.ms)))
    have vU:=jZ (ak h2 wn eV (gw5 _ g9 (F TA y.t.length tc) (F OA y.o.length oc) (O U y.gt) (O U y.sd) (O U y.ms)))
    clear wn
    go_simp
    exact vz _ undef _ rfl ⟨g9,TA,tc,OA,oc,rfl,xt,wb.out,yp.out,vU.out⟩ wI.out nq
   refine aa _ (vp1 8) ?_
   refine au fun vs L9 w4 vI vy hB=>?_
   obtain ⟨gt,TA,tc,OA,oc,yB,yW,Kt,wh,vZ⟩:=hB 10 _ rfl rfl dD
   have dl:=ag.eq (hB 11 _ rfl rfl dD)
   simp only [yB,dl]
   clear hB vI yB dl
   have b4:=b3.trans (vy.mono b3.size)
   cases R with
   | none =>
    have e1:ok=false:=vY.out.symm
    subst e1
    have HE:Hid (bD x ⟨#[115,104,111,119]⟩ ns=none):=hr
    clear hr
    clear Kt K5 xR xo wh vZ HY
    go_wp2_with fail
    go_ret2
    rw [HE.out]
    exact bI.no b4
   | some z =>
   have e1:ok=true:=vY.out.symm
   subst e1
   have e2:z=y:=HY.out
   subst e2
   have xz:=HR.out
   have HE:Hid (bD x ⟨#[115,104,111,119]⟩ ns=some (z,im z.off ⟨2,a0,a1,a2⟩)):=hr
   clear hr
   have wu:=hL.below b4 hL.lt
   have wW:g < gt:=jL hL.lt (jT b3.size yW)
   have wv:W0.heap.size≤w.heap.size:=hb0.size
   obtain ⟨w5,zG,M,b5,gr5,OT⟩:=iM wu (b4.mono wv) hB (F TA z.t.length tc) (F OA z.o.length oc) (O U z.gt) (O U z.sd) (O U z.ms)
   have Mt:=OT _ _ _ oM Kt
   have xd:=ak wh wu ft gr5
   have xe:=ak vZ wu fu gr5
   have BS:Hid (∀ j,j < w.heap.size→j ≠ g→w5.heap[j]?=w.heap[j]?):=fun j hj vJ=>(gr5.block j (jL hj b4.size) (by intro e; injection e with e; exact vJ e)).trans (b4.block j hj)
   have n0c:=l7 gr5 (jL hbN b4.size) Ix (n0w w4 b4)
   have yJ:w.heap.size≤w5.heap.size:=jT b4.size gr5.size
   obtain ⟨z0,z1,z2,z3,z4⟩:=cells5 Kt
   obtain ⟨k0,k1,k2,k3,k4,k5,k6,k7⟩:=cells8 wu
   obtain ⟨f0,f1,f2,f3,f4,f5,f6,f7⟩:=frz8 wu
   go_upto_region 25 with fail
   clear z0 z1 z2 z3 z4 k0 k1 k2 k3 k4 k5 k6 k7 f0 f1 f2 f3 f4 wu gr5 xR xo K5
   rw [zG.out]
   clear zG OT
   have b05:=hb0.trans b5
   have BT:=ht.then b05
   have BU:w.heap.size≤gt:=jT b3.size yW
   have BV:aC w5 w.heap.size gt (F TA z.t.length tc) (F OA z.o.length oc) z:=⟨Mt,BU,xd,xe⟩
   have hat:=aC.at_ BV
   have xQ:=fz xz
   have GZ:bH (z.at TA tc OA oc):=Oc.good_off xQ.1 TA tc OA oc
   have yX:di w5 W0.heap.size g z l:=⟨TA,tc,OA,oc,M,ai xd wv,ai xe wv⟩
   obtain ⟨z0,z1,z2,z3,z4⟩:=cells5 Mt
   obtain ⟨i,hi⟩:=gu (ts:=z.t) (kd:=a0) (of_decide_eq_true (by rw [dL]; exact xQ.2))
   obtain ⟨yf,yb⟩:=gW hi
   have ye:=gP (z.at TA tc OA oc) gt i a0 w5 hat GZ hi yf BT
   have FN:eE z.off a0=qx (bJ (z.t[i]'yf).c) (bJ (aW (bC a0) z.o)):=by
    unfold eE
    rw [if_pos (show (an z.off && aS z.off.t a0)=true from by rw [show an z.off=true from xQ.1]; exact xQ.2)]
    unfold lU
    show qx (bJ (z.t.getD (ax z.t a0).toNat default).c) _=_
    rw [hi,Int.toNat_natCast,eH yf]
    rfl
   go_wp2_with fail
   refine ye.mono ?_
   rintro e W7 ⟨rfl,vB⟩
   go_wp2
   go_ret2
   rw [HE.out]
   exact bI.yes FN (yX.below vB) (b5.trans (vB.mono (jT wv yJ))) (jT yJ vB.size) (fun j hj vJ=>(vB.block j (jL hj yJ)).trans (BS.out j hj vJ))
  ·have hr:bD x ⟨#[115,104,111,119]⟩ ns=none:=by
    rw [H2.out oM]; rw [show bD x ⟨#[115,104,111,119]⟩ [a0,a1]=(cH ⟨#[115,104,111,119]⟩ a0 a1).bind (bW x) from rfl]; unfold cH; rw [if_neg dD,if_neg dD]; rfl
   have HE:Hid (bD x ⟨#[115,104,111,119]⟩ ns=none):=hr
   clear hr
   have Ae:((ns.length:Int) != 3)=true:=by rw [bne_iff_ne]; omega
   obtain ⟨s0,s1,s2,s3⟩:=cells4 K5
   obtain ⟨fs0,fs1,fs2,fs3⟩:=frz4 K5
   have b3:=jZ (b2.setCell (p:=⟨g5,0,none⟩) xw (O U 2))
   clear K5 b2
   go_wp2_with fail
   go_ret2
   rw [HE.out]
   exact bI.no b3.out
 have f1:(s.toList == [115,104,111,119])=false:=bT h1
 by_cases h2:s=⟨#[98,97,99,107]⟩
 ·subst h2
  by_cases hl:ns.length=3
  ·have yn:2 < ns.length:=oM
   have DM:(2:Int) < (ns.length:Int):=oM
   obtain ⟨a2,yL⟩ : ∃ a,ns[2]'yn=a:=⟨_,rfl⟩
   have n2w:∀ W:World,Below w.heap.size w W→W.cell? ⟨bN,off+2,none⟩=some (O U a2):=fun W hb=>by have:=GA.out 2 yn ⟨W,hb⟩; rw [yL] at this; exact this
   have xW:=H3.out hl a2 yL
   have hr:bD x ⟨#[98,97,99,107]⟩ ns=bW x ⟨3,a0,a1,a2⟩:=by
    rw [xW,show bD x ⟨#[98,97,99,107]⟩ [a0,a1,a2]=(dr ⟨#[98,97,99,107]⟩ a0 a1 a2).bind (bW x) from rfl]
    unfold dr
    rw [if_neg dD,if_pos rfl]; rfl
   clear xW yL
   have Ae:((ns.length:Int) != 3)=false:=by rw [hl]; rfl
   have HL:=jZ hl
   clear hl
   have hc:=fun W hW=>gX x ⟨3,a0,a1,a2⟩ W hW
   obtain ⟨R,hR⟩ : ∃ R,fY x.c ⟨3,a0,a1,a2⟩=R:=⟨_,rfl⟩
   rw [hR] at hc
   unfold bW at hr
   rw [hR] at hr
   obtain ⟨s0,s1,s2,s3⟩:=cells4 K5
   obtain ⟨fs0,fs1,fs2,fs3⟩:=frz4 K5
   have n2c:=n2w w2 b2
   go_upto_region 21 with fail
   have K6:ah ((w2.setCell ⟨g5,0,none⟩ (O U 3)).setCell ⟨g5,3,none⟩ (O U a2)) g5 112 [O U 3,O U a0,O U a1,O U a2]:=((K5.set 0 (O U 3)).set 3 (O U a2))
   have b3:=((b2.setCell (p:=⟨g5,0,none⟩) xw (O U 3)).setCell (p:=⟨g5,3,none⟩) xw (O U a2))
   clear K5 b2 s0 s1 s2 s3 fs0 fs1 fs2 fs3 n2c
   generalize ((w2.setCell ⟨g5,0,none⟩ (O U 3)).setCell ⟨g5,3,none⟩ (O U a2))=w3 at K6 b3 ⊢
   have K5:=K6
   clear K6
   have xR:=hL.below b3 hL.lt
   have xo:=h.up b3 nR
   obtain ⟨y,hy⟩ : ∃ y,cz R=y:=⟨_,rfl⟩
   obtain ⟨ok,vF⟩ : ∃ ok,R.isSome=ok:=⟨_,rfl⟩
   have HR:=jZ hR
   have HY:=jZ hy
   have vY:=jZ vF
   unfold aE at hc
   rw [hy,vF] at hc
   clear hR hy vF
   refine al (fun _=>(fun W9=>Below w3.heap.size w3 W9)) (fun i w1 w2=>i ∉ [10]→Below w1.heap.size w1 w2) kZ kZ kZ jB.drew ?_
   simp only [aw,Act.put,sA,gs0,gs1,Nat.zero_add,Nat.reduceAdd]
   refine aa _ vp0 ?_
   refine aa _ (vp1 0) ?_
   refine aa _ (vp1 1) ?_
   refine aa _ (vp1C5 2 xR) ?_
   refine aa _ (vp0C4 K5) ?_
   refine sm [10] (fun v w9=>∃ TA tc OA oc,v=.tuple #[.agg #[F TA y.t.length tc,F OA y.o.length oc,O U y.gt,O U y.sd,O U y.ms],.bool ok]∧w9.ownsRow w.heap.size 104 2 (F TA y.t.length tc) y.t.length (y.t.flatMap aq.enc)∧w9.ownsRow w.heap.size 147 3 (F OA y.o.length oc) y.o.length (y.o.flatMap ae.enc)) (fun vs L9 w9 vA vy hB K9 vz=>?_) ?_
   next =>
    have d3:=fe hB 3
    have d4:=fe hB 4
    simp only [d3,d4] at vz ⊢
    simp only [Act.put,sA,gs0,gs1] at vz
    go_simp
    refine (hc w9 (xo.then vy)).mono ?_
    rintro en w8 ⟨TA,tc,OA,oc,rfl,h1,h2,vB⟩
    simp only [Oc.at,aO.val]
    exact vz _ _ _ rfl ⟨TA,tc,OA,oc,rfl,ai h1 (jT b3.size vy.size),ai h2 (jT b3.size vy.size)⟩ (vy.trans (vB.mono vy.size)) (fun _=>vB)
   refine pm0 [] 5 (fun u v w9=>v=u∧∃ TA tc OA oc,u=.tuple #[.agg #[F TA y.t.length tc,F OA y.o.length oc,O U y.gt,O U y.sd,O U y.ms],.bool ok]) (fun vs L9 w9 vA vy hB K9 vz=>?_) ?_
   next =>
    obtain ⟨TA,tc,OA,oc,e0,h1,h2⟩:=fs hB 5
    simp only [e0] at vz ⊢
    go_simp
    exact vz _ _ _ rfl ⟨rfl,TA,tc,OA,oc,rfl⟩ vy bR
   refine sm [10] (fun v w9=>∃ TA tc OA oc,v=.agg #[F TA y.t.length tc,F OA y.o.length oc,O U y.gt,O U y.sd,O U y.ms]∧w9.ownsRow w.heap.size 104 2 (F TA y.t.length tc) y.t.length (y.t.flatMap aq.enc)∧w9.ownsRow w.heap.size 147 3 (F OA y.o.length oc) y.o.length (y.o.flatMap ae.enc)) (fun vs L9 w9 vA vy hB K9 vz=>?_) ?_
   next =>
    simp only [Act.put,sA,gs0,gs1] at vz
    obtain ⟨TA,tc,OA,oc,e0,h1,h2⟩:=fs hB 5
    obtain ⟨e6,_⟩:=fs hB 6
    simp only [e6,e0] at vz ⊢
    go_simp
    exact vz _ _ _ rfl ⟨TA,tc,OA,oc,rfl,h1,h2⟩ vy bR
   refine aa (.bool ok) (fun vs L9 w9 vA vy hB K9 vz=>?_) ?_
   next =>
    obtain ⟨e6,TA,tc,OA,oc,e0⟩:=fs hB 6
    simp only [e6,e0] at vz ⊢
    go_simp
    exact vz _ _ rfl vy bR
   refine smz [10] (fun v w9=>∃ g9,v=.pointer (some ⟨g9,0,none⟩)∧w3.heap.size≤g9∧ah w9 g9 40 [F none 0 0,F none 0 0,O U 0,O U 0,O U 0]) (fun vs L9 w9 vA vy hB K9 vz=>?_) ?_
   next =>
    simp only [Act.put,sA,gs0,gs1] at vz
    go_simp
    have vB:=(Below.refl w9.heap.size w9).alloc nR (.cells #[F none 0 0,F none 0 0,O U 0,O U 0,O U 0] 40)
    exact vz _ _ _ rfl ⟨_,rfl,vy.size,ah.new w9 40 #[F none 0 0,F none 0 0,O U 0,O U 0,O U 0]⟩ (vy.trans (vB.mono vy.size)) (fun _=>vB)
   refine pmz [] 9 (fun u _ w9=>∃ g9 TA tc OA oc,u=.pointer (some ⟨g9,0,none⟩)∧w3.heap.size≤g9∧ah w9 g9 40 [F TA y.t.length tc,F OA y.o.length oc,O U y.gt,O U y.sd,O U y.ms]∧w9.ownsRow w.heap.size 104 2 (F TA y.t.length tc) y.t.length (y.t.flatMap aq.enc)∧w9.ownsRow w.heap.size 147 3 (F OA y.o.length oc) y.o.length (y.o.flatMap ae.enc)) (fun vs L9 w9 vA vy hB K9 vz=>?_) ?_
   next =>
    obtain ⟨g9,Aa,xt,wn⟩:=fs hB 9
    simp only [Aa] at vz ⊢
    obtain ⟨TA,tc,OA,oc,e0,h1,h2⟩:=fs hB 7
    simp only [e0] at vz ⊢
    obtain ⟨z0,z1,z2,z3,z4⟩:=cells5 wn
    obtain ⟨f0,f1,f2,f3,f4⟩:=frz5 wn
    have wb:=jZ (show ah _ g9 40 [F TA y.t.length tc,F OA y.o.length oc,O U y.gt,O U y.sd,O U y.ms] from sZ (wn) (F TA y.t.length tc) (F OA y.o.length oc) (O U y.gt) (O U y.sd) (O U y.ms))
    have wI:=jZ (vy.grown (row:=some g9) (gw5 _ g9 (F TA y.t.length tc) (F OA y.o.length oc) (O U y.gt) (O U y.sd) (O U y.ms)) vy.size (by rintro _ ⟨⟩; exact xt))
    have yp:=jZ (ak h1 wn fk (gw5 _ g9 (F TA y.t.length tc) (F OA y.o.length oc) (O U y.gt) (O U y.sd) (O U y.ms)))
    have vU:=jZ (ak h2 wn eV (gw5 _ g9 (F TA y.t.length tc) (F OA y.o.length oc) (O U y.gt) (O U y.sd) (O U y.ms)))
    clear wn
    go_simp
    exact vz _ undef _ rfl ⟨g9,TA,tc,OA,oc,rfl,xt,wb.out,yp.out,vU.out⟩ wI.out nq
   refine aa _ (vp1 8) ?_
   refine au fun vs L9 w4 vI vy hB=>?_
   obtain ⟨gt,TA,tc,OA,oc,yB,yW,Kt,wh,vZ⟩:=hB 10 _ rfl rfl dD
   have dl:=ag.eq (hB 11 _ rfl rfl dD)
   simp only [yB,dl]
   clear hB vI yB dl
   have b4:=b3.trans (vy.mono b3.size)
   cases R with
   | none =>
    have e1:ok=false:=vY.out.symm
    subst e1
    have HE:Hid (bD x ⟨#[98,97,99,107]⟩ ns=none):=hr
    clear hr
    clear Kt K5 xR xo wh vZ HY
    go_wp2_with fail
    go_ret2
    rw [HE.out]
    exact bI.no b4
   | some z =>
   have e1:ok=true:=vY.out.symm
   subst e1
   have e2:z=y:=HY.out
   subst e2
   have xz:=HR.out
   have HE:Hid (bD x ⟨#[98,97,99,107]⟩ ns=some (z,im z.off ⟨3,a0,a1,a2⟩)):=hr
   clear hr
   have wu:=hL.below b4 hL.lt
   have wW:g < gt:=jL hL.lt (jT b3.size yW)
   have wv:W0.heap.size≤w.heap.size:=hb0.size
   obtain ⟨w5,zG,M,b5,gr5,OT⟩:=iM wu (b4.mono wv) hB (F TA z.t.length tc) (F OA z.o.length oc) (O U z.gt) (O U z.sd) (O U z.ms)
   have Mt:=OT _ _ _ oM Kt
   have xd:=ak wh wu ft gr5
   have xe:=ak vZ wu fu gr5
   have BS:Hid (∀ j,j < w.heap.size→j ≠ g→w5.heap[j]?=w.heap[j]?):=fun j hj vJ=>(gr5.block j (jL hj b4.size) (by intro e; injection e with e; exact vJ e)).trans (b4.block j hj)
   have n0c:=l7 gr5 (jL hbN b4.size) Ix (n0w w4 b4)
   have yJ:w.heap.size≤w5.heap.size:=jT b4.size gr5.size
   obtain ⟨z0,z1,z2,z3,z4⟩:=cells5 Kt
   obtain ⟨k0,k1,k2,k3,k4,k5,k6,k7⟩:=cells8 wu
   obtain ⟨f0,f1,f2,f3,f4,f5,f6,f7⟩:=frz8 wu
   go_upto_region 25 with fail
   clear z0 z1 z2 z3 z4 k0 k1 k2 k3 k4 k5 k6 k7 f0 f1 f2 f3 f4 wu gr5 xR xo K5
   rw [zG.out]
   clear zG OT
   have b05:=hb0.trans b5
   have BT:=ht.then b05
   have BU:w.heap.size≤gt:=jT b3.size yW
   have BV:aC w5 w.heap.size gt (F TA z.t.length tc) (F OA z.o.length oc) z:=⟨Mt,BU,xd,xe⟩
   have hat:=aC.at_ BV
   have xQ:=fz xz
   have GZ:bH (z.at TA tc OA oc):=Oc.good_off xQ.1 TA tc OA oc
   have yX:di w5 W0.heap.size g z l:=⟨TA,tc,OA,oc,M,ai xd wv,ai xe wv⟩
   obtain ⟨z0,z1,z2,z3,z4⟩:=cells5 Mt
   obtain ⟨i,hi⟩:=gu (ts:=z.t) (kd:=a0) (of_decide_eq_true (by rw [dL]; exact xQ.2))
   obtain ⟨yf,yb⟩:=gW hi
   have ye:=gP (z.at TA tc OA oc) gt i a0 w5 hat GZ hi yf BT
   have FN:eE z.off a0=qx (bJ (z.t[i]'yf).c) (bJ (aW (bC a0) z.o)):=by
    unfold eE
    rw [if_pos (show (an z.off && aS z.off.t a0)=true from by rw [show an z.off=true from xQ.1]; exact xQ.2)]
    unfold lU
    show qx (bJ (z.t.getD (ax z.t a0).toNat default).c) _=_
    rw [hi,Int.toNat_natCast,eH yf]
    rfl
   go_wp2_with fail
   refine ye.mono ?_
   rintro e W7 ⟨rfl,vB⟩
   go_wp2
   go_ret2
   rw [HE.out]
   exact bI.yes FN (yX.below vB) (b5.trans (vB.mono (jT wv yJ))) (jT yJ vB.size) (fun j hj vJ=>(vB.block j (jL hj yJ)).trans (BS.out j hj vJ))
  ·have hr:bD x ⟨#[98,97,99,107]⟩ ns=none:=by
    rw [H2.out oM]; rw [show bD x ⟨#[98,97,99,107]⟩ [a0,a1]=(cH ⟨#[98,97,99,107]⟩ a0 a1).bind (bW x) from rfl]; unfold cH; rw [if_neg dD,if_neg dD]; rfl
   have HE:Hid (bD x ⟨#[98,97,99,107]⟩ ns=none):=hr
   clear hr
   have Ae:((ns.length:Int) != 3)=true:=by rw [bne_iff_ne]; omega
   obtain ⟨s0,s1,s2,s3⟩:=cells4 K5
   obtain ⟨fs0,fs1,fs2,fs3⟩:=frz4 K5
   have b3:=jZ (b2.setCell (p:=⟨g5,0,none⟩) xw (O U 3))
   clear K5 b2
   go_wp2_with fail
   go_ret2
   rw [HE.out]
   exact bI.no b3.out
 have f2:(s.toList == [98,97,99,107])=false:=bT h2
 by_cases h3:s=⟨#[115,101,108,108]⟩
 ·subst h3
  by_cases hl:ns.length=3
  ·have yn:2 < ns.length:=oM
   have DM:(2:Int) < (ns.length:Int):=oM
   obtain ⟨a2,yL⟩ : ∃ a,ns[2]'yn=a:=⟨_,rfl⟩
   have n2w:∀ W:World,Below w.heap.size w W→W.cell? ⟨bN,off+2,none⟩=some (O U a2):=fun W hb=>by have:=GA.out 2 yn ⟨W,hb⟩; rw [yL] at this; exact this
   have xW:=H3.out hl a2 yL
   have hr:bD x ⟨#[115,101,108,108]⟩ ns=bW x ⟨4,a0,a1,a2⟩:=by
    rw [xW,show bD x ⟨#[115,101,108,108]⟩ [a0,a1,a2]=(dr ⟨#[115,101,108,108]⟩ a0 a1 a2).bind (bW x) from rfl]
    unfold dr
    rw [if_neg dD,if_neg dD,if_pos rfl]; rfl
   clear xW yL
   have Ae:((ns.length:Int) != 3)=false:=by rw [hl]; rfl
   have HL:=jZ hl
   clear hl
   have hc:=fun W hW=>gX x ⟨4,a0,a1,a2⟩ W hW
   obtain ⟨R,hR⟩ : ∃ R,fY x.c ⟨4,a0,a1,a2⟩=R:=⟨_,rfl⟩
   rw [hR] at hc
   unfold bW at hr
   rw [hR] at hr
   obtain ⟨s0,s1,s2,s3⟩:=cells4 K5
   obtain ⟨fs0,fs1,fs2,fs3⟩:=frz4 K5
   have n2c:=n2w w2 b2
   go_upto_region 21 with fail
   have K6:ah ((w2.setCell ⟨g5,0,none⟩ (O U 4)).setCell ⟨g5,3,none⟩ (O U a2)) g5 112 [O U 4,O U a0,O U a1,O U a2]:=((K5.set 0 (O U 4)).set 3 (O U a2))
   have b3:=((b2.setCell (p:=⟨g5,0,none⟩) xw (O U 4)).setCell (p:=⟨g5,3,none⟩) xw (O U a2))
   clear K5 b2 s0 s1 s2 s3 fs0 fs1 fs2 fs3 n2c
   generalize ((w2.setCell ⟨g5,0,none⟩ (O U 4)).setCell ⟨g5,3,none⟩ (O U a2))=w3 at K6 b3 ⊢
   have K5:=K6
   clear K6
   have xR:=hL.below b3 hL.lt
   have xo:=h.up b3 nR
   obtain ⟨y,hy⟩ : ∃ y,cz R=y:=⟨_,rfl⟩
   obtain ⟨ok,vF⟩ : ∃ ok,R.isSome=ok:=⟨_,rfl⟩
   have HR:=jZ hR
   have HY:=jZ hy
   have vY:=jZ vF
   unfold aE at hc
   rw [hy,vF] at hc
   clear hR hy vF
   refine al (fun _=>(fun W9=>Below w3.heap.size w3 W9)) (fun i w1 w2=>i ∉ [10]→Below w1.heap.size w1 w2) kZ kZ kZ jB.drew ?_
   simp only [aw,Act.put,sA,gs0,gs1,Nat.zero_add,Nat.reduceAdd]
   refine aa _ vp0 ?_
   refine aa _ (vp1 0) ?_
   refine aa _ (vp1 1) ?_
   refine aa _ (vp1C5 2 xR) ?_
   refine aa _ (vp0C4 K5) ?_
   refine sm [10] (fun v w9=>∃ TA tc OA oc,v=.tuple #[.agg #[F TA y.t.length tc,F OA y.o.length oc,O U y.gt,O U y.sd,O U y.ms],.bool ok]∧w9.ownsRow w.heap.size 104 2 (F TA y.t.length tc) y.t.length (y.t.flatMap aq.enc)∧w9.ownsRow w.heap.size 147 3 (F OA y.o.length oc) y.o.length (y.o.flatMap ae.enc)) (fun vs L9 w9 vA vy hB K9 vz=>?_) ?_
   next =>
    have d3:=fe hB 3
    have d4:=fe hB 4
    simp only [d3,d4] at vz ⊢
    simp only [Act.put,sA,gs0,gs1] at vz
    go_simp
    refine (hc w9 (xo.then vy)).mono ?_
    rintro en w8 ⟨TA,tc,OA,oc,rfl,h1,h2,vB⟩
    simp only [Oc.at,aO.val]
    exact vz _ _ _ rfl ⟨TA,tc,OA,oc,rfl,ai h1 (jT b3.size vy.size),ai h2 (jT b3.size vy.size)⟩ (vy.trans (vB.mono vy.size)) (fun _=>vB)
   refine pm0 [] 5 (fun u v w9=>v=u∧∃ TA tc OA oc,u=.tuple #[.agg #[F TA y.t.length tc,F OA y.o.length oc,O U y.gt,O U y.sd,O U y.ms],.bool ok]) (fun vs L9 w9 vA vy hB K9 vz=>?_) ?_
   next =>
    obtain ⟨TA,tc,OA,oc,e0,h1,h2⟩:=fs hB 5
    simp only [e0] at vz ⊢
    go_simp
    exact vz _ _ _ rfl ⟨rfl,TA,tc,OA,oc,rfl⟩ vy bR
   refine sm [10] (fun v w9=>∃ TA tc OA oc,v=.agg #[F TA y.t.length tc,F OA y.o.length oc,O U y.gt,O U y.sd,O U y.ms]∧w9.ownsRow w.heap.size 104 2 (F TA y.t.length tc) y.t.length (y.t.flatMap aq.enc)∧w9.ownsRow w.heap.size 147 3 (F OA y.o.length oc) y.o.length (y.o.flatMap ae.enc)) (fun vs L9 w9 vA vy hB K9 vz=>?_) ?_
   next =>
    simp only [Act.put,sA,gs0,gs1] at vz
    obtain ⟨TA,tc,OA,oc,e0,h1,h2⟩:=fs hB 5
    obtain ⟨e6,_⟩:=fs hB 6
    simp only [e6,e0] at vz ⊢
    go_simp
    exact vz _ _ _ rfl ⟨TA,tc,OA,oc,rfl,h1,h2⟩ vy bR
   refine aa (.bool ok) (fun vs L9 w9 vA vy hB K9 vz=>?_) ?_
   next =>
    obtain ⟨e6,TA,tc,OA,oc,e0⟩:=fs hB 6
    simp only [e6,e0] at vz ⊢
    go_simp
    exact vz _ _ rfl vy bR
   refine smz [10] (fun v w9=>∃ g9,v=.pointer (some ⟨g9,0,none⟩)∧w3.heap.size≤g9∧ah w9 g9 40 [F none 0 0,F none 0 0,O U 0,O U 0,O U 0]) (fun vs L9 w9 vA vy hB K9 vz=>?_) ?_
   next =>
    simp only [Act.put,sA,gs0,gs1] at vz
    go_simp
    have vB:=(Below.refl w9.heap.size w9).alloc nR (.cells #[F none 0 0,F none 0 0,O U 0,O U 0,O U 0] 40)
    exact vz _ _ _ rfl ⟨_,rfl,vy.size,ah.new w9 40 #[F none 0 0,F none 0 0,O U 0,O U 0,O U 0]⟩ (vy.trans (vB.mono vy.size)) (fun _=>vB)
   refine pmz [] 9 (fun u _ w9=>∃ g9 TA tc OA oc,u=.pointer (some ⟨g9,0,none⟩)∧w3.heap.size≤g9∧ah w9 g9 40 [F TA y.t.length tc,F OA y.o.length oc,O U y.gt,O U y.sd,O U y.ms]∧w9.ownsRow w.heap.size 104 2 (F TA y.t.length tc) y.t.length (y.t.flatMap aq.enc)∧w9.ownsRow w.heap.size 147 3 (F OA y.o.length oc) y.o.length (y.o.flatMap ae.enc)) (fun vs L9 w9 vA vy hB K9 vz=>?_) ?_
   next =>
    obtain ⟨g9,Aa,xt,wn⟩:=fs hB 9
    simp only [Aa] at vz ⊢
    obtain ⟨TA,tc,OA,oc,e0,h1,h2⟩:=fs hB 7
    simp only [e0] at vz ⊢
    obtain ⟨z0,z1,z2,z3,z4⟩:=cells5 wn
    obtain ⟨f0,f1,f2,f3,f4⟩:=frz5 wn
    have wb:=jZ (show ah _ g9 40 [F TA y.t.length tc,F OA y.o.length oc,O U y.gt,O U y.sd,O U y.ms] from sZ (wn) (F TA y.t.length tc) (F OA y.o.length oc) (O U y.gt) (O U y.sd) (O U y.ms))
    have wI:=jZ (vy.grown (row:=some g9) (gw5 _ g9 (F TA y.t.length tc) (F OA y.o.length oc) (O U y.gt) (O U y.sd) (O U y.ms)) vy.size (by rintro _ ⟨⟩; exact xt))
    have yp:=jZ (ak h1 wn fk (gw5 _ g9 (F TA y.t.length tc) (F OA y.o.length oc) (O U y.gt) (O U y.sd) (O U y.ms)))
    have vU:=jZ (ak h2 wn eV (gw5 _ g9 (F TA y.t.length tc) (F OA y.o.length oc) (O U y.gt) (O U y.sd) (O U y.ms)))
    clear wn
    go_simp
    exact vz _ undef _ rfl ⟨g9,TA,tc,OA,oc,rfl,xt,wb.out,yp.out,vU.out⟩ wI.out nq
   refine aa _ (vp1 8) ?_
   refine au fun vs L9 w4 vI vy hB=>?_
   obtain ⟨gt,TA,tc,OA,oc,yB,yW,Kt,wh,vZ⟩:=hB 10 _ rfl rfl dD
   have dl:=ag.eq (hB 11 _ rfl rfl dD)
   simp only [yB,dl]
   clear hB vI yB dl
   have b4:=b3.trans (vy.mono b3.size)
   cases R with
   | none =>
    have e1:ok=false:=vY.out.symm
    subst e1
    have HE:Hid (bD x ⟨#[115,101,108,108]⟩ ns=none):=hr
    clear hr
    clear Kt K5 xR xo wh vZ HY
    go_wp2_with fail
    go_ret2
    rw [HE.out]
    exact bI.no b4
   | some z =>
   have e1:ok=true:=vY.out.symm
   subst e1
   have e2:z=y:=HY.out
   subst e2
   have xz:=HR.out
   have HE:Hid (bD x ⟨#[115,101,108,108]⟩ ns=some (z,im z.off ⟨4,a0,a1,a2⟩)):=hr
   clear hr
   have wu:=hL.below b4 hL.lt
   have wW:g < gt:=jL hL.lt (jT b3.size yW)
   have wv:W0.heap.size≤w.heap.size:=hb0.size
   obtain ⟨w5,zG,M,b5,gr5,OT⟩:=iM wu (b4.mono wv) hB (F TA z.t.length tc) (F OA z.o.length oc) (O U z.gt) (O U z.sd) (O U z.ms)
   have Mt:=OT _ _ _ oM Kt
   have xd:=ak wh wu ft gr5
   have xe:=ak vZ wu fu gr5
   have BS:Hid (∀ j,j < w.heap.size→j ≠ g→w5.heap[j]?=w.heap[j]?):=fun j hj vJ=>(gr5.block j (jL hj b4.size) (by intro e; injection e with e; exact vJ e)).trans (b4.block j hj)
   have yJ:w.heap.size≤w5.heap.size:=jT b4.size gr5.size
   obtain ⟨z0,z1,z2,z3,z4⟩:=cells5 Kt
   obtain ⟨k0,k1,k2,k3,k4,k5,k6,k7⟩:=cells8 wu
   obtain ⟨f0,f1,f2,f3,f4,f5,f6,f7⟩:=frz8 wu
   go_upto_region 25 with fail
   clear z0 z1 z2 z3 z4 k0 k1 k2 k3 k4 k5 k6 k7 f0 f1 f2 f3 f4 wu gr5 xR xo K5
   rw [zG.out]
   clear zG OT
   have b05:=hb0.trans b5
   have BT:=ht.then b05
   have BU:w.heap.size≤gt:=jT b3.size yW
   have BV:aC w5 w.heap.size gt (F TA z.t.length tc) (F OA z.o.length oc) z:=⟨Mt,BU,xd,xe⟩
   have hat:=aC.at_ BV
   have xQ:=fz xz
   have GZ:bH (z.at TA tc OA oc):=Oc.good_off xQ.1 TA tc OA oc
   have yX:di w5 W0.heap.size g z l:=⟨TA,tc,OA,oc,M,ai xd wv,ai xe wv⟩
   obtain ⟨z0,z1,z2,z3,z4⟩:=cells5 Mt
   have bd:0≤z.sd∧z.sd≤99999:=GZ.s
   have hn:=fun W hW=>dw z.sd W oM oM hW
   clear bd
   go_wp2_with fail
   refine (hn _ BT).mono ?_
   rintro e W7 ⟨rfl,vB⟩
   go_wp2
   go_ret2
   rw [HE.out]
   exact bI.yes rfl (yX.below vB) (b5.trans (vB.mono (jT wv yJ))) (jT yJ vB.size) (fun j hj vJ=>(vB.block j (jL hj yJ)).trans (BS.out j hj vJ))
  ·have hr:bD x ⟨#[115,101,108,108]⟩ ns=none:=by
    rw [H2.out oM]; rw [show bD x ⟨#[115,101,108,108]⟩ [a0,a1]=(cH ⟨#[115,101,108,108]⟩ a0 a1).bind (bW x) from rfl]; unfold cH; rw [if_neg dD,if_neg dD]; rfl
   have HE:Hid (bD x ⟨#[115,101,108,108]⟩ ns=none):=hr
   clear hr
   have Ae:((ns.length:Int) != 3)=true:=by rw [bne_iff_ne]; omega
   obtain ⟨s0,s1,s2,s3⟩:=cells4 K5
   obtain ⟨fs0,fs1,fs2,fs3⟩:=frz4 K5
   have b3:=jZ (b2.setCell (p:=⟨g5,0,none⟩) xw (O U 4))
   clear K5 b2
   go_wp2_with fail
   go_ret2
   rw [HE.out]
   exact bI.no b3.out
 have f3:(s.toList == [115,101,108,108])=false:=bT h3
 by_cases h4:s=⟨#[109,105,115,115]⟩
 ·subst h4
  by_cases hl:ns.length=2
  ·have xW:=H2.out hl
   have hr:bD x ⟨#[109,105,115,115]⟩ ns=bW x ⟨5,a0,a1,0⟩:=by
    rw [xW,show bD x ⟨#[109,105,115,115]⟩ [a0,a1]=(cH ⟨#[109,105,115,115]⟩ a0 a1).bind (bW x) from rfl]
    unfold cH
    rw [if_neg dD,if_pos rfl]; rfl
   clear xW
   have Ae:((ns.length:Int) != 2)=false:=by rw [hl]; rfl
   have HL:=jZ hl
   clear hl
   have hc:=fun W hW=>gX x ⟨5,a0,a1,0⟩ W hW
   obtain ⟨R,hR⟩ : ∃ R,fY x.c ⟨5,a0,a1,0⟩=R:=⟨_,rfl⟩
   rw [hR] at hc
   unfold bW at hr
   rw [hR] at hr
   obtain ⟨s0,s1,s2,s3⟩:=cells4 K5
   obtain ⟨fs0,fs1,fs2,fs3⟩:=frz4 K5
   go_upto_region 21 with fail
   have K6:ah (w2.setCell ⟨g5,0,none⟩ (O U 5)) g5 112 [O U 5,O U a0,O U a1,O U 0]:=(K5.set 0 (O U 5))
   have b3:=(b2.setCell (p:=⟨g5,0,none⟩) xw (O U 5))
   clear K5 b2 s0 s1 s2 s3 fs0 fs1 fs2 fs3
   generalize (w2.setCell ⟨g5,0,none⟩ (O U 5))=w3 at K6 b3 ⊢
   have K5:=K6
   clear K6
   have xR:=hL.below b3 hL.lt
   have xo:=h.up b3 nR
   obtain ⟨y,hy⟩ : ∃ y,cz R=y:=⟨_,rfl⟩
   obtain ⟨ok,vF⟩ : ∃ ok,R.isSome=ok:=⟨_,rfl⟩
   have HR:=jZ hR
   have HY:=jZ hy
   have vY:=jZ vF
   unfold aE at hc
   rw [hy,vF] at hc
   clear hR hy vF
   refine al (fun _=>(fun W9=>Below w3.heap.size w3 W9)) (fun i w1 w2=>i ∉ [10]→Below w1.heap.size w1 w2) kZ kZ kZ jB.drew ?_
   simp only [aw,Act.put,sA,gs0,gs1,Nat.zero_add,Nat.reduceAdd]
   refine aa _ vp0 ?_
   refine aa _ (vp1 0) ?_
   refine aa _ (vp1 1) ?_
   refine aa _ (vp1C5 2 xR) ?_
   refine aa _ (vp0C4 K5) ?_
   refine sm [10] (fun v w9=>∃ TA tc OA oc,v=.tuple #[.agg #[F TA y.t.length tc,F OA y.o.length oc,O U y.gt,O U y.sd,O U y.ms],.bool ok]∧w9.ownsRow w.heap.size 104 2 (F TA y.t.length tc) y.t.length (y.t.flatMap aq.enc)∧w9.ownsRow w.heap.size 147 3 (F OA y.o.length oc) y.o.length (y.o.flatMap ae.enc)) (fun vs L9 w9 vA vy hB K9 vz=>?_) ?_
   next =>
    have d3:=fe hB 3
    have d4:=fe hB 4
    simp only [d3,d4] at vz ⊢
    simp only [Act.put,sA,gs0,gs1] at vz
    go_simp
    refine (hc w9 (xo.then vy)).mono ?_
    rintro en w8 ⟨TA,tc,OA,oc,rfl,h1,h2,vB⟩
    simp only [Oc.at,aO.val]
    exact vz _ _ _ rfl ⟨TA,tc,OA,oc,rfl,ai h1 (jT b3.size vy.size),ai h2 (jT b3.size vy.size)⟩ (vy.trans (vB.mono vy.size)) (fun _=>vB)
   refine pm0 [] 5 (fun u v w9=>v=u∧∃ TA tc OA oc,u=.tuple #[.agg #[F TA y.t.length tc,F OA y.o.length oc,O U y.gt,O U y.sd,O U y.ms],.bool ok]) (fun vs L9 w9 vA vy hB K9 vz=>?_) ?_
   next =>
    obtain ⟨TA,tc,OA,oc,e0,h1,h2⟩:=fs hB 5
    simp only [e0] at vz ⊢
    go_simp
    exact vz _ _ _ rfl ⟨rfl,TA,tc,OA,oc,rfl⟩ vy bR
   refine sm [10] (fun v w9=>∃ TA tc OA oc,v=.agg #[F TA y.t.length tc,F OA y.o.length oc,O U y.gt,O U y.sd,O U y.ms]∧w9.ownsRow w.heap.size 104 2 (F TA y.t.length tc) y.t.length (y.t.flatMap aq.enc)∧w9.ownsRow w.heap.size 147 3 (F OA y.o.length oc) y.o.length (y.o.flatMap ae.enc)) (fun vs L9 w9 vA vy hB K9 vz=>?_) ?_
   next =>
    simp only [Act.put,sA,gs0,gs1] at vz
    obtain ⟨TA,tc,OA,oc,e0,h1,h2⟩:=fs hB 5
    obtain ⟨e6,_⟩:=fs hB 6
    simp only [e6,e0] at vz ⊢
    go_simp
    exact vz _ _ _ rfl ⟨TA,tc,OA,oc,rfl,h1,h2⟩ vy bR
   refine aa (.bool ok) (fun vs L9 w9 vA vy hB K9 vz=>?_) ?_
   next =>
    obtain ⟨e6,TA,tc,OA,oc,e0⟩:=fs hB 6
    simp only [e6,e0] at vz ⊢
    go_simp
    exact vz _ _ rfl vy bR
   refine smz [10] (fun v w9=>∃ g9,v=.pointer (some ⟨g9,0,none⟩)∧w3.heap.size≤g9∧ah w9 g9 40 [F none 0 0,F none 0 0,O U 0,O U 0,O U 0]) (fun vs L9 w9 vA vy hB K9 vz=>?_) ?_
   next =>
    simp only [Act.put,sA,gs0,gs1] at vz
    go_simp
    have vB:=(Below.refl w9.heap.size w9).alloc nR (.cells #[F none 0 0,F none 0 0,O U 0,O U 0,O U 0] 40)
    exact vz _ _ _ rfl ⟨_,rfl,vy.size,ah.new w9 40 #[F none 0 0,F none 0 0,O U 0,O U 0,O U 0]⟩ (vy.trans (vB.mono vy.size)) (fun _=>vB)
   refine pmz [] 9 (fun u _ w9=>∃ g9 TA tc OA oc,u=.pointer (some ⟨g9,0,none⟩)∧w3.heap.size≤g9∧ah w9 g9 40 [F TA y.t.length tc,F OA y.o.length oc,O U y.gt,O U y.sd,O U y.ms]∧w9.ownsRow w.heap.size 104 2 (F TA y.t.length tc) y.t.length (y.t.flatMap aq.enc)∧w9.ownsRow w.heap.size 147 3 (F OA y.o.length oc) y.o.length (y.o.flatMap ae.enc)) (fun vs L9 w9 vA vy hB K9 vz=>?_) ?_
   next =>
    obtain ⟨g9,Aa,xt,wn⟩:=fs hB 9
    simp only [Aa] at vz ⊢
    obtain ⟨TA,tc,OA,oc,e0,h1,h2⟩:=fs hB 7
    simp only [e0] at vz ⊢
    obtain ⟨z0,z1,z2,z3,z4⟩:=cells5 wn
    obtain ⟨f0,f1,f2,f3,f4⟩:=frz5 wn
    have wb:=jZ (show ah _ g9 40 [F TA y.t.length tc,F OA y.o.length oc,O U y.gt,O U y.sd,O U y.ms] from sZ (wn) (F TA y.t.length tc) (F OA y.o.length oc) (O U y.gt) (O U y.sd) (O U y.ms))
    have wI:=jZ (vy.grown (row:=some g9) (gw5 _ g9 (F TA y.t.length tc) (F OA y.o.length oc) (O U y.gt) (O U y.sd) (O U y.ms)) vy.size (by rintro _ ⟨⟩; exact xt))
    have yp:=jZ (ak h1 wn fk (gw5 _ g9 (F TA y.t.length tc) (F OA y.o.length oc) (O U y.gt) (O U y.sd) (O U y.ms)))
    have vU:=jZ (ak h2 wn eV (gw5 _ g9 (F TA y.t.length tc) (F OA y.o.length oc) (O U y.gt) (O U y.sd) (O U y.ms)))
    clear wn
    go_simp
    exact vz _ undef _ rfl ⟨g9,TA,tc,OA,oc,rfl,xt,wb.out,yp.out,vU.out⟩ wI.out nq
   refine aa _ (vp1 8) ?_
   refine au fun vs L9 w4 vI vy hB=>?_
   obtain ⟨gt,TA,tc,OA,oc,yB,yW,Kt,wh,vZ⟩:=hB 10 _ rfl rfl dD
   have dl:=ag.eq (hB 11 _ rfl rfl dD)
   simp only [yB,dl]
   clear hB vI yB dl
   have b4:=b3.trans (vy.mono b3.size)
   cases R with
   | none =>
    have e1:ok=false:=vY.out.symm
    subst e1
    have HE:Hid (bD x ⟨#[109,105,115,115]⟩ ns=none):=hr
    clear hr
    clear Kt K5 xR xo wh vZ HY
    go_wp2_with fail
    go_ret2
    rw [HE.out]
    exact bI.no b4
   | some z =>
   have e1:ok=true:=vY.out.symm
   subst e1
   have e2:z=y:=HY.out
   subst e2
   have xz:=HR.out
   have HE:Hid (bD x ⟨#[109,105,115,115]⟩ ns=some (z,im z.off ⟨5,a0,a1,0⟩)):=hr
   clear hr
   have wu:=hL.below b4 hL.lt
   have wW:g < gt:=jL hL.lt (jT b3.size yW)
   have wv:W0.heap.size≤w.heap.size:=hb0.size
   obtain ⟨w5,zG,M,b5,gr5,OT⟩:=iM wu (b4.mono wv) hB (F TA z.t.length tc) (F OA z.o.length oc) (O U z.gt) (O U z.sd) (O U z.ms)
   have Mt:=OT _ _ _ oM Kt
   have xd:=ak wh wu ft gr5
   have xe:=ak vZ wu fu gr5
   have BS:Hid (∀ j,j < w.heap.size→j ≠ g→w5.heap[j]?=w.heap[j]?):=fun j hj vJ=>(gr5.block j (jL hj b4.size) (by intro e; injection e with e; exact vJ e)).trans (b4.block j hj)
   have yJ:w.heap.size≤w5.heap.size:=jT b4.size gr5.size
   obtain ⟨z0,z1,z2,z3,z4⟩:=cells5 Kt
   obtain ⟨k0,k1,k2,k3,k4,k5,k6,k7⟩:=cells8 wu
   obtain ⟨f0,f1,f2,f3,f4,f5,f6,f7⟩:=frz8 wu
   go_upto_region 25 with fail
   clear z0 z1 z2 z3 z4 k0 k1 k2 k3 k4 k5 k6 k7 f0 f1 f2 f3 f4 wu gr5 xR xo K5
   rw [zG.out]
   clear zG OT
   have b05:=hb0.trans b5
   have BT:=ht.then b05
   have BU:w.heap.size≤gt:=jT b3.size yW
   have BV:aC w5 w.heap.size gt (F TA z.t.length tc) (F OA z.o.length oc) z:=⟨Mt,BU,xd,xe⟩
   have hat:=aC.at_ BV
   have xQ:=fz xz
   have GZ:bH (z.at TA tc OA oc):=Oc.good_off xQ.1 TA tc OA oc
   have yX:di w5 W0.heap.size g z l:=⟨TA,tc,OA,oc,M,ai xd wv,ai xe wv⟩
   obtain ⟨z0,z1,z2,z3,z4⟩:=cells5 Mt
   have bd:0≤z.ms∧z.ms≤99999:=GZ.m
   have hn:=fun W hW=>dw z.ms W oM oM hW
   clear bd
   go_wp2_with fail
   refine (hn _ BT).mono ?_
   rintro e W7 ⟨rfl,vB⟩
   go_wp2
   go_ret2
   rw [HE.out]
   exact bI.yes rfl (yX.below vB) (b5.trans (vB.mono (jT wv yJ))) (jT yJ vB.size) (fun j hj vJ=>(vB.block j (jL hj yJ)).trans (BS.out j hj vJ))
  ·have hr:bD x ⟨#[109,105,115,115]⟩ ns=none:=by
    rw [H3.out oM (ns[2]'oM) rfl]; generalize ns[2]'oM=b2; rw [show bD x ⟨#[109,105,115,115]⟩ [a0,a1,b2]=(dr ⟨#[109,105,115,115]⟩ a0 a1 b2).bind (bW x) from rfl]; unfold dr; rw [if_neg dD,if_neg dD,if_neg dD,if_neg dD]; rfl
   have HE:Hid (bD x ⟨#[109,105,115,115]⟩ ns=none):=hr
   clear hr
   have Ae:((ns.length:Int) != 2)=true:=by rw [bne_iff_ne]; omega
   obtain ⟨s0,s1,s2,s3⟩:=cells4 K5
   obtain ⟨fs0,fs1,fs2,fs3⟩:=frz4 K5
   have b3:=jZ (b2.setCell (p:=⟨g5,0,none⟩) xw (O U 5))
   clear K5 b2
   go_wp2_with fail
   go_ret2
   rw [HE.out]
   exact bI.no b3.out
 have f4:(s.toList == [109,105,115,115])=false:=bT h4
 by_cases h5:s=⟨#[109,111,118,101]⟩
 ·subst h5
  by_cases hl:ns.length=3
  ·have yn:2 < ns.length:=oM
   have DM:(2:Int) < (ns.length:Int):=oM
   obtain ⟨a2,yL⟩ : ∃ a,ns[2]'yn=a:=⟨_,rfl⟩
   have n2w:∀ W:World,Below w.heap.size w W→W.cell? ⟨bN,off+2,none⟩=some (O U a2):=fun W hb=>by have:=GA.out 2 yn ⟨W,hb⟩; rw [yL] at this; exact this
   have xW:=H3.out hl a2 yL
   have hr:bD x ⟨#[109,111,118,101]⟩ ns=bW x ⟨6,a0,a1,a2⟩:=by
    rw [xW,show bD x ⟨#[109,111,118,101]⟩ [a0,a1,a2]=(dr ⟨#[109,111,118,101]⟩ a0 a1 a2).bind (bW x) from rfl]
    unfold dr
    rw [if_neg dD,if_neg dD,if_neg dD,if_pos rfl]; rfl
   clear xW yL
   have Ae:((ns.length:Int) != 3)=false:=by rw [hl]; rfl
   have HL:=jZ hl
   clear hl
   have hc:=fun W hW=>gX x ⟨6,a0,a1,a2⟩ W hW
   obtain ⟨R,hR⟩ : ∃ R,fY x.c ⟨6,a0,a1,a2⟩=R:=⟨_,rfl⟩
   rw [hR] at hc
   unfold bW at hr
   rw [hR] at hr
   obtain ⟨s0,s1,s2,s3⟩:=cells4 K5
   obtain ⟨fs0,fs1,fs2,fs3⟩:=frz4 K5
   have n2c:=n2w w2 b2
   go_upto_region 21 with fail
   have K6:ah ((w2.setCell ⟨g5,0,none⟩ (O U 6)).setCell ⟨g5,3,none⟩ (O U a2)) g5 112 [O U 6,O U a0,O U a1,O U a2]:=((K5.set 0 (O U 6)).set 3 (O U a2))
   have b3:=((b2.setCell (p:=⟨g5,0,none⟩) xw (O U 6)).setCell (p:=⟨g5,3,none⟩) xw (O U a2))
   clear K5 b2 s0 s1 s2 s3 fs0 fs1 fs2 fs3 n2c
   generalize ((w2.setCell ⟨g5,0,none⟩ (O U 6)).setCell ⟨g5,3,none⟩ (O U a2))=w3 at K6 b3 ⊢
   have K5:=K6
   clear K6
   have xR:=hL.below b3 hL.lt
   have xo:=h.up b3 nR
   obtain ⟨y,hy⟩ : ∃ y,cz R=y:=⟨_,rfl⟩
   obtain ⟨ok,vF⟩ : ∃ ok,R.isSome=ok:=⟨_,rfl⟩
   have HR:=jZ hR
   have HY:=jZ hy
   have vY:=jZ vF
   unfold aE at hc
   rw [hy,vF] at hc
   clear hR hy vF
   refine al (fun _=>(fun W9=>Below w3.heap.size w3 W9)) (fun i w1 w2=>i ∉ [10]→Below w1.heap.size w1 w2) kZ kZ kZ jB.drew ?_
   simp only [aw,Act.put,sA,gs0,gs1,Nat.zero_add,Nat.reduceAdd]
   refine aa _ vp0 ?_
   refine aa _ (vp1 0) ?_
   refine aa _ (vp1 1) ?_
   refine aa _ (vp1C5 2 xR) ?_
   refine aa _ (vp0C4 K5) ?_
   refine sm [10] (fun v w9=>∃ TA tc OA oc,v=.tuple #[.agg #[F TA y.t.length tc,F OA y.o.length oc,O U y.gt,O U y.sd,O U y.ms],.bool ok]∧w9.ownsRow w.heap.size 104 2 (F TA y.t.length tc) y.t.length (y.t.flatMap aq.enc)∧w9.ownsRow w.heap.size 147 3 (F OA y.o.length oc) y.o.length (y.o.flatMap ae.enc)) (fun vs L9 w9 vA vy hB K9 vz=>?_) ?_
   next =>
    have d3:=fe hB 3
    have d4:=fe hB 4
    simp only [d3,d4] at vz ⊢
    simp only [Act.put,sA,gs0,gs1] at vz
    go_simp
    refine (hc w9 (xo.then vy)).mono ?_
    rintro en w8 ⟨TA,tc,OA,oc,rfl,h1,h2,vB⟩
    simp only [Oc.at,aO.val]
    exact vz _ _ _ rfl ⟨TA,tc,OA,oc,rfl,ai h1 (jT b3.size vy.size),ai h2 (jT b3.size vy.size)⟩ (vy.trans (vB.mono vy.size)) (fun _=>vB)
   refine pm0 [] 5 (fun u v w9=>v=u∧∃ TA tc OA oc,u=.tuple #[.agg #[F TA y.t.length tc,F OA y.o.length oc,O U y.gt,O U y.sd,O U y.ms],.bool ok]) (fun vs L9 w9 vA vy hB K9 vz=>?_) ?_
   next =>
    obtain ⟨TA,tc,OA,oc,e0,h1,h2⟩:=fs hB 5
    simp only [e0] at vz ⊢
    go_simp
    exact vz _ _ _ rfl ⟨rfl,TA,tc,OA,oc,rfl⟩ vy bR
   refine sm [10] (fun v w9=>∃ TA tc OA oc,v=.agg #[F TA y.t.length tc,F OA y.o.length oc,O U y.gt,O U y.sd,O U y.ms]∧w9.ownsRow w.heap.size 104 2 (F TA y.t.length tc) y.t.length (y.t.flatMap aq.enc)∧w9.ownsRow w.heap.size 147 3 (F OA y.o.length oc) y.o.length (y.o.flatMap ae.enc)) (fun vs L9 w9 vA vy hB K9 vz=>?_) ?_
   next =>
    simp only [Act.put,sA,gs0,gs1] at vz
    obtain ⟨TA,tc,OA,oc,e0,h1,h2⟩:=fs hB 5
    obtain ⟨e6,_⟩:=fs hB 6
    simp only [e6,e0] at vz ⊢
    go_simp
    exact vz _ _ _ rfl ⟨TA,tc,OA,oc,rfl,h1,h2⟩ vy bR
   refine aa (.bool ok) (fun vs L9 w9 vA vy hB K9 vz=>?_) ?_
   next =>
    obtain ⟨e6,TA,tc,OA,oc,e0⟩:=fs hB 6
    simp only [e6,e0] at vz ⊢
    go_simp
    exact vz _ _ rfl vy bR
   refine smz [10] (fun v w9=>∃ g9,v=.pointer (some ⟨g9,0,none⟩)∧w3.heap.size≤g9∧ah w9 g9 40 [F none 0 0,F none 0 0,O U 0,O U 0,O U 0]) (fun vs L9 w9 vA vy hB K9 vz=>?_) ?_
   next =>
    simp only [Act.put,sA,gs0,gs1] at vz
    go_simp
    have vB:=(Below.refl w9.heap.size w9).alloc nR (.cells #[F none 0 0,F none 0 0,O U 0,O U 0,O U 0] 40)
    exact vz _ _ _ rfl ⟨_,rfl,vy.size,ah.new w9 40 #[F none 0 0,F none 0 0,O U 0,O U 0,O U 0]⟩ (vy.trans (vB.mono vy.size)) (fun _=>vB)
   refine pmz [] 9 (fun u _ w9=>∃ g9 TA tc OA oc,u=.pointer (some ⟨g9,0,none⟩)∧w3.heap.size≤g9∧ah w9 g9 40 [F TA y.t.length tc,F OA y.o.length oc,O U y.gt,O U y.sd,O U y.ms]∧w9.ownsRow w.heap.size 104 2 (F TA y.t.length tc) y.t.length (y.t.flatMap aq.enc)∧w9.ownsRow w.heap.size 147 3 (F OA y.o.length oc) y.o.length (y.o.flatMap ae.enc)) (fun vs L9 w9 vA vy hB K9 vz=>?_) ?_
   next =>
    obtain ⟨g9,Aa,xt,wn⟩:=fs hB 9
    simp only [Aa] at vz ⊢
    obtain ⟨TA,tc,OA,oc,e0,h1,h2⟩:=fs hB 7
    simp only [e0] at vz ⊢
    obtain ⟨z0,z1,z2,z3,z4⟩:=cells5 wn
    obtain ⟨f0,f1,f2,f3,f4⟩:=frz5 wn
    have wb:=jZ (show ah _ g9 40 [F TA y.t.length tc,F OA y.o.length oc,O U y.gt,O U y.sd,O U y.ms] from sZ (wn) (F TA y.t.length tc) (F OA y.o.length oc) (O U y.gt) (O U y.sd) (O U y.ms))
    have wI:=jZ (vy.grown (row:=some g9) (gw5 _ g9 (F TA y.t.length tc) (F OA y.o.length oc) (O U y.gt) (O U y.sd) (O U y.ms)) vy.size (by rintro _ ⟨⟩; exact xt))
    have yp:=jZ (ak h1 wn fk (gw5 _ g9 (F TA y.t.length tc) (F OA y.o.length oc) (O U y.gt) (O U y.sd) (O U y.ms)))
    have vU:=jZ (ak h2 wn eV (gw5 _ g9 (F TA y.t.length tc) (F OA y.o.length oc) (O U y.gt) (O U y.sd) (O U y.ms)))
    clear wn
    go_simp
    exact vz _ undef _ rfl ⟨g9,TA,tc,OA,oc,rfl,xt,wb.out,yp.out,vU.out⟩ wI.out nq
   refine aa _ (vp1 8) ?_
   refine au fun vs L9 w4 vI vy hB=>?_
   obtain ⟨gt,TA,tc,OA,oc,yB,yW,Kt,wh,vZ⟩:=hB 10 _ rfl rfl dD
   have dl:=ag.eq (hB 11 _ rfl rfl dD)
   simp only [yB,dl]
   clear hB vI yB dl
   have b4:=b3.trans (vy.mono b3.size)
   cases R with
   | none =>
    have e1:ok=false:=vY.out.symm
    subst e1
    have HE:Hid (bD x ⟨#[109,111,118,101]⟩ ns=none):=hr
    clear hr
    clear Kt K5 xR xo wh vZ HY
    go_wp2_with fail
    go_ret2
    rw [HE.out]
    exact bI.no b4
   | some z =>
   have e1:ok=true:=vY.out.symm
   subst e1
   have e2:z=y:=HY.out
   subst e2
   have xz:=HR.out
   have HE:Hid (bD x ⟨#[109,111,118,101]⟩ ns=some (z,im z.off ⟨6,a0,a1,a2⟩)):=hr
   clear hr
   have wu:=hL.below b4 hL.lt
   have wW:g < gt:=jL hL.lt (jT b3.size yW)
   have wv:W0.heap.size≤w.heap.size:=hb0.size
   obtain ⟨w5,zG,M,b5,gr5,OT⟩:=iM wu (b4.mono wv) hB (F TA z.t.length tc) (F OA z.o.length oc) (O U z.gt) (O U z.sd) (O U z.ms)
   have Mt:=OT _ _ _ oM Kt
   have xd:=ak wh wu ft gr5
   have xe:=ak vZ wu fu gr5
   have BS:Hid (∀ j,j < w.heap.size→j ≠ g→w5.heap[j]?=w.heap[j]?):=fun j hj vJ=>(gr5.block j (jL hj b4.size) (by intro e; injection e with e; exact vJ e)).trans (b4.block j hj)
   have n0c:=l7 gr5 (jL hbN b4.size) Ix (n0w w4 b4)
   have yJ:w.heap.size≤w5.heap.size:=jT b4.size gr5.size
   obtain ⟨z0,z1,z2,z3,z4⟩:=cells5 Kt
   obtain ⟨k0,k1,k2,k3,k4,k5,k6,k7⟩:=cells8 wu
   obtain ⟨f0,f1,f2,f3,f4,f5,f6,f7⟩:=frz8 wu
   go_upto_region 25 with fail
   clear z0 z1 z2 z3 z4 k0 k1 k2 k3 k4 k5 k6 k7 f0 f1 f2 f3 f4 wu gr5 xR xo K5
   rw [zG.out]
   clear zG OT
   have b05:=hb0.trans b5
   have BT:=ht.then b05
   have BU:w.heap.size≤gt:=jT b3.size yW
   have BV:aC w5 w.heap.size gt (F TA z.t.length tc) (F OA z.o.length oc) z:=⟨Mt,BU,xd,xe⟩
   have hat:=aC.at_ BV
   have xQ:=fz xz
   have GZ:bH (z.at TA tc OA oc):=Oc.good_off xQ.1 TA tc OA oc
   have yX:di w5 W0.heap.size g z l:=⟨TA,tc,OA,oc,M,ai xd wv,ai xe wv⟩
   obtain ⟨z0,z1,z2,z3,z4⟩:=cells5 Mt
   obtain ⟨i,hi⟩:=gu (ts:=z.t) (kd:=a0) (of_decide_eq_true (by rw [dL]; exact xQ.2))
   obtain ⟨yf,yb⟩:=gW hi
   have ye:=gP (z.at TA tc OA oc) gt i a0 w5 hat GZ hi yf BT
   have FN:eE z.off a0=qx (bJ (z.t[i]'yf).c) (bJ (aW (bC a0) z.o)):=by
    unfold eE
    rw [if_pos (show (an z.off && aS z.off.t a0)=true from by rw [show an z.off=true from xQ.1]; exact xQ.2)]
    unfold lU
    show qx (bJ (z.t.getD (ax z.t a0).toNat default).c) _=_
    rw [hi,Int.toNat_natCast,eH yf]
    rfl
   go_wp2_with fail
   refine ye.mono ?_
   rintro e W7 ⟨rfl,vB⟩
   go_wp2
   go_ret2
   rw [HE.out]
   exact bI.yes FN (yX.below vB) (b5.trans (vB.mono (jT wv yJ))) (jT yJ vB.size) (fun j hj vJ=>(vB.block j (jL hj yJ)).trans (BS.out j hj vJ))
  ·have hr:bD x ⟨#[109,111,118,101]⟩ ns=none:=by
    rw [H2.out oM]; rw [show bD x ⟨#[109,111,118,101]⟩ [a0,a1]=(cH ⟨#[109,111,118,101]⟩ a0 a1).bind (bW x) from rfl]; unfold cH; rw [if_neg dD,if_neg dD]; rfl
   have HE:Hid (bD x ⟨#[109,111,118,101]⟩ ns=none):=hr
   clear hr
   have Ae:((ns.length:Int) != 3)=true:=by rw [bne_iff_ne]; omega
   obtain ⟨s0,s1,s2,s3⟩:=cells4 K5
   obtain ⟨fs0,fs1,fs2,fs3⟩:=frz4 K5
   have b3:=jZ (b2.setCell (p:=⟨g5,0,none⟩) xw (O U 6))
   clear K5 b2
   go_wp2_with fail
   go_ret2
   rw [HE.out]
   exact bI.no b3.out
 have f5:(s.toList == [109,111,118,101])=false:=bT h5
 have hr:bD x s ns=none:=by
  rcases Nat.lt_or_ge ns.length 3 with hl | hl
  ·rw [H2.out oM,show bD x s [a0,a1]=(cH s a0 a1).bind (bW x) from rfl]; unfold cH; rw [if_neg h0,if_neg h4]; rfl
  ·rw [H3.out oM (ns[2]'oM) rfl]; generalize ns[2]'oM=b2
   rw [show bD x s [a0,a1,b2]=(dr s a0 a1 b2).bind (bW x) from rfl]; unfold dr; rw [if_neg h1,if_neg h2,if_neg h3,if_neg h5]; rfl
 have HE:Hid (bD x s ns=none):=hr
 clear hr h0 h1 h2 h3 h4 h5
 go_wp2_with fail
 go_ret2
 rw [HE.out]
 exact bI.no b2
end Go.Proofs.YtoeoimhemojdeaaGreatDoor
