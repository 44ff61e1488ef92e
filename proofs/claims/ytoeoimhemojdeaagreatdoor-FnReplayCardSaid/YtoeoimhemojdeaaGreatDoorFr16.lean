/- Lemmas. -/
import Derived.Deep.DeepCutAuto
import Derived.Test.YtoeoimhemojdeaaGreatDoorFr15

set_option linter.unusedVariables false
set_option linter.unusedSimpArgs false
set_option maxHeartbeats 8000000
open Go.Value renaming int → O, slice → F, string → xh
open Go.IntKind renaming i64 → U
open Go.Proofs.Tryz renaming prog → xi

namespace Go.Proofs.YtoeoimhemojdeaaGreatDoor
open Go.RowKit
theorem mJ {w w' : World} {g b i:Nat} {v:Value} (gr:w.grownBy w' (some g)) (hb:b < w.heap.size) (xw : ¬ b=g) (h:w.cell? ⟨b,i,none⟩=some v):w'.cell? ⟨b,i,none⟩=some v :=
 (World.cell?_of_block (gr.block b hb (by intro e; injection e with e; exact xw e))).trans h
theorem vQ {ns:List Int} {a0 a1:Int} (hl:ns.length=2) (h0:0 < ns.length) (h1:1 < ns.length) (e0:ns[0]=a0) (e1:ns[1]=a1):ns = [a0,a1]:=by
 subst e0; subst e1
 match ns,hl with
 | [b0,b1],_=>rfl
theorem tf {ns:List Int} {a0 a1 a2:Int} (hl:ns.length=3) (h0:0 < ns.length) (h1:1 < ns.length) (h2:2 < ns.length) (e0:ns[0]=a0) (e1:ns[1]=a1) (e2:ns[2]=a2):ns = [a0,a1,a2]:=by
 subst e0; subst e1; subst e2
 match ns,hl with
 | [b0,b1,b2],_=>rfl
theorem iv (x:aN) (s:de) (w:World) (h:aQ w w.heap.size x):Calls xi 157 #[x.val,s.val] w (aE w (gy x.c s)):=lu x s w h
def bL (w:World) (B g:Nat) (x:aN) (l:Lg) (R:Option (Oc × ByteArray)) (e:Ending) (w' : World):Prop :=
 (R=none∧(∃ s,e=.returned (.tuple #[xh s,.bool false]))∧Below w.heap.size w w') ∨
 ∃ z r,R=some (z,r)∧e=.returned (.tuple #[xh r,.bool true])∧cn w' B g z l∧Below B w w'∧w.heap.size≤w'.heap.size∧(∀ j,j < w.heap.size→j ≠ g→w'.heap[j]?=w.heap[j]?)
theorem bL.no {w w' : World} {B g:Nat} {x:aN} {l:Lg} {s:ByteArray} (hb:Below w.heap.size w w'):bL w B g x l none (.returned (.tuple #[xh s,.bool false])) w':=.inl ⟨rfl,⟨s,rfl⟩,hb⟩
theorem bL.yes {w w' : World} {B g:Nat} {x:aN} {l:Lg} {z:Oc} {r T:ByteArray} (hT:r=T) (h1:cn w' B g z l) (h2:Below B w w') (h3:w.heap.size≤w'.heap.size) (h4:∀ j,j < w.heap.size→j ≠ g→w'.heap[j]?=w.heap[j]?):bL w B g x l (some (z,r)) (.returned (.tuple #[xh T,.bool true])) w':=by
 subst hT; exact .inr ⟨z,r,rfl,rfl,h1,h2,h3,h4⟩
set_option maxRecDepth 100000 in
theorem rQ (x:aN) (l:Lg) (s:ByteArray) (AN:Option Addr) (cN:Nat) (ns:List Int) (Cs:2≤ns.length) (Jc:ns.length≤3) (g:Nat) (W0 w:World) (hL:ai w g 42 [F x.TA x.t.length x.tc,F x.OA x.o.length x.oc,O U x.gt,O U x.sd,O U x.ms,xh l.D,xh l.P,O U l.n]) (hB:W0.heap.size≤g) (hb0:Below W0.heap.size W0 w) (h:aQ w w.heap.size x) (hN:iS w w.heap.size AN ns) (KI:AN.map (·.block) ≠ some g) (ht:jj W0) :
  Calls xi 99 #[.pointer (some ⟨g,0,none⟩),xh s,F AN ns.length cN] w (bL w W0.heap.size g x l (bG x s ns)):=by
 obtain ⟨bN,off,rfl,hbN,hcN⟩:=hN.ints oM
 have KJ : ¬ bN=g:=fun e=>KI (by rw [← e]; rfl)
 have Ee:0 < ns.length:=oM
 have Cq:1 < ns.length:=oM
 obtain ⟨a0,AD⟩ : ∃ a,ns[0]'Ee=a:=⟨_,rfl⟩
 obtain ⟨a1,BL⟩ : ∃ a,ns[1]'Cq=a:=⟨_,rfl⟩
 have c0n:∀ p:aq w.heap.size w,p.val.cell? ⟨bN,off,none⟩=some (O U a0):=fun p=>by have:=hcN 0 Ee p; rw [AD] at this; exact this
 have c1n:∀ p:aq w.heap.size w,p.val.cell? ⟨bN,off+1,none⟩=some (O U a1):=fun p=>by have:=hcN 1 Cq p; rw [BL] at this; exact this
 have NA:(0:Int) < (ns.length:Int):=oM
 have NB:(1:Int) < (ns.length:Int):=oM
 have Ji:=jZ hcN
 clear hcN
 have H2:Hid (∀ (hl:ns.length=2),ns = [a0,a1]):=fun hl=>vQ hl Ee Cq AD BL
 have H3:Hid (∀ (hl:ns.length=3) (a2:Int),ns[2]'oM=a2→ns = [a0,a1,a2]):=fun hl a2 As=>tf hl Ee Cq oM AD BL As
 clear AD BL
 go_enter Tryz.func99,Tryz.ntmps99
 go_upto_region 1 with fail
 refine al (fun _=>(fun W9=>Below w.heap.size w W9)) (fun i w1 w2=>i ∉ [8]→Below w1.heap.size w1 w2) kZ kZ kZ jB.drew ?_
 simp only [ax,Act.put,sA,gs0,gs1,Nat.zero_add,Nat.reduceAdd]
 refine aa _ vp0 ?_
 refine aa _ (vp1 0) ?_
 refine aa _ (vp1s 1 c0n) ?_
 refine aa _ vp0 ?_
 refine aa _ (vp1 3) ?_
 refine aa _ (vp1s 4 c1n) ?_
 refine aa _ (vp2 2 5) ?_
 refine sm [8] (fun v w9=>∃ g9,v=.pointer (some ⟨g9,0,none⟩)∧w.heap.size≤g9∧ai w9 g9 112 [O U 0,O U 0,O U 0,O U 0]) (fun vs L9 w9 xl xj hB K9 xk=>?_) ?_
 next =>
  simp only [Act.put,sA,gs0,gs1] at xk
  go_simp
  have xm:=(Below.refl w9.heap.size w9).alloc nR (.cells #[O U 0,O U 0,O U 0,O U 0] 112)
  exact xk _ _ _ rfl ⟨_,rfl,xj.size,ai.new w9 112 #[O U 0,O U 0,O U 0,O U 0]⟩ (xj.trans (xm.mono xj.size)) (fun _=>xm)
 refine pm [] 7 (fun u _ w9=>∃ g9,u=.pointer (some ⟨g9,0,none⟩)∧w.heap.size≤g9∧ai w9 g9 112 [O U 0,O U a0,O U a1,O U 0]) (fun vs L9 w9 xl xj hB K9 xk=>?_) ?_
 next =>
  have d6:=fe hB 6
  simp only [d6] at xk ⊢
  obtain ⟨g9,BW,yY,xS⟩:=fs hB 7
  simp only [BW] at xk ⊢
  obtain ⟨z0,z1,z2,z3⟩:=cells4 xS
  obtain ⟨f0,f1,f2,f3⟩:=frz4 xS
  have xO:=jZ (show ai _ g9 112 [O U 0,O U a0,O U a1,O U 0] from ((((xS.set 0 (O U 0)).set 1 (O U a0)).set 2 (O U a1)).set 3 (O U 0)))
  have yl:=jZ (xj.grown (row:=some g9) (ab (g:=g9) (i:=3) (u:=O U 0) (ab (g:=g9) (i:=2) (u:=O U a1) (ab (g:=g9) (i:=1) (u:=O U a0) (ab (g:=g9) (i:=0) (u:=O U 0) jG)))) xj.size (by rintro _ ⟨⟩; exact yY))
  clear xS
  go_simp
  exact xk _ undef _ rfl ⟨g9,rfl,yY,xO.out⟩ yl.out nq
 refine au fun vs L9 w2 xv b2 hB=>?_
 obtain ⟨g5,Ab,y5,K5⟩:=hB 8 _ rfl rfl dD
 simp only [Ab]
 clear hB xv Ab
 have n0w:∀ W:World,Below w.heap.size w W→W.cell? ⟨bN,off,none⟩=some (O U a0):=fun W hb=>c0n ⟨W,hb⟩
 have n1w:∀ W:World,Below w.heap.size w W→W.cell? ⟨bN,off+1,none⟩=some (O U a1):=fun W hb=>c1n ⟨W,hb⟩
 have hneN : ¬ bN=g5:=oM
 have hneN2 : ¬ g5=bN:=oM
 clear c0n c1n
 by_cases h0:s=⟨#[103,101,116]⟩
 ·subst h0
  by_cases hl:ns.length=2
  ·have zy:=H2.out hl
   have hr:bG x ⟨#[103,101,116]⟩ ns=cc x ⟨1,a0,0,a1⟩:=by
    rw [zy,show bG x ⟨#[103,101,116]⟩ [a0,a1]=(cZ ⟨#[103,101,116]⟩ a0 a1).bind (cc x) from rfl]
    unfold cZ
    rw [if_pos rfl]; rfl
   clear zy
   have Ca:((ns.length:Int) != 2)=false:=by rw [hl]; rfl
   have HL:=jZ hl
   clear hl
   have hc:=fun W hW=>iv x ⟨1,a0,0,a1⟩ W hW
   obtain ⟨R,hR⟩ : ∃ R,gy x.c ⟨1,a0,0,a1⟩=R:=⟨_,rfl⟩
   rw [hR] at hc
   unfold cc at hr
   rw [hR] at hr
   go_upto_region 6 with fail
   refine al (Sw 7 (fun W9=>Below w2.heap.size w2 W9) (fun W9=>Below w.heap.size w W9∧ai W9 g5 112 [O U 1,O U a0,O U 0,O U a1])) (fun i w1 w2=>i ∉ [7]→Below w1.heap.size w1 w2) kZ kZ kZ (Sw.start jB.drew) ?_
   simp only [ax,Act.put,sA,gs0,gs1,Nat.zero_add,Nat.reduceAdd]
   refine aa _ vb0 ?_
   refine aa _ (vb1 0) ?_
   apply aa
   case h1 =>
    intro vs L9 w9 xl xj hB K9 xk
    replace xj:=sb xj xl
    have d1:=fe hB 1
    simp only [d1] at xk ⊢
    have q0:w9.cell? ⟨bN,off,none⟩=some (O U a0):=n0w w9 (b2.trans (xj.mono b2.size))
    simp only [Act.put,sA,gs0,gs1] at xk
    go_simp
    exact xk _ _ rfl (sy xl xj) bR
   refine aa _ vb0 ?_
   refine aa _ (vb1 3) ?_
   apply aa
   case h1 =>
    intro vs L9 w9 xl xj hB K9 xk
    replace xj:=sb xj xl
    have d4:=fe hB 4
    simp only [d4] at xk ⊢
    have q0:w9.cell? ⟨bN,off+1,none⟩=some (O U a1):=n1w w9 (b2.trans (xj.mono b2.size))
    simp only [Act.put,sA,gs0,gs1] at xk
    go_simp
    exact xk _ _ rfl (sy xl xj) bR
   refine aa _ (vb2 2 5) ?_
   refine aa (undef) (fun vs L9 w9 xl xj hB K9 xk=>?_) ?_
   next =>
    replace xj:=xj.here xl
    have d6:=fe hB 6
    simp only [d6] at xk ⊢
    have Lr:=K5.below xj K5.lt
    obtain ⟨z0,z1,z2,z3⟩:=cells4 Lr
    obtain ⟨f0,f1,f2,f3⟩:=frz4 Lr
    have xO:=jZ (show ai _ g5 112 [O U 1,O U a0,O U 0,O U a1] from xg (Lr) (O U 1) (O U a0) (O U 0) (O U a1))
    have yl:=jZ (wT (g:=g5) (b2.trans (xj.mono b2.size)) y5 (O U 1) (O U a0) (O U 0) (O U a1))
    clear Lr
    go_simp
    exact xk _ _ rfl (Sw.turn ⟨yl.out,xO.out⟩) nq
   refine aa _ va0 ?_
   refine au fun vs L9 w9 xv xj hB=>?_
   replace xj:=xj.done xv dD
   have dl:=ah.eq (hB 8 _ rfl rfl dD)
   simp only [dl]
   clear hB dl b2 K5
   obtain ⟨b3,K5⟩:=xj
   go_upto_region 21 with fail
   generalize w9=w3 at b3 K5 ⊢
   have zd:=hL.below b3 hL.lt
   have yU:=h.up b3 nR
   obtain ⟨y,hy⟩ : ∃ y,cQ R=y:=⟨_,rfl⟩
   obtain ⟨ok,xq⟩ : ∃ ok,R.isSome=ok:=⟨_,rfl⟩
   have HR:=jZ hR
   have HY:=jZ hy
   have xF:=jZ xq
   unfold aE at hc
   rw [hy,xq] at hc
   clear hR hy xq
   refine al (fun _=>(fun W9=>Below w3.heap.size w3 W9)) (fun i w1 w2=>i ∉ [10]→Below w1.heap.size w1 w2) kZ kZ kZ jB.drew ?_
   simp only [ax,Act.put,sA,gs0,gs1,Nat.zero_add,Nat.reduceAdd]
   refine aa _ vp0 ?_
   refine aa _ (vp1 0) ?_
   refine aa _ (vp1 1) ?_
   refine aa _ (vp1C5 2 zd) ?_
   refine aa _ (vp0C4 K5) ?_
   refine sm [10] (fun v w9=>∃ TA tc OA oc,v=.tuple #[.agg #[F TA y.t.length tc,F OA y.o.length oc,O U y.gt,O U y.sd,O U y.ms],.bool ok]∧w9.ownsRow w.heap.size 104 2 (F TA y.t.length tc) y.t.length (y.t.flatMap ar.enc)∧w9.ownsRow w.heap.size 147 3 (F OA y.o.length oc) y.o.length (y.o.flatMap ae.enc)) (fun vs L9 w9 xl xj hB K9 xk=>?_) ?_
   next =>
    have d3:=fe hB 3
    have d4:=fe hB 4
    simp only [d3,d4] at xk ⊢
    simp only [Act.put,sA,gs0,gs1] at xk
    go_simp
    refine (hc w9 (yU.then xj)).mono ?_
    rintro en w8 ⟨TA,tc,OA,oc,rfl,h1,h2,xm⟩
    simp only [Oc.at,aN.val]
    exact xk _ _ _ rfl ⟨TA,tc,OA,oc,rfl,ag h1 (jT b3.size xj.size),ag h2 (jT b3.size xj.size)⟩ (xj.trans (xm.mono xj.size)) (fun _=>xm)
   refine pm0 [] 5 (fun u v w9=>v=u∧∃ TA tc OA oc,u=.tuple #[.agg #[F TA y.t.length tc,F OA y.o.length oc,O U y.gt,O U y.sd,O U y.ms],.bool ok]) (fun vs L9 w9 xl xj hB K9 xk=>?_) ?_
   next =>
    obtain ⟨TA,tc,OA,oc,e0,h1,h2⟩:=fs hB 5
    simp only [e0] at xk ⊢
    go_simp
    exact xk _ _ _ rfl ⟨rfl,TA,tc,OA,oc,rfl⟩ xj bR
   refine sm [10] (fun v w9=>∃ TA tc OA oc,v=.agg #[F TA y.t.length tc,F OA y.o.length oc,O U y.gt,O U y.sd,O U y.ms]∧w9.ownsRow w.heap.size 104 2 (F TA y.t.length tc) y.t.length (y.t.flatMap ar.enc)∧w9.ownsRow w.heap.size 147 3 (F OA y.o.length oc) y.o.length (y.o.flatMap ae.enc)) (fun vs L9 w9 xl xj hB K9 xk=>?_) ?_
   next =>
    simp only [Act.put,sA,gs0,gs1] at xk
    obtain ⟨TA,tc,OA,oc,e0,h1,h2⟩:=fs hB 5
    obtain ⟨e6,_⟩:=fs hB 6
    simp only [e6,e0] at xk ⊢
    go_simp
    exact xk _ _ _ rfl ⟨TA,tc,OA,oc,rfl,h1,h2⟩ xj bR
   refine aa (.bool ok) (fun vs L9 w9 xl xj hB K9 xk=>?_) ?_
   next =>
    obtain ⟨e6,TA,tc,OA,oc,e0⟩:=fs hB 6
    simp only [e6,e0] at xk ⊢
    go_simp
    exact xk _ _ rfl xj bR
   refine sm [10] (fun v w9=>∃ g9,v=.pointer (some ⟨g9,0,none⟩)∧w3.heap.size≤g9∧ai w9 g9 40 [F none 0 0,F none 0 0,O U 0,O U 0,O U 0]) (fun vs L9 w9 xl xj hB K9 xk=>?_) ?_
   next =>
    simp only [Act.put,sA,gs0,gs1] at xk
    go_simp
    have xm:=(Below.refl w9.heap.size w9).alloc nR (.cells #[F none 0 0,F none 0 0,O U 0,O U 0,O U 0] 40)
    exact xk _ _ _ rfl ⟨_,rfl,xj.size,ai.new w9 40 #[F none 0 0,F none 0 0,O U 0,O U 0,O U 0]⟩ (xj.trans (xm.mono xj.size)) (fun _=>xm)
   refine pm [] 9 (fun u _ w9=>∃ g9 TA tc OA oc,u=.pointer (some ⟨g9,0,none⟩)∧w3.heap.size≤g9∧ai w9 g9 40 [F TA y.t.length tc,F OA y.o.length oc,O U y.gt,O U y.sd,O U y.ms]∧w9.ownsRow w.heap.size 104 2 (F TA y.t.length tc) y.t.length (y.t.flatMap ar.enc)∧w9.ownsRow w.heap.size 147 3 (F OA y.o.length oc) y.o.length (y.o.flatMap ae.enc)) (fun vs L9 w9 xl xj hB K9 xk=>?_) ?_
   next =>
    obtain ⟨g9,BW,yY,xS⟩:=fs hB 9
    simp only [BW] at xk ⊢
    obtain ⟨TA,tc,OA,oc,e0,h1,h2⟩:=fs hB 7
    simp only [e0] at xk ⊢
    obtain ⟨z0,z1,z2,z3,z4⟩:=cells5 xS
    obtain ⟨f0,f1,f2,f3,f4⟩:=frz5 xS
    have xO:=jZ (show ai _ g9 40 [F TA y.t.length tc,F OA y.o.length oc,O U y.gt,O U y.sd,O U y.ms] from uG (xS) (F TA y.t.length tc) (F OA y.o.length oc) (O U y.gt) (O U y.sd) (O U y.ms))
    have yl:=jZ (xj.grown (row:=some g9) (gw5 _ g9 (F TA y.t.length tc) (F OA y.o.length oc) (O U y.gt) (O U y.sd) (O U y.ms)) xj.size (by rintro _ ⟨⟩; exact yY))
    have zA:=jZ (ak h1 xS fB (gw5 _ g9 (F TA y.t.length tc) (F OA y.o.length oc) (O U y.gt) (O U y.sd) (O U y.ms)))
    have xI:=jZ (ak h2 xS fj (gw5 _ g9 (F TA y.t.length tc) (F OA y.o.length oc) (O U y.gt) (O U y.sd) (O U y.ms)))
    clear xS
    go_simp
    exact xk _ undef _ rfl ⟨g9,TA,tc,OA,oc,rfl,yY,xO.out,zA.out,xI.out⟩ yl.out nq
   refine aa _ (vp1 8) ?_
   refine au fun vs L9 w4 xv xj hB=>?_
   obtain ⟨gt,TA,tc,OA,oc,Ab,AJ,Kt,xQ,xL⟩:=hB 10 _ rfl rfl dD
   have dl:=ah.eq (hB 11 _ rfl rfl dD)
   simp only [Ab,dl]
   clear hB xv Ab dl
   have b4:=b3.trans (xj.mono b3.size)
   cases R with
   | none =>
    have e1:ok=false:=xF.out.symm
    subst e1
    have HE:Hid (bG x ⟨#[103,101,116]⟩ ns=none):=hr
    clear hr
    clear Kt K5 zd yU xQ xL HY
    go_wp2_with fail
    go_ret2
    rw [HE.out]
    exact bL.no b4
   | some z =>
   have e1:ok=true:=xF.out.symm
   subst e1
   have e2:z=y:=HY.out
   subst e2
   have y8:=HR.out
   have HE:Hid (bG x ⟨#[103,101,116]⟩ ns=some (z,iK z.off ⟨1,a0,0,a1⟩)):=hr
   clear hr
   have yb:=hL.below b4 hL.lt
   have yF:g < gt:=jL hL.lt (jT b3.size AJ)
   have yd:W0.heap.size≤w.heap.size:=hb0.size
   obtain ⟨w5,AZ,M,b5,gr5,OT⟩:=jh yb (b4.mono yd) hB (F TA z.t.length tc) (F OA z.o.length oc) (O U z.gt) (O U z.sd) (O U z.ms)
   have Mt:=OT _ _ _ oM Kt
   have yK:=ak xQ yb eZ gr5
   have yL:=ak xL yb fa gr5
   have CN:Hid (∀ j,j < w.heap.size→j ≠ g→w5.heap[j]?=w.heap[j]?):=fun j hj xw=>(gr5.block j (jL hj b4.size) (by intro e; injection e with e; exact xw e)).trans (b4.block j hj)
   have Ao:w.heap.size≤w5.heap.size:=jT b4.size gr5.size
   obtain ⟨z0,z1,z2,z3,z4⟩:=cells5 Kt
   obtain ⟨k0,k1,k2,k3,k4,k5,k6,k7⟩:=cells8 yb
   obtain ⟨f0,f1,f2,f3,f4,f5,f6,f7⟩:=frz8 yb
   go_upto_region 25 with fail
   clear z0 z1 z2 z3 z4 k0 k1 k2 k3 k4 k5 k6 k7 f0 f1 f2 f3 f4 yb gr5 zd yU K5
   rw [AZ.out]
   clear AZ OT
   have b05:=hb0.trans b5
   have DI:=ht.then b05
   have DJ:w.heap.size≤gt:=jT b3.size AJ
   have DK:aC w5 w.heap.size gt (F TA z.t.length tc) (F OA z.o.length oc) z:=⟨Mt,DJ,yK,yL⟩
   have hat:=aC.at_ DK
   have yT:=fL y8
   have GZ:bK (z.at TA tc OA oc):=Oc.good_off yT.1 TA tc OA oc
   have AK:cn w5 W0.heap.size g z l:=⟨TA,tc,OA,oc,M,ag yK yd,ag yL yd⟩
   obtain ⟨z0,z1,z2,z3,z4⟩:=cells5 Mt
   have bd:=GZ.inB
   have zG:=jI (z.at TA tc OA oc) gt w5 hat GZ.tl GZ.tall
   have hn:=fun W hW=>dE (cF z.t) W (by have e:(z.at TA tc OA oc).t=z.t:=rfl; rw [e] at bd; omega) (by have e:(z.at TA tc OA oc).t=z.t:=rfl; rw [e] at bd; omega) hW
   clear bd
   go_wp2_with fail
   refine zG.mono ?_
   rintro e W6 ⟨rfl,xT⟩
   go_wp2_with fail
   refine (hn _ (DI.then xT)).mono ?_
   rintro e W7 ⟨rfl,yX⟩
   have xm:=av xT yX
   go_wp2
   go_ret2
   rw [HE.out]
   exact bL.yes rfl (AK.below xm) (b5.trans (xm.mono (jT yd Ao))) (jT Ao xm.size) (fun j hj xw=>(xm.block j (jL hj Ao)).trans (CN.out j hj xw))
  ·have hr:bG x ⟨#[103,101,116]⟩ ns=none:=by
    rw [H3.out oM (ns[2]'oM) rfl]; generalize ns[2]'oM=b2; rw [show bG x ⟨#[103,101,116]⟩ [a0,a1,b2]=(dA ⟨#[103,101,116]⟩ a0 a1 b2).bind (cc x) from rfl]; unfold dA; rw [if_neg dD,if_neg dD,if_neg dD,if_neg dD]; rfl
   have HE:Hid (bG x ⟨#[103,101,116]⟩ ns=none):=hr
   clear hr
   have Ca:((ns.length:Int) != 2)=true:=by rw [bne_iff_ne]; omega
   go_upto_region 6 with fail
   refine al (Sw 7 (fun W9=>Below w2.heap.size w2 W9) (fun W9=>Below w.heap.size w W9)) (fun i w1 w2=>i ∉ [7]→Below w1.heap.size w1 w2) kZ kZ kZ (Sw.start jB.drew) ?_
   simp only [ax,Act.put,sA,gs0,gs1,Nat.zero_add,Nat.reduceAdd]
   refine aa _ vb0 ?_
   refine aa _ (vb1 0) ?_
   apply aa
   case h1 =>
    intro vs L9 w9 xl xj hB K9 xk
    replace xj:=sb xj xl
    have d1:=fe hB 1
    simp only [d1] at xk ⊢
    have q0:w9.cell? ⟨bN,off,none⟩=some (O U a0):=n0w w9 (b2.trans (xj.mono b2.size))
    simp only [Act.put,sA,gs0,gs1] at xk
    go_simp
    exact xk _ _ rfl (sy xl xj) bR
   refine aa _ vb0 ?_
   refine aa _ (vb1 3) ?_
   apply aa
   case h1 =>
    intro vs L9 w9 xl xj hB K9 xk
    replace xj:=sb xj xl
    have d4:=fe hB 4
    simp only [d4] at xk ⊢
    have q0:w9.cell? ⟨bN,off+1,none⟩=some (O U a1):=n1w w9 (b2.trans (xj.mono b2.size))
    simp only [Act.put,sA,gs0,gs1] at xk
    go_simp
    exact xk _ _ rfl (sy xl xj) bR
   refine aa _ (vb2 2 5) ?_
   refine aa (undef) (fun vs L9 w9 xl xj hB K9 xk=>?_) ?_
   next =>
    replace xj:=xj.here xl
    have d6:=fe hB 6
    simp only [d6] at xk ⊢
    have Lr:=K5.below xj K5.lt
    obtain ⟨z0,z1,z2,z3⟩:=cells4 Lr
    obtain ⟨f0,f1,f2,f3⟩:=frz4 Lr
    have yl:=jZ (wT (g:=g5) (b2.trans (xj.mono b2.size)) y5 (O U 1) (O U a0) (O U 0) (O U a1))
    clear Lr
    go_simp
    exact xk _ _ rfl (Sw.turn yl.out) nq
   refine aa _ va0 ?_
   refine au fun vs L9 w9 xv xj hB=>?_
   replace xj:=xj.done xv dD
   have dl:=ah.eq (hB 8 _ rfl rfl dD)
   simp only [dl]
   clear hB dl b2 K5
   go_wp2_with fail
   go_ret2
   rw [HE.out]
   exact bL.no xj
 have f0:(s.toList == [103,101,116])=false:=bW h0
 by_cases h1:s=⟨#[115,104,111,119]⟩
 ·subst h1
  by_cases hl:ns.length=3
  ·have yZ:2 < ns.length:=oM
   have FM:(2:Int) < (ns.length:Int):=oM
   obtain ⟨a2,As⟩ : ∃ a,ns[2]'yZ=a:=⟨_,rfl⟩
   have n2w:∀ W:World,Below w.heap.size w W→W.cell? ⟨bN,off+2,none⟩=some (O U a2):=fun W hb=>by have:=Ji.out 2 yZ ⟨W,hb⟩; rw [As] at this; exact this
   have zy:=H3.out hl a2 As
   have hr:bG x ⟨#[115,104,111,119]⟩ ns=cc x ⟨2,a0,a1,a2⟩:=by
    rw [zy,show bG x ⟨#[115,104,111,119]⟩ [a0,a1,a2]=(dA ⟨#[115,104,111,119]⟩ a0 a1 a2).bind (cc x) from rfl]
    unfold dA
    rw [if_pos rfl]; rfl
   clear zy As
   have Ca:((ns.length:Int) != 3)=false:=by rw [hl]; rfl
   have HL:=jZ hl
   clear hl
   have hc:=fun W hW=>iv x ⟨2,a0,a1,a2⟩ W hW
   obtain ⟨R,hR⟩ : ∃ R,gy x.c ⟨2,a0,a1,a2⟩=R:=⟨_,rfl⟩
   rw [hR] at hc
   unfold cc at hr
   rw [hR] at hr
   obtain ⟨s0,s1,s2,s3⟩:=cells4 K5
   obtain ⟨fs0,fs1,fs2,fs3⟩:=frz4 K5
   have n2c:=n2w w2 b2
   go_upto_region 21 with fail
   have K6:ai ((w2.setCell ⟨g5,0,none⟩ (O U 2)).setCell ⟨g5,3,none⟩ (O U a2)) g5 112 [O U 2,O U a0,O U a1,O U a2]:=((K5.set 0 (O U 2)).set 3 (O U a2))
   have b3:=((b2.setCell (p:=⟨g5,0,none⟩) y5 (O U 2)).setCell (p:=⟨g5,3,none⟩) y5 (O U a2))
   clear K5 b2 s0 s1 s2 s3 fs0 fs1 fs2 fs3 n2c
   generalize ((w2.setCell ⟨g5,0,none⟩ (O U 2)).setCell ⟨g5,3,none⟩ (O U a2))=w3 at K6 b3 ⊢
   have K5:=K6
   clear K6
   have zd:=hL.below b3 hL.lt
   have yU:=h.up b3 nR
   obtain ⟨y,hy⟩ : ∃ y,cQ R=y:=⟨_,rfl⟩
   obtain ⟨ok,xq⟩ : ∃ ok,R.isSome=ok:=⟨_,rfl⟩
   have HR:=jZ hR
   have HY:=jZ hy
   have xF:=jZ xq
   unfold aE at hc
   rw [hy,xq] at hc
   clear hR hy xq
   refine al (fun _=>(fun W9=>Below w3.heap.size w3 W9)) (fun i w1 w2=>i ∉ [10]→Below w1.heap.size w1 w2) kZ kZ kZ jB.drew ?_
   simp only [ax,Act.put,sA,gs0,gs1,Nat.zero_add,Nat.reduceAdd]
   refine aa _ vp0 ?_
   refine aa _ (vp1 0) ?_
   refine aa _ (vp1 1) ?_
   refine aa _ (vp1C5 2 zd) ?_
   refine aa _ (vp0C4 K5) ?_
   refine sm [10] (fun v w9=>∃ TA tc OA oc,v=.tuple #[.agg #[F TA y.t.length tc,F OA y.o.length oc,O U y.gt,O U y.sd,O U y.ms],.bool ok]∧w9.ownsRow w.heap.size 104 2 (F TA y.t.length tc) y.t.length (y.t.flatMap ar.enc)∧w9.ownsRow w.heap.size 147 3 (F OA y.o.length oc) y.o.length (y.o.flatMap ae.enc)) (fun vs L9 w9 xl xj hB K9 xk=>?_) ?_
   next =>
    have d3:=fe hB 3
    have d4:=fe hB 4
    simp only [d3,d4] at xk ⊢
    simp only [Act.put,sA,gs0,gs1] at xk
    go_simp
    refine (hc w9 (yU.then xj)).mono ?_
    rintro en w8 ⟨TA,tc,OA,oc,rfl,h1,h2,xm⟩
    simp only [Oc.at,aN.val]
    exact xk _ _ _ rfl ⟨TA,tc,OA,oc,rfl,ag h1 (jT b3.size xj.size),ag h2 (jT b3.size xj.size)⟩ (xj.trans (xm.mono xj.size)) (fun _=>xm)
   refine pm0 [] 5 (fun u v w9=>v=u∧∃ TA tc OA oc,u=.tuple #[.agg #[F TA y.t.length tc,F OA y.o.length oc,O U y.gt,O U y.sd,O U y.ms],.bool ok]) (fun vs L9 w9 xl xj hB K9 xk=>?_) ?_
   next =>
    obtain ⟨TA,tc,OA,oc,e0,h1,h2⟩:=fs hB 5
    simp only [e0] at xk ⊢
    go_simp
    exact xk _ _ _ rfl ⟨rfl,TA,tc,OA,oc,rfl⟩ xj bR
   refine sm [10] (fun v w9=>∃ TA tc OA oc,v=.agg #[F TA y.t.length tc,F OA y.o.length oc,O U y.gt,O U y.sd,O U y.ms]∧w9.ownsRow w.heap.size 104 2 (F TA y.t.length tc) y.t.length (y.t.flatMap ar.enc)∧w9.ownsRow w.heap.size 147 3 (F OA y.o.length oc) y.o.length (y.o.flatMap ae.enc)) (fun vs L9 w9 xl xj hB K9 xk=>?_) ?_
   next =>
    simp only [Act.put,sA,gs0,gs1] at xk
    obtain ⟨TA,tc,OA,oc,e0,h1,h2⟩:=fs hB 5
    obtain ⟨e6,_⟩:=fs hB 6
    simp only [e6,e0] at xk ⊢
    go_simp
    exact xk _ _ _ rfl ⟨TA,tc,OA,oc,rfl,h1,h2⟩ xj bR
   refine aa (.bool ok) (fun vs L9 w9 xl xj hB K9 xk=>?_) ?_
   next =>
    obtain ⟨e6,TA,tc,OA,oc,e0⟩:=fs hB 6
    simp only [e6,e0] at xk ⊢
    go_simp
    exact xk _ _ rfl xj bR
   refine sm [10] (fun v w9=>∃ g9,v=.pointer (some ⟨g9,0,none⟩)∧w3.heap.size≤g9∧ai w9 g9 40 [F none 0 0,F none 0 0,O U 0,O U 0,O U 0]) (fun vs L9 w9 xl xj hB K9 xk=>?_) ?_
   next =>
    simp only [Act.put,sA,gs0,gs1] at xk
    go_simp
    have xm:=(Below.refl w9.heap.size w9).alloc nR (.cells #[F none 0 0,F none 0 0,O U 0,O U 0,O U 0] 40)
    exact xk _ _ _ rfl ⟨_,rfl,xj.size,ai.new w9 40 #[F none 0 0,F none 0 0,O U 0,O U 0,O U 0]⟩ (xj.trans (xm.mono xj.size)) (fun _=>xm)
   refine pm [] 9 (fun u _ w9=>∃ g9 TA tc OA oc,u=.pointer (some ⟨g9,0,none⟩)∧w3.heap.size≤g9∧ai w9 g9 40 [F TA y.t.length tc,F OA y.o.length oc,O U y.gt,O U y.sd,O U y.ms]∧w9.ownsRow w.heap.size 104 2 (F TA y.t.length tc) y.t.length (y.t.flatMap ar.enc)∧w9.ownsRow w.heap.size 147 3 (F OA y.o.length oc) y.o.length (y.o.flatMap ae.enc)) (fun vs L9 w9 xl xj hB K9 xk=>?_) ?_
   next =>
    obtain ⟨g9,BW,yY,xS⟩:=fs hB 9
    simp only [BW] at xk ⊢
    obtain ⟨TA,tc,OA,oc,e0,h1,h2⟩:=fs hB 7
    simp only [e0] at xk ⊢
    obtain ⟨z0,z1,z2,z3,z4⟩:=cells5 xS
    obtain ⟨f0,f1,f2,f3,f4⟩:=frz5 xS
    have xO:=jZ (show ai _ g9 40 [F TA y.t.length tc,F OA y.o.length oc,O U y.gt,O U y.sd,O U y.ms] from uG (xS) (F TA y.t.length tc) (F OA y.o.length oc) (O U y.gt) (O U y.sd) (O U y.ms))
    have yl:=jZ (xj.grown (row:=some g9) (gw5 _ g9 (F TA y.t.length tc) (F OA y.o.length oc) (O U y.gt) (O U y.sd) (O U y.ms)) xj.size (by rintro _ ⟨⟩; exact yY))
    have zA:=jZ (ak h1 xS fB (gw5 _ g9 (F TA y.t.length tc) (F OA y.o.length oc) (O U y.gt) (O U y.sd) (O U y.ms)))
    have xI:=jZ (ak h2 xS fj (gw5 _ g9 (F TA y.t.length tc) (F OA y.o.length oc) (O U y.gt) (O U y.sd) (O U y.ms)))
    clear xS
    go_simp
    exact xk _ undef _ rfl ⟨g9,TA,tc,OA,oc,rfl,yY,xO.out,zA.out,xI.out⟩ yl.out nq
   refine aa _ (vp1 8) ?_
   refine au fun vs L9 w4 xv xj hB=>?_
   obtain ⟨gt,TA,tc,OA,oc,Ab,AJ,Kt,xQ,xL⟩:=hB 10 _ rfl rfl dD
   have dl:=ah.eq (hB 11 _ rfl rfl dD)
   simp only [Ab,dl]
   clear hB xv Ab dl
   have b4:=b3.trans (xj.mono b3.size)
   cases R with
   | none =>
    have e1:ok=false:=xF.out.symm
    subst e1
    have HE:Hid (bG x ⟨#[115,104,111,119]⟩ ns=none):=hr
    clear hr
    clear Kt K5 zd yU xQ xL HY
    go_wp2_with fail
    go_ret2
    rw [HE.out]
    exact bL.no b4
   | some z =>
   have e1:ok=true:=xF.out.symm
   subst e1
   have e2:z=y:=HY.out
   subst e2
   have y8:=HR.out
   have HE:Hid (bG x ⟨#[115,104,111,119]⟩ ns=some (z,iK z.off ⟨2,a0,a1,a2⟩)):=hr
   clear hr
   have yb:=hL.below b4 hL.lt
   have yF:g < gt:=jL hL.lt (jT b3.size AJ)
   have yd:W0.heap.size≤w.heap.size:=hb0.size
   obtain ⟨w5,AZ,M,b5,gr5,OT⟩:=jh yb (b4.mono yd) hB (F TA z.t.length tc) (F OA z.o.length oc) (O U z.gt) (O U z.sd) (O U z.ms)
   have Mt:=OT _ _ _ oM Kt
   have yK:=ak xQ yb eZ gr5
   have yL:=ak xL yb fa gr5
   have CN:Hid (∀ j,j < w.heap.size→j ≠ g→w5.heap[j]?=w.heap[j]?):=fun j hj xw=>(gr5.block j (jL hj b4.size) (by intro e; injection e with e; exact xw e)).trans (b4.block j hj)
   have n0c:=mJ gr5 (jL hbN b4.size) KJ (n0w w4 b4)
   have Ao:w.heap.size≤w5.heap.size:=jT b4.size gr5.size
   obtain ⟨z0,z1,z2,z3,z4⟩:=cells5 Kt
   obtain ⟨k0,k1,k2,k3,k4,k5,k6,k7⟩:=cells8 yb
   obtain ⟨f0,f1,f2,f3,f4,f5,f6,f7⟩:=frz8 yb
   go_upto_region 25 with fail
   clear z0 z1 z2 z3 z4 k0 k1 k2 k3 k4 k5 k6 k7 f0 f1 f2 f3 f4 yb gr5 zd yU K5
   rw [AZ.out]
   clear AZ OT
   have b05:=hb0.trans b5
   have DI:=ht.then b05
   have DJ:w.heap.size≤gt:=jT b3.size AJ
   have DK:aC w5 w.heap.size gt (F TA z.t.length tc) (F OA z.o.length oc) z:=⟨Mt,DJ,yK,yL⟩
   have hat:=aC.at_ DK
   have yT:=fL y8
   have GZ:bK (z.at TA tc OA oc):=Oc.good_off yT.1 TA tc OA oc
   have AK:cn w5 W0.heap.size g z l:=⟨TA,tc,OA,oc,M,ag yK yd,ag yL yd⟩
   obtain ⟨z0,z1,z2,z3,z4⟩:=cells5 Mt
   obtain ⟨i,hi⟩:=gJ (ts:=z.t) (kd:=a0) (of_decide_eq_true (by rw [dP]; exact yT.2))
   obtain ⟨zH,zE⟩:=ir hi
   have zG:=ik (z.at TA tc OA oc) gt i a0 w5 hat GZ hi zH DI
   have Ii:eH z.off a0=rC (bM (z.t[i]'zH).c) (bM (aW (bE a0) z.o)):=by
    unfold eH
    rw [if_pos (show (ap z.off && aS z.off.t a0)=true from by rw [show ap z.off=true from yT.1]; exact yT.2)]
    unfold mD
    show rC (bM (z.t.getD (ay z.t a0).toNat default).c) _=_
    rw [hi,Int.toNat_natCast,eM zH]
    rfl
   go_wp2_with fail
   refine zG.mono ?_
   rintro e W7 ⟨rfl,xm⟩
   go_wp2
   go_ret2
   rw [HE.out]
   exact bL.yes Ii (AK.below xm) (b5.trans (xm.mono (jT yd Ao))) (jT Ao xm.size) (fun j hj xw=>(xm.block j (jL hj Ao)).trans (CN.out j hj xw))
  ·have hr:bG x ⟨#[115,104,111,119]⟩ ns=none:=by
    rw [H2.out oM]; rw [show bG x ⟨#[115,104,111,119]⟩ [a0,a1]=(cZ ⟨#[115,104,111,119]⟩ a0 a1).bind (cc x) from rfl]; unfold cZ; rw [if_neg dD,if_neg dD]; rfl
   have HE:Hid (bG x ⟨#[115,104,111,119]⟩ ns=none):=hr
   clear hr
   have Ca:((ns.length:Int) != 3)=true:=by rw [bne_iff_ne]; omega
   obtain ⟨s0,s1,s2,s3⟩:=cells4 K5
   obtain ⟨fs0,fs1,fs2,fs3⟩:=frz4 K5
   have b3:=jZ (b2.setCell (p:=⟨g5,0,none⟩) y5 (O U 2))
   clear K5 b2
   go_wp2_with fail
   go_ret2
   rw [HE.out]
   exact bL.no b3.out
 have f1:(s.toList == [115,104,111,119])=false:=bW h1
 by_cases h2:s=⟨#[98,97,99,107]⟩
 ·subst h2
  by_cases hl:ns.length=3
  ·have yZ:2 < ns.length:=oM
   have FM:(2:Int) < (ns.length:Int):=oM
   obtain ⟨a2,As⟩ : ∃ a,ns[2]'yZ=a:=⟨_,rfl⟩
   have n2w:∀ W:World,Below w.heap.size w W→W.cell? ⟨bN,off+2,none⟩=some (O U a2):=fun W hb=>by have:=Ji.out 2 yZ ⟨W,hb⟩; rw [As] at this; exact this
   have zy:=H3.out hl a2 As
   have hr:bG x ⟨#[98,97,99,107]⟩ ns=cc x ⟨3,a0,a1,a2⟩:=by
    rw [zy,show bG x ⟨#[98,97,99,107]⟩ [a0,a1,a2]=(dA ⟨#[98,97,99,107]⟩ a0 a1 a2).bind (cc x) from rfl]
    unfold dA
    rw [if_neg dD,if_pos rfl]; rfl
   clear zy As
   have Ca:((ns.length:Int) != 3)=false:=by rw [hl]; rfl
   have HL:=jZ hl
   clear hl
   have hc:=fun W hW=>iv x ⟨3,a0,a1,a2⟩ W hW
   obtain ⟨R,hR⟩ : ∃ R,gy x.c ⟨3,a0,a1,a2⟩=R:=⟨_,rfl⟩
   rw [hR] at hc
   unfold cc at hr
   rw [hR] at hr
   obtain ⟨s0,s1,s2,s3⟩:=cells4 K5
   obtain ⟨fs0,fs1,fs2,fs3⟩:=frz4 K5
   have n2c:=n2w w2 b2
   go_upto_region 21 with fail
   have K6:ai ((w2.setCell ⟨g5,0,none⟩ (O U 3)).setCell ⟨g5,3,none⟩ (O U a2)) g5 112 [O U 3,O U a0,O U a1,O U a2]:=((K5.set 0 (O U 3)).set 3 (O U a2))
   have b3:=((b2.setCell (p:=⟨g5,0,none⟩) y5 (O U 3)).setCell (p:=⟨g5,3,none⟩) y5 (O U a2))
   clear K5 b2 s0 s1 s2 s3 fs0 fs1 fs2 fs3 n2c
   generalize ((w2.setCell ⟨g5,0,none⟩ (O U 3)).setCell ⟨g5,3,none⟩ (O U a2))=w3 at K6 b3 ⊢
   have K5:=K6
   clear K6
   have zd:=hL.below b3 hL.lt
   have yU:=h.up b3 nR
   obtain ⟨y,hy⟩ : ∃ y,cQ R=y:=⟨_,rfl⟩
   obtain ⟨ok,xq⟩ : ∃ ok,R.isSome=ok:=⟨_,rfl⟩
   have HR:=jZ hR
   have HY:=jZ hy
   have xF:=jZ xq
   unfold aE at hc
   rw [hy,xq] at hc
   clear hR hy xq
   refine al (fun _=>(fun W9=>Below w3.heap.size w3 W9)) (fun i w1 w2=>i ∉ [10]→Below w1.heap.size w1 w2) kZ kZ kZ jB.drew ?_
   simp only [ax,Act.put,sA,gs0,gs1,Nat.zero_add,Nat.reduceAdd]
   refine aa _ vp0 ?_
   refine aa _ (vp1 0) ?_
   refine aa _ (vp1 1) ?_
   refine aa _ (vp1C5 2 zd) ?_
   refine aa _ (vp0C4 K5) ?_
   refine sm [10] (fun v w9=>∃ TA tc OA oc,v=.tuple #[.agg #[F TA y.t.length tc,F OA y.o.length oc,O U y.gt,O U y.sd,O U y.ms],.bool ok]∧w9.ownsRow w.heap.size 104 2 (F TA y.t.length tc) y.t.length (y.t.flatMap ar.enc)∧w9.ownsRow w.heap.size 147 3 (F OA y.o.length oc) y.o.length (y.o.flatMap ae.enc)) (fun vs L9 w9 xl xj hB K9 xk=>?_) ?_
   next =>
    have d3:=fe hB 3
    have d4:=fe hB 4
    simp only [d3,d4] at xk ⊢
    simp only [Act.put,sA,gs0,gs1] at xk
    go_simp
    refine (hc w9 (yU.then xj)).mono ?_
    rintro en w8 ⟨TA,tc,OA,oc,rfl,h1,h2,xm⟩
    simp only [Oc.at,aN.val]
    exact xk _ _ _ rfl ⟨TA,tc,OA,oc,rfl,ag h1 (jT b3.size xj.size),ag h2 (jT b3.size xj.size)⟩ (xj.trans (xm.mono xj.size)) (fun _=>xm)
   refine pm0 [] 5 (fun u v w9=>v=u∧∃ TA tc OA oc,u=.tuple #[.agg #[F TA y.t.length tc,F OA y.o.length oc,O U y.gt,O U y.sd,O U y.ms],.bool ok]) (fun vs L9 w9 xl xj hB K9 xk=>?_) ?_
   next =>
    obtain ⟨TA,tc,OA,oc,e0,h1,h2⟩:=fs hB 5
    simp only [e0] at xk ⊢
    go_simp
    exact xk _ _ _ rfl ⟨rfl,TA,tc,OA,oc,rfl⟩ xj bR
   refine sm [10] (fun v w9=>∃ TA tc OA oc,v=.agg #[F TA y.t.length tc,F OA y.o.length oc,O U y.gt,O U y.sd,O U y.ms]∧w9.ownsRow w.heap.size 104 2 (F TA y.t.length tc) y.t.length (y.t.flatMap ar.enc)∧w9.ownsRow w.heap.size 147 3 (F OA y.o.length oc) y.o.length (y.o.flatMap ae.enc)) (fun vs L9 w9 xl xj hB K9 xk=>?_) ?_
   next =>
    simp only [Act.put,sA,gs0,gs1] at xk
    obtain ⟨TA,tc,OA,oc,e0,h1,h2⟩:=fs hB 5
    obtain ⟨e6,_⟩:=fs hB 6
    simp only [e6,e0] at xk ⊢
    go_simp
    exact xk _ _ _ rfl ⟨TA,tc,OA,oc,rfl,h1,h2⟩ xj bR
   refine aa (.bool ok) (fun vs L9 w9 xl xj hB K9 xk=>?_) ?_
   next =>
    obtain ⟨e6,TA,tc,OA,oc,e0⟩:=fs hB 6
    simp only [e6,e0] at xk ⊢
    go_simp
    exact xk _ _ rfl xj bR
   refine sm [10] (fun v w9=>∃ g9,v=.pointer (some ⟨g9,0,none⟩)∧w3.heap.size≤g9∧ai w9 g9 40 [F none 0 0,F none 0 0,O U 0,O U 0,O U 0]) (fun vs L9 w9 xl xj hB K9 xk=>?_) ?_
   next =>
    simp only [Act.put,sA,gs0,gs1] at xk
    go_simp
    have xm:=(Below.refl w9.heap.size w9).alloc nR (.cells #[F none 0 0,F none 0 0,O U 0,O U 0,O U 0] 40)
    exact xk _ _ _ rfl ⟨_,rfl,xj.size,ai.new w9 40 #[F none 0 0,F none 0 0,O U 0,O U 0,O U 0]⟩ (xj.trans (xm.mono xj.size)) (fun _=>xm)
   refine pm [] 9 (fun u _ w9=>∃ g9 TA tc OA oc,u=.pointer (some ⟨g9,0,none⟩)∧w3.heap.size≤g9∧ai w9 g9 40 [F TA y.t.length tc,F OA y.o.length oc,O U y.gt,O U y.sd,O U y.ms]∧w9.ownsRow w.heap.size 104 2 (F TA y.t.length tc) y.t.length (y.t.flatMap ar.enc)∧w9.ownsRow w.heap.size 147 3 (F OA y.o.length oc) y.o.length (y.o.flatMap ae.enc)) (fun vs L9 w9 xl xj hB K9 xk=>?_) ?_
   next =>
    obtain ⟨g9,BW,yY,xS⟩:=fs hB 9
    simp only [BW] at xk ⊢
    obtain ⟨TA,tc,OA,oc,e0,h1,h2⟩:=fs hB 7
    simp only [e0] at xk ⊢
    obtain ⟨z0,z1,z2,z3,z4⟩:=cells5 xS
    obtain ⟨f0,f1,f2,f3,f4⟩:=frz5 xS
    have xO:=jZ (show ai _ g9 40 [F TA y.t.length tc,F OA y.o.length oc,O U y.gt,O U y.sd,O U y.ms] from uG (xS) (F TA y.t.length tc) (F OA y.o.length oc) (O U y.gt) (O U y.sd) (O U y.ms))
    have yl:=jZ (xj.grown (row:=some g9) (gw5 _ g9 (F TA y.t.length tc) (F OA y.o.length oc) (O U y.gt) (O U y.sd) (O U y.ms)) xj.size (by rintro _ ⟨⟩; exact yY))
    have zA:=jZ (ak h1 xS fB (gw5 _ g9 (F TA y.t.length tc) (F OA y.o.length oc) (O U y.gt) (O U y.sd) (O U y.ms)))
    have xI:=jZ (ak h2 xS fj (gw5 _ g9 (F TA y.t.length tc) (F OA y.o.length oc) (O U y.gt) (O U y.sd) (O U y.ms)))
    clear xS
    go_simp
    exact xk _ undef _ rfl ⟨g9,TA,tc,OA,oc,rfl,yY,xO.out,zA.out,xI.out⟩ yl.out nq
   refine aa _ (vp1 8) ?_
   refine au fun vs L9 w4 xv xj hB=>?_
   obtain ⟨gt,TA,tc,OA,oc,Ab,AJ,Kt,xQ,xL⟩:=hB 10 _ rfl rfl dD
   have dl:=ah.eq (hB 11 _ rfl rfl dD)
   simp only [Ab,dl]
   clear hB xv Ab dl
   have b4:=b3.trans (xj.mono b3.size)
   cases R with
   | none =>
    have e1:ok=false:=xF.out.symm
    subst e1
    have HE:Hid (bG x ⟨#[98,97,99,107]⟩ ns=none):=hr
    clear hr
    clear Kt K5 zd yU xQ xL HY
    go_wp2_with fail
    go_ret2
    rw [HE.out]
    exact bL.no b4
   | some z =>
   have e1:ok=true:=xF.out.symm
   subst e1
   have e2:z=y:=HY.out
   subst e2
   have y8:=HR.out
   have HE:Hid (bG x ⟨#[98,97,99,107]⟩ ns=some (z,iK z.off ⟨3,a0,a1,a2⟩)):=hr
   clear hr
   have yb:=hL.below b4 hL.lt
   have yF:g < gt:=jL hL.lt (jT b3.size AJ)
   have yd:W0.heap.size≤w.heap.size:=hb0.size
   obtain ⟨w5,AZ,M,b5,gr5,OT⟩:=jh yb (b4.mono yd) hB (F TA z.t.length tc) (F OA z.o.length oc) (O U z.gt) (O U z.sd) (O U z.ms)
   have Mt:=OT _ _ _ oM Kt
   have yK:=ak xQ yb eZ gr5
   have yL:=ak xL yb fa gr5
   have CN:Hid (∀ j,j < w.heap.size→j ≠ g→w5.heap[j]?=w.heap[j]?):=fun j hj xw=>(gr5.block j (jL hj b4.size) (by intro e; injection e with e; exact xw e)).trans (b4.block j hj)
   have n0c:=mJ gr5 (jL hbN b4.size) KJ (n0w w4 b4)
   have Ao:w.heap.size≤w5.heap.size:=jT b4.size gr5.size
   obtain ⟨z0,z1,z2,z3,z4⟩:=cells5 Kt
   obtain ⟨k0,k1,k2,k3,k4,k5,k6,k7⟩:=cells8 yb
   obtain ⟨f0,f1,f2,f3,f4,f5,f6,f7⟩:=frz8 yb
   go_upto_region 25 with fail
   clear z0 z1 z2 z3 z4 k0 k1 k2 k3 k4 k5 k6 k7 f0 f1 f2 f3 f4 yb gr5 zd yU K5
   rw [AZ.out]
   clear AZ OT
   have b05:=hb0.trans b5
   have DI:=ht.then b05
   have DJ:w.heap.size≤gt:=jT b3.size AJ
   have DK:aC w5 w.heap.size gt (F TA z.t.length tc) (F OA z.o.length oc) z:=⟨Mt,DJ,yK,yL⟩
   have hat:=aC.at_ DK
   have yT:=fL y8
   have GZ:bK (z.at TA tc OA oc):=Oc.good_off yT.1 TA tc OA oc
   have AK:cn w5 W0.heap.size g z l:=⟨TA,tc,OA,oc,M,ag yK yd,ag yL yd⟩
   obtain ⟨z0,z1,z2,z3,z4⟩:=cells5 Mt
   obtain ⟨i,hi⟩:=gJ (ts:=z.t) (kd:=a0) (of_decide_eq_true (by rw [dP]; exact yT.2))
   obtain ⟨zH,zE⟩:=ir hi
   have zG:=ik (z.at TA tc OA oc) gt i a0 w5 hat GZ hi zH DI
   have Ii:eH z.off a0=rC (bM (z.t[i]'zH).c) (bM (aW (bE a0) z.o)):=by
    unfold eH
    rw [if_pos (show (ap z.off && aS z.off.t a0)=true from by rw [show ap z.off=true from yT.1]; exact yT.2)]
    unfold mD
    show rC (bM (z.t.getD (ay z.t a0).toNat default).c) _=_
    rw [hi,Int.toNat_natCast,eM zH]
    rfl
   go_wp2_with fail
   refine zG.mono ?_
   rintro e W7 ⟨rfl,xm⟩
   go_wp2
   go_ret2
   rw [HE.out]
   exact bL.yes Ii (AK.below xm) (b5.trans (xm.mono (jT yd Ao))) (jT Ao xm.size) (fun j hj xw=>(xm.block j (jL hj Ao)).trans (CN.out j hj xw))
  ·have hr:bG x ⟨#[98,97,99,107]⟩ ns=none:=by
    rw [H2.out oM]; rw [show bG x ⟨#[98,97,99,107]⟩ [a0,a1]=(cZ ⟨#[98,97,99,107]⟩ a0 a1).bind (cc x) from rfl]; unfold cZ; rw [if_neg dD,if_neg dD]; rfl
   have HE:Hid (bG x ⟨#[98,97,99,107]⟩ ns=none):=hr
   clear hr
   have Ca:((ns.length:Int) != 3)=true:=by rw [bne_iff_ne]; omega
   obtain ⟨s0,s1,s2,s3⟩:=cells4 K5
   obtain ⟨fs0,fs1,fs2,fs3⟩:=frz4 K5
   have b3:=jZ (b2.setCell (p:=⟨g5,0,none⟩) y5 (O U 3))
   clear K5 b2
   go_wp2_with fail
   go_ret2
   rw [HE.out]
   exact bL.no b3.out
 have f2:(s.toList == [98,97,99,107])=false:=bW h2
 by_cases h3:s=⟨#[115,101,108,108]⟩
 ·subst h3
  by_cases hl:ns.length=3
  ·have yZ:2 < ns.length:=oM
   have FM:(2:Int) < (ns.length:Int):=oM
   obtain ⟨a2,As⟩ : ∃ a,ns[2]'yZ=a:=⟨_,rfl⟩
   have n2w:∀ W:World,Below w.heap.size w W→W.cell? ⟨bN,off+2,none⟩=some (O U a2):=fun W hb=>by have:=Ji.out 2 yZ ⟨W,hb⟩; rw [As] at this; exact this
   have zy:=H3.out hl a2 As
   have hr:bG x ⟨#[115,101,108,108]⟩ ns=cc x ⟨4,a0,a1,a2⟩:=by
    rw [zy,show bG x ⟨#[115,101,108,108]⟩ [a0,a1,a2]=(dA ⟨#[115,101,108,108]⟩ a0 a1 a2).bind (cc x) from rfl]
    unfold dA
    rw [if_neg dD,if_neg dD,if_pos rfl]; rfl
   clear zy As
   have Ca:((ns.length:Int) != 3)=false:=by rw [hl]; rfl
   have HL:=jZ hl
   clear hl
   have hc:=fun W hW=>iv x ⟨4,a0,a1,a2⟩ W hW
   obtain ⟨R,hR⟩ : ∃ R,gy x.c ⟨4,a0,a1,a2⟩=R:=⟨_,rfl⟩
   rw [hR] at hc
   unfold cc at hr
   rw [hR] at hr
   obtain ⟨s0,s1,s2,s3⟩:=cells4 K5
   obtain ⟨fs0,fs1,fs2,fs3⟩:=frz4 K5
   have n2c:=n2w w2 b2
   go_upto_region 21 with fail
   have K6:ai ((w2.setCell ⟨g5,0,none⟩ (O U 4)).setCell ⟨g5,3,none⟩ (O U a2)) g5 112 [O U 4,O U a0,O U a1,O U a2]:=((K5.set 0 (O U 4)).set 3 (O U a2))
   have b3:=((b2.setCell (p:=⟨g5,0,none⟩) y5 (O U 4)).setCell (p:=⟨g5,3,none⟩) y5 (O U a2))
   clear K5 b2 s0 s1 s2 s3 fs0 fs1 fs2 fs3 n2c
   generalize ((w2.setCell ⟨g5,0,none⟩ (O U 4)).setCell ⟨g5,3,none⟩ (O U a2))=w3 at K6 b3 ⊢
   have K5:=K6
   clear K6
   have zd:=hL.below b3 hL.lt
   have yU:=h.up b3 nR
   obtain ⟨y,hy⟩ : ∃ y,cQ R=y:=⟨_,rfl⟩
   obtain ⟨ok,xq⟩ : ∃ ok,R.isSome=ok:=⟨_,rfl⟩
   have HR:=jZ hR
   have HY:=jZ hy
   have xF:=jZ xq
   unfold aE at hc
   rw [hy,xq] at hc
   clear hR hy xq
   refine al (fun _=>(fun W9=>Below w3.heap.size w3 W9)) (fun i w1 w2=>i ∉ [10]→Below w1.heap.size w1 w2) kZ kZ kZ jB.drew ?_
   simp only [ax,Act.put,sA,gs0,gs1,Nat.zero_add,Nat.reduceAdd]
   refine aa _ vp0 ?_
   refine aa _ (vp1 0) ?_
   refine aa _ (vp1 1) ?_
   refine aa _ (vp1C5 2 zd) ?_
   refine aa _ (vp0C4 K5) ?_
   refine sm [10] (fun v w9=>∃ TA tc OA oc,v=.tuple #[.agg #[F TA y.t.length tc,F OA y.o.length oc,O U y.gt,O U y.sd,O U y.ms],.bool ok]∧w9.ownsRow w.heap.size 104 2 (F TA y.t.length tc) y.t.length (y.t.flatMap ar.enc)∧w9.ownsRow w.heap.size 147 3 (F OA y.o.length oc) y.o.length (y.o.flatMap ae.enc)) (fun vs L9 w9 xl xj hB K9 xk=>?_) ?_
   next =>
    have d3:=fe hB 3
    have d4:=fe hB 4
    simp only [d3,d4] at xk ⊢
    simp only [Act.put,sA,gs0,gs1] at xk
    go_simp
    refine (hc w9 (yU.then xj)).mono ?_
    rintro en w8 ⟨TA,tc,OA,oc,rfl,h1,h2,xm⟩
    simp only [Oc.at,aN.val]
    exact xk _ _ _ rfl ⟨TA,tc,OA,oc,rfl,ag h1 (jT b3.size xj.size),ag h2 (jT b3.size xj.size)⟩ (xj.trans (xm.mono xj.size)) (fun _=>xm)
   refine pm0 [] 5 (fun u v w9=>v=u∧∃ TA tc OA oc,u=.tuple #[.agg #[F TA y.t.length tc,F OA y.o.length oc,O U y.gt,O U y.sd,O U y.ms],.bool ok]) (fun vs L9 w9 xl xj hB K9 xk=>?_) ?_
   next =>
    obtain ⟨TA,tc,OA,oc,e0,h1,h2⟩:=fs hB 5
    simp only [e0] at xk ⊢
    go_simp
    exact xk _ _ _ rfl ⟨rfl,TA,tc,OA,oc,rfl⟩ xj bR
   refine sm [10] (fun v w9=>∃ TA tc OA oc,v=.agg #[F TA y.t.length tc,F OA y.o.length oc,O U y.gt,O U y.sd,O U y.ms]∧w9.ownsRow w.heap.size 104 2 (F TA y.t.length tc) y.t.length (y.t.flatMap ar.enc)∧w9.ownsRow w.heap.size 147 3 (F OA y.o.length oc) y.o.length (y.o.flatMap ae.enc)) (fun vs L9 w9 xl xj hB K9 xk=>?_) ?_
   next =>
    simp only [Act.put,sA,gs0,gs1] at xk
    obtain ⟨TA,tc,OA,oc,e0,h1,h2⟩:=fs hB 5
    obtain ⟨e6,_⟩:=fs hB 6
    simp only [e6,e0] at xk ⊢
    go_simp
    exact xk _ _ _ rfl ⟨TA,tc,OA,oc,rfl,h1,h2⟩ xj bR
   refine aa (.bool ok) (fun vs L9 w9 xl xj hB K9 xk=>?_) ?_
   next =>
    obtain ⟨e6,TA,tc,OA,oc,e0⟩:=fs hB 6
    simp only [e6,e0] at xk ⊢
    go_simp
    exact xk _ _ rfl xj bR
   refine sm [10] (fun v w9=>∃ g9,v=.pointer (some ⟨g9,0,none⟩)∧w3.heap.size≤g9∧ai w9 g9 40 [F none 0 0,F none 0 0,O U 0,O U 0,O U 0]) (fun vs L9 w9 xl xj hB K9 xk=>?_) ?_
   next =>
    simp only [Act.put,sA,gs0,gs1] at xk
    go_simp
    have xm:=(Below.refl w9.heap.size w9).alloc nR (.cells #[F none 0 0,F none 0 0,O U 0,O U 0,O U 0] 40)
    exact xk _ _ _ rfl ⟨_,rfl,xj.size,ai.new w9 40 #[F none 0 0,F none 0 0,O U 0,O U 0,O U 0]⟩ (xj.trans (xm.mono xj.size)) (fun _=>xm)
   refine pm [] 9 (fun u _ w9=>∃ g9 TA tc OA oc,u=.pointer (some ⟨g9,0,none⟩)∧w3.heap.size≤g9∧ai w9 g9 40 [F TA y.t.length tc,F OA y.o.length oc,O U y.gt,O U y.sd,O U y.ms]∧w9.ownsRow w.heap.size 104 2 (F TA y.t.length tc) y.t.length (y.t.flatMap ar.enc)∧w9.ownsRow w.heap.size 147 3 (F OA y.o.length oc) y.o.length (y.o.flatMap ae.enc)) (fun vs L9 w9 xl xj hB K9 xk=>?_) ?_
   next =>
    obtain ⟨g9,BW,yY,xS⟩:=fs hB 9
    simp only [BW] at xk ⊢
    obtain ⟨TA,tc,OA,oc,e0,h1,h2⟩:=fs hB 7
    simp only [e0] at xk ⊢
    obtain ⟨z0,z1,z2,z3,z4⟩:=cells5 xS
    obtain ⟨f0,f1,f2,f3,f4⟩:=frz5 xS
    have xO:=jZ (show ai _ g9 40 [F TA y.t.length tc,F OA y.o.length oc,O U y.gt,O U y.sd,O U y.ms] from uG (xS) (F TA y.t.length tc) (F OA y.o.length oc) (O U y.gt) (O U y.sd) (O U y.ms))
    have yl:=jZ (xj.grown (row:=some g9) (gw5 _ g9 (F TA y.t.length tc) (F OA y.o.length oc) (O U y.gt) (O U y.sd) (O U y.ms)) xj.size (by rintro _ ⟨⟩; exact yY))
    have zA:=jZ (ak h1 xS fB (gw5 _ g9 (F TA y.t.length tc) (F OA y.o.length oc) (O U y.gt) (O U y.sd) (O U y.ms)))
    have xI:=jZ (ak h2 xS fj (gw5 _ g9 (F TA y.t.length tc) (F OA y.o.length oc) (O U y.gt) (O U y.sd) (O U y.ms)))
    clear xS
    go_simp
    exact xk _ undef _ rfl ⟨g9,TA,tc,OA,oc,rfl,yY,xO.out,zA.out,xI.out⟩ yl.out nq
   refine aa _ (vp1 8) ?_
   refine au fun vs L9 w4 xv xj hB=>?_
   obtain ⟨gt,TA,tc,OA,oc,Ab,AJ,Kt,xQ,xL⟩:=hB 10 _ rfl rfl dD
   have dl:=ah.eq (hB 11 _ rfl rfl dD)
   simp only [Ab,dl]
   clear hB xv Ab dl
   have b4:=b3.trans (xj.mono b3.size)
   cases R with
   | none =>
    have e1:ok=false:=xF.out.symm
    subst e1
    have HE:Hid (bG x ⟨#[115,101,108,108]⟩ ns=none):=hr
    clear hr
    clear Kt K5 zd yU xQ xL HY
    go_wp2_with fail
    go_ret2
    rw [HE.out]
    exact bL.no b4
   | some z =>
   have e1:ok=true:=xF.out.symm
   subst e1
   have e2:z=y:=HY.out
   subst e2
   have y8:=HR.out
   have HE:Hid (bG x ⟨#[115,101,108,108]⟩ ns=some (z,iK z.off ⟨4,a0,a1,a2⟩)):=hr
   clear hr
   have yb:=hL.below b4 hL.lt
   have yF:g < gt:=jL hL.lt (jT b3.size AJ)
   have yd:W0.heap.size≤w.heap.size:=hb0.size
   obtain ⟨w5,AZ,M,b5,gr5,OT⟩:=jh yb (b4.mono yd) hB (F TA z.t.length tc) (F OA z.o.length oc) (O U z.gt) (O U z.sd) (O U z.ms)
   have Mt:=OT _ _ _ oM Kt
   have yK:=ak xQ yb eZ gr5
   have yL:=ak xL yb fa gr5
   have CN:Hid (∀ j,j < w.heap.size→j ≠ g→w5.heap[j]?=w.heap[j]?):=fun j hj xw=>(gr5.block j (jL hj b4.size) (by intro e; injection e with e; exact xw e)).trans (b4.block j hj)
   have Ao:w.heap.size≤w5.heap.size:=jT b4.size gr5.size
   obtain ⟨z0,z1,z2,z3,z4⟩:=cells5 Kt
   obtain ⟨k0,k1,k2,k3,k4,k5,k6,k7⟩:=cells8 yb
   obtain ⟨f0,f1,f2,f3,f4,f5,f6,f7⟩:=frz8 yb
   go_upto_region 25 with fail
   clear z0 z1 z2 z3 z4 k0 k1 k2 k3 k4 k5 k6 k7 f0 f1 f2 f3 f4 yb gr5 zd yU K5
   rw [AZ.out]
   clear AZ OT
   have b05:=hb0.trans b5
   have DI:=ht.then b05
   have DJ:w.heap.size≤gt:=jT b3.size AJ
   have DK:aC w5 w.heap.size gt (F TA z.t.length tc) (F OA z.o.length oc) z:=⟨Mt,DJ,yK,yL⟩
   have hat:=aC.at_ DK
   have yT:=fL y8
   have GZ:bK (z.at TA tc OA oc):=Oc.good_off yT.1 TA tc OA oc
   have AK:cn w5 W0.heap.size g z l:=⟨TA,tc,OA,oc,M,ag yK yd,ag yL yd⟩
   obtain ⟨z0,z1,z2,z3,z4⟩:=cells5 Mt
   have bd:0≤z.sd∧z.sd≤99999:=GZ.s
   have hn:=fun W hW=>dE z.sd W oM oM hW
   clear bd
   go_wp2_with fail
   refine (hn _ DI).mono ?_
   rintro e W7 ⟨rfl,xm⟩
   go_wp2
   go_ret2
   rw [HE.out]
   exact bL.yes rfl (AK.below xm) (b5.trans (xm.mono (jT yd Ao))) (jT Ao xm.size) (fun j hj xw=>(xm.block j (jL hj Ao)).trans (CN.out j hj xw))
  ·have hr:bG x ⟨#[115,101,108,108]⟩ ns=none:=by
    rw [H2.out oM]; rw [show bG x ⟨#[115,101,108,108]⟩ [a0,a1]=(cZ ⟨#[115,101,108,108]⟩ a0 a1).bind (cc x) from rfl]; unfold cZ; rw [if_neg dD,if_neg dD]; rfl
   have HE:Hid (bG x ⟨#[115,101,108,108]⟩ ns=none):=hr
   clear hr
   have Ca:((ns.length:Int) != 3)=true:=by rw [bne_iff_ne]; omega
   obtain ⟨s0,s1,s2,s3⟩:=cells4 K5
   obtain ⟨fs0,fs1,fs2,fs3⟩:=frz4 K5
   have b3:=jZ (b2.setCell (p:=⟨g5,0,none⟩) y5 (O U 4))
   clear K5 b2
   go_wp2_with fail
   go_ret2
   rw [HE.out]
   exact bL.no b3.out
 have f3:(s.toList == [115,101,108,108])=false:=bW h3
 by_cases h4:s=⟨#[109,105,115,115]⟩
 ·subst h4
  by_cases hl:ns.length=2
  ·have zy:=H2.out hl
   have hr:bG x ⟨#[109,105,115,115]⟩ ns=cc x ⟨5,a0,a1,0⟩:=by
    rw [zy,show bG x ⟨#[109,105,115,115]⟩ [a0,a1]=(cZ ⟨#[109,105,115,115]⟩ a0 a1).bind (cc x) from rfl]
    unfold cZ
    rw [if_neg dD,if_pos rfl]; rfl
   clear zy
   have Ca:((ns.length:Int) != 2)=false:=by rw [hl]; rfl
   have HL:=jZ hl
   clear hl
   have hc:=fun W hW=>iv x ⟨5,a0,a1,0⟩ W hW
   obtain ⟨R,hR⟩ : ∃ R,gy x.c ⟨5,a0,a1,0⟩=R:=⟨_,rfl⟩
   rw [hR] at hc
   unfold cc at hr
   rw [hR] at hr
   obtain ⟨s0,s1,s2,s3⟩:=cells4 K5
   obtain ⟨fs0,fs1,fs2,fs3⟩:=frz4 K5
   go_upto_region 21 with fail
   have K6:ai (w2.setCell ⟨g5,0,none⟩ (O U 5)) g5 112 [O U 5,O U a0,O U a1,O U 0]:=(K5.set 0 (O U 5))
   have b3:=(b2.setCell (p:=⟨g5,0,none⟩) y5 (O U 5))
   clear K5 b2 s0 s1 s2 s3 fs0 fs1 fs2 fs3
   generalize (w2.setCell ⟨g5,0,none⟩ (O U 5))=w3 at K6 b3 ⊢
   have K5:=K6
   clear K6
   have zd:=hL.below b3 hL.lt
   have yU:=h.up b3 nR
   obtain ⟨y,hy⟩ : ∃ y,cQ R=y:=⟨_,rfl⟩
   obtain ⟨ok,xq⟩ : ∃ ok,R.isSome=ok:=⟨_,rfl⟩
   have HR:=jZ hR
   have HY:=jZ hy
   have xF:=jZ xq
   unfold aE at hc
   rw [hy,xq] at hc
   clear hR hy xq
   refine al (fun _=>(fun W9=>Below w3.heap.size w3 W9)) (fun i w1 w2=>i ∉ [10]→Below w1.heap.size w1 w2) kZ kZ kZ jB.drew ?_
   simp only [ax,Act.put,sA,gs0,gs1,Nat.zero_add,Nat.reduceAdd]
   refine aa _ vp0 ?_
   refine aa _ (vp1 0) ?_
   refine aa _ (vp1 1) ?_
   refine aa _ (vp1C5 2 zd) ?_
   refine aa _ (vp0C4 K5) ?_
   refine sm [10] (fun v w9=>∃ TA tc OA oc,v=.tuple #[.agg #[F TA y.t.length tc,F OA y.o.length oc,O U y.gt,O U y.sd,O U y.ms],.bool ok]∧w9.ownsRow w.heap.size 104 2 (F TA y.t.length tc) y.t.length (y.t.flatMap ar.enc)∧w9.ownsRow w.heap.size 147 3 (F OA y.o.length oc) y.o.length (y.o.flatMap ae.enc)) (fun vs L9 w9 xl xj hB K9 xk=>?_) ?_
   next =>
    have d3:=fe hB 3
    have d4:=fe hB 4
    simp only [d3,d4] at xk ⊢
    simp only [Act.put,sA,gs0,gs1] at xk
    go_simp
    refine (hc w9 (yU.then xj)).mono ?_
    rintro en w8 ⟨TA,tc,OA,oc,rfl,h1,h2,xm⟩
    simp only [Oc.at,aN.val]
    exact xk _ _ _ rfl ⟨TA,tc,OA,oc,rfl,ag h1 (jT b3.size xj.size),ag h2 (jT b3.size xj.size)⟩ (xj.trans (xm.mono xj.size)) (fun _=>xm)
   refine pm0 [] 5 (fun u v w9=>v=u∧∃ TA tc OA oc,u=.tuple #[.agg #[F TA y.t.length tc,F OA y.o.length oc,O U y.gt,O U y.sd,O U y.ms],.bool ok]) (fun vs L9 w9 xl xj hB K9 xk=>?_) ?_
   next =>
    obtain ⟨TA,tc,OA,oc,e0,h1,h2⟩:=fs hB 5
    simp only [e0] at xk ⊢
    go_simp
    exact xk _ _ _ rfl ⟨rfl,TA,tc,OA,oc,rfl⟩ xj bR
   refine sm [10] (fun v w9=>∃ TA tc OA oc,v=.agg #[F TA y.t.length tc,F OA y.o.length oc,O U y.gt,O U y.sd,O U y.ms]∧w9.ownsRow w.heap.size 104 2 (F TA y.t.length tc) y.t.length (y.t.flatMap ar.enc)∧w9.ownsRow w.heap.size 147 3 (F OA y.o.length oc) y.o.length (y.o.flatMap ae.enc)) (fun vs L9 w9 xl xj hB K9 xk=>?_) ?_
   next =>
    simp only [Act.put,sA,gs0,gs1] at xk
    obtain ⟨TA,tc,OA,oc,e0,h1,h2⟩:=fs hB 5
    obtain ⟨e6,_⟩:=fs hB 6
    simp only [e6,e0] at xk ⊢
    go_simp
    exact xk _ _ _ rfl ⟨TA,tc,OA,oc,rfl,h1,h2⟩ xj bR
   refine aa (.bool ok) (fun vs L9 w9 xl xj hB K9 xk=>?_) ?_
   next =>
    obtain ⟨e6,TA,tc,OA,oc,e0⟩:=fs hB 6
    simp only [e6,e0] at xk ⊢
    go_simp
    exact xk _ _ rfl xj bR
   refine sm [10] (fun v w9=>∃ g9,v=.pointer (some ⟨g9,0,none⟩)∧w3.heap.size≤g9∧ai w9 g9 40 [F none 0 0,F none 0 0,O U 0,O U 0,O U 0]) (fun vs L9 w9 xl xj hB K9 xk=>?_) ?_
   next =>
    simp only [Act.put,sA,gs0,gs1] at xk
    go_simp
    have xm:=(Below.refl w9.heap.size w9).alloc nR (.cells #[F none 0 0,F none 0 0,O U 0,O U 0,O U 0] 40)
    exact xk _ _ _ rfl ⟨_,rfl,xj.size,ai.new w9 40 #[F none 0 0,F none 0 0,O U 0,O U 0,O U 0]⟩ (xj.trans (xm.mono xj.size)) (fun _=>xm)
   refine pm [] 9 (fun u _ w9=>∃ g9 TA tc OA oc,u=.pointer (some ⟨g9,0,none⟩)∧w3.heap.size≤g9∧ai w9 g9 40 [F TA y.t.length tc,F OA y.o.length oc,O U y.gt,O U y.sd,O U y.ms]∧w9.ownsRow w.heap.size 104 2 (F TA y.t.length tc) y.t.length (y.t.flatMap ar.enc)∧w9.ownsRow w.heap.size 147 3 (F OA y.o.length oc) y.o.length (y.o.flatMap ae.enc)) (fun vs L9 w9 xl xj hB K9 xk=>?_) ?_
   next =>
    obtain ⟨g9,BW,yY,xS⟩:=fs hB 9
    simp only [BW] at xk ⊢
    obtain ⟨TA,tc,OA,oc,e0,h1,h2⟩:=fs hB 7
    simp only [e0] at xk ⊢
    obtain ⟨z0,z1,z2,z3,z4⟩:=cells5 xS
    obtain ⟨f0,f1,f2,f3,f4⟩:=frz5 xS
    have xO:=jZ (show ai _ g9 40 [F TA y.t.length tc,F OA y.o.length oc,O U y.gt,O U y.sd,O U y.ms] from uG (xS) (F TA y.t.length tc) (F OA y.o.length oc) (O U y.gt) (O U y.sd) (O U y.ms))
    have yl:=jZ (xj.grown (row:=some g9) (gw5 _ g9 (F TA y.t.length tc) (F OA y.o.length oc) (O U y.gt) (O U y.sd) (O U y.ms)) xj.size (by rintro _ ⟨⟩; exact yY))
    have zA:=jZ (ak h1 xS fB (gw5 _ g9 (F TA y.t.length tc) (F OA y.o.length oc) (O U y.gt) (O U y.sd) (O U y.ms)))
    have xI:=jZ (ak h2 xS fj (gw5 _ g9 (F TA y.t.length tc) (F OA y.o.length oc) (O U y.gt) (O U y.sd) (O U y.ms)))
    clear xS
    go_simp
    exact xk _ undef _ rfl ⟨g9,TA,tc,OA,oc,rfl,yY,xO.out,zA.out,xI.out⟩ yl.out nq
   refine aa _ (vp1 8) ?_
   refine au fun vs L9 w4 xv xj hB=>?_
   obtain ⟨gt,TA,tc,OA,oc,Ab,AJ,Kt,xQ,xL⟩:=hB 10 _ rfl rfl dD
   have dl:=ah.eq (hB 11 _ rfl rfl dD)
   simp only [Ab,dl]
   clear hB xv Ab dl
   have b4:=b3.trans (xj.mono b3.size)
   cases R with
   | none =>
    have e1:ok=false:=xF.out.symm
    subst e1
    have HE:Hid (bG x ⟨#[109,105,115,115]⟩ ns=none):=hr
    clear hr
    clear Kt K5 zd yU xQ xL HY
    go_wp2_with fail
    go_ret2
    rw [HE.out]
    exact bL.no b4
   | some z =>
   have e1:ok=true:=xF.out.symm
   subst e1
   have e2:z=y:=HY.out
   subst e2
   have y8:=HR.out
   have HE:Hid (bG x ⟨#[109,105,115,115]⟩ ns=some (z,iK z.off ⟨5,a0,a1,0⟩)):=hr
   clear hr
   have yb:=hL.below b4 hL.lt
   have yF:g < gt:=jL hL.lt (jT b3.size AJ)
   have yd:W0.heap.size≤w.heap.size:=hb0.size
   obtain ⟨w5,AZ,M,b5,gr5,OT⟩:=jh yb (b4.mono yd) hB (F TA z.t.length tc) (F OA z.o.length oc) (O U z.gt) (O U z.sd) (O U z.ms)
   have Mt:=OT _ _ _ oM Kt
   have yK:=ak xQ yb eZ gr5
   have yL:=ak xL yb fa gr5
   have CN:Hid (∀ j,j < w.heap.size→j ≠ g→w5.heap[j]?=w.heap[j]?):=fun j hj xw=>(gr5.block j (jL hj b4.size) (by intro e; injection e with e; exact xw e)).trans (b4.block j hj)
   have Ao:w.heap.size≤w5.heap.size:=jT b4.size gr5.size
   obtain ⟨z0,z1,z2,z3,z4⟩:=cells5 Kt
   obtain ⟨k0,k1,k2,k3,k4,k5,k6,k7⟩:=cells8 yb
   obtain ⟨f0,f1,f2,f3,f4,f5,f6,f7⟩:=frz8 yb
   go_upto_region 25 with fail
   clear z0 z1 z2 z3 z4 k0 k1 k2 k3 k4 k5 k6 k7 f0 f1 f2 f3 f4 yb gr5 zd yU K5
   rw [AZ.out]
   clear AZ OT
   have b05:=hb0.trans b5
   have DI:=ht.then b05
   have DJ:w.heap.size≤gt:=jT b3.size AJ
   have DK:aC w5 w.heap.size gt (F TA z.t.length tc) (F OA z.o.length oc) z:=⟨Mt,DJ,yK,yL⟩
   have hat:=aC.at_ DK
   have yT:=fL y8
   have GZ:bK (z.at TA tc OA oc):=Oc.good_off yT.1 TA tc OA oc
   have AK:cn w5 W0.heap.size g z l:=⟨TA,tc,OA,oc,M,ag yK yd,ag yL yd⟩
   obtain ⟨z0,z1,z2,z3,z4⟩:=cells5 Mt
   have bd:0≤z.ms∧z.ms≤99999:=GZ.m
   have hn:=fun W hW=>dE z.ms W oM oM hW
   clear bd
   go_wp2_with fail
   refine (hn _ DI).mono ?_
   rintro e W7 ⟨rfl,xm⟩
   go_wp2
   go_ret2
   rw [HE.out]
   exact bL.yes rfl (AK.below xm) (b5.trans (xm.mono (jT yd Ao))) (jT Ao xm.size) (fun j hj xw=>(xm.block j (jL hj Ao)).trans (CN.out j hj xw))
  ·have hr:bG x ⟨#[109,105,115,115]⟩ ns=none:=by
    rw [H3.out oM (ns[2]'oM) rfl]; generalize ns[2]'oM=b2; rw [show bG x ⟨#[109,105,115,115]⟩ [a0,a1,b2]=(dA ⟨#[109,105,115,115]⟩ a0 a1 b2).bind (cc x) from rfl]; unfold dA; rw [if_neg dD,if_neg dD,if_neg dD,if_neg dD]; rfl
   have HE:Hid (bG x ⟨#[109,105,115,115]⟩ ns=none):=hr
   clear hr
   have Ca:((ns.length:Int) != 2)=true:=by rw [bne_iff_ne]; omega
   obtain ⟨s0,s1,s2,s3⟩:=cells4 K5
   obtain ⟨fs0,fs1,fs2,fs3⟩:=frz4 K5
   have b3:=jZ (b2.setCell (p:=⟨g5,0,none⟩) y5 (O U 5))
   clear K5 b2
   go_wp2_with fail
   go_ret2
   rw [HE.out]
   exact bL.no b3.out
 have f4:(s.toList == [109,105,115,115])=false:=bW h4
 by_cases h5:s=⟨#[109,111,118,101]⟩
 ·subst h5
  by_cases hl:ns.length=3
  ·have yZ:2 < ns.length:=oM
   have FM:(2:Int) < (ns.length:Int):=oM
   obtain ⟨a2,As⟩ : ∃ a,ns[2]'yZ=a:=⟨_,rfl⟩
   have n2w:∀ W:World,Below w.heap.size w W→W.cell? ⟨bN,off+2,none⟩=some (O U a2):=fun W hb=>by have:=Ji.out 2 yZ ⟨W,hb⟩; rw [As] at this; exact this
   have zy:=H3.out hl a2 As
   have hr:bG x ⟨#[109,111,118,101]⟩ ns=cc x ⟨6,a0,a1,a2⟩:=by
    rw [zy,show bG x ⟨#[109,111,118,101]⟩ [a0,a1,a2]=(dA ⟨#[109,111,118,101]⟩ a0 a1 a2).bind (cc x) from rfl]
    unfold dA
    rw [if_neg dD,if_neg dD,if_neg dD,if_pos rfl]; rfl
   clear zy As
   have Ca:((ns.length:Int) != 3)=false:=by rw [hl]; rfl
   have HL:=jZ hl
   clear hl
   have hc:=fun W hW=>iv x ⟨6,a0,a1,a2⟩ W hW
   obtain ⟨R,hR⟩ : ∃ R,gy x.c ⟨6,a0,a1,a2⟩=R:=⟨_,rfl⟩
   rw [hR] at hc
   unfold cc at hr
   rw [hR] at hr
   obtain ⟨s0,s1,s2,s3⟩:=cells4 K5
   obtain ⟨fs0,fs1,fs2,fs3⟩:=frz4 K5
   have n2c:=n2w w2 b2
   go_upto_region 21 with fail
   have K6:ai ((w2.setCell ⟨g5,0,none⟩ (O U 6)).setCell ⟨g5,3,none⟩ (O U a2)) g5 112 [O U 6,O U a0,O U a1,O U a2]:=((K5.set 0 (O U 6)).set 3 (O U a2))
   have b3:=((b2.setCell (p:=⟨g5,0,none⟩) y5 (O U 6)).setCell (p:=⟨g5,3,none⟩) y5 (O U a2))
   clear K5 b2 s0 s1 s2 s3 fs0 fs1 fs2 fs3 n2c
   generalize ((w2.setCell ⟨g5,0,none⟩ (O U 6)).setCell ⟨g5,3,none⟩ (O U a2))=w3 at K6 b3 ⊢
   have K5:=K6
   clear K6
   have zd:=hL.below b3 hL.lt
   have yU:=h.up b3 nR
   obtain ⟨y,hy⟩ : ∃ y,cQ R=y:=⟨_,rfl⟩
   obtain ⟨ok,xq⟩ : ∃ ok,R.isSome=ok:=⟨_,rfl⟩
   have HR:=jZ hR
   have HY:=jZ hy
   have xF:=jZ xq
   unfold aE at hc
   rw [hy,xq] at hc
   clear hR hy xq
   refine al (fun _=>(fun W9=>Below w3.heap.size w3 W9)) (fun i w1 w2=>i ∉ [10]→Below w1.heap.size w1 w2) kZ kZ kZ jB.drew ?_
   simp only [ax,Act.put,sA,gs0,gs1,Nat.zero_add,Nat.reduceAdd]
   refine aa _ vp0 ?_
   refine aa _ (vp1 0) ?_
   refine aa _ (vp1 1) ?_
   refine aa _ (vp1C5 2 zd) ?_
   refine aa _ (vp0C4 K5) ?_
   refine sm [10] (fun v w9=>∃ TA tc OA oc,v=.tuple #[.agg #[F TA y.t.length tc,F OA y.o.length oc,O U y.gt,O U y.sd,O U y.ms],.bool ok]∧w9.ownsRow w.heap.size 104 2 (F TA y.t.length tc) y.t.length (y.t.flatMap ar.enc)∧w9.ownsRow w.heap.size 147 3 (F OA y.o.length oc) y.o.length (y.o.flatMap ae.enc)) (fun vs L9 w9 xl xj hB K9 xk=>?_) ?_
   next =>
    have d3:=fe hB 3
    have d4:=fe hB 4
    simp only [d3,d4] at xk ⊢
    simp only [Act.put,sA,gs0,gs1] at xk
    go_simp
    refine (hc w9 (yU.then xj)).mono ?_
    rintro en w8 ⟨TA,tc,OA,oc,rfl,h1,h2,xm⟩
    simp only [Oc.at,aN.val]
    exact xk _ _ _ rfl ⟨TA,tc,OA,oc,rfl,ag h1 (jT b3.size xj.size),ag h2 (jT b3.size xj.size)⟩ (xj.trans (xm.mono xj.size)) (fun _=>xm)
   refine pm0 [] 5 (fun u v w9=>v=u∧∃ TA tc OA oc,u=.tuple #[.agg #[F TA y.t.length tc,F OA y.o.length oc,O U y.gt,O U y.sd,O U y.ms],.bool ok]) (fun vs L9 w9 xl xj hB K9 xk=>?_) ?_
   next =>
    obtain ⟨TA,tc,OA,oc,e0,h1,h2⟩:=fs hB 5
    simp only [e0] at xk ⊢
    go_simp
    exact xk _ _ _ rfl ⟨rfl,TA,tc,OA,oc,rfl⟩ xj bR
   refine sm [10] (fun v w9=>∃ TA tc OA oc,v=.agg #[F TA y.t.length tc,F OA y.o.length oc,O U y.gt,O U y.sd,O U y.ms]∧w9.ownsRow w.heap.size 104 2 (F TA y.t.length tc) y.t.length (y.t.flatMap ar.enc)∧w9.ownsRow w.heap.size 147 3 (F OA y.o.length oc) y.o.length (y.o.flatMap ae.enc)) (fun vs L9 w9 xl xj hB K9 xk=>?_) ?_
   next =>
    simp only [Act.put,sA,gs0,gs1] at xk
    obtain ⟨TA,tc,OA,oc,e0,h1,h2⟩:=fs hB 5
    obtain ⟨e6,_⟩:=fs hB 6
    simp only [e6,e0] at xk ⊢
    go_simp
    exact xk _ _ _ rfl ⟨TA,tc,OA,oc,rfl,h1,h2⟩ xj bR
   refine aa (.bool ok) (fun vs L9 w9 xl xj hB K9 xk=>?_) ?_
   next =>
    obtain ⟨e6,TA,tc,OA,oc,e0⟩:=fs hB 6
    simp only [e6,e0] at xk ⊢
    go_simp
    exact xk _ _ rfl xj bR
   refine sm [10] (fun v w9=>∃ g9,v=.pointer (some ⟨g9,0,none⟩)∧w3.heap.size≤g9∧ai w9 g9 40 [F none 0 0,F none 0 0,O U 0,O U 0,O U 0]) (fun vs L9 w9 xl xj hB K9 xk=>?_) ?_
   next =>
    simp only [Act.put,sA,gs0,gs1] at xk
    go_simp
    have xm:=(Below.refl w9.heap.size w9).alloc nR (.cells #[F none 0 0,F none 0 0,O U 0,O U 0,O U 0] 40)
    exact xk _ _ _ rfl ⟨_,rfl,xj.size,ai.new w9 40 #[F none 0 0,F none 0 0,O U 0,O U 0,O U 0]⟩ (xj.trans (xm.mono xj.size)) (fun _=>xm)
   refine pm [] 9 (fun u _ w9=>∃ g9 TA tc OA oc,u=.pointer (some ⟨g9,0,none⟩)∧w3.heap.size≤g9∧ai w9 g9 40 [F TA y.t.length tc,F OA y.o.length oc,O U y.gt,O U y.sd,O U y.ms]∧w9.ownsRow w.heap.size 104 2 (F TA y.t.length tc) y.t.length (y.t.flatMap ar.enc)∧w9.ownsRow w.heap.size 147 3 (F OA y.o.length oc) y.o.length (y.o.flatMap ae.enc)) (fun vs L9 w9 xl xj hB K9 xk=>?_) ?_
   next =>
    obtain ⟨g9,BW,yY,xS⟩:=fs hB 9
    simp only [BW] at xk ⊢
    obtain ⟨TA,tc,OA,oc,e0,h1,h2⟩:=fs hB 7
    simp only [e0] at xk ⊢
    obtain ⟨z0,z1,z2,z3,z4⟩:=cells5 xS
    obtain ⟨f0,f1,f2,f3,f4⟩:=frz5 xS
    have xO:=jZ (show ai _ g9 40 [F TA y.t.length tc,F OA y.o.length oc,O U y.gt,O U y.sd,O U y.ms] from uG (xS) (F TA y.t.length tc) (F OA y.o.length oc) (O U y.gt) (O U y.sd) (O U y.ms))
    have yl:=jZ (xj.grown (row:=some g9) (gw5 _ g9 (F TA y.t.length tc) (F OA y.o.length oc) (O U y.gt) (O U y.sd) (O U y.ms)) xj.size (by rintro _ ⟨⟩; exact yY))
    have zA:=jZ (ak h1 xS fB (gw5 _ g9 (F TA y.t.length tc) (F OA y.o.length oc) (O U y.gt) (O U y.sd) (O U y.ms)))
    have xI:=jZ (ak h2 xS fj (gw5 _ g9 (F TA y.t.length tc) (F OA y.o.length oc) (O U y.gt) (O U y.sd) (O U y.ms)))
    clear xS
    go_simp
    exact xk _ undef _ rfl ⟨g9,TA,tc,OA,oc,rfl,yY,xO.out,zA.out,xI.out⟩ yl.out nq
   refine aa _ (vp1 8) ?_
   refine au fun vs L9 w4 xv xj hB=>?_
   obtain ⟨gt,TA,tc,OA,oc,Ab,AJ,Kt,xQ,xL⟩:=hB 10 _ rfl rfl dD
   have dl:=ah.eq (hB 11 _ rfl rfl dD)
   simp only [Ab,dl]
   clear hB xv Ab dl
   have b4:=b3.trans (xj.mono b3.size)
   cases R with
   | none =>
    have e1:ok=false:=xF.out.symm
    subst e1
    have HE:Hid (bG x ⟨#[109,111,118,101]⟩ ns=none):=hr
    clear hr
    clear Kt K5 zd yU xQ xL HY
    go_wp2_with fail
    go_ret2
    rw [HE.out]
    exact bL.no b4
   | some z =>
   have e1:ok=true:=xF.out.symm
   subst e1
   have e2:z=y:=HY.out
   subst e2
   have y8:=HR.out
   have HE:Hid (bG x ⟨#[109,111,118,101]⟩ ns=some (z,iK z.off ⟨6,a0,a1,a2⟩)):=hr
   clear hr
   have yb:=hL.below b4 hL.lt
   have yF:g < gt:=jL hL.lt (jT b3.size AJ)
   have yd:W0.heap.size≤w.heap.size:=hb0.size
   obtain ⟨w5,AZ,M,b5,gr5,OT⟩:=jh yb (b4.mono yd) hB (F TA z.t.length tc) (F OA z.o.length oc) (O U z.gt) (O U z.sd) (O U z.ms)
   have Mt:=OT _ _ _ oM Kt
   have yK:=ak xQ yb eZ gr5
   have yL:=ak xL yb fa gr5
   have CN:Hid (∀ j,j < w.heap.size→j ≠ g→w5.heap[j]?=w.heap[j]?):=fun j hj xw=>(gr5.block j (jL hj b4.size) (by intro e; injection e with e; exact xw e)).trans (b4.block j hj)
   have n0c:=mJ gr5 (jL hbN b4.size) KJ (n0w w4 b4)
   have Ao:w.heap.size≤w5.heap.size:=jT b4.size gr5.size
   obtain ⟨z0,z1,z2,z3,z4⟩:=cells5 Kt
   obtain ⟨k0,k1,k2,k3,k4,k5,k6,k7⟩:=cells8 yb
   obtain ⟨f0,f1,f2,f3,f4,f5,f6,f7⟩:=frz8 yb
   go_upto_region 25 with fail
   clear z0 z1 z2 z3 z4 k0 k1 k2 k3 k4 k5 k6 k7 f0 f1 f2 f3 f4 yb gr5 zd yU K5
   rw [AZ.out]
   clear AZ OT
   have b05:=hb0.trans b5
   have DI:=ht.then b05
   have DJ:w.heap.size≤gt:=jT b3.size AJ
   have DK:aC w5 w.heap.size gt (F TA z.t.length tc) (F OA z.o.length oc) z:=⟨Mt,DJ,yK,yL⟩
   have hat:=aC.at_ DK
   have yT:=fL y8
   have GZ:bK (z.at TA tc OA oc):=Oc.good_off yT.1 TA tc OA oc
   have AK:cn w5 W0.heap.size g z l:=⟨TA,tc,OA,oc,M,ag yK yd,ag yL yd⟩
   obtain ⟨z0,z1,z2,z3,z4⟩:=cells5 Mt
   obtain ⟨i,hi⟩:=gJ (ts:=z.t) (kd:=a0) (of_decide_eq_true (by rw [dP]; exact yT.2))
   obtain ⟨zH,zE⟩:=ir hi
   have zG:=ik (z.at TA tc OA oc) gt i a0 w5 hat GZ hi zH DI
   have Ii:eH z.off a0=rC (bM (z.t[i]'zH).c) (bM (aW (bE a0) z.o)):=by
    unfold eH
    rw [if_pos (show (ap z.off && aS z.off.t a0)=true from by rw [show ap z.off=true from yT.1]; exact yT.2)]
    unfold mD
    show rC (bM (z.t.getD (ay z.t a0).toNat default).c) _=_
    rw [hi,Int.toNat_natCast,eM zH]
    rfl
   go_wp2_with fail
   refine zG.mono ?_
   rintro e W7 ⟨rfl,xm⟩
   go_wp2
   go_ret2
   rw [HE.out]
   exact bL.yes Ii (AK.below xm) (b5.trans (xm.mono (jT yd Ao))) (jT Ao xm.size) (fun j hj xw=>(xm.block j (jL hj Ao)).trans (CN.out j hj xw))
  ·have hr:bG x ⟨#[109,111,118,101]⟩ ns=none:=by
    rw [H2.out oM]; rw [show bG x ⟨#[109,111,118,101]⟩ [a0,a1]=(cZ ⟨#[109,111,118,101]⟩ a0 a1).bind (cc x) from rfl]; unfold cZ; rw [if_neg dD,if_neg dD]; rfl
   have HE:Hid (bG x ⟨#[109,111,118,101]⟩ ns=none):=hr
   clear hr
   have Ca:((ns.length:Int) != 3)=true:=by rw [bne_iff_ne]; omega
   obtain ⟨s0,s1,s2,s3⟩:=cells4 K5
   obtain ⟨fs0,fs1,fs2,fs3⟩:=frz4 K5
   have b3:=jZ (b2.setCell (p:=⟨g5,0,none⟩) y5 (O U 6))
   clear K5 b2
   go_wp2_with fail
   go_ret2
   rw [HE.out]
   exact bL.no b3.out
 have f5:(s.toList == [109,111,118,101])=false:=bW h5
 have hr:bG x s ns=none:=by
  rcases Nat.lt_or_ge ns.length 3 with hl | hl
  ·rw [H2.out oM,show bG x s [a0,a1]=(cZ s a0 a1).bind (cc x) from rfl]; unfold cZ; rw [if_neg h0,if_neg h4]; rfl
  ·rw [H3.out oM (ns[2]'oM) rfl]; generalize ns[2]'oM=b2
   rw [show bG x s [a0,a1,b2]=(dA s a0 a1 b2).bind (cc x) from rfl]; unfold dA; rw [if_neg h1,if_neg h2,if_neg h3,if_neg h5]; rfl
 have HE:Hid (bG x s ns=none):=hr
 clear hr h0 h1 h2 h3 h4 h5
 go_wp2_with fail
 go_ret2
 rw [HE.out]
 exact bL.no b2
theorem bL.then {w w1 w' : World} {B g:Nat} {x:aN} {l:Lg} {R:Option (Oc × ByteArray)} {e:Ending} (hb:Below w.heap.size w w1) (DL:B≤w.heap.size) (h:bL w1 B g x l R e w'):bL w B g x l R e w':=by
 rcases h with ⟨h1,h2,h3⟩ | ⟨z,r,h1,h2,h3,h4,h5,h6⟩
 ·exact .inl ⟨h1,h2,av hb h3⟩
 ·exact .inr ⟨z,r,h1,h2,h3,(hb.mono DL).trans h4,jT hb.size h5,fun j hj xw=>(h6 j (jL hj hb.size) xw).trans (hb.block j hj)⟩
theorem bL.ofT {w w' : World} {B g:Nat} {x:aN} {l:Lg} {R:Option ByteArray} {e:Ending} (h:ed w R e w') (AK:cn w B g x.c l) (DL:B≤w.heap.size):bL w B g x l (R.map (x.c,·)) e w':=by
 obtain ⟨⟨s,rfl,h2⟩,h3⟩:=h
 cases R with
 | none=>exact .inl ⟨rfl,⟨s,rfl⟩,h3⟩
 | some r =>
  have:=h2 r rfl
  subst this
  exact .inr ⟨x.c,s,rfl,rfl,AK.below h3,h3.mono DL,h3.size,fun j hj _=>h3.block j hj⟩
theorem bL.form {w w' : World} {B g:Nat} {x:aN} {l:Lg} {R:Option (Oc × ByteArray)} {e:Ending} (h:bL w B g x l R e w'):∃ s b,e=.returned (.tuple #[xh s,.bool b]):=by
 rcases h with ⟨_,⟨s,h2⟩,_⟩ | ⟨z,r,_,h2,_⟩
 ·exact ⟨s,false,h2⟩
 ·exact ⟨r,true,h2⟩
theorem vR {m:List Int} {rest:List Value} {k:Nat} (h:k < m.length):(bj m++rest)[k]?=some (O U m[k]):=by
 rw [List.getElem?_append_left (by simpa using h),List.getElem?_map,List.getElem?_eq_getElem h]; rfl
set_option maxRecDepth 100000 in
theorem rR (x:aN) (l:Lg) (line:ByteArray) (g:Nat) (W0 w:World) (hL:ai w g 42 [F x.TA x.t.length x.tc,F x.OA x.o.length x.oc,O U x.gt,O U x.sd,O U x.ms,xh l.D,xh l.P,O U l.n]) (hB:W0.heap.size≤g) (hb0:Below W0.heap.size W0 w)
  (hT:w.ownsRow W0.heap.size 104 2 (F x.TA x.t.length x.tc) x.t.length (x.t.flatMap ar.enc)) (hO:w.ownsRow W0.heap.size 147 3 (F x.OA x.o.length x.oc) x.o.length (x.o.flatMap ae.enc)) (G:bK x) (hs:line.size≤1000) (Ap:LW W0) :
  Calls xi 52 #[.pointer (some ⟨g,0,none⟩),xh line] w (bL w W0.heap.size g x l (jg x line)):=by
 have Gn:=Ap.then hb0
 have DL:W0.heap.size≤w.heap.size:=hb0.size
 have hR:aQ w w.heap.size x:=⟨an hT,an hO⟩
 have AK:cn w W0.heap.size g x.c l:=⟨x.TA,x.tc,x.OA,x.oc,hL,hT,hO⟩
 have FD:=uX line 32 w oM Gn
 have Hv:=ky (b:=32) (n:=1000) (s:=bl line) (by rw [ao]; exact hs)
 have FE:=kx (b:=32) (n:=1000) (s:=bl line) (by rw [ao]; exact hs)
 have DZ:=jZ (fun h=>rH (x:=x) (line:=line) h)
 have CH:=jZ (fun ns h=>rI (x:=x) (line:=line) (ns:=ns) h)
 have DB:Hid (wd (bl line) 0=⟨((aH 32 (bl line)).getD 0 []).toArray⟩):=rfl
 obtain ⟨ps,Bg⟩ : ∃ ps,aH 32 (bl line)=ps:=⟨_,rfl⟩
 simp only [Bg] at FD Hv FE DZ CH DB
 have Es:=jZ FE
 obtain ⟨Cv,Ec⟩:=Hv
 obtain ⟨R,LZ⟩ : ∃ R,jg x line=R:=⟨_,rfl⟩
 rw [LZ] at DZ CH ⊢
 obtain ⟨w0,Hw⟩ : ∃ w0,wd (bl line) 0=w0:=⟨_,rfl⟩
 rw [Hw] at CH DB
 clear Bg FE LZ Hw hT hO
 go_enter Tryz.func52,Tryz.ntmps52
 go_wp2_with fail
 refine FD.mono ?_
 rintro e w3 ⟨rfl,L8,xB⟩
 have S3:=jZ (vN.mk (w:=w) (v:=F none 0 0) (m:=[]) (rest:=[]) xB (by rw [List.append_nil]; exact L8) (World.ownsRow_nil _ _ _ _))
 clear xB FD L8
 obtain ⟨N1,NC⟩ : ∃ N1,ps.length=N1+1:=⟨ps.length - 1,oM⟩
 rw [NC]
 generalize xP:w.heap.size=g8 at S3 ⊢
 by_cases h0N:N1=0
 ·subst h0N
  go_wp2_with fail
  go_loopw [7,9,10,11,17] (fun o _ _ _ i wr=>i=O U 0∧o=F none 0 0∧Hid (vN w wr g8 ps [] (F none 0 0) [])) (fun _ _ _ _ _ _=>0)
  case atStart=>exact ⟨rfl,rfl,S3⟩
  case round =>
   clear S3
   obtain ⟨rfl,rfl,HS⟩:=hrel
   have Jj:dW (ps.drop 1)=some []:=by rw [List.drop_eq_nil_of_le oM]; rfl
   obtain ⟨m,Hl⟩ : ∃ m:List Int,([] : List Int)=m:=⟨_,rfl⟩
   rw [Hl] at HS Jj
   have e0:m.length=0:=by rw [← Hl]; rfl
   clear Hl
   have DD:Hid (dW (ps.drop 1)=some m):=Jj
   have HE:=jZ (CH.out m DD.out)
   have S:=HS.out
   have bw:=S.bl
   have CX:=hL.below bw hL.lt
   have FN:=hR.then bw
   have LW8:=S.ws
   have zF:=S.row
   have EB:=AK.below bw
   have DM:=(Gn.then bw).tab
   have hb0r:=hb0.trans (bw.mono DL)
   have KK:W0.heap.size≤wr.heap.size:=hb0r.size
   have c80:wr.cell? ⟨g8,0,none⟩=some (xh w0):=by
    rw [LW8.cell,DB.out,eM (by omega:0 < ps.length)]; exact iu ps _ _ oM
   have HB:=jZ bw
   have yH:=HE.out
   clear DZ CH DB Es AK hL hR Gn HE bw
   rw [oI e0] at yH
   have hc:=pK x l w0 g wr CX FN G DM
   subst yH
   go_wp2_with fail
   refine hc.mono ?_
   rintro e w7 hG
   have hM:=bL.then HB.out DL (bL.ofT hG EB KK)
   obtain ⟨s,b,rfl⟩:=hM.form
   have HM:=jZ hM
   clear hM hG
   go_wp2_with fail
   go_ret2
   exact HM.out
 ·have OF:0 < N1:=oM
  go_wp2_with fail
  go_loopw [7,9,10,11,17] (fun o _ _ _ i wr=>∃ (k:Nat) (A:Option Addr) (c:Nat) (m:List Int),k≤N1∧i=O U k∧o=F A m.length c∧m.length≤k∧Hid (vN w wr g8 ps [] (F A m.length c) m)∧Hid (gK m (ps.drop (k+1))=dW (ps.drop 1))) (fun _ _ _ _ i _=>N1 - (intOf i).toNat)
  case atStart=>exact ⟨0,none,0,[],Nat.zero_le _,rfl,rfl,Nat.zero_le _,S3,nb _⟩
  case round =>
   clear S3
   obtain ⟨k,A,c,m,hk,rfl,rfl,Hp,HS,DC⟩:=hrel
   by_cases xu:k < N1
   ·have FO:k+1 < ps.length:=oM
    have Cg:(k:Int) < (N1:Int):=oM
    have c0:wr.cell? ⟨g8,1+k,none⟩=some (xh ⟨(ps[k+1]'FO).toArray⟩):=by
     rw [HS.out.ws.cell,Nat.add_comm 1 k]; exact iu ps _ _ FO
    have ht:=Es.out (ps[k+1]'FO) (List.getElem_mem _)
    obtain ⟨t,FF⟩ : ∃ t:ByteArray,t=⟨(ps[k+1]'FO).toArray⟩:=⟨_,rfl⟩
    have Aq:bl t=ps[k+1]'FO:=by rw [FF,bO]
    rw [← FF] at c0
    have Np:t.size≤1000:=by rw [← ao,Aq]; exact ht
    clear FF ht
    have EQ:Hid (df (bl t)=none→dW (ps.drop 1)=none):=fun hn=>by
     rw [← DC.out]; exact nc FO (by rw [← Aq]; exact hn)
    have Hx:Hid (∀ n,df (bl t)=some n→gK (m++[n]) (ps.drop (k+1+1))=dW (ps.drop 1)):=fun n hn=>by
     rw [← DC.out]; exact (nd FO (by rw [← Aq]; exact hn)).symm
    have CI:=fun W hW=>qz t W oM hW
    have CX:=Gn.then HS.out.bl
    unfold jy at CI
    obtain ⟨q,hq⟩ : ∃ q,df (bl t)=q:=⟨_,rfl⟩
    rw [hq] at EQ Hx CI
    clear hq Aq
    cases q with
    | none =>
     have HE:=DZ.out (EQ.out rfl)
     simp only [Option.isSome_none,Option.getD_none] at CI
     rw [HE]
     clear HE
     go_wp2_with fail
     refine (CI _ CX).mono ?_
     rintro e w4 ⟨rfl,xy⟩
     have b5:=jZ (av HS.out.bl xy)
     clear xy HS DC
     go_wp2_with fail
     go_ret2
     exact bL.no b5.out
    | some n =>
     have HN:=jZ (Hx.out n rfl)
     simp only [Option.isSome_some,Option.getD_some] at CI
     go_wp2_with fail
     refine (CI _ CX).mono ?_
     rintro e w4 ⟨rfl,xy⟩
     have Ek:=jZ (HS.out.then xy)
     have Ky:=jZ Ek.out.row
     have xY:w.heap.size≤w4.heap.size:=Ek.out.bl.size
     go_wp2_with (at_builtin; refine cw (w0:=w4) rfl _ _ 100 rfl 3 _ 1 8 Tryz.underlying100 i8 rfl (by omega) (by omega) w.heap.size _ _ _ rfl Ky #[O U n] 1 _ rfl (by first | rfl | exact Array.size_push _) rfl (by simp [Value.oneCell']) (by omega) xY rfl rfl rfl rfl ?_; intro v6 w6 Dw zo xT)
     have FG:=jZ (Ek.out.push (n:=n) Dw.out zo xT)
     obtain ⟨A6,c6,Hk⟩:=az Dw.out
     subst Hk
     go_wp2
     go_roundw
     case rel=>exact ⟨k+1,A6,c6,m++[n],oM,by go_num,sP,by simp; omega,by rw [Hid]; simpa using FG.out,HN.out⟩
     case measure=>simp [intOf]; omega
   ·have Cg : ¬ (k:Int) < (N1:Int):=oM
    have Jj:dW (ps.drop 1)=some m:=by
     have h1:=DC.out; rw [List.drop_eq_nil_of_le oM,oE] at h1; exact h1.symm
    have Il:=hL.lt
    have DD:Hid (dW (ps.drop 1)=some m):=Jj
    have HE:=jZ (CH.out m DD.out)
    have S:=HS.out
    have bw:=S.bl
    have CX:=hL.below bw hL.lt
    have FN:=hR.then bw
    have LW8:=S.ws
    have zF:=S.row
    have EB:=AK.below bw
    have DM:=(Gn.then bw).tab
    have hb0r:=hb0.trans (bw.mono DL)
    have KK:W0.heap.size≤wr.heap.size:=hb0r.size
    have c80:wr.cell? ⟨g8,0,none⟩=some (xh w0):=by
     rw [LW8.cell,DB.out,eM (by omega:0 < ps.length)]; exact iu ps _ _ oM
    have hpsN:0 < N1+1:=oM
    have HB:=jZ bw
    have yH:=HE.out
    clear DZ CH DB Es AK hL hR Gn HE bw
    clear DC
    by_cases e0:m.length=0
    ·have z0:((m.length:Int) == 0)=true:=by rw [e0]; rfl
     have z1:((m.length:Int) == 1)=false:=beq_false_of_ne oM
     have z2:((m.length:Int) == 2)=false:=beq_false_of_ne oM
     have z3:((m.length:Int) == 3)=false:=beq_false_of_ne oM
     rw [oI e0] at yH
     have hc:=pK x l w0 g wr CX FN G DM
     subst yH
     go_wp2_with fail
     refine hc.mono ?_
     rintro e w7 hG
     have hM:=bL.then HB.out DL (bL.ofT hG EB KK)
     obtain ⟨s,b,rfl⟩:=hM.form
     have HM:=jZ hM
     clear hM hG
     go_wp2_with fail
     go_ret2
     exact HM.out
    by_cases e1:m.length=1
    ·have z0:((m.length:Int) == 0)=false:=beq_false_of_ne oM
     have z1:((m.length:Int) == 1)=true:=by rw [e1]; rfl
     have z2:((m.length:Int) == 2)=false:=beq_false_of_ne oM
     have z3:((m.length:Int) == 3)=false:=beq_false_of_ne oM
     obtain ⟨gN,cN,rN,hv,hgN,LN,_⟩:=cg zF oM
     injection hv with ea eb ec
     subst ea; subst ec
     clear eb
     have Hy:(0:Int) < (m.length:Int):=oM
     have zj:0 < m.length:=oM
     have d0n:wr.cell? ⟨gN,0,none⟩=some (O U (m[0]'zj)):=by rw [LN.cell]; exact vR zj
     rw [t6 e1 zj] at yH
     obtain ⟨a0,AD⟩ : ∃ a,m[0]'zj=a:=⟨_,rfl⟩
     rw [AD] at d0n yH
     clear AD
     cases hq:ia x w0 a0 with
     | none =>
      have hc:∀ W,ai W g 42 [F x.TA x.t.length x.tc,F x.OA x.o.length x.oc,O U x.gt,O U x.sd,O U x.ms,xh l.D,xh l.P,O U l.n]→aQ W W.heap.size x→jj W→Calls xi 98 #[.pointer (some ⟨g,0,none⟩),xh w0,O U a0] W fun e w'=>(∃ s,e=.returned (.tuple #[xh s,.bool false]))∧Below W.heap.size W w':=fun W hL hR hT=>by
       have:=t7 x l w0 a0 g W hL hR G hT
       rw [hq] at this
       exact this.mono fun _ _ ⟨⟨s,h1,_⟩,h2⟩=>⟨⟨s,h1⟩,h2⟩
      rw [hq] at yH
      simp only [Option.map_none] at yH
      clear hq
      subst yH
      go_wp2_with fail
      refine al (fun _=>(fun W9=>Below wr.heap.size wr W9)) (fun _ w1 w2=>Below w1.heap.size w1 w2) kZ kZ kZ jB.drew ?_
      simp only [ax,Act.put,sA,gs0,gs1,Nat.zero_add,Nat.reduceAdd]
      refine aa _ vp0 ?_
      refine aa _ vp0 ?_
      refine aa _ (vp1 1) ?_
      refine aa _ (vp1dt 2 LW8.lt c80) ?_
      refine aa _ vp0 ?_
      refine aa _ (vp1 4) ?_
      refine aa _ (vp1dt 5 LN.lt d0n) ?_
      refine sm0 [] (fun v _=>∃ s,v=.tuple #[xh s,.bool false]) (fun vs L9 w9 xl xj hB K9 xk=>?_) ?_
      next =>
       have d0:=fe hB 0
       have d3:=fe hB 3
       have d6:=fe hB 6
       simp only [d0,d3,d6] at xk ⊢
       simp only [Act.put,sA,gs0,gs1] at xk
       go_simp
       refine (hc w9 (CX.below xj CX.lt) (FN.then xj) (DM.then xj)).mono ?_
       rintro en w8 ⟨⟨s,rfl⟩,xm⟩
       exact xk _ _ _ rfl ⟨s,rfl⟩ (xj.trans (xm.mono xj.size)) (xm)
      refine sm0 [] (fun v _=>∃ s,v=xh s) (fun vs L9 w9 xl xj hB K9 xk=>?_) ?_
      next =>
       simp only [Act.put,sA,gs0,gs1] at xk
       obtain ⟨s,e0⟩:=fs hB 7
       simp only [e0] at xk ⊢
       go_simp
       exact xk _ _ _ rfl ⟨s,rfl⟩ xj jB
      refine aa (.bool false) (fun vs L9 w9 xl xj hB K9 xk=>?_) ?_
      next =>
       obtain ⟨s,e0⟩:=fs hB 7
       simp only [e0] at xk ⊢
       go_simp
       exact xk _ _ rfl xj jB
      refine sm0 [] (fun v _=>∃ s,v=xh s) (fun vs L9 w9 xl xj hB K9 xk=>?_) ?_
      next =>
       simp only [Act.put,sA,gs0,gs1] at xk
       obtain ⟨s,e0⟩:=fs hB 8
       simp only [e0] at xk ⊢
       go_simp
       exact xk _ _ _ rfl ⟨s,rfl⟩ xj jB
      refine aa _ (vp1 9) ?_
      refine au fun vs L9 w9 xv xj hB=>?_
      obtain ⟨s,dl⟩:=hB 10 _ rfl rfl dD
      have dm:=ah.eq (hB 11 _ rfl rfl dD)
      simp only [dl,dm]
      clear hB dl dm
      have FP:=jZ (av HB.out xj)
      go_wp2_with fail
      go_ret2
      exact bL.no FP.out
     | some rp =>
      have hc:∀ W,ai W g 42 [F x.TA x.t.length x.tc,F x.OA x.o.length x.oc,O U x.gt,O U x.sd,O U x.ms,xh l.D,xh l.P,O U l.n]→aQ W W.heap.size x→jj W→Calls xi 98 #[.pointer (some ⟨g,0,none⟩),xh w0,O U a0] W fun e w'=>e=.returned (.tuple #[xh rp,.bool true])∧Below W.heap.size W w':=fun W hL hR hT=>by
       have:=t7 x l w0 a0 g W hL hR G hT
       rw [hq] at this
       exact this.mono fun _ _ ⟨⟨s,h1,h3⟩,h2⟩=>⟨by rw [h1,h3 rp rfl]; rfl,h2⟩
      rw [hq] at yH
      simp only [Option.map_some] at yH
      clear hq
      subst yH
      go_wp2_with fail
      refine al (fun _=>(fun W9=>Below wr.heap.size wr W9)) (fun _ w1 w2=>Below w1.heap.size w1 w2) kZ kZ kZ jB.drew ?_
      simp only [ax,Act.put,sA,gs0,gs1,Nat.zero_add,Nat.reduceAdd]
      refine aa _ vp0 ?_
      refine aa _ vp0 ?_
      refine aa _ (vp1 1) ?_
      refine aa _ (vp1dt 2 LW8.lt c80) ?_
      refine aa _ vp0 ?_
      refine aa _ (vp1 4) ?_
      refine aa _ (vp1dt 5 LN.lt d0n) ?_
      refine aa (.tuple #[xh rp,.bool true]) (fun vs L9 w9 xl xj hB K9 xk=>?_) ?_
      next =>
       have d0:=fe hB 0
       have d3:=fe hB 3
       have d6:=fe hB 6
       simp only [d0,d3,d6] at xk ⊢
       go_simp
       refine (hc w9 (CX.below xj CX.lt) (FN.then xj) (DM.then xj)).mono ?_
       rintro en w8 ⟨rfl,xm⟩
       exact xk _ _ rfl (xj.trans (xm.mono xj.size)) (xm)
      refine aa _ (vp1 7) ?_
      refine aa _ (vp1 7) ?_
      refine aa _ (vp1 8) ?_
      refine aa _ (vp1 9) ?_
      refine au fun vs L9 w9 xv xj hB=>?_
      have dl:=ah.eq (hB 10 _ rfl rfl dD)
      have dm:=ah.eq (hB 11 _ rfl rfl dD)
      simp only [dl,dm]
      clear hB dl dm
      have FP:=jZ (av HB.out xj)
      have ND:=jZ (EB.below xj)
      go_wp2_with fail
      go_ret2
      exact bL.yes rfl ND.out (FP.out.mono DL) FP.out.size (fun j hj _=>FP.out.block j hj)
    by_cases e2:m.length=2
    ·have z0:((m.length:Int) == 0)=false:=beq_false_of_ne oM
     have z1:((m.length:Int) == 1)=false:=beq_false_of_ne oM
     have z2:((m.length:Int) == 2)=true:=by rw [e2]; rfl
     have z3:((m.length:Int) == 3)=false:=beq_false_of_ne oM
     obtain ⟨gN,cN,rN,hv,hgN,LN,_⟩:=cg zF oM
     injection hv with ea eb ec
     subst ea; subst ec
     clear eb
     have Hy:(0:Int) < (m.length:Int):=oM
     have zj:0 < m.length:=oM
     have hc:=rQ x l w0 (some ⟨gN,0,none⟩) c m oM oM g W0 wr CX hB hb0r FN (an zF) (by intro e; injection e with e; have h1:=hgN; have h2:=Il; simp only at e; omega) Ap.tab
     subst yH
     rw [e2] at hc
     have HC:=jZ hc
     clear hc
     go_upto_region 18 with fail
     go_wp2_with fail
     refine HC.out.mono ?_
     rintro e w7 hG
     have hM:=bL.then HB.out DL hG
     obtain ⟨s,b,rfl⟩:=hM.form
     have HM:=jZ hM
     clear hM hG
     go_wp2_with fail
     go_ret2
     exact HM.out
    by_cases e3:m.length=3
    ·have z0:((m.length:Int) == 0)=false:=beq_false_of_ne oM
     have z1:((m.length:Int) == 1)=false:=beq_false_of_ne oM
     have z2:((m.length:Int) == 2)=false:=beq_false_of_ne oM
     have z3:((m.length:Int) == 3)=true:=by rw [e3]; rfl
     obtain ⟨gN,cN,rN,hv,hgN,LN,_⟩:=cg zF oM
     injection hv with ea eb ec
     subst ea; subst ec
     clear eb
     have Hy:(0:Int) < (m.length:Int):=oM
     have zj:0 < m.length:=oM
     have hc:=rQ x l w0 (some ⟨gN,0,none⟩) c m oM oM g W0 wr CX hB hb0r FN (an zF) (by intro e; injection e with e; have h1:=hgN; have h2:=Il; simp only at e; omega) Ap.tab
     subst yH
     rw [e3] at hc
     have HC:=jZ hc
     clear hc
     go_upto_region 18 with fail
     go_wp2_with fail
     refine HC.out.mono ?_
     rintro e w7 hG
     have hM:=bL.then HB.out DL hG
     obtain ⟨s,b,rfl⟩:=hM.form
     have HM:=jZ hM
     clear hM hG
     go_wp2_with fail
     go_ret2
     exact HM.out
    have z0:((m.length:Int) == 0)=false:=beq_false_of_ne oM
    have z1:((m.length:Int) == 1)=false:=beq_false_of_ne oM
    have z2:((m.length:Int) == 2)=false:=beq_false_of_ne oM
    have z3:((m.length:Int) == 3)=false:=beq_false_of_ne oM
    rw [rJ oM] at yH
    subst yH
    go_wp2_with fail
    go_ret2
    exact bL.no HB.out
def ua:Option (Oc × ByteArray)→ByteArray
 | none=>⟨#[63]⟩
 | some r=>if 200 < r.2.size then ⟨#[108,111,110,103]⟩ else r.2
theorem uc (x:aN) (line:ByteArray):jv x line=ua (jg x line):=by unfold jv; cases jg x line <;> rfl
theorem ud (x:aN) (line:ByteArray):rE x line=fJ x (jg x line):=by unfold rE; cases jg x line <;> rfl
theorem oN (R:Option (Oc × ByteArray)):(ua R).size≤200:=by
 cases R with
 | none=>show (1:Nat)≤200; omega
 | some r =>
  unfold ua; simp only
  split
  ·show (4:Nat)≤200; omega
  ·omega
theorem oO {w w' : World} {g b:Nat} {t:TypeId} {cs:List Value} (h:∀ j,j < w.heap.size→j ≠ g→w'.heap[j]?=w.heap[j]?) (hL:ai w b t cs) (xw:b ≠ g):ai w' b t cs:=(h b hL.lt xw).trans hL
set_option maxRecDepth 100000 in
theorem uY (x:aN) (l:Lg) (line:ByteArray) (w:World) (h:aQ w w.heap.size x) (tl:x.t.length≤1048576) (ol:x.o.length≤1048576) (hs:l.D.size+l.P.size≤2000000) (Aj:line.size≤1048576) (Ap:LW w) (xq:eu x l=false) :
  Calls xi 16 #[aK x l,xh line] w (cz w x l line):=by
 have L1:=(ai.new w 42 #[F x.TA x.t.length x.tc,F x.OA x.o.length x.oc,O U x.gt,O U x.sd,O U x.ms,xh l.D,xh l.P,O U l.n]).alloc (.cells #[F none 0 0,F none 0 0,O U 0,O U 0,O U 0,xh ⟨#[]⟩,xh ⟨#[]⟩,O U 0] 42)
 have L2:=ai.new1 w (.cells #[F x.TA x.t.length x.tc,F x.OA x.o.length x.oc,O U x.gt,O U x.sd,O U x.ms,xh l.D,xh l.P,O U l.n] 42) 42 #[F none 0 0,F none 0 0,O U 0,O U 0,O U 0,xh ⟨#[]⟩,xh ⟨#[]⟩,O U 0]
 have b1:=bZ w (.cells #[F x.TA x.t.length x.tc,F x.OA x.o.length x.oc,O U x.gt,O U x.sd,O U x.ms,xh l.D,xh l.P,O U l.n] 42)
 have b2:=b1.alloc b1.size (.cells #[F none 0 0,F none 0 0,O U 0,O U 0,O U 0,xh ⟨#[]⟩,xh ⟨#[]⟩,O U 0] 42)
 have hW:=h.up b2 nR
 have xR:w.heap.size≤w.heap.size+1:=oM
 clear b1 h
 go_enter Tryz.func16,Tryz.ntmps16
 go_wp2_with fail
 generalize ((w.alloc (.cells #[F x.TA x.t.length x.tc,F x.OA x.o.length x.oc,O U x.gt,O U x.sd,O U x.ms,xh l.D,xh l.P,O U l.n] 42)).alloc (.cells #[F none 0 0,F none 0 0,O U 0,O U 0,O U 0,xh ⟨#[]⟩,xh ⟨#[]⟩,O U 0] 42))=W at L1 L2 b2 hW ⊢
 refine (eY x l W hW hs (Ap.then b2).tab).mono ?_
 rintro e W3 ⟨rfl,xB⟩
 have K1:=L1.below xB L1.lt
 have K2:=L2.below xB L2.lt
 have b5:=b2.trans (xB.mono b2.size)
 have yh:=hW.then xB
 clear xB L1 L2 b2 hW
 rw [xq]
 go_wp2_with fail
 refine (fM x l w.heap.size W3 K1 yh tl ol).mono ?_
 rintro e W9 ⟨v,rfl,⟨TA,tc,OA,oc,rfl,Ak,Al⟩,hb9⟩
 have Q2:=K2.below hb9 K2.lt
 have b9:=b5.trans (hb9.mono b5.size)
 have ye:=ag Ak b5.size
 have xN:=ag Al b5.size
 obtain ⟨z0,z1,z2,z3,z4,z5,z6,z7⟩:=cells8 Q2
 obtain ⟨f0,f1,f2,f3,f4,f5,f6,f7⟩:=frz8 Q2
 obtain ⟨xQ,xL⟩:=dt (F TA x.c.t.length tc) (F OA x.c.o.length oc) (O U x.c.gt) (O U x.c.sd) (O U x.c.ms) (xh l.D) (xh l.P) (O U l.n) Q2 ye xN
 have bz:=jZ (eW (g:=w.heap.size+1) (b9) xR (F TA x.c.t.length tc) (F OA x.c.o.length oc) (O U x.c.gt) (O U x.c.sd) (O U x.c.ms) (xh l.D) (xh l.P) (O U l.n))
 have DE:=jZ xQ
 have CK:=jZ xL
 clear K1 K2 Q2 b5 b9 hb9 Ak Al ye xN yh xQ xL
 go_wp2_with fail
 refine bodyPost_ret (v:=.tuple #[.agg #[F TA x.c.t.length tc,F OA x.c.o.length oc,O U x.c.gt,O U x.c.sd,O U x.c.ms,xh l.D,xh l.P,O U l.n],xh ⟨#[110,111]⟩]) (by simp [results,Tryz.results16,go_sem, *]) rfl (cz.mk (by unfold gA; rw [if_neg (by rw [xq]; exact Bool.false_ne_true)]) (by unfold fD; rw [if_neg (by rw [xq]; exact Bool.false_ne_true)]) (by unfold fH; rw [if_neg (by rw [xq]; exact Bool.false_ne_true)]) ⟨TA,tc,OA,oc,rfl,DE.out,CK.out⟩ bz.out)
set_option maxRecDepth 100000 in
theorem th (x:aN) (l:Lg) (line:ByteArray) (w:World) (h:aQ w w.heap.size x) (tl:x.t.length≤1048576) (ol:x.o.length≤1048576) (hs:l.D.size+l.P.size≤2000000) (Aj:line.size≤1048576) (Ap:LW w) (xq:eu x l=true) (yP:dj.ok ⟨line,⟨#[]⟩⟩=false) :
  Calls xi 16 #[aK x l,xh line] w (cz w x l line):=by
 have L1:=(ai.new w 42 #[F x.TA x.t.length x.tc,F x.OA x.o.length x.oc,O U x.gt,O U x.sd,O U x.ms,xh l.D,xh l.P,O U l.n]).alloc (.cells #[F none 0 0,F none 0 0,O U 0,O U 0,O U 0,xh ⟨#[]⟩,xh ⟨#[]⟩,O U 0] 42)
 have L2:=ai.new1 w (.cells #[F x.TA x.t.length x.tc,F x.OA x.o.length x.oc,O U x.gt,O U x.sd,O U x.ms,xh l.D,xh l.P,O U l.n] 42) 42 #[F none 0 0,F none 0 0,O U 0,O U 0,O U 0,xh ⟨#[]⟩,xh ⟨#[]⟩,O U 0]
 have b1:=bZ w (.cells #[F x.TA x.t.length x.tc,F x.OA x.o.length x.oc,O U x.gt,O U x.sd,O U x.ms,xh l.D,xh l.P,O U l.n] 42)
 have b2:=b1.alloc b1.size (.cells #[F none 0 0,F none 0 0,O U 0,O U 0,O U 0,xh ⟨#[]⟩,xh ⟨#[]⟩,O U 0] 42)
 have hW:=h.up b2 nR
 have xR:w.heap.size≤w.heap.size+1:=oM
 clear b1 h
 go_enter Tryz.func16,Tryz.ntmps16
 go_wp2_with fail
 generalize ((w.alloc (.cells #[F x.TA x.t.length x.tc,F x.OA x.o.length x.oc,O U x.gt,O U x.sd,O U x.ms,xh l.D,xh l.P,O U l.n] 42)).alloc (.cells #[F none 0 0,F none 0 0,O U 0,O U 0,O U 0,xh ⟨#[]⟩,xh ⟨#[]⟩,O U 0] 42))=W at L1 L2 b2 hW ⊢
 refine (eY x l W hW hs (Ap.then b2).tab).mono ?_
 rintro e W3 ⟨rfl,xB⟩
 have K1:=L1.below xB L1.lt
 have K2:=L2.below xB L2.lt
 have b5:=b2.trans (xB.mono b2.size)
 have yh:=hW.then xB
 clear xB L1 L2 b2 hW
 rw [xq]
 go_wp2_with fail
 refine (fy ⟨line,⟨#[]⟩⟩ W3 (jT Aj dD) (show (0:Nat)≤1000000000 by omega)).mono ?_
 rintro e W4 ⟨rfl,xy⟩
 have N1:=K1.below xy K1.lt
 have N2:=K2.below xy K2.lt
 have b6:=b5.trans (xy.mono b5.size)
 have yx:=yh.then xy
 clear xy K1 K2 b5 yh
 rw [yP]
 go_wp2_with fail
 refine (fM x l w.heap.size W4 N1 yx tl ol).mono ?_
 rintro e W9 ⟨v,rfl,⟨TA,tc,OA,oc,rfl,Ak,Al⟩,hb9⟩
 have Q2:=N2.below hb9 N2.lt
 have b9:=b6.trans (hb9.mono b6.size)
 have ye:=ag Ak b6.size
 have xN:=ag Al b6.size
 obtain ⟨z0,z1,z2,z3,z4,z5,z6,z7⟩:=cells8 Q2
 obtain ⟨f0,f1,f2,f3,f4,f5,f6,f7⟩:=frz8 Q2
 obtain ⟨xQ,xL⟩:=dt (F TA x.c.t.length tc) (F OA x.c.o.length oc) (O U x.c.gt) (O U x.c.sd) (O U x.c.ms) (xh l.D) (xh l.P) (O U l.n) Q2 ye xN
 have bz:=jZ (eW (g:=w.heap.size+1) (b9) xR (F TA x.c.t.length tc) (F OA x.c.o.length oc) (O U x.c.gt) (O U x.c.sd) (O U x.c.ms) (xh l.D) (xh l.P) (O U l.n))
 have DE:=jZ xQ
 have CK:=jZ xL
 clear N1 N2 Q2 b6 b9 hb9 Ak Al ye xN yx xQ xL
 go_wp2_with fail
 refine bodyPost_ret (v:=.tuple #[.agg #[F TA x.c.t.length tc,F OA x.c.o.length oc,O U x.c.gt,O U x.c.sd,O U x.c.ms,xh l.D,xh l.P,O U l.n],xh ⟨#[98,97,100]⟩]) (by simp [results,Tryz.results16,go_sem, *]) rfl (cz.mk (by unfold gA; rw [if_pos xq,if_neg (by rw [yP]; exact Bool.false_ne_true)]) (by unfold fD; rw [if_pos xq,if_neg (by rw [yP]; exact Bool.false_ne_true)]) (by unfold fH; rw [if_pos xq,if_neg (by rw [yP]; exact Bool.false_ne_true)]) ⟨TA,tc,OA,oc,rfl,DE.out,CK.out⟩ bz.out)
set_option maxRecDepth 100000 in
theorem rS (x:aN) (l:Lg) (line:ByteArray) (w:World) (h:aQ w w.heap.size x) (tl:x.t.length≤1048576) (ol:x.o.length≤1048576) (hs:l.D.size+l.P.size≤2000000) (Aj:line.size≤1048576) (Ap:LW w) (xq:eu x l=true) (yP:dj.ok ⟨line,⟨#[]⟩⟩=true) (hn:l.n=60) :
  Calls xi 16 #[aK x l,xh line] w (cz w x l line):=by
 have xw:(l.n == 60)=true:=by rw [hn]; rfl
 have HN:=jZ hn
 clear hn
 have L1:=(ai.new w 42 #[F x.TA x.t.length x.tc,F x.OA x.o.length x.oc,O U x.gt,O U x.sd,O U x.ms,xh l.D,xh l.P,O U l.n]).alloc (.cells #[F none 0 0,F none 0 0,O U 0,O U 0,O U 0,xh ⟨#[]⟩,xh ⟨#[]⟩,O U 0] 42)
 have L2:=ai.new1 w (.cells #[F x.TA x.t.length x.tc,F x.OA x.o.length x.oc,O U x.gt,O U x.sd,O U x.ms,xh l.D,xh l.P,O U l.n] 42) 42 #[F none 0 0,F none 0 0,O U 0,O U 0,O U 0,xh ⟨#[]⟩,xh ⟨#[]⟩,O U 0]
 have b1:=bZ w (.cells #[F x.TA x.t.length x.tc,F x.OA x.o.length x.oc,O U x.gt,O U x.sd,O U x.ms,xh l.D,xh l.P,O U l.n] 42)
 have b2:=b1.alloc b1.size (.cells #[F none 0 0,F none 0 0,O U 0,O U 0,O U 0,xh ⟨#[]⟩,xh ⟨#[]⟩,O U 0] 42)
 have hW:=h.up b2 nR
 have xR:w.heap.size≤w.heap.size+1:=oM
 clear b1 h
 go_enter Tryz.func16,Tryz.ntmps16
 go_wp2_with fail
 generalize ((w.alloc (.cells #[F x.TA x.t.length x.tc,F x.OA x.o.length x.oc,O U x.gt,O U x.sd,O U x.ms,xh l.D,xh l.P,O U l.n] 42)).alloc (.cells #[F none 0 0,F none 0 0,O U 0,O U 0,O U 0,xh ⟨#[]⟩,xh ⟨#[]⟩,O U 0] 42))=W at L1 L2 b2 hW ⊢
 refine (eY x l W hW hs (Ap.then b2).tab).mono ?_
 rintro e W3 ⟨rfl,xB⟩
 have K1:=L1.below xB L1.lt
 have K2:=L2.below xB L2.lt
 have b5:=b2.trans (xB.mono b2.size)
 have yh:=hW.then xB
 clear xB L1 L2 b2 hW
 rw [xq]
 go_wp2_with fail
 refine (fy ⟨line,⟨#[]⟩⟩ W3 (jT Aj dD) (show (0:Nat)≤1000000000 by omega)).mono ?_
 rintro e W4 ⟨rfl,xy⟩
 have N1:=K1.below xy K1.lt
 have N2:=K2.below xy K2.lt
 have b6:=b5.trans (xy.mono b5.size)
 have yx:=yh.then xy
 clear xy K1 K2 b5 yh
 rw [yP]
 obtain ⟨c0,c1,c2,c3,c4,c5,c6,c7⟩:=cells8 N1
 go_wp2_with fail
 refine (fM x l w.heap.size W4 N1 yx tl ol).mono ?_
 clear c0 c1 c2 c3 c4 c5 c6 c7
 rintro e W9 ⟨v,rfl,⟨TA,tc,OA,oc,rfl,Ak,Al⟩,hb9⟩
 have Q2:=N2.below hb9 N2.lt
 have b9:=b6.trans (hb9.mono b6.size)
 have ye:=ag Ak b6.size
 have xN:=ag Al b6.size
 obtain ⟨z0,z1,z2,z3,z4,z5,z6,z7⟩:=cells8 Q2
 obtain ⟨f0,f1,f2,f3,f4,f5,f6,f7⟩:=frz8 Q2
 obtain ⟨xQ,xL⟩:=dt (F TA x.c.t.length tc) (F OA x.c.o.length oc) (O U x.c.gt) (O U x.c.sd) (O U x.c.ms) (xh l.D) (xh l.P) (O U l.n) Q2 ye xN
 have bz:=jZ (eW (g:=w.heap.size+1) (b9) xR (F TA x.c.t.length tc) (F OA x.c.o.length oc) (O U x.c.gt) (O U x.c.sd) (O U x.c.ms) (xh l.D) (xh l.P) (O U l.n))
 have DE:=jZ xQ
 have CK:=jZ xL
 clear N1 N2 Q2 b6 b9 hb9 Ak Al ye xN yx xQ xL
 go_wp2_with fail
 refine bodyPost_ret (v:=.tuple #[.agg #[F TA x.c.t.length tc,F OA x.c.o.length oc,O U x.c.gt,O U x.c.sd,O U x.c.ms,xh l.D,xh l.P,O U l.n],xh ⟨#[102,117,108,108]⟩]) (by simp [results,Tryz.results16,go_sem, *]) rfl (cz.mk (by unfold gA; rw [if_pos xq,if_pos yP,if_pos HN.out]) (by unfold fD; rw [if_pos xq,if_pos yP,if_pos HN.out]) (by unfold fH; rw [if_pos xq,if_pos yP,if_pos HN.out]) ⟨TA,tc,OA,oc,rfl,DE.out,CK.out⟩ bz.out)
set_option maxRecDepth 100000 in
theorem ti (x:aN) (l:Lg) (line:ByteArray) (w:World) (h:aQ w w.heap.size x) (tl:x.t.length≤1048576) (ol:x.o.length≤1048576) (hs:l.D.size+l.P.size≤2000000) (Aj:line.size≤1048576) (Ap:LW w) (xq:eu x l=true) (yP:dj.ok ⟨line,⟨#[]⟩⟩=true) (hn : ¬ l.n=60) :
  Calls xi 16 #[aK x l,xh line] w (cz w x l line):=by
 have xw:(l.n == 60)=false:=beq_false_of_ne hn
 have G:=oD xq
 have hl160:line.size≤1000:=by
  have h1:=(dd.1 yP).2.1
  have h2:line.size≤160:=h1
  omega
 have FH:gA x l line=jv x line:=by unfold gA; rw [if_pos xq,if_pos yP,if_neg hn]
 have Gl:fD x l line=rE x line:=by unfold fD; rw [if_pos xq,if_pos yP,if_neg hn]
 have Et:fH x l line=cm l ⟨line,jv x line⟩:=by unfold fH; rw [if_pos xq,if_pos yP,if_neg hn]
 obtain ⟨R,hR⟩ : ∃ R,jg x line=R:=⟨_,rfl⟩
 have BC:jv x line=ua R:=by rw [← hR]; exact uc x line
 have Bc:rE x line=fJ x R:=by rw [← hR]; exact ud x line
 obtain ⟨rep,Ch⟩ : ∃ rep,jv x line=rep:=⟨_,rfl⟩
 have Dy:rep.size≤200:=by rw [← Ch,BC]; exact oN R
 obtain ⟨l2,yZ⟩ : ∃ l2,cm l ⟨line,rep⟩=l2:=⟨_,rfl⟩
 have cA:=fun W hW=>oz l ⟨line,rep⟩ W hs (jT hl160 dD) (jT Dy dD) hW
 rw [Ch] at FH Et BC
 rw [yZ] at cA Et
 have ET:=jZ FH
 rw [Bc] at Gl
 have EO0:=jZ Gl
 have EL:=jZ Et
 have HC:=jZ hR
 clear hn FH Gl Et Bc Ch yZ hR
 have L1:=(ai.new w 42 #[F x.TA x.t.length x.tc,F x.OA x.o.length x.oc,O U x.gt,O U x.sd,O U x.ms,xh l.D,xh l.P,O U l.n]).alloc (.cells #[F none 0 0,F none 0 0,O U 0,O U 0,O U 0,xh ⟨#[]⟩,xh ⟨#[]⟩,O U 0] 42)
 have L2:=ai.new1 w (.cells #[F x.TA x.t.length x.tc,F x.OA x.o.length x.oc,O U x.gt,O U x.sd,O U x.ms,xh l.D,xh l.P,O U l.n] 42) 42 #[F none 0 0,F none 0 0,O U 0,O U 0,O U 0,xh ⟨#[]⟩,xh ⟨#[]⟩,O U 0]
 have b1:=bZ w (.cells #[F x.TA x.t.length x.tc,F x.OA x.o.length x.oc,O U x.gt,O U x.sd,O U x.ms,xh l.D,xh l.P,O U l.n] 42)
 have b2:=b1.alloc b1.size (.cells #[F none 0 0,F none 0 0,O U 0,O U 0,O U 0,xh ⟨#[]⟩,xh ⟨#[]⟩,O U 0] 42)
 have hW:=h.up b2 nR
 have xR:w.heap.size≤w.heap.size+1:=oM
 clear b1 h
 go_enter Tryz.func16,Tryz.ntmps16
 go_wp2_with fail
 generalize ((w.alloc (.cells #[F x.TA x.t.length x.tc,F x.OA x.o.length x.oc,O U x.gt,O U x.sd,O U x.ms,xh l.D,xh l.P,O U l.n] 42)).alloc (.cells #[F none 0 0,F none 0 0,O U 0,O U 0,O U 0,xh ⟨#[]⟩,xh ⟨#[]⟩,O U 0] 42))=W at L1 L2 b2 hW ⊢
 refine (eY x l W hW hs (Ap.then b2).tab).mono ?_
 rintro e W3 ⟨rfl,xB⟩
 have K1:=L1.below xB L1.lt
 have K2:=L2.below xB L2.lt
 have b5:=b2.trans (xB.mono b2.size)
 have yh:=hW.then xB
 clear xB L1 L2 b2 hW
 rw [xq]
 go_wp2_with fail
 refine (fy ⟨line,⟨#[]⟩⟩ W3 (jT Aj dD) (show (0:Nat)≤1000000000 by omega)).mono ?_
 rintro e W4 ⟨rfl,xy⟩
 have N1:=K1.below xy K1.lt
 have N2:=K2.below xy K2.lt
 have b6:=b5.trans (xy.mono b5.size)
 have yx:=yh.then xy
 clear xy K1 K2 b5 yh
 rw [yP]
 obtain ⟨c0,c1,c2,c3,c4,c5,c6,c7⟩:=cells8 N1
 go_wp2_with fail
 refine (fM x l w.heap.size W4 N1 yx tl ol).mono ?_
 rintro e W5 ⟨v,rfl,⟨TA,tc,OA,oc,rfl,Ak,Al⟩,hb5⟩
 clear c0 c1 c2 c3 c4 c5 c6 c7
 go_upto_region 8 with fail
 have xo:=(Below.refl W5.heap.size W5).alloc nR (.cells #[F TA x.c.t.length tc,F OA x.c.o.length oc,O U x.c.gt,O U x.c.sd,O U x.c.ms,xh l.D,xh l.P,O U l.n] 42)
 have xT:=av hb5 xo
 have J1:=N1.below xT N1.lt
 have J2:=N2.below xT N2.lt
 have J6:=ai.new W5 42 #[F TA x.c.t.length tc,F OA x.c.o.length oc,O U x.c.gt,O U x.c.sd,O U x.c.ms,xh l.D,xh l.P,O U l.n]
 have b7:=b6.trans (xT.mono b6.size)
 have yy:=ag (ac Ak xo) b6.size
 have yz:=ag (ac Al xo) b6.size
 have hg26:w.heap.size+1 < W5.heap.size:=jL N2.lt hb5.size
 clear xo xT hb5 Ak Al N1 N2 b6 yx
 generalize W5.alloc (.cells #[F TA x.c.t.length tc,F OA x.c.o.length oc,O U x.c.gt,O U x.c.sd,O U x.c.ms,xh l.D,xh l.P,O U l.n] 42)=W6 at J1 J2 J6 b7 yy yz ⊢
 generalize W5.heap.size=g6 at J6 hg26 ⊢
 have zo:w.heap.size≤g6:=oM
 have Eu:(x.c.at TA tc OA oc).c=x.c:=rfl
 have xZ:=rR (x.c.at TA tc OA oc) l line g6 w W6 J6 zo b7 yy yz (good_c Eu G) hl160 Ap
 rw [vO Eu,HC.out] at xZ
 go_wp2_with fail
 refine xZ.mono ?_
 rintro e W7 hM
 clear xZ
 rcases hM with ⟨rfl,⟨s,rfl⟩,yX⟩ | ⟨z,r,rfl,rfl,AK,yX,OG,KL⟩
 ·have K1:=J1.below yX J1.lt
  have K2:=J2.below yX J2.lt
  have K6:=J6.below yX J6.lt
  have b8:=b7.trans (yX.mono b7.size)
  have zA:=ac yy yX
  have xI:=ac yz yX
  clear J1 J2 J6 b7 yy yz yX
  have Ba:=EO0.out
  change fD x l line=x.c at Ba
  change rep=⟨#[63]⟩ at BC
  subst BC
  clear EO0
  obtain ⟨y,hy⟩ : ∃ y,x.c=y:=⟨_,rfl⟩
  rw [hy] at K6 zA xI Ba
  have EO:=jZ Ba
  clear Ba
  obtain ⟨TB,FQ⟩ : ∃ TB,TA=TB:=⟨_,rfl⟩
  obtain ⟨tb,FR⟩ : ∃ tb,tc=tb:=⟨_,rfl⟩
  obtain ⟨OB,FT⟩ : ∃ OB,OA=OB:=⟨_,rfl⟩
  obtain ⟨ob,FU⟩ : ∃ ob,oc=ob:=⟨_,rfl⟩
  rw [FQ,FR,FT,FU] at K6
  rw [FQ,FR] at zA
  rw [FT,FU] at xI
  clear hy FQ FR FT FU Eu
  obtain ⟨cod,An⟩ : ∃ cod,dY l ⟨line,⟨#[63]⟩⟩=cod:=⟨_,rfl⟩
  rw [An] at cA
  clear An
  have htW:=(Ap.then b8).tab
  obtain ⟨c0,c1,c2,c3,c4,c5,c6,c7⟩:=cells8 K1
  go_wp2_with fail
  refine (cA W7 htW).mono ?_
  rintro e W9 ⟨rfl,hb9⟩
  have Q1:=K1.below hb9 K1.lt
  have Q2:=K2.below hb9 K2.lt
  have Q6:=K6.below hb9 K6.lt
  have b10:=b8.trans (hb9.mono b8.size)
  have zI:=ac zA hb9
  have yJ:=ac xI hb9
  have gr9:W9.grownBy (((W9.setCell ⟨g6,5,none⟩ (xh l2.D)).setCell ⟨g6,6,none⟩ (xh l2.P)).setCell ⟨g6,7,none⟩ (O U l2.n)) (some g6):=ab (g:=g6) (i:=7) (u:=O U l2.n) (ab (g:=g6) (i:=6) (u:=xh l2.P) (ab (g:=g6) (i:=5) (u:=xh l2.D) (World.grownBy.refl W9 (some g6))))
  have AW:=ak zI Q6 eZ gr9
  have AX:=ak yJ Q6 fa gr9
  have R2:ai (((W9.setCell ⟨g6,5,none⟩ (xh l2.D)).setCell ⟨g6,6,none⟩ (xh l2.P)).setCell ⟨g6,7,none⟩ (O U l2.n)) (w.heap.size+1) 42 [F none 0 0,F none 0 0,O U 0,O U 0,O U 0,xh ⟨#[]⟩,xh ⟨#[]⟩,O U 0]:=(((Q2).other (p:=⟨g6,5,none⟩) (by simp only; omega) (xh l2.D)).other (p:=⟨g6,6,none⟩) (by simp only; omega) (xh l2.P)).other (p:=⟨g6,7,none⟩) (by simp only; omega) (O U l2.n)
  have R6:ai (((W9.setCell ⟨g6,5,none⟩ (xh l2.D)).setCell ⟨g6,6,none⟩ (xh l2.P)).setCell ⟨g6,7,none⟩ (O U l2.n)) g6 42 [F TB y.t.length tb,F OB y.o.length ob,O U y.gt,O U y.sd,O U y.ms,xh l2.D,xh l2.P,O U l2.n]:=(((Q6).set 5 (xh l2.D)).set 6 (xh l2.P)).set 7 (O U l2.n)
  have b11:=(((b10).setCell (p:=⟨g6,5,none⟩) zo (xh l2.D)).setCell (p:=⟨g6,6,none⟩) zo (xh l2.P)).setCell (p:=⟨g6,7,none⟩) zo (O U l2.n)
  obtain ⟨z0,z1,z2,z3,z4,z5,z6,z7⟩:=cells8 Q6
  obtain ⟨f0,f1,f2,f3,f4,f5,f6,f7⟩:=frz8 Q6
  clear K1 K2 Q1 Q2 hb9 b8 b10 zI yJ zA xI gr9 c0 c1 c2 c3 c4 c5 c6 c7
  go_upto_region 14 with fail
  clear K6 Q6 z0 z1 z2 z3 z4 z5 z6 z7 f0 f1 f2 f3 f4 f5 f6 f7
  generalize (((W9.setCell ⟨g6,5,none⟩ (xh l2.D)).setCell ⟨g6,6,none⟩ (xh l2.P)).setCell ⟨g6,7,none⟩ (O U l2.n))=WB at R2 R6 b11 AW AX ⊢
  obtain ⟨p0,p1,p2,p3,p4,p5,p6,p7⟩:=cells8 R6
  obtain ⟨z0,z1,z2,z3,z4,z5,z6,z7⟩:=cells8 R2
  obtain ⟨f0,f1,f2,f3,f4,f5,f6,f7⟩:=frz8 R2
  obtain ⟨Ct,Cu⟩:=dt (F TB y.t.length tb) (F OB y.o.length ob) (O U y.gt) (O U y.sd) (O U y.ms) (xh l2.D) (xh l2.P) (O U l2.n) R2 AW AX
  have bz:=jZ (eW (g:=w.heap.size+1) (b11) xR (F TB y.t.length tb) (F OB y.o.length ob) (O U y.gt) (O U y.sd) (O U y.ms) (xh l2.D) (xh l2.P) (O U l2.n))
  have Ev:=jZ Ct
  have Ew:=jZ Cu
  clear R2 R6 b11 AW AX Ct Cu
  go_wp2_with fail
  refine bodyPost_ret (v:=.tuple #[.agg #[F TB y.t.length tb,F OB y.o.length ob,O U y.gt,O U y.sd,O U y.ms,xh l2.D,xh l2.P,O U l2.n],xh ⟨#[63]⟩]) (by simp [results,Tryz.results16,go_sem, *]) rfl (cz.mk ET.out EO.out EL.out ⟨TB,tb,OB,ob,rfl,Ev.out,Ew.out⟩ bz.out)
 ·obtain ⟨TB,tb,OB,ob,K6,zA,xI⟩:=AK
  have K1:=oO KL J1 oM
  have K2:=oO KL J2 oM
  have b8:=b7.trans yX
  clear J1 J2 J6 b7 yy yz yX KL
  have Ba:=EO0.out
  change fD x l line=z at Ba
  change rep=(if 200 < r.size then ⟨#[108,111,110,103]⟩ else r) at BC
  clear EO0
  obtain ⟨y,hy⟩ : ∃ y,z=y:=⟨_,rfl⟩
  rw [hy] at K6 zA xI Ba
  have EO:=jZ Ba
  clear hy Eu Ba
  by_cases hlong:200 < r.size
  ·have KB:(200:Int) < (r.size:Int):=oM
   rw [if_pos hlong] at BC
   subst BC
   obtain ⟨cod,An⟩ : ∃ cod,dY l ⟨line,⟨#[108,111,110,103]⟩⟩=cod:=⟨_,rfl⟩
   rw [An] at cA
   clear An
   have htW:=(Ap.then b8).tab
   obtain ⟨c0,c1,c2,c3,c4,c5,c6,c7⟩:=cells8 K1
   go_wp2_with fail
   refine (cA W7 htW).mono ?_
   rintro e W9 ⟨rfl,hb9⟩
   have Q1:=K1.below hb9 K1.lt
   have Q2:=K2.below hb9 K2.lt
   have Q6:=K6.below hb9 K6.lt
   have b10:=b8.trans (hb9.mono b8.size)
   have zI:=ac zA hb9
   have yJ:=ac xI hb9
   have gr9:W9.grownBy (((W9.setCell ⟨g6,5,none⟩ (xh l2.D)).setCell ⟨g6,6,none⟩ (xh l2.P)).setCell ⟨g6,7,none⟩ (O U l2.n)) (some g6):=ab (g:=g6) (i:=7) (u:=O U l2.n) (ab (g:=g6) (i:=6) (u:=xh l2.P) (ab (g:=g6) (i:=5) (u:=xh l2.D) (World.grownBy.refl W9 (some g6))))
   have AW:=ak zI Q6 eZ gr9
   have AX:=ak yJ Q6 fa gr9
   have R2:ai (((W9.setCell ⟨g6,5,none⟩ (xh l2.D)).setCell ⟨g6,6,none⟩ (xh l2.P)).setCell ⟨g6,7,none⟩ (O U l2.n)) (w.heap.size+1) 42 [F none 0 0,F none 0 0,O U 0,O U 0,O U 0,xh ⟨#[]⟩,xh ⟨#[]⟩,O U 0]:=(((Q2).other (p:=⟨g6,5,none⟩) (by simp only; omega) (xh l2.D)).other (p:=⟨g6,6,none⟩) (by simp only; omega) (xh l2.P)).other (p:=⟨g6,7,none⟩) (by simp only; omega) (O U l2.n)
   have R6:ai (((W9.setCell ⟨g6,5,none⟩ (xh l2.D)).setCell ⟨g6,6,none⟩ (xh l2.P)).setCell ⟨g6,7,none⟩ (O U l2.n)) g6 42 [F TB y.t.length tb,F OB y.o.length ob,O U y.gt,O U y.sd,O U y.ms,xh l2.D,xh l2.P,O U l2.n]:=(((Q6).set 5 (xh l2.D)).set 6 (xh l2.P)).set 7 (O U l2.n)
   have b11:=(((b10).setCell (p:=⟨g6,5,none⟩) zo (xh l2.D)).setCell (p:=⟨g6,6,none⟩) zo (xh l2.P)).setCell (p:=⟨g6,7,none⟩) zo (O U l2.n)
   obtain ⟨z0,z1,z2,z3,z4,z5,z6,z7⟩:=cells8 Q6
   obtain ⟨f0,f1,f2,f3,f4,f5,f6,f7⟩:=frz8 Q6
   clear K1 K2 Q1 Q2 hb9 b8 b10 zI yJ zA xI gr9 c0 c1 c2 c3 c4 c5 c6 c7
   go_upto_region 14 with fail
   clear K6 Q6 z0 z1 z2 z3 z4 z5 z6 z7 f0 f1 f2 f3 f4 f5 f6 f7
   generalize (((W9.setCell ⟨g6,5,none⟩ (xh l2.D)).setCell ⟨g6,6,none⟩ (xh l2.P)).setCell ⟨g6,7,none⟩ (O U l2.n))=WB at R2 R6 b11 AW AX ⊢
   obtain ⟨p0,p1,p2,p3,p4,p5,p6,p7⟩:=cells8 R6
   obtain ⟨z0,z1,z2,z3,z4,z5,z6,z7⟩:=cells8 R2
   obtain ⟨f0,f1,f2,f3,f4,f5,f6,f7⟩:=frz8 R2
   obtain ⟨Ct,Cu⟩:=dt (F TB y.t.length tb) (F OB y.o.length ob) (O U y.gt) (O U y.sd) (O U y.ms) (xh l2.D) (xh l2.P) (O U l2.n) R2 AW AX
   have bz:=jZ (eW (g:=w.heap.size+1) (b11) xR (F TB y.t.length tb) (F OB y.o.length ob) (O U y.gt) (O U y.sd) (O U y.ms) (xh l2.D) (xh l2.P) (O U l2.n))
   have Ev:=jZ Ct
   have Ew:=jZ Cu
   clear R2 R6 b11 AW AX Ct Cu
   go_wp2_with fail
   refine bodyPost_ret (v:=.tuple #[.agg #[F TB y.t.length tb,F OB y.o.length ob,O U y.gt,O U y.sd,O U y.ms,xh l2.D,xh l2.P,O U l2.n],xh ⟨#[108,111,110,103]⟩]) (by simp [results,Tryz.results16,go_sem, *]) rfl (cz.mk ET.out EO.out EL.out ⟨TB,tb,OB,ob,rfl,Ev.out,Ew.out⟩ bz.out)
  ·have KB : ¬ (200:Int) < (r.size:Int):=oM
   rw [if_neg hlong] at BC
   subst BC
   obtain ⟨cod,An⟩ : ∃ cod,dY l ⟨line,rep⟩=cod:=⟨_,rfl⟩
   rw [An] at cA
   clear An
   have htW:=(Ap.then b8).tab
   obtain ⟨c0,c1,c2,c3,c4,c5,c6,c7⟩:=cells8 K1
   go_wp2_with fail
   refine (cA W7 htW).mono ?_
   rintro e W9 ⟨rfl,hb9⟩
   have Q1:=K1.below hb9 K1.lt
   have Q2:=K2.below hb9 K2.lt
   have Q6:=K6.below hb9 K6.lt
   have b10:=b8.trans (hb9.mono b8.size)
   have zI:=ac zA hb9
   have yJ:=ac xI hb9
   have gr9:W9.grownBy (((W9.setCell ⟨g6,5,none⟩ (xh l2.D)).setCell ⟨g6,6,none⟩ (xh l2.P)).setCell ⟨g6,7,none⟩ (O U l2.n)) (some g6):=ab (g:=g6) (i:=7) (u:=O U l2.n) (ab (g:=g6) (i:=6) (u:=xh l2.P) (ab (g:=g6) (i:=5) (u:=xh l2.D) (World.grownBy.refl W9 (some g6))))
   have AW:=ak zI Q6 eZ gr9
   have AX:=ak yJ Q6 fa gr9
   have R2:ai (((W9.setCell ⟨g6,5,none⟩ (xh l2.D)).setCell ⟨g6,6,none⟩ (xh l2.P)).setCell ⟨g6,7,none⟩ (O U l2.n)) (w.heap.size+1) 42 [F none 0 0,F none 0 0,O U 0,O U 0,O U 0,xh ⟨#[]⟩,xh ⟨#[]⟩,O U 0]:=(((Q2).other (p:=⟨g6,5,none⟩) (by simp only; omega) (xh l2.D)).other (p:=⟨g6,6,none⟩) (by simp only; omega) (xh l2.P)).other (p:=⟨g6,7,none⟩) (by simp only; omega) (O U l2.n)
   have R6:ai (((W9.setCell ⟨g6,5,none⟩ (xh l2.D)).setCell ⟨g6,6,none⟩ (xh l2.P)).setCell ⟨g6,7,none⟩ (O U l2.n)) g6 42 [F TB y.t.length tb,F OB y.o.length ob,O U y.gt,O U y.sd,O U y.ms,xh l2.D,xh l2.P,O U l2.n]:=(((Q6).set 5 (xh l2.D)).set 6 (xh l2.P)).set 7 (O U l2.n)
   have b11:=(((b10).setCell (p:=⟨g6,5,none⟩) zo (xh l2.D)).setCell (p:=⟨g6,6,none⟩) zo (xh l2.P)).setCell (p:=⟨g6,7,none⟩) zo (O U l2.n)
   obtain ⟨z0,z1,z2,z3,z4,z5,z6,z7⟩:=cells8 Q6
   obtain ⟨f0,f1,f2,f3,f4,f5,f6,f7⟩:=frz8 Q6
   clear K1 K2 Q1 Q2 hb9 b8 b10 zI yJ zA xI gr9 c0 c1 c2 c3 c4 c5 c6 c7
   go_upto_region 14 with fail
   clear K6 Q6 z0 z1 z2 z3 z4 z5 z6 z7 f0 f1 f2 f3 f4 f5 f6 f7
   generalize (((W9.setCell ⟨g6,5,none⟩ (xh l2.D)).setCell ⟨g6,6,none⟩ (xh l2.P)).setCell ⟨g6,7,none⟩ (O U l2.n))=WB at R2 R6 b11 AW AX ⊢
   obtain ⟨p0,p1,p2,p3,p4,p5,p6,p7⟩:=cells8 R6
   obtain ⟨z0,z1,z2,z3,z4,z5,z6,z7⟩:=cells8 R2
   obtain ⟨f0,f1,f2,f3,f4,f5,f6,f7⟩:=frz8 R2
   obtain ⟨Ct,Cu⟩:=dt (F TB y.t.length tb) (F OB y.o.length ob) (O U y.gt) (O U y.sd) (O U y.ms) (xh l2.D) (xh l2.P) (O U l2.n) R2 AW AX
   have bz:=jZ (eW (g:=w.heap.size+1) (b11) xR (F TB y.t.length tb) (F OB y.o.length ob) (O U y.gt) (O U y.sd) (O U y.ms) (xh l2.D) (xh l2.P) (O U l2.n))
   have Ev:=jZ Ct
   have Ew:=jZ Cu
   clear R2 R6 b11 AW AX Ct Cu
   go_wp2_with fail
   refine bodyPost_ret (v:=.tuple #[.agg #[F TB y.t.length tb,F OB y.o.length ob,O U y.gt,O U y.sd,O U y.ms,xh l2.D,xh l2.P,O U l2.n],xh rep]) (by simp [results,Tryz.results16,go_sem, *]) rfl (cz.mk ET.out EO.out EL.out ⟨TB,tb,OB,ob,rfl,Ev.out,Ew.out⟩ bz.out)
theorem oP (x:aN) (l:Lg) (line:ByteArray) (w:World) (h:aQ w w.heap.size x) (tl:x.t.length≤1048576) (ol:x.o.length≤1048576) (hs:l.D.size+l.P.size≤2000000) (Aj:line.size≤1048576) (Ap:LW w) :
  Calls xi 16 #[aK x l,xh line] w (cz w x l line):=by
 cases xq:eu x l
 ·exact uY x l line w h tl ol hs Aj Ap xq
 ·cases yP:dj.ok ⟨line,⟨#[]⟩⟩
  ·exact th x l line w h tl ol hs Aj Ap xq yP
  ·by_cases hn:l.n=60
   ·exact rS x l line w h tl ol hs Aj Ap xq yP hn
   ·exact ti x l line w h tl ol hs Aj Ap xq yP hn
theorem lv {n k:Nat} {c r:List UInt8} (h:eX c r=true):aF (n+1) k (bT k c r) = [((c,r),(bT k c r).length)]:=by
 have hb:cJ 10 (bT k c r)=eE (eS k c r):=by unfold bT; exact ez (tW h)
 have h1:(10:UInt8) ∈ bT k c r:=by unfold bT; simp
 have hl:(eE (eS k c r)).length+1=(bT k c r).length:=by unfold bT; simp
 rw [cl h1 (by rw [hb]; exact mt ⟨h,rfl⟩),hb,hl,List.drop_eq_nil_of_le nR,dB sP]
theorem mK {c r:List UInt8} (h:eX c r=true):∀ (n k:Nat) (s:List UInt8),ck (aF n k s)=s.length→(aF n k s).length < n →
  aF n k (s++bT (k+(aF n k s).length) c r)=aF n k s++[((c,r),(bT (k+(aF n k s).length) c r).length)]
 | 0,_,_,_,h2=>absurd h2 oM
 | n+1,k,s,h1,h2=>by
  by_cases hs:(10:UInt8) ∈ s
  ·cases hd:dZ k (cJ 10 s) with
   | none =>
    rw [dH hd] at h1
    have:s = []:=List.eq_nil_of_length_eq_zero (by rw [← h1]; simp [ck])
    rw [this] at hs; cases hs
   | some e =>
    have e1:=db hs
    have xt:(cJ 10 s).length+1≤s.length:=by have:=congrArg List.length e1; simp at this; omega
    have ey:=cl (n:=n) hs hd
    rw [ey,fT] at h1
    rw [ey,List.length_cons] at h2
    have ih:=mK h n (k+1) (s.drop ((cJ 10 s).length+1)) (by rw [List.length_drop]; simp only at h1; omega) oM
    have hk:k+(aF (n+1) k s).length=k+1+(aF n (k+1) (s.drop ((cJ 10 s).length+1))).length:=by rw [ey,List.length_cons]; omega
    rw [hk]
    generalize bT (k+1+(aF n (k+1) (s.drop ((cJ 10 s).length+1))).length) c r=x at ih ⊢
    have hb:cJ 10 (s++x)=cJ 10 s:=by
     rw (occs:=[1]) [e1]
     rw [List.append_assoc,List.cons_append]; exact ez (fK 10 s)
    rw [cl (by simp [hs]) (by rw [hb]; exact hd),hb,List.drop_append_of_le_length xt,ih,ey]
    rfl
  ·have hn:aF (n+1) k s = []:=dB hs
   rw [hn] at h1
   have:s = []:=List.eq_nil_of_length_eq_zero (by rw [← h1]; simp [ck])
   subst this
   rw [hn]
   simp only [List.length_nil,Nat.add_zero,List.nil_append]
   exact lv h
noncomputable def pL (y:Oc) (l:Lg) (t:ByteArray):Oc:=fD y.off l t
noncomputable def nA (y:Oc) (l:Lg) (t:ByteArray):Lg:=fH y.off l t
noncomputable def mf (y:Oc) (l:Lg) (t:ByteArray):ByteArray:=gA y.off l t
noncomputable def mL (y:Oc) (l:Lg):Bool:=eu y.off l
theorem nJ (x:aN) (l:Lg) (t:ByteArray):fD x l t=pL x.c l t:=by cases x; rfl
theorem nK (x:aN) (l:Lg) (t:ByteArray):fH x l t=nA x.c l t:=by cases x; rfl
theorem ue (x:aN) (l:Lg) (t:ByteArray):gA x l t=mf x.c l t:=by cases x; rfl
theorem wu (x:aN) (l:Lg):eu x l=mL x.c l:=by cases x; rfl
theorem vS {l:Lg} {e:dj} (hl:l.ok=true):(cm l e).ok=true:=by
 cases hr:e.ok with
 | false=>rw [(iF (by rw [hl,hr]; rfl)).1]; exact hl
 | true =>
  by_cases hn:l.n=60
  ·rw [(fP (by rw [hl,hr]; rfl) hn).1]; exact hl
  ·obtain ⟨e1, -⟩:=fV (show (l.ok && e.ok)=true by rw [hl,hr]; rfl) hn
   have hr:eX (bl e.c) (bl e.r)=true:=hr
   obtain ⟨q1,q2,q3⟩:=ce.1 hl
   have Ca:=cW 60 0 (bl l.D++bl l.P)
   have xt:(aF 60 0 (bl l.D++bl l.P)).length < 60:=oM
   have II:l.n.toNat=(aF 60 0 (bl l.D++bl l.P)).length:=oM
   have ha:=mK hr 60 0 (bl l.D++bl l.P) (by rw [q1,List.length_append]) xt
   rw [Nat.zero_add] at ha
   obtain ⟨lb,Cn⟩ : ∃ lb:ByteArray,lb=⟨(bT l.n.toNat (bl e.c) (bl e.r)).toArray⟩:=⟨_,rfl⟩
   rw [← Cn] at e1
   rw [e1]
   have zM:bl lb=bT (aF 60 0 (bl l.D++bl l.P)).length (bl e.c) (bl e.r):=by rw [Cn,bO (bT l.n.toNat (bl e.c) (bl e.r)),II]
   clear Cn
   have eP:bl (l.P++lb)=bl l.P++bT (aF 60 0 (bl l.D++bl l.P)).length (bl e.c) (bl e.r):=by rw [dw l.P lb,zM]
   generalize Bv:bT (aF 60 0 (bl l.D++bl l.P)).length (bl e.c) (bl e.r)=ln at ha eP zM
   have AM:aF 60 0 (bl l.D++bl (l.P++lb))=aF 60 0 (bl l.D++bl l.P)++[((bl e.c,bl e.r),ln.length)]:=by
    rw [eP,← List.append_assoc]; exact ha
   have hlens:ck (aF 60 0 (bl l.D++bl l.P)++[((bl e.c,bl e.r),ln.length)])=(bl l.D).length+((bl l.P).length+ln.length):=by
    have:ck (aF 60 0 (bl l.D++bl l.P)++[((bl e.c,bl e.r),ln.length)])=ck (aF 60 0 (bl l.D++bl l.P))+ln.length:=by simp [ck]
    omega
   unfold Lg.ok
   rw [ce]
   simp only
   rw [AM]
   exact ⟨by rw [hlens,eP,List.length_append],q2,by rw [List.length_append,List.length_singleton]; omega⟩
theorem im {y:Oc} {l:Lg} : mL y l=true ↔ y.good=true∧l.ok=true:=by
 unfold mL eu
 rw [Bool.and_eq_true]
 exact Iff.rfl
theorem ma {y:Oc} {l:Lg} (t:ByteArray) (h:mL y l=true):mL (pL y l t) (nA y l t)=true:=by
 obtain ⟨h1,h2⟩:=im.1 h
 have h1' : (y.off).c.good=true:=h1
 refine im.2 ⟨?_, ?_⟩
 ·unfold pL fD
  split
  ·split
   ·split
    ·exact h1
    ·rw [ud]; exact pJ h1' t
   ·exact h1
  ·exact h1
 ·unfold nA fH
  split
  ·split
   ·split
    ·exact h2
    ·exact vS h2
   ·exact h2
  ·exact h2
theorem mM {y:Oc} {l:Lg} (h:mL y l=true):y.t.length≤1048576∧y.o.length≤1048576∧l.D.size+l.P.size≤2000000:=by
 obtain ⟨h1,h2⟩:=im.1 h
 have G:=kE h1
 have hs:=fl (ce.1 h2).1
 rw [ao,ao] at hs
 omega
end Go.Proofs.YtoeoimhemojdeaaGreatDoor
