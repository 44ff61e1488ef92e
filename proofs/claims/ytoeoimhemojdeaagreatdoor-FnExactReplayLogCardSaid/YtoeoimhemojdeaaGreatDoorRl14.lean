/- Rl14: the texts ExJ3 ParseInt SplitW, joined into one file. -/
import Derived.Deep.DeepCutAuto
import Derived.Lib.AtoiErrMem
import Derived.Lib.Split
import Derived.Lib.CountLaws
import Derived.Test.YtoeoimhemojdeaaGreatDoorRl08
import Derived.Test.YtoeoimhemojdeaaGreatDoorRl10
import Derived.Test.YtoeoimhemojdeaaGreatDoorRl11
import Derived.Test.YtoeoimhemojdeaaGreatDoorRl12
import Derived.Test.YtoeoimhemojdeaaGreatDoorRl13

set_option linter.unusedVariables false
open Go.Value renaming int → O, slice → F, string → sQ
open Go.IntKind renaming i64 → U

namespace Go.Proofs.YtoeoimhemojdeaaGreatDoor
open Go.RowKit
theorem kF {w w' : World} {g b i:Nat} {v:Value} (gr:w.grownBy w' (some g)) (hb:b < w.heap.size) (hne : ¬ b=g) (h:w.cell? ⟨b,i,none⟩=some v):w'.cell? ⟨b,i,none⟩=some v :=
 (World.cell?_of_block (gr.block b hb (by intro e; injection e with e; exact hne e))).trans h
theorem rZ {ns:List Int} {a0 a1:Int} (hl:ns.length=2) (h0:0 < ns.length) (h1:1 < ns.length) (e0:ns[0]=a0) (e1:ns[1]=a1):ns = [a0,a1]:=by
 subst e0; subst e1
 match ns,hl with
 | [b0,b1],_=>rfl
theorem pW {ns:List Int} {a0 a1 a2:Int} (hl:ns.length=3) (h0:0 < ns.length) (h1:1 < ns.length) (h2:2 < ns.length) (e0:ns[0]=a0) (e1:ns[1]=a1) (e2:ns[2]=a2):ns = [a0,a1,a2]:=by
 subst e0; subst e1; subst e2
 match ns,hl with
 | [b0,b1,b2],_=>rfl
theorem fS (x:aM) (s:dH) (w:World) (h:aQ w w.heap.size x):Calls Tryz.prog 157 #[x.val,s.val] w (aC w (fL x.c s)):=jx x s w h
def bo (w:World) (B g:Nat) (x:aM) (l:Lg) (R:Option (Oc × ByteArray)) (e:Ending) (w' : World):Prop :=
 (R=none∧(∃ s,e=.returned (.tuple #[sQ s,.bool false]))∧Below w.heap.size w w') ∨
 ∃ z r,R=some (z,r)∧e=.returned (.tuple #[sQ r,.bool true])∧db w' B g z l∧Below B w w'∧w.heap.size≤w'.heap.size∧(∀ j,j < w.heap.size→j ≠ g→w'.heap[j]?=w.heap[j]?)
theorem bo.no {w w' : World} {B g:Nat} {x:aM} {l:Lg} {s:ByteArray} (hb:Below w.heap.size w w'):bo w B g x l none (.returned (.tuple #[sQ s,.bool false])) w':=.inl ⟨rfl,⟨s,rfl⟩,hb⟩
theorem bo.yes {w w' : World} {B g:Nat} {x:aM} {l:Lg} {z:Oc} {r T:ByteArray} (hT:r=T) (h1:db w' B g z l) (h2:Below B w w') (h3:w.heap.size≤w'.heap.size) (h4:∀ j,j < w.heap.size→j ≠ g→w'.heap[j]?=w.heap[j]?):bo w B g x l (some (z,r)) (.returned (.tuple #[sQ T,.bool true])) w':=by
 subst hT; exact .inr ⟨z,r,rfl,rfl,h1,h2,h3,h4⟩
set_option maxRecDepth 100000 in
set_option maxHeartbeats 60000000 in
theorem oV (x:aM) (l:Lg) (s:ByteArray) (AN:Option Addr) (cN:Nat) (ns:List Int) (hn2:2≤ns.length) (hn3:ns.length≤3) (g:Nat) (W0 w:World) (hL:ai w g 42 [F x.TA x.t.length x.tc,F x.OA x.o.length x.oc,O U x.got,O U x.sold,O U x.missed,sQ l.D,sQ l.P,O U l.n]) (hB:W0.heap.size≤g) (hb0:Below W0.heap.size W0 w) (h:aQ w w.heap.size x) (hN:jf w w.heap.size AN ns) (hbg0:AN.map (·.block) ≠ some g) (ht:hU W0) :
  Calls Tryz.prog 99 #[.pointer (some ⟨g,0,none⟩),sQ s,F AN ns.length cN] w (bo w W0.heap.size g x l (bp x s ns)):=by
 obtain ⟨bN,off,rfl,hbN,hcN⟩:=hN.ints (by omega)
 have hbg : ¬ bN=g:=fun e=>hbg0 (by rw [← e]; rfl)
 have hl0:0 < ns.length:=by omega
 have hl1:1 < ns.length:=by omega
 obtain ⟨a0,ha0⟩ : ∃ a,ns[0]'hl0=a:=⟨_,rfl⟩
 obtain ⟨a1,ha1⟩ : ∃ a,ns[1]'hl1=a:=⟨_,rfl⟩
 have c0n:∀ p:ao w.heap.size w,p.val.cell? ⟨bN,off,none⟩=some (O U a0):=fun p=>by have:=hcN 0 hl0 p; rw [ha0] at this; exact this
 have c1n:∀ p:ao w.heap.size w,p.val.cell? ⟨bN,off+1,none⟩=some (O U a1):=fun p=>by have:=hcN 1 hl1 p; rw [ha1] at this; exact this
 have hli0:(0:Int) < (ns.length:Int):=by omega
 have hli1:(1:Int) < (ns.length:Int):=by omega
 have HCN:=Lib.hid hcN
 clear hcN
 have H2:Hid (∀ (hl:ns.length=2),ns = [a0,a1]):=fun hl=>rZ hl hl0 hl1 ha0 ha1
 have H3:Hid (∀ (hl:ns.length=3) (a2:Int),ns[2]'(by omega)=a2→ns = [a0,a1,a2]):=fun hl a2 ha2=>pW hl hl0 hl1 (by omega) ha0 ha1 ha2
 clear ha0 ha1
 go_enter Tryz.func99,Tryz.ntmps99
 go_upto_region 1 with fail
 refine an (fun _=>(fun W9=>Below w.heap.size w W9)) (fun i w1 w2=>i ∉ [8]→Below w1.heap.size w1 w2) (by kernel_rfl) (by kernel_rfl) (by kernel_rfl) (Below.refl _ _).drew ?_
 simp only [ax,Act.put,List.setIfInBounds_toArray,List.set_cons_zero,List.set_cons_succ,Nat.zero_add,Nat.reduceAdd]
 apply aa
 case h1 =>
  intro vs L9 w9 hG9 hC9 hB K9 hK9
  simp only [Act.put,sA,s0,s1] at hK9
  go_simp
  exact hK9 _ _ rfl hC9 bR
 apply aa
 case h1 =>
  intro vs L9 w9 hG9 hC9 hB K9 hK9
  have d0:=fe hB 0
  simp only [d0] at hK9 ⊢
  simp only [Act.put,sA,s0,s1] at hK9
  go_simp
  exact hK9 _ _ rfl hC9 bR
 apply aa
 case h1 =>
  intro vs L9 w9 hG9 hC9 hB K9 hK9
  have d1:=fe hB 1
  simp only [d1] at hK9 ⊢
  have q0:w9.cell? ⟨bN,off,none⟩=some (O U a0):=c0n ⟨w9,hC9⟩
  simp only [Act.put,sA,s0,s1] at hK9
  go_simp
  exact hK9 _ _ rfl hC9 bR
 apply aa
 case h1 =>
  intro vs L9 w9 hG9 hC9 hB K9 hK9
  simp only [Act.put,sA,s0,s1] at hK9
  go_simp
  exact hK9 _ _ rfl hC9 bR
 apply aa
 case h1 =>
  intro vs L9 w9 hG9 hC9 hB K9 hK9
  have d3:=fe hB 3
  simp only [d3] at hK9 ⊢
  simp only [Act.put,sA,s0,s1] at hK9
  go_simp
  exact hK9 _ _ rfl hC9 bR
 apply aa
 case h1 =>
  intro vs L9 w9 hG9 hC9 hB K9 hK9
  have d4:=fe hB 4
  simp only [d4] at hK9 ⊢
  have q0:w9.cell? ⟨bN,off+1,none⟩=some (O U a1):=c1n ⟨w9,hC9⟩
  simp only [Act.put,sA,s0,s1] at hK9
  go_simp
  exact hK9 _ _ rfl hC9 bR
 apply aa
 case h1 =>
  intro vs L9 w9 hG9 hC9 hB K9 hK9
  have d2:=fe hB 2
  have d5:=fe hB 5
  simp only [d2,d5] at hK9 ⊢
  simp only [Act.put,sA,s0,s1] at hK9
  go_simp
  exact hK9 _ _ rfl hC9 bR
 refine ak [8] (fun v w9=>∃ g9,v=.pointer (some ⟨g9,0,none⟩)∧w.heap.size≤g9∧ai w9 g9 112 [O U 0,O U 0,O U 0,O U 0]) ?_ (fun vs L9 w9 hG9 hC9 hB K9 hK9=>?_) ?_
 next =>
  intro i9 hi9 hb9 ha9 v w1 w2 hv hT9
  have hb:=hT9 (fun hm=>by
   simp only [List.mem_cons,List.not_mem_nil,or_false] at hm hb9
   subst hm
   ·exact hb9 (by simp))
  obtain ⟨g9,q1,q2,q3⟩:=hv
  exact ⟨g9,q1,q2,q3.below hb q3.lt⟩
 next =>
  simp only [Act.put,sA,s0,s1] at hK9
  go_simp
  have hb8:=(Below.refl w9.heap.size w9).alloc (Nat.le_refl _) (.cells #[O U 0,O U 0,O U 0,O U 0] 112)
  exact hK9 _ _ _ rfl ⟨_,rfl,hC9.size,ai.new w9 112 #[O U 0,O U 0,O U 0,O U 0]⟩ (hC9.trans (hb8.mono hC9.size)) (fun _=>hb8)
 refine bs [] 7 (fun u _ w9=>∃ g9,u=.pointer (some ⟨g9,0,none⟩)∧w.heap.size≤g9∧ai w9 g9 112 [O U 0,O U a0,O U a1,O U 0]) (by kernel_rfl) ?_ (fun vs L9 w9 hG9 hC9 hB K9 hK9=>?_) ?_
 next =>
  intro i9 hi9 hb9 ha9 u v w1 w2 hv hT9
  have hb:=hT9 (fun hm=>by
   simp only [List.mem_cons,List.not_mem_nil,or_false] at hm hb9
   subst hm
   ·exact hi9 rfl)
  obtain ⟨g9,q1,q2,q3⟩:=hv
  exact ⟨g9,q1,q2,q3.below hb q3.lt⟩
 next =>
  have d6:=fe hB 6
  simp only [d6] at hK9 ⊢
  obtain ⟨g9,hv9,hg9,hA9⟩:=fs hB 7
  simp only [hv9] at hK9 ⊢
  obtain ⟨z0,z1,z2,z3⟩:=cells4 hA9
  obtain ⟨f0,f1,f2,f3⟩:=frz4 hA9
  have hN8:=Lib.hid (show ai _ g9 112 [O U 0,O U a0,O U a1,O U 0] from ((((hA9.set 0 (O U 0)).set 1 (O U a0)).set 2 (O U a1)).set 3 (O U 0)))
  have hD8:=Lib.hid (hC9.grown (row:=some g9) (ac (g:=g9) (i:=3) (u:=O U 0) (ac (g:=g9) (i:=2) (u:=O U a1) (ac (g:=g9) (i:=1) (u:=O U a0) (ac (g:=g9) (i:=0) (u:=O U 0) (World.grownBy.refl _ _))))) hC9.size (by rintro _ ⟨⟩; exact hg9))
  clear hA9
  go_simp
  exact hK9 _ undef _ rfl ⟨g9,rfl,hg9,hN8.out⟩ hD8.out (fun hq=>(hq (by decide)).elim)
 refine az fun vs L9 w2 hL9 b2 hB=>?_
 obtain ⟨g5,hvg,hg5,K5⟩:=hB 8 _ rfl rfl (by decide)
 simp only [hvg]
 clear hB hL9 hvg
 have n0w:∀ W:World,Below w.heap.size w W→W.cell? ⟨bN,off,none⟩=some (O U a0):=fun W hb=>c0n ⟨W,hb⟩
 have n1w:∀ W:World,Below w.heap.size w W→W.cell? ⟨bN,off+1,none⟩=some (O U a1):=fun W hb=>c1n ⟨W,hb⟩
 have hneN : ¬ bN=g5:=by omega
 have hneN2 : ¬ g5=bN:=by omega
 clear c0n c1n
 by_cases h0:s=⟨#[103,101,116]⟩
 ·subst h0
  by_cases hl:ns.length=2
  ·have hns:=H2.out hl
   have hr:bp x ⟨#[103,101,116]⟩ ns=bL x ⟨1,a0,0,a1⟩:=by
    rw [hns,show bp x ⟨#[103,101,116]⟩ [a0,a1]=(cc ⟨#[103,101,116]⟩ a0 a1).bind (bL x) from rfl]
    unfold cc
    rw [if_pos rfl]; rfl
   clear hns
   have hle:((ns.length:Int) != 2)=false:=by rw [hl]; rfl
   have HL:=Lib.hid hl
   clear hl
   have hc:=fun W hW=>fS x ⟨1,a0,0,a1⟩ W hW
   obtain ⟨R,hR⟩ : ∃ R,fL x.c ⟨1,a0,0,a1⟩=R:=⟨_,rfl⟩
   rw [hR] at hc
   unfold bL at hr
   rw [hR] at hr
   go_upto_region 6 with fail
   refine an (Sw 7 (fun W9=>Below w2.heap.size w2 W9) (fun W9=>Below w.heap.size w W9∧ai W9 g5 112 [O U 1,O U a0,O U 0,O U a1])) (fun i w1 w2=>i ∉ [7]→Below w1.heap.size w1 w2) (by kernel_rfl) (by kernel_rfl) (by kernel_rfl) (Sw.start (Below.refl _ _).drew) ?_
   simp only [ax,Act.put,List.setIfInBounds_toArray,List.set_cons_zero,List.set_cons_succ,Nat.zero_add,Nat.reduceAdd]
   apply aa
   case h1 =>
    intro vs L9 w9 hG9 hC9 hB K9 hK9
    replace hC9:=sb hC9 hG9
    simp only [Act.put,sA,s0,s1] at hK9
    go_simp
    exact hK9 _ _ rfl (sy hG9 hC9) bR
   apply aa
   case h1 =>
    intro vs L9 w9 hG9 hC9 hB K9 hK9
    replace hC9:=sb hC9 hG9
    have d0:=fe hB 0
    simp only [d0] at hK9 ⊢
    simp only [Act.put,sA,s0,s1] at hK9
    go_simp
    exact hK9 _ _ rfl (sy hG9 hC9) bR
   apply aa
   case h1 =>
    intro vs L9 w9 hG9 hC9 hB K9 hK9
    replace hC9:=sb hC9 hG9
    have d1:=fe hB 1
    simp only [d1] at hK9 ⊢
    have q0:w9.cell? ⟨bN,off,none⟩=some (O U a0):=n0w w9 (b2.trans (hC9.mono b2.size))
    simp only [Act.put,sA,s0,s1] at hK9
    go_simp
    exact hK9 _ _ rfl (sy hG9 hC9) bR
   apply aa
   case h1 =>
    intro vs L9 w9 hG9 hC9 hB K9 hK9
    replace hC9:=sb hC9 hG9
    simp only [Act.put,sA,s0,s1] at hK9
    go_simp
    exact hK9 _ _ rfl (sy hG9 hC9) bR
   apply aa
   case h1 =>
    intro vs L9 w9 hG9 hC9 hB K9 hK9
    replace hC9:=sb hC9 hG9
    have d3:=fe hB 3
    simp only [d3] at hK9 ⊢
    simp only [Act.put,sA,s0,s1] at hK9
    go_simp
    exact hK9 _ _ rfl (sy hG9 hC9) bR
   apply aa
   case h1 =>
    intro vs L9 w9 hG9 hC9 hB K9 hK9
    replace hC9:=sb hC9 hG9
    have d4:=fe hB 4
    simp only [d4] at hK9 ⊢
    have q0:w9.cell? ⟨bN,off+1,none⟩=some (O U a1):=n1w w9 (b2.trans (hC9.mono b2.size))
    simp only [Act.put,sA,s0,s1] at hK9
    go_simp
    exact hK9 _ _ rfl (sy hG9 hC9) bR
   apply aa
   case h1 =>
    intro vs L9 w9 hG9 hC9 hB K9 hK9
    replace hC9:=sb hC9 hG9
    have d2:=fe hB 2
    have d5:=fe hB 5
    simp only [d2,d5] at hK9 ⊢
    simp only [Act.put,sA,s0,s1] at hK9
    go_simp
    exact hK9 _ _ rfl (sy hG9 hC9) bR
   refine aa (undef) (fun vs L9 w9 hG9 hC9 hB K9 hK9=>?_) ?_
   next =>
    replace hC9:=hC9.here hG9
    have d6:=fe hB 6
    simp only [d6] at hK9 ⊢
    have Lr:=K5.below hC9 K5.lt
    obtain ⟨z0,z1,z2,z3⟩:=cells4 Lr
    obtain ⟨f0,f1,f2,f3⟩:=frz4 Lr
    have hN8:=Lib.hid (show ai _ g5 112 [O U 1,O U a0,O U 0,O U a1] from sP (Lr) (O U 1) (O U a0) (O U 0) (O U a1))
    have hD8:=Lib.hid (sH (g:=g5) (b2.trans (hC9.mono b2.size)) hg5 (O U 1) (O U a0) (O U 0) (O U a1))
    clear Lr
    go_simp
    exact hK9 _ _ rfl (Sw.turn ⟨hD8.out,hN8.out⟩) (fun hq=>(hq (by decide)).elim)
   apply aa
   case h1 =>
    intro vs L9 w9 hG9 hC9 hB K9 hK9
    replace hC9:=hC9.after hG9 (by kernel_rfl)
    simp only [Act.put,sA,s0,s1] at hK9
    go_simp
    exact hK9 _ _ rfl (Sw.on hG9 (by kernel_rfl) hC9) bR
   refine az fun vs L9 w9 hL9 hC9 hB=>?_
   replace hC9:=hC9.done hL9 (by decide)
   have dl:=ag.eq (hB 8 _ rfl rfl (by decide))
   simp only [dl]
   clear hB dl b2 K5
   obtain ⟨b3,K5⟩:=hC9
   go_upto_region 21 with fail
   generalize w9=w3 at b3 K5 ⊢
   have hL3:=hL.below b3 hL.lt
   have hR3:=h.up b3 (Nat.le_refl _)
   obtain ⟨y,hy⟩ : ∃ y,cj R=y:=⟨_,rfl⟩
   obtain ⟨ok,hok⟩ : ∃ ok,R.isSome=ok:=⟨_,rfl⟩
   have HR:=Lib.hid hR
   have HY:=Lib.hid hy
   have HOK:=Lib.hid hok
   unfold aC at hc
   rw [hy,hok] at hc
   clear hR hy hok
   refine an (fun _=>(fun W9=>Below w3.heap.size w3 W9)) (fun i w1 w2=>i ∉ [10]→Below w1.heap.size w1 w2) (by kernel_rfl) (by kernel_rfl) (by kernel_rfl) (Below.refl _ _).drew ?_
   simp only [ax,Act.put,List.setIfInBounds_toArray,List.set_cons_zero,List.set_cons_succ,Nat.zero_add,Nat.reduceAdd]
   apply aa
   case h1 =>
    intro vs L9 w9 hG9 hC9 hB K9 hK9
    simp only [Act.put,sA,s0,s1] at hK9
    go_simp
    exact hK9 _ _ rfl hC9 bR
   apply aa
   case h1 =>
    intro vs L9 w9 hG9 hC9 hB K9 hK9
    have d0:=fe hB 0
    simp only [d0] at hK9 ⊢
    simp only [Act.put,sA,s0,s1] at hK9
    go_simp
    exact hK9 _ _ rfl hC9 bR
   apply aa
   case h1 =>
    intro vs L9 w9 hG9 hC9 hB K9 hK9
    have d1:=fe hB 1
    simp only [d1] at hK9 ⊢
    simp only [Act.put,sA,s0,s1] at hK9
    go_simp
    exact hK9 _ _ rfl hC9 bR
   apply aa
   case h1 =>
    intro vs L9 w9 hG9 hC9 hB K9 hK9
    have d2:=fe hB 2
    simp only [d2] at hK9 ⊢
    have q0:w9.cell? ⟨g,0,none⟩=some (F x.TA x.t.length x.tc):=(hL3.below hC9 hL3.lt).cell 0
    have q1:w9.cell? ⟨g,1,none⟩=some (F x.OA x.o.length x.oc):=(hL3.below hC9 hL3.lt).cell 1
    have q2:w9.cell? ⟨g,2,none⟩=some (O U x.got):=(hL3.below hC9 hL3.lt).cell 2
    have q3:w9.cell? ⟨g,3,none⟩=some (O U x.sold):=(hL3.below hC9 hL3.lt).cell 3
    have q4:w9.cell? ⟨g,4,none⟩=some (O U x.missed):=(hL3.below hC9 hL3.lt).cell 4
    simp only [Act.put,sA,s0,s1] at hK9
    go_simp
    exact hK9 _ _ rfl hC9 bR
   apply aa
   case h1 =>
    intro vs L9 w9 hG9 hC9 hB K9 hK9
    have q0:w9.cell? ⟨g5,0,none⟩=some (O U 1):=(K5.below hC9 K5.lt).cell 0
    have q1:w9.cell? ⟨g5,1,none⟩=some (O U a0):=(K5.below hC9 K5.lt).cell 1
    have q2:w9.cell? ⟨g5,2,none⟩=some (O U 0):=(K5.below hC9 K5.lt).cell 2
    have q3:w9.cell? ⟨g5,3,none⟩=some (O U a1):=(K5.below hC9 K5.lt).cell 3
    simp only [Act.put,sA,s0,s1] at hK9
    go_simp
    exact hK9 _ _ rfl hC9 bR
   refine ak [10] (fun v w9=>∃ TA tc OA oc,v=.tuple #[.agg #[F TA y.t.length tc,F OA y.o.length oc,O U y.got,O U y.sold,O U y.missed],.bool ok]∧w9.ownsRow w.heap.size 104 2 (F TA y.t.length tc) y.t.length (y.t.flatMap aq.enc)∧w9.ownsRow w.heap.size 147 3 (F OA y.o.length oc) y.o.length (y.o.flatMap ae.enc)) ?_ (fun vs L9 w9 hG9 hC9 hB K9 hK9=>?_) ?_
   next =>
    intro i9 hi9 hb9 ha9 v w1 w2 hv hT9
    have hb:=hT9 (fun hm=>by
     simp only [List.mem_cons,List.not_mem_nil,or_false] at hm hb9
     subst hm
     ·exact hb9 (by simp))
    obtain ⟨TA,tc,OA,oc,e,q1,q2⟩:=hv
    exact ⟨TA,tc,OA,oc,e,ab q1 hb,ab q2 hb⟩
   next =>
    have d3:=fe hB 3
    have d4:=fe hB 4
    simp only [d3,d4] at hK9 ⊢
    simp only [Act.put,sA,s0,s1] at hK9
    go_simp
    refine (hc w9 (hR3.then hC9)).mono ?_
    rintro en w8 ⟨TA,tc,OA,oc,rfl,h1,h2,hb8⟩
    simp only [Oc.at,aM.val]
    exact hK9 _ _ _ rfl ⟨TA,tc,OA,oc,rfl,af h1 (Nat.le_trans b3.size hC9.size),af h2 (Nat.le_trans b3.size hC9.size)⟩ (hC9.trans (hb8.mono hC9.size)) (fun _=>hb8)
   refine bs [] 5 (fun u v w9=>v=u∧∃ TA tc OA oc,u=.tuple #[.agg #[F TA y.t.length tc,F OA y.o.length oc,O U y.got,O U y.sold,O U y.missed],.bool ok]) (by kernel_rfl) ?_ (fun vs L9 w9 hG9 hC9 hB K9 hK9=>?_) ?_
   next =>
    intro i9 hi9 hb9 ha9 u v w1 w2 hv hT9
    exact hv
   next =>
    obtain ⟨TA,tc,OA,oc,e0,h1,h2⟩:=fs hB 5
    simp only [e0] at hK9 ⊢
    go_simp
    exact hK9 _ _ _ rfl ⟨rfl,TA,tc,OA,oc,rfl⟩ hC9 bR
   refine ak [10] (fun v w9=>∃ TA tc OA oc,v=.agg #[F TA y.t.length tc,F OA y.o.length oc,O U y.got,O U y.sold,O U y.missed]∧w9.ownsRow w.heap.size 104 2 (F TA y.t.length tc) y.t.length (y.t.flatMap aq.enc)∧w9.ownsRow w.heap.size 147 3 (F OA y.o.length oc) y.o.length (y.o.flatMap ae.enc)) ?_ (fun vs L9 w9 hG9 hC9 hB K9 hK9=>?_) ?_
   next =>
    intro i9 hi9 hb9 ha9 v w1 w2 hv hT9
    have hb:=hT9 (fun hm=>by
     simp only [List.mem_cons,List.not_mem_nil,or_false] at hm hb9
     subst hm
     ·exact hb9 (by simp))
    obtain ⟨TA,tc,OA,oc,e,q1,q2⟩:=hv
    exact ⟨TA,tc,OA,oc,e,ab q1 hb,ab q2 hb⟩
   next =>
    simp only [Act.put,sA,s0,s1] at hK9
    obtain ⟨TA,tc,OA,oc,e0,h1,h2⟩:=fs hB 5
    obtain ⟨e6,_⟩:=fs hB 6
    simp only [e6,e0] at hK9 ⊢
    go_simp
    exact hK9 _ _ _ rfl ⟨TA,tc,OA,oc,rfl,h1,h2⟩ hC9 bR
   refine aa (.bool ok) (fun vs L9 w9 hG9 hC9 hB K9 hK9=>?_) ?_
   next =>
    obtain ⟨e6,TA,tc,OA,oc,e0⟩:=fs hB 6
    simp only [e6,e0] at hK9 ⊢
    go_simp
    exact hK9 _ _ rfl hC9 bR
   refine ak [10] (fun v w9=>∃ g9,v=.pointer (some ⟨g9,0,none⟩)∧w3.heap.size≤g9∧ai w9 g9 40 [F none 0 0,F none 0 0,O U 0,O U 0,O U 0]) ?_ (fun vs L9 w9 hG9 hC9 hB K9 hK9=>?_) ?_
   next =>
    intro i9 hi9 hb9 ha9 v w1 w2 hv hT9
    have hb:=hT9 (fun hm=>by
     simp only [List.mem_cons,List.not_mem_nil,or_false] at hm hb9
     subst hm
     ·exact hb9 (by simp))
    obtain ⟨g9,q1,q2,q3⟩:=hv
    exact ⟨g9,q1,q2,q3.below hb q3.lt⟩
   next =>
    simp only [Act.put,sA,s0,s1] at hK9
    go_simp
    have hb8:=(Below.refl w9.heap.size w9).alloc (Nat.le_refl _) (.cells #[F none 0 0,F none 0 0,O U 0,O U 0,O U 0] 40)
    exact hK9 _ _ _ rfl ⟨_,rfl,hC9.size,ai.new w9 40 #[F none 0 0,F none 0 0,O U 0,O U 0,O U 0]⟩ (hC9.trans (hb8.mono hC9.size)) (fun _=>hb8)
   refine bs [] 9 (fun u _ w9=>∃ g9 TA tc OA oc,u=.pointer (some ⟨g9,0,none⟩)∧w3.heap.size≤g9∧ai w9 g9 40 [F TA y.t.length tc,F OA y.o.length oc,O U y.got,O U y.sold,O U y.missed]∧w9.ownsRow w.heap.size 104 2 (F TA y.t.length tc) y.t.length (y.t.flatMap aq.enc)∧w9.ownsRow w.heap.size 147 3 (F OA y.o.length oc) y.o.length (y.o.flatMap ae.enc)) (by kernel_rfl) ?_ (fun vs L9 w9 hG9 hC9 hB K9 hK9=>?_) ?_
   next =>
    intro i9 hi9 hb9 ha9 u v w1 w2 hv hT9
    have hb:=hT9 (fun hm=>by
     simp only [List.mem_cons,List.not_mem_nil,or_false] at hm hb9
     subst hm
     ·exact hi9 rfl)
    obtain ⟨g9,TA,tc,OA,oc,q1,q2,q3,q4,q5⟩:=hv
    exact ⟨g9,TA,tc,OA,oc,q1,q2,q3.below hb q3.lt,ab q4 hb,ab q5 hb⟩
   next =>
    obtain ⟨g9,hv9,hg9,hA9⟩:=fs hB 9
    simp only [hv9] at hK9 ⊢
    obtain ⟨TA,tc,OA,oc,e0,h1,h2⟩:=fs hB 7
    simp only [e0] at hK9 ⊢
    obtain ⟨z0,z1,z2,z3,z4⟩:=cells5 hA9
    obtain ⟨f0,f1,f2,f3,f4⟩:=frz5 hA9
    have hN8:=Lib.hid (show ai _ g9 40 [F TA y.t.length tc,F OA y.o.length oc,O U y.got,O U y.sold,O U y.missed] from qW (hA9) (F TA y.t.length tc) (F OA y.o.length oc) (O U y.got) (O U y.sold) (O U y.missed))
    have hD8:=Lib.hid (hC9.grown (row:=some g9) (ac (g:=g9) (i:=4) (u:=O U y.missed) (ac (g:=g9) (i:=3) (u:=O U y.sold) (ac (g:=g9) (i:=2) (u:=O U y.got) (ac (g:=g9) (i:=1) (u:=F OA y.o.length oc) (ac (g:=g9) (i:=0) (u:=F TA y.t.length tc) (World.grownBy.refl _ (some g9))))))) hC9.size (by rintro _ ⟨⟩; exact hg9))
    have hT8:=Lib.hid (aj h1 hA9 ez (ac (g:=g9) (i:=4) (u:=O U y.missed) (ac (g:=g9) (i:=3) (u:=O U y.sold) (ac (g:=g9) (i:=2) (u:=O U y.got) (ac (g:=g9) (i:=1) (u:=F OA y.o.length oc) (ac (g:=g9) (i:=0) (u:=F TA y.t.length tc) (World.grownBy.refl _ (some g9))))))))
    have hO8:=Lib.hid (aj h2 hA9 dY (ac (g:=g9) (i:=4) (u:=O U y.missed) (ac (g:=g9) (i:=3) (u:=O U y.sold) (ac (g:=g9) (i:=2) (u:=O U y.got) (ac (g:=g9) (i:=1) (u:=F OA y.o.length oc) (ac (g:=g9) (i:=0) (u:=F TA y.t.length tc) (World.grownBy.refl _ (some g9))))))))
    clear hA9
    go_simp
    exact hK9 _ undef _ rfl ⟨g9,TA,tc,OA,oc,rfl,hg9,hN8.out,hT8.out,hO8.out⟩ hD8.out (fun hq=>(hq (by decide)).elim)
   apply aa
   case h1 =>
    intro vs L9 w9 hG9 hC9 hB K9 hK9
    have d8:=fe hB 8
    simp only [d8] at hK9 ⊢
    simp only [Act.put,sA,s0,s1] at hK9
    go_simp
    exact hK9 _ _ rfl hC9 bR
   refine az fun vs L9 w4 hL9 hC9 hB=>?_
   obtain ⟨gt,TA,tc,OA,oc,hvg,hgt,Kt,hT4,hO4⟩:=hB 10 _ rfl rfl (by decide)
   have dl:=ag.eq (hB 11 _ rfl rfl (by decide))
   simp only [hvg,dl]
   clear hB hL9 hvg dl
   have b4:=b3.trans (hC9.mono b3.size)
   cases R with
   | none =>
    have e1:ok=false:=HOK.out.symm
    subst e1
    have HE:Hid (bp x ⟨#[103,101,116]⟩ ns=none):=hr
    clear hr
    clear Kt K5 hL3 hR3 hT4 hO4 HY
    go_wp2_with fail
    go_ret2
    rw [HE.out]
    exact bo.no b4
   | some z =>
   have e1:ok=true:=HOK.out.symm
   subst e1
   have e2:z=y:=HY.out
   subst e2
   have hz0:=HR.out
   have HE:Hid (bp x ⟨#[103,101,116]⟩ ns=some (z,iv z.off ⟨1,a0,0,a1⟩)):=hr
   clear hr
   have hg4:=hL.below b4 hL.lt
   have hgg:g < gt:=Nat.lt_of_lt_of_le hL.lt (Nat.le_trans b3.size hgt)
   have hW0s:W0.heap.size≤w.heap.size:=hb0.size
   obtain ⟨w5,HW5,M,b5,gr5,OT⟩:=gL hg4 (b4.mono hW0s) hB (F TA z.t.length tc) (F OA z.o.length oc) (O U z.got) (O U z.sold) (O U z.missed)
   have Mt:=OT _ _ _ (by omega) Kt
   have hT5:=aj hT4 hg4 eN gr5
   have hO5:=aj hO4 hg4 eQ gr5
   have HK5:Hid (∀ j,j < w.heap.size→j ≠ g→w5.heap[j]?=w.heap[j]?):=fun j hj hne=>(gr5.block j (Nat.lt_of_lt_of_le hj b4.size) (by intro e; injection e with e; exact hne e)).trans (b4.block j hj)
   have hs5:w.heap.size≤w5.heap.size:=Nat.le_trans b4.size gr5.size
   obtain ⟨z0,z1,z2,z3,z4⟩:=cells5 Kt
   obtain ⟨k0,k1,k2,k3,k4,k5,k6,k7⟩:=cells8 hg4
   obtain ⟨f0,f1,f2,f3,f4,f5,f6,f7⟩:=frz8 hg4
   go_upto_region 25 with fail
   clear z0 z1 z2 z3 z4 k0 k1 k2 k3 k4 k5 k6 k7 f0 f1 f2 f3 f4 hg4 gr5 hL3 hR3 K5
   rw [HW5.out]
   clear HW5 OT
   have b05:=hb0.trans b5
   have ht5:=ht.then b05
   have hgz:w.heap.size≤gt:=Nat.le_trans b3.size hgt
   have hOw:aA w5 w.heap.size gt (F TA z.t.length tc) (F OA z.o.length oc) z:=⟨Mt,hgz,hT5,hO5⟩
   have hat:=aA.at_ hOw
   have hzz:=eG hz0
   have GZ:bn (z.at TA tc OA oc):=Oc.good_off hzz.1 TA tc OA oc
   have hCI:db w5 W0.heap.size g z l:=⟨TA,tc,OA,oc,M,af hT5 hW0s,af hO5 hW0s⟩
   obtain ⟨z0,z1,z2,z3,z4⟩:=cells5 Mt
   have bd:=GZ.inB
   have hc1:=ik (z.at TA tc OA oc) gt w5 hat GZ.tl GZ.tall
   have hn:=fun W hW=>cu (bW z.t) W (by have e:(z.at TA tc OA oc).t=z.t:=rfl; rw [e] at bd; omega) (by have e:(z.at TA tc OA oc).t=z.t:=rfl; rw [e] at bd; omega) hW
   clear bd
   go_wp2_with fail
   refine hc1.mono ?_
   rintro e W6 ⟨rfl,hb6⟩
   go_wp2_with fail
   refine (hn _ (ht5.then hb6)).mono ?_
   rintro e W7 ⟨rfl,hb7⟩
   have hb8:=ar hb6 hb7
   go_wp2
   go_ret2
   rw [HE.out]
   exact bo.yes rfl (hCI.below hb8) (b5.trans (hb8.mono (Nat.le_trans hW0s hs5))) (Nat.le_trans hs5 hb8.size) (fun j hj hne=>(hb8.block j (Nat.lt_of_lt_of_le hj hs5)).trans (HK5.out j hj hne))
  ·have hr:bp x ⟨#[103,101,116]⟩ ns=none:=by
    rw [H3.out (by omega) (ns[2]'(by omega)) rfl]; generalize ns[2]'(by omega)=b2; rw [show bp x ⟨#[103,101,116]⟩ [a0,a1,b2]=(cn ⟨#[103,101,116]⟩ a0 a1 b2).bind (bL x) from rfl]; unfold cn; rw [if_neg (by decide),if_neg (by decide),if_neg (by decide),if_neg (by decide)]; rfl
   have HE:Hid (bp x ⟨#[103,101,116]⟩ ns=none):=hr
   clear hr
   have hle:((ns.length:Int) != 2)=true:=by rw [bne_iff_ne]; omega
   go_upto_region 6 with fail
   refine an (Sw 7 (fun W9=>Below w2.heap.size w2 W9) (fun W9=>Below w.heap.size w W9)) (fun i w1 w2=>i ∉ [7]→Below w1.heap.size w1 w2) (by kernel_rfl) (by kernel_rfl) (by kernel_rfl) (Sw.start (Below.refl _ _).drew) ?_
   simp only [ax,Act.put,List.setIfInBounds_toArray,List.set_cons_zero,List.set_cons_succ,Nat.zero_add,Nat.reduceAdd]
   apply aa
   case h1 =>
    intro vs L9 w9 hG9 hC9 hB K9 hK9
    replace hC9:=sb hC9 hG9
    simp only [Act.put,sA,s0,s1] at hK9
    go_simp
    exact hK9 _ _ rfl (sy hG9 hC9) bR
   apply aa
   case h1 =>
    intro vs L9 w9 hG9 hC9 hB K9 hK9
    replace hC9:=sb hC9 hG9
    have d0:=fe hB 0
    simp only [d0] at hK9 ⊢
    simp only [Act.put,sA,s0,s1] at hK9
    go_simp
    exact hK9 _ _ rfl (sy hG9 hC9) bR
   apply aa
   case h1 =>
    intro vs L9 w9 hG9 hC9 hB K9 hK9
    replace hC9:=sb hC9 hG9
    have d1:=fe hB 1
    simp only [d1] at hK9 ⊢
    have q0:w9.cell? ⟨bN,off,none⟩=some (O U a0):=n0w w9 (b2.trans (hC9.mono b2.size))
    simp only [Act.put,sA,s0,s1] at hK9
    go_simp
    exact hK9 _ _ rfl (sy hG9 hC9) bR
   apply aa
   case h1 =>
    intro vs L9 w9 hG9 hC9 hB K9 hK9
    replace hC9:=sb hC9 hG9
    simp only [Act.put,sA,s0,s1] at hK9
    go_simp
    exact hK9 _ _ rfl (sy hG9 hC9) bR
   apply aa
   case h1 =>
    intro vs L9 w9 hG9 hC9 hB K9 hK9
    replace hC9:=sb hC9 hG9
    have d3:=fe hB 3
    simp only [d3] at hK9 ⊢
    simp only [Act.put,sA,s0,s1] at hK9
    go_simp
    exact hK9 _ _ rfl (sy hG9 hC9) bR
   apply aa
   case h1 =>
    intro vs L9 w9 hG9 hC9 hB K9 hK9
    replace hC9:=sb hC9 hG9
    have d4:=fe hB 4
    simp only [d4] at hK9 ⊢
    have q0:w9.cell? ⟨bN,off+1,none⟩=some (O U a1):=n1w w9 (b2.trans (hC9.mono b2.size))
    simp only [Act.put,sA,s0,s1] at hK9
    go_simp
    exact hK9 _ _ rfl (sy hG9 hC9) bR
   apply aa
   case h1 =>
    intro vs L9 w9 hG9 hC9 hB K9 hK9
    replace hC9:=sb hC9 hG9
    have d2:=fe hB 2
    have d5:=fe hB 5
    simp only [d2,d5] at hK9 ⊢
    simp only [Act.put,sA,s0,s1] at hK9
    go_simp
    exact hK9 _ _ rfl (sy hG9 hC9) bR
   refine aa (undef) (fun vs L9 w9 hG9 hC9 hB K9 hK9=>?_) ?_
   next =>
    replace hC9:=hC9.here hG9
    have d6:=fe hB 6
    simp only [d6] at hK9 ⊢
    have Lr:=K5.below hC9 K5.lt
    obtain ⟨z0,z1,z2,z3⟩:=cells4 Lr
    obtain ⟨f0,f1,f2,f3⟩:=frz4 Lr
    have hD8:=Lib.hid (sH (g:=g5) (b2.trans (hC9.mono b2.size)) hg5 (O U 1) (O U a0) (O U 0) (O U a1))
    clear Lr
    go_simp
    exact hK9 _ _ rfl (Sw.turn hD8.out) (fun hq=>(hq (by decide)).elim)
   apply aa
   case h1 =>
    intro vs L9 w9 hG9 hC9 hB K9 hK9
    replace hC9:=hC9.after hG9 (by kernel_rfl)
    simp only [Act.put,sA,s0,s1] at hK9
    go_simp
    exact hK9 _ _ rfl (Sw.on hG9 (by kernel_rfl) hC9) bR
   refine az fun vs L9 w9 hL9 hC9 hB=>?_
   replace hC9:=hC9.done hL9 (by decide)
   have dl:=ag.eq (hB 8 _ rfl rfl (by decide))
   simp only [dl]
   clear hB dl b2 K5
   go_wp2_with fail
   go_ret2
   rw [HE.out]
   exact bo.no hC9
 have f0:(s.toList == [103,101,116])=false:=bC h0
 by_cases h1:s=⟨#[115,104,111,119]⟩
 ·subst h1
  by_cases hl:ns.length=3
  ·have hl2:2 < ns.length:=by omega
   have hli2:(2:Int) < (ns.length:Int):=by omega
   obtain ⟨a2,ha2⟩ : ∃ a,ns[2]'hl2=a:=⟨_,rfl⟩
   have n2w:∀ W:World,Below w.heap.size w W→W.cell? ⟨bN,off+2,none⟩=some (O U a2):=fun W hb=>by have:=HCN.out 2 hl2 ⟨W,hb⟩; rw [ha2] at this; exact this
   have hns:=H3.out hl a2 ha2
   have hr:bp x ⟨#[115,104,111,119]⟩ ns=bL x ⟨2,a0,a1,a2⟩:=by
    rw [hns,show bp x ⟨#[115,104,111,119]⟩ [a0,a1,a2]=(cn ⟨#[115,104,111,119]⟩ a0 a1 a2).bind (bL x) from rfl]
    unfold cn
    rw [if_pos rfl]; rfl
   clear hns ha2
   have hle:((ns.length:Int) != 3)=false:=by rw [hl]; rfl
   have HL:=Lib.hid hl
   clear hl
   have hc:=fun W hW=>fS x ⟨2,a0,a1,a2⟩ W hW
   obtain ⟨R,hR⟩ : ∃ R,fL x.c ⟨2,a0,a1,a2⟩=R:=⟨_,rfl⟩
   rw [hR] at hc
   unfold bL at hr
   rw [hR] at hr
   obtain ⟨s0,s1,s2,s3⟩:=cells4 K5
   obtain ⟨fs0,fs1,fs2,fs3⟩:=frz4 K5
   have n2c:=n2w w2 b2
   go_upto_region 21 with fail
   have K6:ai ((w2.setCell ⟨g5,0,none⟩ (O U 2)).setCell ⟨g5,3,none⟩ (O U a2)) g5 112 [O U 2,O U a0,O U a1,O U a2]:=((K5.set 0 (O U 2)).set 3 (O U a2))
   have b3:=((b2.setCell (p:=⟨g5,0,none⟩) hg5 (O U 2)).setCell (p:=⟨g5,3,none⟩) hg5 (O U a2))
   clear K5 b2 s0 s1 s2 s3 fs0 fs1 fs2 fs3 n2c
   generalize ((w2.setCell ⟨g5,0,none⟩ (O U 2)).setCell ⟨g5,3,none⟩ (O U a2))=w3 at K6 b3 ⊢
   have K5:=K6
   clear K6
   have hL3:=hL.below b3 hL.lt
   have hR3:=h.up b3 (Nat.le_refl _)
   obtain ⟨y,hy⟩ : ∃ y,cj R=y:=⟨_,rfl⟩
   obtain ⟨ok,hok⟩ : ∃ ok,R.isSome=ok:=⟨_,rfl⟩
   have HR:=Lib.hid hR
   have HY:=Lib.hid hy
   have HOK:=Lib.hid hok
   unfold aC at hc
   rw [hy,hok] at hc
   clear hR hy hok
   refine an (fun _=>(fun W9=>Below w3.heap.size w3 W9)) (fun i w1 w2=>i ∉ [10]→Below w1.heap.size w1 w2) (by kernel_rfl) (by kernel_rfl) (by kernel_rfl) (Below.refl _ _).drew ?_
   simp only [ax,Act.put,List.setIfInBounds_toArray,List.set_cons_zero,List.set_cons_succ,Nat.zero_add,Nat.reduceAdd]
   apply aa
   case h1 =>
    intro vs L9 w9 hG9 hC9 hB K9 hK9
    simp only [Act.put,sA,s0,s1] at hK9
    go_simp
    exact hK9 _ _ rfl hC9 bR
   apply aa
   case h1 =>
    intro vs L9 w9 hG9 hC9 hB K9 hK9
    have d0:=fe hB 0
    simp only [d0] at hK9 ⊢
    simp only [Act.put,sA,s0,s1] at hK9
    go_simp
    exact hK9 _ _ rfl hC9 bR
   apply aa
   case h1 =>
    intro vs L9 w9 hG9 hC9 hB K9 hK9
    have d1:=fe hB 1
    simp only [d1] at hK9 ⊢
    simp only [Act.put,sA,s0,s1] at hK9
    go_simp
    exact hK9 _ _ rfl hC9 bR
   apply aa
   case h1 =>
    intro vs L9 w9 hG9 hC9 hB K9 hK9
    have d2:=fe hB 2
    simp only [d2] at hK9 ⊢
    have q0:w9.cell? ⟨g,0,none⟩=some (F x.TA x.t.length x.tc):=(hL3.below hC9 hL3.lt).cell 0
    have q1:w9.cell? ⟨g,1,none⟩=some (F x.OA x.o.length x.oc):=(hL3.below hC9 hL3.lt).cell 1
    have q2:w9.cell? ⟨g,2,none⟩=some (O U x.got):=(hL3.below hC9 hL3.lt).cell 2
    have q3:w9.cell? ⟨g,3,none⟩=some (O U x.sold):=(hL3.below hC9 hL3.lt).cell 3
    have q4:w9.cell? ⟨g,4,none⟩=some (O U x.missed):=(hL3.below hC9 hL3.lt).cell 4
    simp only [Act.put,sA,s0,s1] at hK9
    go_simp
    exact hK9 _ _ rfl hC9 bR
   apply aa
   case h1 =>
    intro vs L9 w9 hG9 hC9 hB K9 hK9
    have q0:w9.cell? ⟨g5,0,none⟩=some (O U 2):=(K5.below hC9 K5.lt).cell 0
    have q1:w9.cell? ⟨g5,1,none⟩=some (O U a0):=(K5.below hC9 K5.lt).cell 1
    have q2:w9.cell? ⟨g5,2,none⟩=some (O U a1):=(K5.below hC9 K5.lt).cell 2
    have q3:w9.cell? ⟨g5,3,none⟩=some (O U a2):=(K5.below hC9 K5.lt).cell 3
    simp only [Act.put,sA,s0,s1] at hK9
    go_simp
    exact hK9 _ _ rfl hC9 bR
   refine ak [10] (fun v w9=>∃ TA tc OA oc,v=.tuple #[.agg #[F TA y.t.length tc,F OA y.o.length oc,O U y.got,O U y.sold,O U y.missed],.bool ok]∧w9.ownsRow w.heap.size 104 2 (F TA y.t.length tc) y.t.length (y.t.flatMap aq.enc)∧w9.ownsRow w.heap.size 147 3 (F OA y.o.length oc) y.o.length (y.o.flatMap ae.enc)) ?_ (fun vs L9 w9 hG9 hC9 hB K9 hK9=>?_) ?_
   next =>
    intro i9 hi9 hb9 ha9 v w1 w2 hv hT9
    have hb:=hT9 (fun hm=>by
     simp only [List.mem_cons,List.not_mem_nil,or_false] at hm hb9
     subst hm
     ·exact hb9 (by simp))
    obtain ⟨TA,tc,OA,oc,e,q1,q2⟩:=hv
    exact ⟨TA,tc,OA,oc,e,ab q1 hb,ab q2 hb⟩
   next =>
    have d3:=fe hB 3
    have d4:=fe hB 4
    simp only [d3,d4] at hK9 ⊢
    simp only [Act.put,sA,s0,s1] at hK9
    go_simp
    refine (hc w9 (hR3.then hC9)).mono ?_
    rintro en w8 ⟨TA,tc,OA,oc,rfl,h1,h2,hb8⟩
    simp only [Oc.at,aM.val]
    exact hK9 _ _ _ rfl ⟨TA,tc,OA,oc,rfl,af h1 (Nat.le_trans b3.size hC9.size),af h2 (Nat.le_trans b3.size hC9.size)⟩ (hC9.trans (hb8.mono hC9.size)) (fun _=>hb8)
   refine bs [] 5 (fun u v w9=>v=u∧∃ TA tc OA oc,u=.tuple #[.agg #[F TA y.t.length tc,F OA y.o.length oc,O U y.got,O U y.sold,O U y.missed],.bool ok]) (by kernel_rfl) ?_ (fun vs L9 w9 hG9 hC9 hB K9 hK9=>?_) ?_
   next =>
    intro i9 hi9 hb9 ha9 u v w1 w2 hv hT9
    exact hv
   next =>
    obtain ⟨TA,tc,OA,oc,e0,h1,h2⟩:=fs hB 5
    simp only [e0] at hK9 ⊢
    go_simp
    exact hK9 _ _ _ rfl ⟨rfl,TA,tc,OA,oc,rfl⟩ hC9 bR
   refine ak [10] (fun v w9=>∃ TA tc OA oc,v=.agg #[F TA y.t.length tc,F OA y.o.length oc,O U y.got,O U y.sold,O U y.missed]∧w9.ownsRow w.heap.size 104 2 (F TA y.t.length tc) y.t.length (y.t.flatMap aq.enc)∧w9.ownsRow w.heap.size 147 3 (F OA y.o.length oc) y.o.length (y.o.flatMap ae.enc)) ?_ (fun vs L9 w9 hG9 hC9 hB K9 hK9=>?_) ?_
   next =>
    intro i9 hi9 hb9 ha9 v w1 w2 hv hT9
    have hb:=hT9 (fun hm=>by
     simp only [List.mem_cons,List.not_mem_nil,or_false] at hm hb9
     subst hm
     ·exact hb9 (by simp))
    obtain ⟨TA,tc,OA,oc,e,q1,q2⟩:=hv
    exact ⟨TA,tc,OA,oc,e,ab q1 hb,ab q2 hb⟩
   next =>
    simp only [Act.put,sA,s0,s1] at hK9
    obtain ⟨TA,tc,OA,oc,e0,h1,h2⟩:=fs hB 5
    obtain ⟨e6,_⟩:=fs hB 6
    simp only [e6,e0] at hK9 ⊢
    go_simp
    exact hK9 _ _ _ rfl ⟨TA,tc,OA,oc,rfl,h1,h2⟩ hC9 bR
   refine aa (.bool ok) (fun vs L9 w9 hG9 hC9 hB K9 hK9=>?_) ?_
   next =>
    obtain ⟨e6,TA,tc,OA,oc,e0⟩:=fs hB 6
    simp only [e6,e0] at hK9 ⊢
    go_simp
    exact hK9 _ _ rfl hC9 bR
   refine ak [10] (fun v w9=>∃ g9,v=.pointer (some ⟨g9,0,none⟩)∧w3.heap.size≤g9∧ai w9 g9 40 [F none 0 0,F none 0 0,O U 0,O U 0,O U 0]) ?_ (fun vs L9 w9 hG9 hC9 hB K9 hK9=>?_) ?_
   next =>
    intro i9 hi9 hb9 ha9 v w1 w2 hv hT9
    have hb:=hT9 (fun hm=>by
     simp only [List.mem_cons,List.not_mem_nil,or_false] at hm hb9
     subst hm
     ·exact hb9 (by simp))
    obtain ⟨g9,q1,q2,q3⟩:=hv
    exact ⟨g9,q1,q2,q3.below hb q3.lt⟩
   next =>
    simp only [Act.put,sA,s0,s1] at hK9
    go_simp
    have hb8:=(Below.refl w9.heap.size w9).alloc (Nat.le_refl _) (.cells #[F none 0 0,F none 0 0,O U 0,O U 0,O U 0] 40)
    exact hK9 _ _ _ rfl ⟨_,rfl,hC9.size,ai.new w9 40 #[F none 0 0,F none 0 0,O U 0,O U 0,O U 0]⟩ (hC9.trans (hb8.mono hC9.size)) (fun _=>hb8)
   refine bs [] 9 (fun u _ w9=>∃ g9 TA tc OA oc,u=.pointer (some ⟨g9,0,none⟩)∧w3.heap.size≤g9∧ai w9 g9 40 [F TA y.t.length tc,F OA y.o.length oc,O U y.got,O U y.sold,O U y.missed]∧w9.ownsRow w.heap.size 104 2 (F TA y.t.length tc) y.t.length (y.t.flatMap aq.enc)∧w9.ownsRow w.heap.size 147 3 (F OA y.o.length oc) y.o.length (y.o.flatMap ae.enc)) (by kernel_rfl) ?_ (fun vs L9 w9 hG9 hC9 hB K9 hK9=>?_) ?_
   next =>
    intro i9 hi9 hb9 ha9 u v w1 w2 hv hT9
    have hb:=hT9 (fun hm=>by
     simp only [List.mem_cons,List.not_mem_nil,or_false] at hm hb9
     subst hm
     ·exact hi9 rfl)
    obtain ⟨g9,TA,tc,OA,oc,q1,q2,q3,q4,q5⟩:=hv
    exact ⟨g9,TA,tc,OA,oc,q1,q2,q3.below hb q3.lt,ab q4 hb,ab q5 hb⟩
   next =>
    obtain ⟨g9,hv9,hg9,hA9⟩:=fs hB 9
    simp only [hv9] at hK9 ⊢
    obtain ⟨TA,tc,OA,oc,e0,h1,h2⟩:=fs hB 7
    simp only [e0] at hK9 ⊢
    obtain ⟨z0,z1,z2,z3,z4⟩:=cells5 hA9
    obtain ⟨f0,f1,f2,f3,f4⟩:=frz5 hA9
    have hN8:=Lib.hid (show ai _ g9 40 [F TA y.t.length tc,F OA y.o.length oc,O U y.got,O U y.sold,O U y.missed] from qW (hA9) (F TA y.t.length tc) (F OA y.o.length oc) (O U y.got) (O U y.sold) (O U y.missed))
    have hD8:=Lib.hid (hC9.grown (row:=some g9) (ac (g:=g9) (i:=4) (u:=O U y.missed) (ac (g:=g9) (i:=3) (u:=O U y.sold) (ac (g:=g9) (i:=2) (u:=O U y.got) (ac (g:=g9) (i:=1) (u:=F OA y.o.length oc) (ac (g:=g9) (i:=0) (u:=F TA y.t.length tc) (World.grownBy.refl _ (some g9))))))) hC9.size (by rintro _ ⟨⟩; exact hg9))
    have hT8:=Lib.hid (aj h1 hA9 ez (ac (g:=g9) (i:=4) (u:=O U y.missed) (ac (g:=g9) (i:=3) (u:=O U y.sold) (ac (g:=g9) (i:=2) (u:=O U y.got) (ac (g:=g9) (i:=1) (u:=F OA y.o.length oc) (ac (g:=g9) (i:=0) (u:=F TA y.t.length tc) (World.grownBy.refl _ (some g9))))))))
    have hO8:=Lib.hid (aj h2 hA9 dY (ac (g:=g9) (i:=4) (u:=O U y.missed) (ac (g:=g9) (i:=3) (u:=O U y.sold) (ac (g:=g9) (i:=2) (u:=O U y.got) (ac (g:=g9) (i:=1) (u:=F OA y.o.length oc) (ac (g:=g9) (i:=0) (u:=F TA y.t.length tc) (World.grownBy.refl _ (some g9))))))))
    clear hA9
    go_simp
    exact hK9 _ undef _ rfl ⟨g9,TA,tc,OA,oc,rfl,hg9,hN8.out,hT8.out,hO8.out⟩ hD8.out (fun hq=>(hq (by decide)).elim)
   apply aa
   case h1 =>
    intro vs L9 w9 hG9 hC9 hB K9 hK9
    have d8:=fe hB 8
    simp only [d8] at hK9 ⊢
    simp only [Act.put,sA,s0,s1] at hK9
    go_simp
    exact hK9 _ _ rfl hC9 bR
   refine az fun vs L9 w4 hL9 hC9 hB=>?_
   obtain ⟨gt,TA,tc,OA,oc,hvg,hgt,Kt,hT4,hO4⟩:=hB 10 _ rfl rfl (by decide)
   have dl:=ag.eq (hB 11 _ rfl rfl (by decide))
   simp only [hvg,dl]
   clear hB hL9 hvg dl
   have b4:=b3.trans (hC9.mono b3.size)
   cases R with
   | none =>
    have e1:ok=false:=HOK.out.symm
    subst e1
    have HE:Hid (bp x ⟨#[115,104,111,119]⟩ ns=none):=hr
    clear hr
    clear Kt K5 hL3 hR3 hT4 hO4 HY
    go_wp2_with fail
    go_ret2
    rw [HE.out]
    exact bo.no b4
   | some z =>
   have e1:ok=true:=HOK.out.symm
   subst e1
   have e2:z=y:=HY.out
   subst e2
   have hz0:=HR.out
   have HE:Hid (bp x ⟨#[115,104,111,119]⟩ ns=some (z,iv z.off ⟨2,a0,a1,a2⟩)):=hr
   clear hr
   have hg4:=hL.below b4 hL.lt
   have hgg:g < gt:=Nat.lt_of_lt_of_le hL.lt (Nat.le_trans b3.size hgt)
   have hW0s:W0.heap.size≤w.heap.size:=hb0.size
   obtain ⟨w5,HW5,M,b5,gr5,OT⟩:=gL hg4 (b4.mono hW0s) hB (F TA z.t.length tc) (F OA z.o.length oc) (O U z.got) (O U z.sold) (O U z.missed)
   have Mt:=OT _ _ _ (by omega) Kt
   have hT5:=aj hT4 hg4 eN gr5
   have hO5:=aj hO4 hg4 eQ gr5
   have HK5:Hid (∀ j,j < w.heap.size→j ≠ g→w5.heap[j]?=w.heap[j]?):=fun j hj hne=>(gr5.block j (Nat.lt_of_lt_of_le hj b4.size) (by intro e; injection e with e; exact hne e)).trans (b4.block j hj)
   have n0c:=kF gr5 (Nat.lt_of_lt_of_le hbN b4.size) hbg (n0w w4 b4)
   have hs5:w.heap.size≤w5.heap.size:=Nat.le_trans b4.size gr5.size
   obtain ⟨z0,z1,z2,z3,z4⟩:=cells5 Kt
   obtain ⟨k0,k1,k2,k3,k4,k5,k6,k7⟩:=cells8 hg4
   obtain ⟨f0,f1,f2,f3,f4,f5,f6,f7⟩:=frz8 hg4
   go_upto_region 25 with fail
   clear z0 z1 z2 z3 z4 k0 k1 k2 k3 k4 k5 k6 k7 f0 f1 f2 f3 f4 hg4 gr5 hL3 hR3 K5
   rw [HW5.out]
   clear HW5 OT
   have b05:=hb0.trans b5
   have ht5:=ht.then b05
   have hgz:w.heap.size≤gt:=Nat.le_trans b3.size hgt
   have hOw:aA w5 w.heap.size gt (F TA z.t.length tc) (F OA z.o.length oc) z:=⟨Mt,hgz,hT5,hO5⟩
   have hat:=aA.at_ hOw
   have hzz:=eG hz0
   have GZ:bn (z.at TA tc OA oc):=Oc.good_off hzz.1 TA tc OA oc
   have hCI:db w5 W0.heap.size g z l:=⟨TA,tc,OA,oc,M,af hT5 hW0s,af hO5 hW0s⟩
   obtain ⟨z0,z1,z2,z3,z4⟩:=cells5 Mt
   obtain ⟨i,hi⟩:=fo (ts:=z.t) (kd:=a0) (of_decide_eq_true (by rw [cQ]; exact hzz.2))
   obtain ⟨hil,hik⟩:=fQ hi
   have hc1:=fM (z.at TA tc OA oc) gt i a0 w5 hat GZ hi hil ht5
   have hTX:dP z.off a0=pb (bu (z.t[i]'hil).c) (bu (aS (bi a0) z.o)):=by
    unfold dP
    rw [if_pos (show (am z.off && aN z.off.t a0)=true from by rw [show am z.off=true from hzz.1]; exact hzz.2)]
    unfold lW
    show pb (bu (z.t.getD (av z.t a0).toNat default).c) _=_
    rw [hi,Int.toNat_natCast,dQ hil]
    rfl
   go_wp2_with fail
   refine hc1.mono ?_
   rintro e W7 ⟨rfl,hb8⟩
   go_wp2
   go_ret2
   rw [HE.out]
   exact bo.yes hTX (hCI.below hb8) (b5.trans (hb8.mono (Nat.le_trans hW0s hs5))) (Nat.le_trans hs5 hb8.size) (fun j hj hne=>(hb8.block j (Nat.lt_of_lt_of_le hj hs5)).trans (HK5.out j hj hne))
  ·have hr:bp x ⟨#[115,104,111,119]⟩ ns=none:=by
    rw [H2.out (by omega)]; rw [show bp x ⟨#[115,104,111,119]⟩ [a0,a1]=(cc ⟨#[115,104,111,119]⟩ a0 a1).bind (bL x) from rfl]; unfold cc; rw [if_neg (by decide),if_neg (by decide)]; rfl
   have HE:Hid (bp x ⟨#[115,104,111,119]⟩ ns=none):=hr
   clear hr
   have hle:((ns.length:Int) != 3)=true:=by rw [bne_iff_ne]; omega
   obtain ⟨s0,s1,s2,s3⟩:=cells4 K5
   obtain ⟨fs0,fs1,fs2,fs3⟩:=frz4 K5
   have b3:=Lib.hid (b2.setCell (p:=⟨g5,0,none⟩) hg5 (O U 2))
   clear K5 b2
   go_wp2_with fail
   go_ret2
   rw [HE.out]
   exact bo.no b3.out
 have f1:(s.toList == [115,104,111,119])=false:=bC h1
 by_cases h2:s=⟨#[98,97,99,107]⟩
 ·subst h2
  by_cases hl:ns.length=3
  ·have hl2:2 < ns.length:=by omega
   have hli2:(2:Int) < (ns.length:Int):=by omega
   obtain ⟨a2,ha2⟩ : ∃ a,ns[2]'hl2=a:=⟨_,rfl⟩
   have n2w:∀ W:World,Below w.heap.size w W→W.cell? ⟨bN,off+2,none⟩=some (O U a2):=fun W hb=>by have:=HCN.out 2 hl2 ⟨W,hb⟩; rw [ha2] at this; exact this
   have hns:=H3.out hl a2 ha2
   have hr:bp x ⟨#[98,97,99,107]⟩ ns=bL x ⟨3,a0,a1,a2⟩:=by
    rw [hns,show bp x ⟨#[98,97,99,107]⟩ [a0,a1,a2]=(cn ⟨#[98,97,99,107]⟩ a0 a1 a2).bind (bL x) from rfl]
    unfold cn
    rw [if_neg (by decide),if_pos rfl]; rfl
   clear hns ha2
   have hle:((ns.length:Int) != 3)=false:=by rw [hl]; rfl
   have HL:=Lib.hid hl
   clear hl
   have hc:=fun W hW=>fS x ⟨3,a0,a1,a2⟩ W hW
   obtain ⟨R,hR⟩ : ∃ R,fL x.c ⟨3,a0,a1,a2⟩=R:=⟨_,rfl⟩
   rw [hR] at hc
   unfold bL at hr
   rw [hR] at hr
   obtain ⟨s0,s1,s2,s3⟩:=cells4 K5
   obtain ⟨fs0,fs1,fs2,fs3⟩:=frz4 K5
   have n2c:=n2w w2 b2
   go_upto_region 21 with fail
   have K6:ai ((w2.setCell ⟨g5,0,none⟩ (O U 3)).setCell ⟨g5,3,none⟩ (O U a2)) g5 112 [O U 3,O U a0,O U a1,O U a2]:=((K5.set 0 (O U 3)).set 3 (O U a2))
   have b3:=((b2.setCell (p:=⟨g5,0,none⟩) hg5 (O U 3)).setCell (p:=⟨g5,3,none⟩) hg5 (O U a2))
   clear K5 b2 s0 s1 s2 s3 fs0 fs1 fs2 fs3 n2c
   generalize ((w2.setCell ⟨g5,0,none⟩ (O U 3)).setCell ⟨g5,3,none⟩ (O U a2))=w3 at K6 b3 ⊢
   have K5:=K6
   clear K6
   have hL3:=hL.below b3 hL.lt
   have hR3:=h.up b3 (Nat.le_refl _)
   obtain ⟨y,hy⟩ : ∃ y,cj R=y:=⟨_,rfl⟩
   obtain ⟨ok,hok⟩ : ∃ ok,R.isSome=ok:=⟨_,rfl⟩
   have HR:=Lib.hid hR
   have HY:=Lib.hid hy
   have HOK:=Lib.hid hok
   unfold aC at hc
   rw [hy,hok] at hc
   clear hR hy hok
   refine an (fun _=>(fun W9=>Below w3.heap.size w3 W9)) (fun i w1 w2=>i ∉ [10]→Below w1.heap.size w1 w2) (by kernel_rfl) (by kernel_rfl) (by kernel_rfl) (Below.refl _ _).drew ?_
   simp only [ax,Act.put,List.setIfInBounds_toArray,List.set_cons_zero,List.set_cons_succ,Nat.zero_add,Nat.reduceAdd]
   apply aa
   case h1 =>
    intro vs L9 w9 hG9 hC9 hB K9 hK9
    simp only [Act.put,sA,s0,s1] at hK9
    go_simp
    exact hK9 _ _ rfl hC9 bR
   apply aa
   case h1 =>
    intro vs L9 w9 hG9 hC9 hB K9 hK9
    have d0:=fe hB 0
    simp only [d0] at hK9 ⊢
    simp only [Act.put,sA,s0,s1] at hK9
    go_simp
    exact hK9 _ _ rfl hC9 bR
   apply aa
   case h1 =>
    intro vs L9 w9 hG9 hC9 hB K9 hK9
    have d1:=fe hB 1
    simp only [d1] at hK9 ⊢
    simp only [Act.put,sA,s0,s1] at hK9
    go_simp
    exact hK9 _ _ rfl hC9 bR
   apply aa
   case h1 =>
    intro vs L9 w9 hG9 hC9 hB K9 hK9
    have d2:=fe hB 2
    simp only [d2] at hK9 ⊢
    have q0:w9.cell? ⟨g,0,none⟩=some (F x.TA x.t.length x.tc):=(hL3.below hC9 hL3.lt).cell 0
    have q1:w9.cell? ⟨g,1,none⟩=some (F x.OA x.o.length x.oc):=(hL3.below hC9 hL3.lt).cell 1
    have q2:w9.cell? ⟨g,2,none⟩=some (O U x.got):=(hL3.below hC9 hL3.lt).cell 2
    have q3:w9.cell? ⟨g,3,none⟩=some (O U x.sold):=(hL3.below hC9 hL3.lt).cell 3
    have q4:w9.cell? ⟨g,4,none⟩=some (O U x.missed):=(hL3.below hC9 hL3.lt).cell 4
    simp only [Act.put,sA,s0,s1] at hK9
    go_simp
    exact hK9 _ _ rfl hC9 bR
   apply aa
   case h1 =>
    intro vs L9 w9 hG9 hC9 hB K9 hK9
    have q0:w9.cell? ⟨g5,0,none⟩=some (O U 3):=(K5.below hC9 K5.lt).cell 0
    have q1:w9.cell? ⟨g5,1,none⟩=some (O U a0):=(K5.below hC9 K5.lt).cell 1
    have q2:w9.cell? ⟨g5,2,none⟩=some (O U a1):=(K5.below hC9 K5.lt).cell 2
    have q3:w9.cell? ⟨g5,3,none⟩=some (O U a2):=(K5.below hC9 K5.lt).cell 3
    simp only [Act.put,sA,s0,s1] at hK9
    go_simp
    exact hK9 _ _ rfl hC9 bR
   refine ak [10] (fun v w9=>∃ TA tc OA oc,v=.tuple #[.agg #[F TA y.t.length tc,F OA y.o.length oc,O U y.got,O U y.sold,O U y.missed],.bool ok]∧w9.ownsRow w.heap.size 104 2 (F TA y.t.length tc) y.t.length (y.t.flatMap aq.enc)∧w9.ownsRow w.heap.size 147 3 (F OA y.o.length oc) y.o.length (y.o.flatMap ae.enc)) ?_ (fun vs L9 w9 hG9 hC9 hB K9 hK9=>?_) ?_
   next =>
    intro i9 hi9 hb9 ha9 v w1 w2 hv hT9
    have hb:=hT9 (fun hm=>by
     simp only [List.mem_cons,List.not_mem_nil,or_false] at hm hb9
     subst hm
     ·exact hb9 (by simp))
    obtain ⟨TA,tc,OA,oc,e,q1,q2⟩:=hv
    exact ⟨TA,tc,OA,oc,e,ab q1 hb,ab q2 hb⟩
   next =>
    have d3:=fe hB 3
    have d4:=fe hB 4
    simp only [d3,d4] at hK9 ⊢
    simp only [Act.put,sA,s0,s1] at hK9
    go_simp
    refine (hc w9 (hR3.then hC9)).mono ?_
    rintro en w8 ⟨TA,tc,OA,oc,rfl,h1,h2,hb8⟩
    simp only [Oc.at,aM.val]
    exact hK9 _ _ _ rfl ⟨TA,tc,OA,oc,rfl,af h1 (Nat.le_trans b3.size hC9.size),af h2 (Nat.le_trans b3.size hC9.size)⟩ (hC9.trans (hb8.mono hC9.size)) (fun _=>hb8)
   refine bs [] 5 (fun u v w9=>v=u∧∃ TA tc OA oc,u=.tuple #[.agg #[F TA y.t.length tc,F OA y.o.length oc,O U y.got,O U y.sold,O U y.missed],.bool ok]) (by kernel_rfl) ?_ (fun vs L9 w9 hG9 hC9 hB K9 hK9=>?_) ?_
   next =>
    intro i9 hi9 hb9 ha9 u v w1 w2 hv hT9
    exact hv
   next =>
    obtain ⟨TA,tc,OA,oc,e0,h1,h2⟩:=fs hB 5
    simp only [e0] at hK9 ⊢
    go_simp
    exact hK9 _ _ _ rfl ⟨rfl,TA,tc,OA,oc,rfl⟩ hC9 bR
   refine ak [10] (fun v w9=>∃ TA tc OA oc,v=.agg #[F TA y.t.length tc,F OA y.o.length oc,O U y.got,O U y.sold,O U y.missed]∧w9.ownsRow w.heap.size 104 2 (F TA y.t.length tc) y.t.length (y.t.flatMap aq.enc)∧w9.ownsRow w.heap.size 147 3 (F OA y.o.length oc) y.o.length (y.o.flatMap ae.enc)) ?_ (fun vs L9 w9 hG9 hC9 hB K9 hK9=>?_) ?_
   next =>
    intro i9 hi9 hb9 ha9 v w1 w2 hv hT9
    have hb:=hT9 (fun hm=>by
     simp only [List.mem_cons,List.not_mem_nil,or_false] at hm hb9
     subst hm
     ·exact hb9 (by simp))
    obtain ⟨TA,tc,OA,oc,e,q1,q2⟩:=hv
    exact ⟨TA,tc,OA,oc,e,ab q1 hb,ab q2 hb⟩
   next =>
    simp only [Act.put,sA,s0,s1] at hK9
    obtain ⟨TA,tc,OA,oc,e0,h1,h2⟩:=fs hB 5
    obtain ⟨e6,_⟩:=fs hB 6
    simp only [e6,e0] at hK9 ⊢
    go_simp
    exact hK9 _ _ _ rfl ⟨TA,tc,OA,oc,rfl,h1,h2⟩ hC9 bR
   refine aa (.bool ok) (fun vs L9 w9 hG9 hC9 hB K9 hK9=>?_) ?_
   next =>
    obtain ⟨e6,TA,tc,OA,oc,e0⟩:=fs hB 6
    simp only [e6,e0] at hK9 ⊢
    go_simp
    exact hK9 _ _ rfl hC9 bR
   refine ak [10] (fun v w9=>∃ g9,v=.pointer (some ⟨g9,0,none⟩)∧w3.heap.size≤g9∧ai w9 g9 40 [F none 0 0,F none 0 0,O U 0,O U 0,O U 0]) ?_ (fun vs L9 w9 hG9 hC9 hB K9 hK9=>?_) ?_
   next =>
    intro i9 hi9 hb9 ha9 v w1 w2 hv hT9
    have hb:=hT9 (fun hm=>by
     simp only [List.mem_cons,List.not_mem_nil,or_false] at hm hb9
     subst hm
     ·exact hb9 (by simp))
    obtain ⟨g9,q1,q2,q3⟩:=hv
    exact ⟨g9,q1,q2,q3.below hb q3.lt⟩
   next =>
    simp only [Act.put,sA,s0,s1] at hK9
    go_simp
    have hb8:=(Below.refl w9.heap.size w9).alloc (Nat.le_refl _) (.cells #[F none 0 0,F none 0 0,O U 0,O U 0,O U 0] 40)
    exact hK9 _ _ _ rfl ⟨_,rfl,hC9.size,ai.new w9 40 #[F none 0 0,F none 0 0,O U 0,O U 0,O U 0]⟩ (hC9.trans (hb8.mono hC9.size)) (fun _=>hb8)
   refine bs [] 9 (fun u _ w9=>∃ g9 TA tc OA oc,u=.pointer (some ⟨g9,0,none⟩)∧w3.heap.size≤g9∧ai w9 g9 40 [F TA y.t.length tc,F OA y.o.length oc,O U y.got,O U y.sold,O U y.missed]∧w9.ownsRow w.heap.size 104 2 (F TA y.t.length tc) y.t.length (y.t.flatMap aq.enc)∧w9.ownsRow w.heap.size 147 3 (F OA y.o.length oc) y.o.length (y.o.flatMap ae.enc)) (by kernel_rfl) ?_ (fun vs L9 w9 hG9 hC9 hB K9 hK9=>?_) ?_
   next =>
    intro i9 hi9 hb9 ha9 u v w1 w2 hv hT9
    have hb:=hT9 (fun hm=>by
     simp only [List.mem_cons,List.not_mem_nil,or_false] at hm hb9
     subst hm
     ·exact hi9 rfl)
    obtain ⟨g9,TA,tc,OA,oc,q1,q2,q3,q4,q5⟩:=hv
    exact ⟨g9,TA,tc,OA,oc,q1,q2,q3.below hb q3.lt,ab q4 hb,ab q5 hb⟩
   next =>
    obtain ⟨g9,hv9,hg9,hA9⟩:=fs hB 9
    simp only [hv9] at hK9 ⊢
    obtain ⟨TA,tc,OA,oc,e0,h1,h2⟩:=fs hB 7
    simp only [e0] at hK9 ⊢
    obtain ⟨z0,z1,z2,z3,z4⟩:=cells5 hA9
    obtain ⟨f0,f1,f2,f3,f4⟩:=frz5 hA9
    have hN8:=Lib.hid (show ai _ g9 40 [F TA y.t.length tc,F OA y.o.length oc,O U y.got,O U y.sold,O U y.missed] from qW (hA9) (F TA y.t.length tc) (F OA y.o.length oc) (O U y.got) (O U y.sold) (O U y.missed))
    have hD8:=Lib.hid (hC9.grown (row:=some g9) (ac (g:=g9) (i:=4) (u:=O U y.missed) (ac (g:=g9) (i:=3) (u:=O U y.sold) (ac (g:=g9) (i:=2) (u:=O U y.got) (ac (g:=g9) (i:=1) (u:=F OA y.o.length oc) (ac (g:=g9) (i:=0) (u:=F TA y.t.length tc) (World.grownBy.refl _ (some g9))))))) hC9.size (by rintro _ ⟨⟩; exact hg9))
    have hT8:=Lib.hid (aj h1 hA9 ez (ac (g:=g9) (i:=4) (u:=O U y.missed) (ac (g:=g9) (i:=3) (u:=O U y.sold) (ac (g:=g9) (i:=2) (u:=O U y.got) (ac (g:=g9) (i:=1) (u:=F OA y.o.length oc) (ac (g:=g9) (i:=0) (u:=F TA y.t.length tc) (World.grownBy.refl _ (some g9))))))))
    have hO8:=Lib.hid (aj h2 hA9 dY (ac (g:=g9) (i:=4) (u:=O U y.missed) (ac (g:=g9) (i:=3) (u:=O U y.sold) (ac (g:=g9) (i:=2) (u:=O U y.got) (ac (g:=g9) (i:=1) (u:=F OA y.o.length oc) (ac (g:=g9) (i:=0) (u:=F TA y.t.length tc) (World.grownBy.refl _ (some g9))))))))
    clear hA9
    go_simp
    exact hK9 _ undef _ rfl ⟨g9,TA,tc,OA,oc,rfl,hg9,hN8.out,hT8.out,hO8.out⟩ hD8.out (fun hq=>(hq (by decide)).elim)
   apply aa
   case h1 =>
    intro vs L9 w9 hG9 hC9 hB K9 hK9
    have d8:=fe hB 8
    simp only [d8] at hK9 ⊢
    simp only [Act.put,sA,s0,s1] at hK9
    go_simp
    exact hK9 _ _ rfl hC9 bR
   refine az fun vs L9 w4 hL9 hC9 hB=>?_
   obtain ⟨gt,TA,tc,OA,oc,hvg,hgt,Kt,hT4,hO4⟩:=hB 10 _ rfl rfl (by decide)
   have dl:=ag.eq (hB 11 _ rfl rfl (by decide))
   simp only [hvg,dl]
   clear hB hL9 hvg dl
   have b4:=b3.trans (hC9.mono b3.size)
   cases R with
   | none =>
    have e1:ok=false:=HOK.out.symm
    subst e1
    have HE:Hid (bp x ⟨#[98,97,99,107]⟩ ns=none):=hr
    clear hr
    clear Kt K5 hL3 hR3 hT4 hO4 HY
    go_wp2_with fail
    go_ret2
    rw [HE.out]
    exact bo.no b4
   | some z =>
   have e1:ok=true:=HOK.out.symm
   subst e1
   have e2:z=y:=HY.out
   subst e2
   have hz0:=HR.out
   have HE:Hid (bp x ⟨#[98,97,99,107]⟩ ns=some (z,iv z.off ⟨3,a0,a1,a2⟩)):=hr
   clear hr
   have hg4:=hL.below b4 hL.lt
   have hgg:g < gt:=Nat.lt_of_lt_of_le hL.lt (Nat.le_trans b3.size hgt)
   have hW0s:W0.heap.size≤w.heap.size:=hb0.size
   obtain ⟨w5,HW5,M,b5,gr5,OT⟩:=gL hg4 (b4.mono hW0s) hB (F TA z.t.length tc) (F OA z.o.length oc) (O U z.got) (O U z.sold) (O U z.missed)
   have Mt:=OT _ _ _ (by omega) Kt
   have hT5:=aj hT4 hg4 eN gr5
   have hO5:=aj hO4 hg4 eQ gr5
   have HK5:Hid (∀ j,j < w.heap.size→j ≠ g→w5.heap[j]?=w.heap[j]?):=fun j hj hne=>(gr5.block j (Nat.lt_of_lt_of_le hj b4.size) (by intro e; injection e with e; exact hne e)).trans (b4.block j hj)
   have n0c:=kF gr5 (Nat.lt_of_lt_of_le hbN b4.size) hbg (n0w w4 b4)
   have hs5:w.heap.size≤w5.heap.size:=Nat.le_trans b4.size gr5.size
   obtain ⟨z0,z1,z2,z3,z4⟩:=cells5 Kt
   obtain ⟨k0,k1,k2,k3,k4,k5,k6,k7⟩:=cells8 hg4
   obtain ⟨f0,f1,f2,f3,f4,f5,f6,f7⟩:=frz8 hg4
   go_upto_region 25 with fail
   clear z0 z1 z2 z3 z4 k0 k1 k2 k3 k4 k5 k6 k7 f0 f1 f2 f3 f4 hg4 gr5 hL3 hR3 K5
   rw [HW5.out]
   clear HW5 OT
   have b05:=hb0.trans b5
   have ht5:=ht.then b05
   have hgz:w.heap.size≤gt:=Nat.le_trans b3.size hgt
   have hOw:aA w5 w.heap.size gt (F TA z.t.length tc) (F OA z.o.length oc) z:=⟨Mt,hgz,hT5,hO5⟩
   have hat:=aA.at_ hOw
   have hzz:=eG hz0
   have GZ:bn (z.at TA tc OA oc):=Oc.good_off hzz.1 TA tc OA oc
   have hCI:db w5 W0.heap.size g z l:=⟨TA,tc,OA,oc,M,af hT5 hW0s,af hO5 hW0s⟩
   obtain ⟨z0,z1,z2,z3,z4⟩:=cells5 Mt
   obtain ⟨i,hi⟩:=fo (ts:=z.t) (kd:=a0) (of_decide_eq_true (by rw [cQ]; exact hzz.2))
   obtain ⟨hil,hik⟩:=fQ hi
   have hc1:=fM (z.at TA tc OA oc) gt i a0 w5 hat GZ hi hil ht5
   have hTX:dP z.off a0=pb (bu (z.t[i]'hil).c) (bu (aS (bi a0) z.o)):=by
    unfold dP
    rw [if_pos (show (am z.off && aN z.off.t a0)=true from by rw [show am z.off=true from hzz.1]; exact hzz.2)]
    unfold lW
    show pb (bu (z.t.getD (av z.t a0).toNat default).c) _=_
    rw [hi,Int.toNat_natCast,dQ hil]
    rfl
   go_wp2_with fail
   refine hc1.mono ?_
   rintro e W7 ⟨rfl,hb8⟩
   go_wp2
   go_ret2
   rw [HE.out]
   exact bo.yes hTX (hCI.below hb8) (b5.trans (hb8.mono (Nat.le_trans hW0s hs5))) (Nat.le_trans hs5 hb8.size) (fun j hj hne=>(hb8.block j (Nat.lt_of_lt_of_le hj hs5)).trans (HK5.out j hj hne))
  ·have hr:bp x ⟨#[98,97,99,107]⟩ ns=none:=by
    rw [H2.out (by omega)]; rw [show bp x ⟨#[98,97,99,107]⟩ [a0,a1]=(cc ⟨#[98,97,99,107]⟩ a0 a1).bind (bL x) from rfl]; unfold cc; rw [if_neg (by decide),if_neg (by decide)]; rfl
   have HE:Hid (bp x ⟨#[98,97,99,107]⟩ ns=none):=hr
   clear hr
   have hle:((ns.length:Int) != 3)=true:=by rw [bne_iff_ne]; omega
   obtain ⟨s0,s1,s2,s3⟩:=cells4 K5
   obtain ⟨fs0,fs1,fs2,fs3⟩:=frz4 K5
   have b3:=Lib.hid (b2.setCell (p:=⟨g5,0,none⟩) hg5 (O U 3))
   clear K5 b2
   go_wp2_with fail
   go_ret2
   rw [HE.out]
   exact bo.no b3.out
 have f2:(s.toList == [98,97,99,107])=false:=bC h2
 by_cases h3:s=⟨#[115,101,108,108]⟩
 ·subst h3
  by_cases hl:ns.length=3
  ·have hl2:2 < ns.length:=by omega
   have hli2:(2:Int) < (ns.length:Int):=by omega
   obtain ⟨a2,ha2⟩ : ∃ a,ns[2]'hl2=a:=⟨_,rfl⟩
   have n2w:∀ W:World,Below w.heap.size w W→W.cell? ⟨bN,off+2,none⟩=some (O U a2):=fun W hb=>by have:=HCN.out 2 hl2 ⟨W,hb⟩; rw [ha2] at this; exact this
   have hns:=H3.out hl a2 ha2
   have hr:bp x ⟨#[115,101,108,108]⟩ ns=bL x ⟨4,a0,a1,a2⟩:=by
    rw [hns,show bp x ⟨#[115,101,108,108]⟩ [a0,a1,a2]=(cn ⟨#[115,101,108,108]⟩ a0 a1 a2).bind (bL x) from rfl]
    unfold cn
    rw [if_neg (by decide),if_neg (by decide),if_pos rfl]; rfl
   clear hns ha2
   have hle:((ns.length:Int) != 3)=false:=by rw [hl]; rfl
   have HL:=Lib.hid hl
   clear hl
   have hc:=fun W hW=>fS x ⟨4,a0,a1,a2⟩ W hW
   obtain ⟨R,hR⟩ : ∃ R,fL x.c ⟨4,a0,a1,a2⟩=R:=⟨_,rfl⟩
   rw [hR] at hc
   unfold bL at hr
   rw [hR] at hr
   obtain ⟨s0,s1,s2,s3⟩:=cells4 K5
   obtain ⟨fs0,fs1,fs2,fs3⟩:=frz4 K5
   have n2c:=n2w w2 b2
   go_upto_region 21 with fail
   have K6:ai ((w2.setCell ⟨g5,0,none⟩ (O U 4)).setCell ⟨g5,3,none⟩ (O U a2)) g5 112 [O U 4,O U a0,O U a1,O U a2]:=((K5.set 0 (O U 4)).set 3 (O U a2))
   have b3:=((b2.setCell (p:=⟨g5,0,none⟩) hg5 (O U 4)).setCell (p:=⟨g5,3,none⟩) hg5 (O U a2))
   clear K5 b2 s0 s1 s2 s3 fs0 fs1 fs2 fs3 n2c
   generalize ((w2.setCell ⟨g5,0,none⟩ (O U 4)).setCell ⟨g5,3,none⟩ (O U a2))=w3 at K6 b3 ⊢
   have K5:=K6
   clear K6
   have hL3:=hL.below b3 hL.lt
   have hR3:=h.up b3 (Nat.le_refl _)
   obtain ⟨y,hy⟩ : ∃ y,cj R=y:=⟨_,rfl⟩
   obtain ⟨ok,hok⟩ : ∃ ok,R.isSome=ok:=⟨_,rfl⟩
   have HR:=Lib.hid hR
   have HY:=Lib.hid hy
   have HOK:=Lib.hid hok
   unfold aC at hc
   rw [hy,hok] at hc
   clear hR hy hok
   refine an (fun _=>(fun W9=>Below w3.heap.size w3 W9)) (fun i w1 w2=>i ∉ [10]→Below w1.heap.size w1 w2) (by kernel_rfl) (by kernel_rfl) (by kernel_rfl) (Below.refl _ _).drew ?_
   simp only [ax,Act.put,List.setIfInBounds_toArray,List.set_cons_zero,List.set_cons_succ,Nat.zero_add,Nat.reduceAdd]
   apply aa
   case h1 =>
    intro vs L9 w9 hG9 hC9 hB K9 hK9
    simp only [Act.put,sA,s0,s1] at hK9
    go_simp
    exact hK9 _ _ rfl hC9 bR
   apply aa
   case h1 =>
    intro vs L9 w9 hG9 hC9 hB K9 hK9
    have d0:=fe hB 0
    simp only [d0] at hK9 ⊢
    simp only [Act.put,sA,s0,s1] at hK9
    go_simp
    exact hK9 _ _ rfl hC9 bR
   apply aa
   case h1 =>
    intro vs L9 w9 hG9 hC9 hB K9 hK9
    have d1:=fe hB 1
    simp only [d1] at hK9 ⊢
    simp only [Act.put,sA,s0,s1] at hK9
    go_simp
    exact hK9 _ _ rfl hC9 bR
   apply aa
   case h1 =>
    intro vs L9 w9 hG9 hC9 hB K9 hK9
    have d2:=fe hB 2
    simp only [d2] at hK9 ⊢
    have q0:w9.cell? ⟨g,0,none⟩=some (F x.TA x.t.length x.tc):=(hL3.below hC9 hL3.lt).cell 0
    have q1:w9.cell? ⟨g,1,none⟩=some (F x.OA x.o.length x.oc):=(hL3.below hC9 hL3.lt).cell 1
    have q2:w9.cell? ⟨g,2,none⟩=some (O U x.got):=(hL3.below hC9 hL3.lt).cell 2
    have q3:w9.cell? ⟨g,3,none⟩=some (O U x.sold):=(hL3.below hC9 hL3.lt).cell 3
    have q4:w9.cell? ⟨g,4,none⟩=some (O U x.missed):=(hL3.below hC9 hL3.lt).cell 4
    simp only [Act.put,sA,s0,s1] at hK9
    go_simp
    exact hK9 _ _ rfl hC9 bR
   apply aa
   case h1 =>
    intro vs L9 w9 hG9 hC9 hB K9 hK9
    have q0:w9.cell? ⟨g5,0,none⟩=some (O U 4):=(K5.below hC9 K5.lt).cell 0
    have q1:w9.cell? ⟨g5,1,none⟩=some (O U a0):=(K5.below hC9 K5.lt).cell 1
    have q2:w9.cell? ⟨g5,2,none⟩=some (O U a1):=(K5.below hC9 K5.lt).cell 2
    have q3:w9.cell? ⟨g5,3,none⟩=some (O U a2):=(K5.below hC9 K5.lt).cell 3
    simp only [Act.put,sA,s0,s1] at hK9
    go_simp
    exact hK9 _ _ rfl hC9 bR
   refine ak [10] (fun v w9=>∃ TA tc OA oc,v=.tuple #[.agg #[F TA y.t.length tc,F OA y.o.length oc,O U y.got,O U y.sold,O U y.missed],.bool ok]∧w9.ownsRow w.heap.size 104 2 (F TA y.t.length tc) y.t.length (y.t.flatMap aq.enc)∧w9.ownsRow w.heap.size 147 3 (F OA y.o.length oc) y.o.length (y.o.flatMap ae.enc)) ?_ (fun vs L9 w9 hG9 hC9 hB K9 hK9=>?_) ?_
   next =>
    intro i9 hi9 hb9 ha9 v w1 w2 hv hT9
    have hb:=hT9 (fun hm=>by
     simp only [List.mem_cons,List.not_mem_nil,or_false] at hm hb9
     subst hm
     ·exact hb9 (by simp))
    obtain ⟨TA,tc,OA,oc,e,q1,q2⟩:=hv
    exact ⟨TA,tc,OA,oc,e,ab q1 hb,ab q2 hb⟩
   next =>
    have d3:=fe hB 3
    have d4:=fe hB 4
    simp only [d3,d4] at hK9 ⊢
    simp only [Act.put,sA,s0,s1] at hK9
    go_simp
    refine (hc w9 (hR3.then hC9)).mono ?_
    rintro en w8 ⟨TA,tc,OA,oc,rfl,h1,h2,hb8⟩
    simp only [Oc.at,aM.val]
    exact hK9 _ _ _ rfl ⟨TA,tc,OA,oc,rfl,af h1 (Nat.le_trans b3.size hC9.size),af h2 (Nat.le_trans b3.size hC9.size)⟩ (hC9.trans (hb8.mono hC9.size)) (fun _=>hb8)
   refine bs [] 5 (fun u v w9=>v=u∧∃ TA tc OA oc,u=.tuple #[.agg #[F TA y.t.length tc,F OA y.o.length oc,O U y.got,O U y.sold,O U y.missed],.bool ok]) (by kernel_rfl) ?_ (fun vs L9 w9 hG9 hC9 hB K9 hK9=>?_) ?_
   next =>
    intro i9 hi9 hb9 ha9 u v w1 w2 hv hT9
    exact hv
   next =>
    obtain ⟨TA,tc,OA,oc,e0,h1,h2⟩:=fs hB 5
    simp only [e0] at hK9 ⊢
    go_simp
    exact hK9 _ _ _ rfl ⟨rfl,TA,tc,OA,oc,rfl⟩ hC9 bR
   refine ak [10] (fun v w9=>∃ TA tc OA oc,v=.agg #[F TA y.t.length tc,F OA y.o.length oc,O U y.got,O U y.sold,O U y.missed]∧w9.ownsRow w.heap.size 104 2 (F TA y.t.length tc) y.t.length (y.t.flatMap aq.enc)∧w9.ownsRow w.heap.size 147 3 (F OA y.o.length oc) y.o.length (y.o.flatMap ae.enc)) ?_ (fun vs L9 w9 hG9 hC9 hB K9 hK9=>?_) ?_
   next =>
    intro i9 hi9 hb9 ha9 v w1 w2 hv hT9
    have hb:=hT9 (fun hm=>by
     simp only [List.mem_cons,List.not_mem_nil,or_false] at hm hb9
     subst hm
     ·exact hb9 (by simp))
    obtain ⟨TA,tc,OA,oc,e,q1,q2⟩:=hv
    exact ⟨TA,tc,OA,oc,e,ab q1 hb,ab q2 hb⟩
   next =>
    simp only [Act.put,sA,s0,s1] at hK9
    obtain ⟨TA,tc,OA,oc,e0,h1,h2⟩:=fs hB 5
    obtain ⟨e6,_⟩:=fs hB 6
    simp only [e6,e0] at hK9 ⊢
    go_simp
    exact hK9 _ _ _ rfl ⟨TA,tc,OA,oc,rfl,h1,h2⟩ hC9 bR
   refine aa (.bool ok) (fun vs L9 w9 hG9 hC9 hB K9 hK9=>?_) ?_
   next =>
    obtain ⟨e6,TA,tc,OA,oc,e0⟩:=fs hB 6
    simp only [e6,e0] at hK9 ⊢
    go_simp
    exact hK9 _ _ rfl hC9 bR
   refine ak [10] (fun v w9=>∃ g9,v=.pointer (some ⟨g9,0,none⟩)∧w3.heap.size≤g9∧ai w9 g9 40 [F none 0 0,F none 0 0,O U 0,O U 0,O U 0]) ?_ (fun vs L9 w9 hG9 hC9 hB K9 hK9=>?_) ?_
   next =>
    intro i9 hi9 hb9 ha9 v w1 w2 hv hT9
    have hb:=hT9 (fun hm=>by
     simp only [List.mem_cons,List.not_mem_nil,or_false] at hm hb9
     subst hm
     ·exact hb9 (by simp))
    obtain ⟨g9,q1,q2,q3⟩:=hv
    exact ⟨g9,q1,q2,q3.below hb q3.lt⟩
   next =>
    simp only [Act.put,sA,s0,s1] at hK9
    go_simp
    have hb8:=(Below.refl w9.heap.size w9).alloc (Nat.le_refl _) (.cells #[F none 0 0,F none 0 0,O U 0,O U 0,O U 0] 40)
    exact hK9 _ _ _ rfl ⟨_,rfl,hC9.size,ai.new w9 40 #[F none 0 0,F none 0 0,O U 0,O U 0,O U 0]⟩ (hC9.trans (hb8.mono hC9.size)) (fun _=>hb8)
   refine bs [] 9 (fun u _ w9=>∃ g9 TA tc OA oc,u=.pointer (some ⟨g9,0,none⟩)∧w3.heap.size≤g9∧ai w9 g9 40 [F TA y.t.length tc,F OA y.o.length oc,O U y.got,O U y.sold,O U y.missed]∧w9.ownsRow w.heap.size 104 2 (F TA y.t.length tc) y.t.length (y.t.flatMap aq.enc)∧w9.ownsRow w.heap.size 147 3 (F OA y.o.length oc) y.o.length (y.o.flatMap ae.enc)) (by kernel_rfl) ?_ (fun vs L9 w9 hG9 hC9 hB K9 hK9=>?_) ?_
   next =>
    intro i9 hi9 hb9 ha9 u v w1 w2 hv hT9
    have hb:=hT9 (fun hm=>by
     simp only [List.mem_cons,List.not_mem_nil,or_false] at hm hb9
     subst hm
     ·exact hi9 rfl)
    obtain ⟨g9,TA,tc,OA,oc,q1,q2,q3,q4,q5⟩:=hv
    exact ⟨g9,TA,tc,OA,oc,q1,q2,q3.below hb q3.lt,ab q4 hb,ab q5 hb⟩
   next =>
    obtain ⟨g9,hv9,hg9,hA9⟩:=fs hB 9
    simp only [hv9] at hK9 ⊢
    obtain ⟨TA,tc,OA,oc,e0,h1,h2⟩:=fs hB 7
    simp only [e0] at hK9 ⊢
    obtain ⟨z0,z1,z2,z3,z4⟩:=cells5 hA9
    obtain ⟨f0,f1,f2,f3,f4⟩:=frz5 hA9
    have hN8:=Lib.hid (show ai _ g9 40 [F TA y.t.length tc,F OA y.o.length oc,O U y.got,O U y.sold,O U y.missed] from qW (hA9) (F TA y.t.length tc) (F OA y.o.length oc) (O U y.got) (O U y.sold) (O U y.missed))
    have hD8:=Lib.hid (hC9.grown (row:=some g9) (ac (g:=g9) (i:=4) (u:=O U y.missed) (ac (g:=g9) (i:=3) (u:=O U y.sold) (ac (g:=g9) (i:=2) (u:=O U y.got) (ac (g:=g9) (i:=1) (u:=F OA y.o.length oc) (ac (g:=g9) (i:=0) (u:=F TA y.t.length tc) (World.grownBy.refl _ (some g9))))))) hC9.size (by rintro _ ⟨⟩; exact hg9))
    have hT8:=Lib.hid (aj h1 hA9 ez (ac (g:=g9) (i:=4) (u:=O U y.missed) (ac (g:=g9) (i:=3) (u:=O U y.sold) (ac (g:=g9) (i:=2) (u:=O U y.got) (ac (g:=g9) (i:=1) (u:=F OA y.o.length oc) (ac (g:=g9) (i:=0) (u:=F TA y.t.length tc) (World.grownBy.refl _ (some g9))))))))
    have hO8:=Lib.hid (aj h2 hA9 dY (ac (g:=g9) (i:=4) (u:=O U y.missed) (ac (g:=g9) (i:=3) (u:=O U y.sold) (ac (g:=g9) (i:=2) (u:=O U y.got) (ac (g:=g9) (i:=1) (u:=F OA y.o.length oc) (ac (g:=g9) (i:=0) (u:=F TA y.t.length tc) (World.grownBy.refl _ (some g9))))))))
    clear hA9
    go_simp
    exact hK9 _ undef _ rfl ⟨g9,TA,tc,OA,oc,rfl,hg9,hN8.out,hT8.out,hO8.out⟩ hD8.out (fun hq=>(hq (by decide)).elim)
   apply aa
   case h1 =>
    intro vs L9 w9 hG9 hC9 hB K9 hK9
    have d8:=fe hB 8
    simp only [d8] at hK9 ⊢
    simp only [Act.put,sA,s0,s1] at hK9
    go_simp
    exact hK9 _ _ rfl hC9 bR
   refine az fun vs L9 w4 hL9 hC9 hB=>?_
   obtain ⟨gt,TA,tc,OA,oc,hvg,hgt,Kt,hT4,hO4⟩:=hB 10 _ rfl rfl (by decide)
   have dl:=ag.eq (hB 11 _ rfl rfl (by decide))
   simp only [hvg,dl]
   clear hB hL9 hvg dl
   have b4:=b3.trans (hC9.mono b3.size)
   cases R with
   | none =>
    have e1:ok=false:=HOK.out.symm
    subst e1
    have HE:Hid (bp x ⟨#[115,101,108,108]⟩ ns=none):=hr
    clear hr
    clear Kt K5 hL3 hR3 hT4 hO4 HY
    go_wp2_with fail
    go_ret2
    rw [HE.out]
    exact bo.no b4
   | some z =>
   have e1:ok=true:=HOK.out.symm
   subst e1
   have e2:z=y:=HY.out
   subst e2
   have hz0:=HR.out
   have HE:Hid (bp x ⟨#[115,101,108,108]⟩ ns=some (z,iv z.off ⟨4,a0,a1,a2⟩)):=hr
   clear hr
   have hg4:=hL.below b4 hL.lt
   have hgg:g < gt:=Nat.lt_of_lt_of_le hL.lt (Nat.le_trans b3.size hgt)
   have hW0s:W0.heap.size≤w.heap.size:=hb0.size
   obtain ⟨w5,HW5,M,b5,gr5,OT⟩:=gL hg4 (b4.mono hW0s) hB (F TA z.t.length tc) (F OA z.o.length oc) (O U z.got) (O U z.sold) (O U z.missed)
   have Mt:=OT _ _ _ (by omega) Kt
   have hT5:=aj hT4 hg4 eN gr5
   have hO5:=aj hO4 hg4 eQ gr5
   have HK5:Hid (∀ j,j < w.heap.size→j ≠ g→w5.heap[j]?=w.heap[j]?):=fun j hj hne=>(gr5.block j (Nat.lt_of_lt_of_le hj b4.size) (by intro e; injection e with e; exact hne e)).trans (b4.block j hj)
   have hs5:w.heap.size≤w5.heap.size:=Nat.le_trans b4.size gr5.size
   obtain ⟨z0,z1,z2,z3,z4⟩:=cells5 Kt
   obtain ⟨k0,k1,k2,k3,k4,k5,k6,k7⟩:=cells8 hg4
   obtain ⟨f0,f1,f2,f3,f4,f5,f6,f7⟩:=frz8 hg4
   go_upto_region 25 with fail
   clear z0 z1 z2 z3 z4 k0 k1 k2 k3 k4 k5 k6 k7 f0 f1 f2 f3 f4 hg4 gr5 hL3 hR3 K5
   rw [HW5.out]
   clear HW5 OT
   have b05:=hb0.trans b5
   have ht5:=ht.then b05
   have hgz:w.heap.size≤gt:=Nat.le_trans b3.size hgt
   have hOw:aA w5 w.heap.size gt (F TA z.t.length tc) (F OA z.o.length oc) z:=⟨Mt,hgz,hT5,hO5⟩
   have hat:=aA.at_ hOw
   have hzz:=eG hz0
   have GZ:bn (z.at TA tc OA oc):=Oc.good_off hzz.1 TA tc OA oc
   have hCI:db w5 W0.heap.size g z l:=⟨TA,tc,OA,oc,M,af hT5 hW0s,af hO5 hW0s⟩
   obtain ⟨z0,z1,z2,z3,z4⟩:=cells5 Mt
   have bd:0≤z.sold∧z.sold≤99999:=GZ.s
   have hn:=fun W hW=>cu z.sold W (by omega) (by omega) hW
   clear bd
   go_wp2_with fail
   refine (hn _ ht5).mono ?_
   rintro e W7 ⟨rfl,hb8⟩
   go_wp2
   go_ret2
   rw [HE.out]
   exact bo.yes rfl (hCI.below hb8) (b5.trans (hb8.mono (Nat.le_trans hW0s hs5))) (Nat.le_trans hs5 hb8.size) (fun j hj hne=>(hb8.block j (Nat.lt_of_lt_of_le hj hs5)).trans (HK5.out j hj hne))
  ·have hr:bp x ⟨#[115,101,108,108]⟩ ns=none:=by
    rw [H2.out (by omega)]; rw [show bp x ⟨#[115,101,108,108]⟩ [a0,a1]=(cc ⟨#[115,101,108,108]⟩ a0 a1).bind (bL x) from rfl]; unfold cc; rw [if_neg (by decide),if_neg (by decide)]; rfl
   have HE:Hid (bp x ⟨#[115,101,108,108]⟩ ns=none):=hr
   clear hr
   have hle:((ns.length:Int) != 3)=true:=by rw [bne_iff_ne]; omega
   obtain ⟨s0,s1,s2,s3⟩:=cells4 K5
   obtain ⟨fs0,fs1,fs2,fs3⟩:=frz4 K5
   have b3:=Lib.hid (b2.setCell (p:=⟨g5,0,none⟩) hg5 (O U 4))
   clear K5 b2
   go_wp2_with fail
   go_ret2
   rw [HE.out]
   exact bo.no b3.out
 have f3:(s.toList == [115,101,108,108])=false:=bC h3
 by_cases h4:s=⟨#[109,105,115,115]⟩
 ·subst h4
  by_cases hl:ns.length=2
  ·have hns:=H2.out hl
   have hr:bp x ⟨#[109,105,115,115]⟩ ns=bL x ⟨5,a0,a1,0⟩:=by
    rw [hns,show bp x ⟨#[109,105,115,115]⟩ [a0,a1]=(cc ⟨#[109,105,115,115]⟩ a0 a1).bind (bL x) from rfl]
    unfold cc
    rw [if_neg (by decide),if_pos rfl]; rfl
   clear hns
   have hle:((ns.length:Int) != 2)=false:=by rw [hl]; rfl
   have HL:=Lib.hid hl
   clear hl
   have hc:=fun W hW=>fS x ⟨5,a0,a1,0⟩ W hW
   obtain ⟨R,hR⟩ : ∃ R,fL x.c ⟨5,a0,a1,0⟩=R:=⟨_,rfl⟩
   rw [hR] at hc
   unfold bL at hr
   rw [hR] at hr
   obtain ⟨s0,s1,s2,s3⟩:=cells4 K5
   obtain ⟨fs0,fs1,fs2,fs3⟩:=frz4 K5
   go_upto_region 21 with fail
   have K6:ai (w2.setCell ⟨g5,0,none⟩ (O U 5)) g5 112 [O U 5,O U a0,O U a1,O U 0]:=(K5.set 0 (O U 5))
   have b3:=(b2.setCell (p:=⟨g5,0,none⟩) hg5 (O U 5))
   clear K5 b2 s0 s1 s2 s3 fs0 fs1 fs2 fs3
   generalize (w2.setCell ⟨g5,0,none⟩ (O U 5))=w3 at K6 b3 ⊢
   have K5:=K6
   clear K6
   have hL3:=hL.below b3 hL.lt
   have hR3:=h.up b3 (Nat.le_refl _)
   obtain ⟨y,hy⟩ : ∃ y,cj R=y:=⟨_,rfl⟩
   obtain ⟨ok,hok⟩ : ∃ ok,R.isSome=ok:=⟨_,rfl⟩
   have HR:=Lib.hid hR
   have HY:=Lib.hid hy
   have HOK:=Lib.hid hok
   unfold aC at hc
   rw [hy,hok] at hc
   clear hR hy hok
   refine an (fun _=>(fun W9=>Below w3.heap.size w3 W9)) (fun i w1 w2=>i ∉ [10]→Below w1.heap.size w1 w2) (by kernel_rfl) (by kernel_rfl) (by kernel_rfl) (Below.refl _ _).drew ?_
   simp only [ax,Act.put,List.setIfInBounds_toArray,List.set_cons_zero,List.set_cons_succ,Nat.zero_add,Nat.reduceAdd]
   apply aa
   case h1 =>
    intro vs L9 w9 hG9 hC9 hB K9 hK9
    simp only [Act.put,sA,s0,s1] at hK9
    go_simp
    exact hK9 _ _ rfl hC9 bR
   apply aa
   case h1 =>
    intro vs L9 w9 hG9 hC9 hB K9 hK9
    have d0:=fe hB 0
    simp only [d0] at hK9 ⊢
    simp only [Act.put,sA,s0,s1] at hK9
    go_simp
    exact hK9 _ _ rfl hC9 bR
   apply aa
   case h1 =>
    intro vs L9 w9 hG9 hC9 hB K9 hK9
    have d1:=fe hB 1
    simp only [d1] at hK9 ⊢
    simp only [Act.put,sA,s0,s1] at hK9
    go_simp
    exact hK9 _ _ rfl hC9 bR
   apply aa
   case h1 =>
    intro vs L9 w9 hG9 hC9 hB K9 hK9
    have d2:=fe hB 2
    simp only [d2] at hK9 ⊢
    have q0:w9.cell? ⟨g,0,none⟩=some (F x.TA x.t.length x.tc):=(hL3.below hC9 hL3.lt).cell 0
    have q1:w9.cell? ⟨g,1,none⟩=some (F x.OA x.o.length x.oc):=(hL3.below hC9 hL3.lt).cell 1
    have q2:w9.cell? ⟨g,2,none⟩=some (O U x.got):=(hL3.below hC9 hL3.lt).cell 2
    have q3:w9.cell? ⟨g,3,none⟩=some (O U x.sold):=(hL3.below hC9 hL3.lt).cell 3
    have q4:w9.cell? ⟨g,4,none⟩=some (O U x.missed):=(hL3.below hC9 hL3.lt).cell 4
    simp only [Act.put,sA,s0,s1] at hK9
    go_simp
    exact hK9 _ _ rfl hC9 bR
   apply aa
   case h1 =>
    intro vs L9 w9 hG9 hC9 hB K9 hK9
    have q0:w9.cell? ⟨g5,0,none⟩=some (O U 5):=(K5.below hC9 K5.lt).cell 0
    have q1:w9.cell? ⟨g5,1,none⟩=some (O U a0):=(K5.below hC9 K5.lt).cell 1
    have q2:w9.cell? ⟨g5,2,none⟩=some (O U a1):=(K5.below hC9 K5.lt).cell 2
    have q3:w9.cell? ⟨g5,3,none⟩=some (O U 0):=(K5.below hC9 K5.lt).cell 3
    simp only [Act.put,sA,s0,s1] at hK9
    go_simp
    exact hK9 _ _ rfl hC9 bR
   refine ak [10] (fun v w9=>∃ TA tc OA oc,v=.tuple #[.agg #[F TA y.t.length tc,F OA y.o.length oc,O U y.got,O U y.sold,O U y.missed],.bool ok]∧w9.ownsRow w.heap.size 104 2 (F TA y.t.length tc) y.t.length (y.t.flatMap aq.enc)∧w9.ownsRow w.heap.size 147 3 (F OA y.o.length oc) y.o.length (y.o.flatMap ae.enc)) ?_ (fun vs L9 w9 hG9 hC9 hB K9 hK9=>?_) ?_
   next =>
    intro i9 hi9 hb9 ha9 v w1 w2 hv hT9
    have hb:=hT9 (fun hm=>by
     simp only [List.mem_cons,List.not_mem_nil,or_false] at hm hb9
     subst hm
     ·exact hb9 (by simp))
    obtain ⟨TA,tc,OA,oc,e,q1,q2⟩:=hv
    exact ⟨TA,tc,OA,oc,e,ab q1 hb,ab q2 hb⟩
   next =>
    have d3:=fe hB 3
    have d4:=fe hB 4
    simp only [d3,d4] at hK9 ⊢
    simp only [Act.put,sA,s0,s1] at hK9
    go_simp
    refine (hc w9 (hR3.then hC9)).mono ?_
    rintro en w8 ⟨TA,tc,OA,oc,rfl,h1,h2,hb8⟩
    simp only [Oc.at,aM.val]
    exact hK9 _ _ _ rfl ⟨TA,tc,OA,oc,rfl,af h1 (Nat.le_trans b3.size hC9.size),af h2 (Nat.le_trans b3.size hC9.size)⟩ (hC9.trans (hb8.mono hC9.size)) (fun _=>hb8)
   refine bs [] 5 (fun u v w9=>v=u∧∃ TA tc OA oc,u=.tuple #[.agg #[F TA y.t.length tc,F OA y.o.length oc,O U y.got,O U y.sold,O U y.missed],.bool ok]) (by kernel_rfl) ?_ (fun vs L9 w9 hG9 hC9 hB K9 hK9=>?_) ?_
   next =>
    intro i9 hi9 hb9 ha9 u v w1 w2 hv hT9
    exact hv
   next =>
    obtain ⟨TA,tc,OA,oc,e0,h1,h2⟩:=fs hB 5
    simp only [e0] at hK9 ⊢
    go_simp
    exact hK9 _ _ _ rfl ⟨rfl,TA,tc,OA,oc,rfl⟩ hC9 bR
   refine ak [10] (fun v w9=>∃ TA tc OA oc,v=.agg #[F TA y.t.length tc,F OA y.o.length oc,O U y.got,O U y.sold,O U y.missed]∧w9.ownsRow w.heap.size 104 2 (F TA y.t.length tc) y.t.length (y.t.flatMap aq.enc)∧w9.ownsRow w.heap.size 147 3 (F OA y.o.length oc) y.o.length (y.o.flatMap ae.enc)) ?_ (fun vs L9 w9 hG9 hC9 hB K9 hK9=>?_) ?_
   next =>
    intro i9 hi9 hb9 ha9 v w1 w2 hv hT9
    have hb:=hT9 (fun hm=>by
     simp only [List.mem_cons,List.not_mem_nil,or_false] at hm hb9
     subst hm
     ·exact hb9 (by simp))
    obtain ⟨TA,tc,OA,oc,e,q1,q2⟩:=hv
    exact ⟨TA,tc,OA,oc,e,ab q1 hb,ab q2 hb⟩
   next =>
    simp only [Act.put,sA,s0,s1] at hK9
    obtain ⟨TA,tc,OA,oc,e0,h1,h2⟩:=fs hB 5
    obtain ⟨e6,_⟩:=fs hB 6
    simp only [e6,e0] at hK9 ⊢
    go_simp
    exact hK9 _ _ _ rfl ⟨TA,tc,OA,oc,rfl,h1,h2⟩ hC9 bR
   refine aa (.bool ok) (fun vs L9 w9 hG9 hC9 hB K9 hK9=>?_) ?_
   next =>
    obtain ⟨e6,TA,tc,OA,oc,e0⟩:=fs hB 6
    simp only [e6,e0] at hK9 ⊢
    go_simp
    exact hK9 _ _ rfl hC9 bR
   refine ak [10] (fun v w9=>∃ g9,v=.pointer (some ⟨g9,0,none⟩)∧w3.heap.size≤g9∧ai w9 g9 40 [F none 0 0,F none 0 0,O U 0,O U 0,O U 0]) ?_ (fun vs L9 w9 hG9 hC9 hB K9 hK9=>?_) ?_
   next =>
    intro i9 hi9 hb9 ha9 v w1 w2 hv hT9
    have hb:=hT9 (fun hm=>by
     simp only [List.mem_cons,List.not_mem_nil,or_false] at hm hb9
     subst hm
     ·exact hb9 (by simp))
    obtain ⟨g9,q1,q2,q3⟩:=hv
    exact ⟨g9,q1,q2,q3.below hb q3.lt⟩
   next =>
    simp only [Act.put,sA,s0,s1] at hK9
    go_simp
    have hb8:=(Below.refl w9.heap.size w9).alloc (Nat.le_refl _) (.cells #[F none 0 0,F none 0 0,O U 0,O U 0,O U 0] 40)
    exact hK9 _ _ _ rfl ⟨_,rfl,hC9.size,ai.new w9 40 #[F none 0 0,F none 0 0,O U 0,O U 0,O U 0]⟩ (hC9.trans (hb8.mono hC9.size)) (fun _=>hb8)
   refine bs [] 9 (fun u _ w9=>∃ g9 TA tc OA oc,u=.pointer (some ⟨g9,0,none⟩)∧w3.heap.size≤g9∧ai w9 g9 40 [F TA y.t.length tc,F OA y.o.length oc,O U y.got,O U y.sold,O U y.missed]∧w9.ownsRow w.heap.size 104 2 (F TA y.t.length tc) y.t.length (y.t.flatMap aq.enc)∧w9.ownsRow w.heap.size 147 3 (F OA y.o.length oc) y.o.length (y.o.flatMap ae.enc)) (by kernel_rfl) ?_ (fun vs L9 w9 hG9 hC9 hB K9 hK9=>?_) ?_
   next =>
    intro i9 hi9 hb9 ha9 u v w1 w2 hv hT9
    have hb:=hT9 (fun hm=>by
     simp only [List.mem_cons,List.not_mem_nil,or_false] at hm hb9
     subst hm
     ·exact hi9 rfl)
    obtain ⟨g9,TA,tc,OA,oc,q1,q2,q3,q4,q5⟩:=hv
    exact ⟨g9,TA,tc,OA,oc,q1,q2,q3.below hb q3.lt,ab q4 hb,ab q5 hb⟩
   next =>
    obtain ⟨g9,hv9,hg9,hA9⟩:=fs hB 9
    simp only [hv9] at hK9 ⊢
    obtain ⟨TA,tc,OA,oc,e0,h1,h2⟩:=fs hB 7
    simp only [e0] at hK9 ⊢
    obtain ⟨z0,z1,z2,z3,z4⟩:=cells5 hA9
    obtain ⟨f0,f1,f2,f3,f4⟩:=frz5 hA9
    have hN8:=Lib.hid (show ai _ g9 40 [F TA y.t.length tc,F OA y.o.length oc,O U y.got,O U y.sold,O U y.missed] from qW (hA9) (F TA y.t.length tc) (F OA y.o.length oc) (O U y.got) (O U y.sold) (O U y.missed))
    have hD8:=Lib.hid (hC9.grown (row:=some g9) (ac (g:=g9) (i:=4) (u:=O U y.missed) (ac (g:=g9) (i:=3) (u:=O U y.sold) (ac (g:=g9) (i:=2) (u:=O U y.got) (ac (g:=g9) (i:=1) (u:=F OA y.o.length oc) (ac (g:=g9) (i:=0) (u:=F TA y.t.length tc) (World.grownBy.refl _ (some g9))))))) hC9.size (by rintro _ ⟨⟩; exact hg9))
    have hT8:=Lib.hid (aj h1 hA9 ez (ac (g:=g9) (i:=4) (u:=O U y.missed) (ac (g:=g9) (i:=3) (u:=O U y.sold) (ac (g:=g9) (i:=2) (u:=O U y.got) (ac (g:=g9) (i:=1) (u:=F OA y.o.length oc) (ac (g:=g9) (i:=0) (u:=F TA y.t.length tc) (World.grownBy.refl _ (some g9))))))))
    have hO8:=Lib.hid (aj h2 hA9 dY (ac (g:=g9) (i:=4) (u:=O U y.missed) (ac (g:=g9) (i:=3) (u:=O U y.sold) (ac (g:=g9) (i:=2) (u:=O U y.got) (ac (g:=g9) (i:=1) (u:=F OA y.o.length oc) (ac (g:=g9) (i:=0) (u:=F TA y.t.length tc) (World.grownBy.refl _ (some g9))))))))
    clear hA9
    go_simp
    exact hK9 _ undef _ rfl ⟨g9,TA,tc,OA,oc,rfl,hg9,hN8.out,hT8.out,hO8.out⟩ hD8.out (fun hq=>(hq (by decide)).elim)
   apply aa
   case h1 =>
    intro vs L9 w9 hG9 hC9 hB K9 hK9
    have d8:=fe hB 8
    simp only [d8] at hK9 ⊢
    simp only [Act.put,sA,s0,s1] at hK9
    go_simp
    exact hK9 _ _ rfl hC9 bR
   refine az fun vs L9 w4 hL9 hC9 hB=>?_
   obtain ⟨gt,TA,tc,OA,oc,hvg,hgt,Kt,hT4,hO4⟩:=hB 10 _ rfl rfl (by decide)
   have dl:=ag.eq (hB 11 _ rfl rfl (by decide))
   simp only [hvg,dl]
   clear hB hL9 hvg dl
   have b4:=b3.trans (hC9.mono b3.size)
   cases R with
   | none =>
    have e1:ok=false:=HOK.out.symm
    subst e1
    have HE:Hid (bp x ⟨#[109,105,115,115]⟩ ns=none):=hr
    clear hr
    clear Kt K5 hL3 hR3 hT4 hO4 HY
    go_wp2_with fail
    go_ret2
    rw [HE.out]
    exact bo.no b4
   | some z =>
   have e1:ok=true:=HOK.out.symm
   subst e1
   have e2:z=y:=HY.out
   subst e2
   have hz0:=HR.out
   have HE:Hid (bp x ⟨#[109,105,115,115]⟩ ns=some (z,iv z.off ⟨5,a0,a1,0⟩)):=hr
   clear hr
   have hg4:=hL.below b4 hL.lt
   have hgg:g < gt:=Nat.lt_of_lt_of_le hL.lt (Nat.le_trans b3.size hgt)
   have hW0s:W0.heap.size≤w.heap.size:=hb0.size
   obtain ⟨w5,HW5,M,b5,gr5,OT⟩:=gL hg4 (b4.mono hW0s) hB (F TA z.t.length tc) (F OA z.o.length oc) (O U z.got) (O U z.sold) (O U z.missed)
   have Mt:=OT _ _ _ (by omega) Kt
   have hT5:=aj hT4 hg4 eN gr5
   have hO5:=aj hO4 hg4 eQ gr5
   have HK5:Hid (∀ j,j < w.heap.size→j ≠ g→w5.heap[j]?=w.heap[j]?):=fun j hj hne=>(gr5.block j (Nat.lt_of_lt_of_le hj b4.size) (by intro e; injection e with e; exact hne e)).trans (b4.block j hj)
   have hs5:w.heap.size≤w5.heap.size:=Nat.le_trans b4.size gr5.size
   obtain ⟨z0,z1,z2,z3,z4⟩:=cells5 Kt
   obtain ⟨k0,k1,k2,k3,k4,k5,k6,k7⟩:=cells8 hg4
   obtain ⟨f0,f1,f2,f3,f4,f5,f6,f7⟩:=frz8 hg4
   go_upto_region 25 with fail
   clear z0 z1 z2 z3 z4 k0 k1 k2 k3 k4 k5 k6 k7 f0 f1 f2 f3 f4 hg4 gr5 hL3 hR3 K5
   rw [HW5.out]
   clear HW5 OT
   have b05:=hb0.trans b5
   have ht5:=ht.then b05
   have hgz:w.heap.size≤gt:=Nat.le_trans b3.size hgt
   have hOw:aA w5 w.heap.size gt (F TA z.t.length tc) (F OA z.o.length oc) z:=⟨Mt,hgz,hT5,hO5⟩
   have hat:=aA.at_ hOw
   have hzz:=eG hz0
   have GZ:bn (z.at TA tc OA oc):=Oc.good_off hzz.1 TA tc OA oc
   have hCI:db w5 W0.heap.size g z l:=⟨TA,tc,OA,oc,M,af hT5 hW0s,af hO5 hW0s⟩
   obtain ⟨z0,z1,z2,z3,z4⟩:=cells5 Mt
   have bd:0≤z.missed∧z.missed≤99999:=GZ.m
   have hn:=fun W hW=>cu z.missed W (by omega) (by omega) hW
   clear bd
   go_wp2_with fail
   refine (hn _ ht5).mono ?_
   rintro e W7 ⟨rfl,hb8⟩
   go_wp2
   go_ret2
   rw [HE.out]
   exact bo.yes rfl (hCI.below hb8) (b5.trans (hb8.mono (Nat.le_trans hW0s hs5))) (Nat.le_trans hs5 hb8.size) (fun j hj hne=>(hb8.block j (Nat.lt_of_lt_of_le hj hs5)).trans (HK5.out j hj hne))
  ·have hr:bp x ⟨#[109,105,115,115]⟩ ns=none:=by
    rw [H3.out (by omega) (ns[2]'(by omega)) rfl]; generalize ns[2]'(by omega)=b2; rw [show bp x ⟨#[109,105,115,115]⟩ [a0,a1,b2]=(cn ⟨#[109,105,115,115]⟩ a0 a1 b2).bind (bL x) from rfl]; unfold cn; rw [if_neg (by decide),if_neg (by decide),if_neg (by decide),if_neg (by decide)]; rfl
   have HE:Hid (bp x ⟨#[109,105,115,115]⟩ ns=none):=hr
   clear hr
   have hle:((ns.length:Int) != 2)=true:=by rw [bne_iff_ne]; omega
   obtain ⟨s0,s1,s2,s3⟩:=cells4 K5
   obtain ⟨fs0,fs1,fs2,fs3⟩:=frz4 K5
   have b3:=Lib.hid (b2.setCell (p:=⟨g5,0,none⟩) hg5 (O U 5))
   clear K5 b2
   go_wp2_with fail
   go_ret2
   rw [HE.out]
   exact bo.no b3.out
 have f4:(s.toList == [109,105,115,115])=false:=bC h4
 by_cases h5:s=⟨#[109,111,118,101]⟩
 ·subst h5
  by_cases hl:ns.length=3
  ·have hl2:2 < ns.length:=by omega
   have hli2:(2:Int) < (ns.length:Int):=by omega
   obtain ⟨a2,ha2⟩ : ∃ a,ns[2]'hl2=a:=⟨_,rfl⟩
   have n2w:∀ W:World,Below w.heap.size w W→W.cell? ⟨bN,off+2,none⟩=some (O U a2):=fun W hb=>by have:=HCN.out 2 hl2 ⟨W,hb⟩; rw [ha2] at this; exact this
   have hns:=H3.out hl a2 ha2
   have hr:bp x ⟨#[109,111,118,101]⟩ ns=bL x ⟨6,a0,a1,a2⟩:=by
    rw [hns,show bp x ⟨#[109,111,118,101]⟩ [a0,a1,a2]=(cn ⟨#[109,111,118,101]⟩ a0 a1 a2).bind (bL x) from rfl]
    unfold cn
    rw [if_neg (by decide),if_neg (by decide),if_neg (by decide),if_pos rfl]; rfl
   clear hns ha2
   have hle:((ns.length:Int) != 3)=false:=by rw [hl]; rfl
   have HL:=Lib.hid hl
   clear hl
   have hc:=fun W hW=>fS x ⟨6,a0,a1,a2⟩ W hW
   obtain ⟨R,hR⟩ : ∃ R,fL x.c ⟨6,a0,a1,a2⟩=R:=⟨_,rfl⟩
   rw [hR] at hc
   unfold bL at hr
   rw [hR] at hr
   obtain ⟨s0,s1,s2,s3⟩:=cells4 K5
   obtain ⟨fs0,fs1,fs2,fs3⟩:=frz4 K5
   have n2c:=n2w w2 b2
   go_upto_region 21 with fail
   have K6:ai ((w2.setCell ⟨g5,0,none⟩ (O U 6)).setCell ⟨g5,3,none⟩ (O U a2)) g5 112 [O U 6,O U a0,O U a1,O U a2]:=((K5.set 0 (O U 6)).set 3 (O U a2))
   have b3:=((b2.setCell (p:=⟨g5,0,none⟩) hg5 (O U 6)).setCell (p:=⟨g5,3,none⟩) hg5 (O U a2))
   clear K5 b2 s0 s1 s2 s3 fs0 fs1 fs2 fs3 n2c
   generalize ((w2.setCell ⟨g5,0,none⟩ (O U 6)).setCell ⟨g5,3,none⟩ (O U a2))=w3 at K6 b3 ⊢
   have K5:=K6
   clear K6
   have hL3:=hL.below b3 hL.lt
   have hR3:=h.up b3 (Nat.le_refl _)
   obtain ⟨y,hy⟩ : ∃ y,cj R=y:=⟨_,rfl⟩
   obtain ⟨ok,hok⟩ : ∃ ok,R.isSome=ok:=⟨_,rfl⟩
   have HR:=Lib.hid hR
   have HY:=Lib.hid hy
   have HOK:=Lib.hid hok
   unfold aC at hc
   rw [hy,hok] at hc
   clear hR hy hok
   refine an (fun _=>(fun W9=>Below w3.heap.size w3 W9)) (fun i w1 w2=>i ∉ [10]→Below w1.heap.size w1 w2) (by kernel_rfl) (by kernel_rfl) (by kernel_rfl) (Below.refl _ _).drew ?_
   simp only [ax,Act.put,List.setIfInBounds_toArray,List.set_cons_zero,List.set_cons_succ,Nat.zero_add,Nat.reduceAdd]
   apply aa
   case h1 =>
    intro vs L9 w9 hG9 hC9 hB K9 hK9
    simp only [Act.put,sA,s0,s1] at hK9
    go_simp
    exact hK9 _ _ rfl hC9 bR
   apply aa
   case h1 =>
    intro vs L9 w9 hG9 hC9 hB K9 hK9
    have d0:=fe hB 0
    simp only [d0] at hK9 ⊢
    simp only [Act.put,sA,s0,s1] at hK9
    go_simp
    exact hK9 _ _ rfl hC9 bR
   apply aa
   case h1 =>
    intro vs L9 w9 hG9 hC9 hB K9 hK9
    have d1:=fe hB 1
    simp only [d1] at hK9 ⊢
    simp only [Act.put,sA,s0,s1] at hK9
    go_simp
    exact hK9 _ _ rfl hC9 bR
   apply aa
   case h1 =>
    intro vs L9 w9 hG9 hC9 hB K9 hK9
    have d2:=fe hB 2
    simp only [d2] at hK9 ⊢
    have q0:w9.cell? ⟨g,0,none⟩=some (F x.TA x.t.length x.tc):=(hL3.below hC9 hL3.lt).cell 0
    have q1:w9.cell? ⟨g,1,none⟩=some (F x.OA x.o.length x.oc):=(hL3.below hC9 hL3.lt).cell 1
    have q2:w9.cell? ⟨g,2,none⟩=some (O U x.got):=(hL3.below hC9 hL3.lt).cell 2
    have q3:w9.cell? ⟨g,3,none⟩=some (O U x.sold):=(hL3.below hC9 hL3.lt).cell 3
    have q4:w9.cell? ⟨g,4,none⟩=some (O U x.missed):=(hL3.below hC9 hL3.lt).cell 4
    simp only [Act.put,sA,s0,s1] at hK9
    go_simp
    exact hK9 _ _ rfl hC9 bR
   apply aa
   case h1 =>
    intro vs L9 w9 hG9 hC9 hB K9 hK9
    have q0:w9.cell? ⟨g5,0,none⟩=some (O U 6):=(K5.below hC9 K5.lt).cell 0
    have q1:w9.cell? ⟨g5,1,none⟩=some (O U a0):=(K5.below hC9 K5.lt).cell 1
    have q2:w9.cell? ⟨g5,2,none⟩=some (O U a1):=(K5.below hC9 K5.lt).cell 2
    have q3:w9.cell? ⟨g5,3,none⟩=some (O U a2):=(K5.below hC9 K5.lt).cell 3
    simp only [Act.put,sA,s0,s1] at hK9
    go_simp
    exact hK9 _ _ rfl hC9 bR
   refine ak [10] (fun v w9=>∃ TA tc OA oc,v=.tuple #[.agg #[F TA y.t.length tc,F OA y.o.length oc,O U y.got,O U y.sold,O U y.missed],.bool ok]∧w9.ownsRow w.heap.size 104 2 (F TA y.t.length tc) y.t.length (y.t.flatMap aq.enc)∧w9.ownsRow w.heap.size 147 3 (F OA y.o.length oc) y.o.length (y.o.flatMap ae.enc)) ?_ (fun vs L9 w9 hG9 hC9 hB K9 hK9=>?_) ?_
   next =>
    intro i9 hi9 hb9 ha9 v w1 w2 hv hT9
    have hb:=hT9 (fun hm=>by
     simp only [List.mem_cons,List.not_mem_nil,or_false] at hm hb9
     subst hm
     ·exact hb9 (by simp))
    obtain ⟨TA,tc,OA,oc,e,q1,q2⟩:=hv
    exact ⟨TA,tc,OA,oc,e,ab q1 hb,ab q2 hb⟩
   next =>
    have d3:=fe hB 3
    have d4:=fe hB 4
    simp only [d3,d4] at hK9 ⊢
    simp only [Act.put,sA,s0,s1] at hK9
    go_simp
    refine (hc w9 (hR3.then hC9)).mono ?_
    rintro en w8 ⟨TA,tc,OA,oc,rfl,h1,h2,hb8⟩
    simp only [Oc.at,aM.val]
    exact hK9 _ _ _ rfl ⟨TA,tc,OA,oc,rfl,af h1 (Nat.le_trans b3.size hC9.size),af h2 (Nat.le_trans b3.size hC9.size)⟩ (hC9.trans (hb8.mono hC9.size)) (fun _=>hb8)
   refine bs [] 5 (fun u v w9=>v=u∧∃ TA tc OA oc,u=.tuple #[.agg #[F TA y.t.length tc,F OA y.o.length oc,O U y.got,O U y.sold,O U y.missed],.bool ok]) (by kernel_rfl) ?_ (fun vs L9 w9 hG9 hC9 hB K9 hK9=>?_) ?_
   next =>
    intro i9 hi9 hb9 ha9 u v w1 w2 hv hT9
    exact hv
   next =>
    obtain ⟨TA,tc,OA,oc,e0,h1,h2⟩:=fs hB 5
    simp only [e0] at hK9 ⊢
    go_simp
    exact hK9 _ _ _ rfl ⟨rfl,TA,tc,OA,oc,rfl⟩ hC9 bR
   refine ak [10] (fun v w9=>∃ TA tc OA oc,v=.agg #[F TA y.t.length tc,F OA y.o.length oc,O U y.got,O U y.sold,O U y.missed]∧w9.ownsRow w.heap.size 104 2 (F TA y.t.length tc) y.t.length (y.t.flatMap aq.enc)∧w9.ownsRow w.heap.size 147 3 (F OA y.o.length oc) y.o.length (y.o.flatMap ae.enc)) ?_ (fun vs L9 w9 hG9 hC9 hB K9 hK9=>?_) ?_
   next =>
    intro i9 hi9 hb9 ha9 v w1 w2 hv hT9
    have hb:=hT9 (fun hm=>by
     simp only [List.mem_cons,List.not_mem_nil,or_false] at hm hb9
     subst hm
     ·exact hb9 (by simp))
    obtain ⟨TA,tc,OA,oc,e,q1,q2⟩:=hv
    exact ⟨TA,tc,OA,oc,e,ab q1 hb,ab q2 hb⟩
   next =>
    simp only [Act.put,sA,s0,s1] at hK9
    obtain ⟨TA,tc,OA,oc,e0,h1,h2⟩:=fs hB 5
    obtain ⟨e6,_⟩:=fs hB 6
    simp only [e6,e0] at hK9 ⊢
    go_simp
    exact hK9 _ _ _ rfl ⟨TA,tc,OA,oc,rfl,h1,h2⟩ hC9 bR
   refine aa (.bool ok) (fun vs L9 w9 hG9 hC9 hB K9 hK9=>?_) ?_
   next =>
    obtain ⟨e6,TA,tc,OA,oc,e0⟩:=fs hB 6
    simp only [e6,e0] at hK9 ⊢
    go_simp
    exact hK9 _ _ rfl hC9 bR
   refine ak [10] (fun v w9=>∃ g9,v=.pointer (some ⟨g9,0,none⟩)∧w3.heap.size≤g9∧ai w9 g9 40 [F none 0 0,F none 0 0,O U 0,O U 0,O U 0]) ?_ (fun vs L9 w9 hG9 hC9 hB K9 hK9=>?_) ?_
   next =>
    intro i9 hi9 hb9 ha9 v w1 w2 hv hT9
    have hb:=hT9 (fun hm=>by
     simp only [List.mem_cons,List.not_mem_nil,or_false] at hm hb9
     subst hm
     ·exact hb9 (by simp))
    obtain ⟨g9,q1,q2,q3⟩:=hv
    exact ⟨g9,q1,q2,q3.below hb q3.lt⟩
   next =>
    simp only [Act.put,sA,s0,s1] at hK9
    go_simp
    have hb8:=(Below.refl w9.heap.size w9).alloc (Nat.le_refl _) (.cells #[F none 0 0,F none 0 0,O U 0,O U 0,O U 0] 40)
    exact hK9 _ _ _ rfl ⟨_,rfl,hC9.size,ai.new w9 40 #[F none 0 0,F none 0 0,O U 0,O U 0,O U 0]⟩ (hC9.trans (hb8.mono hC9.size)) (fun _=>hb8)
   refine bs [] 9 (fun u _ w9=>∃ g9 TA tc OA oc,u=.pointer (some ⟨g9,0,none⟩)∧w3.heap.size≤g9∧ai w9 g9 40 [F TA y.t.length tc,F OA y.o.length oc,O U y.got,O U y.sold,O U y.missed]∧w9.ownsRow w.heap.size 104 2 (F TA y.t.length tc) y.t.length (y.t.flatMap aq.enc)∧w9.ownsRow w.heap.size 147 3 (F OA y.o.length oc) y.o.length (y.o.flatMap ae.enc)) (by kernel_rfl) ?_ (fun vs L9 w9 hG9 hC9 hB K9 hK9=>?_) ?_
   next =>
    intro i9 hi9 hb9 ha9 u v w1 w2 hv hT9
    have hb:=hT9 (fun hm=>by
     simp only [List.mem_cons,List.not_mem_nil,or_false] at hm hb9
     subst hm
     ·exact hi9 rfl)
    obtain ⟨g9,TA,tc,OA,oc,q1,q2,q3,q4,q5⟩:=hv
    exact ⟨g9,TA,tc,OA,oc,q1,q2,q3.below hb q3.lt,ab q4 hb,ab q5 hb⟩
   next =>
    obtain ⟨g9,hv9,hg9,hA9⟩:=fs hB 9
    simp only [hv9] at hK9 ⊢
    obtain ⟨TA,tc,OA,oc,e0,h1,h2⟩:=fs hB 7
    simp only [e0] at hK9 ⊢
    obtain ⟨z0,z1,z2,z3,z4⟩:=cells5 hA9
    obtain ⟨f0,f1,f2,f3,f4⟩:=frz5 hA9
    have hN8:=Lib.hid (show ai _ g9 40 [F TA y.t.length tc,F OA y.o.length oc,O U y.got,O U y.sold,O U y.missed] from qW (hA9) (F TA y.t.length tc) (F OA y.o.length oc) (O U y.got) (O U y.sold) (O U y.missed))
    have hD8:=Lib.hid (hC9.grown (row:=some g9) (ac (g:=g9) (i:=4) (u:=O U y.missed) (ac (g:=g9) (i:=3) (u:=O U y.sold) (ac (g:=g9) (i:=2) (u:=O U y.got) (ac (g:=g9) (i:=1) (u:=F OA y.o.length oc) (ac (g:=g9) (i:=0) (u:=F TA y.t.length tc) (World.grownBy.refl _ (some g9))))))) hC9.size (by rintro _ ⟨⟩; exact hg9))
    have hT8:=Lib.hid (aj h1 hA9 ez (ac (g:=g9) (i:=4) (u:=O U y.missed) (ac (g:=g9) (i:=3) (u:=O U y.sold) (ac (g:=g9) (i:=2) (u:=O U y.got) (ac (g:=g9) (i:=1) (u:=F OA y.o.length oc) (ac (g:=g9) (i:=0) (u:=F TA y.t.length tc) (World.grownBy.refl _ (some g9))))))))
    have hO8:=Lib.hid (aj h2 hA9 dY (ac (g:=g9) (i:=4) (u:=O U y.missed) (ac (g:=g9) (i:=3) (u:=O U y.sold) (ac (g:=g9) (i:=2) (u:=O U y.got) (ac (g:=g9) (i:=1) (u:=F OA y.o.length oc) (ac (g:=g9) (i:=0) (u:=F TA y.t.length tc) (World.grownBy.refl _ (some g9))))))))
    clear hA9
    go_simp
    exact hK9 _ undef _ rfl ⟨g9,TA,tc,OA,oc,rfl,hg9,hN8.out,hT8.out,hO8.out⟩ hD8.out (fun hq=>(hq (by decide)).elim)
   apply aa
   case h1 =>
    intro vs L9 w9 hG9 hC9 hB K9 hK9
    have d8:=fe hB 8
    simp only [d8] at hK9 ⊢
    simp only [Act.put,sA,s0,s1] at hK9
    go_simp
    exact hK9 _ _ rfl hC9 bR
   refine az fun vs L9 w4 hL9 hC9 hB=>?_
   obtain ⟨gt,TA,tc,OA,oc,hvg,hgt,Kt,hT4,hO4⟩:=hB 10 _ rfl rfl (by decide)
   have dl:=ag.eq (hB 11 _ rfl rfl (by decide))
   simp only [hvg,dl]
   clear hB hL9 hvg dl
   have b4:=b3.trans (hC9.mono b3.size)
   cases R with
   | none =>
    have e1:ok=false:=HOK.out.symm
    subst e1
    have HE:Hid (bp x ⟨#[109,111,118,101]⟩ ns=none):=hr
    clear hr
    clear Kt K5 hL3 hR3 hT4 hO4 HY
    go_wp2_with fail
    go_ret2
    rw [HE.out]
    exact bo.no b4
   | some z =>
   have e1:ok=true:=HOK.out.symm
   subst e1
   have e2:z=y:=HY.out
   subst e2
   have hz0:=HR.out
   have HE:Hid (bp x ⟨#[109,111,118,101]⟩ ns=some (z,iv z.off ⟨6,a0,a1,a2⟩)):=hr
   clear hr
   have hg4:=hL.below b4 hL.lt
   have hgg:g < gt:=Nat.lt_of_lt_of_le hL.lt (Nat.le_trans b3.size hgt)
   have hW0s:W0.heap.size≤w.heap.size:=hb0.size
   obtain ⟨w5,HW5,M,b5,gr5,OT⟩:=gL hg4 (b4.mono hW0s) hB (F TA z.t.length tc) (F OA z.o.length oc) (O U z.got) (O U z.sold) (O U z.missed)
   have Mt:=OT _ _ _ (by omega) Kt
   have hT5:=aj hT4 hg4 eN gr5
   have hO5:=aj hO4 hg4 eQ gr5
   have HK5:Hid (∀ j,j < w.heap.size→j ≠ g→w5.heap[j]?=w.heap[j]?):=fun j hj hne=>(gr5.block j (Nat.lt_of_lt_of_le hj b4.size) (by intro e; injection e with e; exact hne e)).trans (b4.block j hj)
   have n0c:=kF gr5 (Nat.lt_of_lt_of_le hbN b4.size) hbg (n0w w4 b4)
   have hs5:w.heap.size≤w5.heap.size:=Nat.le_trans b4.size gr5.size
   obtain ⟨z0,z1,z2,z3,z4⟩:=cells5 Kt
   obtain ⟨k0,k1,k2,k3,k4,k5,k6,k7⟩:=cells8 hg4
   obtain ⟨f0,f1,f2,f3,f4,f5,f6,f7⟩:=frz8 hg4
   go_upto_region 25 with fail
   clear z0 z1 z2 z3 z4 k0 k1 k2 k3 k4 k5 k6 k7 f0 f1 f2 f3 f4 hg4 gr5 hL3 hR3 K5
   rw [HW5.out]
   clear HW5 OT
   have b05:=hb0.trans b5
   have ht5:=ht.then b05
   have hgz:w.heap.size≤gt:=Nat.le_trans b3.size hgt
   have hOw:aA w5 w.heap.size gt (F TA z.t.length tc) (F OA z.o.length oc) z:=⟨Mt,hgz,hT5,hO5⟩
   have hat:=aA.at_ hOw
   have hzz:=eG hz0
   have GZ:bn (z.at TA tc OA oc):=Oc.good_off hzz.1 TA tc OA oc
   have hCI:db w5 W0.heap.size g z l:=⟨TA,tc,OA,oc,M,af hT5 hW0s,af hO5 hW0s⟩
   obtain ⟨z0,z1,z2,z3,z4⟩:=cells5 Mt
   obtain ⟨i,hi⟩:=fo (ts:=z.t) (kd:=a0) (of_decide_eq_true (by rw [cQ]; exact hzz.2))
   obtain ⟨hil,hik⟩:=fQ hi
   have hc1:=fM (z.at TA tc OA oc) gt i a0 w5 hat GZ hi hil ht5
   have hTX:dP z.off a0=pb (bu (z.t[i]'hil).c) (bu (aS (bi a0) z.o)):=by
    unfold dP
    rw [if_pos (show (am z.off && aN z.off.t a0)=true from by rw [show am z.off=true from hzz.1]; exact hzz.2)]
    unfold lW
    show pb (bu (z.t.getD (av z.t a0).toNat default).c) _=_
    rw [hi,Int.toNat_natCast,dQ hil]
    rfl
   go_wp2_with fail
   refine hc1.mono ?_
   rintro e W7 ⟨rfl,hb8⟩
   go_wp2
   go_ret2
   rw [HE.out]
   exact bo.yes hTX (hCI.below hb8) (b5.trans (hb8.mono (Nat.le_trans hW0s hs5))) (Nat.le_trans hs5 hb8.size) (fun j hj hne=>(hb8.block j (Nat.lt_of_lt_of_le hj hs5)).trans (HK5.out j hj hne))
  ·have hr:bp x ⟨#[109,111,118,101]⟩ ns=none:=by
    rw [H2.out (by omega)]; rw [show bp x ⟨#[109,111,118,101]⟩ [a0,a1]=(cc ⟨#[109,111,118,101]⟩ a0 a1).bind (bL x) from rfl]; unfold cc; rw [if_neg (by decide),if_neg (by decide)]; rfl
   have HE:Hid (bp x ⟨#[109,111,118,101]⟩ ns=none):=hr
   clear hr
   have hle:((ns.length:Int) != 3)=true:=by rw [bne_iff_ne]; omega
   obtain ⟨s0,s1,s2,s3⟩:=cells4 K5
   obtain ⟨fs0,fs1,fs2,fs3⟩:=frz4 K5
   have b3:=Lib.hid (b2.setCell (p:=⟨g5,0,none⟩) hg5 (O U 6))
   clear K5 b2
   go_wp2_with fail
   go_ret2
   rw [HE.out]
   exact bo.no b3.out
 have f5:(s.toList == [109,111,118,101])=false:=bC h5
 have hr:bp x s ns=none:=by
  rcases Nat.lt_or_ge ns.length 3 with hl | hl
  ·rw [H2.out (by omega),show bp x s [a0,a1]=(cc s a0 a1).bind (bL x) from rfl]; unfold cc; rw [if_neg h0,if_neg h4]; rfl
  ·rw [H3.out (by omega) (ns[2]'(by omega)) rfl]; generalize ns[2]'(by omega)=b2
   rw [show bp x s [a0,a1,b2]=(cn s a0 a1 b2).bind (bL x) from rfl]; unfold cn; rw [if_neg h1,if_neg h2,if_neg h3,if_neg h5]; rfl
 have HE:Hid (bp x s ns=none):=hr
 clear hr h0 h1 h2 h3 h4 h5
 go_wp2_with fail
 go_ret2
 rw [HE.out]
 exact bo.no b2
theorem mf {s:List UInt8} {n:Int} (h:ce s=some n):Lib.atoiAll s=.ok n:=by
 obtain ⟨h1,h2⟩:=gy h
 rw [← h2]; exact nM h1
set_option maxHeartbeats 2000000 in
theorem nF (s:ByteArray) (w:World) (hs:s.size≤1000000000) (hL:LW w) :
  Calls Tryz.prog 96 #[sQ s] w (hH s w):=by
 rcases ha:Lib.atoiAll s.data.toList with v | _ | _
 ·skip
  obtain ⟨v0,v1⟩:=Lib.atoiAll_bounds ha
  have HA:=Lib.hid (Tryz.strconv_Atoi_ok s (by omega) v ha w)
  have hv:∀ n,ce (bl s)=some n→n=v:=fun n hn=>by
   have h1:=mf hn
   have h2:Lib.atoiAll (bl s)=.ok v:=ha
   rw [h2] at h1; injection h1 with h1; exact h1.symm
  by_cases hr:bI v (-999999) 999999=true
  ·have hr2:=gI.1 hr
   have HI:Hid (∀ W,hU W→Calls Tryz.prog 69 #[O U v] W fun e w'=>e=.returned (sQ ⟨(Lib.itoa v).toArray⟩)∧Below W.heap.size W w'):=fun W hW=>cu v W v0 v1 hW
   obtain ⟨nt,hnt⟩ : ∃ x:ByteArray,x=⟨(Lib.itoa v).toArray⟩:=⟨_,rfl⟩
   have hbn:bl nt=Lib.itoa v:=by rw [hnt,bM]
   rw [← hnt] at HI
   clear hnt
   have HZ:Hid ((nt.toList == s.toList)=(ce (bl s)).isSome∧((nt.toList == s.toList)=true→ce (bl s)=some v)∧((nt.toList == s.toList)=false→ce (bl s)=none)):=by
    rw [gm,hbn]
    by_cases hq:Lib.itoa v=bl s
    ·have h1:=lu (n:=v) ⟨by omega,by omega⟩ hq
     rw [h1]; simp [hq,Hid]
    ·have h1:ce (bl s)=none:=by
      cases hq2:ce (bl s) with
      | none=>rfl
      | some n=>exfalso; have h2:=hv n hq2; subst h2; exact hq (gy hq2).2
     rw [h1]; simp [hq,Hid]
   clear hbn hv
   obtain ⟨bb,hbb⟩ : ∃ b:Bool,(nt.toList == s.toList)=b:=⟨_,rfl⟩
   rw [hbb] at HZ
   have fin:∀ w2,Below w.heap.size w w2→Hid (LW w2):=fun w2 h2=>hL.then h2
   go_enter Tryz.func96,Tryz.ntmps96
   go_wp2_with fail
   refine HA.out.mono ?_
   rintro e w1 ⟨rfl,hw1⟩
   have hb1:Below w.heap.size w w1:=by
    rcases hw1 with rfl | ⟨t,rfl⟩
    ·exact Below.refl _ _
    ·exact Lib.bytesWorld_below _ _ _
   have HL1:=fin w1 hb1
   clear hw1 fin
   go_wp2_with fail
   refine (aI _ _ _ _).mono ?_
   rintro e w' ⟨rfl,rfl⟩
   rw [hr]
   go_wp2_with fail
   refine (HI.out _ HL1.out.tab).mono ?_
   rintro e w2 ⟨rfl,hb2⟩
   have HB:=Lib.hid (ar hb1 hb2)
   clear hb1 hb2 HL1
   cases bb
   ·go_wp2_with fail
    go_ret2
    exact ⟨by rw [HZ.out.2.2 (by first | trivial | rfl)]; rfl,HB.out⟩
   ·go_wp2_with fail
    go_ret2
    exact ⟨by rw [HZ.out.2.1 (by first | trivial | rfl)]; rfl,HB.out⟩
  ·have HZ:Hid (ce (bl s)=none):=by
    cases hq:ce (bl s) with
    | none=>rfl
    | some n =>
     exfalso
     have h2:=hv n hq; subst h2
     obtain ⟨h3,_⟩:=gy hq
     exact hr (gI.2 ⟨h3.1,h3.2⟩)
   have hr' : bI v (-999999) 999999=false:=by simpa using hr
   clear hv hr
   go_enter Tryz.func96,Tryz.ntmps96
   go_wp2_with fail
   refine HA.out.mono ?_
   rintro e w1 ⟨rfl,hw1⟩
   have hb1:Below w.heap.size w w1:=by
    rcases hw1 with rfl | ⟨t,rfl⟩
    ·exact Below.refl _ _
    ·exact Lib.bytesWorld_below _ _ _
   clear hw1
   go_wp2_with fail
   refine (aI _ _ _ _).mono ?_
   rintro e w' ⟨rfl,rfl⟩
   rw [hr']
   go_wp2_with fail
   go_ret2
   exact ⟨by rw [HZ.out]; rfl,hb1⟩
 ·skip
  have HZ:Hid (ce (bl s)=none):=by
   cases hq:ce (bl s) with
   | none=>rfl
   | some n=>exfalso; have h1:=mf hq; rw [show Lib.atoiAll (bl s)=_ from ha] at h1; cases h1
  obtain ⟨ev,he1,he2⟩:=hL.syn
  have HA:=Lib.hid (Tryz.strconv_Atoi_syntax s (by omega) ha ev w he1 he2)
  clear he1 he2
  go_enter Tryz.func96,Tryz.ntmps96
  go_wp2_with fail
  refine HA.out.mono ?_
  rintro e w1 ⟨N,rfl,_,_,hb1⟩
  go_wp2_with fail
  go_ret2
  exact ⟨by rw [HZ.out]; rfl,hb1⟩
 ·skip
  have HZ:Hid (ce (bl s)=none):=by
   cases hq:ce (bl s) with
   | none=>rfl
   | some n=>exfalso; have h1:=mf hq; rw [show Lib.atoiAll (bl s)=_ from ha] at h1; cases h1
  obtain ⟨ev,he1,he2⟩:=hL.rng
  have HA:=Lib.hid (Tryz.strconv_Atoi_range s (by omega) ha ev w he1 he2)
  clear he1 he2
  go_enter Tryz.func96,Tryz.ntmps96
  go_wp2_with fail
  refine HA.out.mono ?_
  rintro e w1 ⟨N,rfl,_,_,hb1⟩
  go_wp2_with fail
  go_ret2
  exact ⟨by rw [HZ.out]; rfl,hb1⟩
theorem mg (b:UInt8):∀ (fuel:Nat) (l:List UInt8),l.length < fuel→Lib.splitK [b] 0 (Lib.countFrom [b] fuel l) l=aG b l∧(aG b l).length=Lib.countFrom [b] fuel l+1
 | 0,l,h=>absurd h (by omega)
 | fuel+1,l,h=>by
  rcases ia l b with ⟨h1,h2⟩ | ⟨h1,h2⟩
  ·have hc:Lib.countFrom [b] (fuel+1) l=0:=by unfold Lib.countFrom; rw [h2]; rfl
   rw [hc,jq h1]; exact ⟨rfl,rfl⟩
  ·have hp:=df h1
   have hl:=congrArg List.length hp
   simp only [List.length_append,List.length_cons,List.length_drop] at hl
   obtain ⟨r,hr⟩ : ∃ r,l.drop ((dt b l).length+1)=r:=⟨_,rfl⟩
   have hrl:r.length < fuel:=by rw [← hr,List.length_drop]; omega
   obtain ⟨i1,i2⟩:=mg b fuel r hrl
   have hne : ¬ ((((dt b l).length:Nat):Int) == -1)=true:=fun e=>by have:=beq_iff_eq.1 e; omega
   have hc:Lib.countFrom [b] (fuel+1) l=Lib.countFrom [b] fuel r+1:=by
    rw [Lib.countFrom,h2,if_neg hne,Int.toNat_natCast,show ([b] : List UInt8).length=1 from rfl,hr]; omega
   have hs:aG b l=dt b l :: aG b r:=by
    rw [← hr]
    have:=mI (r:=l.drop ((dt b l).length+1)) (fH b l)
    rw [← hp] at this; exact this
   rw [hc,hs]
   refine ⟨?_,by rw [List.length_cons,i2]⟩
   rw [Lib.splitK,h2,if_neg hne,Int.toNat_natCast,show ([b] : List UInt8).length=1 from rfl,hr,i1,Nat.add_zero,lB]
theorem nG (s:ByteArray) (b:UInt8):((Lib.splitB ⟨#[b]⟩ 0 (Lib.countB s ⟨#[b]⟩) s).map Value.string)=dC (aG b (bl s))∧Lib.countB s ⟨#[b]⟩+1=(aG b (bl s)).length:=by
 have h1:=Lib.splitB_data ⟨#[b]⟩ 0 (Lib.countB s ⟨#[b]⟩) s
 have h2:Lib.countB s ⟨#[b]⟩=Lib.countFrom [b] ((bl s).length+1) (bl s):=by
  rfl
 obtain ⟨h3,h4⟩:=mg b ((bl s).length+1) (bl s) (by omega)
 refine ⟨?_,by rw [h2,h4]⟩
 have h5:(Lib.splitB ⟨#[b]⟩ 0 (Lib.countB s ⟨#[b]⟩) s).map bl=aG b (bl s):=by
  rw [← h3,← h2]; exact h1
 rw [← h5,dC,List.map_map]
 exact List.map_congr_left fun x _=>congrArg Value.string (dd rfl)
theorem ro (s:ByteArray) (b:UInt8) (w:World) (hs:s.size≤1000000000) (hL:LW w) :
  Calls Tryz.prog 59 #[sQ s,sQ ⟨#[b]⟩] w fun e w'=>e=.returned (F (some ⟨w.heap.size,0,none⟩) (aG b (bl s)).length (aG b (bl s)).length)∧ai w' w.heap.size 9 (dC (aG b (bl s)))∧Below w.heap.size w w':=by
 obtain ⟨m,hm⟩:=hL.ml
 obtain ⟨h1,h2⟩:=nG s b
 refine (Tryz.strings_Split s ⟨#[b]⟩ m w (by omega) hm (Nat.le_refl 1)).mono ?_
 rintro e w' ⟨rfl,rfl⟩
 rw [h1,h2]
 have:=ai.new w 9 (dC (aG b (bl s))).toArray
 exact ⟨rfl,by simpa using this,(Below.refl w.heap.size w).alloc (Nat.le_refl _) _⟩
end Go.Proofs.YtoeoimhemojdeaaGreatDoor
