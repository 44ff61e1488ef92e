/- Rl02: the texts OffSpec4 OffImpl1 OffImpl2 OffImpl3 OffImpl4 OffIn Own Cat Splice QTray, joined into one file. -/
import Derived.Deep.RegionHeld3
import Derived.OwnWalk
import Derived.Maps.AppendAt
import Derived.Lib.Overlaps
import Derived.Lib.SliceRun
import Derived.Laws.IdiomCopy
import Derived.Deep.RegionLaw
import Derived.Laws.Externs
import Derived.Lib.AppendZerosOnto
import Derived.StillTailTactics
import Derived.Test.YtoeoimhemojdeaaGreatDoorRl01

set_option linter.unusedVariables false
open Go.Value renaming int → O, slice → F, string → sQ
open Go.IntKind renaming i64 → U

namespace Go.Proofs.YtoeoimhemojdeaaGreatDoor
open Go.RowKit
theorem jr (n:Int) (w:World):Calls Tryz.prog 132 #[O U n] w fun e w'=>e=.returned (.bool (bI n 0 99999))∧w=w':=by
 go_enter Tryz.func132,Tryz.ntmps132
 go_wp2_with fail
 refine (aE n 0 99999 _).mono ?_
 rintro e w' ⟨rfl,rfl⟩
 go_wp2
 go_ret
 exact ⟨rfl,rfl⟩
set_option maxHeartbeats 1000000 in
theorem iH (x:aM) (w:World) (h:aQ w w.heap.size x) (tl:x.t.length≤8) (ol:x.o.length≤8) (ht:∀ i (hi:i < x.t.length),x.t[i].ok=true) (ho:∀ i (hi:i < x.o.length),x.o[i].ok x.t=true) :
  Calls Tryz.prog 133 #[x.val] w fun e w'=>e=.returned (.tuple #[O U (bW x.t),O U (aS ci x.o)])∧Below w.heap.size w w':=by
 have HT:=Lib.hid ht; clear ht
 have HO:=Lib.hid ho; clear ho
 have HF:Hid (fj 0 (x.t.drop 0)=bW x.t):=rfl
 have HG:Hid (bj ci 0 (x.o.drop 0)=aS ci x.o):=rfl
 go_enter Tryz.func133,Tryz.ntmps133
 go_wp2
 have hb0:=(Below.refl w.heap.size w).alloc (Nat.le_refl _) (.cells #[F x.TA x.t.length x.tc,F x.OA x.o.length x.oc,O U x.got,O U x.sold,O U x.missed] 40)
 have hS:=lM.of (x:=x) (ai.new w 40 #[F x.TA x.t.length x.tc,F x.OA x.o.length x.oc,O U x.got,O U x.sold,O U x.missed])
 have hR:=h.up hb0 (Nat.le_refl _)
 generalize w.alloc (.cells #[F x.TA x.t.length x.tc,F x.OA x.o.length x.oc,O U x.got,O U x.sold,O U x.missed] 40)=W at hb0 hS hR ⊢
 obtain ⟨s0,s1,s2,s3,s4⟩:=hS
 have hrt:=hR.ts.el
 have hro:=hR.os.el
 go_loopw [4,6] (fun s i wr=>∃ (k:Nat) (t:Int),k≤x.t.length∧i=O U k∧s=O U t∧(0≤t∧t≤9999 * (k:Int))∧(∃ q:ao W.heap.size W,wr=q.val)∧Hid (fj t (x.t.drop k)=bW x.t)) (fun _ i _=>x.t.length - (intOf i).toNat)
 case atStart=>exact ⟨0,0,Nat.zero_le _,rfl,rfl,by omega,⟨ao.start _ _,rfl⟩,HF⟩
 case round =>
  obtain ⟨k,t,hk,rfl,rfl,⟨t0,t1⟩,⟨q,rfl⟩,HR⟩:=hrel
  by_cases hlt:k < x.t.length
  ·obtain ⟨b,off,hA,hb,hcell⟩:=hrt (by omega)
   obtain ⟨e0,e1⟩:=hcell k hlt
   obtain ⟨_,x1,x2⟩:=aq.bounds (HT.out k hlt)
   have HS:=Lib.hid (qd hlt t)
   obtain ⟨r,hre⟩ : ∃ r,r=x.t[k]:=⟨_,rfl⟩
   rw [← hre] at e0 e1 HS x1 x2
   simp only [hA] at s0
   clear hre hcell hrt hro hA
   go_wp2
   go_roundw
   case rel=>exact ⟨k+1,t+r.c,by omega,by go_num,rfl,by omega,⟨q,rfl⟩,by have h1:=HR.out; rw [HS.out] at h1; exact h1⟩
   case measure=>simp [intOf]; omega
  ·have HE:Hid (t=bW x.t):=by
    have h1:=HR.out; rw [List.drop_eq_nil_of_le (by omega)] at h1; exact h1
   clear hrt
   go_wp2
   go_loopw [5,7] (fun s i wr=>∃ (k:Nat) (u:Int),k≤x.o.length∧i=O U k∧s=O U u∧(0≤u∧u≤9999 * (k:Int))∧(∃ q:ao W.heap.size W,wr=q.val)∧Hid (bj ci u (x.o.drop k)=aS ci x.o)) (fun _ i _=>x.o.length - (intOf i).toNat)
   case atStart=>exact ⟨0,0,Nat.zero_le _,rfl,rfl,by omega,⟨q,rfl⟩,HG⟩
   case round =>
    obtain ⟨j,u,hj,rfl,rfl,⟨u0,u1⟩,⟨p,rfl⟩,HU⟩:=hrel
    by_cases hlj:j < x.o.length
    ·obtain ⟨b,off,hA,hb,hcell⟩:=hro (by omega)
     obtain ⟨e0,e1,e2⟩:=hcell j hlj
     obtain ⟨_,_,x1,x2⟩:=ae.bounds (HO.out j hlj)
     have HS:Hid (bj ci u (x.o.drop j)=bj ci (u+x.o[j].c) (x.o.drop (j+1))):=jE (f:=ci) hlj u
     obtain ⟨r,hre⟩ : ∃ r,r=x.o[j]:=⟨_,rfl⟩
     rw [← hre] at e0 e1 e2 HS x1 x2
     simp only [hA] at s1
     clear hre hcell hro hA
     go_wp2
     go_roundw
     case rel=>exact ⟨j+1,u+r.c,by omega,by go_num,rfl,by omega,⟨p,rfl⟩,by have h1:=HU.out; rw [HS.out] at h1; exact h1⟩
     case measure=>simp [intOf]; omega
    ·have HE2:Hid (u=aS ci x.o):=by
      have h1:=HU.out; rw [List.drop_eq_nil_of_le (by omega)] at h1; exact h1
     clear hro
     go_wp2
     go_ret2
     exact ⟨by rw [← HE.out,← HE2.out]; rfl,hb0.trans (p.below.mono hb0.size)⟩
set_option maxHeartbeats 2000000 in
theorem dp (x:aM) (w:World) (h:aQ w w.heap.size x) :
  Calls Tryz.prog 82 #[x.val] w fun e w'=>e=.returned (.bool (am x))∧Below w.heap.size w w':=by
 have hb0:=(Below.refl w.heap.size w).alloc (Nat.le_refl _) (.cells #[F x.TA x.t.length x.tc,F x.OA x.o.length x.oc,O U x.got,O U x.sold,O U x.missed] 40)
 have hS:=lM.of (x:=x) (ai.new w 40 #[F x.TA x.t.length x.tc,F x.OA x.o.length x.oc,O U x.got,O U x.sold,O U x.missed])
 have hR:=h.up hb0 (Nat.le_refl _)
 have HG:Hid (am x=((ef x.t && decide (x.t.length≤8)) && (dV x.t x.o && decide (x.o.length≤8)) && bI x.got 0 99999 && bI x.sold 0 99999 && bI x.missed 0 99999 && jF x)):=by
  unfold Hid am eh gJ
  generalize ef x.t=a1; generalize dV x.t x.o=a2; generalize decide (x.t.length≤8)=a3; generalize decide (x.o.length≤8)=a4; generalize bI x.got 0 99999=a5; generalize bI x.sold 0 99999=a6; generalize bI x.missed 0 99999=a7; generalize jF x=a8
  cases a1 <;> cases a2 <;> cases a3 <;> cases a4 <;> cases a5 <;> cases a6 <;> cases a7 <;> rfl
 obtain ⟨v1,hv1⟩ : ∃ v,(ef x.t && decide (x.t.length≤8))=v:=⟨_,rfl⟩
 obtain ⟨v2,hv2⟩ : ∃ v,(dV x.t x.o && decide (x.o.length≤8))=v:=⟨_,rfl⟩
 obtain ⟨v3,hv3⟩ : ∃ v,bI x.got 0 99999=v:=⟨_,rfl⟩
 obtain ⟨v4,hv4⟩ : ∃ v,bI x.sold 0 99999=v:=⟨_,rfl⟩
 obtain ⟨v5,hv5⟩ : ∃ v,bI x.missed 0 99999=v:=⟨_,rfl⟩
 rw [hv1,hv2,hv3,hv4,hv5] at HG
 have cT:∀ W,aQ W W.heap.size x→Calls Tryz.prog 130 #[x.val] W fun e w'=>e=.returned (.bool v1)∧Below W.heap.size W w':=fun W hW=>by rw [← hv1]; exact nd x W hW
 have c3:=fun W=>jr x.got W
 have c4:=fun W=>jr x.sold W
 have c5:=fun W=>jr x.missed W
 rw [hv3] at c3
 rw [hv4] at c4
 rw [hv5] at c5
 have HV1:=Lib.hid hv1; clear hv1
 have HV2:=Lib.hid hv2; clear hv2
 have HV3:=Lib.hid hv3; clear hv3
 have HV4:=Lib.hid hv4; clear hv4
 have HV5:=Lib.hid hv5; clear hv5
 cases v1
 ·go_enter Tryz.func82,Tryz.ntmps82
  go_wp2_with fail
  generalize w.alloc (.cells #[F x.TA x.t.length x.tc,F x.OA x.o.length x.oc,O U x.got,O U x.sold,O U x.missed] 40)=W at hb0 hS hR ⊢
  refine (aU (cT W hR)).mono ?_
  rintro e w1 ⟨rfl,q1,rfl⟩
  go_wp2
  go_ret
  exact ⟨by rw [HG.out]; rfl,hb0.trans (q1.below.mono hb0.size)⟩
 ·have h1:=HV1.out
  rw [Bool.and_eq_true] at h1
  have tl:x.t.length≤8:=of_decide_eq_true h1.2
  have HALL:=Lib.hid (fq _ _ _ h1.1)
  have cO:∀ W,aQ W W.heap.size x→Calls Tryz.prog 131 #[x.val] W fun e w'=>e=.returned (.bool v2)∧Below W.heap.size W w':=fun W hW=>by rw [← HV2.out]; exact nV x W hW HALL.out
  clear h1
  cases v2
  ·go_enter Tryz.func82,Tryz.ntmps82
   go_wp2_with fail
   generalize w.alloc (.cells #[F x.TA x.t.length x.tc,F x.OA x.o.length x.oc,O U x.got,O U x.sold,O U x.missed] 40)=W at hb0 hS hR ⊢
   obtain ⟨s0,s1,s2,s3,s4⟩:=hS
   refine (aU (cT W hR)).mono ?_
   rintro e w1 ⟨rfl,q1,rfl⟩
   go_wp2_with fail
   refine (aK (Nat.le_refl _) (cO _ (hR.at q1))).mono ?_
   rintro e w2 ⟨rfl,q2,rfl⟩
   go_wp2
   go_ret
   exact ⟨by rw [HG.out]; rfl,hb0.trans (q2.below.mono hb0.size)⟩
  ·have h2:=HV2.out
   rw [Bool.and_eq_true] at h2
   have ol:x.o.length≤8:=of_decide_eq_true h2.2
   have HOLL:=Lib.hid (eZ _ _ _ h2.1)
   have cM:=fun W hW=>iH x W hW tl ol HALL.out HOLL.out
   have hi:=iV x.t 0 HALL.out
   have hj:=eI ci x.t x.o 0 HOLL.out
   have HSM:Hid (jF x=decide (x.got=bW x.t+aS ci x.o+x.sold+x.missed)):=rfl
   change 0≤bW x.t∧bW x.t≤_ at hi
   change 0≤aS ci x.o∧aS ci x.o≤_ at hj
   generalize bW x.t=I at cM hi HSM
   generalize aS ci x.o=J at cM hj HSM
   obtain ⟨i1,i2⟩:=hi
   obtain ⟨j1,j2⟩:=hj
   clear h2
   by_cases hall3:(v3 && v4 && v5)=true
   ·rw [Bool.and_eq_true,Bool.and_eq_true] at hall3
    obtain ⟨⟨rfl,rfl⟩,rfl⟩:=hall3
    obtain ⟨g1,g2⟩:=bH.1 HV3.out
    obtain ⟨g3,g4⟩:=bH.1 HV4.out
    obtain ⟨g5,g6⟩:=bH.1 HV5.out
    obtain ⟨z,hz⟩ : ∃ z,decide (x.got=I+J+x.sold+x.missed)=z:=⟨_,rfl⟩
    have hzz:(x.got == I+J+x.sold+x.missed)=z:=by rw [← hz,Bool.eq_iff_iff]; simp
    have HZ:=Lib.hid hz; clear hz
    cases z
    all_goals
     go_enter Tryz.func82,Tryz.ntmps82
     go_wp2_with fail
     generalize w.alloc (.cells #[F x.TA x.t.length x.tc,F x.OA x.o.length x.oc,O U x.got,O U x.sold,O U x.missed] 40)=W at hb0 hS hR ⊢
     obtain ⟨s0,s1,s2,s3,s4⟩:=hS
     refine (aU (cT W hR)).mono ?_
     rintro e w1 ⟨rfl,q1,rfl⟩
     go_wp2_with fail
     refine (aK (Nat.le_refl _) (cO _ (hR.at q1))).mono ?_
     rintro e w2 ⟨rfl,q2,rfl⟩
     go_wp2_with fail
     refine (c3 _).mono ?_
     rintro e w3 ⟨rfl,rfl⟩
     go_wp2_with fail
     refine (c4 _).mono ?_
     rintro e w3 ⟨rfl,rfl⟩
     go_wp2_with fail
     refine (c5 _).mono ?_
     rintro e w3 ⟨rfl,rfl⟩
     go_wp2_with fail
     refine (aK (Nat.le_refl _) (cM _ (hR.at q2))).mono ?_
     rintro e w4 ⟨rfl,q4,rfl⟩
     go_wp2
     go_ret
     exact ⟨by rw [HG.out,HSM.out,HZ.out]; rfl,hb0.trans (q4.below.mono hb0.size)⟩
   ·have HGF:Hid (am x=false):=by
     unfold Hid; rw [HG.out]
     cases v3 <;> cases v4 <;> cases v5 <;> first | rfl | exact absurd rfl hall3
    cases v3
    all_goals (try cases v4)
    all_goals (try cases v5)
    all_goals first
     | exact absurd rfl hall3
     | skip
    all_goals
     clear hall3
     go_enter Tryz.func82,Tryz.ntmps82
     go_wp2_with fail
     generalize w.alloc (.cells #[F x.TA x.t.length x.tc,F x.OA x.o.length x.oc,O U x.got,O U x.sold,O U x.missed] 40)=W at hb0 hS hR ⊢
     obtain ⟨s0,s1,s2,s3,s4⟩:=hS
     refine (aU (cT W hR)).mono ?_
     rintro e w1 ⟨rfl,q1,rfl⟩
     go_wp2_with fail
     refine (aK (Nat.le_refl _) (cO _ (hR.at q1))).mono ?_
     rintro e w2 ⟨rfl,q2,rfl⟩
     go_wp2_with fail
     refine (c3 _).mono ?_
     rintro e w3 ⟨rfl,rfl⟩
     go_wp2_with (first | (go_at_call 132; with_reducible refine (c4 _).mono ?_; rintro e w4 ⟨rfl,rfl⟩) | (go_at_call 132; with_reducible refine (c5 _).mono ?_; rintro e w4 ⟨rfl,rfl⟩))
     go_ret
     exact ⟨by rw [HGF.out]; rfl,hb0.trans (q2.below.mono hb0.size)⟩
structure bT (w:World) (B g:Nat) (x:aM):Prop where
 s:lM B w g x
 lt:g < B
 r:aQ w B x
theorem bT.of {w:World} {g:Nat} {t:TypeId} {x:aM} (h:ai w g t x.enc) (hr:aQ w w.heap.size x):bT w w.heap.size g x:=⟨lM.of h,h.lt,hr⟩
theorem bT.then {w w' : World} {B g:Nat} {x:aM} (h:bT w B g x) (hb:Below B w w') {B' : Nat} (hB:B≤B'):bT w' B' g x :=
 ⟨⟨fun p=>h.s.c0 ⟨p.val,hb.trans (p.below.mono hB)⟩,fun p=>h.s.c1 ⟨p.val,hb.trans (p.below.mono hB)⟩,fun p=>h.s.c2 ⟨p.val,hb.trans (p.below.mono hB)⟩,fun p=>h.s.c3 ⟨p.val,hb.trans (p.below.mono hB)⟩,fun p=>h.s.c4 ⟨p.val,hb.trans (p.below.mono hB)⟩⟩,Nat.lt_of_lt_of_le h.lt hB,(h.r.below hb).mono hB⟩
theorem bT.at {w:World} {g:Nat} {x:aM} (h:bT w w.heap.size g x) (q:ao w.heap.size w):bT q.val q.val.heap.size g x:=h.then q.below q.size
theorem nf (f:aq→Bool) (g:Nat) (lb:Array Value) (eg:∀ args w,(callFunc g args).run Tryz.prog w=.ok (.enter g args) w) (A:Option Addr) (c:Nat) (l:List aq) (w:World)
  (hf:∀ (t:aq) (p:ao w.heap.size w),Calls Tryz.prog g (#[t.val]++lb) p.val fun e w'=>e=.returned (.bool (f t))∧Below p.val.heap.size p.val w') (h:eX w w.heap.size A l) :
  Calls Tryz.prog 164 #[F A l.length c,.func (.func g) #[] lb] w fun e w'=>e=.returned (O U (bg f 0 l))∧Below w.heap.size w w':=by
 have hl:=h.big
 have hrd:=h.el
 have HF:Hid (bg f 0 (l.drop 0)=bg f 0 l):=rfl
 have HC:=Lib.hid hf; clear hf
 go_enter Tryz.func164,Tryz.ntmps164
 go_wp2
 go_loopw [8] (fun i wr=>∃ (k:Nat),k≤l.length∧i=O U k∧(∃ q:ao w.heap.size w,wr=q.val)∧Hid (bg f k (l.drop k)=bg f 0 l)) (fun i _=>l.length - (intOf i).toNat)
 case atStart=>exact ⟨0,Nat.zero_le _,rfl,⟨ao.start _ _,rfl⟩,HF⟩
 case round =>
  obtain ⟨k,hk,rfl,⟨q,rfl⟩,HR⟩:=hrel
  by_cases hlt:k < l.length
  ·obtain ⟨b,off,rfl,hb,hcell⟩:=hrd (by omega)
   obtain ⟨c0,c1⟩:=hcell k hlt
   have hy:=fun hv=>qc (f:=f) hlt hv
   have hn:=fun hv=>rC (f:=f) hlt hv
   obtain ⟨x,hxe⟩ : ∃ x,x=l[k]:=⟨_,rfl⟩
   rw [← hxe] at c0 c1 hy hn
   clear hxe hcell hrd
   cases hv:f x
   ·have HE:Hid (bg f (k+1) (l.drop (k+1))=bg f 0 l):=by rw [← hn hv]; exact HR.out
    have hcx:=fun p=>HC.out x p
    rw [hv] at hcx
    clear hy hn hv
    go_wp2_with fail
    refine (aK (Nat.le_refl _) (hcx _)).mono ?_
    rintro e w1 ⟨rfl,q1,rfl⟩
    go_wp2
    go_roundw
    case rel=>exact ⟨k+1,by omega,by go_num,⟨q1,rfl⟩,HE⟩
    case measure=>simp [intOf]; omega
   ·have HE:Hid ((k:Int)=bg f 0 l):=by rw [← hy hv]; exact HR.out
    have hcx:=fun p=>HC.out x p
    rw [hv] at hcx
    clear hy hn hv
    go_wp2_with fail
    refine (aK (Nat.le_refl _) (hcx _)).mono ?_
    rintro e w1 ⟨rfl,q1,rfl⟩
    go_wp2
    go_ret
    exact ⟨by rw [← HE.out]; rfl,q1.below⟩
  ·have HE:Hid (-1=bg f 0 l):=by
    have h1:=HR.out; rw [List.drop_eq_nil_of_le (by omega)] at h1; exact h1
   clear hrd
   go_wp2
   go_ret
   exact ⟨by rw [← HE.out]; rfl,q.below⟩
theorem pj (t:aq) (gk:Nat) (kd:Int) (w:World) (hk:gk < w.heap.size) (hc:w.cell? ⟨gk,0,none⟩=some (O U kd)) :
  Calls Tryz.prog 165 #[t.val,.pointer (some ⟨gk,0,none⟩)] w fun e w'=>e=.returned (.bool (decide (t.k=kd)))∧Below w.heap.size w w':=by
 have hc' : (w.alloc (.cells #[O U t.k,O U t.c] 104)).cell? ⟨gk,0,none⟩=some (O U kd):=((Below.refl w.heap.size w).alloc (Nat.le_refl _) _).cell hk |>.trans hc
 by_cases hz:t.k=kd
 all_goals
  obtain ⟨v,hv⟩ : ∃ v,(t.k == kd)=v:=⟨_,rfl⟩
  have HV:Hid (decide (t.k=kd)=v):=by rw [← hv]; unfold Hid; rw [Bool.eq_iff_iff]; simp
  clear hz
  go_enter Tryz.func165,Tryz.ntmps165
  go_wp2
  go_ret
  exact ⟨by rw [HV.out]; rfl,(Below.refl _ _).alloc (Nat.le_refl _) _⟩
theorem ba (x:aM) (g:Nat) (kd:Int) (w:World) (h:bT w w.heap.size g x) :
  Calls Tryz.prog 116 #[.pointer (some ⟨g,0,none⟩),O U kd] w fun e w'=>e=.returned (O U (av x.t kd))∧Below w.heap.size w w':=by
 have hmf:∀ (fn:Fn) (first cap:Array Value) (w:World),(Instr.makeFunc fn first cap).run Tryz.prog w=.ok (.func fn first cap) w:=fun _ _ _ _=>rfl
 have b1:=(Below.refl w.heap.size w).alloc (Nat.le_refl _) (.cells #[O U kd] 3)
 have hL:=ai.new w 3 #[O U kd]
 have hA:=h.then (B':=(w.alloc (.cells #[O U kd] 3)).heap.size) b1 b1.size
 have c0:(w.alloc (.cells #[O U kd] 3)).cell? ⟨g,0,none⟩=some (F x.TA x.t.length x.tc):=hA.s.c0 (ao.start _ _)
 have HI:Hid (bg (fun t:aq=>decide (t.k=kd)) 0 x.t=av x.t kd):=rfl
 go_enter Tryz.func116,Tryz.ntmps116
 go_wp2_with fail
 clear c0
 generalize w.alloc (.cells #[O U kd] 3)=W at b1 hL hA ⊢
 refine (nf (fun t:aq=>decide (t.k=kd)) 165 #[.pointer (some ⟨w.heap.size,0,none⟩)] Tryz.call165 _ _ _ _ (fun t p=>pj t w.heap.size kd _ (Nat.lt_of_lt_of_le hL.lt p.size) ((p.cell hL.lt).trans (hL.cell 0))) hA.r.ts).mono ?_
 rintro e w1 ⟨rfl,hb1⟩
 rw [HI.out]
 go_wp2
 go_ret
 exact ⟨rfl,ar b1 hb1⟩
theorem bB (n:Int) (w:World):Calls Tryz.prog 117 #[O U n] w fun e w'=>e=.returned (.bool (bI n 1 999))∧w=w':=by
 go_enter Tryz.func117,Tryz.ntmps117
 go_wp2_with fail
 refine (aI n 1 999 _).mono ?_
 rintro e w' ⟨rfl,rfl⟩
 go_wp2
 go_ret
 exact ⟨rfl,rfl⟩
set_option maxHeartbeats 1000000 in
theorem ik (x:aM) (g:Nat) (w:World) (h:bT w w.heap.size g x) (tl:x.t.length≤8) (ht:∀ i (hi:i < x.t.length),x.t[i].ok=true) :
  Calls Tryz.prog 119 #[.pointer (some ⟨g,0,none⟩)] w fun e w'=>e=.returned (O U (bW x.t))∧Below w.heap.size w w':=by
 have HT:=Lib.hid ht; clear ht
 have HF:Hid (fj 0 (x.t.drop 0)=bW x.t):=rfl
 have s0:w.cell? ⟨g,0,none⟩=some (F x.TA x.t.length x.tc):=h.s.c0 (ao.start _ _)
 have hrt:=h.r.ts.el
 go_enter Tryz.func119,Tryz.ntmps119
 go_wp2
 clear s0
 go_loopw [3,11] (fun s i wr=>∃ (k:Nat) (t:Int),k≤x.t.length∧i=O U k∧s=O U t∧(0≤t∧t≤9999 * (k:Int))∧(∃ q:ao w.heap.size w,wr=q.val)∧Hid (fj t (x.t.drop k)=bW x.t)) (fun _ i _=>x.t.length - (intOf i).toNat)
 case atStart=>exact ⟨0,0,Nat.zero_le _,rfl,rfl,by omega,⟨ao.start _ _,rfl⟩,HF⟩
 case round =>
  obtain ⟨k,t,hk,rfl,rfl,⟨t0,t1⟩,⟨q,rfl⟩,HR⟩:=hrel
  by_cases hlt:k < x.t.length
  ·obtain ⟨b,off,hA,hb,hcell⟩:=hrt (by omega)
   obtain ⟨e0,e1⟩:=hcell k hlt
   obtain ⟨_,x1,x2⟩:=aq.bounds (HT.out k hlt)
   have HS:=Lib.hid (qd hlt t)
   obtain ⟨r,hre⟩ : ∃ r,r=x.t[k]:=⟨_,rfl⟩
   rw [← hre] at e0 e1 HS x1 x2
   clear hre hcell hrt
   go_wp2
   go_roundw
   case rel=>exact ⟨k+1,t+r.c,by omega,by go_num,rfl,by omega,⟨⟨_,q.below.alloc q.size _⟩,rfl⟩,by have h1:=HR.out; rw [HS.out] at h1; exact h1⟩
   case measure=>simp [intOf]; omega
  ·have HE:Hid (t=bW x.t):=by
    have h1:=HR.out; rw [List.drop_eq_nil_of_le (by omega)] at h1; exact h1
   clear hrt
   go_wp2
   go_ret
   exact ⟨by rw [← HE.out]; rfl,q.below⟩
set_option maxHeartbeats 1000000 in
theorem eB (f:ae→Bool) (kf:Nat) (lb:Array Value) (eg:∀ args w,(callFunc kf args).run Tryz.prog w=.ok (.enter kf args) w) (x:aM) (g:Nat) (w:World)
  (hf:∀ (o:ae) (p:ao w.heap.size w),Calls Tryz.prog kf (#[o.val]++lb) p.val fun e w'=>e=.returned (.bool (f o))∧Below p.val.heap.size p.val w')
  (h:bT w w.heap.size g x) (ol:x.o.length≤8) (ho:∀ i (hi:i < x.o.length),x.o[i].ok x.t=true) :
  Calls Tryz.prog 120 #[.pointer (some ⟨g,0,none⟩),.func (.func kf) #[] lb] w fun e w'=>e=.returned (O U (aS f x.o))∧Below w.heap.size w w':=by
 have HO:=Lib.hid ho; clear ho
 have HC:=Lib.hid hf; clear hf
 have HF:Hid (bj f 0 (x.o.drop 0)=aS f x.o):=rfl
 have s1:w.cell? ⟨g,1,none⟩=some (F x.OA x.o.length x.oc):=h.s.c1 (ao.start _ _)
 have hro:=h.r.os.el
 generalize x.OA=OA at s1 hro
 go_enter Tryz.func120,Tryz.ntmps120
 go_wp2
 clear s1
 go_loopw [5,13] (fun s i wr=>∃ (k:Nat) (t:Int),k≤x.o.length∧i=O U k∧s=O U t∧(0≤t∧t≤9999 * (k:Int))∧(∃ q:ao w.heap.size w,wr=q.val)∧Hid (bj f t (x.o.drop k)=aS f x.o)) (fun _ i _=>x.o.length - (intOf i).toNat)
 case atStart=>exact ⟨0,0,Nat.zero_le _,rfl,rfl,by omega,⟨ao.start _ _,rfl⟩,HF⟩
 case round =>
  obtain ⟨k,t,hk,rfl,rfl,⟨t0,t1⟩,⟨q,rfl⟩,HR⟩:=hrel
  by_cases hlt:k < x.o.length
  ·obtain ⟨b,off,rfl,hb,hcell⟩:=hro (by omega)
   obtain ⟨e0,e1,e2⟩:=hcell k hlt
   obtain ⟨_,_,x1,x2⟩:=ae.bounds (HO.out k hlt)
   have HS:=Lib.hid (jE (f:=f) hlt t)
   obtain ⟨r,hre⟩ : ∃ r,r=x.o[k]:=⟨_,rfl⟩
   rw [← hre] at e0 e1 e2 HS x1 x2
   clear hre hcell hro
   have hbV:=q.below.alloc q.size (.cells #[O U r.k,O U r.p,O U r.c] 147)
   have hlV:=ai.new q.val 147 #[O U r.k,O U r.p,O U r.c]
   have hcx:=fun p=>HC.out r p
   cases hv:f r
   all_goals
    rw [hv] at hcx HS
    clear hv
    go_wp2_with fail
    generalize q.val.alloc (.cells #[O U r.k,O U r.p,O U r.c] 147)=V at hbV hlV ⊢
    refine (hcx ⟨V,hbV⟩).mono ?_
    rintro e w1 ⟨rfl,hb1⟩
    have d2:=(hlV.below hb1 hlV.lt).cell 2
    simp only [List.getElem?_cons_zero,List.getElem?_cons_succ] at d2
    go_wp2
   ·go_roundw
    case rel=>exact ⟨k+1,t,by omega,by go_num,rfl,by omega,⟨⟨w1,hbV.trans (hb1.mono hbV.size)⟩,rfl⟩,by have h1:=HR.out; rw [HS.out] at h1; exact h1⟩
    case measure=>simp [intOf]; omega
   ·go_roundw
    case rel=>exact ⟨k+1,t+r.c,by omega,by go_num,rfl,by omega,⟨⟨w1,hbV.trans (hb1.mono hbV.size)⟩,rfl⟩,by have h1:=HR.out; rw [HS.out] at h1; exact h1⟩
    case measure=>simp [intOf]; omega
  ·have HE:Hid (t=aS f x.o):=by
    have h1:=HR.out; rw [List.drop_eq_nil_of_le (by omega)] at h1; exact h1
   clear hro
   go_wp2
   go_ret
   exact ⟨by rw [← HE.out]; rfl,q.below⟩
theorem pk (o:ae) (w:World):Calls Tryz.prog 121 #[o.val] w fun e w'=>e=.returned (.bool true)∧Below w.heap.size w w':=by
 go_enter Tryz.func121,Tryz.ntmps121
 go_wp2
 go_ret
 exact ⟨rfl,(Below.refl _ _).alloc (Nat.le_refl _) _⟩
def gq (a b:Int):Int:=if a < b then -1 else if b < a then 1 else 0
theorem mL (a:Int) (w:World):Calls Tryz.prog 192 #[O U a] w fun e w'=>e=.returned (.bool false)∧w=w':=by
 have hv:(a != a)=false:=by simp
 go_enter Tryz.func192,Tryz.ntmps192
 go_wp2
 go_ret
 exact ⟨rfl,rfl⟩
theorem iI (a b:Int) (w:World):Calls Tryz.prog 167 #[O U a,O U b] w fun e w'=>e=.returned (O U (gq a b))∧w=w':=by
 have ha:=fun W=>mL a W
 have hb:=fun W=>mL b W
 by_cases h1:a < b
 ·have HE:Hid (gq a b = -1):=by unfold Hid gq; rw [if_pos h1]
  go_enter Tryz.func167,Tryz.ntmps167
  go_wp2_with fail
  refine (ha _).mono ?_
  rintro e w' ⟨rfl,rfl⟩
  go_wp2_with fail
  refine (hb _).mono ?_
  rintro e w' ⟨rfl,rfl⟩
  go_wp2
  go_ret
  exact ⟨by rw [HE.out]; rfl,rfl⟩
 ·by_cases h2:b < a
  ·have HE:Hid (gq a b=1):=by unfold Hid gq; rw [if_neg h1,if_pos h2]
   go_enter Tryz.func167,Tryz.ntmps167
   go_wp2_with fail
   refine (ha _).mono ?_
   rintro e w' ⟨rfl,rfl⟩
   go_wp2_with fail
   refine (hb _).mono ?_
   rintro e w' ⟨rfl,rfl⟩
   go_wp2
   go_ret
   exact ⟨by rw [HE.out]; rfl,rfl⟩
  ·have HE:Hid (gq a b=0):=by unfold Hid gq; rw [if_neg h1,if_neg h2]
   go_enter Tryz.func167,Tryz.ntmps167
   go_wp2_with fail
   refine (ha _).mono ?_
   rintro e w' ⟨rfl,rfl⟩
   go_wp2_with fail
   refine (hb _).mono ?_
   rintro e w' ⟨rfl,rfl⟩
   go_wp2
   go_ret
   exact ⟨by rw [HE.out]; rfl,rfl⟩
def se (a b:Int):Int:=if a=0 then b else a
theorem sf (a b:Int) (g c:Nat) (w:World) (h0:w.cell? ⟨g,0,none⟩=some (O U a)) (h1:w.cell? ⟨g,1,none⟩=some (O U b)) :
  Calls Tryz.prog 166 #[F (some ⟨g,0,none⟩) 2 c] w fun e w'=>e=.returned (O U (se a b))∧w=w':=by
 by_cases ha:a=0
 ·have va:(a != 0)=false:=by simp [ha]
  have HE:Hid (se a b=b):=by unfold Hid se; rw [if_pos ha]
  clear ha
  by_cases hb:b=0
  ·have vb:(b != 0)=false:=by simp [hb]
   have HB:=Lib.hid hb; clear hb
   go_enter Tryz.func166,Tryz.ntmps166
   go_wp2
   refine wp_loop_rounds 3 ?_
   rw [rounds_succ]
   go_wp2
   rw [rounds_succ]
   go_wp2
   rw [rounds_succ]
   go_wp2
   go_ret
   exact ⟨by rw [HE.out,HB.out]; rfl,rfl⟩
  ·have vb:(b != 0)=true:=by simp [hb]
   clear hb
   go_enter Tryz.func166,Tryz.ntmps166
   go_wp2
   refine wp_loop_rounds 2 ?_
   rw [rounds_succ]
   go_wp2
   rw [rounds_succ]
   go_wp2
   go_ret
   exact ⟨by rw [HE.out]; rfl,rfl⟩
 ·have va:(a != 0)=true:=by simp [ha]
  have HE:Hid (se a b=a):=by unfold Hid se; rw [if_neg ha]
  clear ha
  go_enter Tryz.func166,Tryz.ntmps166
  go_wp2
  refine wp_loop_rounds 1 ?_
  rw [rounds_succ]
  go_wp2
  go_ret
  exact ⟨by rw [HE.out]; rfl,rfl⟩
def il (a b:ae):Int:=se (gq a.k b.k) (gq a.p b.p)
theorem kM (a b:ae):decide (0≤il a b) = !(before a b):=by
 unfold il se gq before
 by_cases h1:a.k < b.k
 ·simp [h1]
 ·by_cases h2:b.k < a.k
  ·have h3:a.k ≠ b.k:=by omega
   simp [h1,h2,h3]
  ·have h3:a.k=b.k:=by omega
   by_cases h4:a.p < b.p
   ·simp [h3,h4]
   ·by_cases h5:b.p < a.p
    ·simp [h3,h4,h5]
    ·simp [h3,h4,h5]
set_option maxHeartbeats 1000000 in
theorem fX (a b:ae) (w:World):Calls Tryz.prog 118 #[a.val,b.val] w fun e w'=>e=.returned (O U (il a b))∧Below w.heap.size w w':=by
 have b1:=(Below.refl w.heap.size w).alloc (Nat.le_refl _) (.cells #[O U a.k,O U a.p,O U a.c] 147)
 have b2:=b1.alloc b1.size (.cells #[O U b.k,O U b.p,O U b.c] 147)
 have L1:=(ai.new w 147 #[O U a.k,O U a.p,O U a.c]).alloc (.cells #[O U b.k,O U b.p,O U b.c] 147)
 have L2:=ai.new1 w (.cells #[O U a.k,O U a.p,O U a.c] 147) 147 #[O U b.k,O U b.p,O U b.c]
 clear b1
 obtain ⟨X,hX⟩ : ∃ X,gq a.k b.k=X:=⟨_,rfl⟩
 obtain ⟨Y,hY⟩ : ∃ Y,gq a.p b.p=Y:=⟨_,rfl⟩
 have HO:Hid (il a b=se X Y):=by rw [← hX,← hY]; rfl
 have cX:=fun W=>iI a.k b.k W
 have cY:=fun W=>iI a.p b.p W
 rw [hX] at cX
 rw [hY] at cY
 clear hX hY
 go_enter Tryz.func118,Tryz.ntmps118
 go_wp2
 generalize ((w.alloc (.cells #[O U a.k,O U a.p,O U a.c] 147)).alloc (.cells #[O U b.k,O U b.p,O U b.c] 147))=W at b2 L1 L2 ⊢
 have c0:=L1.cell 0
 have c1:=L1.cell 1
 have d0:=L2.cell 0
 have d1:=L2.cell 1
 simp only [List.getElem?_cons_zero,List.getElem?_cons_succ] at c0 c1 d0 d1
 have HK:∀ W',Below W.heap.size W W'→(Below W.heap.size W W'∧W'.cell? ⟨w.heap.size,0,none⟩=some (O U a.k)∧W'.cell? ⟨w.heap.size,1,none⟩=some (O U a.p)∧W'.cell? ⟨w.heap.size+1,0,none⟩=some (O U b.k)∧W'.cell? ⟨w.heap.size+1,1,none⟩=some (O U b.p)):=fun W' hb =>
  ⟨hb,(hb.cell L1.lt).trans c0,(hb.cell L1.lt).trans c1,(hb.cell L2.lt).trans d0,(hb.cell L2.lt).trans d1⟩
 have HL0:(W.alloc (.cells #[O U X,O U Y] 3)).drew.cell? ⟨W.heap.size,0,none⟩=some (O U X):=(ai.new W 3 #[O U X,O U Y]).cell 0
 have HL1:(W.alloc (.cells #[O U X,O U Y] 3)).drew.cell? ⟨W.heap.size,1,none⟩=some (O U Y):=(ai.new W 3 #[O U X,O U Y]).cell 1
 go_region_held3 (fun W'=>Below W.heap.size W W'∧W'.cell? ⟨w.heap.size,0,none⟩=some (O U a.k)∧W'.cell? ⟨w.heap.size,1,none⟩=some (O U a.p)∧W'.cell? ⟨w.heap.size+1,0,none⟩=some (O U b.k)∧W'.cell? ⟨w.heap.size+1,1,none⟩=some (O U b.p)) (first | exact HK _ (Below.refl _ _).drew | exact HK _ (((Below.refl _ _).drew).alloc (by first | exact Nat.le_refl _ | simp) _) | (exact HK _ (by assumption))) (first | (go_at_call 167; with_reducible refine (cX _).mono ?_; rintro e w8 ⟨rfl,rfl⟩) | (go_at_call 167; with_reducible refine (cY _).mono ?_; rintro e w8 ⟨rfl,rfl⟩) | (go_at_call 166; refine (sf X Y W.heap.size 2 (W.alloc (.cells #[O U X,O U Y] 3)).drew HL0 HL1).mono ?_; rintro e w9 ⟨rfl,rfl⟩))
 all_goals
  go_wp2
  go_ret
  exact ⟨by rw [HO.out]; rfl,ar b2 ((Below.refl W.heap.size W).alloc (Nat.le_refl _) _).drew⟩
set_option maxRecDepth 100000 in
set_option maxHeartbeats 2000000 in
theorem kh (x:aM) (g:Nat) (w:World) (h:bT w w.heap.size g x) (hno:(eh x && gJ x)=false) :
  Calls Tryz.prog 67 #[.pointer (some ⟨g,0,none⟩)] w fun e w'=>e=.returned (.bool (am x))∧Below w.heap.size w w':=by
 have s0:w.cell? ⟨g,0,none⟩=some (F x.TA x.t.length x.tc):=h.s.c0 (ao.start _ _)
 have s1:w.cell? ⟨g,1,none⟩=some (F x.OA x.o.length x.oc):=h.s.c1 (ao.start _ _)
 have s2:w.cell? ⟨g,2,none⟩=some (O U x.got):=h.s.c2 (ao.start _ _)
 have s3:w.cell? ⟨g,3,none⟩=some (O U x.sold):=h.s.c3 (ao.start _ _)
 have s4:w.cell? ⟨g,4,none⟩=some (O U x.missed):=h.s.c4 (ao.start _ _)
 have hl:=h.r.ts.big
 have hm:=h.r.os.big
 have c3:=fun W=>aI x.got 0 99999 W
 have c4:=fun W=>aI x.sold 0 99999 W
 have c5:=fun W=>aI x.missed 0 99999 W
 have HNO:=Lib.hid hno; clear hno
 have HG:Hid (am x=(eh x && (bI x.got 0 99999 && bI x.sold 0 99999 && bI x.missed 0 99999) && ef x.t && dV x.t x.o && jF x)):=rfl
 by_cases hz:x.t.length≤8∧x.o.length≤8
 ·obtain ⟨tl,ol⟩:=hz
  have HZ:Hid (eh x=true):=by unfold Hid eh; rw [decide_eq_true tl,decide_eq_true ol]; rfl
  obtain ⟨v3,hv3⟩ : ∃ v,bI x.got 0 99999=v:=⟨_,rfl⟩
  obtain ⟨v4,hv4⟩ : ∃ v,bI x.sold 0 99999=v:=⟨_,rfl⟩
  obtain ⟨v5,hv5⟩ : ∃ v,bI x.missed 0 99999=v:=⟨_,rfl⟩
  rw [hv3] at c3
  rw [hv4] at c4
  rw [hv5] at c5
  rw [hv3,hv4,hv5] at HG
  have HV3:=Lib.hid hv3; clear hv3
  have HV4:=Lib.hid hv4; clear hv4
  have HV5:=Lib.hid hv5; clear hv5
  by_cases hall3:(v3 && v4 && v5)=true
  ·exfalso
   have hn:gJ x=true:=by unfold gJ; rw [HV3.out,HV4.out,HV5.out]; exact hall3
   have hno:=HNO.out
   rw [HZ.out,hn] at hno; cases hno
  ·have HGF:Hid (am x=false):=by
    unfold Hid; rw [HG.out,HZ.out]
    cases v3 <;> cases v4 <;> cases v5 <;> first | rfl | exact absurd rfl hall3
   cases v3
   all_goals (try cases v4)
   all_goals (try cases v5)
   all_goals first
    | exact absurd rfl hall3
    | skip
   all_goals
    clear hall3
    go_enter Tryz.func67,Tryz.ntmps67
    go_wp2_with fail
    refine (c3 _).mono ?_
    rintro e w3 ⟨rfl,rfl⟩
    go_wp2_with (first | (go_at_call 75; with_reducible refine (c4 _).mono ?_; rintro e w4 ⟨rfl,rfl⟩) | (go_at_call 75; with_reducible refine (c5 _).mono ?_; rintro e w4 ⟨rfl,rfl⟩))
    go_ret
    exact ⟨by rw [HGF.out]; rfl,Below.refl _ _⟩
 ·have HGF:Hid (am x=false):=by
   unfold Hid; rw [HG.out]
   have:eh x=false:=by
    unfold eh
    by_cases h1:x.t.length≤8
    ·rw [decide_eq_false (show ¬ x.o.length≤8 from fun h2=>hz ⟨h1,h2⟩),Bool.and_false]
    ·rw [decide_eq_false h1,Bool.false_and]
   rw [this]; rfl
  by_cases h1:x.t.length≤8
  ·have h2 : ¬ x.o.length≤8:=fun h2=>hz ⟨h1,h2⟩
   clear hz
   go_enter Tryz.func67,Tryz.ntmps67
   go_wp2
   go_ret
   exact ⟨by rw [HGF.out]; rfl,Below.refl _ _⟩
  ·clear hz
   go_enter Tryz.func67,Tryz.ntmps67
   go_wp2
   go_ret
   exact ⟨by rw [HGF.out]; rfl,Below.refl _ _⟩
theorem pl (o:ae) (w:World):Calls Tryz.prog 121 (#[o.val]++#[]) w fun e w'=>e=.returned (.bool (ci o))∧Below w.heap.size w w':=pk o w
set_option maxRecDepth 100000 in
set_option maxHeartbeats 4000000 in
theorem jI (x:aM) (g:Nat) (w:World) (h:bT w w.heap.size g x) (hyes:(eh x && gJ x)=true) :
  Calls Tryz.prog 67 #[.pointer (some ⟨g,0,none⟩)] w fun e w'=>e=.returned (.bool (am x))∧Below w.heap.size w w':=by
 have s0:w.cell? ⟨g,0,none⟩=some (F x.TA x.t.length x.tc):=h.s.c0 (ao.start _ _)
 have s1:w.cell? ⟨g,1,none⟩=some (F x.OA x.o.length x.oc):=h.s.c1 (ao.start _ _)
 have s2:w.cell? ⟨g,2,none⟩=some (O U x.got):=h.s.c2 (ao.start _ _)
 have s3:w.cell? ⟨g,3,none⟩=some (O U x.sold):=h.s.c3 (ao.start _ _)
 have s4:w.cell? ⟨g,4,none⟩=some (O U x.missed):=h.s.c4 (ao.start _ _)
 have c3:=fun W=>aI x.got 0 99999 W
 have c4:=fun W=>aI x.sold 0 99999 W
 have c5:=fun W=>aI x.missed 0 99999 W
 have HG:Hid (am x=(ef x.t && dV x.t x.o && jF x)):=by
  unfold Hid am; rw [hyes,Bool.true_and]
 rw [Bool.and_eq_true] at hyes
 have hz:=hyes.1
 have hn:=hyes.2
 unfold eh at hz
 unfold gJ at hn
 rw [Bool.and_eq_true] at hz hn
 rw [Bool.and_eq_true] at hn
 obtain ⟨⟨hv3,hv4⟩,hv5⟩:=hn
 have tl:x.t.length≤8:=of_decide_eq_true hz.1
 have ol:x.o.length≤8:=of_decide_eq_true hz.2
 clear hz hyes
 rw [hv3] at c3
 rw [hv4] at c4
 rw [hv5] at c5
 obtain ⟨g1,g2⟩:=bH.1 hv3
 obtain ⟨g3,g4⟩:=bH.1 hv4
 obtain ⟨g5,g6⟩:=bH.1 hv5
 clear hv3 hv4 hv5
 have hrt:=h.r.ts.el
 have hro:=h.r.os.el
 obtain ⟨p0,p1,p2,p3,p4⟩:=h.s
 obtain ⟨TA,hTA⟩ : ∃ A,x.TA=A:=⟨_,rfl⟩
 obtain ⟨OA,hOA⟩ : ∃ A,x.OA=A:=⟨_,rfl⟩
 rw [hTA] at s0 hrt
 rw [hOA] at s1 hro
 simp only [hTA] at p0
 simp only [hOA] at p1
 clear hTA hOA
 go_enter Tryz.func67,Tryz.ntmps67
 go_wp2_with fail
 refine (c3 _).mono ?_
 rintro e w3 ⟨rfl,rfl⟩
 go_wp2_with fail
 refine (c4 _).mono ?_
 rintro e w3 ⟨rfl,rfl⟩
 go_wp2_with fail
 refine (c5 _).mono ?_
 rintro e w3 ⟨rfl,rfl⟩
 go_wp2
 clear s0 s1 s2 s3 s4 c3 c4 c5
 go_loopw [50] (fun i wr=>∃ (k:Nat) (prev:Int),k≤x.t.length∧i=O U k∧(∃ q:ao w.heap.size w,wr=q.val)∧Hid (ck k prev (x.t.drop k)=ef x.t)∧Hid (∀ (_hk:0 < k) (h' : k - 1 < x.t.length),prev=x.t[k - 1].k)) (fun i _=>x.t.length - (intOf i).toNat)
 case atStart=>exact ⟨0,0,Nat.zero_le _,rfl,⟨ao.start _ _,rfl⟩,rfl,fun h=>absurd h (by omega)⟩
 case round =>
  obtain ⟨k,prev,hk,rfl,⟨q,rfl⟩,HR,HP⟩:=hrel
  by_cases hlt:k < x.t.length
  ·obtain ⟨b,off,rfl,hb,hcell⟩:=hrt (by omega)
   obtain ⟨e0,e1⟩:=hcell k hlt
   have HC:Hid (0 < k→∀ p:ao w.heap.size w,p.val.cell? ⟨b,off+(k - 1) * 2,none⟩=some (O U prev)):=fun h p=>by
    rw [HP.out h (by omega)]; exact (hcell (k - 1) (by omega)).c0 p
   have HS:=Lib.hid (lN (n:=k) (p:=prev) hlt)
   obtain ⟨r,hre⟩ : ∃ r,r=x.t[k]:=⟨_,rfl⟩
   have HN:Hid (∀ (_hk:0 < k+1) (h' : k+1 - 1 < x.t.length),r.k=x.t[k+1 - 1].k):=fun _ h'=>by rw [hre]; rfl
   rw [← hre] at e0 e1 HS
   clear hre hcell hrt hro
   go_wp2
   have hbV:=q.below.alloc q.size (.cells #[O U r.k,O U r.c] 104)
   have hlV:=ai.new q.val 104 #[O U r.k,O U r.c]
   generalize q.val.alloc (.cells #[O U r.k,O U r.c] 104)=V at hbV hlV ⊢
   generalize q.val.heap.size=gv at hlV ⊢
   obtain ⟨d0,d1⟩:=kK.of (r:=r) hlV
   have p0' : ∀ p:ao V.heap.size V,p.val.cell? ⟨g,0,none⟩=some (F (some ⟨b,off,none⟩) x.t.length x.tc):=fun p=>p0 ⟨p.val,hbV.trans (p.below.mono hbV.size)⟩
   have HOK:Hid (r.ok=(bI r.k 1 99 && bI r.c 0 9999)):=rfl
   clear e0 e1
   obtain ⟨v1,hv1⟩ : ∃ v,bI r.k 1 99=v:=⟨_,rfl⟩
   obtain ⟨v2,hv2⟩ : ∃ v,bI r.c 0 9999=v:=⟨_,rfl⟩
   rw [hv1,hv2] at HOK
   have HV1:=Lib.hid hv1; clear hv1
   have HV2:=Lib.hid hv2; clear hv2
   rcases Nat.eq_zero_or_pos k with h0 | h0
   ·have hd:decide (0 < k)=false:=decide_eq_false (by omega)
    have H0:=Lib.hid h0; clear h0
    cases v1
    ·refine au (by kernel_rfl) (by kernel_rfl) ?_
     repeat (any_goals (first | go_big_quiet_step ((go_at_call 75; with_reducible refine ay HV1 (aI r.k 1 99 _))) | (refine wpQuiet_step (fun K hK=>?_); go_simp; split <;> (refine hK _ ?_; clear hK K))))
     all_goals (refine wpQuiet_nil ?_; rintro _ ⟨q1,rfl⟩)
     all_goals have hb1:=hbV.trans (q1.below.mono hbV.size)
     all_goals go_wp2
     go_ret
     refine ⟨?_,hb1⟩
     rw [HG.out,← HR.out,HS.out,HOK.out]; rfl
    ·cases v2
     all_goals
      refine au (by kernel_rfl) (by kernel_rfl) ?_
      repeat (any_goals (first | go_big_quiet_step ((first | (go_at_call 75; with_reducible refine ay HV1 (aI r.k 1 99 _)) | (go_at_call 75; with_reducible refine ay HV2 (aI r.c 0 9999 _)))) | (refine wpQuiet_step (fun K hK=>?_); go_simp; split <;> (refine hK _ ?_; clear hK K))))
      all_goals (refine wpQuiet_nil ?_; rintro _ ⟨q1,rfl⟩)
      all_goals have hb1:=hbV.trans (q1.below.mono hbV.size)
      all_goals go_wp2
     ·go_ret
      refine ⟨?_,hb1⟩
      rw [HG.out,← HR.out,HS.out,HOK.out]; rfl
     ·go_roundw
      case rel=>exact ⟨k+1,r.k,by omega,by go_num,⟨⟨_,hbV.trans (q1.below.mono hbV.size)⟩,rfl⟩,by have h1:=HR.out; rw [HS.out,HOK.out,decide_eq_true H0.out] at h1; exact h1,HN⟩
      case measure=>simp [intOf]; omega
   ·have c5:∀ p:ao V.heap.size V,p.val.cell? ⟨b,off+(k - 1) * 2,none⟩=some (O U prev):=fun p=>HC.out h0 ⟨p.val,hbV.trans (p.below.mono hbV.size)⟩
    have h0' : (0:Int) < (k:Int):=by omega
    cases v1
    ·refine au (by kernel_rfl) (by kernel_rfl) ?_
     repeat (any_goals (first | go_big_quiet_step ((go_at_call 75; with_reducible refine ay HV1 (aI r.k 1 99 _))) | (refine wpQuiet_step (fun K hK=>?_); go_simp; split <;> (refine hK _ ?_; clear hK K))))
     all_goals (refine wpQuiet_nil ?_; rintro _ ⟨q1,rfl⟩)
     all_goals have hb1:=hbV.trans (q1.below.mono hbV.size)
     all_goals go_wp2
     go_ret
     refine ⟨?_,hb1⟩
     rw [HG.out,← HR.out,HS.out,HOK.out]; rfl
    ·cases v2
     all_goals
      refine au (by kernel_rfl) (by kernel_rfl) ?_
      repeat (any_goals (first | go_big_quiet_step ((first | (go_at_call 75; with_reducible refine ay HV1 (aI r.k 1 99 _)) | (go_at_call 75; with_reducible refine ay HV2 (aI r.c 0 9999 _)))) | (refine wpQuiet_step (fun K hK=>?_); go_simp; split <;> (refine hK _ ?_; clear hK K))))
      all_goals (refine wpQuiet_nil ?_; rintro _ ⟨q1,rfl⟩)
      all_goals have hb1:=hbV.trans (q1.below.mono hbV.size)
      all_goals go_wp2
     ·go_ret
      refine ⟨?_,hb1⟩
      rw [HG.out,← HR.out,HS.out,HOK.out]; rfl
     ·go_ret
      refine ⟨?_,hb1⟩
      have hm:r.k≤prev:=by assumption
      rw [HG.out,← HR.out,HS.out,HOK.out,decide_eq_false (by omega : ¬ k=0),decide_eq_false (by omega : ¬ prev < r.k)]; rfl
     ·have hm:prev < r.k:=by assumption
      go_roundw
      case rel=>exact ⟨k+1,r.k,by omega,by go_num,⟨⟨_,hbV.trans (q1.below.mono hbV.size)⟩,rfl⟩,by have h1:=HR.out; rw [HS.out,HOK.out,decide_eq_true hm,Bool.or_true] at h1; exact h1,HN⟩
      case measure=>simp [intOf]; omega
  ·have hK:ef x.t=true:=by
    have h1:=HR.out
    rw [List.drop_eq_nil_of_le (by omega)] at h1; exact h1.symm
   have HALL:=Lib.hid (fq _ _ _ hK)
   have HK:=Lib.hid hK; clear hK
   have hq1:=p1 q
   clear hrt
   go_wp2
   go_loopw [89] (fun i wr=>∃ (k:Nat) (prev:Option ae),k≤x.o.length∧i=O U k∧(∃ q:ao w.heap.size w,wr=q.val)∧Hid (cR x.t prev (x.o.drop k)=dV x.t x.o)∧Hid ((k=0→prev=none)∧∀ (_hk:0 < k) (h' : k - 1 < x.o.length),prev=some x.o[k - 1]∧x.o[k - 1].ok x.t=true)) (fun i _=>x.o.length - (intOf i).toNat)
   case atStart=>exact ⟨0,none,Nat.zero_le _,rfl,⟨q,rfl⟩,rfl,fun _=>rfl,fun h=>absurd h (by omega)⟩
   case round =>
    clear hlt HR HP hq1
    obtain ⟨k,prev,hk,rfl,⟨q,rfl⟩,HR,HP⟩:=hrel
    by_cases hlt:k < x.o.length
    ·obtain ⟨b,off,rfl,hb,hcell⟩:=hro (by omega)
     obtain ⟨e0,e1,e2⟩:=hcell k hlt
     have HS:=Lib.hid (mK (ts:=x.t) (p:=prev) hlt)
     obtain ⟨r,hre⟩ : ∃ r,r=x.o[k]:=⟨_,rfl⟩
     have HN:Hid (r.ok x.t=true→(k+1=0→some r=none)∧∀ (_hk:0 < k+1) (h' : k+1 - 1 < x.o.length),some r=some x.o[k+1 - 1]∧x.o[k+1 - 1].ok x.t=true):=fun ho=>⟨fun h=>by omega,fun _ h'=>⟨by rw [hre]; rfl,by rw [hre] at ho; exact ho⟩⟩
     have HC:Hid (∀ _:0 < k,∃ u:ae,prev=some u∧u.ok x.t=true∧eY w.heap.size w b (off+(k - 1) * 3) u):=fun h=>⟨x.o[k - 1],(HP.out.2 h (by omega)).1,(HP.out.2 h (by omega)).2,hcell (k - 1) (by omega)⟩
     rw [← hre] at e0 e1 e2 HS
     clear hre hcell hro
     go_wp2
     have hbV:=q.below.alloc q.size (.cells #[O U r.k,O U r.p,O U r.c] 147)
     have hlV:=ai.new q.val 147 #[O U r.k,O U r.p,O U r.c]
     generalize q.val.alloc (.cells #[O U r.k,O U r.p,O U r.c] 147)=V at hbV hlV ⊢
     generalize q.val.heap.size=gv at hlV ⊢
     obtain ⟨d0,d1,d2⟩:=eY.of (r:=r) hlV
     have up:∀ {a:Addr} {u:Value},(∀ p:ao w.heap.size w,p.val.cell? a=some u)→∀ p:ao V.heap.size V,p.val.cell? a=some u:=fun h p=>h ⟨p.val,hbV.trans (p.below.mono hbV.size)⟩
     have z1:=up p1
     have hAV:∀ p:ao V.heap.size V,bT p.val p.val.heap.size g x:=fun p=>h.at ⟨p.val,hbV.trans (p.below.mono hbV.size)⟩
     have HOK:Hid (r.ok x.t=(aN x.t r.k && bI r.p 1 999 && bI r.c 1 9999)):=rfl
     clear e0 e1 e2
     obtain ⟨X,hX⟩ : ∃ X,av x.t r.k=X:=⟨_,rfl⟩
     have HX:Hid (Value.int .i64 (av x.t r.k)=O U X):=by rw [hX]; rfl
     have HH:Hid (aN x.t r.k=decide (0≤X)):=by rw [← hX]; exact (cQ _ _).symm
     obtain ⟨v2,hv2⟩ : ∃ v,bI r.p 1 999=v:=⟨_,rfl⟩
     obtain ⟨v3,hv3⟩ : ∃ v,bI r.c 1 9999=v:=⟨_,rfl⟩
     rw [hv2,hv3] at HOK
     have HV2:=Lib.hid hv2; clear hv2
     have HV3:=Lib.hid hv3; clear hv3
     clear hX
     by_cases hX0:0≤X
     ·have hd0:decide (X < 0)=false:=decide_eq_false (by omega)
      have HXT:Hid (decide (0≤X)=true):=decide_eq_true hX0
      cases v2
      ·rcases Nat.eq_zero_or_pos k with h0 | h0
       ·have hd:decide (0 < k)=false:=decide_eq_false (by omega)
        clear h0
        refine au (by kernel_rfl) (by kernel_rfl) ?_
        repeat (any_goals (first | go_big_quiet_step ((first | (go_at_call 116; with_reducible refine aP HX (Nat.le_refl _) (ba x g r.k _ (hAV _))) | (go_at_call 117; with_reducible refine ay HV2 (bB r.p _)))) | (refine wpQuiet_step (fun K hK=>?_); go_simp; split <;> (refine hK _ ?_; clear hK K))))
        all_goals (refine wpQuiet_nil ?_; rintro _ ⟨q1,rfl⟩)
        all_goals have hb1:=hbV.trans (q1.below.mono hbV.size)
        all_goals go_wp2
        go_ret
        refine ⟨?_,hb1⟩
        rw [HG.out,HK.out,← HR.out,HS.out,HOK.out,Bool.and_false]; rfl
       ·have h0' : (0:Int) < (k:Int):=by omega
        refine au (by kernel_rfl) (by kernel_rfl) ?_
        repeat (any_goals (first | go_big_quiet_step ((first | (go_at_call 116; with_reducible refine aP HX (Nat.le_refl _) (ba x g r.k _ (hAV _))) | (go_at_call 117; with_reducible refine ay HV2 (bB r.p _)))) | (refine wpQuiet_step (fun K hK=>?_); go_simp; split <;> (refine hK _ ?_; clear hK K))))
        all_goals (refine wpQuiet_nil ?_; rintro _ ⟨q1,rfl⟩)
        all_goals have hb1:=hbV.trans (q1.below.mono hbV.size)
        all_goals go_wp2
        go_ret
        refine ⟨?_,hb1⟩
        rw [HG.out,HK.out,← HR.out,HS.out,HOK.out,Bool.and_false]; rfl
      ·cases v3
       ·rcases Nat.eq_zero_or_pos k with h0 | h0
        ·have hd:decide (0 < k)=false:=decide_eq_false (by omega)
         clear h0
         refine au (by kernel_rfl) (by kernel_rfl) ?_
         repeat (any_goals (first | go_big_quiet_step ((first | (go_at_call 116; with_reducible refine aP HX (Nat.le_refl _) (ba x g r.k _ (hAV _))) | (go_at_call 117; with_reducible refine ay HV2 (bB r.p _)) | (go_at_call 75; with_reducible refine ay HV3 (aI r.c 1 9999 _)))) | (refine wpQuiet_step (fun K hK=>?_); go_simp; split <;> (refine hK _ ?_; clear hK K))))
         all_goals (refine wpQuiet_nil ?_; rintro _ ⟨q1,rfl⟩)
         all_goals have hb1:=hbV.trans (q1.below.mono hbV.size)
         all_goals go_wp2
         go_ret
         refine ⟨?_,hb1⟩
         rw [HG.out,HK.out,← HR.out,HS.out,HOK.out,Bool.and_false]; rfl
        ·have h0' : (0:Int) < (k:Int):=by omega
         refine au (by kernel_rfl) (by kernel_rfl) ?_
         repeat (any_goals (first | go_big_quiet_step ((first | (go_at_call 116; with_reducible refine aP HX (Nat.le_refl _) (ba x g r.k _ (hAV _))) | (go_at_call 117; with_reducible refine ay HV2 (bB r.p _)) | (go_at_call 75; with_reducible refine ay HV3 (aI r.c 1 9999 _)))) | (refine wpQuiet_step (fun K hK=>?_); go_simp; split <;> (refine hK _ ?_; clear hK K))))
         all_goals (refine wpQuiet_nil ?_; rintro _ ⟨q1,rfl⟩)
         all_goals have hb1:=hbV.trans (q1.below.mono hbV.size)
         all_goals go_wp2
         go_ret
         refine ⟨?_,hb1⟩
         rw [HG.out,HK.out,← HR.out,HS.out,HOK.out,Bool.and_false]; rfl
       ·have HRO:Hid (r.ok x.t=true):=by unfold Hid; rw [HOK.out,HH.out,HXT.out]; rfl
        rcases Nat.eq_zero_or_pos k with h0 | h0
        ·have hd:decide (0 < k)=false:=decide_eq_false (by omega)
         have HP0:Hid (prev=none):=HP.out.1 h0
         clear h0
         refine au (by kernel_rfl) (by kernel_rfl) ?_
         repeat (any_goals (first | go_big_quiet_step ((first | (go_at_call 116; with_reducible refine aP HX (Nat.le_refl _) (ba x g r.k _ (hAV _))) | (go_at_call 117; with_reducible refine ay HV2 (bB r.p _)) | (go_at_call 75; with_reducible refine ay HV3 (aI r.c 1 9999 _)))) | (refine wpQuiet_step (fun K hK=>?_); go_simp; split <;> (refine hK _ ?_; clear hK K))))
         all_goals (refine wpQuiet_nil ?_; rintro _ ⟨q1,rfl⟩)
         all_goals have hb1:=hbV.trans (q1.below.mono hbV.size)
         all_goals go_wp2
         go_roundw
         case rel=>exact ⟨k+1,some r,by omega,by go_num,⟨⟨_,hb1⟩,rfl⟩,by have h1:=HR.out; rw [HS.out,HRO.out,HP0.out] at h1; exact h1,HN.out HRO.out⟩
         case measure=>simp [intOf]; omega
        ·have h0' : (0:Int) < (k:Int):=by omega
         obtain ⟨u,hpu,huo,⟨t0,t1,t2⟩⟩:=HC.out h0
         have t0:=up t0
         have t1:=up t1
         have t2:=up t2
         subst hpu
         have HS2:Hid (cR x.t (some u) (x.o.drop k)=(r.ok x.t && before u r && cR x.t (some r) (x.o.drop (k+1)))):=HS.out
         obtain ⟨C,hC⟩ : ∃ C,il u r=C:=⟨_,rfl⟩
         have HCM:Hid (Value.int .i64 (il u r)=O U C):=by rw [hC]; rfl
         have HB:Hid (decide (0≤C) = !(before u r)):=by rw [← hC]; exact kM u r
         clear hC huo up
         refine au (by kernel_rfl) (by kernel_rfl) ?_
         repeat (any_goals (first | go_big_quiet_step ((first | (go_at_call 116; with_reducible refine aP HX (Nat.le_refl _) (ba x g r.k _ (hAV _))) | (go_at_call 117; with_reducible refine ay HV2 (bB r.p _)) | (go_at_call 75; with_reducible refine ay HV3 (aI r.c 1 9999 _)) | (go_at_call 118; with_reducible refine aP HCM (Nat.le_refl _) (fX u r _)))) | (refine wpQuiet_step (fun K hK=>?_); go_simp; split <;> (refine hK _ ?_; clear hK K))))
         all_goals (refine wpQuiet_nil ?_; rintro _ ⟨q1,rfl⟩)
         all_goals have hb1:=hbV.trans (q1.below.mono hbV.size)
         all_goals go_wp2
         ·go_ret
          refine ⟨?_,hb1⟩
          have hm:0≤C:=by assumption
          have hb0:=HB.out
          rw [decide_eq_true hm] at hb0
          have hbf:before u r=false:=by
           cases hbb:before u r with
           | false=>rfl
           | true=>rw [hbb] at hb0; cases hb0
          rw [HG.out,HK.out,← HR.out,HS2.out,HRO.out,hbf]; rfl
         ·have hm:C < 0:=by assumption
          have hb0:=HB.out
          rw [decide_eq_false (by omega)] at hb0
          have hbt:before u r=true:=by
           cases hbb:before u r with
           | true=>rfl
           | false=>rw [hbb] at hb0; cases hb0
          have hbf:=Lib.hid hbt
          clear hbt
          clear hb0
          go_roundw
          case rel=>exact ⟨k+1,some r,by omega,by go_num,⟨⟨_,hb1⟩,rfl⟩,by have h1:=HR.out; rw [HS2.out,HRO.out,hbf.out] at h1; exact h1,HN.out HRO.out⟩
          case measure=>simp [intOf]; omega
     ·have hd0:decide (X < 0)=true:=decide_eq_true (by omega)
      have HXT:Hid (decide (0≤X)=false):=decide_eq_false hX0
      rcases Nat.eq_zero_or_pos k with h0 | h0
      ·have hd:decide (0 < k)=false:=decide_eq_false (by omega)
       clear h0
       refine au (by kernel_rfl) (by kernel_rfl) ?_
       repeat (any_goals (first | go_big_quiet_step ((go_at_call 116; with_reducible refine aP HX (Nat.le_refl _) (ba x g r.k _ (hAV _)))) | (refine wpQuiet_step (fun K hK=>?_); go_simp; split <;> (refine hK _ ?_; clear hK K))))
       all_goals (refine wpQuiet_nil ?_; rintro _ ⟨q1,rfl⟩)
       all_goals have hb1:=hbV.trans (q1.below.mono hbV.size)
       all_goals go_wp2
       go_ret
       refine ⟨?_,hb1⟩
       rw [HG.out,HK.out,← HR.out,HS.out,HOK.out,HH.out,HXT.out]; rfl
      ·have h0' : (0:Int) < (k:Int):=by omega
       refine au (by kernel_rfl) (by kernel_rfl) ?_
       repeat (any_goals (first | go_big_quiet_step ((go_at_call 116; with_reducible refine aP HX (Nat.le_refl _) (ba x g r.k _ (hAV _)))) | (refine wpQuiet_step (fun K hK=>?_); go_simp; split <;> (refine hK _ ?_; clear hK K))))
       all_goals (refine wpQuiet_nil ?_; rintro _ ⟨q1,rfl⟩)
       all_goals have hb1:=hbV.trans (q1.below.mono hbV.size)
       all_goals go_wp2
       go_ret
       refine ⟨?_,hb1⟩
       rw [HG.out,HK.out,← HR.out,HS.out,HOK.out,HH.out,HXT.out]; rfl
    ·have hKO:dV x.t x.o=true:=by
      have h1:=HR.out
      rw [List.drop_eq_nil_of_le (by omega)] at h1; exact h1.symm
     have HOLL:=Lib.hid (eZ _ _ _ hKO)
     have HKO:=Lib.hid hKO; clear hKO
     have hi:=iV x.t 0 HALL.out
     have hj:=eI ci x.t x.o 0 HOLL.out
     have HSM:Hid (jF x=decide (x.got=bW x.t+aS ci x.o+x.sold+x.missed)):=rfl
     change 0≤bW x.t∧bW x.t≤_ at hi
     change 0≤aS ci x.o∧aS ci x.o≤_ at hj
     obtain ⟨I,hI⟩ : ∃ I,bW x.t=I:=⟨_,rfl⟩
     obtain ⟨J,hJ⟩ : ∃ J,aS ci x.o=J:=⟨_,rfl⟩
     rw [hI] at hi HSM
     rw [hJ] at hj HSM
     have HI:Hid (Value.int .i64 (bW x.t)=O U I):=by rw [hI]; rfl
     have HJ:Hid (Value.int .i64 (aS ci x.o)=O U J):=by rw [hJ]; rfl
     clear hI hJ
     obtain ⟨i1,i2⟩:=hi
     obtain ⟨j1,j2⟩:=hj
     have w1:IntKind.i64.wrap (I+J)=I+J:=IntWalk.i64_in _ (by omega)
     have w2:IntKind.i64.wrap (I+J+x.sold)=I+J+x.sold:=IntWalk.i64_in _ (by omega)
     have w3:IntKind.i64.wrap (I+J+x.sold+x.missed)=I+J+x.sold+x.missed:=IntWalk.i64_in _ (by omega)
     obtain ⟨z,hz⟩ : ∃ z,decide (x.got=I+J+x.sold+x.missed)=z:=⟨_,rfl⟩
     have hzz:(x.got == I+J+x.sold+x.missed)=z:=by rw [← hz,Bool.eq_iff_iff]; simp
     have HZ:=Lib.hid hz; clear hz
     have hAQ:∀ p:ao w.heap.size w,bT p.val p.val.heap.size g x:=fun p=>h.at p
     clear hro HR HP
     go_wp2
     refine bc _ (by kernel_rfl) (by kernel_rfl) ?_
     repeat (any_goals (first | go_big_quiet_step ((first | (go_at_call 119; with_reducible refine aP HI (Nat.le_refl _) (ik x g _ (hAQ _) tl HALL.out)) | (go_at_call 120; with_reducible refine aP HJ (Nat.le_refl _) (eB ci 121 #[] Tryz.call121 x g _ (fun o p=>pl o p.val) (hAQ _) ol HOLL.out)))) | (refine wpQuiet_step (fun K hK=>?_); go_simp; split <;> (refine hK _ ?_; clear hK K))))
     all_goals (refine wpQuiet_nil ?_; rintro _ ⟨q1,rfl⟩)
     go_wp2
     go_ret
     refine ⟨?_,q1.below⟩
     rw [HG.out,HK.out,HKO.out,HSM.out,HZ.out]; rfl
theorem aX (x:aM) (g:Nat) (w:World) (h:bT w w.heap.size g x) :
  Calls Tryz.prog 67 #[.pointer (some ⟨g,0,none⟩)] w fun e w'=>e=.returned (.bool (am x))∧Below w.heap.size w w':=by
 cases hv:(eh x && gJ x)
 ·exact kh x g w h hv
 ·exact jI x g w h hv
theorem fY {x:aM} {w:World} (h:aQ w w.heap.size x) (t:TypeId):bT (w.alloc (.cells #[F x.TA x.t.length x.tc,F x.OA x.o.length x.oc,O U x.got,O U x.sold,O U x.missed] t)) (w.alloc (.cells #[F x.TA x.t.length x.tc,F x.OA x.o.length x.oc,O U x.got,O U x.sold,O U x.missed] t)).heap.size w.heap.size x :=
 bT.of (x:=x) (ai.new w t #[F x.TA x.t.length x.tc,F x.OA x.o.length x.oc,O U x.got,O U x.sold,O U x.missed]) (h.up ((Below.refl w.heap.size w).alloc (Nat.le_refl _) _) (Nat.le_refl _))
def rD (g:Bool) (v:Int):Int:=if g then v else 0
theorem gM (x:aM) (w:World) (h:aQ w w.heap.size x):Calls Tryz.prog 136 #[x.val] w fun e w'=>e=.returned (.tuple #[O U (rD (am x) (bW x.t)),.bool (am x)])∧Below w.heap.size w w':=by
 have b1:=(Below.refl w.heap.size w).alloc (Nat.le_refl _) (.cells #[F x.TA x.t.length x.tc,F x.OA x.o.length x.oc,O U x.got,O U x.sold,O U x.missed] 40)
 have hA:=fY h 40
 have cG:=fun W hW=>dp x W hW
 cases hg:am x
 ·rw [hg] at cG
  clear hg
  go_enter Tryz.func136,Tryz.ntmps136
  go_wp2_with fail
  generalize w.alloc (.cells #[F x.TA x.t.length x.tc,F x.OA x.o.length x.oc,O U x.got,O U x.sold,O U x.missed] 40)=W at b1 hA ⊢
  refine (cG _ hA.r).mono ?_
  rintro e w1 ⟨rfl,hb⟩
  go_wp2
  go_ret2
  exact ⟨rfl,ar b1 hb⟩
 ·rw [hg] at cG
  have G:=bm.1 hg
  have cM:=fun W hW=>iH x W hW G.tl G.ol G.tall G.oall
  clear hg G
  go_enter Tryz.func136,Tryz.ntmps136
  go_wp2_with fail
  generalize w.alloc (.cells #[F x.TA x.t.length x.tc,F x.OA x.o.length x.oc,O U x.got,O U x.sold,O U x.missed] 40)=W at b1 hA ⊢
  obtain ⟨p0,p1,p2,p3,p4⟩:=hA.s
  refine (aU (cG _ hA.r)).mono ?_
  rintro e w1 ⟨rfl,q1,rfl⟩
  go_wp2_with fail
  refine (aK (Nat.le_refl _) (cM _ (hA.r.at q1))).mono ?_
  rintro e w2 ⟨rfl,q2,rfl⟩
  go_wp2
  go_ret2
  exact ⟨rfl,b1.trans (q2.below.mono b1.size)⟩
theorem jJ (x:aM) (w:World) (h:aQ w w.heap.size x):Calls Tryz.prog 138 #[x.val] w fun e w'=>e=.returned (.tuple #[O U (rD (am x) (aS ci x.o)),.bool (am x)])∧Below w.heap.size w w':=by
 have b1:=(Below.refl w.heap.size w).alloc (Nat.le_refl _) (.cells #[F x.TA x.t.length x.tc,F x.OA x.o.length x.oc,O U x.got,O U x.sold,O U x.missed] 40)
 have hA:=fY h 40
 have cG:=fun W hW=>dp x W hW
 cases hg:am x
 ·rw [hg] at cG
  clear hg
  go_enter Tryz.func138,Tryz.ntmps138
  go_wp2_with fail
  generalize w.alloc (.cells #[F x.TA x.t.length x.tc,F x.OA x.o.length x.oc,O U x.got,O U x.sold,O U x.missed] 40)=W at b1 hA ⊢
  refine (cG _ hA.r).mono ?_
  rintro e w1 ⟨rfl,hb⟩
  go_wp2
  go_ret2
  exact ⟨rfl,ar b1 hb⟩
 ·rw [hg] at cG
  have G:=bm.1 hg
  have cM:=fun W hW=>iH x W hW G.tl G.ol G.tall G.oall
  clear hg G
  go_enter Tryz.func138,Tryz.ntmps138
  go_wp2_with fail
  generalize w.alloc (.cells #[F x.TA x.t.length x.tc,F x.OA x.o.length x.oc,O U x.got,O U x.sold,O U x.missed] 40)=W at b1 hA ⊢
  obtain ⟨p0,p1,p2,p3,p4⟩:=hA.s
  refine (aU (cG _ hA.r)).mono ?_
  rintro e w1 ⟨rfl,q1,rfl⟩
  go_wp2_with fail
  refine (aK (Nat.le_refl _) (cM _ (hA.r.at q1))).mono ?_
  rintro e w2 ⟨rfl,q2,rfl⟩
  go_wp2
  go_ret2
  exact ⟨rfl,b1.trans (q2.below.mono b1.size)⟩
theorem ki (w:World) (vs:Array Value) (t:TypeId):∀ j u,vs.toList[j]?=some u→(w.alloc (.cells vs t)).cell? ((⟨w.heap.size,0,none⟩ : Addr).add j)=some u:=by
 intro j u hj
 have e:((⟨w.heap.size,0,none⟩ : Addr).add j)=⟨w.heap.size,j,none⟩:=by unfold Addr.add; by_cases h:j=0 <;> simp [h]
 rw [e,(ai.new w t vs).cell]; exact hj
theorem jK {w w' : World} {B:Nat} {e:TypeId} {k:Nat} {v:Value} {n:Nat} {xs:List Value} (h:w'.heap=w.heap) (ho:w.ownsRow B e k v n xs):w'.ownsRow B e k v n xs:=by
 unfold World.ownsRow at *; rw [h]; exact ho
theorem bU {P:Program} {ops:Array Oper} {rest:List Oper} {o:Oper} {a:Act} {w0 wA:World} {Q:Exit→Act→World→Prop} (hgd:o.guard=none) (s x:Operand) (t:TypeId)
  (ho:o.op=.call { callee:=.builtin .append,args:=#[s,x],argTypes:=#[t,t] })
  (e:TypeId) (z:Value) (k bytes:Nat) (ht:P.underlying t=some (.slice e)) (hinfo:(P.info? e).map (fun i=>(i.zero,i.size,i.bytes))=some (some z,k,bytes)) (hzs:z.cells.size=k) (hsz:0 < k) (hby:bytes≤1000)
  (B:Nat) (v:Value) (n:Nat) (xs:List Value) (hs:a.eval s=v) (hown:Hid (w0.ownsRow B e k v n xs))
  (vs:Array Value) (c g:Nat) (hx:a.eval x=F (some ⟨g,0,none⟩) 1 c) (hg:w0.heap.size=g) (hvs:vs.size=k) (h1:vs.all (·.oneCell')=true) (hn:n < 1000000000) (hbase:B≤w0.heap.size)
  (hheap:wA.heap=(w0.alloc (.cells vs e)).heap) (hos:wA.os=w0.os) (htape:wA.tape=w0.tape) (hout:wA.output=w0.output)
  (h:∀ v' w',Hid (w'.ownsRow B e k v' (n+1) (xs++vs.toList))→w0.grownBy w' v.ownBlock→Below B w0 w'→wpList P ops Q rest (a.put o.dst v') w'):wpList P ops Q (o :: rest) a wA:=by
 subst hg
 obtain ⟨i,hi,hz,hs',hb⟩:=info_parts hinfo
 have hown':=hown.out
 have hsize:wA.heap.size=w0.heap.size+1:=by rw [hheap]; exact Array.size_push _
 have hblock:∀ j,j < w0.heap.size→wA.heap[j]?=w0.heap[j]?:=fun j hj=>by rw [hheap]; exact Below.heap_alloc w0 _ j hj
 have h4:w0.grownBy wA v.ownBlock:=⟨hos,htape,hout,by omega,fun j hj _=>hblock j hj⟩
 refine wpList_append_own (w:=wA) hgd s x t ho B e i z k bytes ht hi hz hs' hb hzs hsz v n xs hs (jK hheap (hown'.alloc _)) ⟨w0.heap.size,0,none⟩ 1 c vs.toList hx (by simp [hvs]) ?_ (fun u hu=>(Array.all_eq_true_iff_forall_mem.1 h1) u (by simpa using hu)) (by unfold maxLen; omega) ?_ (by omega) fun v' w' h2 h3 _=>h v' w' h2 ?_ ?_
 ·intro j u hj
  have:=ki w0 vs e j u hj
  rw [← this]; exact World.cell?_of_block (by rw [hheap])
 ·have:=Nat.mul_le_mul (show n+1≤1000000000 by omega) hby
  omega
 ·exact ⟨h3.os.trans h4.os,h3.tape.trans h4.tape,h3.output.trans h4.output,Nat.le_trans h4.size h3.size,fun j hj hne=>(h3.block j (Nat.lt_of_lt_of_le hj h4.size) hne).trans (h4.block j hj hne)⟩
 ·exact ((Below.refl B w0).grown h4 hbase (fun j hj=>(hown'.lt j hj).1)).grown h3 (by omega) (fun j hj=>(hown'.lt j hj).1)
theorem aw {w:World} {B:Nat} {e:TypeId} {k:Nat} {v:Value} {n:Nat} {xs:List Value} (h:w.ownsRow B e k v n xs):∃ A c,v=F A n c:=by
 obtain ⟨_,⟨rfl,rfl⟩ | ⟨g,cap,_,rfl,_⟩⟩:=h
 ·exact ⟨_,_,rfl⟩
 ·exact ⟨_,_,rfl⟩
theorem gB {P:Program} (w:World) (base:Nat) (t ty e:TypeId) (i:TypeInfo) (size:Nat) (ht:P.underlying t=some (.slice e)) (hi:P.info? e=some i)
  (v:Value) (n:Nat) (xs:List Value) (hown:w.ownsRow base e size v n xs) (c:Nat):(Builtin.append_ #[t,t] ty #[v,F none 0 c]).run P w=.ok v w:=by
 obtain ⟨_,⟨rfl,rfl⟩ | ⟨g,cap,cur,rfl,_,_,hcap,_⟩⟩:=hown
 ·simp [Builtin.append_,run_underlying ht,sizeOf,typeInfo,hi,Builtin.lenOf,Builtin.firstCells]
 ·simp [Builtin.append_,run_underlying ht,sizeOf,typeInfo,hi,Builtin.lenOf,Builtin.firstCells,hcap,storeCells]
theorem bY (b o j:Nat):((⟨b,o,none⟩ : Addr).add j)=⟨b,o+j,none⟩:=by unfold Addr.add; by_cases h:j=0 <;> simp [h]
theorem rE {P:Program} {o:Oper} {a:Act} {w:World} {K:Act→World→Prop} {Q:Exit→Act→World→Prop} (s x:Operand) (t:TypeId)
  (ho:o.op=.call { callee:=.builtin .append,args:=#[s,x],argTypes:=#[t,t] })
  (e:TypeId) (z:Value) (k bytes:Nat) (ht:P.underlying t=some (.slice e)) (hinfo:(P.info? e).map (fun i=>(i.zero,i.size,i.bytes))=some (some z,k,bytes)) (hzs:z.cells.size=k) (hsz:0 < k) (hby:bytes≤1000)
  (B:Nat) (v:Value) (n:Nat) (xs:List Value) (hs:a.eval s=v) (hown:Hid (w.ownsRow B e k v n xs))
  (S:Nat) (A:Option Addr) (m c:Nat) (cs:List Value) (hx:a.eval x=F A m c) (hr:Hid (br w S k A m cs)) (h1:∀ u ∈ cs,u.oneCell'=true)
  (hn:n+m≤1000000000) (hbase:B≤w.heap.size)
  (h:∀ v' w',Hid (w'.ownsRow B e k v' (n+m) (xs++cs))→w.grownBy w' v.ownBlock→Below B w w'→(v'.ownBlock=v.ownBlock ∨ v'.ownBlock=some w.heap.size)→K (a.put o.dst v') w'):o.wp P a w K Q:=by
 obtain ⟨i,hi,hz,hs',hb⟩:=info_parts hinfo
 have hbytes:(n+m) * bytes≤140737488355328:=by have:=Nat.mul_le_mul hn hby; omega
 have fin:∀ v' w',(Builtin.append_ #[t,t] o.type #[v,F A m c]).run P w=.ok v' w'→w'.ownsRow B e k v' (n+m) (xs++cs)→w.grownBy w' v.ownBlock→(v'.ownBlock=v.ownBlock ∨ v'.ownBlock=some w.heap.size)→o.wp P a w K Q:=by
  intro v' w' hrun h2 h3 h4
  unfold Oper.wp execOp
  simp only [ho,resolve,invoke,builtin,Sem.run_bind,Sem.run_pure,Result.andThen_ok,List.map_toArray,List.map_cons,List.map_nil,hs,hx,hrun]
  exact h v' w' h2 h3 ((Below.refl B w).grown h3 hbase (fun j hj=>(hown.out.lt j hj).1)) h4
 rcases Nat.eq_zero_or_pos m with h0 | h0
 ·subst h0
  have hc0:cs = []:=List.eq_nil_of_length_eq_zero (by simpa using hr.out.len)
  subst hc0
  rcases A with _ | ad
  ·exact fin v w (gB w B t o.type e i k ht hi v n xs hown.out c) (by simpa using hown.out) (World.grownBy.refl w _) (.inl rfl)
  ·obtain ⟨v',w',hrun,h2,h3,_,h5⟩:=run_append_own_at (P:=P) w B t o.type e i z k bytes ht hi hz hs' hb hzs hsz v n xs hown.out ad 0 c [] (by simp) (by simp) (by simp) (by unfold maxLen; omega) hbytes hbase
   exact fin v' w' hrun h2 h3 h5
 ·obtain ⟨b,off,rfl,hlt,hcell⟩:=hr.out.at_ h0
  obtain ⟨v',w',hrun,h2,h3,_,h5⟩:=run_append_own_at (P:=P) w B t o.type e i z k bytes ht hi hz hs' hb hzs hsz v n xs hown.out ⟨b,off,none⟩ m c cs hr.out.len (fun j u hu=>by rw [bY]; exact hcell j u hu) h1 (by unfold maxLen; omega) hbytes hbase
  exact fin v' w' hrun h2 h3 h5
theorem fZ {P:Program} {ops:Array Oper} {rest:List Oper} {o:Oper} {a:Act} {w:World} {Q:Exit→Act→World→Prop} (hgd:o.guard=none) (s x:Operand) (t:TypeId)
  (ho:o.op=.call { callee:=.builtin .append,args:=#[s,x],argTypes:=#[t,t] })
  (e:TypeId) (z:Value) (k bytes:Nat) (ht:P.underlying t=some (.slice e)) (hinfo:(P.info? e).map (fun i=>(i.zero,i.size,i.bytes))=some (some z,k,bytes)) (hzs:z.cells.size=k) (hsz:0 < k) (hby:bytes≤1000)
  (B:Nat) (v:Value) (n:Nat) (xs:List Value) (hs:a.eval s=v) (hown:Hid (w.ownsRow B e k v n xs))
  (S:Nat) (A:Option Addr) (m c:Nat) (cs:List Value) (hx:a.eval x=F A m c) (hr:Hid (br w S k A m cs)) (h1:∀ u ∈ cs,u.oneCell'=true)
  (hn:n+m≤1000000000) (hbase:B≤w.heap.size)
  (h:∀ v' w',Hid (w'.ownsRow B e k v' (n+m) (xs++cs))→w.grownBy w' v.ownBlock→Below B w w'→(v'.ownBlock=v.ownBlock ∨ v'.ownBlock=some w.heap.size)→wpList P ops Q rest (a.put o.dst v') w'):wpList P ops Q (o :: rest) a w :=
 wpList_plain hgd fun _ hK=>rE s x t ho e z k bytes ht hinfo hzs hsz hby B v n xs hs hown S A m c cs hx hr h1 hn hbase fun v' w' h2 h3 h4 h5=>hK _ _ (h v' w' h2 h3 h4 h5)
theorem cz {w:World} {B g:Nat} {e:TypeId} {k:Nat} (h:ai w g e []) (hB:B≤g):w.ownsRow B e k (F (some ⟨g,0,none⟩) 0 0) 0 []:=h.own hB (by simp) (by unfold maxLen; omega)
theorem ai.setCells {g:Nat} {t:TypeId} : ∀ (vs:List Value) (o:Nat) (w:World) (cs:List Value),ai w g t cs→o+vs.length≤cs.length→ai (w.setCells g o vs) g t (aV cs o vs)
 | [],o,w,cs,h,_=>by simpa [World.setCells,aV] using h
 | v :: r,o,w,cs,h,hl=>by
  rw [World.setCells]
  have h2:=ai.setCells r (o+1) (w.setCell ⟨g,o,none⟩ v) (cs.set o v) (h.set o v) (by simp at hl ⊢; omega)
  have e:aV (cs.set o v) (o+1) r=aV cs o (v :: r):=by
   unfold aV
   have hlt:o < cs.length:=by simp at hl; omega
   have e1:(cs.set o v).take (o+1)=cs.take o++[v]:=by
    rw [List.take_set,List.take_succ_eq_append_getElem hlt,List.set_append_right _ _ (by rw [List.length_take]; omega)]
    rw [List.length_take,Nat.min_eq_left (by omega),Nat.sub_self]; rfl
   have e2:(cs.set o v).drop (o+1+r.length)=cs.drop (o+(v :: r).length):=by
    rw [List.drop_set_of_lt (by omega)]; congr 1; simp; omega
   rw [e1,e2]; simp
  rw [e] at h2; exact h2
theorem fa {a:World} {g:Nat} : ∀ (vs:List Value) (o:Nat) (w:World),a.grownBy w (some g)→a.grownBy (w.setCells g o vs) (some g)
 | [],_,_,h=>h
 | v :: r,o,w,h=>by
  rw [World.setCells]
  have hs:a.grownBy (w.setCell ⟨g,o,none⟩ v) (some g) :=
   ⟨h.os,h.tape,h.output,by have:=h.size; simpa [World.setCell] using this,fun k hk hne=>(Below.heap_setCell w ⟨g,o,none⟩ v k (fun e=>hne (by rw [e]))).trans (h.block k hk hne)⟩
  exact fa r (o+1) _ hs
theorem ai.drew {w:World} {g:Nat} {t:TypeId} {cs:List Value} (h:ai w g t cs):ai w.drew g t cs:=h
theorem pm {P:Program} (w:World) (dT sT ty elem:TypeId) (k b o dLen dCap:Nat) (a:Addr) (sLen sCap:Nat) (cs:List Value)
  (hu:P.underlying dT=some (.slice elem)) (hs:(P.info? elem).map (·.size)=some k) (hn:cs.length=Nat.min sLen dLen * k)
  (hsrc:∀ j v,cs[j]?=some v→w.cell? (a.add j)=some v) (hc:∀ j,j < cs.length→(w.cell? ⟨b,o+j,none⟩).isSome=true) (hf:∀ j,j < cs.length→w.frozen? ⟨b,o+j,none⟩=false) (h1:∀ v ∈ cs,v.oneCell'=true) :
  (Builtin.copy_ #[dT,sT] ty #[F (some ⟨b,o,none⟩) dLen dCap,F (some a) sLen sCap]).run P w=.ok (goInt (Nat.min sLen dLen)) (w.setCells b o cs):=by
 have hst:=run_storeCells_cells (P:=P) b o cs 0 w (by simpa using hc) (by simpa using hf) h1
 cases hq:P.info? elem with
 | none=>simp [hq] at hs
 | some i =>
  have hi:i.size=k:=by simpa [hq] using hs
  have hfc:=run_firstCells_some (P:=P) w k (Nat.min sLen dLen) a sLen sCap cs hn hsrc
  simp [Builtin.copy_,run_underlying hu,Builtin.lenOf,sizeOf,typeInfo,hq,hi,hfc,hst]
theorem ng {P:Program} (w:World) (dT sT ty elem e:TypeId) (k b o dLen dCap:Nat) (a:Addr) (sLen sCap m:Nat) (cs cur:List Value)
  (hu:P.underlying dT=some (.slice elem)) (hs:(P.info? elem).map (·.size)=some k) (hm:Nat.min sLen dLen=m) (hn:cs.length=m * k)
  (hL:ai w b e cur) (hfit:o+cs.length≤cur.length) (hsrc:∀ j v,cs[j]?=some v→w.cell? (a.add j)=some v) (h1:∀ v ∈ cs,v.oneCell'=true) :
  (Builtin.copy_ #[dT,sT] ty #[F (some ⟨b,o,none⟩) dLen dCap,F (some a) sLen sCap]).run P w=.ok (goInt m) (w.setCells b o cs):=by
 subst hm
 exact pm w dT sT ty elem k b o dLen dCap a sLen sCap cs hu hs hn hsrc (fun j hj=>by rw [hL.cell,List.getElem?_eq_getElem (by omega)]; rfl) (fun j hj=>hL.frozen _) h1
theorem nW {P:Program} (w:World) (t e ty:TypeId) (z:Value) (zs:List Value) (ht:P.underlying t=some (.slice e)) (hv:∀ w,(zeroValue e).run P w=.ok z w) (b o n c:Nat) (hn:0 < n) (hz:(Builtin.zeroCells z.cells n).toList=zs) (h1:∀ v ∈ zs,v.oneCell'=true)
  (hc:∀ j,j < zs.length→(w.cell? ⟨b,o+j,none⟩).isSome=true) (hf:∀ j,j < zs.length→w.frozen? ⟨b,o+j,none⟩=false) :
  (Builtin.clear_ #[t] ty #[F (some ⟨b,o,none⟩) n c]).run P w=.ok (.tuple #[]) (w.setCells b o zs):=by
 have hst:=run_storeCells_cells (P:=P) b o zs 0 w (by simpa using hc) (by simpa using hf) h1
 simp only [Nat.add_zero] at hst
 obtain ⟨m,rfl⟩ : ∃ m,n=m+1:=⟨n - 1,by omega⟩
 simp [Builtin.clear_,run_underlying ht,hv,hz,hst]
theorem jh (cur xs x:List Value) (i k n:Nat) (hx:x.length=k) (hxs:xs.length=n * k) (hi:i≤n) (hcur:cur.take (n * k)=xs) (hroom:(n+1) * k≤cur.length) :
  (aV (aV cur (i * k+k) (xs.drop (i * k))) (i * k) x).take ((n+1) * k)=xs.take (i * k)++x++xs.drop (i * k):=by
 have hik:i * k≤n * k:=Nat.mul_le_mul_right k hi
 have hn1:(n+1) * k=n * k+k:=Nat.succ_mul n k
 rw [hn1] at hroom ⊢
 have hl0:n * k≤cur.length:=by omega
 have et:(cur.take (i * k))=xs.take (i * k):=by rw [← hcur,List.take_take,Nat.min_eq_left hik]
 have hd:(xs.drop (i * k)).length=n * k - i * k:=by rw [List.length_drop,hxs]
 have e1:aV cur (i * k+k) (xs.drop (i * k))=cur.take (i * k+k)++xs.drop (i * k)++cur.drop (n * k+k):=by
  unfold aV; rw [hd]; congr 2; omega
 have l1:(cur.take (i * k+k)).length=i * k+k:=by rw [List.length_take]; omega
 rw [e1]
 unfold aV
 have e2:(cur.take (i * k+k)++xs.drop (i * k)++cur.drop (n * k+k)).take (i * k)=xs.take (i * k):=by
  rw [List.append_assoc,List.take_append_of_le_length (by omega),List.take_take,Nat.min_eq_left (by omega),et]
 have e3:(cur.take (i * k+k)++xs.drop (i * k)++cur.drop (n * k+k)).drop (i * k+x.length)=xs.drop (i * k)++cur.drop (n * k+k):=by
  rw [hx,List.append_assoc,List.drop_append_of_le_length (by omega),List.drop_of_length_le (by omega),List.nil_append]
 rw [e2,e3,← List.append_assoc]
 have l2:(xs.take (i * k)++x++xs.drop (i * k)).length=n * k+k:=by
  rw [List.length_append,List.length_append,List.length_take,hd,hxs,hx]; omega
 rw [List.take_append_of_le_length (by omega),List.take_of_length_le (by omega)]
theorem bD (cs vs:List Value) (o:Nat) (h:o+vs.length≤cs.length):(aV cs o vs).length=cs.length:=by
 unfold aV; simp; omega
theorem mr (cur xs zs:List Value) (i k n:Nat) (hz:zs.length=k) (hxs:xs.length=n * k) (hi:i < n) (hcur:cur.take (n * k)=xs) (hl:n * k≤cur.length) :
  (aV (aV cur (i * k) (xs.drop (i * k+k))) ((n - 1) * k) zs).take ((n - 1) * k)=xs.take (i * k)++xs.drop (i * k+k):=by
 have hik:i * k+k≤n * k:=by rw [← Nat.succ_mul]; exact Nat.mul_le_mul_right k hi
 have hn1:(n - 1) * k+k=n * k:=by rw [← Nat.succ_mul]; congr 1; omega
 have et:(cur.take (i * k))=xs.take (i * k):=by rw [← hcur,List.take_take,Nat.min_eq_left (by omega)]
 have hd:(xs.drop (i * k+k)).length=n * k - (i * k+k):=by rw [List.length_drop,hxs]
 have l1:(xs.take (i * k)++xs.drop (i * k+k)).length=(n - 1) * k:=by rw [List.length_append,List.length_take,hd,hxs]; omega
 have e1:(aV cur (i * k) (xs.drop (i * k+k))).take ((n - 1) * k)=xs.take (i * k)++xs.drop (i * k+k):=by
  unfold aV; rw [et,List.take_append_of_le_length (by omega),List.take_of_length_le (by omega)]
 have l2:(aV cur (i * k) (xs.drop (i * k+k))).length=cur.length:=bD _ _ _ (by rw [hd]; omega)
 have e2:(aV (aV cur (i * k) (xs.drop (i * k+k))) ((n - 1) * k) zs)=(aV cur (i * k) (xs.drop (i * k+k))).take ((n - 1) * k)++(zs++(aV cur (i * k) (xs.drop (i * k+k))).drop ((n - 1) * k+zs.length)):=by
  rw [aV,List.append_assoc]
 rw [e2,List.take_append_of_le_length (by rw [List.length_take]; omega),List.take_take,Nat.min_self,e1]
theorem kN (xs x Z:List Value) (i k n:Nat) (hx:x.length=k) (hxs:xs.length=n * k) (hi:i≤n) (hZ:(n+1) * k≤i * k+Z.length) :
  (aV (aV (xs.take (i * k)++Z) (i * k) x) ((i+1) * k) (xs.drop (i * k))).take ((n+1) * k)=xs.take (i * k)++x++xs.drop (i * k):=by
 have hik:i * k≤n * k:=Nat.mul_le_mul_right k hi
 have hn1:(n+1) * k=n * k+k:=Nat.succ_mul n k
 have hi1:(i+1) * k=i * k+k:=Nat.succ_mul i k
 rw [hn1] at hZ ⊢
 rw [hi1]
 have lt:(xs.take (i * k)).length=i * k:=by rw [List.length_take]; omega
 have ld:(xs.drop (i * k)).length=n * k - i * k:=by rw [List.length_drop,hxs]
 have e1:aV (xs.take (i * k)++Z) (i * k) x=xs.take (i * k)++x++Z.drop k:=by
  unfold aV
  rw [List.take_append_of_le_length (by omega),List.take_of_length_le (by omega),List.drop_append,List.drop_eq_nil_of_le (by omega),lt,hx,List.nil_append]
  congr 2; omega
 have l1:(xs.take (i * k)++x).length=i * k+k:=by rw [List.length_append,lt,hx]
 rw [e1]
 unfold aV
 have e2:(xs.take (i * k)++x++Z.drop k).take (i * k+k)=xs.take (i * k)++x:=by
  rw [List.take_append_of_le_length (by omega),List.take_of_length_le (by omega)]
 rw [e2]
 have l2:(xs.take (i * k)++x++xs.drop (i * k)).length=n * k+k:=by rw [List.length_append,l1,ld]; omega
 rw [List.take_append_of_le_length (by omega),List.take_of_length_le (by omega)]
theorem ai.shape {w:World} {g:Nat} {t:TypeId} {cs:List Value} (h:ai w g t cs):w.shape? g=some (t,cs.length):=by
 unfold ai at h; simp [World.shape?,h]
theorem gP {P : Program} (w : World) (f : FuncId) (fn : Func) (tS tR e : TypeId) (hf : P.funcs[f]? = some fn) (hname : (fn.name == "runtime.NumGoroutine") = false) (hb : fn.body.isNone = true) (hnx : Extern.findNext fn = none) (he : Extern.find fn = some (Extern.SlicesOverlaps.overlaps #[tS, tS] #[tR]))
  (ht:P.underlying tS=some (.slice e)) (size:Nat) (hz:∀ w,(Go.sizeOf e).run P w=.ok size w) (ga gb:Nat) (oa ob la ca lb cb:Nat) (hne:ga ≠ gb) (ta tb:TypeId) (xa xb:List Value) (hLa:ai w ga ta xa) (hLb:ai w gb tb xb) (hxb:xb.length ≠ 0) :
  (callFunc f #[F (some ⟨ga,oa,none⟩) la ca,F (some ⟨gb,ob,none⟩) lb cb]).run P w=.ok (.value (.bool false)) w:=by
 rw [run_callFunc_extern hf hname hb hnx he,Lib.run_overlaps_apart w tS tR e ht size hz ⟨ga,oa,none⟩ ⟨gb,ob,none⟩ la ca lb cb hne ta tb _ _ hLa.shape hLb.shape hxb (hLa.frozen _) (hLa.frozen _)]
 rfl
theorem mt {P:Program} (w:World) {o:Oper} {a:Act} {K:Act→World→Prop} {Q:Exit→Act→World→Prop} (d s:Operand) (t t' : TypeId)
  (ho:o.op=.call { callee:=.builtin .copy,args:=#[d,s],argTypes:=#[t,t'] }) (v u:Value) (hd:a.eval d=v) (hs:a.eval s=u) {v' : Value} {w' : World}
  (hr:(Builtin.copy_ #[t,t'] o.type #[v,u]).run P w=.ok v' w') (h:K (a.put o.dst v') w'):o.wp P a w K Q:=by
 unfold Oper.wp execOp
 simp only [ho,resolve,invoke,builtin,Sem.run_bind,Sem.run_pure,Result.andThen_ok,List.map_toArray,List.map_cons,List.map_nil,hd,hs,hr]
 exact h
theorem kO {P:Program} {w:World} {o:Oper} {a:Act} {K:Act→World→Prop} {Q:Exit→Act→World→Prop} (d s:Operand) (t:TypeId)
  (ho:o.op=.call { callee:=.builtin .copy,args:=#[d,s],argTypes:=#[t,t] }) (e elem:TypeId) (k b ofs dLen dCap:Nat) (A:Addr) (sLen sCap m:Nat) (cs cur:List Value)
  (hd:a.eval d=F (some ⟨b,ofs,none⟩) dLen dCap) (hs:a.eval s=F (some A) sLen sCap)
  (hu:P.underlying t=some (.slice elem)) (hi:(P.info? elem).map (·.size)=some k) (hm:Nat.min sLen dLen=m) (hn:cs.length=m * k)
  (hL:Hid (ai w b e cur)) (hfit:Hid (ofs+cs.length≤cur.length)) (hsrc:Hid (∀ j v,cs[j]?=some v→w.cell? (A.add j)=some v)) (h1:Hid (∀ v ∈ cs,v.oneCell'=true))
  (h:∀ w',Hid (ai w' b e (aV cur ofs cs))→w.grownBy w' (some b)→K (a.put o.dst (goInt m)) w'):o.wp P a w K Q :=
 mt w d s t t ho _ _ hd hs (ng w t t o.type elem e k b ofs dLen dCap A sLen sCap m cs cur hu hi hm hn hL.out hfit.out hsrc.out h1.out) (h _ (ai.setCells cs ofs w cur hL.out hfit.out) (fa cs ofs w (World.grownBy.refl w _)))
theorem cg {P:Program} {w:World} {ops:Array Oper} {rest:List Oper} {o:Oper} {a:Act} {Q:Exit→Act→World→Prop} (hgd:o.guard=none) (d s:Operand) (t:TypeId)
  (ho:o.op=.call { callee:=.builtin .copy,args:=#[d,s],argTypes:=#[t,t] }) (e elem:TypeId) (k b ofs dLen dCap:Nat) (A:Addr) (sLen sCap m:Nat) (cs cur:List Value)
  (hd:a.eval d=F (some ⟨b,ofs,none⟩) dLen dCap) (hs:a.eval s=F (some A) sLen sCap)
  (hu:P.underlying t=some (.slice elem)) (hi:(P.info? elem).map (·.size)=some k) (hm:Nat.min sLen dLen=m) (hn:cs.length=m * k)
  (hL:Hid (ai w b e cur)) (hfit:Hid (ofs+cs.length≤cur.length)) (hsrc:Hid (∀ j v,cs[j]?=some v→w.cell? (A.add j)=some v)) (h1:Hid (∀ v ∈ cs,v.oneCell'=true))
  (h:∀ w',Hid (ai w' b e (aV cur ofs cs))→w.grownBy w' (some b)→wpList P ops Q rest (a.put o.dst (goInt m)) w'):wpList P ops Q (o :: rest) a w :=
 wpList_plain hgd fun _ hK=>kO d s t ho e elem k b ofs dLen dCap A sLen sCap m cs cur hd hs hu hi hm hn hL hfit hsrc h1 fun w' h2 h3=>hK _ _ (h w' h2 h3)
theorem kl {P:Program} {w:World} {ops:Array Oper} {rest:List Oper} {o:Oper} {a:Act} {Q:Exit→Act→World→Prop} (hgd:o.guard=none) (d:Operand) (t:TypeId)
  (ho:o.op=.call { callee:=.builtin .clear,args:=#[d],argTypes:=#[t] }) (e el:TypeId) (z:Value) (zs:List Value) (b ofs n c:Nat) (cur:List Value) (hd:a.eval d=F (some ⟨b,ofs,none⟩) n c)
  (ht:P.underlying t=some (.slice e)) (hv:∀ w,(zeroValue e).run P w=.ok z w) (hn:0 < n) (hz:(Builtin.zeroCells z.cells n).toList=zs) (h1:∀ v ∈ zs,v.oneCell'=true)
  (hL:Hid (ai w b el cur)) (hfit:Hid (ofs+zs.length≤cur.length))
  (h:∀ w',Hid (ai w' b el (aV cur ofs zs))→w.grownBy w' (some b)→wpList P ops Q rest (a.put o.dst (.tuple #[])) w'):wpList P ops Q (o :: rest) a w:=by
 have hr:=nW (P:=P) w t e o.type z zs ht hv b ofs n c hn hz h1 (fun j hj=>by rw [hL.out.cell,List.getElem?_eq_getElem (by have:=hfit.out; omega)]; rfl) (fun j hj=>hL.out.frozen _)
 refine wpList_plain hgd fun K hK=>?_
 unfold Oper.wp execOp
 simp only [ho,resolve,invoke,builtin,Sem.run_bind,Sem.run_pure,Result.andThen_ok,List.map_toArray,List.map_cons,List.map_nil,hd,hr]
 exact hK _ _ (h _ (ai.setCells zs ofs w cur hL.out hfit.out) (fa zs ofs w (World.grownBy.refl w _)))
set_option maxRecDepth 100000 in
set_option maxHeartbeats 2000000 in
theorem pn (cf:aq→Int) (tv:Value) (g:Nat) (lb:Array Value) (eg:∀ args w,(callFunc g args).run Tryz.prog w=.ok (.enter g args) w) (A:Option Addr) (c:Nat) (l:List aq) (w:World)
  (hf:∀ (t:aq) (p:ao w.heap.size w),Calls Tryz.prog g (#[t.val,tv]++lb) p.val fun e w'=>e=.returned (O U (cf t))∧Below p.val.heap.size p.val w') (h:eX w w.heap.size A l) (hl:l.length≤1000000)
  (b:Nat) (hb:b≤l.length) (hlo:∀ i (h:i < l.length),i < b→cf l[i] < 0) (hhi:∀ i (h:i < l.length),b≤i→¬ cf l[i] < 0) (fd:Bool) (hfd:∀ h:b < l.length,fd=decide (cf l[b]=0)) (hfd' : b=l.length→fd=false) :
  Calls Tryz.prog 212 #[F A l.length c,tv,.func (.func g) #[] lb] w fun e w'=>e=.returned (.tuple #[O U b,.bool fd])∧Below w.heap.size w w':=by
 have hrd:=h.el
 have HC:=Lib.hid hf; clear hf
 have HLO:=Lib.hid hlo; clear hlo
 have HHI:=Lib.hid hhi; clear hhi
 have HFD:=Lib.hid hfd; clear hfd
 have HFD':=Lib.hid hfd'; clear hfd'
 go_enter Tryz.func212,Tryz.ntmps212
 go_wp2
 go_loopw [9,10] (fun s9 s10 wr=>∃ lo hi:Nat,s9=O U lo∧s10=O U hi∧lo≤b∧b≤hi∧hi≤l.length∧(∃ q:ao w.heap.size w,wr=q.val)) (fun s9 s10 _=>(intOf s10).toNat - (intOf s9).toNat)
 case atStart=>exact ⟨0,l.length,rfl,rfl,Nat.zero_le _,hb,Nat.le_refl _,ao.start _ _,rfl⟩
 case round =>
  obtain ⟨lo,hi,rfl,rfl,h1,h2,h3,⟨q,rfl⟩⟩:=hrel
  by_cases hlt:lo < hi
  ·have hm:(lo+hi) / 2 < l.length:=by omega
   obtain ⟨bb,off,rfl,hbb,hcell⟩:=hrd (by omega)
   obtain ⟨c0,c1⟩:=hcell ((lo+hi) / 2) hm
   have k1:cf l[(lo+hi) / 2] < 0→(lo+hi) / 2+1≤b:=fun hv=>by
    rcases Nat.lt_or_ge ((lo+hi) / 2) b with h | h
    ·exact h
    ·have:=HHI.out _ hm h; omega
   have k2 : ¬ cf l[(lo+hi) / 2] < 0→b≤(lo+hi) / 2:=fun hv=>by
    rcases Nat.lt_or_ge ((lo+hi) / 2) b with h | h
    ·have:=HLO.out _ hm h; omega
    ·exact h
   obtain ⟨x,hxe⟩ : ∃ x,x=l[(lo+hi) / 2]:=⟨_,rfl⟩
   rw [← hxe] at c0 c1 k1 k2
   have hcx:=fun p=>HC.out x p
   clear hxe hcell hrd
   by_cases hv:cf x < 0
   ·have K:=k1 hv
    clear k1 k2
    go_wp2_with fail
    refine (aK (Nat.le_refl _) (hcx _)).mono ?_
    rintro e w1 ⟨rfl,q1,rfl⟩
    go_wp2
    go_roundw
    case rel=>exact ⟨(lo+hi) / 2+1,hi,by go_num,rfl,K,h2,h3,⟨q1,rfl⟩⟩
    case measure=>simp [intOf]; omega
   ·have K:=k2 hv
    clear k1 k2
    go_wp2_with fail
    refine (aK (Nat.le_refl _) (hcx _)).mono ?_
    rintro e w1 ⟨rfl,q1,rfl⟩
    go_wp2
    go_roundw
    case rel=>exact ⟨lo,(lo+hi) / 2,rfl,by go_num,h1,K,by omega,⟨q1,rfl⟩⟩
    case measure=>simp [intOf]; omega
  ·obtain rfl:hi=b:=by omega
   obtain rfl:lo=hi:=by omega
   by_cases hlb:lo < l.length
   ·obtain ⟨bb,off,rfl,hbb,hcell⟩:=hrd (by omega)
    obtain ⟨c0,c1⟩:=hcell lo hlb
    have HE:=Lib.hid (HFD.out hlb)
    obtain ⟨x,hxe⟩ : ∃ x,x=l[lo]:=⟨_,rfl⟩
    rw [← hxe] at c0 c1 HE
    have hcx:=fun p=>HC.out x p
    clear hxe hcell hrd
    by_cases hv:cf x=0
    ·have hv' : (cf x == 0)=true:=by simp [hv]
     have HV:Hid (fd=true):=by unfold Hid; rw [HE.out,decide_eq_true hv]
     clear hv
     go_wp2_with fail
     refine (aK (Nat.le_refl _) (hcx _)).mono ?_
     rintro e w1 ⟨rfl,q1,rfl⟩
     go_wp2
     go_ret2
     exact ⟨by rw [HV.out]; rfl,q1.below⟩
    ·have hv' : (cf x == 0)=false:=by simp [hv]
     have HV:Hid (fd=false):=by unfold Hid; rw [HE.out,decide_eq_false hv]
     clear hv
     go_wp2_with fail
     refine (aK (Nat.le_refl _) (hcx _)).mono ?_
     rintro e w1 ⟨rfl,q1,rfl⟩
     go_wp2
     go_ret2
     exact ⟨by rw [HV.out]; rfl,q1.below⟩
   ·have HV:=Lib.hid (HFD'.out (by omega))
    clear hrd
    go_wp2
    go_ret2
    exact ⟨by rw [HV.out]; rfl,q.below⟩
theorem dF {l:List aq} : ∀ u ∈ l.flatMap aq.enc,u.oneCell'=true:=by
 intro u hu
 obtain ⟨r,_,hr⟩:=List.mem_flatMap.1 hu
 simp only [aq.enc,List.mem_cons,List.not_mem_nil,or_false] at hr
 rcases hr with rfl | rfl <;> rfl
theorem mu (A:Option Addr) (c:Nat) (l:List aq) (w:World) (h:eX w w.heap.size A l) (hn:l.length≤1000000) :
  Calls Tryz.prog 147 #[F A l.length c] w fun e w'=>∃ A' c',e=.returned (F A' l.length c')∧w'.ownsRow w.heap.size 104 2 (F A' l.length c') l.length (l.flatMap aq.enc)∧Below w.heap.size w w':=by
 rcases A with _ | ad
 ·have h0:l.length=0:=by
   rcases Nat.eq_zero_or_pos l.length with h0 | h0
   ·exact h0
   ·obtain ⟨_,_,h1,_⟩:=h.at_ h0; cases h1
  obtain rfl:l = []:=List.eq_nil_of_length_eq_zero h0
  have hq:=fun W=>Lib.run_eql_slice_nil (P:=Tryz.prog) W 37 104 none 0 c 0 0 Tryz.underlying37
  go_enter Tryz.func147,Tryz.ntmps147
  go_wp2_with fail
  go_ret
  exact ⟨none,0,rfl,⟨by simp,.inl ⟨rfl,rfl⟩⟩,Below.refl _ _⟩
 ·have HO:Hid ((w.alloc (.cells #[] 104)).ownsRow w.heap.size 104 2 (F (some ⟨w.heap.size,0,none⟩) 0 0) 0 []):=cz (ai.new w 104 #[]) (Nat.le_refl _)
  have b1:=(Below.refl w.heap.size w).alloc (Nat.le_refl _) (.cells #[] 104)
  have HR:=Lib.hid (br.below h b1)
  have hq:=fun W=>Lib.run_eql_slice_nil (P:=Tryz.prog) W 37 104 (some ad) l.length c 0 0 Tryz.underlying37
  go_enter Tryz.func147,Tryz.ntmps147
  go_wp2_with (at_builtin; refine fZ rfl _ _ 37 rfl 104 _ 2 16 Tryz.underlying37 dj rfl (by omega) (by omega) w.heap.size _ 0 [] rfl HO w.heap.size (some ad) l.length c (l.flatMap aq.enc) rfl HR dF (by omega) b1.size ?_; intro v' w1 hown _ hb2 _)
  go_ret
  have ho:=hown.out
  rw [Nat.zero_add,List.nil_append] at ho
  obtain ⟨A',c',rfl⟩:=aw ho
  exact ⟨A',c',rfl,ho,b1.trans hb2⟩
set_option maxRecDepth 100000 in
set_option maxHeartbeats 4000000 in
theorem nX (B:Nat) (v:Value) (n:Nat) (xs:List Value) (w:World) (hown:w.ownsRow B 104 2 v n xs) (hn:n≤1000000) (r:aq) (gx cx:Nat) (hx:ai w gx 104 r.enc) (hB:B≤w.heap.size) :
  Calls Tryz.prog 214 #[v,O U n,F (some ⟨gx,0,none⟩) 1 cx] w fun e w'=>∃ v',e=.returned v'∧w'.ownsRow B 104 2 v' (n+1) (xs++r.enc)∧w.grownBy w' v.ownBlock:=by
 obtain ⟨i0,hi0,hz0,hzs,hzb⟩:=info_parts dj
 obtain ⟨v',w',hrun,h2,h3,_,_⟩:=run_append_own_at (P:=Tryz.prog) w B 37 37 104 i0 _ 2 16 Tryz.underlying37 hi0 hz0 hzs hzb rfl (by omega) v n xs hown ⟨gx,0,none⟩ 1 cx r.enc rfl (fun j u hj=>by rw [bY,Nat.zero_add,hx.cell]; exact hj) (by simp [aq.enc,Value.oneCell']) (by unfold maxLen; omega) (by omega) hB
 have HO:=Lib.hid h2; clear h2
 have HG:=Lib.hid h3; clear h3
 have HR:=Lib.hid hrun; clear hrun
 obtain ⟨_,⟨rfl,rfl⟩ | ⟨g,cap,cur,rfl,hg,hh,hc,hc',_,_⟩⟩:=hown
 ·go_enter Tryz.func214,Tryz.ntmps214
  go_wp2_with (at_builtin; refine Lib.wpList_append_run _ rfl _ _ 37 37 rfl _ _ rfl rfl v' w' HR.out ?_)
  go_ret
  exact ⟨v',rfl,HO.out,HG.out⟩
 ·have hc2:cap≤9223372036854775807:=by unfold maxLen at hc'; omega
  clear hc'
  by_cases hcn:cap=n
  all_goals
   go_enter Tryz.func214,Tryz.ntmps214
   go_wp2_with (at_builtin; refine Lib.wpList_append_run _ rfl _ _ 37 37 rfl _ _ rfl rfl v' w' HR.out ?_)
   go_ret
   exact ⟨v',rfl,HO.out,HG.out⟩
set_option maxRecDepth 100000 in
set_option maxHeartbeats 4000000 in
theorem nh (B g n:Nat) (cur:Array Value) (xs:List Value) (w:World) (hL:ai w g 104 cur.toList) (hcs:cur.size=n * 2) (hcur:cur.toList.take (n * 2)=xs) (i:Nat) (hi:i < n) (hn:n≤1000000) (r:aq) (gx cx:Nat) (hx:ai w gx 104 r.enc) (hB:B≤w.heap.size) (h1:∀ u ∈ xs,u.oneCell'=true) :
  Calls Tryz.prog 214 #[F (some ⟨g,0,none⟩) n n,O U i,F (some ⟨gx,0,none⟩) 1 cx] w fun e w'=>∃ v',e=.returned v'∧w'.ownsRow B 104 2 v' (n+1) (xs.take (i * 2)++r.enc++xs.drop (i * 2))∧w.grownBy w' (some g):=by
 have mixed:Tryz.prog.follows .mixedOrders=true:=by kernel_rfl
 obtain ⟨i0,hi0,hz0,hzs,hzb⟩:=info_parts dj
 have hxl:xs.length=n * 2:=by rw [← hcur,List.length_take,Array.length_toList,hcs,Nat.min_self]
 have hik:i * 2≤n * 2:=Nat.mul_le_mul_right _ (by omega)
 have hsz:(Tryz.prog.info? 104).map (·.size)=some 2:=by rw [hi0]; simp [hzs]
 have hkk:(n:Int)+1 - (i:Int)=((n+1 - i:Nat):Int):=by omega
 have hik2:i+(n+1 - i)=n+1:=by omega
 have hcell:∀ j u,xs[j]?=some u→w.cell? ⟨g,j,none⟩=some u:=fun j u hu=>by
  rw [hL.cell]
  rw [← hcur,List.getElem?_take] at hu
  split at hu
  ·exact hu
  ·cases hu
 have hold:(Builtin.firstCells i0.size i (F (some ⟨g,0,none⟩) i n)).run Tryz.prog w.drew=.ok (xs.take (i * 2)).toArray w.drew:=by
  rw [hzs]
  exact run_firstCells_some w.drew 2 i ⟨g,0,none⟩ i n (xs.take (i * 2)) (by rw [List.length_take]; omega) (fun j u hj=>by
   rw [bY,Nat.zero_add]
   rw [List.getElem?_take] at hj
   split at hj
   ·exact hcell j u hj
   ·cases hj)
 have hrz:=Lib.run_append_grow_zeros (P:=Tryz.prog) w 37 3 37 104 i0 _ .i64 .i64 Tryz.underlying37 Tryz.underlying3 hi0 hz0 (some ⟨g,0,none⟩) i n (xs.take (i * 2)) hold (n+1 - i) (by omega) (by omega) (by omega) (by omega) (by rw [hzb]; omega) (by rw [hzb,hik2]; exact growslice_fits (by omega) (by omega))
 rw [hik2,← hkk] at hrz
 obtain ⟨G,hG⟩ : ∃ G,G=grownCap w (n+1) n 104:=⟨_,rfl⟩
 have hGn:n+1≤G:=by rw [hG]; exact grownCap_ge w _ _ _
 have hG63:G≤maxLen:=by rw [hG]; exact grownCap_le_maxLen w (n+1) n 104 (by unfold maxLen; omega)
 have hG64:G≤9223372036854775807:=by unfold maxLen at hG63; omega
 rw [← hG] at hrz
 obtain ⟨Z,hZ⟩ : ∃ Z:List Value,Z=(Builtin.zeroCells (Value.agg #[O U 0,O U 0]).cells (n+1 - i)++Builtin.zeroCells (Value.agg #[O U 0,O U 0]).cells (G - (n+1))).toList:=⟨_,rfl⟩
 have hZl:Z.length=(n+1 - i) * 2+(G - (n+1)) * 2:=by rw [hZ,Array.length_toList,Array.size_append,size_zeroCells,size_zeroCells]; rfl
 obtain ⟨ROW,hROW⟩ : ∃ ROW:Array Value,ROW=(xs.take (i * 2)).toArray++Builtin.zeroCells (Value.agg #[O U 0,O U 0]).cells (n+1 - i)++Builtin.zeroCells (Value.agg #[O U 0,O U 0]).cells (G - (n+1)):=⟨_,rfl⟩
 have hRl:ROW.toList=xs.take (i * 2)++Z:=by rw [hROW,hZ]; simp
 rw [← hROW] at hrz
 clear hROW hZ hG hold hcs hcur
 obtain ⟨W1,hW1⟩ : ∃ W1,W1=w.drew.alloc (.cells ROW 104):=⟨_,rfl⟩
 rw [← hW1] at hrz
 have LN:ai W1 w.heap.size 104 (xs.take (i * 2)++Z):=by rw [hW1,← hRl]; exact ai.new w.drew 104 ROW
 have hb1:Below w.heap.size w W1:=by rw [hW1]; exact ((Below.refl w.heap.size w).drew).alloc (Nat.le_refl _) _
 have hLg:g < w.heap.size:=hL.lt
 have hLx:gx < w.heap.size:=hx.lt
 clear hW1 hRl ROW
 have hlen:(xs.take (i * 2)++Z).length=G * 2:=by
  rw [List.length_append,List.length_take,hZl,hxl,Nat.min_eq_left hik,← Nat.add_mul,← Nat.add_mul]; congr 1; omega
 have hGk:(n+1) * 2≤G * 2:=Nat.mul_le_mul_right _ hGn
 have hnk:(n+1) * 2=n * 2+2:=Nat.succ_mul n 2
 have HL0:=Lib.hid LN; clear LN
 have HF0:Hid (i * 2+r.enc.length≤(xs.take (i * 2)++Z).length):=by unfold Hid; rw [aq.enc_len,hlen]; omega
 have HX1:Hid (∀ j v,r.enc[j]?=some v→W1.cell? ((⟨gx,0,none⟩ : Addr).add j)=some v):=fun j u hj=>by rw [bY,Nat.zero_add,(hx.below hb1 hLx).cell]; exact hj
 have HE1:Hid (∀ v ∈ r.enc,v.oneCell'=true):=by unfold Hid; simp [aq.enc,Value.oneCell']
 have HE2:Hid (∀ v ∈ xs.drop (i * 2),v.oneCell'=true):=fun v hv=>h1 v (List.mem_of_mem_drop hv)
 have HC:Hid (∀ j u,xs[j]?=some u→W1.cell? ⟨g,j,none⟩=some u):=fun j u hu=>(hb1.cell hLg).trans (hcell j u hu)
 have HLn:Hid ((xs.take (i * 2)++Z).length=G * 2):=hlen
 have HXL:=Lib.hid hxl
 have HDL:Hid ((xs.drop (i * 2)).length=(n - i) * 2):=by unfold Hid; rw [List.length_drop,hxl,Nat.sub_mul]
 have hGi : ¬ (G=i):=by omega
 have hGi1 : ¬ (G=i+1):=by omega
 have hni : ¬ (n=i):=by omega
 have hz2 : ¬ ((i:Int)=(n:Int)):=by omega
 have hz3:(n:Int) < (n:Int)+1:=by omega
 have hmin1:Nat.min 1 (n+1 - i)=1:=by simp only [Nat.min_def]; split <;> omega
 have hmin2:Nat.min (n - i) (n - i)=n - i:=Nat.min_self _
 have hw1:IntKind.i64.wrap ((i:Int)+1)=(i:Int)+1:=by rw [IntKind.wrap_i64]; omega
 have hb1' : (0:Int)≤(i:Int)+1:=by omega
 have hin:i≤n:=by omega
 have HR:=hrz
 clear hrz hcell hL h1 hx hlen hxl hik2 hkk hsz
 go_enter Tryz.func214,Tryz.ntmps214
 go_wp2_with (first
  | (at_builtin; refine Lib.wpList_append_run _ rfl _ _ 37 3 rfl _ _ rfl rfl _ _ HR ?_)
  | (with_reducible show wpList _ _ _ (Oper.mk (some 45) _ _ _ _ _ :: _) _ _; refine cg rfl _ _ 37 rfl 104 104 2 w.heap.size (i * 2) (n+1 - i) (G - i) ⟨gx,0,none⟩ 1 cx 1 r.enc _ rfl rfl Tryz.underlying37 ?u1 ?u2 (by rw [aq.enc_len]) HL0 HF0 HX1 HE1 ?_; rotate_right; intro W2 HL2 hg2))
 case u1=>rw [hi0]; simp [hzs]
 case u2=>exact hmin1
 have hWs:w.heap.size≤W1.heap.size:=hb1.size
 have hW1g:w.heap.size < W1.heap.size:=HL0.out.lt
 have LG2:∀ j u,xs[j]?=some u→W2.cell? ⟨g,j,none⟩=some u:=fun j u hu=>(ii hg2 ⟨g,j,none⟩ (by simp only; omega) (by simp only; intro e; injection e with e; omega)).trans (HC.out j u hu)
 have HL2' : Hid (ai W2.drew w.heap.size 104 (aV (xs.take (i * 2)++Z) (i * 2) r.enc)):=HL2.out.drew
 have HF2:Hid ((i+1) * 2+(xs.drop (i * 2)).length≤(aV (xs.take (i * 2)++Z) (i * 2) r.enc).length):=by
  unfold Hid
  rw [bD _ _ _ HF0.out,HLn.out,HDL.out,← Nat.add_mul]
  exact Nat.mul_le_mul_right _ (by omega)
 have HX2:Hid (∀ j v,(xs.drop (i * 2))[j]?=some v→W2.drew.cell? ((⟨g,i * 2,none⟩ : Addr).add j)=some v):=fun j u hj=>by
  rw [bY]; exact LG2 _ u (by rwa [List.getElem?_drop] at hj)
 clear LG2 HX1
 go_still_tail 8,(by kernel_rfl)
 change wpList _ _ _ _ _ W2.drew
 go_wp2_with (with_reducible show wpList _ _ _ (Oper.mk (some 54) _ _ _ _ _ :: _) _ _; refine cg rfl _ _ 37 rfl 104 104 2 w.heap.size ((i+1) * 2) (n - i) (G - (i+1)) ⟨g,i * 2,none⟩ (n - i) (n - i) (n - i) (xs.drop (i * 2)) _ rfl rfl Tryz.underlying37 ?v3 hmin2 HDL.out HL2' HF2 HX2 HE2 ?_; rotate_right; intro W3 HL3 hg3)
 case v3=>rw [hi0]; simp [hzs]
 go_ret
 have hw3:Below w.heap.size w W3:=((hb1.grown hg2 hWs (by rintro _ ⟨⟩; exact Nat.le_refl _)).drew).grown hg3 (by have:=hg2.size; simp; omega) (by rintro _ ⟨⟩; exact Nat.le_refl _)
 refine ⟨_,rfl,⟨?_,.inr ⟨w.heap.size,G,(aV (aV (xs.take (i * 2)++Z) (i * 2) r.enc) ((i+1) * 2) (xs.drop (i * 2))).toArray,rfl,hB,HL3.out,hGn,hG63, ?_, ?_⟩⟩,⟨hw3.os,hw3.tape,hw3.output,hw3.size,fun j hj _=>hw3.block j hj⟩⟩
 ·rw [List.length_append,List.length_append,List.length_take,aq.enc_len,HDL.out,HXL.out,Nat.sub_mul]; omega
 ·rw [List.size_toArray,bD _ _ _ HF2.out,bD _ _ _ HF0.out,HLn.out]
 ·show List.take _ (aV _ _ _)=_
  exact kN xs r.enc Z i 2 n (aq.enc_len r) HXL.out hin (by rw [hZl,← Nat.add_mul,← Nat.add_mul]; exact Nat.mul_le_mul_right _ (by omega))
set_option maxRecDepth 100000 in
set_option maxHeartbeats 4000000 in
theorem ni (B g n cap:Nat) (cur:Array Value) (xs:List Value) (w:World) (hL:ai w g 104 cur.toList) (hcs:cur.size=cap * 2) (hroom:n+1≤cap) (hcm:cap≤maxLen) (hcur:cur.toList.take (n * 2)=xs) (i:Nat) (hi:i < n) (hn:n≤1000000) (r:aq) (gx cx:Nat) (hx:ai w gx 104 r.enc) (hne:gx ≠ g) (hB:B≤g) (h1:∀ u ∈ xs,u.oneCell'=true) :
  Calls Tryz.prog 214 #[F (some ⟨g,0,none⟩) n cap,O U i,F (some ⟨gx,0,none⟩) 1 cx] w fun e w'=>∃ v',e=.returned v'∧w'.ownsRow B 104 2 v' (n+1) (xs.take (i * 2)++r.enc++xs.drop (i * 2))∧w.grownBy w' (some g):=by
 have mixed:Tryz.prog.follows .mixedOrders=true:=by kernel_rfl
 obtain ⟨i0,hi0,hz0,hzs,hzb⟩:=info_parts dj
 have hnk:n * 2≤cap * 2:=Nat.mul_le_mul_right _ (by omega)
 have hnk1:(n+1) * 2≤cap * 2:=Nat.mul_le_mul_right _ hroom
 have hcl:cur.toList.length=cap * 2:=by rw [Array.length_toList,hcs]
 have hxl:xs.length=n * 2:=by rw [← hcur,List.length_take,hcl]; omega
 have hik:i * 2≤n * 2:=Nat.mul_le_mul_right _ (by omega)
 have hcell:∀ j u,xs[j]?=some u→w.cell? ⟨g,j,none⟩=some u:=fun j u hu=>by
  rw [hL.cell]
  rw [← hcur,List.getElem?_take] at hu
  split at hu
  ·exact hu
  ·cases hu
 have hov:∀ ob lb cb,(callFunc 233 #[F (some ⟨gx,0,none⟩) 1 cx,F (some ⟨g,ob,none⟩) lb cb]).run Tryz.prog w=.ok (.value (.bool false)) w:=fun ob lb cb =>
  gP w 233 Tryz.f233 37 4 104 (by kernel_rfl) (by kernel_rfl) (by kernel_rfl) (by kernel_rfl) (by kernel_rfl) Tryz.underlying37 2 Tryz.sizeOf104 gx g 0 ob 1 cx lb cb hne _ _ _ _ hx hL (by rw [hcl]; omega)
 have hc63:cap≤9223372036854775807:=by unfold maxLen at hcm; omega
 have HL0:=Lib.hid hL
 have HE1:Hid (∀ v ∈ r.enc,v.oneCell'=true):=by unfold Hid; simp [aq.enc,Value.oneCell']
 have HE2:Hid (∀ v ∈ xs.drop (i * 2),v.oneCell'=true):=fun v hv=>h1 v (List.mem_of_mem_drop hv)
 have HXL:=Lib.hid hxl
 have HCL:=Lib.hid hcl
 have HCU:=Lib.hid hcur
 have HCM:=Lib.hid hcm
 have HDL:Hid ((xs.drop (i * 2)).length=(n - i) * 2):=by unfold Hid; rw [List.length_drop,hxl,Nat.sub_mul]
 have HFA:Hid ((i+1) * 2+(xs.drop (i * 2)).length≤cur.toList.length):=by
  unfold Hid; rw [HDL.out,hcl,← Nat.add_mul]; exact Nat.mul_le_mul_right _ (by omega)
 have HXA:Hid (∀ j v,(xs.drop (i * 2))[j]?=some v→w.drew.cell? ((⟨g,i * 2,none⟩ : Addr).add j)=some v):=fun j u hj=>by
  rw [bY]; exact hcell _ u (by rwa [List.getElem?_drop] at hj)
 have HLA:Hid (ai w.drew g 104 cur.toList):=hL.drew
 have hxlt:gx < w.heap.size:=hx.lt
 have HX:=Lib.hid hx
 have hz1 : ¬ ((i:Int)=(n:Int)):=by omega
 have hz2 : ¬ ((cap:Int) < (n:Int)+1):=by omega
 have hci : ¬ (cap=i):=by omega
 have hci1 : ¬ (cap=i+1):=by omega
 have hin:i≤n:=by omega
 have hin1:i≤n+1:=by omega
 have hint:(i:Int)≤(n:Int)+1:=by omega
 have hw1:IntKind.i64.wrap ((i:Int)+1)=(i:Int)+1:=by rw [IntKind.wrap_i64]; omega
 have hb1' : (0:Int)≤(i:Int)+1:=by omega
 have hmin2:Nat.min (n+1 - i) (n - i)=n - i:=by simp only [Nat.min_def]; split <;> omega
 have hmin1:Nat.min 1 (n+1 - i)=1:=by simp only [Nat.min_def]; split <;> omega
 clear hcl hcur hcs hxl hL hx hcell h1 hcm
 go_enter Tryz.func214,Tryz.ntmps214
 go_wp2_with (simp only [hov])
 go_still_tail 8,(by kernel_rfl)
 change wpList _ _ _ _ _ w.drew
 go_wp2_with (first
  | (with_reducible show wpList _ _ _ (Oper.mk (some 77) _ _ _ _ _ :: _) _ _; refine cg rfl _ _ 37 rfl 104 104 2 g ((i+1) * 2) (n - i) (cap - (i+1)) ⟨g,i * 2,none⟩ (n+1 - i) (cap - i) (n - i) (xs.drop (i * 2)) _ rfl rfl Tryz.underlying37 ?v3 hmin2 HDL.out HLA HFA HXA HE2 ?_; rotate_right; intro W2 HL2 hg2)
  | (with_reducible show wpList _ _ _ (Oper.mk (some 82) _ _ _ _ _ :: _) _ _; refine cg rfl _ _ 37 rfl 104 104 2 g (i * 2) (n+1 - i) (cap - i) ⟨gx,0,none⟩ 1 cx 1 r.enc _ rfl rfl Tryz.underlying37 ?v4 hmin1 ?v5 HL2 ?v6 ?v7 HE1 ?_; rotate_right; intro W3 HL3 hg3))
 case v3=>rw [hi0]; simp [hzs]
 case v4=>rw [hi0]; simp [hzs]
 case v5=>rw [aq.enc_len]
 case v6=>unfold Hid; rw [bD _ _ _ HFA.out,HCL.out,aq.enc_len]; omega
 case v7=>exact fun j u hj=>by rw [bY,Nat.zero_add,(ii hg2 ⟨gx,j,none⟩ hxlt (by simp only; intro e; injection e with e; exact hne e)),HX.out.drew.cell]; exact hj
 have HF6:Hid (i * 2+r.enc.length≤(aV cur.toList ((i+1) * 2) (xs.drop (i * 2))).length):=by unfold Hid; rw [bD _ _ _ HFA.out,HCL.out,aq.enc_len]; omega
 go_ret
 have e1:(i+1) * 2=i * 2+2:=Nat.succ_mul i 2
 refine ⟨_,rfl,⟨?_,.inr ⟨g,cap,(aV (aV cur.toList ((i+1) * 2) (xs.drop (i * 2))) (i * 2) r.enc).toArray,rfl,hB,HL3.out,hroom,HCM.out, ?_, ?_⟩⟩, ?_⟩
 ·rw [List.length_append,List.length_append,List.length_take,aq.enc_len,HDL.out,HXL.out,Nat.sub_mul]; omega
 ·rw [List.size_toArray,bD _ _ _ HF6.out,bD _ _ _ HFA.out,HCL.out]
 ·show List.take _ (aV _ _ _)=_
  rw [e1]
  exact jh cur.toList xs r.enc i 2 n (aq.enc_len r) HXL.out hin HCU.out (by rw [HCL.out]; exact hnk1)
 ·exact ⟨hg3.os.trans hg2.os,hg3.tape.trans hg2.tape,hg3.output.trans hg2.output,Nat.le_trans hg2.size hg3.size,fun j hj hq=>(hg3.block j (Nat.lt_of_lt_of_le hj hg2.size) hq).trans (hg2.block j hj hq)⟩
theorem nY (B:Nat) (v:Value) (n:Nat) (xs:List Value) (w:World) (hown:w.ownsRow B 104 2 v n xs) (hn:n≤1000000) (i:Nat) (hi:i≤n) (r:aq) (gx cx:Nat) (hx:ai w gx 104 r.enc) (hne:v.ownBlock ≠ some gx) (hB:B≤w.heap.size) (h1:∀ u ∈ xs,u.oneCell'=true) :
  Calls Tryz.prog 214 #[v,O U i,F (some ⟨gx,0,none⟩) 1 cx] w fun e w'=>∃ v',e=.returned v'∧w'.ownsRow B 104 2 v' (n+1) (xs.take (i * 2)++r.enc++xs.drop (i * 2))∧w.grownBy w' v.ownBlock:=by
 rcases Nat.lt_or_ge i n with hlt | hge
 ·obtain ⟨hl,⟨rfl,rfl⟩ | ⟨g,cap,cur,rfl,hg,hh,hc,hc',hcs,hct⟩⟩:=hown
  ·omega
  ·by_cases hcn:cap=n
   ·subst hcn
    exact nh B g cap cur xs w hh hcs hct i hlt hn r gx cx hx hB h1
   ·exact ni B g n cap cur xs w hh hcs (by omega) hc' hct i hlt hn r gx cx hx (fun e=>hne (by rw [e]; rfl)) hg h1
 ·have e:i=n:=by omega
  subst e
  have hl:=hown.1
  rw [List.take_of_length_le (by omega),List.drop_eq_nil_of_le (by omega),List.append_nil]
  exact nX B v i xs w hown hn r gx cx hx hB
end Go.Proofs.YtoeoimhemojdeaaGreatDoor
