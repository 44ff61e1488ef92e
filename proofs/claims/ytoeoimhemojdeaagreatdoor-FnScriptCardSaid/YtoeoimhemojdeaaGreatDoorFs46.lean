/- Lemmas. -/
import Derived.Test.YtoeoimhemojdeaaGreatDoorFs39
import Derived.Test.YtoeoimhemojdeaaGreatDoorFs40
import Derived.Test.YtoeoimhemojdeaaGreatDoorFs41
import Derived.Test.YtoeoimhemojdeaaGreatDoorFs42
import Derived.Test.YtoeoimhemojdeaaGreatDoorFs43
import Derived.Test.YtoeoimhemojdeaaGreatDoorFs44
import Derived.Test.YtoeoimhemojdeaaGreatDoorFs45

set_option linter.unusedVariables false
set_option linter.unusedSimpArgs false
set_option maxHeartbeats 8000000
open Go.Value renaming int → O, slice → F, string → wG
open Go.IntKind renaming i64 → U
open Go.Proofs.Tryz renaming prog → wH

namespace Go.Proofs.YtoeoimhemojdeaaGreatDoor
open Go.RowKit
theorem oA (x:aO) (g:Nat) (s:df) (w:World) (h:cw w w.heap.size g x) (G:bK x) (hs:s.ok=true) :
  Calls wH 186 #[.pointer (some ⟨g,0,none⟩),s.val] w (aF w (bj x.c s)):=by
 have hS:s.okS=true:=by rw [df.ok_okS,Bool.and_eq_true] at hs; exact hs.1
 obtain ⟨xl,hI⟩:=df.okS_is hS
 clear hS hs
 obtain ⟨kd,st,pe,va⟩:=s
 by_cases hT:ay x.t st < 0
 ·cases hI with
  | get hk hp hv=>simp only at hk hp hv xl; subst hk; exact rB x g st pe va w h G hT xl hp hv
  | show_ hk hp hv=>simp only at hk; subst hk; exact fV x g 2 st pe va w h G rfl hT
  | back hk hp hv=>simp only at hk; subst hk; exact fV x g 3 st pe va w h G rfl hT
  | sell0 hk hp hv=>simp only at hk; subst hk; exact fV x g 4 st pe va w h G rfl hT
  | sell hk hp hv=>simp only at hk; subst hk; exact fV x g 4 st pe va w h G rfl hT
  | miss hk hp hv=>simp only at hk; subst hk; exact fV x g 5 st pe va w h G rfl hT
  | move hk hp hv=>simp only at hk; subst hk; exact fV x g 6 st pe va w h G rfl hT
 ·have h0:0≤ay x.t st:=oM
  have hi:=mb h0
  have hx:ay x.t st=((ay x.t st).toNat:Int):=oM
  generalize (ay x.t st).toNat=i at hi hx
  cases hI with
  | get hk hp hv=>simp only at hk hp hv; subst hk; exact rA x g st pe va w h G i hi hx hp hv
  | show_ hk hp hv=>simp only at hk hp hv; subst hk; exact uE x g st pe va w h G i hi hx hp hv
  | sell0 hk hp hv=>simp only at hk hp hv; subst hk; exact sO x g st pe va w h G i hi hx hp hv
  | back hk hp hv =>
   simp only at hk hp hv; subst hk
   by_cases hn:aP st pe x.o=0
   ·exact lU x g 3 st pe va w h G rfl rfl i hi hx oM hn
   ·exact uD x g st pe va w h G i hi hx hp hv hn
  | sell hk hp hv =>
   simp only at hk hp hv; subst hk
   by_cases hn:aP st pe x.o=0
   ·exact lU x g 4 st pe va w h G rfl rfl i hi hx oM hn
   ·exact uC x g st pe va w h G i hi hx hp hv hn
  | miss hk hp hv =>
   simp only at hk hp hv; subst hk
   by_cases hn:aP st pe x.o=0
   ·exact lU x g 5 st pe va w h G rfl rfl i hi hx oM hn
   ·exact uB x g st pe va w h G i hi hx hp hn
  | move hk hp hv =>
   simp only at hk hp hv; subst hk
   by_cases hn:aP st pe x.o=0
   ·exact lU x g 6 st pe va w h G rfl rfl i hi hx oM hn
   ·exact uA x g st pe va w h G i hi hx hp hv hn
theorem mB (s:df) (w:World) :
  Calls wH 185 #[s.val] w fun e w'=>e=.returned (.bool s.ok)∧Below w.heap.size w w':=by
 obtain ⟨kd,st,pe,va⟩:=s
 have b1:=bZ w (.cells #[O U kd,O U st,O U pe,O U va] 112)
 obtain ⟨ok,wP⟩ : ∃ ok,ok=df.ok ⟨kd,st,pe,va⟩:=⟨_,rfl⟩
 rw [← wP]
 unfold df.ok at wP
 simp only at wP
 have HO:=jZ wP
 clear wP
 cases h1:cg st 1 99
 ·go_enter Tryz.func185,Tryz.ntmps185
  go_wp2_with (go_at_call 75; refine (aN _ _ _ _).mono ?_; rintro e w1 ⟨rfl,rfl⟩)
  go_ret
  exact ⟨by rw [HO.out,h1]; rfl,b1⟩
 ·by_cases k1:kd=1
  ·subst k1
   cases h2:(pe == 0)
   all_goals
    go_enter Tryz.func185,Tryz.ntmps185
    go_wp2_with (first | (go_at_call 75; refine (aN _ _ _ _).mono ?_; rintro e w1 ⟨rfl,rfl⟩) | (go_at_call 117; refine (bQ _ _).mono ?_; rintro e w1 ⟨rfl,rfl⟩))
    go_ret
    exact ⟨by rw [HO.out]; simp_all <;> rfl,b1⟩
  ·by_cases k2:kd=2
   ·subst k2
    cases h2:cg pe 1 999
    all_goals
     go_enter Tryz.func185,Tryz.ntmps185
     go_wp2_with (first | (go_at_call 75; refine (aN _ _ _ _).mono ?_; rintro e w1 ⟨rfl,rfl⟩) | (go_at_call 117; refine (bQ _ _).mono ?_; rintro e w1 ⟨rfl,rfl⟩))
     go_ret
     exact ⟨by rw [HO.out]; simp_all <;> rfl,b1⟩
   ·by_cases k3:kd=3
    ·subst k3
     cases h2:cg pe 1 999
     all_goals
      go_enter Tryz.func185,Tryz.ntmps185
      go_wp2_with (first | (go_at_call 75; refine (aN _ _ _ _).mono ?_; rintro e w1 ⟨rfl,rfl⟩) | (go_at_call 117; refine (bQ _ _).mono ?_; rintro e w1 ⟨rfl,rfl⟩))
      go_ret
      exact ⟨by rw [HO.out]; simp_all <;> rfl,b1⟩
    ·by_cases k4:kd=4
     ·subst k4
      cases h2:cg pe 0 999
      all_goals
       go_enter Tryz.func185,Tryz.ntmps185
       go_wp2_with (first | (go_at_call 75; refine (aN _ _ _ _).mono ?_; rintro e w1 ⟨rfl,rfl⟩) | (go_at_call 117; refine (bQ _ _).mono ?_; rintro e w1 ⟨rfl,rfl⟩))
       go_ret
       exact ⟨by rw [HO.out]; simp_all <;> rfl,b1⟩
     ·by_cases k5:kd=5
      ·subst k5
       cases h2:cg pe 1 999
       all_goals
        go_enter Tryz.func185,Tryz.ntmps185
        go_wp2_with (first | (go_at_call 75; refine (aN _ _ _ _).mono ?_; rintro e w1 ⟨rfl,rfl⟩) | (go_at_call 117; refine (bQ _ _).mono ?_; rintro e w1 ⟨rfl,rfl⟩))
        go_ret
        exact ⟨by rw [HO.out]; simp_all <;> rfl,b1⟩
      ·by_cases k6:kd=6
       ·subst k6
        cases h2:cg pe 1 999
        all_goals cases h3:cg va 1 999
        all_goals cases h4:(va != pe)
        all_goals
         go_enter Tryz.func185,Tryz.ntmps185
         go_wp2_with (first | (go_at_call 75; refine (aN _ _ _ _).mono ?_; rintro e w1 ⟨rfl,rfl⟩) | (go_at_call 117; refine (bQ _ _).mono ?_; rintro e w1 ⟨rfl,rfl⟩))
         go_ret
         exact ⟨by rw [HO.out]; simp_all <;> rfl,b1⟩
       ·have d1:(kd == 1)=false:=by simp [k1]
        have d2:(kd == 2)=false:=by simp [k2]
        have d3:(kd == 3)=false:=by simp [k3]
        have d4:(kd == 4)=false:=by simp [k4]
        have d5:(kd == 5)=false:=by simp [k5]
        have d6:(kd == 6)=false:=by simp [k6]
        go_enter Tryz.func185,Tryz.ntmps185
        go_wp2_with (first | (go_at_call 75; refine (aN _ _ _ _).mono ?_; rintro e w1 ⟨rfl,rfl⟩) | (go_at_call 117; refine (bQ _ _).mono ?_; rintro e w1 ⟨rfl,rfl⟩))
        go_ret
        exact ⟨by rw [HO.out]; simp_all <;> rfl,b1⟩
theorem we:147 ≠ 40:=dD
theorem wg:104 ≠ 40:=dD
theorem ll (x:aO) (s:df) (w:World) (h:aQ w w.heap.size x) :
  Calls wH 157 #[x.val,s.val] w (aF w (if ao x && s.ok then bj x.c s else none)):=by
 obtain ⟨kd,st,pe,va⟩:=s
 have L1:=((ai.new w 40 #[F x.TA x.t.length x.tc,F x.OA x.o.length x.oc,O U x.gt,O U x.sd,O U x.ms]).alloc (.cells #[O U kd,O U st,O U pe,O U va] 112)).alloc (.cells #[F none 0 0,F none 0 0,O U 0,O U 0,O U 0] 40)
 have L2:=(ai.new1 w (.cells #[F x.TA x.t.length x.tc,F x.OA x.o.length x.oc,O U x.gt,O U x.sd,O U x.ms] 40) 112 #[O U kd,O U st,O U pe,O U va]).alloc (.cells #[F none 0 0,F none 0 0,O U 0,O U 0,O U 0] 40)
 have L3:=ai.new2 w (.cells #[F x.TA x.t.length x.tc,F x.OA x.o.length x.oc,O U x.gt,O U x.sd,O U x.ms] 40) (.cells #[O U kd,O U st,O U pe,O U va] 112) 40 #[F none 0 0,F none 0 0,O U 0,O U 0,O U 0]
 have b1:=bZ w (.cells #[F x.TA x.t.length x.tc,F x.OA x.o.length x.oc,O U x.gt,O U x.sd,O U x.ms] 40)
 have b2:=b1.alloc b1.size (.cells #[O U kd,O U st,O U pe,O U va] 112)
 have b3:=b2.alloc b2.size (.cells #[F none 0 0,F none 0 0,O U 0,O U 0,O U 0] 40)
 clear b1 b2
 have cV:=fun W hW=>bc x w.heap.size W hW
 have cO:=fun W=>mB ⟨kd,st,pe,va⟩ W
 have cT:=fun (G:bK x) (hs:df.ok ⟨kd,st,pe,va⟩=true) W hW=>oA x w.heap.size ⟨kd,st,pe,va⟩ W hW G hs
 cases hg:ao x
 ·have HN:Hid ((if ao x && df.ok ⟨kd,st,pe,va⟩ then bj x.c ⟨kd,st,pe,va⟩ else none)=none):=by rw [Hid,hg]; rfl
  rw [hg] at cV
  rw [show (if false && df.ok ⟨kd,st,pe,va⟩ then bj x.c ⟨kd,st,pe,va⟩ else none)=none from rfl]
  clear hg HN cO cT
  go_enter Tryz.func157,Tryz.ntmps157
  go_wp2_with fail
  generalize (((w.alloc (.cells #[F x.TA x.t.length x.tc,F x.OA x.o.length x.oc,O U x.gt,O U x.sd,O U x.ms] 40)).alloc (.cells #[O U kd,O U st,O U pe,O U va] 112)).alloc (.cells #[F none 0 0,F none 0 0,O U 0,O U 0,O U 0] 40))=W3 at L1 L2 L3 b3 ⊢
  have hA:=cw.of (x:=x) L1 (h.up b3 nR)
  refine (cV W3 hA).mono ?_
  rintro e W4 ⟨rfl,wV⟩
  have k4:=b3.trans (wV.mono b3.size)
  have xV:=L3.below wV L3.lt
  have z0:=xV.cell 0
  have z1:=xV.cell 1
  have z2:=xV.cell 2
  have z3:=xV.cell 3
  have z4:=xV.cell 4
  obtain ⟨f0,f1,f2,f3,f4⟩:=frz5 xV
  simp only [gz0,gz1] at z0 z1 z2 z3 z4
  have wY:=(gw5 W4 (w.heap.size+1+1) (F none 0 0) (F none 0 0) (O U 0) (O U 0) (O U 0))
  have bz:=k4.grown wY k4.size (by rintro _ ⟨⟩; omega)
  clear wY
  go_wp2
  refine bodyPost_ret (v:=.tuple #[.agg #[F none 0 0,F none 0 0,O U 0,O U 0,O U 0],.bool false]) (by simp [results,Tryz.results157,go_sem, *]) rfl ?_
  exact aF.no rfl bz
 ·have G:=br.1 hg
  rw [hg] at cV
  have cT:=cT G
  clear hg G
  cases hs:df.ok ⟨kd,st,pe,va⟩
  ·rw [hs] at cO
   rw [show (if true && false then bj x.c ⟨kd,st,pe,va⟩ else none)=none from rfl]
   clear hs cT
   go_enter Tryz.func157,Tryz.ntmps157
   go_wp2_with fail
   generalize (((w.alloc (.cells #[F x.TA x.t.length x.tc,F x.OA x.o.length x.oc,O U x.gt,O U x.sd,O U x.ms] 40)).alloc (.cells #[O U kd,O U st,O U pe,O U va] 112)).alloc (.cells #[F none 0 0,F none 0 0,O U 0,O U 0,O U 0] 40))=W3 at L1 L2 L3 b3 ⊢
   have hA:=cw.of (x:=x) L1 (h.up b3 nR)
   refine (cV W3 hA).mono ?_
   rintro e W4 ⟨rfl,wV⟩
   have CT:=L2.below wV L2.lt
   obtain ⟨s0,s1,s2,s3⟩:=cells4 CT
   go_wp2_with fail
   refine (cO W4).mono ?_
   rintro e W5 ⟨rfl,hb5⟩
   clear s0 s1 s2 s3
   have k5:=b3.trans ((av wV hb5).mono b3.size)
   have xV:=L3.below (av wV hb5) L3.lt
   have z0:=xV.cell 0
   have z1:=xV.cell 1
   have z2:=xV.cell 2
   have z3:=xV.cell 3
   have z4:=xV.cell 4
   obtain ⟨f0,f1,f2,f3,f4⟩:=frz5 xV
   simp only [gz0,gz1] at z0 z1 z2 z3 z4
   have wY:=(gw5 W5 (w.heap.size+1+1) (F none 0 0) (F none 0 0) (O U 0) (O U 0) (O U 0))
   have bz:=k5.grown wY k5.size (by rintro _ ⟨⟩; omega)
   clear wY
   go_wp2
   refine bodyPost_ret (v:=.tuple #[.agg #[F none 0 0,F none 0 0,O U 0,O U 0,O U 0],.bool false]) (by simp [results,Tryz.results157,go_sem, *]) rfl ?_
   exact aF.no rfl bz
  ·have cT:=cT hs
   rw [hs] at cO
   rw [show (if true && true then bj x.c ⟨kd,st,pe,va⟩ else none)=bj x.c ⟨kd,st,pe,va⟩ from rfl]
   clear hs
   generalize bj x.c ⟨kd,st,pe,va⟩=R at cT ⊢
   go_enter Tryz.func157,Tryz.ntmps157
   go_wp2_with fail
   generalize (((w.alloc (.cells #[F x.TA x.t.length x.tc,F x.OA x.o.length x.oc,O U x.gt,O U x.sd,O U x.ms] 40)).alloc (.cells #[O U kd,O U st,O U pe,O U va] 112)).alloc (.cells #[F none 0 0,F none 0 0,O U 0,O U 0,O U 0] 40))=W3 at L1 L2 L3 b3 ⊢
   have hA:=cw.of (x:=x) L1 (h.up b3 nR)
   refine (cV W3 hA).mono ?_
   rintro e W4 ⟨rfl,wV⟩
   have CT:=L2.below wV L2.lt
   obtain ⟨s0,s1,s2,s3⟩:=cells4 CT
   go_wp2_with fail
   refine (cO W4).mono ?_
   rintro e W5 ⟨rfl,hb5⟩
   clear s0 s1 s2 s3
   have CT:=L2.below (av wV hb5) L2.lt
   obtain ⟨s0,s1,s2,s3⟩:=cells4 CT
   go_wp2_with fail
   refine (cT W5 (hA.then (av wV hb5) (av wV hb5).size)).mono ?_
   rintro e W6 ⟨TA,tc,OA,oc,rfl,hT,hO,xn⟩
   clear s0 s1 s2 s3
   have k56:=av (av wV hb5) xn
   have k6:=b3.trans (k56.mono b3.size)
   have xV:=L3.below k56 L3.lt
   have s36:W3.heap.size≤W5.heap.size:=(av wV hb5).size
   have z0:=xV.cell 0
   have z1:=xV.cell 1
   have z2:=xV.cell 2
   have z3:=xV.cell 3
   have z4:=xV.cell 4
   obtain ⟨f0,f1,f2,f3,f4⟩:=frz5 xV
   simp only [gz0,gz1] at z0 z1 z2 z3 z4
   obtain ⟨r,hr⟩ : ∃ r,cU R=r:=⟨_,rfl⟩
   obtain ⟨ok,wP⟩ : ∃ ok,R.isSome=ok:=⟨_,rfl⟩
   rw [hr] at hT hO ⊢
   rw [wP]
   have HR:=jZ hr; clear hr
   have HK:=jZ wP; clear wP
   have wY:=(gw5 W6 (w.heap.size+1+1) (F TA r.t.length tc) (F OA r.o.length oc) (O U r.gt) (O U r.sd) (O U r.ms))
   have bz:=k6.grown wY k6.size (by rintro _ ⟨⟩; omega)
   have r8:=ah (ak hT xV wg wY) (jT b3.size s36)
   have r9:=ah (ak hO xV we wY) (jT b3.size s36)
   have R8:=jZ r8; clear r8
   have R9:=jZ r9; clear r9
   clear wY hT hO
   go_wp2
   refine bodyPost_ret (v:=.tuple #[(r.at TA tc OA oc).val,.bool ok]) (by simp [results,Tryz.results157,go_sem, *]) rfl ?_
   unfold aF
   rw [HR.out,HK.out]
   exact ⟨TA,tc,OA,oc,rfl,R8.out,R9.out,bz⟩
end Go.Proofs.YtoeoimhemojdeaaGreatDoor
