/- Lemmas. -/
import Derived.Test.YtoeoimhemojdeaaGreatDoorFc39
import Derived.Test.YtoeoimhemojdeaaGreatDoorFc40
import Derived.Test.YtoeoimhemojdeaaGreatDoorFc41
import Derived.Test.YtoeoimhemojdeaaGreatDoorFc42
import Derived.Test.YtoeoimhemojdeaaGreatDoorFc43
import Derived.Test.YtoeoimhemojdeaaGreatDoorFc44
import Derived.Test.YtoeoimhemojdeaaGreatDoorFc45

set_option linter.unusedVariables false
set_option linter.unusedSimpArgs false
set_option maxHeartbeats 8000000
open Go.Value renaming int → O, slice → F, string → vw
open Go.IntKind renaming i64 → U
open Go.Proofs.Tryz renaming prog → vx

namespace Go.Proofs.YtoeoimhemojdeaaGreatDoor
open Go.RowKit
theorem nM (x:aO) (g:Nat) (s:cU) (w:World) (h:cm w w.heap.size g x) (G:bH x) (hs:s.ok=true) :
  Calls vx 186 #[.pointer (some ⟨g,0,none⟩),s.val] w (aE w (bf x.c s)):=by
 have hS:s.okS=true:=by rw [cU.ok_okS,Bool.and_eq_true] at hs; exact hs.1
 obtain ⟨vX,hI⟩:=cU.okS_is hS
 clear hS hs
 obtain ⟨kd,st,pe,va⟩:=s
 by_cases hT:ax x.t st < 0
 ·cases hI with
  | get hk hp hv=>simp only at hk hp hv vX; subst hk; exact qJ x g st pe va w h G hT vX hp hv
  | show_ hk hp hv=>simp only at hk; subst hk; exact fN x g 2 st pe va w h G rfl hT
  | back hk hp hv=>simp only at hk; subst hk; exact fN x g 3 st pe va w h G rfl hT
  | sell0 hk hp hv=>simp only at hk; subst hk; exact fN x g 4 st pe va w h G rfl hT
  | sell hk hp hv=>simp only at hk; subst hk; exact fN x g 4 st pe va w h G rfl hT
  | miss hk hp hv=>simp only at hk; subst hk; exact fN x g 5 st pe va w h G rfl hT
  | move hk hp hv=>simp only at hk; subst hk; exact fN x g 6 st pe va w h G rfl hT
 ·have h0:0≤ax x.t st:=oM
  have hi:=lE h0
  have hx:ax x.t st=((ax x.t st).toNat:Int):=oM
  generalize (ax x.t st).toNat=i at hi hx
  cases hI with
  | get hk hp hv=>simp only at hk hp hv; subst hk; exact qI x g st pe va w h G i hi hx hp hv
  | show_ hk hp hv=>simp only at hk hp hv; subst hk; exact tE x g st pe va w h G i hi hx hp hv
  | sell0 hk hp hv=>simp only at hk hp hv; subst hk; exact rQ x g st pe va w h G i hi hx hp hv
  | back hk hp hv =>
   simp only at hk hp hv; subst hk
   by_cases hn:aN st pe x.o=0
   ·exact lz x g 3 st pe va w h G rfl rfl i hi hx oM hn
   ·exact tD x g st pe va w h G i hi hx hp hv hn
  | sell hk hp hv =>
   simp only at hk hp hv; subst hk
   by_cases hn:aN st pe x.o=0
   ·exact lz x g 4 st pe va w h G rfl rfl i hi hx oM hn
   ·exact tC x g st pe va w h G i hi hx hp hv hn
  | miss hk hp hv =>
   simp only at hk hp hv; subst hk
   by_cases hn:aN st pe x.o=0
   ·exact lz x g 5 st pe va w h G rfl rfl i hi hx oM hn
   ·exact tB x g st pe va w h G i hi hx hp hn
  | move hk hp hv =>
   simp only at hk hp hv; subst hk
   by_cases hn:aN st pe x.o=0
   ·exact lz x g 6 st pe va w h G rfl rfl i hi hx oM hn
   ·exact tA x g st pe va w h G i hi hx hp hv hn
theorem lZ (s:cU) (w:World) :
  Calls vx 185 #[s.val] w fun e w'=>e=.returned (.bool s.ok)∧Below w.heap.size w w':=by
 obtain ⟨kd,st,pe,va⟩:=s
 have b1:=bZ w (.cells #[O U kd,O U st,O U pe,O U va] 112)
 obtain ⟨ok,vF⟩ : ∃ ok,ok=cU.ok ⟨kd,st,pe,va⟩:=⟨_,rfl⟩
 rw [← vF]
 unfold cU.ok at vF
 simp only at vF
 have HO:=jZ vF
 clear vF
 cases h1:cc st 1 99
 ·go_enter Tryz.func185,Tryz.ntmps185
  go_wp2_with (go_at_call 75; refine (aM _ _ _ _).mono ?_; rintro e w1 ⟨rfl,rfl⟩)
  go_ret
  exact ⟨by rw [HO.out,h1]; rfl,b1⟩
 ·by_cases k1:kd=1
  ·subst k1
   cases h2:(pe == 0)
   all_goals
    go_enter Tryz.func185,Tryz.ntmps185
    go_wp2_with (first | (go_at_call 75; refine (aM _ _ _ _).mono ?_; rintro e w1 ⟨rfl,rfl⟩) | (go_at_call 117; refine (bM _ _).mono ?_; rintro e w1 ⟨rfl,rfl⟩))
    go_ret
    exact ⟨by rw [HO.out]; simp_all <;> rfl,b1⟩
  ·by_cases k2:kd=2
   ·subst k2
    cases h2:cc pe 1 999
    all_goals
     go_enter Tryz.func185,Tryz.ntmps185
     go_wp2_with (first | (go_at_call 75; refine (aM _ _ _ _).mono ?_; rintro e w1 ⟨rfl,rfl⟩) | (go_at_call 117; refine (bM _ _).mono ?_; rintro e w1 ⟨rfl,rfl⟩))
     go_ret
     exact ⟨by rw [HO.out]; simp_all <;> rfl,b1⟩
   ·by_cases k3:kd=3
    ·subst k3
     cases h2:cc pe 1 999
     all_goals
      go_enter Tryz.func185,Tryz.ntmps185
      go_wp2_with (first | (go_at_call 75; refine (aM _ _ _ _).mono ?_; rintro e w1 ⟨rfl,rfl⟩) | (go_at_call 117; refine (bM _ _).mono ?_; rintro e w1 ⟨rfl,rfl⟩))
      go_ret
      exact ⟨by rw [HO.out]; simp_all <;> rfl,b1⟩
    ·by_cases k4:kd=4
     ·subst k4
      cases h2:cc pe 0 999
      all_goals
       go_enter Tryz.func185,Tryz.ntmps185
       go_wp2_with (first | (go_at_call 75; refine (aM _ _ _ _).mono ?_; rintro e w1 ⟨rfl,rfl⟩) | (go_at_call 117; refine (bM _ _).mono ?_; rintro e w1 ⟨rfl,rfl⟩))
       go_ret
       exact ⟨by rw [HO.out]; simp_all <;> rfl,b1⟩
     ·by_cases k5:kd=5
      ·subst k5
       cases h2:cc pe 1 999
       all_goals
        go_enter Tryz.func185,Tryz.ntmps185
        go_wp2_with (first | (go_at_call 75; refine (aM _ _ _ _).mono ?_; rintro e w1 ⟨rfl,rfl⟩) | (go_at_call 117; refine (bM _ _).mono ?_; rintro e w1 ⟨rfl,rfl⟩))
        go_ret
        exact ⟨by rw [HO.out]; simp_all <;> rfl,b1⟩
      ·by_cases k6:kd=6
       ·subst k6
        cases h2:cc pe 1 999
        all_goals cases h3:cc va 1 999
        all_goals cases h4:(va != pe)
        all_goals
         go_enter Tryz.func185,Tryz.ntmps185
         go_wp2_with (first | (go_at_call 75; refine (aM _ _ _ _).mono ?_; rintro e w1 ⟨rfl,rfl⟩) | (go_at_call 117; refine (bM _ _).mono ?_; rintro e w1 ⟨rfl,rfl⟩))
         go_ret
         exact ⟨by rw [HO.out]; simp_all <;> rfl,b1⟩
       ·have d1:(kd == 1)=false:=by simp [k1]
        have d2:(kd == 2)=false:=by simp [k2]
        have d3:(kd == 3)=false:=by simp [k3]
        have d4:(kd == 4)=false:=by simp [k4]
        have d5:(kd == 5)=false:=by simp [k5]
        have d6:(kd == 6)=false:=by simp [k6]
        go_enter Tryz.func185,Tryz.ntmps185
        go_wp2_with (first | (go_at_call 75; refine (aM _ _ _ _).mono ?_; rintro e w1 ⟨rfl,rfl⟩) | (go_at_call 117; refine (bM _ _).mono ?_; rintro e w1 ⟨rfl,rfl⟩))
        go_ret
        exact ⟨by rw [HO.out]; simp_all <;> rfl,b1⟩
theorem u9:147 ≠ 40:=dD
theorem vc:104 ≠ 40:=dD
theorem kJ (x:aO) (s:cU) (w:World) (h:aP w w.heap.size x) :
  Calls vx 157 #[x.val,s.val] w (aE w (if an x && s.ok then bf x.c s else none)):=by
 obtain ⟨kd,st,pe,va⟩:=s
 have L1:=((ah.new w 40 #[F x.TA x.t.length x.tc,F x.OA x.o.length x.oc,O U x.gt,O U x.sd,O U x.ms]).alloc (.cells #[O U kd,O U st,O U pe,O U va] 112)).alloc (.cells #[F none 0 0,F none 0 0,O U 0,O U 0,O U 0] 40)
 have L2:=(ah.new1 w (.cells #[F x.TA x.t.length x.tc,F x.OA x.o.length x.oc,O U x.gt,O U x.sd,O U x.ms] 40) 112 #[O U kd,O U st,O U pe,O U va]).alloc (.cells #[F none 0 0,F none 0 0,O U 0,O U 0,O U 0] 40)
 have L3:=ah.new2 w (.cells #[F x.TA x.t.length x.tc,F x.OA x.o.length x.oc,O U x.gt,O U x.sd,O U x.ms] 40) (.cells #[O U kd,O U st,O U pe,O U va] 112) 40 #[F none 0 0,F none 0 0,O U 0,O U 0,O U 0]
 have b1:=bZ w (.cells #[F x.TA x.t.length x.tc,F x.OA x.o.length x.oc,O U x.gt,O U x.sd,O U x.ms] 40)
 have b2:=b1.alloc b1.size (.cells #[O U kd,O U st,O U pe,O U va] 112)
 have b3:=b2.alloc b2.size (.cells #[F none 0 0,F none 0 0,O U 0,O U 0,O U 0] 40)
 clear b1 b2
 have cV:=fun W hW=>aZ x w.heap.size W hW
 have cO:=fun W=>lZ ⟨kd,st,pe,va⟩ W
 have cT:=fun (G:bH x) (hs:cU.ok ⟨kd,st,pe,va⟩=true) W hW=>nM x w.heap.size ⟨kd,st,pe,va⟩ W hW G hs
 cases hg:an x
 ·have HN:Hid ((if an x && cU.ok ⟨kd,st,pe,va⟩ then bf x.c ⟨kd,st,pe,va⟩ else none)=none):=by rw [Hid,hg]; rfl
  rw [hg] at cV
  rw [show (if false && cU.ok ⟨kd,st,pe,va⟩ then bf x.c ⟨kd,st,pe,va⟩ else none)=none from rfl]
  clear hg HN cO cT
  go_enter Tryz.func157,Tryz.ntmps157
  go_wp2_with fail
  generalize (((w.alloc (.cells #[F x.TA x.t.length x.tc,F x.OA x.o.length x.oc,O U x.gt,O U x.sd,O U x.ms] 40)).alloc (.cells #[O U kd,O U st,O U pe,O U va] 112)).alloc (.cells #[F none 0 0,F none 0 0,O U 0,O U 0,O U 0] 40))=W3 at L1 L2 L3 b3 ⊢
  have hA:=cm.of (x:=x) L1 (h.up b3 nR)
  refine (cV W3 hA).mono ?_
  rintro e W4 ⟨rfl,vN⟩
  have k4:=b3.trans (vN.mono b3.size)
  have wQ:=L3.below vN L3.lt
  have z0:=wQ.cell 0
  have z1:=wQ.cell 1
  have z2:=wQ.cell 2
  have z3:=wQ.cell 3
  have z4:=wQ.cell 4
  obtain ⟨f0,f1,f2,f3,f4⟩:=frz5 wQ
  simp only [gz0,gz1] at z0 z1 z2 z3 z4
  have vO:=(gw5 W4 (w.heap.size+1+1) (F none 0 0) (F none 0 0) (O U 0) (O U 0) (O U 0))
  have bz:=k4.grown vO k4.size (by rintro _ ⟨⟩; omega)
  clear vO
  go_wp2
  refine bodyPost_ret (v:=.tuple #[.agg #[F none 0 0,F none 0 0,O U 0,O U 0,O U 0],.bool false]) (by simp [results,Tryz.results157,go_sem, *]) rfl ?_
  exact aE.no rfl bz
 ·have G:=bi.1 hg
  rw [hg] at cV
  have cT:=cT G
  clear hg G
  cases hs:cU.ok ⟨kd,st,pe,va⟩
  ·rw [hs] at cO
   rw [show (if true && false then bf x.c ⟨kd,st,pe,va⟩ else none)=none from rfl]
   clear hs cT
   go_enter Tryz.func157,Tryz.ntmps157
   go_wp2_with fail
   generalize (((w.alloc (.cells #[F x.TA x.t.length x.tc,F x.OA x.o.length x.oc,O U x.gt,O U x.sd,O U x.ms] 40)).alloc (.cells #[O U kd,O U st,O U pe,O U va] 112)).alloc (.cells #[F none 0 0,F none 0 0,O U 0,O U 0,O U 0] 40))=W3 at L1 L2 L3 b3 ⊢
   have hA:=cm.of (x:=x) L1 (h.up b3 nR)
   refine (cV W3 hA).mono ?_
   rintro e W4 ⟨rfl,vN⟩
   have Bt:=L2.below vN L2.lt
   obtain ⟨s0,s1,s2,s3⟩:=cells4 Bt
   go_wp2_with fail
   refine (cO W4).mono ?_
   rintro e W5 ⟨rfl,hb5⟩
   clear s0 s1 s2 s3
   have k5:=b3.trans ((av vN hb5).mono b3.size)
   have wQ:=L3.below (av vN hb5) L3.lt
   have z0:=wQ.cell 0
   have z1:=wQ.cell 1
   have z2:=wQ.cell 2
   have z3:=wQ.cell 3
   have z4:=wQ.cell 4
   obtain ⟨f0,f1,f2,f3,f4⟩:=frz5 wQ
   simp only [gz0,gz1] at z0 z1 z2 z3 z4
   have vO:=(gw5 W5 (w.heap.size+1+1) (F none 0 0) (F none 0 0) (O U 0) (O U 0) (O U 0))
   have bz:=k5.grown vO k5.size (by rintro _ ⟨⟩; omega)
   clear vO
   go_wp2
   refine bodyPost_ret (v:=.tuple #[.agg #[F none 0 0,F none 0 0,O U 0,O U 0,O U 0],.bool false]) (by simp [results,Tryz.results157,go_sem, *]) rfl ?_
   exact aE.no rfl bz
  ·have cT:=cT hs
   rw [hs] at cO
   rw [show (if true && true then bf x.c ⟨kd,st,pe,va⟩ else none)=bf x.c ⟨kd,st,pe,va⟩ from rfl]
   clear hs
   generalize bf x.c ⟨kd,st,pe,va⟩=R at cT ⊢
   go_enter Tryz.func157,Tryz.ntmps157
   go_wp2_with fail
   generalize (((w.alloc (.cells #[F x.TA x.t.length x.tc,F x.OA x.o.length x.oc,O U x.gt,O U x.sd,O U x.ms] 40)).alloc (.cells #[O U kd,O U st,O U pe,O U va] 112)).alloc (.cells #[F none 0 0,F none 0 0,O U 0,O U 0,O U 0] 40))=W3 at L1 L2 L3 b3 ⊢
   have hA:=cm.of (x:=x) L1 (h.up b3 nR)
   refine (cV W3 hA).mono ?_
   rintro e W4 ⟨rfl,vN⟩
   have Bt:=L2.below vN L2.lt
   obtain ⟨s0,s1,s2,s3⟩:=cells4 Bt
   go_wp2_with fail
   refine (cO W4).mono ?_
   rintro e W5 ⟨rfl,hb5⟩
   clear s0 s1 s2 s3
   have Bt:=L2.below (av vN hb5) L2.lt
   obtain ⟨s0,s1,s2,s3⟩:=cells4 Bt
   go_wp2_with fail
   refine (cT W5 (hA.then (av vN hb5) (av vN hb5).size)).mono ?_
   rintro e W6 ⟨TA,tc,OA,oc,rfl,hT,hO,wk⟩
   clear s0 s1 s2 s3
   have k56:=av (av vN hb5) wk
   have k6:=b3.trans (k56.mono b3.size)
   have wQ:=L3.below k56 L3.lt
   have s36:W3.heap.size≤W5.heap.size:=(av vN hb5).size
   have z0:=wQ.cell 0
   have z1:=wQ.cell 1
   have z2:=wQ.cell 2
   have z3:=wQ.cell 3
   have z4:=wQ.cell 4
   obtain ⟨f0,f1,f2,f3,f4⟩:=frz5 wQ
   simp only [gz0,gz1] at z0 z1 z2 z3 z4
   obtain ⟨r,hr⟩ : ∃ r,cz R=r:=⟨_,rfl⟩
   obtain ⟨ok,vF⟩ : ∃ ok,R.isSome=ok:=⟨_,rfl⟩
   rw [hr] at hT hO ⊢
   rw [vF]
   have HR:=jZ hr; clear hr
   have HK:=jZ vF; clear vF
   have vO:=(gw5 W6 (w.heap.size+1+1) (F TA r.t.length tc) (F OA r.o.length oc) (O U r.gt) (O U r.sd) (O U r.ms))
   have bz:=k6.grown vO k6.size (by rintro _ ⟨⟩; omega)
   have r8:=ai (ak hT wQ vc vO) (jT b3.size s36)
   have r9:=ai (ak hO wQ u9 vO) (jT b3.size s36)
   have R8:=jZ r8; clear r8
   have R9:=jZ r9; clear r9
   clear vO hT hO
   go_wp2
   refine bodyPost_ret (v:=.tuple #[(r.at TA tc OA oc).val,.bool ok]) (by simp [results,Tryz.results157,go_sem, *]) rfl ?_
   unfold aE
   rw [HR.out,HK.out]
   exact ⟨TA,tc,OA,oc,rfl,R8.out,R9.out,bz⟩
end Go.Proofs.YtoeoimhemojdeaaGreatDoor
