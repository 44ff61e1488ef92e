/- Rs14: the texts StepNon StepZ, joined into one file. -/
import Derived.Test.YtoeoimhemojdeaaGreatDoorRs13

set_option linter.unusedVariables false
open Go.Value renaming int → O, slice → F, string → uk
open Go.IntKind renaming i64 → U

namespace Go.Proofs.YtoeoimhemojdeaaGreatDoor
open Go.RowKit
set_option maxRecDepth 100000 in
set_option maxHeartbeats 1500000 in
theorem kz (x:aL) (g:Nat) (kd:Int) (st pe va:Int) (w:World) (h:bX w w.heap.size g x) (G:bo x) (hk:(kd == 1)=false) (hk2:(kd != 2)=true) (i:Nat) (hi:i < x.t.length) (hI:au x.t st=i) (hpe:0 < pe) (h0:aJ st pe x.o=0) :
  Calls Tryz.prog 186 #[.pointer (some ⟨g,0,none⟩),.agg #[O U kd,O U st,O U pe,O U va]] w (aB w (ba x.c ⟨kd,st,pe,va⟩)):=by
 have HN:Hid (ba x.c ⟨kd,st,pe,va⟩=none):=by
  unfold Hid ba
  rw [if_neg (by simpa using hk),if_neg (by show ¬ ¬ 0≤au x.t st; rw [hI]; omega),if_neg (by simpa using hk2),if_pos ⟨h0,hpe⟩]
 have hz0:(0:Int)≤(i:Int):=by omega
 have L1:=(ah.new w 112 #[O U kd,O U st,O U pe,O U va]).alloc (.cells #[F none 0 0,F none 0 0,O U 0,O U 0,O U 0] 40)
 have L2:=ah.new1 w (.cells #[O U kd,O U st,O U pe,O U va] 112) 40 #[F none 0 0,F none 0 0,O U 0,O U 0,O U 0]
 have b1:=(Below.refl w.heap.size w).alloc (Nat.le_refl _) (.cells #[O U kd,O U st,O U pe,O U va] 112)
 have b2:=b1.alloc b1.size (.cells #[F none 0 0,F none 0 0,O U 0,O U 0,O U 0] 40)
 have hA:=h.then b2 b2.size
 have tl:=G.tl
 have ol:=G.ol
 clear b1
 go_enter Tryz.func186,Tryz.ntmps186
 go_wp2_with fail
 generalize ((w.alloc (.cells #[O U kd,O U st,O U pe,O U va] 112)).alloc (.cells #[F none 0 0,F none 0 0,O U 0,O U 0,O U 0] 40))=W2 at L1 L2 b2 hA ⊢
 refine (bT x g W2 hA (by omega) (by omega)).mono ?_
 rintro e W3 ⟨TA,tc,OA,oc,rfl,hT,hO,k3⟩
 obtain ⟨gT,cT,_,hvt,_,_,_⟩:=bH hT (by omega)
 injection hvt with e1 e2 e3
 subst e1; subst e3
 have hal:=(Below.refl W3.heap.size W3).alloc (Nat.le_refl _) (.cells #[F (some ⟨gT,0,none⟩) x.t.length tc,F OA x.o.length oc,O U x.got,O U x.sold,O U x.missed] 40)
 have hOwn:az (W3.alloc (.cells #[F (some ⟨gT,0,none⟩) x.t.length tc,F OA x.o.length oc,O U x.got,O U x.sold,O U x.missed] 40)) W2.heap.size W3.heap.size _ _ x.c:=⟨ah.new W3 40 #[F (some ⟨gT,0,none⟩) x.t.length tc,F OA x.o.length oc,O U x.got,O U x.sold,O U x.missed],k3.size,ac hT hal,ac hO hal⟩
 have k4:=k3.trans (hal.mono k3.size)
 have s0:=(L1.below k4 L1.lt).cell 0
 have s1:=(L1.below k4 L1.lt).cell 1
 simp only [List.getElem?_cons_zero,List.getElem?_cons_succ] at s0 s1
 have hgO:w.heap.size+1 < W3.heap.size:=Nat.lt_of_lt_of_le L2.lt k3.size
 clear hT hO k3
 go_wp2_with fail
 clear s0 s1 hal
 generalize W3.alloc (.cells #[F (some ⟨gT,0,none⟩) x.t.length tc,F OA x.o.length oc,O U x.got,O U x.sold,O U x.missed] 40)=W4 at hOwn k4 ⊢
 generalize W3.heap.size=gO at hOwn hgO ⊢
 refine (bc (x.c.at (some ⟨gT,0,none⟩) tc OA oc) gO st W4 (az.at_ (y:=x.c) hOwn)).mono ?_
 rintro e W5 ⟨rfl,hb5⟩
 have hOwn5:=hOwn.then hb5
 have k5:=k4.trans (hb5.mono k4.size)
 rw [show au (x.c.at (some ⟨gT,0,none⟩) tc OA oc).t st=au x.t st from rfl,hI]
 have L1c:=L1.below k5 L1.lt
 have hA5:=hA.then k5 k5.size
 have hmf:∀ (fn:Fn) (first cap:Array Value) (w:World),(Instr.makeFunc fn first cap).run Tryz.prog w=.ok (.func fn first cap) w:=fun _ _ _ _=>rfl
 go_wp2_with fail
 refine (cZ (B:=0) L1c hA5 G (Nat.zero_le _)).mono ?_
 rintro e W6 ⟨rfl,hb6⟩
 have hOwn6:=hOwn5.then hb6
 have k6:=k5.trans (hb6.mono k5.size)
 have L1d:=L1.below k6 L1.lt
 obtain ⟨s0,s1,s2,s3⟩:=cells4 L1d
 clear L1c hA5 hOwn5 hOwn hb5 hb6 k4
 rw [h0]
 clear h0
 have L2z:=L2.below k6 L2.lt
 have z0:=L2z.cell 0
 have z1:=L2z.cell 1
 have z2:=L2z.cell 2
 have z3:=L2z.cell 3
 have z4:=L2z.cell 4
 obtain ⟨f0,f1,f2,f3,f4⟩:=frz5 L2z
 simp only [List.getElem?_cons_zero,List.getElem?_cons_succ] at z0 z1 z2 z3 z4
 have hgr:=ab (g:=w.heap.size+1) (i:=4) (u:=O U 0) (ab (g:=w.heap.size+1) (i:=3) (u:=O U 0) (ab (g:=w.heap.size+1) (i:=2) (u:=O U 0) (ab (g:=w.heap.size+1) (i:=1) (u:=F none 0 0) (ab (g:=w.heap.size+1) (i:=0) (u:=F none 0 0) (World.grownBy.refl W6 (some (w.heap.size+1)))))))
 have bw:=b2.trans (k6.mono b2.size)
 have bz:=bw.grown hgr bw.size (by rintro _ ⟨⟩; omega)
 go_wp2
 rw [HN.out]
 refine bodyPost_ret (v:=.tuple #[.agg #[F none 0 0,F none 0 0,O U 0,O U 0,O U 0],.bool false]) (by simp [results,Tryz.results186,go_sem, *]) rfl (aB.no rfl bz)
theorem mQ (x:aL) (g:Nat) (s:dW) (w:World) (h:bX w w.heap.size g x) (G:bo x) (hs:s.ok=true) :
  Calls Tryz.prog 186 #[.pointer (some ⟨g,0,none⟩),s.val] w (aB w (ba x.c s)):=by
 have hS:s.okS=true:=by rw [dW.ok_okS,Bool.and_eq_true] at hs; exact hs.1
 obtain ⟨hst,hI⟩:=dW.okS_is hS
 clear hS hs
 obtain ⟨kd,st,pe,va⟩:=s
 by_cases hT:au x.t st < 0
 ·cases hI with
  | get hk hp hv=>simp only at hk hp hv hst; subst hk; exact pG x g st pe va w h G hT hst hp hv
  | show_ hk hp hv=>simp only at hk; subst hk; exact fg x g 2 st pe va w h G rfl hT
  | back hk hp hv=>simp only at hk; subst hk; exact fg x g 3 st pe va w h G rfl hT
  | sell0 hk hp hv=>simp only at hk; subst hk; exact fg x g 4 st pe va w h G rfl hT
  | sell hk hp hv=>simp only at hk; subst hk; exact fg x g 4 st pe va w h G rfl hT
  | miss hk hp hv=>simp only at hk; subst hk; exact fg x g 5 st pe va w h G rfl hT
  | move hk hp hv=>simp only at hk; subst hk; exact fg x g 6 st pe va w h G rfl hT
 ·have h0:0≤au x.t st:=by omega
  have hi:=kJ h0
  have hx:au x.t st=((au x.t st).toNat:Int):=by omega
  generalize (au x.t st).toNat=i at hi hx
  cases hI with
  | get hk hp hv=>simp only at hk hp hv; subst hk; exact pF x g st pe va w h G i hi hx hp hv
  | show_ hk hp hv=>simp only at hk hp hv; subst hk; exact sl x g st pe va w h G i hi hx hp hv
  | sell0 hk hp hv=>simp only at hk hp hv; subst hk; exact qE x g st pe va w h G i hi hx hp hv
  | back hk hp hv =>
   simp only at hk hp hv; subst hk
   by_cases hn:aJ st pe x.o=0
   ·exact kz x g 3 st pe va w h G rfl rfl i hi hx (by omega) hn
   ·exact sk x g st pe va w h G i hi hx hp hv hn
  | sell hk hp hv =>
   simp only at hk hp hv; subst hk
   by_cases hn:aJ st pe x.o=0
   ·exact kz x g 4 st pe va w h G rfl rfl i hi hx (by omega) hn
   ·exact sj x g st pe va w h G i hi hx hp hv hn
  | miss hk hp hv =>
   simp only at hk hp hv; subst hk
   by_cases hn:aJ st pe x.o=0
   ·exact kz x g 5 st pe va w h G rfl rfl i hi hx (by omega) hn
   ·exact si x g st pe va w h G i hi hx hp hn
  | move hk hp hv =>
   simp only at hk hp hv; subst hk
   by_cases hn:aJ st pe x.o=0
   ·exact kz x g 6 st pe va w h G rfl rfl i hi hx (by omega) hn
   ·exact sh x g st pe va w h G i hi hx hp hv hn
set_option maxHeartbeats 2000000 in
theorem lj (s:dW) (w:World) :
  Calls Tryz.prog 185 #[s.val] w fun e w'=>e=.returned (.bool s.ok)∧Below w.heap.size w w':=by
 obtain ⟨kd,st,pe,va⟩:=s
 have b1:=(Below.refl w.heap.size w).alloc (Nat.le_refl _) (.cells #[O U kd,O U st,O U pe,O U va] 112)
 obtain ⟨ok,hok⟩ : ∃ ok,ok=dW.ok ⟨kd,st,pe,va⟩:=⟨_,rfl⟩
 rw [← hok]
 unfold dW.ok at hok
 simp only at hok
 have HO:=Lib.hid hok
 clear hok
 cases h1:bU st 1 99
 ·go_enter Tryz.func185,Tryz.ntmps185
  go_wp2_with (go_at_call 75; refine (aN _ _ _ _).mono ?_; rintro e w1 ⟨rfl,rfl⟩)
  go_ret
  exact ⟨by rw [HO.out,h1]; rfl,b1⟩
 ·by_cases k1:kd=1
  ·subst k1
   cases h2:(pe == 0)
   all_goals
    go_enter Tryz.func185,Tryz.ntmps185
    go_wp2_with (first | (go_at_call 75; refine (aN _ _ _ _).mono ?_; rintro e w1 ⟨rfl,rfl⟩) | (go_at_call 117; refine (bB _ _).mono ?_; rintro e w1 ⟨rfl,rfl⟩))
    go_ret
    exact ⟨by rw [HO.out]; simp_all <;> rfl,b1⟩
  ·by_cases k2:kd=2
   ·subst k2
    cases h2:bU pe 1 999
    all_goals
     go_enter Tryz.func185,Tryz.ntmps185
     go_wp2_with (first | (go_at_call 75; refine (aN _ _ _ _).mono ?_; rintro e w1 ⟨rfl,rfl⟩) | (go_at_call 117; refine (bB _ _).mono ?_; rintro e w1 ⟨rfl,rfl⟩))
     go_ret
     exact ⟨by rw [HO.out]; simp_all <;> rfl,b1⟩
   ·by_cases k3:kd=3
    ·subst k3
     cases h2:bU pe 1 999
     all_goals
      go_enter Tryz.func185,Tryz.ntmps185
      go_wp2_with (first | (go_at_call 75; refine (aN _ _ _ _).mono ?_; rintro e w1 ⟨rfl,rfl⟩) | (go_at_call 117; refine (bB _ _).mono ?_; rintro e w1 ⟨rfl,rfl⟩))
      go_ret
      exact ⟨by rw [HO.out]; simp_all <;> rfl,b1⟩
    ·by_cases k4:kd=4
     ·subst k4
      cases h2:bU pe 0 999
      all_goals
       go_enter Tryz.func185,Tryz.ntmps185
       go_wp2_with (first | (go_at_call 75; refine (aN _ _ _ _).mono ?_; rintro e w1 ⟨rfl,rfl⟩) | (go_at_call 117; refine (bB _ _).mono ?_; rintro e w1 ⟨rfl,rfl⟩))
       go_ret
       exact ⟨by rw [HO.out]; simp_all <;> rfl,b1⟩
     ·by_cases k5:kd=5
      ·subst k5
       cases h2:bU pe 1 999
       all_goals
        go_enter Tryz.func185,Tryz.ntmps185
        go_wp2_with (first | (go_at_call 75; refine (aN _ _ _ _).mono ?_; rintro e w1 ⟨rfl,rfl⟩) | (go_at_call 117; refine (bB _ _).mono ?_; rintro e w1 ⟨rfl,rfl⟩))
        go_ret
        exact ⟨by rw [HO.out]; simp_all <;> rfl,b1⟩
      ·by_cases k6:kd=6
       ·subst k6
        cases h2:bU pe 1 999
        all_goals cases h3:bU va 1 999
        all_goals cases h4:(va != pe)
        all_goals
         go_enter Tryz.func185,Tryz.ntmps185
         go_wp2_with (first | (go_at_call 75; refine (aN _ _ _ _).mono ?_; rintro e w1 ⟨rfl,rfl⟩) | (go_at_call 117; refine (bB _ _).mono ?_; rintro e w1 ⟨rfl,rfl⟩))
         go_ret
         exact ⟨by rw [HO.out]; simp_all <;> rfl,b1⟩
       ·have d1:(kd == 1)=false:=by simp [k1]
        have d2:(kd == 2)=false:=by simp [k2]
        have d3:(kd == 3)=false:=by simp [k3]
        have d4:(kd == 4)=false:=by simp [k4]
        have d5:(kd == 5)=false:=by simp [k5]
        have d6:(kd == 6)=false:=by simp [k6]
        go_enter Tryz.func185,Tryz.ntmps185
        go_wp2_with (first | (go_at_call 75; refine (aN _ _ _ _).mono ?_; rintro e w1 ⟨rfl,rfl⟩) | (go_at_call 117; refine (bB _ _).mono ?_; rintro e w1 ⟨rfl,rfl⟩))
        go_ret
        exact ⟨by rw [HO.out]; simp_all <;> rfl,b1⟩
theorem tW:147 ≠ 40:=by decide
theorem tX:104 ≠ 40:=by decide
set_option maxHeartbeats 2000000 in
theorem jS (x:aL) (s:dW) (w:World) (h:aM w w.heap.size x) :
  Calls Tryz.prog 157 #[x.val,s.val] w (aB w (if al x && s.ok then ba x.c s else none)):=by
 obtain ⟨kd,st,pe,va⟩:=s
 have L1:=((ah.new w 40 #[F x.TA x.t.length x.tc,F x.OA x.o.length x.oc,O U x.got,O U x.sold,O U x.missed]).alloc (.cells #[O U kd,O U st,O U pe,O U va] 112)).alloc (.cells #[F none 0 0,F none 0 0,O U 0,O U 0,O U 0] 40)
 have L2:=(ah.new1 w (.cells #[F x.TA x.t.length x.tc,F x.OA x.o.length x.oc,O U x.got,O U x.sold,O U x.missed] 40) 112 #[O U kd,O U st,O U pe,O U va]).alloc (.cells #[F none 0 0,F none 0 0,O U 0,O U 0,O U 0] 40)
 have L3:=ah.new2 w (.cells #[F x.TA x.t.length x.tc,F x.OA x.o.length x.oc,O U x.got,O U x.sold,O U x.missed] 40) (.cells #[O U kd,O U st,O U pe,O U va] 112) 40 #[F none 0 0,F none 0 0,O U 0,O U 0,O U 0]
 have b1:=(Below.refl w.heap.size w).alloc (Nat.le_refl _) (.cells #[F x.TA x.t.length x.tc,F x.OA x.o.length x.oc,O U x.got,O U x.sold,O U x.missed] 40)
 have b2:=b1.alloc b1.size (.cells #[O U kd,O U st,O U pe,O U va] 112)
 have b3:=b2.alloc b2.size (.cells #[F none 0 0,F none 0 0,O U 0,O U 0,O U 0] 40)
 clear b1 b2
 have cV:=fun W hW=>aX x w.heap.size W hW
 have cO:=fun W=>lj ⟨kd,st,pe,va⟩ W
 have cT:=fun (G:bo x) (hs:dW.ok ⟨kd,st,pe,va⟩=true) W hW=>mQ x w.heap.size ⟨kd,st,pe,va⟩ W hW G hs
 cases hg:al x
 ·have HN:Hid ((if al x && dW.ok ⟨kd,st,pe,va⟩ then ba x.c ⟨kd,st,pe,va⟩ else none)=none):=by rw [Hid,hg]; rfl
  rw [hg] at cV
  rw [show (if false && dW.ok ⟨kd,st,pe,va⟩ then ba x.c ⟨kd,st,pe,va⟩ else none)=none from rfl]
  clear hg HN cO cT
  go_enter Tryz.func157,Tryz.ntmps157
  go_wp2_with fail
  generalize (((w.alloc (.cells #[F x.TA x.t.length x.tc,F x.OA x.o.length x.oc,O U x.got,O U x.sold,O U x.missed] 40)).alloc (.cells #[O U kd,O U st,O U pe,O U va] 112)).alloc (.cells #[F none 0 0,F none 0 0,O U 0,O U 0,O U 0] 40))=W3 at L1 L2 L3 b3 ⊢
  have hA:=bX.of (x:=x) L1 (h.up b3 (Nat.le_refl _))
  refine (cV W3 hA).mono ?_
  rintro e W4 ⟨rfl,hb4⟩
  have k4:=b3.trans (hb4.mono b3.size)
  have L3z:=L3.below hb4 L3.lt
  have z0:=L3z.cell 0
  have z1:=L3z.cell 1
  have z2:=L3z.cell 2
  have z3:=L3z.cell 3
  have z4:=L3z.cell 4
  obtain ⟨f0,f1,f2,f3,f4⟩:=frz5 L3z
  simp only [List.getElem?_cons_zero,List.getElem?_cons_succ] at z0 z1 z2 z3 z4
  have hgr:=(ab (g:=w.heap.size+1+1) (i:=4) (u:=O U 0) (ab (g:=w.heap.size+1+1) (i:=3) (u:=O U 0) (ab (g:=w.heap.size+1+1) (i:=2) (u:=O U 0) (ab (g:=w.heap.size+1+1) (i:=1) (u:=F none 0 0) (ab (g:=w.heap.size+1+1) (i:=0) (u:=F none 0 0) (World.grownBy.refl W4 (some (w.heap.size+1+1))))))))
  have bz:=k4.grown hgr k4.size (by rintro _ ⟨⟩; omega)
  clear hgr
  go_wp2
  refine bodyPost_ret (v:=.tuple #[.agg #[F none 0 0,F none 0 0,O U 0,O U 0,O U 0],.bool false]) (by simp [results,Tryz.results157,go_sem, *]) rfl ?_
  exact aB.no rfl bz
 ·have G:=bj.1 hg
  rw [hg] at cV
  have cT:=cT G
  clear hg G
  cases hs:dW.ok ⟨kd,st,pe,va⟩
  ·rw [hs] at cO
   rw [show (if true && false then ba x.c ⟨kd,st,pe,va⟩ else none)=none from rfl]
   clear hs cT
   go_enter Tryz.func157,Tryz.ntmps157
   go_wp2_with fail
   generalize (((w.alloc (.cells #[F x.TA x.t.length x.tc,F x.OA x.o.length x.oc,O U x.got,O U x.sold,O U x.missed] 40)).alloc (.cells #[O U kd,O U st,O U pe,O U va] 112)).alloc (.cells #[F none 0 0,F none 0 0,O U 0,O U 0,O U 0] 40))=W3 at L1 L2 L3 b3 ⊢
   have hA:=bX.of (x:=x) L1 (h.up b3 (Nat.le_refl _))
   refine (cV W3 hA).mono ?_
   rintro e W4 ⟨rfl,hb4⟩
   have L2y:=L2.below hb4 L2.lt
   obtain ⟨s0,s1,s2,s3⟩:=cells4 L2y
   go_wp2_with fail
   refine (cO W4).mono ?_
   rintro e W5 ⟨rfl,hb5⟩
   clear s0 s1 s2 s3
   have k5:=b3.trans ((aq hb4 hb5).mono b3.size)
   have L3z:=L3.below (aq hb4 hb5) L3.lt
   have z0:=L3z.cell 0
   have z1:=L3z.cell 1
   have z2:=L3z.cell 2
   have z3:=L3z.cell 3
   have z4:=L3z.cell 4
   obtain ⟨f0,f1,f2,f3,f4⟩:=frz5 L3z
   simp only [List.getElem?_cons_zero,List.getElem?_cons_succ] at z0 z1 z2 z3 z4
   have hgr:=(ab (g:=w.heap.size+1+1) (i:=4) (u:=O U 0) (ab (g:=w.heap.size+1+1) (i:=3) (u:=O U 0) (ab (g:=w.heap.size+1+1) (i:=2) (u:=O U 0) (ab (g:=w.heap.size+1+1) (i:=1) (u:=F none 0 0) (ab (g:=w.heap.size+1+1) (i:=0) (u:=F none 0 0) (World.grownBy.refl W5 (some (w.heap.size+1+1))))))))
   have bz:=k5.grown hgr k5.size (by rintro _ ⟨⟩; omega)
   clear hgr
   go_wp2
   refine bodyPost_ret (v:=.tuple #[.agg #[F none 0 0,F none 0 0,O U 0,O U 0,O U 0],.bool false]) (by simp [results,Tryz.results157,go_sem, *]) rfl ?_
   exact aB.no rfl bz
  ·have cT:=cT hs
   rw [hs] at cO
   rw [show (if true && true then ba x.c ⟨kd,st,pe,va⟩ else none)=ba x.c ⟨kd,st,pe,va⟩ from rfl]
   clear hs
   generalize ba x.c ⟨kd,st,pe,va⟩=R at cT ⊢
   go_enter Tryz.func157,Tryz.ntmps157
   go_wp2_with fail
   generalize (((w.alloc (.cells #[F x.TA x.t.length x.tc,F x.OA x.o.length x.oc,O U x.got,O U x.sold,O U x.missed] 40)).alloc (.cells #[O U kd,O U st,O U pe,O U va] 112)).alloc (.cells #[F none 0 0,F none 0 0,O U 0,O U 0,O U 0] 40))=W3 at L1 L2 L3 b3 ⊢
   have hA:=bX.of (x:=x) L1 (h.up b3 (Nat.le_refl _))
   refine (cV W3 hA).mono ?_
   rintro e W4 ⟨rfl,hb4⟩
   have L2y:=L2.below hb4 L2.lt
   obtain ⟨s0,s1,s2,s3⟩:=cells4 L2y
   go_wp2_with fail
   refine (cO W4).mono ?_
   rintro e W5 ⟨rfl,hb5⟩
   clear s0 s1 s2 s3
   have L2y:=L2.below (aq hb4 hb5) L2.lt
   obtain ⟨s0,s1,s2,s3⟩:=cells4 L2y
   go_wp2_with fail
   refine (cT W5 (hA.then (aq hb4 hb5) (aq hb4 hb5).size)).mono ?_
   rintro e W6 ⟨TA,tc,OA,oc,rfl,hT,hO,hb6⟩
   clear s0 s1 s2 s3
   have k56:=aq (aq hb4 hb5) hb6
   have k6:=b3.trans (k56.mono b3.size)
   have L3z:=L3.below k56 L3.lt
   have s36:W3.heap.size≤W5.heap.size:=(aq hb4 hb5).size
   have z0:=L3z.cell 0
   have z1:=L3z.cell 1
   have z2:=L3z.cell 2
   have z3:=L3z.cell 3
   have z4:=L3z.cell 4
   obtain ⟨f0,f1,f2,f3,f4⟩:=frz5 L3z
   simp only [List.getElem?_cons_zero,List.getElem?_cons_succ] at z0 z1 z2 z3 z4
   obtain ⟨r,hr⟩ : ∃ r,cH R=r:=⟨_,rfl⟩
   obtain ⟨ok,hok⟩ : ∃ ok,R.isSome=ok:=⟨_,rfl⟩
   rw [hr] at hT hO ⊢
   rw [hok]
   have HR:=Lib.hid hr; clear hr
   have HK:=Lib.hid hok; clear hok
   have hgr:=(ab (g:=w.heap.size+1+1) (i:=4) (u:=O U r.missed) (ab (g:=w.heap.size+1+1) (i:=3) (u:=O U r.sold) (ab (g:=w.heap.size+1+1) (i:=2) (u:=O U r.got) (ab (g:=w.heap.size+1+1) (i:=1) (u:=F OA r.o.length oc) (ab (g:=w.heap.size+1+1) (i:=0) (u:=F TA r.t.length tc) (World.grownBy.refl W6 (some (w.heap.size+1+1))))))))
   have bz:=k6.grown hgr k6.size (by rintro _ ⟨⟩; omega)
   have r8:=af (aj hT L3z tX hgr) (Nat.le_trans b3.size s36)
   have r9:=af (aj hO L3z tW hgr) (Nat.le_trans b3.size s36)
   have R8:=Lib.hid r8; clear r8
   have R9:=Lib.hid r9; clear r9
   clear hgr hT hO
   go_wp2
   refine bodyPost_ret (v:=.tuple #[(r.at TA tc OA oc).val,.bool ok]) (by simp [results,Tryz.results157,go_sem, *]) rfl ?_
   unfold aB
   rw [HR.out,HK.out]
   exact ⟨TA,tc,OA,oc,rfl,R8.out,R9.out,bz⟩
end Go.Proofs.YtoeoimhemojdeaaGreatDoor
