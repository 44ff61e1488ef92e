/- Lemmas. -/
import Derived.Test.YtoeoimhemojdeaaGreatDoorFc05

set_option linter.unusedVariables false
set_option linter.unusedSimpArgs false
set_option maxHeartbeats 8000000
open Go.Value renaming int → O, slice → F, string → vw
open Go.IntKind renaming i64 → U
open Go.Proofs.Tryz renaming prog → vx

namespace Go.Proofs.YtoeoimhemojdeaaGreatDoor
open Go.RowKit
theorem kB (n:Int) (w:World):Calls vx 132 #[O U n] w fun e w'=>e=.returned (.bool (cc n 0 99999))∧w=w':=by
 go_enter Tryz.func132,Tryz.ntmps132
 go_wp2_with fail
 refine (aH n 0 99999 _).mono ?_
 rintro e w' ⟨rfl,rfl⟩
 go_wp2
 go_ret
 exact ⟨rfl,rfl⟩
theorem jF (x:aO) (w:World) (h:aP w w.heap.size x) (tl:x.t.length≤8) (ol:x.o.length≤8) (ht:∀ i (hi:i < x.t.length),x.t[i].ok=true) (ho:∀ i (hi:i < x.o.length),x.o[i].ok x.t=true) :
  Calls vx 133 #[x.val] w fun e w'=>e=.returned (.tuple #[O U (cr x.t),O U (aW de x.o)])∧Below w.heap.size w w':=by
 have HT:=jZ ht; clear ht
 have HO:=jZ ho; clear ho
 have HF:Hid (gh 0 (x.t.drop 0)=cr x.t):=rfl
 have HG:Hid (bG de 0 (x.o.drop 0)=aW de x.o):=rfl
 go_enter Tryz.func133,Tryz.ntmps133
 go_wp2
 have hb0:=bZ w (.cells #[F x.TA x.t.length x.tc,F x.OA x.o.length x.oc,O U x.gt,O U x.sd,O U x.ms] 40)
 have hS:=na.of (x:=x) (ah.new w 40 #[F x.TA x.t.length x.tc,F x.OA x.o.length x.oc,O U x.gt,O U x.sd,O U x.ms])
 have hR:=h.up hb0 nR
 generalize w.alloc (.cells #[F x.TA x.t.length x.tc,F x.OA x.o.length x.oc,O U x.gt,O U x.sd,O U x.ms] 40)=W at hb0 hS hR ⊢
 obtain ⟨s0,s1,s2,s3,s4⟩:=hS
 have AU:=hR.ts.el
 have wN:=hR.os.el
 go_loopw [4,6] (fun s i wr=>∃ (k:Nat) (t:Int),k≤x.t.length∧i=O U k∧s=O U t∧(0≤t∧t≤9999 * (k:Int))∧(∃ q:ap W.heap.size W,wr=q.val)∧Hid (gh t (x.t.drop k)=cr x.t)) (fun _ i _=>x.t.length - (intOf i).toNat)
 case atStart=>exact ⟨0,0,Nat.zero_le _,rfl,rfl,oM,⟨ap.start _ _,rfl⟩,HF⟩
 case round =>
  obtain ⟨k,t,hk,rfl,rfl,⟨t0,t1⟩,⟨q,rfl⟩,HR⟩:=hrel
  by_cases vH:k < x.t.length
  ·obtain ⟨b,off,hA,hb,hcell⟩:=AU oM
   obtain ⟨e0,e1⟩:=hcell k vH
   obtain ⟨_,x1,x2⟩:=aq.bounds (HT.out k vH)
   have HS:=jZ (r4 vH t)
   obtain ⟨r,wl⟩ : ∃ r,r=x.t[k]:=⟨_,rfl⟩
   rw [← wl] at e0 e1 HS x1 x2
   simp only [hA] at s0
   clear wl hcell AU wN hA
   go_wp2
   go_roundw
   case rel=>exact ⟨k+1,t+r.c,oM,by go_num,rfl,oM,⟨q,rfl⟩,by have h1:=HR.out; rw [HS.out] at h1; exact h1⟩
   case measure=>simp [intOf]; omega
  ·have HE:Hid (t=cr x.t):=by
    have h1:=HR.out; rw [List.drop_eq_nil_of_le oM] at h1; exact h1
   clear AU
   go_wp2
   go_loopw [5,7] (fun s i wr=>∃ (k:Nat) (u:Int),k≤x.o.length∧i=O U k∧s=O U u∧(0≤u∧u≤9999 * (k:Int))∧(∃ q:ap W.heap.size W,wr=q.val)∧Hid (bG de u (x.o.drop k)=aW de x.o)) (fun _ i _=>x.o.length - (intOf i).toNat)
   case atStart=>exact ⟨0,0,Nat.zero_le _,rfl,rfl,oM,⟨q,rfl⟩,HG⟩
   case round =>
    obtain ⟨j,u,hj,rfl,rfl,⟨u0,u1⟩,⟨p,rfl⟩,HU⟩:=hrel
    by_cases Bj:j < x.o.length
    ·obtain ⟨b,off,hA,hb,hcell⟩:=wN oM
     obtain ⟨e0,e1,e2⟩:=hcell j Bj
     obtain ⟨_,_,x1,x2⟩:=ae.bounds (HO.out j Bj)
     have HS:Hid (bG de u (x.o.drop j)=bG de (u+x.o[j].c) (x.o.drop (j+1))):=kR (f:=de) Bj u
     obtain ⟨r,wl⟩ : ∃ r,r=x.o[j]:=⟨_,rfl⟩
     rw [← wl] at e0 e1 e2 HS x1 x2
     simp only [hA] at s1
     clear wl hcell wN hA
     go_wp2
     go_roundw
     case rel=>exact ⟨j+1,u+r.c,oM,by go_num,rfl,oM,⟨p,rfl⟩,by have h1:=HU.out; rw [HS.out] at h1; exact h1⟩
     case measure=>simp [intOf]; omega
    ·have AA:Hid (u=aW de x.o):=by
      have h1:=HU.out; rw [List.drop_eq_nil_of_le oM] at h1; exact h1
     clear wN
     go_wp2
     go_ret2
     exact ⟨by rw [← HE.out,← AA.out]; rfl,hb0.trans (p.below.mono hb0.size)⟩
theorem ef (x:aO) (w:World) (h:aP w w.heap.size x) :
  Calls vx 82 #[x.val] w fun e w'=>e=.returned (.bool (an x))∧Below w.heap.size w w':=by
 have hb0:=bZ w (.cells #[F x.TA x.t.length x.tc,F x.OA x.o.length x.oc,O U x.gt,O U x.sd,O U x.ms] 40)
 have hS:=na.of (x:=x) (ah.new w 40 #[F x.TA x.t.length x.tc,F x.OA x.o.length x.oc,O U x.gt,O U x.sd,O U x.ms])
 have hR:=h.up hb0 nR
 have HG:Hid (an x=((fa x.t && decide (x.t.length≤8)) && (eT x.t x.o && decide (x.o.length≤8)) && cc x.gt 0 99999 && cc x.sd 0 99999 && cc x.ms 0 99999 && kS x)):=by
  unfold Hid an fb iJ
  generalize fa x.t=a1; generalize eT x.t x.o=a2; generalize decide (x.t.length≤8)=a3; generalize decide (x.o.length≤8)=a4; generalize cc x.gt 0 99999=a5; generalize cc x.sd 0 99999=a6; generalize cc x.ms 0 99999=a7; generalize kS x=a8
  cases a1 <;> cases a2 <;> cases a3 <;> cases a4 <;> cases a5 <;> cases a6 <;> cases a7 <;> rfl
 obtain ⟨v1,zJ⟩ : ∃ v,(fa x.t && decide (x.t.length≤8))=v:=⟨_,rfl⟩
 obtain ⟨v2,wj⟩ : ∃ v,(eT x.t x.o && decide (x.o.length≤8))=v:=⟨_,rfl⟩
 obtain ⟨v3,yl⟩ : ∃ v,cc x.gt 0 99999=v:=⟨_,rfl⟩
 obtain ⟨v4,zp⟩ : ∃ v,cc x.sd 0 99999=v:=⟨_,rfl⟩
 obtain ⟨v5,yM⟩ : ∃ v,cc x.ms 0 99999=v:=⟨_,rfl⟩
 rw [zJ,wj,yl,zp,yM] at HG
 have cT:∀ W,aP W W.heap.size x→Calls vx 130 #[x.val] W fun e w'=>e=.returned (.bool v1)∧Below W.heap.size W w':=fun W hW=>by rw [← zJ]; exact oY x W hW
 have c3:=fun W=>kB x.gt W
 have c4:=fun W=>kB x.sd W
 have c5:=fun W=>kB x.ms W
 rw [yl] at c3
 rw [zp] at c4
 rw [yM] at c5
 have xZ:=jZ zJ; clear zJ
 have xn:=jZ wj; clear wj
 have ya:=jZ yl; clear yl
 have Bk:=jZ zp; clear zp
 have GJ:=jZ yM; clear yM
 cases v1
 ·go_enter Tryz.func82,Tryz.ntmps82
  go_wp2_with fail
  generalize w.alloc (.cells #[F x.TA x.t.length x.tc,F x.OA x.o.length x.oc,O U x.gt,O U x.sd,O U x.ms] 40)=W at hb0 hS hR ⊢
  refine (aX (cT W hR)).mono ?_
  rintro e w1 ⟨rfl,q1,rfl⟩
  go_wp2
  go_ret
  exact ⟨by rw [HG.out]; rfl,hb0.trans (q1.below.mono hb0.size)⟩
 ·have h1:=xZ.out
  rw [Bool.and_eq_true] at h1
  have tl:x.t.length≤8:=of_decide_eq_true h1.2
  have y5:=jZ (gy _ _ _ h1.1)
  have cO:∀ W,aP W W.heap.size x→Calls vx 131 #[x.val] W fun e w'=>e=.returned (.bool v2)∧Below W.heap.size W w':=fun W hW=>by rw [← xn.out]; exact pK x W hW y5.out
  clear h1
  cases v2
  ·go_enter Tryz.func82,Tryz.ntmps82
   go_wp2_with fail
   generalize w.alloc (.cells #[F x.TA x.t.length x.tc,F x.OA x.o.length x.oc,O U x.gt,O U x.sd,O U x.ms] 40)=W at hb0 hS hR ⊢
   obtain ⟨s0,s1,s2,s3,s4⟩:=hS
   refine (aX (cT W hR)).mono ?_
   rintro e w1 ⟨rfl,q1,rfl⟩
   go_wp2_with fail
   refine (aQ nR (cO _ (hR.at q1))).mono ?_
   rintro e w2 ⟨rfl,q2,rfl⟩
   go_wp2
   go_ret
   exact ⟨by rw [HG.out]; rfl,hb0.trans (q2.below.mono hb0.size)⟩
  ·have h2:=xn.out
   rw [Bool.and_eq_true] at h2
   have ol:x.o.length≤8:=of_decide_eq_true h2.2
   have zS:=jZ (fQ _ _ _ h2.1)
   have cM:=fun W hW=>jF x W hW tl ol y5.out zS.out
   have hi:=jX x.t 0 y5.out
   have hj:=fC de x.t x.o 0 zS.out
   have Ch:Hid (kS x=decide (x.gt=cr x.t+aW de x.o+x.sd+x.ms)):=rfl
   change 0≤cr x.t∧cr x.t≤_ at hi
   change 0≤aW de x.o∧aW de x.o≤_ at hj
   generalize cr x.t=I at cM hi Ch
   generalize aW de x.o=J at cM hj Ch
   obtain ⟨i1,i2⟩:=hi
   obtain ⟨j1,j2⟩:=hj
   clear h2
   by_cases xJ:(v3 && v4 && v5)=true
   ·rw [Bool.and_eq_true,Bool.and_eq_true] at xJ
    obtain ⟨⟨rfl,rfl⟩,rfl⟩:=xJ
    obtain ⟨g1,g2⟩:=bQ.1 ya.out
    obtain ⟨g3,g4⟩:=bQ.1 Bk.out
    obtain ⟨g5,g6⟩:=bQ.1 GJ.out
    obtain ⟨z,hz⟩ : ∃ z,decide (x.gt=I+J+x.sd+x.ms)=z:=⟨_,rfl⟩
    have xQ:(x.gt == I+J+x.sd+x.ms)=z:=by rw [← hz,Bool.eq_iff_iff]; simp
    have HZ:=jZ hz; clear hz
    cases z
    all_goals
     go_enter Tryz.func82,Tryz.ntmps82
     go_wp2_with fail
     generalize w.alloc (.cells #[F x.TA x.t.length x.tc,F x.OA x.o.length x.oc,O U x.gt,O U x.sd,O U x.ms] 40)=W at hb0 hS hR ⊢
     obtain ⟨s0,s1,s2,s3,s4⟩:=hS
     refine (aX (cT W hR)).mono ?_
     rintro e w1 ⟨rfl,q1,rfl⟩
     go_wp2_with fail
     refine (aQ nR (cO _ (hR.at q1))).mono ?_
     rintro e w2 ⟨rfl,q2,rfl⟩
     go_wp2_with fail
     refine (c3 _).mono ?_
     rintro e w3 ⟨rfl,rfl⟩
     go_wp2_with fail
     refine (c4 _).mono ?_
     rintro e w3 ⟨rfl,rfl⟩
     go_wp2_with fail
     refine (c5 _).mono ?_
     rintro e w3 ⟨rfl,rfl⟩
     go_wp2_with fail
     refine (aQ nR (cM _ (hR.at q2))).mono ?_
     rintro e w4 ⟨rfl,q4,rfl⟩
     go_wp2
     go_ret
     exact ⟨by rw [HG.out,Ch.out,HZ.out]; rfl,hb0.trans (q4.below.mono hb0.size)⟩
   ·have Ea:Hid (an x=false):=by
     unfold Hid; rw [HG.out]
     cases v3 <;> cases v4 <;> cases v5 <;> first | rfl | exact absurd rfl xJ
    cases v3
    all_goals (try cases v4)
    all_goals (try cases v5)
    all_goals first
     | exact absurd rfl xJ
     | skip
    all_goals
     clear xJ
     go_enter Tryz.func82,Tryz.ntmps82
     go_wp2_with fail
     generalize w.alloc (.cells #[F x.TA x.t.length x.tc,F x.OA x.o.length x.oc,O U x.gt,O U x.sd,O U x.ms] 40)=W at hb0 hS hR ⊢
     obtain ⟨s0,s1,s2,s3,s4⟩:=hS
     refine (aX (cT W hR)).mono ?_
     rintro e w1 ⟨rfl,q1,rfl⟩
     go_wp2_with fail
     refine (aQ nR (cO _ (hR.at q1))).mono ?_
     rintro e w2 ⟨rfl,q2,rfl⟩
     go_wp2_with fail
     refine (c3 _).mono ?_
     rintro e w3 ⟨rfl,rfl⟩
     go_wp2_with (first | (go_at_call 132; with_reducible refine (c4 _).mono ?_; rintro e w4 ⟨rfl,rfl⟩) | (go_at_call 132; with_reducible refine (c5 _).mono ?_; rintro e w4 ⟨rfl,rfl⟩))
     go_ret
     exact ⟨by rw [Ea.out]; rfl,hb0.trans (q2.below.mono hb0.size)⟩
end Go.Proofs.YtoeoimhemojdeaaGreatDoor
