/- Lemmas. -/
import Derived.Test.YtoeoimhemojdeaaGreatDoorFs05

set_option linter.unusedVariables false
set_option linter.unusedSimpArgs false
set_option maxHeartbeats 8000000
open Go.Value renaming int → O, slice → F, string → wG
open Go.IntKind renaming i64 → U
open Go.Proofs.Tryz renaming prog → wH

namespace Go.Proofs.YtoeoimhemojdeaaGreatDoor
open Go.RowKit
theorem kY (n:Int) (w:World):Calls wH 132 #[O U n] w fun e w'=>e=.returned (.bool (cg n 0 99999))∧w=w':=by
 go_enter Tryz.func132,Tryz.ntmps132
 go_wp2_with fail
 refine (aK n 0 99999 _).mono ?_
 rintro e w' ⟨rfl,rfl⟩
 go_wp2
 go_ret
 exact ⟨rfl,rfl⟩
theorem ka (x:aO) (w:World) (h:aQ w w.heap.size x) (tl:x.t.length≤8) (ol:x.o.length≤8) (ht:∀ i (hi:i < x.t.length),x.t[i].ok=true) (ho:∀ i (hi:i < x.o.length),x.o[i].ok x.t=true) :
  Calls wH 133 #[x.val] w fun e w'=>e=.returned (.tuple #[O U (cJ x.t),O U (aW dp x.o)])∧Below w.heap.size w w':=by
 have HT:=jZ ht; clear ht
 have HO:=jZ ho; clear ho
 have HF:Hid (gz 0 (x.t.drop 0)=cJ x.t):=rfl
 have HG:Hid (bJ dp 0 (x.o.drop 0)=aW dp x.o):=rfl
 go_enter Tryz.func133,Tryz.ntmps133
 go_wp2
 have hb0:=bZ w (.cells #[F x.TA x.t.length x.tc,F x.OA x.o.length x.oc,O U x.gt,O U x.sd,O U x.ms] 40)
 have hS:=nI.of (x:=x) (ai.new w 40 #[F x.TA x.t.length x.tc,F x.OA x.o.length x.oc,O U x.gt,O U x.sd,O U x.ms])
 have hR:=h.up hb0 nR
 generalize w.alloc (.cells #[F x.TA x.t.length x.tc,F x.OA x.o.length x.oc,O U x.gt,O U x.sd,O U x.ms] 40)=W at hb0 hS hR ⊢
 obtain ⟨s0,s1,s2,s3,s4⟩:=hS
 have Cu:=hR.ts.el
 have xS:=hR.os.el
 go_loopw [4,6] (fun s i wr=>∃ (k:Nat) (t:Int),k≤x.t.length∧i=O U k∧s=O U t∧(0≤t∧t≤9999 * (k:Int))∧(∃ q:ap W.heap.size W,wr=q.val)∧Hid (gz t (x.t.drop k)=cJ x.t)) (fun _ i _=>x.t.length - (intOf i).toNat)
 case atStart=>exact ⟨0,0,Nat.zero_le _,rfl,rfl,oM,⟨ap.start _ _,rfl⟩,HF⟩
 case round =>
  obtain ⟨k,t,hk,rfl,rfl,⟨t0,t1⟩,⟨q,rfl⟩,HR⟩:=hrel
  by_cases wQ:k < x.t.length
  ·obtain ⟨b,off,hA,hb,hcell⟩:=Cu oM
   obtain ⟨e0,e1⟩:=hcell k wQ
   obtain ⟨_,x1,x2⟩:=aq.bounds (HT.out k wQ)
   have HS:=jZ (tf wQ t)
   obtain ⟨r,xy⟩ : ∃ r,r=x.t[k]:=⟨_,rfl⟩
   rw [← xy] at e0 e1 HS x1 x2
   simp only [hA] at s0
   clear xy hcell Cu xS hA
   go_wp2
   go_roundw
   case rel=>exact ⟨k+1,t+r.c,oM,by go_num,rfl,oM,⟨q,rfl⟩,by have h1:=HR.out; rw [HS.out] at h1; exact h1⟩
   case measure=>simp [intOf]; omega
  ·have HE:Hid (t=cJ x.t):=by
    have h1:=HR.out; rw [List.drop_eq_nil_of_le oM] at h1; exact h1
   clear Cu
   go_wp2
   go_loopw [5,7] (fun s i wr=>∃ (k:Nat) (u:Int),k≤x.o.length∧i=O U k∧s=O U u∧(0≤u∧u≤9999 * (k:Int))∧(∃ q:ap W.heap.size W,wr=q.val)∧Hid (bJ dp u (x.o.drop k)=aW dp x.o)) (fun _ i _=>x.o.length - (intOf i).toNat)
   case atStart=>exact ⟨0,0,Nat.zero_le _,rfl,rfl,oM,⟨q,rfl⟩,HG⟩
   case round =>
    obtain ⟨j,u,hj,rfl,rfl,⟨u0,u1⟩,⟨p,rfl⟩,HU⟩:=hrel
    by_cases CH:j < x.o.length
    ·obtain ⟨b,off,hA,hb,hcell⟩:=xS oM
     obtain ⟨e0,e1,e2⟩:=hcell j CH
     obtain ⟨_,_,x1,x2⟩:=ae.bounds (HO.out j CH)
     have HS:Hid (bJ dp u (x.o.drop j)=bJ dp (u+x.o[j].c) (x.o.drop (j+1))):=lv (f:=dp) CH u
     obtain ⟨r,xy⟩ : ∃ r,r=x.o[j]:=⟨_,rfl⟩
     rw [← xy] at e0 e1 e2 HS x1 x2
     simp only [hA] at s1
     clear xy hcell xS hA
     go_wp2
     go_roundw
     case rel=>exact ⟨j+1,u+r.c,oM,by go_num,rfl,oM,⟨p,rfl⟩,by have h1:=HU.out; rw [HS.out] at h1; exact h1⟩
     case measure=>simp [intOf]; omega
    ·have BX:Hid (u=aW dp x.o):=by
      have h1:=HU.out; rw [List.drop_eq_nil_of_le oM] at h1; exact h1
     clear xS
     go_wp2
     go_ret2
     exact ⟨by rw [← HE.out,← BX.out]; rfl,hb0.trans (p.below.mono hb0.size)⟩
theorem er (x:aO) (w:World) (h:aQ w w.heap.size x) :
  Calls wH 82 #[x.val] w fun e w'=>e=.returned (.bool (ao x))∧Below w.heap.size w w':=by
 have hb0:=bZ w (.cells #[F x.TA x.t.length x.tc,F x.OA x.o.length x.oc,O U x.gt,O U x.sd,O U x.ms] 40)
 have hS:=nI.of (x:=x) (ai.new w 40 #[F x.TA x.t.length x.tc,F x.OA x.o.length x.oc,O U x.gt,O U x.sd,O U x.ms])
 have hR:=h.up hb0 nR
 have HG:Hid (ao x=((fo x.t && decide (x.t.length≤8)) && (fc x.t x.o && decide (x.o.length≤8)) && cg x.gt 0 99999 && cg x.sd 0 99999 && cg x.ms 0 99999 && lw x)):=by
  unfold Hid ao fp iW
  generalize fo x.t=a1; generalize fc x.t x.o=a2; generalize decide (x.t.length≤8)=a3; generalize decide (x.o.length≤8)=a4; generalize cg x.gt 0 99999=a5; generalize cg x.sd 0 99999=a6; generalize cg x.ms 0 99999=a7; generalize lw x=a8
  cases a1 <;> cases a2 <;> cases a3 <;> cases a4 <;> cases a5 <;> cases a6 <;> cases a7 <;> rfl
 obtain ⟨v1,AW⟩ : ∃ v,(fo x.t && decide (x.t.length≤8))=v:=⟨_,rfl⟩
 obtain ⟨v2,xw⟩ : ∃ v,(fc x.t x.o && decide (x.o.length≤8))=v:=⟨_,rfl⟩
 obtain ⟨v3,zu⟩ : ∃ v,cg x.gt 0 99999=v:=⟨_,rfl⟩
 obtain ⟨v4,AA⟩ : ∃ v,cg x.sd 0 99999=v:=⟨_,rfl⟩
 obtain ⟨v5,zW⟩ : ∃ v,cg x.ms 0 99999=v:=⟨_,rfl⟩
 rw [AW,xw,zu,AA,zW] at HG
 have cT:∀ W,aQ W W.heap.size x→Calls wH 130 #[x.val] W fun e w'=>e=.returned (.bool v1)∧Below W.heap.size W w':=fun W hW=>by rw [← AW]; exact pK x W hW
 have c3:=fun W=>kY x.gt W
 have c4:=fun W=>kY x.sd W
 have c5:=fun W=>kY x.ms W
 rw [zu] at c3
 rw [AA] at c4
 rw [zW] at c5
 have zh:=jZ AW; clear AW
 have yt:=jZ xw; clear xw
 have zi:=jZ zu; clear zu
 have CI:=jZ AA; clear AA
 have IQ:=jZ zW; clear zW
 cases v1
 ·go_enter Tryz.func82,Tryz.ntmps82
  go_wp2_with fail
  generalize w.alloc (.cells #[F x.TA x.t.length x.tc,F x.OA x.o.length x.oc,O U x.gt,O U x.sd,O U x.ms] 40)=W at hb0 hS hR ⊢
  refine (aY (cT W hR)).mono ?_
  rintro e w1 ⟨rfl,q1,rfl⟩
  go_wp2
  go_ret
  exact ⟨by rw [HG.out]; rfl,hb0.trans (q1.below.mono hb0.size)⟩
 ·have h1:=zh.out
  rw [Bool.and_eq_true] at h1
  have tl:x.t.length≤8:=of_decide_eq_true h1.2
  have Ak:=jZ (gH _ _ _ h1.1)
  have cO:∀ W,aQ W W.heap.size x→Calls wH 131 #[x.val] W fun e w'=>e=.returned (.bool v2)∧Below W.heap.size W w':=fun W hW=>by rw [← yt.out]; exact qx x W hW Ak.out
  clear h1
  cases v2
  ·go_enter Tryz.func82,Tryz.ntmps82
   go_wp2_with fail
   generalize w.alloc (.cells #[F x.TA x.t.length x.tc,F x.OA x.o.length x.oc,O U x.gt,O U x.sd,O U x.ms] 40)=W at hb0 hS hR ⊢
   obtain ⟨s0,s1,s2,s3,s4⟩:=hS
   refine (aY (cT W hR)).mono ?_
   rintro e w1 ⟨rfl,q1,rfl⟩
   go_wp2_with fail
   refine (aC nR (cO _ (hR.at q1))).mono ?_
   rintro e w2 ⟨rfl,q2,rfl⟩
   go_wp2
   go_ret
   exact ⟨by rw [HG.out]; rfl,hb0.trans (q2.below.mono hb0.size)⟩
  ·have h2:=yt.out
   rw [Bool.and_eq_true] at h2
   have ol:x.o.length≤8:=of_decide_eq_true h2.2
   have Bi:=jZ (fZ _ _ _ h2.1)
   have cM:=fun W hW=>ka x W hW tl ol Ak.out Bi.out
   have hi:=kx x.t 0 Ak.out
   have hj:=fK dp x.t x.o 0 Bi.out
   have DJ:Hid (lw x=decide (x.gt=cJ x.t+aW dp x.o+x.sd+x.ms)):=rfl
   change 0≤cJ x.t∧cJ x.t≤_ at hi
   change 0≤aW dp x.o∧aW dp x.o≤_ at hj
   generalize cJ x.t=I at cM hi DJ
   generalize aW dp x.o=J at cM hj DJ
   obtain ⟨i1,i2⟩:=hi
   obtain ⟨j1,j2⟩:=hj
   clear h2
   by_cases yN:(v3 && v4 && v5)=true
   ·rw [Bool.and_eq_true,Bool.and_eq_true] at yN
    obtain ⟨⟨rfl,rfl⟩,rfl⟩:=yN
    obtain ⟨g1,g2⟩:=bV.1 zi.out
    obtain ⟨g3,g4⟩:=bV.1 CI.out
    obtain ⟨g5,g6⟩:=bV.1 IQ.out
    obtain ⟨z,hz⟩ : ∃ z,decide (x.gt=I+J+x.sd+x.ms)=z:=⟨_,rfl⟩
    have yX:(x.gt == I+J+x.sd+x.ms)=z:=by rw [← hz,Bool.eq_iff_iff]; simp
    have HZ:=jZ hz; clear hz
    cases z
    all_goals
     go_enter Tryz.func82,Tryz.ntmps82
     go_wp2_with fail
     generalize w.alloc (.cells #[F x.TA x.t.length x.tc,F x.OA x.o.length x.oc,O U x.gt,O U x.sd,O U x.ms] 40)=W at hb0 hS hR ⊢
     obtain ⟨s0,s1,s2,s3,s4⟩:=hS
     refine (aY (cT W hR)).mono ?_
     rintro e w1 ⟨rfl,q1,rfl⟩
     go_wp2_with fail
     refine (aC nR (cO _ (hR.at q1))).mono ?_
     rintro e w2 ⟨rfl,q2,rfl⟩
     go_wp2_with fail
     refine (c3 _).mono ?_
     rintro e w3 ⟨rfl,rfl⟩
     go_wp2_with fail
     refine (c4 _).mono ?_
     rintro e w3 ⟨rfl,rfl⟩
     go_wp2_with fail
     refine (c5 _).mono ?_
     rintro e w3 ⟨rfl,rfl⟩
     go_wp2_with fail
     refine (aC nR (cM _ (hR.at q2))).mono ?_
     rintro e w4 ⟨rfl,q4,rfl⟩
     go_wp2
     go_ret
     exact ⟨by rw [HG.out,DJ.out,HZ.out]; rfl,hb0.trans (q4.below.mono hb0.size)⟩
   ·have FF:Hid (ao x=false):=by
     unfold Hid; rw [HG.out]
     cases v3 <;> cases v4 <;> cases v5 <;> first | rfl | exact absurd rfl yN
    cases v3
    all_goals (try cases v4)
    all_goals (try cases v5)
    all_goals first
     | exact absurd rfl yN
     | skip
    all_goals
     clear yN
     go_enter Tryz.func82,Tryz.ntmps82
     go_wp2_with fail
     generalize w.alloc (.cells #[F x.TA x.t.length x.tc,F x.OA x.o.length x.oc,O U x.gt,O U x.sd,O U x.ms] 40)=W at hb0 hS hR ⊢
     obtain ⟨s0,s1,s2,s3,s4⟩:=hS
     refine (aY (cT W hR)).mono ?_
     rintro e w1 ⟨rfl,q1,rfl⟩
     go_wp2_with fail
     refine (aC nR (cO _ (hR.at q1))).mono ?_
     rintro e w2 ⟨rfl,q2,rfl⟩
     go_wp2_with fail
     refine (c3 _).mono ?_
     rintro e w3 ⟨rfl,rfl⟩
     go_wp2_with (first | (go_at_call 132; with_reducible refine (c4 _).mono ?_; rintro e w4 ⟨rfl,rfl⟩) | (go_at_call 132; with_reducible refine (c5 _).mono ?_; rintro e w4 ⟨rfl,rfl⟩))
     go_ret
     exact ⟨by rw [FF.out]; rfl,hb0.trans (q2.below.mono hb0.size)⟩
end Go.Proofs.YtoeoimhemojdeaaGreatDoor
