/- Lemmas. -/
import Derived.Test.YtoeoimhemojdeaaGreatDoorFs04

set_option linter.unusedVariables false
set_option linter.unusedSimpArgs false
set_option maxHeartbeats 8000000
open Go.Value renaming int → O, slice → F, string → wG
open Go.IntKind renaming i64 → U
open Go.Proofs.Tryz renaming prog → wH

namespace Go.Proofs.YtoeoimhemojdeaaGreatDoor
open Go.RowKit
theorem qx (x:aO) (w:World) (h:aQ w w.heap.size x) (xF:∀ i (hi:i < x.t.length),x.t[i].ok=true) :
  Calls wH 131 #[x.val] w fun e w'=>e=.returned (.bool (fc x.t x.o && decide (x.o.length≤8)))∧Below w.heap.size w w':=by
 have hl:=h.os.big
 have Ak:=jZ xF; clear xF
 go_enter Tryz.func131,Tryz.ntmps131
 go_wp2
 have hb0:=bZ w (.cells #[F x.TA x.t.length x.tc,F x.OA x.o.length x.oc,O U x.gt,O U x.sd,O U x.ms] 40)
 have hS:=nI.of (x:=x) (ai.new w 40 #[F x.TA x.t.length x.tc,F x.OA x.o.length x.oc,O U x.gt,O U x.sd,O U x.ms])
 have hR:=h.up hb0 nR
 generalize w.alloc (.cells #[F x.TA x.t.length x.tc,F x.OA x.o.length x.oc,O U x.gt,O U x.sd,O U x.ms] 40)=W at hb0 hS hR ⊢
 have yn:=hR.os.el
 go_loopw [3] (fun i wr=>∃ (k:Nat) (prev:Option ae),k≤x.o.length∧i=O U k∧(∃ q:ap W.heap.size W,wr=q.val)∧Hid (dV x.t prev (x.o.drop k)=fc x.t x.o)∧Hid ((k=0→prev=none)∧∀ (_hk:0 < k) (h' : k - 1 < x.o.length),prev=some x.o[k - 1]∧x.o[k - 1].ok x.t=true)) (fun i _=>x.o.length - (intOf i).toNat)
 case atStart=>exact ⟨0,none,Nat.zero_le _,rfl,⟨ap.start _ _,rfl⟩,rfl,fun _=>rfl,fun h=>absurd h oM⟩
 case round =>
  obtain ⟨k,prev,hk,rfl,⟨q,rfl⟩,HR,HP⟩:=hrel
  obtain ⟨s0,s1,s2,s3,s4⟩:=hS
  by_cases wQ:k < x.o.length
  ·obtain ⟨b,off,hA,hb,hcell⟩:=yn oM
   obtain ⟨e0,e1,e2⟩:=hcell k wQ
   have HS:=jZ (pd (ts:=x.t) (p:=prev) wQ)
   obtain ⟨r,xy⟩ : ∃ r,r=x.o[k]:=⟨_,rfl⟩
   have HN:Hid (r.ok x.t=true→(k+1=0→some r=none)∧∀ (_hk:0 < k+1) (h' : k+1 - 1 < x.o.length),some r=some x.o[k+1 - 1]∧x.o[k+1 - 1].ok x.t=true):=fun ho=>⟨fun h=>by omega,fun _ h'=>⟨by rw [xy]; rfl,by rw [xy] at ho; exact ho⟩⟩
   have HC:Hid (∀ _:0 < k,∃ u:ae,prev=some u∧u.ok x.t=true∧fY W.heap.size W b (off+(k - 1) * 3) u):=fun h=>⟨x.o[k - 1],(HP.out.2 h oM).1,(HP.out.2 h oM).2,hcell (k - 1) oM⟩
   rw [← xy] at e0 e1 e2 HS
   simp only [hA] at s1
   clear xy hcell yn
   go_wp2
   have hbV:=q.below.alloc q.size (.cells #[O U r.k,O U r.p,O U r.c] 147)
   have hlV:=ai.new q.val 147 #[O U r.k,O U r.p,O U r.c]
   generalize q.val.alloc (.cells #[O U r.k,O U r.p,O U r.c] 147)=V at hbV hlV ⊢
   generalize q.val.heap.size=gv at hlV ⊢
   obtain ⟨d0,d1,d2⟩:=fY.of (r:=r) hlV
   have up:∀ {a:Addr} {u:Value},(∀ p:ap W.heap.size W,p.val.cell? a=some u)→∀ p:ap V.heap.size V,p.val.cell? a=some u:=fun h p=>h ⟨p.val,hbV.trans (p.below.mono hbV.size)⟩
   have s0:=up s0
   have s1:=up s1
   have s2:=up s2
   have s3:=up s3
   have s4:=up s4
   have zV:({ x with OA:=some ⟨b,off,none⟩ } : aO)=x:=by rw [← hA]
   have Dz:∀ p:ap V.heap.size V,aQ p.val p.val.heap.size { x with OA:=some ⟨b,off,none⟩ }:=fun p=>by rw [zV]; exact hR.at ⟨p.val,hbV.trans (p.below.mono hbV.size)⟩
   clear zV hA
   have xf:Hid (r.ok x.t=(aS x.t r.k && cg r.p 1 999 && cg r.c 1 9999)):=rfl
   clear e0 e1 e2
   obtain ⟨X,hX⟩ : ∃ X,ay x.t r.k=X:=⟨_,rfl⟩
   have HX:Hid (Value.int .i64 (ay x.t r.k)=O U X):=by rw [hX]; rfl
   have HH:Hid (aS x.t r.k=decide (0≤X)):=by rw [← hX]; exact (dU _ _).symm
   obtain ⟨v2,xw⟩ : ∃ v,cg r.p 1 999=v:=⟨_,rfl⟩
   obtain ⟨v3,zu⟩ : ∃ v,cg r.c 1 9999=v:=⟨_,rfl⟩
   rw [xw,zu] at xf
   have yt:=jZ xw; clear xw
   have zi:=jZ zu; clear zu
   clear hX
   by_cases Bh:0≤X
   ·have As:decide (X < 0)=false:=jE oM
    have Az:Hid (decide (0≤X)=true):=jD Bh
    cases v2
    ·rcases Nat.eq_zero_or_pos k with h0 | h0
     ·have hd:decide (0 < k)=false:=jE oM
      clear h0
      refine au kZ kZ ?_
      repeat (any_goals (first | go_big_quiet_step ((first | (go_at_call 174; with_reducible refine aU HX nR (bO { x with OA:=some ⟨b,off,none⟩ } r.k _ (Dz _))) | (go_at_call 134; with_reducible refine aB yt (aK r.p 1 999 _)))) | (refine wpQuiet_step (fun K hK=>?_); go_simp; split <;> (refine hK _ ?_; clear hK K))))
      all_goals (refine wpQuiet_nil ?_; rintro _ ⟨q1,rfl⟩)
      all_goals have wN:=hb0.trans ((hbV.trans (q1.below.mono hbV.size)).mono hb0.size)
      all_goals go_wp2
      go_ret
      refine ⟨?_,wN⟩
      rw [← HR.out,HS.out,xf.out,Bool.and_false]; rfl
     ·have h0' : (0:Int) < (k:Int):=oM
      refine au kZ kZ ?_
      repeat (any_goals (first | go_big_quiet_step ((first | (go_at_call 174; with_reducible refine aU HX nR (bO { x with OA:=some ⟨b,off,none⟩ } r.k _ (Dz _))) | (go_at_call 134; with_reducible refine aB yt (aK r.p 1 999 _)))) | (refine wpQuiet_step (fun K hK=>?_); go_simp; split <;> (refine hK _ ?_; clear hK K))))
      all_goals (refine wpQuiet_nil ?_; rintro _ ⟨q1,rfl⟩)
      all_goals have wN:=hb0.trans ((hbV.trans (q1.below.mono hbV.size)).mono hb0.size)
      all_goals go_wp2
      go_ret
      refine ⟨?_,wN⟩
      rw [← HR.out,HS.out,xf.out,Bool.and_false]; rfl
    ·cases v3
     ·rcases Nat.eq_zero_or_pos k with h0 | h0
      ·have hd:decide (0 < k)=false:=jE oM
       clear h0
       refine au kZ kZ ?_
       repeat (any_goals (first | go_big_quiet_step ((first | (go_at_call 174; with_reducible refine aU HX nR (bO { x with OA:=some ⟨b,off,none⟩ } r.k _ (Dz _))) | (go_at_call 134; with_reducible refine aB yt (aK r.p 1 999 _)) | (go_at_call 134; with_reducible refine aB zi (aK r.c 1 9999 _)))) | (refine wpQuiet_step (fun K hK=>?_); go_simp; split <;> (refine hK _ ?_; clear hK K))))
       all_goals (refine wpQuiet_nil ?_; rintro _ ⟨q1,rfl⟩)
       all_goals have wN:=hb0.trans ((hbV.trans (q1.below.mono hbV.size)).mono hb0.size)
       all_goals go_wp2
       go_ret
       refine ⟨?_,wN⟩
       rw [← HR.out,HS.out,xf.out,Bool.and_false]; rfl
      ·have h0' : (0:Int) < (k:Int):=oM
       refine au kZ kZ ?_
       repeat (any_goals (first | go_big_quiet_step ((first | (go_at_call 174; with_reducible refine aU HX nR (bO { x with OA:=some ⟨b,off,none⟩ } r.k _ (Dz _))) | (go_at_call 134; with_reducible refine aB yt (aK r.p 1 999 _)) | (go_at_call 134; with_reducible refine aB zi (aK r.c 1 9999 _)))) | (refine wpQuiet_step (fun K hK=>?_); go_simp; split <;> (refine hK _ ?_; clear hK K))))
       all_goals (refine wpQuiet_nil ?_; rintro _ ⟨q1,rfl⟩)
       all_goals have wN:=hb0.trans ((hbV.trans (q1.below.mono hbV.size)).mono hb0.size)
       all_goals go_wp2
       go_ret
       refine ⟨?_,wN⟩
       rw [← HR.out,HS.out,xf.out,Bool.and_false]; rfl
     ·have At:Hid (r.ok x.t=true):=by unfold Hid; rw [xf.out,HH.out,Az.out]; rfl
      rcases Nat.eq_zero_or_pos k with h0 | h0
      ·have hd:decide (0 < k)=false:=jE oM
       have DI:Hid (prev=none):=HP.out.1 h0
       clear h0
       refine au kZ kZ ?_
       repeat (any_goals (first | go_big_quiet_step ((first | (go_at_call 174; with_reducible refine aU HX nR (bO { x with OA:=some ⟨b,off,none⟩ } r.k _ (Dz _))) | (go_at_call 134; with_reducible refine aB yt (aK r.p 1 999 _)) | (go_at_call 134; with_reducible refine aB zi (aK r.c 1 9999 _)))) | (refine wpQuiet_step (fun K hK=>?_); go_simp; split <;> (refine hK _ ?_; clear hK K))))
       all_goals (refine wpQuiet_nil ?_; rintro _ ⟨q1,rfl⟩)
       all_goals have wN:=hb0.trans ((hbV.trans (q1.below.mono hbV.size)).mono hb0.size)
       all_goals go_wp2
       go_roundw
       case rel=>exact ⟨k+1,some r,oM,by go_num,⟨⟨_,hbV.trans (q1.below.mono hbV.size)⟩,rfl⟩,by have h1:=HR.out; rw [HS.out,At.out,DI.out] at h1; exact h1,HN.out At.out⟩
       case measure=>simp [intOf]; omega
      ·have h0' : (0:Int) < (k:Int):=oM
       obtain ⟨u,IM,Hu,⟨t0,t1,t2⟩⟩:=HC.out h0
       have t0:=up t0
       have t1:=up t1
       have t2:=up t2
       subst IM
       have FV:Hid (dV x.t (some u) (x.o.drop k)=(r.ok x.t && before u r && dV x.t (some r) (x.o.drop (k+1)))):=HS.out
       obtain ⟨KK,Ct,_⟩:=ae.bounds Hu
       obtain ⟨KL,Ex,_⟩:=ae.bounds At.out
       have KM:=jZ (And.intro (eC Ak.out KK) Ct)
       have KN:=jZ (And.intro (eC Ak.out KL) Ex)
       have HB:Hid (before u r=decide (1000 * u.k+u.p < 1000 * r.k+r.p)):=nE Ct Ex
       clear Hu KK Ct KL Ex up
       obtain ⟨K1,IN⟩ : ∃ K,1000 * u.k+u.p=K:=⟨_,rfl⟩
       obtain ⟨K2,IP⟩ : ∃ K,1000 * r.k+r.p=K:=⟨_,rfl⟩
       rw [IN,IP] at HB
       have DA:Hid (Value.int .i64 (1000 * u.k+u.p)=O U K1):=by rw [IN]; rfl
       have Ey:Hid (Value.int .i64 (1000 * r.k+r.p)=O U K2):=by rw [IP]; rfl
       clear IN IP
       refine au kZ kZ ?_
       repeat (any_goals (first | go_big_quiet_step ((first | (go_at_call 174; with_reducible refine aU HX nR (bO { x with OA:=some ⟨b,off,none⟩ } r.k _ (Dz _))) | (go_at_call 134; with_reducible refine aB yt (aK r.p 1 999 _)) | (go_at_call 134; with_reducible refine aB zi (aK r.c 1 9999 _)) | (go_at_call 176; with_reducible refine aU DA nR (js u _ KM.out.1 KM.out.2)) | (go_at_call 176; with_reducible refine aU Ey nR (js r _ KN.out.1 KN.out.2)))) | (refine wpQuiet_step (fun K hK=>?_); go_simp; split <;> (refine hK _ ?_; clear hK K))))
       all_goals (refine wpQuiet_nil ?_; rintro _ ⟨q1,rfl⟩)
       all_goals have wN:=hb0.trans ((hbV.trans (q1.below.mono hbV.size)).mono hb0.size)
       all_goals go_wp2
       ·go_ret
        refine ⟨?_,wN⟩
        have hm:K2≤K1:=by assumption
        rw [← HR.out,FV.out,At.out,HB.out,jE oM]; rfl
       ·have hm:K1 < K2:=by assumption
        go_roundw
        case rel=>exact ⟨k+1,some r,oM,by go_num,⟨⟨_,hbV.trans (q1.below.mono hbV.size)⟩,rfl⟩,by have h1:=HR.out; rw [FV.out,At.out,HB.out,jD hm] at h1; exact h1,HN.out At.out⟩
        case measure=>simp [intOf]; omega
   ·have As:decide (X < 0)=true:=jD oM
    have Az:Hid (decide (0≤X)=false):=jE Bh
    rcases Nat.eq_zero_or_pos k with h0 | h0
    ·have hd:decide (0 < k)=false:=jE oM
     clear h0
     refine au kZ kZ ?_
     repeat (any_goals (first | go_big_quiet_step ((go_at_call 174; with_reducible refine aU HX nR (bO { x with OA:=some ⟨b,off,none⟩ } r.k _ (Dz _)))) | (refine wpQuiet_step (fun K hK=>?_); go_simp; split <;> (refine hK _ ?_; clear hK K))))
     all_goals (refine wpQuiet_nil ?_; rintro _ ⟨q1,rfl⟩)
     all_goals have wN:=hb0.trans ((hbV.trans (q1.below.mono hbV.size)).mono hb0.size)
     all_goals go_wp2
     go_ret
     refine ⟨?_,wN⟩
     rw [← HR.out,HS.out,xf.out,HH.out,Az.out]; rfl
    ·have h0' : (0:Int) < (k:Int):=oM
     refine au kZ kZ ?_
     repeat (any_goals (first | go_big_quiet_step ((go_at_call 174; with_reducible refine aU HX nR (bO { x with OA:=some ⟨b,off,none⟩ } r.k _ (Dz _)))) | (refine wpQuiet_step (fun K hK=>?_); go_simp; split <;> (refine hK _ ?_; clear hK K))))
     all_goals (refine wpQuiet_nil ?_; rintro _ ⟨q1,rfl⟩)
     all_goals have wN:=hb0.trans ((hbV.trans (q1.below.mono hbV.size)).mono hb0.size)
     all_goals go_wp2
     go_ret
     refine ⟨?_,wN⟩
     rw [← HR.out,HS.out,xf.out,HH.out,Az.out]; rfl
  ·have HK:Hid (fc x.t x.o=true):=by
    have h1:=HR.out
    rw [List.drop_eq_nil_of_le oM] at h1; exact h1.symm
   clear yn
   go_wp2
   go_ret
   refine ⟨?_,hb0.trans (q.below.mono hb0.size)⟩
   rw [HK.out,Bool.true_and]
   exact congrArg (fun b=>Ending.returned (.bool b)) (decide_eq_decide.2 oM)
end Go.Proofs.YtoeoimhemojdeaaGreatDoor
