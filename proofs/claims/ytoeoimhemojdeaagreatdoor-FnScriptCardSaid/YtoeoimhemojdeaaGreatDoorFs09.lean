/- Lemmas. -/
import Derived.Test.YtoeoimhemojdeaaGreatDoorFs08

set_option linter.unusedVariables false
set_option linter.unusedSimpArgs false
set_option maxHeartbeats 8000000
open Go.Value renaming int → O, slice → F, string → wG
open Go.IntKind renaming i64 → U
open Go.Proofs.Tryz renaming prog → wH

namespace Go.Proofs.YtoeoimhemojdeaaGreatDoor
open Go.RowKit
theorem rT (o:ae) (w:World):Calls wH 121 (#[o.val]++#[]) w fun e w'=>e=.returned (.bool (dp o))∧Below w.heap.size w w':=rS o w
set_option maxRecDepth 100000 in
theorem lA (x:aO) (g:Nat) (w:World) (h:cw w w.heap.size g x) (CK:(fp x && iW x)=true) :
  Calls wH 67 #[.pointer (some ⟨g,0,none⟩)] w fun e w'=>e=.returned (.bool (ao x))∧Below w.heap.size w w':=by
 have s0:w.cell? ⟨g,0,none⟩=some (F x.TA x.t.length x.tc):=h.s.c0 (ap.start _ _)
 have s1:w.cell? ⟨g,1,none⟩=some (F x.OA x.o.length x.oc):=h.s.c1 (ap.start _ _)
 have s2:w.cell? ⟨g,2,none⟩=some (O U x.gt):=h.s.c2 (ap.start _ _)
 have s3:w.cell? ⟨g,3,none⟩=some (O U x.sd):=h.s.c3 (ap.start _ _)
 have s4:w.cell? ⟨g,4,none⟩=some (O U x.ms):=h.s.c4 (ap.start _ _)
 have c3:=fun W=>aN x.gt 0 99999 W
 have c4:=fun W=>aN x.sd 0 99999 W
 have c5:=fun W=>aN x.ms 0 99999 W
 have HG:Hid (ao x=(fo x.t && fc x.t x.o && lw x)):=by
  unfold Hid ao; rw [CK,Bool.true_and]
 rw [Bool.and_eq_true] at CK
 have hz:=CK.1
 have hn:=CK.2
 unfold fp at hz
 unfold iW at hn
 rw [Bool.and_eq_true] at hz hn
 rw [Bool.and_eq_true] at hn
 obtain ⟨⟨zu,AA⟩,zW⟩:=hn
 have tl:x.t.length≤8:=of_decide_eq_true hz.1
 have ol:x.o.length≤8:=of_decide_eq_true hz.2
 clear hz CK
 rw [zu] at c3
 rw [AA] at c4
 rw [zW] at c5
 obtain ⟨g1,g2⟩:=bV.1 zu
 obtain ⟨g3,g4⟩:=bV.1 AA
 obtain ⟨g5,g6⟩:=bV.1 zW
 clear zu AA zW
 have Cu:=h.r.ts.el
 have xS:=h.r.os.el
 obtain ⟨p0,p1,p2,p3,p4⟩:=h.s
 obtain ⟨TA,yO⟩ : ∃ A,x.TA=A:=⟨_,rfl⟩
 obtain ⟨OA,yf⟩ : ∃ A,x.OA=A:=⟨_,rfl⟩
 rw [yO] at s0 Cu
 rw [yf] at s1 xS
 simp only [yO] at p0
 simp only [yf] at p1
 clear yO yf
 go_enter Tryz.func67,Tryz.ntmps67
 go_wp2_with fail
 refine (c3 _).mono ?_
 rintro e w3 ⟨rfl,rfl⟩
 go_wp2_with fail
 refine (c4 _).mono ?_
 rintro e w3 ⟨rfl,rfl⟩
 go_wp2_with fail
 refine (c5 _).mono ?_
 rintro e w3 ⟨rfl,rfl⟩
 go_wp2
 clear s0 s1 s2 s3 s4 c3 c4 c5
 go_loopw [50] (fun i wr=>∃ (k:Nat) (prev:Int),k≤x.t.length∧i=O U k∧(∃ q:ap w.heap.size w,wr=q.val)∧Hid (du k prev (x.t.drop k)=fo x.t)∧Hid (∀ (_hk:0 < k) (h' : k - 1 < x.t.length),prev=x.t[k - 1].k)) (fun i _=>x.t.length - (intOf i).toNat)
 case atStart=>exact ⟨0,0,Nat.zero_le _,rfl,⟨ap.start _ _,rfl⟩,rfl,fun h=>absurd h oM⟩
 case round =>
  obtain ⟨k,prev,hk,rfl,⟨q,rfl⟩,HR,HP⟩:=hrel
  by_cases wQ:k < x.t.length
  ·obtain ⟨b,off,rfl,hb,hcell⟩:=Cu oM
   obtain ⟨e0,e1⟩:=hcell k wQ
   have HC:Hid (0 < k→∀ p:ap w.heap.size w,p.val.cell? ⟨b,off+(k - 1) * 2,none⟩=some (O U prev)):=fun h p=>by
    rw [HP.out h oM]; exact (hcell (k - 1) oM).c0 p
   have HS:=jZ (nJ (n:=k) (p:=prev) wQ)
   obtain ⟨r,xy⟩ : ∃ r,r=x.t[k]:=⟨_,rfl⟩
   have HN:Hid (∀ (_hk:0 < k+1) (h' : k+1 - 1 < x.t.length),r.k=x.t[k+1 - 1].k):=fun _ h'=>by rw [xy]; rfl
   rw [← xy] at e0 e1 HS
   clear xy hcell Cu xS
   go_wp2
   have hbV:=q.below.alloc q.size (.cells #[O U r.k,O U r.c] 104)
   have hlV:=ai.new q.val 104 #[O U r.k,O U r.c]
   generalize q.val.alloc (.cells #[O U r.k,O U r.c] 104)=V at hbV hlV ⊢
   generalize q.val.heap.size=gv at hlV ⊢
   obtain ⟨d0,d1⟩:=mL.of (r:=r) hlV
   have p0' : ∀ p:ap V.heap.size V,p.val.cell? ⟨g,0,none⟩=some (F (some ⟨b,off,none⟩) x.t.length x.tc):=fun p=>p0 ⟨p.val,hbV.trans (p.below.mono hbV.size)⟩
   have xf:Hid (r.ok=(cg r.k 1 99 && cg r.c 0 9999)):=rfl
   clear e0 e1
   obtain ⟨v1,AW⟩ : ∃ v,cg r.k 1 99=v:=⟨_,rfl⟩
   obtain ⟨v2,xw⟩ : ∃ v,cg r.c 0 9999=v:=⟨_,rfl⟩
   rw [AW,xw] at xf
   have zh:=jZ AW; clear AW
   have yt:=jZ xw; clear xw
   rcases Nat.eq_zero_or_pos k with h0 | h0
   ·have hd:decide (0 < k)=false:=jE oM
    have H0:=jZ h0; clear h0
    cases v1
    ·refine au kZ kZ ?_
     repeat (any_goals (first | go_big_quiet_step ((go_at_call 75; with_reducible refine aB zh (aN r.k 1 99 _))) | (refine wpQuiet_step (fun K hK=>?_); go_simp; split <;> (refine hK _ ?_; clear hK K))))
     all_goals (refine wpQuiet_nil ?_; rintro _ ⟨q1,rfl⟩)
     all_goals have wN:=hbV.trans (q1.below.mono hbV.size)
     all_goals go_wp2
     go_ret
     refine ⟨?_,wN⟩
     rw [HG.out,← HR.out,HS.out,xf.out]; rfl
    ·cases v2
     all_goals
      refine au kZ kZ ?_
      repeat (any_goals (first | go_big_quiet_step ((first | (go_at_call 75; with_reducible refine aB zh (aN r.k 1 99 _)) | (go_at_call 75; with_reducible refine aB yt (aN r.c 0 9999 _)))) | (refine wpQuiet_step (fun K hK=>?_); go_simp; split <;> (refine hK _ ?_; clear hK K))))
      all_goals (refine wpQuiet_nil ?_; rintro _ ⟨q1,rfl⟩)
      all_goals have wN:=hbV.trans (q1.below.mono hbV.size)
      all_goals go_wp2
     ·go_ret
      refine ⟨?_,wN⟩
      rw [HG.out,← HR.out,HS.out,xf.out]; rfl
     ·go_roundw
      case rel=>exact ⟨k+1,r.k,oM,by go_num,⟨⟨_,hbV.trans (q1.below.mono hbV.size)⟩,rfl⟩,by have h1:=HR.out; rw [HS.out,xf.out,jD H0.out] at h1; exact h1,HN⟩
      case measure=>simp [intOf]; omega
   ·have c5:∀ p:ap V.heap.size V,p.val.cell? ⟨b,off+(k - 1) * 2,none⟩=some (O U prev):=fun p=>HC.out h0 ⟨p.val,hbV.trans (p.below.mono hbV.size)⟩
    have h0' : (0:Int) < (k:Int):=oM
    cases v1
    ·refine au kZ kZ ?_
     repeat (any_goals (first | go_big_quiet_step ((go_at_call 75; with_reducible refine aB zh (aN r.k 1 99 _))) | (refine wpQuiet_step (fun K hK=>?_); go_simp; split <;> (refine hK _ ?_; clear hK K))))
     all_goals (refine wpQuiet_nil ?_; rintro _ ⟨q1,rfl⟩)
     all_goals have wN:=hbV.trans (q1.below.mono hbV.size)
     all_goals go_wp2
     go_ret
     refine ⟨?_,wN⟩
     rw [HG.out,← HR.out,HS.out,xf.out]; rfl
    ·cases v2
     all_goals
      refine au kZ kZ ?_
      repeat (any_goals (first | go_big_quiet_step ((first | (go_at_call 75; with_reducible refine aB zh (aN r.k 1 99 _)) | (go_at_call 75; with_reducible refine aB yt (aN r.c 0 9999 _)))) | (refine wpQuiet_step (fun K hK=>?_); go_simp; split <;> (refine hK _ ?_; clear hK K))))
      all_goals (refine wpQuiet_nil ?_; rintro _ ⟨q1,rfl⟩)
      all_goals have wN:=hbV.trans (q1.below.mono hbV.size)
      all_goals go_wp2
     ·go_ret
      refine ⟨?_,wN⟩
      rw [HG.out,← HR.out,HS.out,xf.out]; rfl
     ·go_ret
      refine ⟨?_,wN⟩
      have hm:r.k≤prev:=by assumption
      rw [HG.out,← HR.out,HS.out,xf.out,jE (by omega : ¬ k=0),jE (by omega : ¬ prev < r.k)]; rfl
     ·have hm:prev < r.k:=by assumption
      go_roundw
      case rel=>exact ⟨k+1,r.k,oM,by go_num,⟨⟨_,hbV.trans (q1.below.mono hbV.size)⟩,rfl⟩,by have h1:=HR.out; rw [HS.out,xf.out,jD hm,Bool.or_true] at h1; exact h1,HN⟩
      case measure=>simp [intOf]; omega
  ·have hK:fo x.t=true:=by
    have h1:=HR.out
    rw [List.drop_eq_nil_of_le oM] at h1; exact h1.symm
   have Ak:=jZ (gH _ _ _ hK)
   have HK:=jZ hK; clear hK
   have LX:=p1 q
   clear Cu
   go_wp2
   go_loopw [89] (fun i wr=>∃ (k:Nat) (prev:Option ae),k≤x.o.length∧i=O U k∧(∃ q:ap w.heap.size w,wr=q.val)∧Hid (dV x.t prev (x.o.drop k)=fc x.t x.o)∧Hid ((k=0→prev=none)∧∀ (_hk:0 < k) (h' : k - 1 < x.o.length),prev=some x.o[k - 1]∧x.o[k - 1].ok x.t=true)) (fun i _=>x.o.length - (intOf i).toNat)
   case atStart=>exact ⟨0,none,Nat.zero_le _,rfl,⟨q,rfl⟩,rfl,fun _=>rfl,fun h=>absurd h oM⟩
   case round =>
    clear wQ HR HP LX
    obtain ⟨k,prev,hk,rfl,⟨q,rfl⟩,HR,HP⟩:=hrel
    by_cases wQ:k < x.o.length
    ·obtain ⟨b,off,rfl,hb,hcell⟩:=xS oM
     obtain ⟨e0,e1,e2⟩:=hcell k wQ
     have HS:=jZ (pd (ts:=x.t) (p:=prev) wQ)
     obtain ⟨r,xy⟩ : ∃ r,r=x.o[k]:=⟨_,rfl⟩
     have HN:Hid (r.ok x.t=true→(k+1=0→some r=none)∧∀ (_hk:0 < k+1) (h' : k+1 - 1 < x.o.length),some r=some x.o[k+1 - 1]∧x.o[k+1 - 1].ok x.t=true):=fun ho=>⟨fun h=>by omega,fun _ h'=>⟨by rw [xy]; rfl,by rw [xy] at ho; exact ho⟩⟩
     have HC:Hid (∀ _:0 < k,∃ u:ae,prev=some u∧u.ok x.t=true∧fY w.heap.size w b (off+(k - 1) * 3) u):=fun h=>⟨x.o[k - 1],(HP.out.2 h oM).1,(HP.out.2 h oM).2,hcell (k - 1) oM⟩
     rw [← xy] at e0 e1 e2 HS
     clear xy hcell xS
     go_wp2
     have hbV:=q.below.alloc q.size (.cells #[O U r.k,O U r.p,O U r.c] 147)
     have hlV:=ai.new q.val 147 #[O U r.k,O U r.p,O U r.c]
     generalize q.val.alloc (.cells #[O U r.k,O U r.p,O U r.c] 147)=V at hbV hlV ⊢
     generalize q.val.heap.size=gv at hlV ⊢
     obtain ⟨d0,d1,d2⟩:=fY.of (r:=r) hlV
     have up:∀ {a:Addr} {u:Value},(∀ p:ap w.heap.size w,p.val.cell? a=some u)→∀ p:ap V.heap.size V,p.val.cell? a=some u:=fun h p=>h ⟨p.val,hbV.trans (p.below.mono hbV.size)⟩
     have z1:=up p1
     have En:∀ p:ap V.heap.size V,cw p.val p.val.heap.size g x:=fun p=>h.at ⟨p.val,hbV.trans (p.below.mono hbV.size)⟩
     have xf:Hid (r.ok x.t=(aS x.t r.k && cg r.p 1 999 && cg r.c 1 9999)):=rfl
     clear e0 e1 e2
     obtain ⟨X,hX⟩ : ∃ X,ay x.t r.k=X:=⟨_,rfl⟩
     have HX:Hid (Value.int .i64 (ay x.t r.k)=O U X):=by rw [hX]; rfl
     have HH:Hid (aS x.t r.k=decide (0≤X)):=by rw [← hX]; exact (dU _ _).symm
     obtain ⟨v2,xw⟩ : ∃ v,cg r.p 1 999=v:=⟨_,rfl⟩
     obtain ⟨v3,zu⟩ : ∃ v,cg r.c 1 9999=v:=⟨_,rfl⟩
     rw [xw,zu] at xf
     have yt:=jZ xw; clear xw
     have zi:=jZ zu; clear zu
     clear hX
     by_cases Bh:0≤X
     ·have As:decide (X < 0)=false:=jE oM
      have Az:Hid (decide (0≤X)=true):=jD Bh
      cases v2
      ·rcases Nat.eq_zero_or_pos k with h0 | h0
       ·have hd:decide (0 < k)=false:=jE oM
        clear h0
        refine au kZ kZ ?_
        repeat (any_goals (first | go_big_quiet_step ((first | (go_at_call 116; with_reducible refine aU HX nR (bp x g r.k _ (En _))) | (go_at_call 117; with_reducible refine aB yt (bQ r.p _)))) | (refine wpQuiet_step (fun K hK=>?_); go_simp; split <;> (refine hK _ ?_; clear hK K))))
        all_goals (refine wpQuiet_nil ?_; rintro _ ⟨q1,rfl⟩)
        all_goals have wN:=hbV.trans (q1.below.mono hbV.size)
        all_goals go_wp2
        go_ret
        refine ⟨?_,wN⟩
        rw [HG.out,HK.out,← HR.out,HS.out,xf.out,Bool.and_false]; rfl
       ·have h0' : (0:Int) < (k:Int):=oM
        refine au kZ kZ ?_
        repeat (any_goals (first | go_big_quiet_step ((first | (go_at_call 116; with_reducible refine aU HX nR (bp x g r.k _ (En _))) | (go_at_call 117; with_reducible refine aB yt (bQ r.p _)))) | (refine wpQuiet_step (fun K hK=>?_); go_simp; split <;> (refine hK _ ?_; clear hK K))))
        all_goals (refine wpQuiet_nil ?_; rintro _ ⟨q1,rfl⟩)
        all_goals have wN:=hbV.trans (q1.below.mono hbV.size)
        all_goals go_wp2
        go_ret
        refine ⟨?_,wN⟩
        rw [HG.out,HK.out,← HR.out,HS.out,xf.out,Bool.and_false]; rfl
      ·cases v3
       ·rcases Nat.eq_zero_or_pos k with h0 | h0
        ·have hd:decide (0 < k)=false:=jE oM
         clear h0
         refine au kZ kZ ?_
         repeat (any_goals (first | go_big_quiet_step ((first | (go_at_call 116; with_reducible refine aU HX nR (bp x g r.k _ (En _))) | (go_at_call 117; with_reducible refine aB yt (bQ r.p _)) | (go_at_call 75; with_reducible refine aB zi (aN r.c 1 9999 _)))) | (refine wpQuiet_step (fun K hK=>?_); go_simp; split <;> (refine hK _ ?_; clear hK K))))
         all_goals (refine wpQuiet_nil ?_; rintro _ ⟨q1,rfl⟩)
         all_goals have wN:=hbV.trans (q1.below.mono hbV.size)
         all_goals go_wp2
         go_ret
         refine ⟨?_,wN⟩
         rw [HG.out,HK.out,← HR.out,HS.out,xf.out,Bool.and_false]; rfl
        ·have h0' : (0:Int) < (k:Int):=oM
         refine au kZ kZ ?_
         repeat (any_goals (first | go_big_quiet_step ((first | (go_at_call 116; with_reducible refine aU HX nR (bp x g r.k _ (En _))) | (go_at_call 117; with_reducible refine aB yt (bQ r.p _)) | (go_at_call 75; with_reducible refine aB zi (aN r.c 1 9999 _)))) | (refine wpQuiet_step (fun K hK=>?_); go_simp; split <;> (refine hK _ ?_; clear hK K))))
         all_goals (refine wpQuiet_nil ?_; rintro _ ⟨q1,rfl⟩)
         all_goals have wN:=hbV.trans (q1.below.mono hbV.size)
         all_goals go_wp2
         go_ret
         refine ⟨?_,wN⟩
         rw [HG.out,HK.out,← HR.out,HS.out,xf.out,Bool.and_false]; rfl
       ·have At:Hid (r.ok x.t=true):=by unfold Hid; rw [xf.out,HH.out,Az.out]; rfl
        rcases Nat.eq_zero_or_pos k with h0 | h0
        ·have hd:decide (0 < k)=false:=jE oM
         have DI:Hid (prev=none):=HP.out.1 h0
         clear h0
         refine au kZ kZ ?_
         repeat (any_goals (first | go_big_quiet_step ((first | (go_at_call 116; with_reducible refine aU HX nR (bp x g r.k _ (En _))) | (go_at_call 117; with_reducible refine aB yt (bQ r.p _)) | (go_at_call 75; with_reducible refine aB zi (aN r.c 1 9999 _)))) | (refine wpQuiet_step (fun K hK=>?_); go_simp; split <;> (refine hK _ ?_; clear hK K))))
         all_goals (refine wpQuiet_nil ?_; rintro _ ⟨q1,rfl⟩)
         all_goals have wN:=hbV.trans (q1.below.mono hbV.size)
         all_goals go_wp2
         go_roundw
         case rel=>exact ⟨k+1,some r,oM,by go_num,⟨⟨_,wN⟩,rfl⟩,by have h1:=HR.out; rw [HS.out,At.out,DI.out] at h1; exact h1,HN.out At.out⟩
         case measure=>simp [intOf]; omega
        ·have h0' : (0:Int) < (k:Int):=oM
         obtain ⟨u,IM,Hu,⟨t0,t1,t2⟩⟩:=HC.out h0
         have t0:=up t0
         have t1:=up t1
         have t2:=up t2
         subst IM
         have FV:Hid (dV x.t (some u) (x.o.drop k)=(r.ok x.t && before u r && dV x.t (some r) (x.o.drop (k+1)))):=HS.out
         obtain ⟨C,hC⟩ : ∃ C,ju u r=C:=⟨_,rfl⟩
         have Ez:Hid (Value.int .i64 (ju u r)=O U C):=by rw [hC]; rfl
         have HB:Hid (decide (0≤C) = !(before u r)):=by rw [← hC]; exact mO u r
         clear hC Hu up
         refine au kZ kZ ?_
         repeat (any_goals (first | go_big_quiet_step ((first | (go_at_call 116; with_reducible refine aU HX nR (bp x g r.k _ (En _))) | (go_at_call 117; with_reducible refine aB yt (bQ r.p _)) | (go_at_call 75; with_reducible refine aB zi (aN r.c 1 9999 _)) | (go_at_call 118; with_reducible refine aU Ez nR (ik u r _)))) | (refine wpQuiet_step (fun K hK=>?_); go_simp; split <;> (refine hK _ ?_; clear hK K))))
         all_goals (refine wpQuiet_nil ?_; rintro _ ⟨q1,rfl⟩)
         all_goals have wN:=hbV.trans (q1.below.mono hbV.size)
         all_goals go_wp2
         ·go_ret
          refine ⟨?_,wN⟩
          have hm:0≤C:=by assumption
          have hb0:=HB.out
          rw [jD hm] at hb0
          have EA:before u r=false:=by
           cases ze:before u r with
           | false=>rfl
           | true=>rw [ze] at hb0; cases hb0
          rw [HG.out,HK.out,← HR.out,FV.out,At.out,EA]; rfl
         ·have hm:C < 0:=by assumption
          have hb0:=HB.out
          rw [jE oM] at hb0
          have zC:before u r=true:=by
           cases ze:before u r with
           | true=>rfl
           | false=>rw [ze] at hb0; cases hb0
          have EA:=jZ zC
          clear zC
          clear hb0
          go_roundw
          case rel=>exact ⟨k+1,some r,oM,by go_num,⟨⟨_,wN⟩,rfl⟩,by have h1:=HR.out; rw [FV.out,At.out,EA.out] at h1; exact h1,HN.out At.out⟩
          case measure=>simp [intOf]; omega
     ·have As:decide (X < 0)=true:=jD oM
      have Az:Hid (decide (0≤X)=false):=jE Bh
      rcases Nat.eq_zero_or_pos k with h0 | h0
      ·have hd:decide (0 < k)=false:=jE oM
       clear h0
       refine au kZ kZ ?_
       repeat (any_goals (first | go_big_quiet_step ((go_at_call 116; with_reducible refine aU HX nR (bp x g r.k _ (En _)))) | (refine wpQuiet_step (fun K hK=>?_); go_simp; split <;> (refine hK _ ?_; clear hK K))))
       all_goals (refine wpQuiet_nil ?_; rintro _ ⟨q1,rfl⟩)
       all_goals have wN:=hbV.trans (q1.below.mono hbV.size)
       all_goals go_wp2
       go_ret
       refine ⟨?_,wN⟩
       rw [HG.out,HK.out,← HR.out,HS.out,xf.out,HH.out,Az.out]; rfl
      ·have h0' : (0:Int) < (k:Int):=oM
       refine au kZ kZ ?_
       repeat (any_goals (first | go_big_quiet_step ((go_at_call 116; with_reducible refine aU HX nR (bp x g r.k _ (En _)))) | (refine wpQuiet_step (fun K hK=>?_); go_simp; split <;> (refine hK _ ?_; clear hK K))))
       all_goals (refine wpQuiet_nil ?_; rintro _ ⟨q1,rfl⟩)
       all_goals have wN:=hbV.trans (q1.below.mono hbV.size)
       all_goals go_wp2
       go_ret
       refine ⟨?_,wN⟩
       rw [HG.out,HK.out,← HR.out,HS.out,xf.out,HH.out,Az.out]; rfl
    ·have IR:fc x.t x.o=true:=by
      have h1:=HR.out
      rw [List.drop_eq_nil_of_le oM] at h1; exact h1.symm
     have Bi:=jZ (fZ _ _ _ IR)
     have LY:=jZ IR; clear IR
     have hi:=kx x.t 0 Ak.out
     have hj:=fK dp x.t x.o 0 Bi.out
     have DJ:Hid (lw x=decide (x.gt=cJ x.t+aW dp x.o+x.sd+x.ms)):=rfl
     change 0≤cJ x.t∧cJ x.t≤_ at hi
     change 0≤aW dp x.o∧aW dp x.o≤_ at hj
     obtain ⟨I,hI⟩ : ∃ I,cJ x.t=I:=⟨_,rfl⟩
     obtain ⟨J,hJ⟩ : ∃ J,aW dp x.o=J:=⟨_,rfl⟩
     rw [hI] at hi DJ
     rw [hJ] at hj DJ
     have HI:Hid (Value.int .i64 (cJ x.t)=O U I):=by rw [hI]; rfl
     have HJ:Hid (Value.int .i64 (aW dp x.o)=O U J):=by rw [hJ]; rfl
     clear hI hJ
     obtain ⟨i1,i2⟩:=hi
     obtain ⟨j1,j2⟩:=hj
     have w1:IntKind.i64.wrap (I+J)=I+J:=IntWalk.i64_in _ oM
     have w2:IntKind.i64.wrap (I+J+x.sd)=I+J+x.sd:=IntWalk.i64_in _ oM
     have w3:IntKind.i64.wrap (I+J+x.sd+x.ms)=I+J+x.sd+x.ms:=IntWalk.i64_in _ oM
     obtain ⟨z,hz⟩ : ∃ z,decide (x.gt=I+J+x.sd+x.ms)=z:=⟨_,rfl⟩
     have yX:(x.gt == I+J+x.sd+x.ms)=z:=by rw [← hz,Bool.eq_iff_iff]; simp
     have HZ:=jZ hz; clear hz
     have KO:∀ p:ap w.heap.size w,cw p.val p.val.heap.size g x:=fun p=>h.at p
     clear xS HR HP
     go_wp2
     refine aX _ kZ kZ ?_
     repeat (any_goals (first | go_big_quiet_step ((first | (go_at_call 119; with_reducible refine aU HI nR (jt x g _ (KO _) tl Ak.out)) | (go_at_call 120; with_reducible refine aU HJ nR (fC dp 121 #[] Tryz.call121 x g _ (fun o p=>rT o p.val) (KO _) ol Bi.out)))) | (refine wpQuiet_step (fun K hK=>?_); go_simp; split <;> (refine hK _ ?_; clear hK K))))
     all_goals (refine wpQuiet_nil ?_; rintro _ ⟨q1,rfl⟩)
     go_wp2
     go_ret
     refine ⟨?_,q1.below⟩
     rw [HG.out,HK.out,LY.out,DJ.out,HZ.out]; rfl
end Go.Proofs.YtoeoimhemojdeaaGreatDoor
