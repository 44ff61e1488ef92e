/- Lemmas. -/
import Derived.Test.YtoeoimhemojdeaaGreatDoorFc08

set_option linter.unusedVariables false
set_option linter.unusedSimpArgs false
set_option maxHeartbeats 8000000
open Go.Value renaming int → O, slice → F, string → vw
open Go.IntKind renaming i64 → U
open Go.Proofs.Tryz renaming prog → vx

namespace Go.Proofs.YtoeoimhemojdeaaGreatDoor
open Go.RowKit
theorem qY (o:ae) (w:World):Calls vx 121 (#[o.val]++#[]) w fun e w'=>e=.returned (.bool (de o))∧Below w.heap.size w w':=qX o w
set_option maxRecDepth 100000 in
theorem kV (x:aO) (g:Nat) (w:World) (h:cm w w.heap.size g x) (Bm:(fb x && iJ x)=true) :
  Calls vx 67 #[.pointer (some ⟨g,0,none⟩)] w fun e w'=>e=.returned (.bool (an x))∧Below w.heap.size w w':=by
 have s0:w.cell? ⟨g,0,none⟩=some (F x.TA x.t.length x.tc):=h.s.c0 (ap.start _ _)
 have s1:w.cell? ⟨g,1,none⟩=some (F x.OA x.o.length x.oc):=h.s.c1 (ap.start _ _)
 have s2:w.cell? ⟨g,2,none⟩=some (O U x.gt):=h.s.c2 (ap.start _ _)
 have s3:w.cell? ⟨g,3,none⟩=some (O U x.sd):=h.s.c3 (ap.start _ _)
 have s4:w.cell? ⟨g,4,none⟩=some (O U x.ms):=h.s.c4 (ap.start _ _)
 have c3:=fun W=>aM x.gt 0 99999 W
 have c4:=fun W=>aM x.sd 0 99999 W
 have c5:=fun W=>aM x.ms 0 99999 W
 have HG:Hid (an x=(fa x.t && eT x.t x.o && kS x)):=by
  unfold Hid an; rw [Bm,Bool.true_and]
 rw [Bool.and_eq_true] at Bm
 have hz:=Bm.1
 have hn:=Bm.2
 unfold fb at hz
 unfold iJ at hn
 rw [Bool.and_eq_true] at hz hn
 rw [Bool.and_eq_true] at hn
 obtain ⟨⟨yl,zp⟩,yM⟩:=hn
 have tl:x.t.length≤8:=of_decide_eq_true hz.1
 have ol:x.o.length≤8:=of_decide_eq_true hz.2
 clear hz Bm
 rw [yl] at c3
 rw [zp] at c4
 rw [yM] at c5
 obtain ⟨g1,g2⟩:=bQ.1 yl
 obtain ⟨g3,g4⟩:=bQ.1 zp
 obtain ⟨g5,g6⟩:=bQ.1 yM
 clear yl zp yM
 have AU:=h.r.ts.el
 have wN:=h.r.os.el
 obtain ⟨p0,p1,p2,p3,p4⟩:=h.s
 obtain ⟨TA,yg⟩ : ∃ A,x.TA=A:=⟨_,rfl⟩
 obtain ⟨OA,wZ⟩ : ∃ A,x.OA=A:=⟨_,rfl⟩
 rw [yg] at s0 AU
 rw [wZ] at s1 wN
 simp only [yg] at p0
 simp only [wZ] at p1
 clear yg wZ
 go_enter Tryz.func67,Tryz.ntmps67
 go_wp2_with fail
 refine (c3 _).mono ?_
 rintro e w3 ⟨rfl,rfl⟩
 go_wp2_with fail
 refine (c4 _).mono ?_
 rintro e w3 ⟨rfl,rfl⟩
 go_wp2_with fail
 refine (c5 _).mono ?_
 rintro e w3 ⟨rfl,rfl⟩
 go_wp2
 clear s0 s1 s2 s3 s4 c3 c4 c5
 go_loopw [50] (fun i wr=>∃ (k:Nat) (prev:Int),k≤x.t.length∧i=O U k∧(∃ q:ap w.heap.size w,wr=q.val)∧Hid (dj k prev (x.t.drop k)=fa x.t)∧Hid (∀ (_hk:0 < k) (h' : k - 1 < x.t.length),prev=x.t[k - 1].k)) (fun i _=>x.t.length - (intOf i).toNat)
 case atStart=>exact ⟨0,0,Nat.zero_le _,rfl,⟨ap.start _ _,rfl⟩,rfl,fun h=>absurd h oM⟩
 case round =>
  obtain ⟨k,prev,hk,rfl,⟨q,rfl⟩,HR,HP⟩:=hrel
  by_cases vH:k < x.t.length
  ·obtain ⟨b,off,rfl,hb,hcell⟩:=AU oM
   obtain ⟨e0,e1⟩:=hcell k vH
   have HC:Hid (0 < k→∀ p:ap w.heap.size w,p.val.cell? ⟨b,off+(k - 1) * 2,none⟩=some (O U prev)):=fun h p=>by
    rw [HP.out h oM]; exact (hcell (k - 1) oM).c0 p
   have HS:=jZ (nb (n:=k) (p:=prev) vH)
   obtain ⟨r,wl⟩ : ∃ r,r=x.t[k]:=⟨_,rfl⟩
   have HN:Hid (∀ (_hk:0 < k+1) (h' : k+1 - 1 < x.t.length),r.k=x.t[k+1 - 1].k):=fun _ h'=>by rw [wl]; rfl
   rw [← wl] at e0 e1 HS
   clear wl hcell AU wN
   go_wp2
   have hbV:=q.below.alloc q.size (.cells #[O U r.k,O U r.c] 104)
   have hlV:=ah.new q.val 104 #[O U r.k,O U r.c]
   generalize q.val.alloc (.cells #[O U r.k,O U r.c] 104)=V at hbV hlV ⊢
   generalize q.val.heap.size=gv at hlV ⊢
   obtain ⟨d0,d1⟩:=mi.of (r:=r) hlV
   have p0' : ∀ p:ap V.heap.size V,p.val.cell? ⟨g,0,none⟩=some (F (some ⟨b,off,none⟩) x.t.length x.tc):=fun p=>p0 ⟨p.val,hbV.trans (p.below.mono hbV.size)⟩
   have vY:Hid (r.ok=(cc r.k 1 99 && cc r.c 0 9999)):=rfl
   clear e0 e1
   obtain ⟨v1,zJ⟩ : ∃ v,cc r.k 1 99=v:=⟨_,rfl⟩
   obtain ⟨v2,wj⟩ : ∃ v,cc r.c 0 9999=v:=⟨_,rfl⟩
   rw [zJ,wj] at vY
   have xZ:=jZ zJ; clear zJ
   have xn:=jZ wj; clear wj
   rcases Nat.eq_zero_or_pos k with h0 | h0
   ·have hd:decide (0 < k)=false:=jE oM
    have H0:=jZ h0; clear h0
    cases v1
    ·refine ar kZ kZ ?_
     repeat (any_goals (first | go_big_quiet_step ((go_at_call 75; with_reducible refine aA xZ (aM r.k 1 99 _))) | (refine wpQuiet_step (fun K hK=>?_); go_simp; split <;> (refine hK _ ?_; clear hK K))))
     all_goals (refine wpQuiet_nil ?_; rintro _ ⟨q1,rfl⟩)
     all_goals have vD:=hbV.trans (q1.below.mono hbV.size)
     all_goals go_wp2
     go_ret
     refine ⟨?_,vD⟩
     rw [HG.out,← HR.out,HS.out,vY.out]; rfl
    ·cases v2
     all_goals
      refine ar kZ kZ ?_
      repeat (any_goals (first | go_big_quiet_step ((first | (go_at_call 75; with_reducible refine aA xZ (aM r.k 1 99 _)) | (go_at_call 75; with_reducible refine aA xn (aM r.c 0 9999 _)))) | (refine wpQuiet_step (fun K hK=>?_); go_simp; split <;> (refine hK _ ?_; clear hK K))))
      all_goals (refine wpQuiet_nil ?_; rintro _ ⟨q1,rfl⟩)
      all_goals have vD:=hbV.trans (q1.below.mono hbV.size)
      all_goals go_wp2
     ·go_ret
      refine ⟨?_,vD⟩
      rw [HG.out,← HR.out,HS.out,vY.out]; rfl
     ·go_roundw
      case rel=>exact ⟨k+1,r.k,oM,by go_num,⟨⟨_,hbV.trans (q1.below.mono hbV.size)⟩,rfl⟩,by have h1:=HR.out; rw [HS.out,vY.out,jD H0.out] at h1; exact h1,HN⟩
      case measure=>simp [intOf]; omega
   ·have c5:∀ p:ap V.heap.size V,p.val.cell? ⟨b,off+(k - 1) * 2,none⟩=some (O U prev):=fun p=>HC.out h0 ⟨p.val,hbV.trans (p.below.mono hbV.size)⟩
    have h0' : (0:Int) < (k:Int):=oM
    cases v1
    ·refine ar kZ kZ ?_
     repeat (any_goals (first | go_big_quiet_step ((go_at_call 75; with_reducible refine aA xZ (aM r.k 1 99 _))) | (refine wpQuiet_step (fun K hK=>?_); go_simp; split <;> (refine hK _ ?_; clear hK K))))
     all_goals (refine wpQuiet_nil ?_; rintro _ ⟨q1,rfl⟩)
     all_goals have vD:=hbV.trans (q1.below.mono hbV.size)
     all_goals go_wp2
     go_ret
     refine ⟨?_,vD⟩
     rw [HG.out,← HR.out,HS.out,vY.out]; rfl
    ·cases v2
     all_goals
      refine ar kZ kZ ?_
      repeat (any_goals (first | go_big_quiet_step ((first | (go_at_call 75; with_reducible refine aA xZ (aM r.k 1 99 _)) | (go_at_call 75; with_reducible refine aA xn (aM r.c 0 9999 _)))) | (refine wpQuiet_step (fun K hK=>?_); go_simp; split <;> (refine hK _ ?_; clear hK K))))
      all_goals (refine wpQuiet_nil ?_; rintro _ ⟨q1,rfl⟩)
      all_goals have vD:=hbV.trans (q1.below.mono hbV.size)
      all_goals go_wp2
     ·go_ret
      refine ⟨?_,vD⟩
      rw [HG.out,← HR.out,HS.out,vY.out]; rfl
     ·go_ret
      refine ⟨?_,vD⟩
      have hm:r.k≤prev:=by assumption
      rw [HG.out,← HR.out,HS.out,vY.out,jE (by omega : ¬ k=0),jE (by omega : ¬ prev < r.k)]; rfl
     ·have hm:prev < r.k:=by assumption
      go_roundw
      case rel=>exact ⟨k+1,r.k,oM,by go_num,⟨⟨_,hbV.trans (q1.below.mono hbV.size)⟩,rfl⟩,by have h1:=HR.out; rw [HS.out,vY.out,jD hm,Bool.or_true] at h1; exact h1,HN⟩
      case measure=>simp [intOf]; omega
  ·have hK:fa x.t=true:=by
    have h1:=HR.out
    rw [List.drop_eq_nil_of_le oM] at h1; exact h1.symm
   have y5:=jZ (gy _ _ _ hK)
   have HK:=jZ hK; clear hK
   have JJ:=p1 q
   clear AU
   go_wp2
   go_loopw [89] (fun i wr=>∃ (k:Nat) (prev:Option ae),k≤x.o.length∧i=O U k∧(∃ q:ap w.heap.size w,wr=q.val)∧Hid (dM x.t prev (x.o.drop k)=eT x.t x.o)∧Hid ((k=0→prev=none)∧∀ (_hk:0 < k) (h' : k - 1 < x.o.length),prev=some x.o[k - 1]∧x.o[k - 1].ok x.t=true)) (fun i _=>x.o.length - (intOf i).toNat)
   case atStart=>exact ⟨0,none,Nat.zero_le _,rfl,⟨q,rfl⟩,rfl,fun _=>rfl,fun h=>absurd h oM⟩
   case round =>
    clear vH HR HP JJ
    obtain ⟨k,prev,hk,rfl,⟨q,rfl⟩,HR,HP⟩:=hrel
    by_cases vH:k < x.o.length
    ·obtain ⟨b,off,rfl,hb,hcell⟩:=wN oM
     obtain ⟨e0,e1,e2⟩:=hcell k vH
     have HS:=jZ (ow (ts:=x.t) (p:=prev) vH)
     obtain ⟨r,wl⟩ : ∃ r,r=x.o[k]:=⟨_,rfl⟩
     have HN:Hid (r.ok x.t=true→(k+1=0→some r=none)∧∀ (_hk:0 < k+1) (h' : k+1 - 1 < x.o.length),some r=some x.o[k+1 - 1]∧x.o[k+1 - 1].ok x.t=true):=fun ho=>⟨fun h=>by omega,fun _ h'=>⟨by rw [wl]; rfl,by rw [wl] at ho; exact ho⟩⟩
     have HC:Hid (∀ _:0 < k,∃ u:ae,prev=some u∧u.ok x.t=true∧fP w.heap.size w b (off+(k - 1) * 3) u):=fun h=>⟨x.o[k - 1],(HP.out.2 h oM).1,(HP.out.2 h oM).2,hcell (k - 1) oM⟩
     rw [← wl] at e0 e1 e2 HS
     clear wl hcell wN
     go_wp2
     have hbV:=q.below.alloc q.size (.cells #[O U r.k,O U r.p,O U r.c] 147)
     have hlV:=ah.new q.val 147 #[O U r.k,O U r.p,O U r.c]
     generalize q.val.alloc (.cells #[O U r.k,O U r.p,O U r.c] 147)=V at hbV hlV ⊢
     generalize q.val.heap.size=gv at hlV ⊢
     obtain ⟨d0,d1,d2⟩:=fP.of (r:=r) hlV
     have up:∀ {a:Addr} {u:Value},(∀ p:ap w.heap.size w,p.val.cell? a=some u)→∀ p:ap V.heap.size V,p.val.cell? a=some u:=fun h p=>h ⟨p.val,hbV.trans (p.below.mono hbV.size)⟩
     have z1:=up p1
     have CK:∀ p:ap V.heap.size V,cm p.val p.val.heap.size g x:=fun p=>h.at ⟨p.val,hbV.trans (p.below.mono hbV.size)⟩
     have vY:Hid (r.ok x.t=(aS x.t r.k && cc r.p 1 999 && cc r.c 1 9999)):=rfl
     clear e0 e1 e2
     obtain ⟨X,hX⟩ : ∃ X,ax x.t r.k=X:=⟨_,rfl⟩
     have HX:Hid (Value.int .i64 (ax x.t r.k)=O U X):=by rw [hX]; rfl
     have HH:Hid (aS x.t r.k=decide (0≤X)):=by rw [← hX]; exact (dL _ _).symm
     obtain ⟨v2,wj⟩ : ∃ v,cc r.p 1 999=v:=⟨_,rfl⟩
     obtain ⟨v3,yl⟩ : ∃ v,cc r.c 1 9999=v:=⟨_,rfl⟩
     rw [wj,yl] at vY
     have xn:=jZ wj; clear wj
     have ya:=jZ yl; clear yl
     clear hX
     by_cases zR:0≤X
     ·have zh:decide (X < 0)=false:=jE oM
      have zo:Hid (decide (0≤X)=true):=jD zR
      cases v2
      ·rcases Nat.eq_zero_or_pos k with h0 | h0
       ·have hd:decide (0 < k)=false:=jE oM
        clear h0
        refine ar kZ kZ ?_
        repeat (any_goals (first | go_big_quiet_step ((first | (go_at_call 116; with_reducible refine aU HX nR (bh x g r.k _ (CK _))) | (go_at_call 117; with_reducible refine aA xn (bM r.p _)))) | (refine wpQuiet_step (fun K hK=>?_); go_simp; split <;> (refine hK _ ?_; clear hK K))))
        all_goals (refine wpQuiet_nil ?_; rintro _ ⟨q1,rfl⟩)
        all_goals have vD:=hbV.trans (q1.below.mono hbV.size)
        all_goals go_wp2
        go_ret
        refine ⟨?_,vD⟩
        rw [HG.out,HK.out,← HR.out,HS.out,vY.out,Bool.and_false]; rfl
       ·have h0' : (0:Int) < (k:Int):=oM
        refine ar kZ kZ ?_
        repeat (any_goals (first | go_big_quiet_step ((first | (go_at_call 116; with_reducible refine aU HX nR (bh x g r.k _ (CK _))) | (go_at_call 117; with_reducible refine aA xn (bM r.p _)))) | (refine wpQuiet_step (fun K hK=>?_); go_simp; split <;> (refine hK _ ?_; clear hK K))))
        all_goals (refine wpQuiet_nil ?_; rintro _ ⟨q1,rfl⟩)
        all_goals have vD:=hbV.trans (q1.below.mono hbV.size)
        all_goals go_wp2
        go_ret
        refine ⟨?_,vD⟩
        rw [HG.out,HK.out,← HR.out,HS.out,vY.out,Bool.and_false]; rfl
      ·cases v3
       ·rcases Nat.eq_zero_or_pos k with h0 | h0
        ·have hd:decide (0 < k)=false:=jE oM
         clear h0
         refine ar kZ kZ ?_
         repeat (any_goals (first | go_big_quiet_step ((first | (go_at_call 116; with_reducible refine aU HX nR (bh x g r.k _ (CK _))) | (go_at_call 117; with_reducible refine aA xn (bM r.p _)) | (go_at_call 75; with_reducible refine aA ya (aM r.c 1 9999 _)))) | (refine wpQuiet_step (fun K hK=>?_); go_simp; split <;> (refine hK _ ?_; clear hK K))))
         all_goals (refine wpQuiet_nil ?_; rintro _ ⟨q1,rfl⟩)
         all_goals have vD:=hbV.trans (q1.below.mono hbV.size)
         all_goals go_wp2
         go_ret
         refine ⟨?_,vD⟩
         rw [HG.out,HK.out,← HR.out,HS.out,vY.out,Bool.and_false]; rfl
        ·have h0' : (0:Int) < (k:Int):=oM
         refine ar kZ kZ ?_
         repeat (any_goals (first | go_big_quiet_step ((first | (go_at_call 116; with_reducible refine aU HX nR (bh x g r.k _ (CK _))) | (go_at_call 117; with_reducible refine aA xn (bM r.p _)) | (go_at_call 75; with_reducible refine aA ya (aM r.c 1 9999 _)))) | (refine wpQuiet_step (fun K hK=>?_); go_simp; split <;> (refine hK _ ?_; clear hK K))))
         all_goals (refine wpQuiet_nil ?_; rintro _ ⟨q1,rfl⟩)
         all_goals have vD:=hbV.trans (q1.below.mono hbV.size)
         all_goals go_wp2
         go_ret
         refine ⟨?_,vD⟩
         rw [HG.out,HK.out,← HR.out,HS.out,vY.out,Bool.and_false]; rfl
       ·have zi:Hid (r.ok x.t=true):=by unfold Hid; rw [vY.out,HH.out,zo.out]; rfl
        rcases Nat.eq_zero_or_pos k with h0 | h0
        ·have hd:decide (0 < k)=false:=jE oM
         have Cg:Hid (prev=none):=HP.out.1 h0
         clear h0
         refine ar kZ kZ ?_
         repeat (any_goals (first | go_big_quiet_step ((first | (go_at_call 116; with_reducible refine aU HX nR (bh x g r.k _ (CK _))) | (go_at_call 117; with_reducible refine aA xn (bM r.p _)) | (go_at_call 75; with_reducible refine aA ya (aM r.c 1 9999 _)))) | (refine wpQuiet_step (fun K hK=>?_); go_simp; split <;> (refine hK _ ?_; clear hK K))))
         all_goals (refine wpQuiet_nil ?_; rintro _ ⟨q1,rfl⟩)
         all_goals have vD:=hbV.trans (q1.below.mono hbV.size)
         all_goals go_wp2
         go_roundw
         case rel=>exact ⟨k+1,some r,oM,by go_num,⟨⟨_,vD⟩,rfl⟩,by have h1:=HR.out; rw [HS.out,zi.out,Cg.out] at h1; exact h1,HN.out zi.out⟩
         case measure=>simp [intOf]; omega
        ·have h0' : (0:Int) < (k:Int):=oM
         obtain ⟨u,GF,FU,⟨t0,t1,t2⟩⟩:=HC.out h0
         have t0:=up t0
         have t1:=up t1
         have t2:=up t2
         subst GF
         have CW:Hid (dM x.t (some u) (x.o.drop k)=(r.ok x.t && before u r && dM x.t (some r) (x.o.drop (k+1)))):=HS.out
         obtain ⟨C,hC⟩ : ∃ C,jg u r=C:=⟨_,rfl⟩
         have CY:Hid (Value.int .i64 (jg u r)=O U C):=by rw [hC]; rfl
         have HB:Hid (decide (0≤C) = !(before u r)):=by rw [← hC]; exact mn u r
         clear hC FU up
         refine ar kZ kZ ?_
         repeat (any_goals (first | go_big_quiet_step ((first | (go_at_call 116; with_reducible refine aU HX nR (bh x g r.k _ (CK _))) | (go_at_call 117; with_reducible refine aA xn (bM r.p _)) | (go_at_call 75; with_reducible refine aA ya (aM r.c 1 9999 _)) | (go_at_call 118; with_reducible refine aU CY nR (hH u r _)))) | (refine wpQuiet_step (fun K hK=>?_); go_simp; split <;> (refine hK _ ?_; clear hK K))))
         all_goals (refine wpQuiet_nil ?_; rintro _ ⟨q1,rfl⟩)
         all_goals have vD:=hbV.trans (q1.below.mono hbV.size)
         all_goals go_wp2
         ·go_ret
          refine ⟨?_,vD⟩
          have hm:0≤C:=by assumption
          have hb0:=HB.out
          rw [jD hm] at hb0
          have CZ:before u r=false:=by
           cases xy:before u r with
           | false=>rfl
           | true=>rw [xy] at hb0; cases hb0
          rw [HG.out,HK.out,← HR.out,CW.out,zi.out,CZ]; rfl
         ·have hm:C < 0:=by assumption
          have hb0:=HB.out
          rw [jE oM] at hb0
          have yK:before u r=true:=by
           cases xy:before u r with
           | true=>rfl
           | false=>rw [xy] at hb0; cases hb0
          have CZ:=jZ yK
          clear yK
          clear hb0
          go_roundw
          case rel=>exact ⟨k+1,some r,oM,by go_num,⟨⟨_,vD⟩,rfl⟩,by have h1:=HR.out; rw [CW.out,zi.out,CZ.out] at h1; exact h1,HN.out zi.out⟩
          case measure=>simp [intOf]; omega
     ·have zh:decide (X < 0)=true:=jD oM
      have zo:Hid (decide (0≤X)=false):=jE zR
      rcases Nat.eq_zero_or_pos k with h0 | h0
      ·have hd:decide (0 < k)=false:=jE oM
       clear h0
       refine ar kZ kZ ?_
       repeat (any_goals (first | go_big_quiet_step ((go_at_call 116; with_reducible refine aU HX nR (bh x g r.k _ (CK _)))) | (refine wpQuiet_step (fun K hK=>?_); go_simp; split <;> (refine hK _ ?_; clear hK K))))
       all_goals (refine wpQuiet_nil ?_; rintro _ ⟨q1,rfl⟩)
       all_goals have vD:=hbV.trans (q1.below.mono hbV.size)
       all_goals go_wp2
       go_ret
       refine ⟨?_,vD⟩
       rw [HG.out,HK.out,← HR.out,HS.out,vY.out,HH.out,zo.out]; rfl
      ·have h0' : (0:Int) < (k:Int):=oM
       refine ar kZ kZ ?_
       repeat (any_goals (first | go_big_quiet_step ((go_at_call 116; with_reducible refine aU HX nR (bh x g r.k _ (CK _)))) | (refine wpQuiet_step (fun K hK=>?_); go_simp; split <;> (refine hK _ ?_; clear hK K))))
       all_goals (refine wpQuiet_nil ?_; rintro _ ⟨q1,rfl⟩)
       all_goals have vD:=hbV.trans (q1.below.mono hbV.size)
       all_goals go_wp2
       go_ret
       refine ⟨?_,vD⟩
       rw [HG.out,HK.out,← HR.out,HS.out,vY.out,HH.out,zo.out]; rfl
    ·have GK:eT x.t x.o=true:=by
      have h1:=HR.out
      rw [List.drop_eq_nil_of_le oM] at h1; exact h1.symm
     have zS:=jZ (fQ _ _ _ GK)
     have JK:=jZ GK; clear GK
     have hi:=jX x.t 0 y5.out
     have hj:=fC de x.t x.o 0 zS.out
     have Ch:Hid (kS x=decide (x.gt=cr x.t+aW de x.o+x.sd+x.ms)):=rfl
     change 0≤cr x.t∧cr x.t≤_ at hi
     change 0≤aW de x.o∧aW de x.o≤_ at hj
     obtain ⟨I,hI⟩ : ∃ I,cr x.t=I:=⟨_,rfl⟩
     obtain ⟨J,hJ⟩ : ∃ J,aW de x.o=J:=⟨_,rfl⟩
     rw [hI] at hi Ch
     rw [hJ] at hj Ch
     have HI:Hid (Value.int .i64 (cr x.t)=O U I):=by rw [hI]; rfl
     have HJ:Hid (Value.int .i64 (aW de x.o)=O U J):=by rw [hJ]; rfl
     clear hI hJ
     obtain ⟨i1,i2⟩:=hi
     obtain ⟨j1,j2⟩:=hj
     have w1:IntKind.i64.wrap (I+J)=I+J:=IntWalk.i64_in _ oM
     have w2:IntKind.i64.wrap (I+J+x.sd)=I+J+x.sd:=IntWalk.i64_in _ oM
     have w3:IntKind.i64.wrap (I+J+x.sd+x.ms)=I+J+x.sd+x.ms:=IntWalk.i64_in _ oM
     obtain ⟨z,hz⟩ : ∃ z,decide (x.gt=I+J+x.sd+x.ms)=z:=⟨_,rfl⟩
     have xQ:(x.gt == I+J+x.sd+x.ms)=z:=by rw [← hz,Bool.eq_iff_iff]; simp
     have HZ:=jZ hz; clear hz
     have IOx:∀ p:ap w.heap.size w,cm p.val p.val.heap.size g x:=fun p=>h.at p
     clear wN HR HP
     go_wp2
     refine bm _ kZ kZ ?_
     repeat (any_goals (first | go_big_quiet_step ((first | (go_at_call 119; with_reducible refine aU HI nR (jf x g _ (IOx _) tl y5.out)) | (go_at_call 120; with_reducible refine aU HJ nR (fp de 121 #[] Tryz.call121 x g _ (fun o p=>qY o p.val) (IOx _) ol zS.out)))) | (refine wpQuiet_step (fun K hK=>?_); go_simp; split <;> (refine hK _ ?_; clear hK K))))
     all_goals (refine wpQuiet_nil ?_; rintro _ ⟨q1,rfl⟩)
     go_wp2
     go_ret
     refine ⟨?_,q1.below⟩
     rw [HG.out,HK.out,JK.out,Ch.out,HZ.out]; rfl
end Go.Proofs.YtoeoimhemojdeaaGreatDoor
