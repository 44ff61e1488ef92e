/- Lemmas. -/
import Derived.Test.YtoeoimhemojdeaaGreatDoorFs10

set_option linter.unusedVariables false
set_option linter.unusedSimpArgs false
set_option maxHeartbeats 8000000
open Go.Value renaming int → O, slice → F, string → wG
open Go.IntKind renaming i64 → U
open Go.Proofs.Tryz renaming prog → wH

namespace Go.Proofs.YtoeoimhemojdeaaGreatDoor
open Go.RowKit
theorem qJ (s:df) (w:World) :
  Calls wH 126 #[s.val] w fun e w'=>e=.returned (.bool s.okS)∧Below w.heap.size w w':=by
 obtain ⟨kd,st,pe,va⟩:=s
 have hb0:=bZ w (.cells #[O U kd,O U st,O U pe,O U va] 112)
 have L:=ai.new w 112 #[O U kd,O U st,O U pe,O U va]
 obtain ⟨ok,wP⟩ : ∃ ok,ok=df.okS ⟨kd,st,pe,va⟩:=⟨_,rfl⟩
 rw [← wP]
 unfold df.okS at wP
 simp only at wP
 obtain ⟨v1,AW⟩ : ∃ v,cg pe 1 999=v:=⟨_,rfl⟩
 obtain ⟨v2,xw⟩ : ∃ v,cg va 1 9999=v:=⟨_,rfl⟩
 obtain ⟨v3,zu⟩ : ∃ v,cg va 1 999=v:=⟨_,rfl⟩
 obtain ⟨v4,AA⟩ : ∃ v,cg st 1 99=v:=⟨_,rfl⟩
 rw [AW,xw,zu,AA] at wP
 have zh:=jZ AW; clear AW
 have yt:=jZ xw; clear xw
 have zi:=jZ zu; clear zu
 have CI:=jZ AA; clear AA
 have HO:=jZ wP; clear wP
 have c0:∀ W,W=w.alloc (.cells #[O U kd,O U st,O U pe,O U va] 112)→∀ q:ap W.heap.size W,q.val.cell? ⟨w.heap.size,0,none⟩=some (O U kd):=by rintro _ rfl q; exact (q.cell L.lt).trans (L.cell 0)
 have c1:∀ W,W=w.alloc (.cells #[O U kd,O U st,O U pe,O U va] 112)→∀ q:ap W.heap.size W,q.val.cell? ⟨w.heap.size,1,none⟩=some (O U st):=by rintro _ rfl q; exact (q.cell L.lt).trans (L.cell 1)
 have c2:∀ W,W=w.alloc (.cells #[O U kd,O U st,O U pe,O U va] 112)→∀ q:ap W.heap.size W,q.val.cell? ⟨w.heap.size,2,none⟩=some (O U pe):=by rintro _ rfl q; exact (q.cell L.lt).trans (L.cell 2)
 have c3:∀ W,W=w.alloc (.cells #[O U kd,O U st,O U pe,O U va] 112)→∀ q:ap W.heap.size W,q.val.cell? ⟨w.heap.size,3,none⟩=some (O U va):=by rintro _ rfl q; exact (q.cell L.lt).trans (L.cell 3)
 clear L
 by_cases k1:kd=1
 ·subst k1
  cases h2:(pe == 0)
  all_goals cases v2
  all_goals
   go_enter Tryz.func126,Tryz.ntmps126
   go_wp2_with fail
   generalize hW:w.alloc (.cells #[O U 1,O U st,O U pe,O U va] 112)=W at hb0 ⊢
   have d0:=c0 W hW.symm
   have d1:=c1 W hW.symm
   have d2:=c2 W hW.symm
   have d3:=c3 W hW.symm
   clear c0 c1 c2 c3 hW
   refine au kZ kZ ?_
   repeat (any_goals (first | go_big_quiet_step ((first | (go_at_call 134; with_reducible refine aB zh (aK pe 1 999 _)) | (go_at_call 134; with_reducible refine aB yt (aK va 1 9999 _)))) | (refine wpQuiet_step (fun K hK=>?_); go_simp; split <;> (refine hK _ ?_; clear hK K))))
   all_goals (refine wpQuiet_nil ?_; rintro _ ⟨q1,rfl⟩)
   all_goals (go_wp2_with (first | (go_at_call 134; with_reducible refine (aK va 1 999 _).mono ?_; rintro e w1 ⟨rfl,rfl⟩; rw [zi.out]) | (go_at_call 134; with_reducible refine (aK st 1 99 _).mono ?_; rintro e w1 ⟨rfl,rfl⟩; rw [CI.out])))
   all_goals go_ret
   all_goals exact ⟨by rw [HO.out]; clear d0 d1 d2 d3; simp_all <;> rfl,hb0.trans (q1.below.mono hb0.size)⟩
 by_cases k2:kd=2
 ·subst k2
  cases v1
  all_goals cases v2
  all_goals
   go_enter Tryz.func126,Tryz.ntmps126
   go_wp2_with fail
   generalize hW:w.alloc (.cells #[O U 2,O U st,O U pe,O U va] 112)=W at hb0 ⊢
   have d0:=c0 W hW.symm
   have d1:=c1 W hW.symm
   have d2:=c2 W hW.symm
   have d3:=c3 W hW.symm
   clear c0 c1 c2 c3 hW
   refine au kZ kZ ?_
   repeat (any_goals (first | go_big_quiet_step ((first | (go_at_call 134; with_reducible refine aB zh (aK pe 1 999 _)) | (go_at_call 134; with_reducible refine aB yt (aK va 1 9999 _)))) | (refine wpQuiet_step (fun K hK=>?_); go_simp; split <;> (refine hK _ ?_; clear hK K))))
   all_goals (refine wpQuiet_nil ?_; rintro _ ⟨q1,rfl⟩)
   all_goals (go_wp2_with (first | (go_at_call 134; with_reducible refine (aK va 1 999 _).mono ?_; rintro e w1 ⟨rfl,rfl⟩; rw [zi.out]) | (go_at_call 134; with_reducible refine (aK st 1 99 _).mono ?_; rintro e w1 ⟨rfl,rfl⟩; rw [CI.out])))
   all_goals go_ret
   all_goals exact ⟨by rw [HO.out]; clear d0 d1 d2 d3; simp_all <;> rfl,hb0.trans (q1.below.mono hb0.size)⟩
 by_cases k3:kd=3
 ·subst k3
  cases v1
  all_goals cases v2
  all_goals
   go_enter Tryz.func126,Tryz.ntmps126
   go_wp2_with fail
   generalize hW:w.alloc (.cells #[O U 3,O U st,O U pe,O U va] 112)=W at hb0 ⊢
   have d0:=c0 W hW.symm
   have d1:=c1 W hW.symm
   have d2:=c2 W hW.symm
   have d3:=c3 W hW.symm
   clear c0 c1 c2 c3 hW
   refine au kZ kZ ?_
   repeat (any_goals (first | go_big_quiet_step ((first | (go_at_call 134; with_reducible refine aB zh (aK pe 1 999 _)) | (go_at_call 134; with_reducible refine aB yt (aK va 1 9999 _)))) | (refine wpQuiet_step (fun K hK=>?_); go_simp; split <;> (refine hK _ ?_; clear hK K))))
   all_goals (refine wpQuiet_nil ?_; rintro _ ⟨q1,rfl⟩)
   all_goals (go_wp2_with (first | (go_at_call 134; with_reducible refine (aK va 1 999 _).mono ?_; rintro e w1 ⟨rfl,rfl⟩; rw [zi.out]) | (go_at_call 134; with_reducible refine (aK st 1 99 _).mono ?_; rintro e w1 ⟨rfl,rfl⟩; rw [CI.out])))
   all_goals go_ret
   all_goals exact ⟨by rw [HO.out]; clear d0 d1 d2 d3; simp_all <;> rfl,hb0.trans (q1.below.mono hb0.size)⟩
 by_cases k4:kd=4
 ·subst k4
  cases v1
  all_goals cases h2:(pe == 0)
  all_goals cases v2
  all_goals
   go_enter Tryz.func126,Tryz.ntmps126
   go_wp2_with fail
   generalize hW:w.alloc (.cells #[O U 4,O U st,O U pe,O U va] 112)=W at hb0 ⊢
   have d0:=c0 W hW.symm
   have d1:=c1 W hW.symm
   have d2:=c2 W hW.symm
   have d3:=c3 W hW.symm
   clear c0 c1 c2 c3 hW
   refine au kZ kZ ?_
   repeat (any_goals (first | go_big_quiet_step ((first | (go_at_call 134; with_reducible refine aB zh (aK pe 1 999 _)) | (go_at_call 134; with_reducible refine aB yt (aK va 1 9999 _)))) | (refine wpQuiet_step (fun K hK=>?_); go_simp; split <;> (refine hK _ ?_; clear hK K))))
   all_goals (refine wpQuiet_nil ?_; rintro _ ⟨q1,rfl⟩)
   all_goals (go_wp2_with (first | (go_at_call 134; with_reducible refine (aK va 1 999 _).mono ?_; rintro e w1 ⟨rfl,rfl⟩; rw [zi.out]) | (go_at_call 134; with_reducible refine (aK st 1 99 _).mono ?_; rintro e w1 ⟨rfl,rfl⟩; rw [CI.out])))
   all_goals go_ret
   all_goals exact ⟨by rw [HO.out]; clear d0 d1 d2 d3; simp_all <;> rfl,hb0.trans (q1.below.mono hb0.size)⟩
 by_cases k5:kd=5
 ·subst k5
  cases v1
  all_goals cases h2:(va == 0)
  all_goals
   go_enter Tryz.func126,Tryz.ntmps126
   go_wp2_with fail
   generalize hW:w.alloc (.cells #[O U 5,O U st,O U pe,O U va] 112)=W at hb0 ⊢
   have d0:=c0 W hW.symm
   have d1:=c1 W hW.symm
   have d2:=c2 W hW.symm
   have d3:=c3 W hW.symm
   clear c0 c1 c2 c3 hW
   refine au kZ kZ ?_
   repeat (any_goals (first | go_big_quiet_step ((first | (go_at_call 134; with_reducible refine aB zh (aK pe 1 999 _)) | (go_at_call 134; with_reducible refine aB yt (aK va 1 9999 _)))) | (refine wpQuiet_step (fun K hK=>?_); go_simp; split <;> (refine hK _ ?_; clear hK K))))
   all_goals (refine wpQuiet_nil ?_; rintro _ ⟨q1,rfl⟩)
   all_goals (go_wp2_with (first | (go_at_call 134; with_reducible refine (aK va 1 999 _).mono ?_; rintro e w1 ⟨rfl,rfl⟩; rw [zi.out]) | (go_at_call 134; with_reducible refine (aK st 1 99 _).mono ?_; rintro e w1 ⟨rfl,rfl⟩; rw [CI.out])))
   all_goals go_ret
   all_goals exact ⟨by rw [HO.out]; clear d0 d1 d2 d3; simp_all <;> rfl,hb0.trans (q1.below.mono hb0.size)⟩
 by_cases k6:kd=6
 ·subst k6
  cases v1
  all_goals cases v3
  all_goals
   go_enter Tryz.func126,Tryz.ntmps126
   go_wp2_with fail
   generalize hW:w.alloc (.cells #[O U 6,O U st,O U pe,O U va] 112)=W at hb0 ⊢
   have d0:=c0 W hW.symm
   have d1:=c1 W hW.symm
   have d2:=c2 W hW.symm
   have d3:=c3 W hW.symm
   clear c0 c1 c2 c3 hW
   refine au kZ kZ ?_
   repeat (any_goals (first | go_big_quiet_step ((first | (go_at_call 134; with_reducible refine aB zh (aK pe 1 999 _)) | (go_at_call 134; with_reducible refine aB yt (aK va 1 9999 _)))) | (refine wpQuiet_step (fun K hK=>?_); go_simp; split <;> (refine hK _ ?_; clear hK K))))
   all_goals (refine wpQuiet_nil ?_; rintro _ ⟨q1,rfl⟩)
   all_goals (go_wp2_with (first | (go_at_call 134; with_reducible refine (aK va 1 999 _).mono ?_; rintro e w1 ⟨rfl,rfl⟩; rw [zi.out]) | (go_at_call 134; with_reducible refine (aK st 1 99 _).mono ?_; rintro e w1 ⟨rfl,rfl⟩; rw [CI.out])))
   all_goals go_ret
   all_goals exact ⟨by rw [HO.out]; clear d0 d1 d2 d3; simp_all <;> rfl,hb0.trans (q1.below.mono hb0.size)⟩
 have e1:(kd == 1)=false:=by simp [k1]
 have e2:(kd == 2)=false:=by simp [k2]
 have e3:(kd == 3)=false:=by simp [k3]
 have e4:(kd == 4)=false:=by simp [k4]
 have e5:(kd == 5)=false:=by simp [k5]
 have e6:(kd == 6)=false:=by simp [k6]
 go_enter Tryz.func126,Tryz.ntmps126
 go_wp2_with fail
 generalize hW:w.alloc (.cells #[O U kd,O U st,O U pe,O U va] 112)=W at hb0 ⊢
 have d0:=c0 W hW.symm
 have d1:=c1 W hW.symm
 have d2:=c2 W hW.symm
 have d3:=c3 W hW.symm
 clear c0 c1 c2 c3 hW
 refine au kZ kZ ?_
 repeat (any_goals (first | go_big_quiet_step ((first | (go_at_call 134; with_reducible refine aB zh (aK pe 1 999 _)) | (go_at_call 134; with_reducible refine aB yt (aK va 1 9999 _)))) | (refine wpQuiet_step (fun K hK=>?_); go_simp; split <;> (refine hK _ ?_; clear hK K))))
 all_goals (refine wpQuiet_nil ?_; rintro _ ⟨q1,rfl⟩)
 all_goals (go_wp2_with (first | (go_at_call 134; with_reducible refine (aK va 1 999 _).mono ?_; rintro e w1 ⟨rfl,rfl⟩; rw [zi.out]) | (go_at_call 134; with_reducible refine (aK st 1 99 _).mono ?_; rintro e w1 ⟨rfl,rfl⟩; rw [CI.out])))
 all_goals go_ret
 all_goals exact ⟨by rw [HO.out]; clear d0 d1 d2 d3; simp_all <;> rfl,hb0.trans (q1.below.mono hb0.size)⟩
end Go.Proofs.YtoeoimhemojdeaaGreatDoor
