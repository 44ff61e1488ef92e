/- Fo07: the texts SpecOk SpecTop SpecOut SpecV LawOffA OffMark OffLaw Stp, joined into one file. -/
import Derived.Deep.RegionHeld3
import Derived.Test.YtdiojhjkcholiaaFo01
import Derived.Test.YtdiojhjkcholiaaFo03
import Derived.Test.YtdiojhjkcholiaaFo04
import Derived.Test.YtdiojhjkcholiaaFo05
import Derived.Test.YtdiojhjkcholiaaFo06

/- A step's test, in the reference. (Printed by gen_specstep.py) -/
namespace Go.Proofs.Ytdiojhjkcholiaa
open Go.RowKit

set_option maxHeartbeats 4000000 in
theorem l32Step_any (s : Stp) (w : World) :
    Calls Try.prog 41 #[s.val] w fun e w' => e = .returned (.bool s.okS) ∧ Below w.heap.size w w' := by
  obtain ⟨kd, st, pe, va⟩ := s
  have hb0 := (Below.refl w.heap.size w).alloc (Nat.le_refl _) (.cells #[.int .i64 kd, .int .i64 st, .int .i64 pe, .int .i64 va] 45)
  have L := Lies.new w 45 #[.int .i64 kd, .int .i64 st, .int .i64 pe, .int .i64 va]
  obtain ⟨ok, hok⟩ : ∃ ok, ok = Stp.okS ⟨kd, st, pe, va⟩ := ⟨_, rfl⟩
  rw [← hok]
  unfold Stp.okS at hok
  simp only at hok
  obtain ⟨v1, hv1⟩ : ∃ v, inR pe 1 999 = v := ⟨_, rfl⟩
  obtain ⟨v2, hv2⟩ : ∃ v, inR va 1 9999 = v := ⟨_, rfl⟩
  obtain ⟨v3, hv3⟩ : ∃ v, inR va 1 999 = v := ⟨_, rfl⟩
  obtain ⟨v4, hv4⟩ : ∃ v, inR st 1 99 = v := ⟨_, rfl⟩
  rw [hv1, hv2, hv3, hv4] at hok
  have HV1 := Lib.hid hv1; clear hv1
  have HV2 := Lib.hid hv2; clear hv2
  have HV3 := Lib.hid hv3; clear hv3
  have HV4 := Lib.hid hv4; clear hv4
  have HO := Lib.hid hok; clear hok
  have c0 : ∀ W, W = w.alloc (.cells #[.int .i64 kd, .int .i64 st, .int .i64 pe, .int .i64 va] 45) → ∀ q : Since W.heap.size W, q.val.cell? ⟨w.heap.size, 0, none⟩ = some (.int .i64 kd) := by rintro _ rfl q; exact (q.cell L.lt).trans (L.cell 0)
  have c1 : ∀ W, W = w.alloc (.cells #[.int .i64 kd, .int .i64 st, .int .i64 pe, .int .i64 va] 45) → ∀ q : Since W.heap.size W, q.val.cell? ⟨w.heap.size, 1, none⟩ = some (.int .i64 st) := by rintro _ rfl q; exact (q.cell L.lt).trans (L.cell 1)
  have c2 : ∀ W, W = w.alloc (.cells #[.int .i64 kd, .int .i64 st, .int .i64 pe, .int .i64 va] 45) → ∀ q : Since W.heap.size W, q.val.cell? ⟨w.heap.size, 2, none⟩ = some (.int .i64 pe) := by rintro _ rfl q; exact (q.cell L.lt).trans (L.cell 2)
  have c3 : ∀ W, W = w.alloc (.cells #[.int .i64 kd, .int .i64 st, .int .i64 pe, .int .i64 va] 45) → ∀ q : Since W.heap.size W, q.val.cell? ⟨w.heap.size, 3, none⟩ = some (.int .i64 va) := by rintro _ rfl q; exact (q.cell L.lt).trans (L.cell 3)
  clear L
  by_cases k1 : kd = 1
  · subst k1
    cases h2 : (pe == 0)
    all_goals cases v2
    all_goals
      go_enter Try.func41, Try.ntmps41
      go_wp2_with fail
      generalize hW : w.alloc (.cells #[.int .i64 1, .int .i64 st, .int .i64 pe, .int .i64 va] 45) = W at hb0 ⊢
      have d0 := c0 W hW.symm
      have d1 := c1 W hW.symm
      have d2 := c2 W hW.symm
      have d3 := c3 W hW.symm
      clear c0 c1 c2 c3 hW
      refine wp_region_since0 (by kernel_rfl) (by kernel_rfl) ?_
      repeat (any_goals (first | go_big_quiet_step ((first | (go_at_call 71; with_reducible refine calls_sameB HV1 (l1In_any pe 1 999 _)) | (go_at_call 71; with_reducible refine calls_sameB HV2 (l1In_any va 1 9999 _)))) | (refine wpQuiet_step (fun K hK => ?_); go_simp; split <;> (refine hK _ ?_; clear hK K))))
      all_goals (refine wpQuiet_nil ?_; rintro _ ⟨q1, rfl⟩)
      all_goals (go_wp2_with (first | (go_at_call 71; with_reducible refine (l1In_any va 1 999 _).mono ?_; rintro e w1 ⟨rfl, rfl⟩; rw [HV3.out]) | (go_at_call 71; with_reducible refine (l1In_any st 1 99 _).mono ?_; rintro e w1 ⟨rfl, rfl⟩; rw [HV4.out])))
      all_goals go_ret
      all_goals exact ⟨by rw [HO.out]; clear d0 d1 d2 d3; simp_all <;> rfl, hb0.trans (q1.below.mono hb0.size)⟩
  by_cases k2 : kd = 2
  · subst k2
    cases v1
    all_goals cases v2
    all_goals
      go_enter Try.func41, Try.ntmps41
      go_wp2_with fail
      generalize hW : w.alloc (.cells #[.int .i64 2, .int .i64 st, .int .i64 pe, .int .i64 va] 45) = W at hb0 ⊢
      have d0 := c0 W hW.symm
      have d1 := c1 W hW.symm
      have d2 := c2 W hW.symm
      have d3 := c3 W hW.symm
      clear c0 c1 c2 c3 hW
      refine wp_region_since0 (by kernel_rfl) (by kernel_rfl) ?_
      repeat (any_goals (first | go_big_quiet_step ((first | (go_at_call 71; with_reducible refine calls_sameB HV1 (l1In_any pe 1 999 _)) | (go_at_call 71; with_reducible refine calls_sameB HV2 (l1In_any va 1 9999 _)))) | (refine wpQuiet_step (fun K hK => ?_); go_simp; split <;> (refine hK _ ?_; clear hK K))))
      all_goals (refine wpQuiet_nil ?_; rintro _ ⟨q1, rfl⟩)
      all_goals (go_wp2_with (first | (go_at_call 71; with_reducible refine (l1In_any va 1 999 _).mono ?_; rintro e w1 ⟨rfl, rfl⟩; rw [HV3.out]) | (go_at_call 71; with_reducible refine (l1In_any st 1 99 _).mono ?_; rintro e w1 ⟨rfl, rfl⟩; rw [HV4.out])))
      all_goals go_ret
      all_goals exact ⟨by rw [HO.out]; clear d0 d1 d2 d3; simp_all <;> rfl, hb0.trans (q1.below.mono hb0.size)⟩
  by_cases k3 : kd = 3
  · subst k3
    cases v1
    all_goals cases v2
    all_goals
      go_enter Try.func41, Try.ntmps41
      go_wp2_with fail
      generalize hW : w.alloc (.cells #[.int .i64 3, .int .i64 st, .int .i64 pe, .int .i64 va] 45) = W at hb0 ⊢
      have d0 := c0 W hW.symm
      have d1 := c1 W hW.symm
      have d2 := c2 W hW.symm
      have d3 := c3 W hW.symm
      clear c0 c1 c2 c3 hW
      refine wp_region_since0 (by kernel_rfl) (by kernel_rfl) ?_
      repeat (any_goals (first | go_big_quiet_step ((first | (go_at_call 71; with_reducible refine calls_sameB HV1 (l1In_any pe 1 999 _)) | (go_at_call 71; with_reducible refine calls_sameB HV2 (l1In_any va 1 9999 _)))) | (refine wpQuiet_step (fun K hK => ?_); go_simp; split <;> (refine hK _ ?_; clear hK K))))
      all_goals (refine wpQuiet_nil ?_; rintro _ ⟨q1, rfl⟩)
      all_goals (go_wp2_with (first | (go_at_call 71; with_reducible refine (l1In_any va 1 999 _).mono ?_; rintro e w1 ⟨rfl, rfl⟩; rw [HV3.out]) | (go_at_call 71; with_reducible refine (l1In_any st 1 99 _).mono ?_; rintro e w1 ⟨rfl, rfl⟩; rw [HV4.out])))
      all_goals go_ret
      all_goals exact ⟨by rw [HO.out]; clear d0 d1 d2 d3; simp_all <;> rfl, hb0.trans (q1.below.mono hb0.size)⟩
  by_cases k4 : kd = 4
  · subst k4
    cases v1
    all_goals cases h2 : (pe == 0)
    all_goals cases v2
    all_goals
      go_enter Try.func41, Try.ntmps41
      go_wp2_with fail
      generalize hW : w.alloc (.cells #[.int .i64 4, .int .i64 st, .int .i64 pe, .int .i64 va] 45) = W at hb0 ⊢
      have d0 := c0 W hW.symm
      have d1 := c1 W hW.symm
      have d2 := c2 W hW.symm
      have d3 := c3 W hW.symm
      clear c0 c1 c2 c3 hW
      refine wp_region_since0 (by kernel_rfl) (by kernel_rfl) ?_
      repeat (any_goals (first | go_big_quiet_step ((first | (go_at_call 71; with_reducible refine calls_sameB HV1 (l1In_any pe 1 999 _)) | (go_at_call 71; with_reducible refine calls_sameB HV2 (l1In_any va 1 9999 _)))) | (refine wpQuiet_step (fun K hK => ?_); go_simp; split <;> (refine hK _ ?_; clear hK K))))
      all_goals (refine wpQuiet_nil ?_; rintro _ ⟨q1, rfl⟩)
      all_goals (go_wp2_with (first | (go_at_call 71; with_reducible refine (l1In_any va 1 999 _).mono ?_; rintro e w1 ⟨rfl, rfl⟩; rw [HV3.out]) | (go_at_call 71; with_reducible refine (l1In_any st 1 99 _).mono ?_; rintro e w1 ⟨rfl, rfl⟩; rw [HV4.out])))
      all_goals go_ret
      all_goals exact ⟨by rw [HO.out]; clear d0 d1 d2 d3; simp_all <;> rfl, hb0.trans (q1.below.mono hb0.size)⟩
  by_cases k5 : kd = 5
  · subst k5
    cases v1
    all_goals cases h2 : (va == 0)
    all_goals
      go_enter Try.func41, Try.ntmps41
      go_wp2_with fail
      generalize hW : w.alloc (.cells #[.int .i64 5, .int .i64 st, .int .i64 pe, .int .i64 va] 45) = W at hb0 ⊢
      have d0 := c0 W hW.symm
      have d1 := c1 W hW.symm
      have d2 := c2 W hW.symm
      have d3 := c3 W hW.symm
      clear c0 c1 c2 c3 hW
      refine wp_region_since0 (by kernel_rfl) (by kernel_rfl) ?_
      repeat (any_goals (first | go_big_quiet_step ((first | (go_at_call 71; with_reducible refine calls_sameB HV1 (l1In_any pe 1 999 _)) | (go_at_call 71; with_reducible refine calls_sameB HV2 (l1In_any va 1 9999 _)))) | (refine wpQuiet_step (fun K hK => ?_); go_simp; split <;> (refine hK _ ?_; clear hK K))))
      all_goals (refine wpQuiet_nil ?_; rintro _ ⟨q1, rfl⟩)
      all_goals (go_wp2_with (first | (go_at_call 71; with_reducible refine (l1In_any va 1 999 _).mono ?_; rintro e w1 ⟨rfl, rfl⟩; rw [HV3.out]) | (go_at_call 71; with_reducible refine (l1In_any st 1 99 _).mono ?_; rintro e w1 ⟨rfl, rfl⟩; rw [HV4.out])))
      all_goals go_ret
      all_goals exact ⟨by rw [HO.out]; clear d0 d1 d2 d3; simp_all <;> rfl, hb0.trans (q1.below.mono hb0.size)⟩
  by_cases k6 : kd = 6
  · subst k6
    cases v1
    all_goals cases v3
    all_goals
      go_enter Try.func41, Try.ntmps41
      go_wp2_with fail
      generalize hW : w.alloc (.cells #[.int .i64 6, .int .i64 st, .int .i64 pe, .int .i64 va] 45) = W at hb0 ⊢
      have d0 := c0 W hW.symm
      have d1 := c1 W hW.symm
      have d2 := c2 W hW.symm
      have d3 := c3 W hW.symm
      clear c0 c1 c2 c3 hW
      refine wp_region_since0 (by kernel_rfl) (by kernel_rfl) ?_
      repeat (any_goals (first | go_big_quiet_step ((first | (go_at_call 71; with_reducible refine calls_sameB HV1 (l1In_any pe 1 999 _)) | (go_at_call 71; with_reducible refine calls_sameB HV2 (l1In_any va 1 9999 _)))) | (refine wpQuiet_step (fun K hK => ?_); go_simp; split <;> (refine hK _ ?_; clear hK K))))
      all_goals (refine wpQuiet_nil ?_; rintro _ ⟨q1, rfl⟩)
      all_goals (go_wp2_with (first | (go_at_call 71; with_reducible refine (l1In_any va 1 999 _).mono ?_; rintro e w1 ⟨rfl, rfl⟩; rw [HV3.out]) | (go_at_call 71; with_reducible refine (l1In_any st 1 99 _).mono ?_; rintro e w1 ⟨rfl, rfl⟩; rw [HV4.out])))
      all_goals go_ret
      all_goals exact ⟨by rw [HO.out]; clear d0 d1 d2 d3; simp_all <;> rfl, hb0.trans (q1.below.mono hb0.size)⟩
  have e1 : (kd == 1) = false := by simp [k1]
  have e2 : (kd == 2) = false := by simp [k2]
  have e3 : (kd == 3) = false := by simp [k3]
  have e4 : (kd == 4) = false := by simp [k4]
  have e5 : (kd == 5) = false := by simp [k5]
  have e6 : (kd == 6) = false := by simp [k6]
  go_enter Try.func41, Try.ntmps41
  go_wp2_with fail
  generalize hW : w.alloc (.cells #[.int .i64 kd, .int .i64 st, .int .i64 pe, .int .i64 va] 45) = W at hb0 ⊢
  have d0 := c0 W hW.symm
  have d1 := c1 W hW.symm
  have d2 := c2 W hW.symm
  have d3 := c3 W hW.symm
  clear c0 c1 c2 c3 hW
  refine wp_region_since0 (by kernel_rfl) (by kernel_rfl) ?_
  repeat (any_goals (first | go_big_quiet_step ((first | (go_at_call 71; with_reducible refine calls_sameB HV1 (l1In_any pe 1 999 _)) | (go_at_call 71; with_reducible refine calls_sameB HV2 (l1In_any va 1 9999 _)))) | (refine wpQuiet_step (fun K hK => ?_); go_simp; split <;> (refine hK _ ?_; clear hK K))))
  all_goals (refine wpQuiet_nil ?_; rintro _ ⟨q1, rfl⟩)
  all_goals (go_wp2_with (first | (go_at_call 71; with_reducible refine (l1In_any va 1 999 _).mono ?_; rintro e w1 ⟨rfl, rfl⟩; rw [HV3.out]) | (go_at_call 71; with_reducible refine (l1In_any st 1 99 _).mono ?_; rintro e w1 ⟨rfl, rfl⟩; rw [HV4.out])))
  all_goals go_ret
  all_goals exact ⟨by rw [HO.out]; clear d0 d1 d2 d3; simp_all <;> rfl, hb0.trans (q1.below.mono hb0.size)⟩
end Go.Proofs.Ytdiojhjkcholiaa

/- StepOffice in the reference, out of a contract of l32Make. (Printed by gen_specmk.py) -/
namespace Go.Proofs.Ytdiojhjkcholiaa
open Go.RowKit

/-- The result of a made step, and whether it is possible. -/
def GivesMk (w : World) (R : Oc × Bool) (e : Ending) (w' : World) : Prop :=
  ∃ TA tc OA oc, e = .returned (.tuple #[.agg #[.slice TA R.1.t.length tc, .slice OA R.1.o.length oc, .int .i64 R.1.got, .int .i64 R.1.sold, .int .i64 R.1.missed], .bool R.2]) ∧ w'.ownsRow w.heap.size 74 2 (.slice TA R.1.t.length tc) R.1.t.length (R.1.t.flatMap Tray.enc) ∧
    w'.ownsRow w.heap.size 100 3 (.slice OA R.1.o.length oc) R.1.o.length (R.1.o.flatMap Outing.enc) ∧ Below w.heap.size w w'

set_option maxRecDepth 100000 in
set_option maxHeartbeats 4000000 in
theorem specStep_of (hM : ∀ (x : Off) (s : Stp) (w : World), OffR w w.heap.size x → Good x → x.t.length ≤ x.tc → s.okS = true → Calls Try.prog 42 #[x.val, s.val] w (GivesMk w (makeS x.c s)))
    (x : Off) (s : Stp) (w : World) (h : OffR w w.heap.size x) (hcap : x.t.length ≤ x.tc) :
    Calls Try.prog 13 #[x.val, s.val] w (GivesStep w (if goodOff x && s.okS then okOc (makeS x.c s) else none)) := by
  obtain ⟨kd, st, pe, va⟩ := s
  have L1 := ((Lies.new w 25 #[.slice x.TA x.t.length x.tc, .slice x.OA x.o.length x.oc, .int .i64 x.got, .int .i64 x.sold, .int .i64 x.missed]).alloc (.cells #[.int .i64 kd, .int .i64 st, .int .i64 pe, .int .i64 va] 45)).alloc (.cells #[.slice none 0 0, .slice none 0 0, .int .i64 0, .int .i64 0, .int .i64 0] 25)
  have L2 := (Lies.new1 w (.cells #[.slice x.TA x.t.length x.tc, .slice x.OA x.o.length x.oc, .int .i64 x.got, .int .i64 x.sold, .int .i64 x.missed] 25) 45 #[.int .i64 kd, .int .i64 st, .int .i64 pe, .int .i64 va]).alloc (.cells #[.slice none 0 0, .slice none 0 0, .int .i64 0, .int .i64 0, .int .i64 0] 25)
  have L3 := Lies.new2 w (.cells #[.slice x.TA x.t.length x.tc, .slice x.OA x.o.length x.oc, .int .i64 x.got, .int .i64 x.sold, .int .i64 x.missed] 25) (.cells #[.int .i64 kd, .int .i64 st, .int .i64 pe, .int .i64 va] 45) 25 #[.slice none 0 0, .slice none 0 0, .int .i64 0, .int .i64 0, .int .i64 0]
  have b1 := (Below.refl w.heap.size w).alloc (Nat.le_refl _) (.cells #[.slice x.TA x.t.length x.tc, .slice x.OA x.o.length x.oc, .int .i64 x.got, .int .i64 x.sold, .int .i64 x.missed] 25)
  have b2 := b1.alloc b1.size (.cells #[.int .i64 kd, .int .i64 st, .int .i64 pe, .int .i64 va] 45)
  have b3 := b2.alloc b2.size (.cells #[.slice none 0 0, .slice none 0 0, .int .i64 0, .int .i64 0, .int .i64 0] 25)
  clear b1 b2
  have cV := fun W hW => l32Good_any x W hW
  have cO := fun W => l32Step_any ⟨kd, st, pe, va⟩ W
  have cT := fun (G : Good x) (hs : Stp.okS ⟨kd, st, pe, va⟩ = true) W hW => hM x ⟨kd, st, pe, va⟩ W hW G hcap hs
  clear hM
  cases hg : goodOff x
  · rw [hg] at cV
    rw [show (if false && Stp.okS ⟨kd, st, pe, va⟩ then okOc (makeS x.c ⟨kd, st, pe, va⟩) else none) = none from rfl]
    clear hg cO cT
    · skip
      go_enter Try.func13, Try.ntmps13
      go_wp2_with fail
      generalize (((w.alloc (.cells #[.slice x.TA x.t.length x.tc, .slice x.OA x.o.length x.oc, .int .i64 x.got, .int .i64 x.sold, .int .i64 x.missed] 25)).alloc (.cells #[.int .i64 kd, .int .i64 st, .int .i64 pe, .int .i64 va] 45)).alloc (.cells #[.slice none 0 0, .slice none 0 0, .int .i64 0, .int .i64 0, .int .i64 0] 25)) = W3 at L1 L2 L3 b3 ⊢
      have hR := h.up b3 (Nat.le_refl _)
      refine (cV W3 hR).mono ?_
      rintro e W4 ⟨rfl, hb4⟩
      have k4 := b3.trans (hb4.mono b3.size)
      have L3z := L3.below hb4 L3.lt
      have z0 := L3z.cell 0
      have z1 := L3z.cell 1
      have z2 := L3z.cell 2
      have z3 := L3z.cell 3
      have z4 := L3z.cell 4
      have f0 := L3z.frozen 0
      have f1 := L3z.frozen 1
      have f2 := L3z.frozen 2
      have f3 := L3z.frozen 3
      have f4 := L3z.frozen 4
      simp only [List.getElem?_cons_zero, List.getElem?_cons_succ] at z0 z1 z2 z3 z4
      have hgr := (grown_set (g := w.heap.size + 1 + 1) (i := 4) (u := .int .i64 0) (grown_set (g := w.heap.size + 1 + 1) (i := 3) (u := .int .i64 0) (grown_set (g := w.heap.size + 1 + 1) (i := 2) (u := .int .i64 0) (grown_set (g := w.heap.size + 1 + 1) (i := 1) (u := .slice none 0 0) (grown_set (g := w.heap.size + 1 + 1) (i := 0) (u := .slice none 0 0) (World.grownBy.refl W4 (some (w.heap.size + 1 + 1))))))))
      have bz := k4.grown hgr k4.size (by rintro _ ⟨⟩; omega)
      clear hgr
      go_wp2
      refine bodyPost_ret (v := .tuple #[.agg #[.slice none 0 0, .slice none 0 0, .int .i64 0, .int .i64 0, .int .i64 0], .bool false]) (by simp [results, Try.results13, go_sem, *]) rfl ?_
      exact GivesStep.no rfl bz
  · have G := good_iff.1 hg
    rw [hg] at cV
    have cT := cT G
    clear hg G
    cases hs : Stp.okS ⟨kd, st, pe, va⟩
    · rw [hs] at cO
      rw [show (if true && false then okOc (makeS x.c ⟨kd, st, pe, va⟩) else none) = none from rfl]
      clear hs cT
      go_enter Try.func13, Try.ntmps13
      go_wp2_with fail
      generalize (((w.alloc (.cells #[.slice x.TA x.t.length x.tc, .slice x.OA x.o.length x.oc, .int .i64 x.got, .int .i64 x.sold, .int .i64 x.missed] 25)).alloc (.cells #[.int .i64 kd, .int .i64 st, .int .i64 pe, .int .i64 va] 45)).alloc (.cells #[.slice none 0 0, .slice none 0 0, .int .i64 0, .int .i64 0, .int .i64 0] 25)) = W3 at L1 L2 L3 b3 ⊢
      have hR := h.up b3 (Nat.le_refl _)
      refine (cV W3 hR).mono ?_
      rintro e W4 ⟨rfl, hb4⟩
      have L2y := L2.below hb4 L2.lt
      have s0 := L2y.cell 0
      have s1 := L2y.cell 1
      have s2 := L2y.cell 2
      have s3 := L2y.cell 3
      simp only [List.getElem?_cons_zero, List.getElem?_cons_succ] at s0 s1 s2 s3
      go_wp2_with fail
      refine (cO W4).mono ?_
      rintro e W5 ⟨rfl, hb5⟩
      clear s0 s1 s2 s3
      have k5 := b3.trans ((bthen hb4 hb5).mono b3.size)
      have L3z := L3.below (bthen hb4 hb5) L3.lt
      have z0 := L3z.cell 0
      have z1 := L3z.cell 1
      have z2 := L3z.cell 2
      have z3 := L3z.cell 3
      have z4 := L3z.cell 4
      have f0 := L3z.frozen 0
      have f1 := L3z.frozen 1
      have f2 := L3z.frozen 2
      have f3 := L3z.frozen 3
      have f4 := L3z.frozen 4
      simp only [List.getElem?_cons_zero, List.getElem?_cons_succ] at z0 z1 z2 z3 z4
      have hgr := (grown_set (g := w.heap.size + 1 + 1) (i := 4) (u := .int .i64 0) (grown_set (g := w.heap.size + 1 + 1) (i := 3) (u := .int .i64 0) (grown_set (g := w.heap.size + 1 + 1) (i := 2) (u := .int .i64 0) (grown_set (g := w.heap.size + 1 + 1) (i := 1) (u := .slice none 0 0) (grown_set (g := w.heap.size + 1 + 1) (i := 0) (u := .slice none 0 0) (World.grownBy.refl W5 (some (w.heap.size + 1 + 1))))))))
      have bz := k5.grown hgr k5.size (by rintro _ ⟨⟩; omega)
      clear hgr
      go_wp2
      refine bodyPost_ret (v := .tuple #[.agg #[.slice none 0 0, .slice none 0 0, .int .i64 0, .int .i64 0, .int .i64 0], .bool false]) (by simp [results, Try.results13, go_sem, *]) rfl ?_
      exact GivesStep.no rfl bz
    · have cT := cT hs
      rw [hs] at cO
      rw [show (if true && true then okOc (makeS x.c ⟨kd, st, pe, va⟩) else none) = okOc (makeS x.c ⟨kd, st, pe, va⟩) from rfl]
      clear hs
      generalize makeS x.c ⟨kd, st, pe, va⟩ = R at cT ⊢
      obtain ⟨r, ok⟩ := R
      go_enter Try.func13, Try.ntmps13
      go_wp2_with fail
      generalize (((w.alloc (.cells #[.slice x.TA x.t.length x.tc, .slice x.OA x.o.length x.oc, .int .i64 x.got, .int .i64 x.sold, .int .i64 x.missed] 25)).alloc (.cells #[.int .i64 kd, .int .i64 st, .int .i64 pe, .int .i64 va] 45)).alloc (.cells #[.slice none 0 0, .slice none 0 0, .int .i64 0, .int .i64 0, .int .i64 0] 25)) = W3 at L1 L2 L3 b3 ⊢
      have hR := h.up b3 (Nat.le_refl _)
      refine (cV W3 hR).mono ?_
      rintro e W4 ⟨rfl, hb4⟩
      have L2y := L2.below hb4 L2.lt
      have s0 := L2y.cell 0
      have s1 := L2y.cell 1
      have s2 := L2y.cell 2
      have s3 := L2y.cell 3
      simp only [List.getElem?_cons_zero, List.getElem?_cons_succ] at s0 s1 s2 s3
      go_wp2_with fail
      refine (cO W4).mono ?_
      rintro e W5 ⟨rfl, hb5⟩
      clear s0 s1 s2 s3
      have L2y := L2.below (bthen hb4 hb5) L2.lt
      have L1y := L1.below (bthen hb4 hb5) L1.lt
      have s0 := L2y.cell 0
      have s1 := L2y.cell 1
      have s2 := L2y.cell 2
      have s3 := L2y.cell 3
      simp only [List.getElem?_cons_zero, List.getElem?_cons_succ] at s0 s1 s2 s3
      have y0 := L1y.cell 0
      have y1 := L1y.cell 1
      have y2 := L1y.cell 2
      have y3 := L1y.cell 3
      have y4 := L1y.cell 4
      simp only [List.getElem?_cons_zero, List.getElem?_cons_succ] at y0 y1 y2 y3 y4
      go_wp2_with fail
      refine (cT W5 (hR.then (bthen hb4 hb5))).mono ?_
      rintro e W6 ⟨TA, tc, OA, oc, rfl, hT, hO, hb6⟩
      simp only at hT hO
      clear s0 s1 s2 s3 y0 y1 y2 y3 y4
      have k56 := bthen (bthen hb4 hb5) hb6
      have hal := (Below.refl W6.heap.size W6).alloc (Nat.le_refl _) (.cells #[.slice TA r.t.length tc, .slice OA r.o.length oc, .int .i64 r.got, .int .i64 r.sold, .int .i64 r.missed] 25)
      have k7 := b3.trans ((bthen k56 hal).mono b3.size)
      have L3z := L3.below (bthen k56 hal) L3.lt
      have s36 : W3.heap.size ≤ W5.heap.size := (bthen hb4 hb5).size
      have hT7 := ownsRow_below hT hal
      have hO7 := ownsRow_below hO hal
      have z0 := L3z.cell 0
      have z1 := L3z.cell 1
      have z2 := L3z.cell 2
      have z3 := L3z.cell 3
      have z4 := L3z.cell 4
      have f0 := L3z.frozen 0
      have f1 := L3z.frozen 1
      have f2 := L3z.frozen 2
      have f3 := L3z.frozen 3
      have f4 := L3z.frozen 4
      simp only [List.getElem?_cons_zero, List.getElem?_cons_succ] at z0 z1 z2 z3 z4
      clear hT hO
      cases ok
      · have hgr := (grown_set (g := w.heap.size + 1 + 1) (i := 4) (u := .int .i64 0) (grown_set (g := w.heap.size + 1 + 1) (i := 3) (u := .int .i64 0) (grown_set (g := w.heap.size + 1 + 1) (i := 2) (u := .int .i64 0) (grown_set (g := w.heap.size + 1 + 1) (i := 1) (u := .slice none 0 0) (grown_set (g := w.heap.size + 1 + 1) (i := 0) (u := .slice none 0 0) (World.grownBy.refl (W6.alloc (.cells #[.slice TA r.t.length tc, .slice OA r.o.length oc, .int .i64 r.got, .int .i64 r.sold, .int .i64 r.missed] 25)) (some (w.heap.size + 1 + 1))))))))
        have bz := k7.grown hgr k7.size (by rintro _ ⟨⟩; omega)
        clear hgr hT7 hO7 hal
        go_wp2
        refine bodyPost_ret (v := .tuple #[.agg #[.slice none 0 0, .slice none 0 0, .int .i64 0, .int .i64 0, .int .i64 0], .bool false]) (by simp [results, Try.results13, go_sem, *]) rfl ?_
        exact GivesStep.no rfl bz
      · have hgr := (grown_set (g := w.heap.size + 1 + 1) (i := 4) (u := .int .i64 r.missed) (grown_set (g := w.heap.size + 1 + 1) (i := 3) (u := .int .i64 r.sold) (grown_set (g := w.heap.size + 1 + 1) (i := 2) (u := .int .i64 r.got) (grown_set (g := w.heap.size + 1 + 1) (i := 1) (u := .slice OA r.o.length oc) (grown_set (g := w.heap.size + 1 + 1) (i := 0) (u := .slice TA r.t.length tc) (World.grownBy.refl (W6.alloc (.cells #[.slice TA r.t.length tc, .slice OA r.o.length oc, .int .i64 r.got, .int .i64 r.sold, .int .i64 r.missed] 25)) (some (w.heap.size + 1 + 1))))))))
        have bz := k7.grown hgr k7.size (by rintro _ ⟨⟩; omega)
        have R8 := Lib.hid (ownsRow_lower (ownsRow_keptG hT7 L3z ne_owt hgr) (Nat.le_trans b3.size s36))
        have R9 := Lib.hid (ownsRow_lower (ownsRow_keptG hO7 L3z ne_owo hgr) (Nat.le_trans b3.size s36))
        clear hgr hT7 hO7 hal
        go_wp2
        refine bodyPost_ret (v := .tuple #[.agg #[.slice TA r.t.length tc, .slice OA r.o.length oc, .int .i64 r.got, .int .i64 r.sold, .int .i64 r.missed], .bool true]) (by simp [results, Try.results13, go_sem, *]) rfl ?_
        exact GivesStep.yes rfl R8.out R9.out bz
end Go.Proofs.Ytdiojhjkcholiaa

/- How many stamps of a kind a person has, in the reference. (Printed by gen_specstep.py) -/
namespace Go.Proofs.Ytdiojhjkcholiaa
open Go.RowKit

theorem outAt_step {k p : Int} {l : List Outing} {i : Nat} (h : i < l.length) : outAt k p (l.drop i) = if isAt k p l[i] then l[i].c else outAt k p (l.drop (i + 1)) := by
  rw [List.drop_eq_getElem_cons h, outAt]
set_option maxHeartbeats 2000000 in
theorem l32Out_any (x : Off) (kd pe : Int) (w : World) (h : OffR w w.heap.size x) :
    Calls Try.prog 94 #[x.val, .int .i64 kd, .int .i64 pe] w fun e w' => e = .returned (.int .i64 (outAt kd pe x.o)) ∧ Below w.heap.size w w' := by
  have hl := h.os.big
  have HF : Hid (outAt kd pe (x.o.drop 0) = outAt kd pe x.o) := rfl
  go_enter Try.func94, Try.ntmps94
  go_wp2
  have hb0 := (Below.refl w.heap.size w).alloc (Nat.le_refl _) (.cells #[.slice x.TA x.t.length x.tc, .slice x.OA x.o.length x.oc, .int .i64 x.got, .int .i64 x.sold, .int .i64 x.missed] 25)
  have hS := OffS.of (x := x) (Lies.new w 25 #[.slice x.TA x.t.length x.tc, .slice x.OA x.o.length x.oc, .int .i64 x.got, .int .i64 x.sold, .int .i64 x.missed])
  have hR := h.up hb0 (Nat.le_refl _)
  generalize w.alloc (.cells #[.slice x.TA x.t.length x.tc, .slice x.OA x.o.length x.oc, .int .i64 x.got, .int .i64 x.sold, .int .i64 x.missed] 25) = W at hb0 hS hR ⊢
  have c1 := hS.c1
  have hrd := hR.os.el
  go_loopw [7] (fun i wr => ∃ (k : Nat), k ≤ x.o.length ∧ i = .int .i64 k ∧ (∃ q : Since W.heap.size W, wr = q.val) ∧ Hid (outAt kd pe (x.o.drop k) = outAt kd pe x.o)) (fun i _ => x.o.length - (intOf i).toNat)
  case atStart => exact ⟨0, Nat.zero_le _, rfl, ⟨Since.start _ _, rfl⟩, HF⟩
  case round =>
    obtain ⟨k, hk, rfl, ⟨q, rfl⟩, HR⟩ := hrel
    by_cases hlt : k < x.o.length
    · obtain ⟨b, off, hA, hb, hcell⟩ := hrd (by omega)
      obtain ⟨e0, e1, e2⟩ := hcell k hlt
      have hst := outAt_step (k := kd) (p := pe) hlt
      obtain ⟨r, hre⟩ : ∃ r, r = x.o[k] := ⟨_, rfl⟩
      rw [← hre] at e0 e1 e2 hst
      simp only [hA] at c1
      clear hre hcell hrd hA
      by_cases hz : r.k = kd
      · by_cases hy : r.p = pe
        · have HE : Hid (r.c = outAt kd pe x.o) := by rw [if_pos (isAt_iff.2 ⟨hz, hy⟩)] at hst; rw [← hst]; exact HR.out
          have hv : (r.k == kd) = true := by simp [hz]
          have hu : (r.p == pe) = true := by simp [hy]
          clear hst hz hy
          go_wp2
          go_ret
          exact ⟨by rw [← HE.out]; rfl, hb0.trans (q.below.mono hb0.size)⟩
        · have HE : Hid (outAt kd pe (x.o.drop (k + 1)) = outAt kd pe x.o) := by rw [if_neg (fun hh => hy (isAt_iff.1 hh).2)] at hst; rw [← hst]; exact HR.out
          have hv : (r.k == kd) = true := by simp [hz]
          have hu : (r.p == pe) = false := by simp [hy]
          clear hst hz hy
          go_wp2
          go_roundw
          case rel => exact ⟨k + 1, by omega, by go_num, ⟨q, rfl⟩, HE⟩
          case measure => simp [intOf]; omega
      · have HE : Hid (outAt kd pe (x.o.drop (k + 1)) = outAt kd pe x.o) := by rw [if_neg (fun hh => hz (isAt_iff.1 hh).1)] at hst; rw [← hst]; exact HR.out
        have hv : (r.k == kd) = false := by simp [hz]
        clear hst hz
        go_wp2
        go_roundw
        case rel => exact ⟨k + 1, by omega, by go_num, ⟨q, rfl⟩, HE⟩
        case measure => simp [intOf]; omega
    · have HE : Hid (0 = outAt kd pe x.o) := by
        have h1 := HR.out; rw [List.drop_eq_nil_of_le (by omega)] at h1; exact h1
      go_wp2
      go_ret
      exact ⟨by rw [← HE.out]; rfl, hb0.trans (q.below.mono hb0.size)⟩
end Go.Proofs.Ytdiojhjkcholiaa

/- Offices of a call's own, as values; the reference's helpers on them. -/
namespace Go.Proofs.Ytdiojhjkcholiaa
open Go.RowKit

/-- The value v is an office like y whose rows are the call's own. -/
def OwnV (w : World) (B : Nat) (y : Oc) (v : Value) : Prop :=
  ∃ TA tc OA oc, v = .agg #[.slice TA y.t.length tc, .slice OA y.o.length oc, .int .i64 y.got, .int .i64 y.sold, .int .i64 y.missed] ∧ w.ownsRow B 74 2 (.slice TA y.t.length tc) y.t.length (y.t.flatMap Tray.enc) ∧
    w.ownsRow B 100 3 (.slice OA y.o.length oc) y.o.length (y.o.flatMap Outing.enc)
def GivesV (w : World) (y : Oc) (e : Ending) (w' : World) : Prop := ∃ v, e = .returned v ∧ OwnV w' w.heap.size y v ∧ Below w.heap.size w w'
theorem OwnV.below {w w' : World} {B : Nat} {y : Oc} {v : Value} (h : OwnV w B y v) (hb : Below w.heap.size w w') : OwnV w' B y v := by
  obtain ⟨TA, tc, OA, oc, e, h1, h2⟩ := h
  exact ⟨TA, tc, OA, oc, e, ownsRow_below h1 hb, ownsRow_below h2 hb⟩
theorem OwnV.lower {w : World} {B B' : Nat} {y : Oc} {v : Value} (h : OwnV w B y v) (hB : B' ≤ B) : OwnV w B' y v := by
  obtain ⟨TA, tc, OA, oc, e, h1, h2⟩ := h
  exact ⟨TA, tc, OA, oc, e, ownsRow_lower h1 hB, ownsRow_lower h2 hB⟩
theorem OwnV.as {w : World} {B : Nat} {y : Oc} {v : Value} (h : OwnV w B y v) : ∃ x : Off, v = x.val ∧ x.c = y ∧ OffR w w.heap.size x ∧ x.t.length ≤ x.tc := by
  obtain ⟨TA, tc, OA, oc, e, h1, h2⟩ := h
  exact ⟨y.at TA tc OA oc, e, rfl, ⟨ownsRow_reads h1, ownsRow_reads h2⟩, ownsRow_cap h1⟩
theorem GivesOff.v {w w' : World} {y : Oc} {e : Ending} (h : GivesOff w y e w') : GivesV w y e w' := by
  obtain ⟨TA, tc, OA, oc, he, h1, h2, hb⟩ := h
  exact ⟨_, he, ⟨TA, tc, OA, oc, rfl, h1, h2⟩, hb⟩
/-- Counts and keys of an office are small. -/
structure Small (y : Oc) : Prop where
  tl : y.t.length ≤ 1000000
  ol : y.o.length ≤ 1000000
  tc : ∀ t ∈ y.t, -1000000000 ≤ t.c ∧ t.c ≤ 1000000000
  ok : ∀ o ∈ y.o, (1 ≤ o.k ∧ o.k ≤ 99) ∧ (1 ≤ o.p ∧ o.p ≤ 999)
theorem Good.small {x : Off} (G : Good x) : Small x.c := by
  refine ⟨by have := G.tl; show x.t.length ≤ _; omega, by have := G.ol; show x.o.length ≤ _; omega, fun t ht => ?_, fun o ho => ?_⟩
  · obtain ⟨j, hj, rfl⟩ := List.getElem_of_mem (show t ∈ x.t from ht)
    have := (Tray.bounds (G.tall j hj)).2
    omega
  · obtain ⟨j, hj, rfl⟩ := List.getElem_of_mem (show o ∈ x.o from ho)
    have := Outing.bounds (G.oall j hj)
    exact ⟨hasTray_bounds G.tall this.1, this.2.1⟩
theorem Good.tcs {x : Off} (G : Good x) : ∀ t ∈ x.t, 0 ≤ t.c ∧ t.c ≤ 9999 := fun t ht => by
  obtain ⟨j, hj, rfl⟩ := List.getElem_of_mem ht
  exact (Tray.bounds (G.tall j hj)).2
theorem Good.move_bd {x : Off} (G : Good x) (st pe va : Int) : 0 ≤ outAt st va (atO st pe 0 x.o) ∧ outAt st va (atO st pe 0 x.o) ≤ 9999 := by
  rcases outAt_mem (k := st) (p := va) (atO st pe 0 x.o) with h | ⟨o, ho, _, hc⟩
  · omega
  · obtain ⟨j, hj, e⟩ := List.getElem_of_mem ((atO_zero_sub x.o).subset ho)
    have := (Outing.bounds (G.oall j hj)).2.2
    rw [e] at this; omega
theorem atO_small {k p c : Int} {l : List Outing} (hk : 1 ≤ k ∧ k ≤ 99) (hp : 1 ≤ p ∧ p ≤ 999) (h : ∀ o ∈ l, (1 ≤ o.k ∧ o.k ≤ 99) ∧ (1 ≤ o.p ∧ o.p ≤ 999)) : ∀ o ∈ atO k p c l, (1 ≤ o.k ∧ o.k ≤ 99) ∧ (1 ≤ o.p ∧ o.p ≤ 999) := fun o ho => by
  rcases atO_mem l c o ho with h1 | rfl
  · exact h o h1
  · exact ⟨hk, hp⟩
theorem atO_len {k p : Int} : ∀ (l : List Outing) (c : Int), (atO k p c l).length ≤ l.length + 1
  | [], c => by rw [atO]; split <;> simp
  | o :: l, c => by
    have h0 := atO_len (k := k) (p := p) l c
    have hz : (atO k p 0 l).length ≤ l.length := (atO_zero_sub l).length_le
    rw [atO]
    split
    · split <;> simp <;> omega
    · split <;> simp <;> omega
theorem inTrays_len (ts : List Tray) (kd n : Int) : (inTrays ts kd n).length ≤ ts.length + 1 := by
  have := posT_le ts kd
  unfold inTrays; split
  · simp
  · simp; omega
theorem Small.at {y : Oc} (h : Small y) {k p c : Int} (hk : 1 ≤ k ∧ k ≤ 99) (hp : 1 ≤ p ∧ p ≤ 999) (hl : y.o.length ≤ 100) : Small ⟨y.t, atO k p c y.o, y.got, y.sold, y.missed⟩ :=
  ⟨h.tl, by have := atO_len (k := k) (p := p) y.o c; show (atO k p c y.o).length ≤ _; omega, h.tc, atO_small hk hp h.ok⟩
theorem inTrays_small {ts : List Tray} {kd n : Int} (hn : -1000000 ≤ n ∧ n ≤ 1000000) (h : ∀ t ∈ ts, -1000000 ≤ t.c ∧ t.c ≤ 1000000) : ∀ t ∈ inTrays ts kd n, -1000000000 ≤ t.c ∧ t.c ≤ 1000000000 := by
  intro t ht
  unfold inTrays at ht
  split at ht
  · rename_i hx
    rcases List.mem_or_eq_of_mem_set ht with h1 | rfl
    · have := h t h1; omega
    · have hl := trayIx_lt hx
      have : ts.getD (trayIx ts kd).toNat default ∈ ts := by
        rw [List.getD_eq_getElem?_getD, List.getElem?_eq_getElem hl]; exact List.getElem_mem hl
      have := h _ this
      simp only; omega
  · rcases List.mem_append.1 ht with h1 | h1
    · have := h t (List.mem_of_mem_take h1); omega
    · rcases List.mem_cons.1 h1 with rfl | h1
      · simp only; omega
      · have := h t (List.mem_of_mem_drop h1); omega

/-- The reference's helpers, where an office is given that reads. -/
theorem inX (x : Off) (kd n : Int) (w : World) (h : OffR w w.heap.size x) (S : Small x.c) (hn : -1000000000 ≤ n ∧ n ≤ 1000000000) (hcap : x.t.length ≤ x.tc) :
    Calls Try.prog 72 #[x.val, .int .i64 kd, .int .i64 n] w (GivesV w ⟨inTrays x.t kd n, x.o, x.got, x.sold, x.missed⟩) := by
  have hb : ∀ i (hi : i < x.t.length), -1000000000 ≤ x.t[i].c ∧ x.t[i].c ≤ 1000000000 := fun i hi => S.tc _ (List.getElem_mem hi)
  by_cases hx : 0 ≤ trayIx x.t kd
  · exact (l32In_old x kd n w h S.tl S.ol hb hn hx).mono fun _ _ h => h.v
  · exact (l32In_new x kd n w h S.tl S.ol hb hn hx hcap).mono fun _ _ h => h.v
theorem atX (x : Off) (kd pe c : Int) (w : World) (h : OffR w w.heap.size x) (S : Small x.c) (hkd : 1 ≤ kd ∧ kd ≤ 99) (hpe : 1 ≤ pe ∧ pe ≤ 999) :
    Calls Try.prog 95 #[x.val, .int .i64 kd, .int .i64 pe, .int .i64 c] w (GivesV w ⟨x.t, atO kd pe c x.o, x.got, x.sold, x.missed⟩) :=
  (l32At_any x kd pe c w h S.tl S.ol hkd hpe (fun i hi => S.ok _ (List.getElem_mem hi))).mono fun _ _ h => h.v
/-- .. where an office of the call's own is given. -/
theorem atV {B : Nat} {y : Oc} {v : Value} {w : World} (kd pe c : Int) (h : OwnV w B y v) (S : Small y) (hkd : 1 ≤ kd ∧ kd ≤ 99) (hpe : 1 ≤ pe ∧ pe ≤ 999) :
    Calls Try.prog 95 #[v, .int .i64 kd, .int .i64 pe, .int .i64 c] w (GivesV w ⟨y.t, atO kd pe c y.o, y.got, y.sold, y.missed⟩) := by
  obtain ⟨x, rfl, rfl, hr, _⟩ := h.as
  exact atX x kd pe c w hr S hkd hpe
theorem outV {B : Nat} {y : Oc} {v : Value} {w : World} (kd pe : Int) (h : OwnV w B y v) :
    Calls Try.prog 94 #[v, .int .i64 kd, .int .i64 pe] w fun e w' => e = .returned (.int .i64 (outAt kd pe y.o)) ∧ Below w.heap.size w w' := by
  obtain ⟨x, rfl, rfl, hr, _⟩ := h.as
  exact l32Out_any x kd pe w hr
theorem goodV {B : Nat} {y : Oc} {v : Value} {w : World} (h : OwnV w B y v) :
    Calls Try.prog 40 #[v] w fun e w' => e = .returned (.bool y.good) ∧ Below w.heap.size w w' := by
  obtain ⟨x, rfl, rfl, hr, _⟩ := h.as
  exact l32Good_any x w hr
/-- An office stands in a variable. -/
def OffIn (w : World) (B g : Nat) (y : Oc) : Prop := ∃ TA tc OA oc, OffOwn w B g (.slice TA y.t.length tc) (.slice OA y.o.length oc) y
theorem OffIn.then {w w' : World} {B g : Nat} {y : Oc} (h : OffIn w B g y) (hb : Below w.heap.size w w') : OffIn w' B g y := by
  obtain ⟨TA, tc, OA, oc, h⟩ := h; exact ⟨TA, tc, OA, oc, h.then hb⟩
/-- It is stored into a variable that stands. -/
theorem OwnV.store {w : World} {B g : Nat} {y : Oc} {TA OA : Option Addr} {tc oc : Nat} {a b c d e : Value} (h1 : w.ownsRow B 74 2 (.slice TA y.t.length tc) y.t.length (y.t.flatMap Tray.enc)) (h2 : w.ownsRow B 100 3 (.slice OA y.o.length oc) y.o.length (y.o.flatMap Outing.enc))
    (hL : Lies w g 25 [a, b, c, d, e]) (hB : B ≤ g) : OffIn (stOff w g (.slice TA y.t.length tc) (.slice OA y.o.length oc) (.int .i64 y.got) (.int .i64 y.sold) (.int .i64 y.missed)) B g y :=
  ⟨TA, tc, OA, oc, stOff_is hL, hB, stOff_row hL h1 ne_owt, stOff_row hL h2 ne_owo⟩
/-- The result of a made step, and whether it is possible. -/
theorem GivesMk.of {w w' : World} {R : Oc × Bool} {e : Ending} {TA OA : Option Addr} {tc oc : Nat} (he : e = .returned (.tuple #[.agg #[.slice TA R.1.t.length tc, .slice OA R.1.o.length oc, .int .i64 R.1.got, .int .i64 R.1.sold, .int .i64 R.1.missed], .bool R.2])) {g : Nat}
    (h : OffOwn w' w.heap.size g (.slice TA R.1.t.length tc) (.slice OA R.1.o.length oc) R.1) (hb : Below w.heap.size w w') : GivesMk w R e w' := ⟨TA, tc, OA, oc, he, h.t, h.o, hb⟩
/-- A block that stands, whether the store into another one has been or not. -/
theorem Sw.lies {s g gr : Nat} {t : TypeId} {cs : List Value} {W1 w : World} {C1 : World → Prop} {L : Nat → Bool} (h : Sw s (fun W9 => Below W1.heap.size W1 W9) C1 L w)
    (hC1 : ∀ W, C1 W → ∃ W8 v0 v1 v2 v3 v4, Below W1.heap.size W1 W8 ∧ W = stOff W8 gr v0 v1 v2 v3 v4) (hL : Lies W1 g t cs) (hne : g ≠ gr) : Lies w g t cs := by
  unfold Sw at h
  split at h
  · obtain ⟨W8, v0, v1, v2, v3, v4, hb, rfl⟩ := hC1 _ h
    exact stOff_other (hL.below hb hL.lt) hne
  · exact hL.below h hL.lt
end Go.Proofs.Ytdiojhjkcholiaa

/- Laws over an office with scalar results: the walks. (Printed by lawgen_off.py) -/
namespace Go.Proofs.Ytdiojhjkcholiaa
open Go.RowKit

/-- A copy's office. -/
abbrev Off.copy (x : Off) (g1 g2 : Nat) : Off := { x with TA := some ⟨g1, 0, none⟩, tc := x.t.length, OA := some ⟨g2, 0, none⟩, oc := x.o.length }
theorem copy_reads {x : Off} {w : World} {g1 g2 : Nat} (h1 : Lies w g1 74 (x.t.flatMap Tray.enc)) (h2 : Lies w g2 100 (x.o.flatMap Outing.enc)) (hn : x.t.length ≤ 1048576) (hm : x.o.length ≤ 1048576) : OffR w w.heap.size (x.copy g1 g2) :=
  ⟨lies_trays h1 (show x.t.length ≤ 9223372036854775807 by omega), lies_outings h2 (show x.o.length ≤ 9223372036854775807 by omega)⟩

end Go.Proofs.Ytdiojhjkcholiaa

/- Marks on a copy of an office. -/
namespace Go.Proofs.Ytdiojhjkcholiaa
open Go.RowKit

set_option maxHeartbeats 1000000 in
theorem markOffice_any (x : Off) (g1 g2 lo hi : Nat) (w : World) (hn : x.t.length ≤ 1048576) (hm : x.o.length ≤ 1048576) (l1 : lo ≤ g1) (l2 : g1 < g2) (l3 : g2 < hi) (l4 : hi ≤ w.heap.size)
    (h1 : Lies w g1 74 (x.t.flatMap Tray.enc)) (h2 : Lies w g2 100 (x.o.flatMap Outing.enc)) :
    Calls Try.prog 18 #[(x.copy g1 g2).val, .int .i64 1] w fun e w' => (∃ k1 : Int, e = .returned (.int .i64 k1) ∧ 0 ≤ k1) ∧ Mid lo hi w w' := by
  have b0 : Mid lo hi w (w.alloc (.cells #[.slice (some ⟨g1, 0, none⟩) x.t.length x.t.length, .slice (some ⟨g2, 0, none⟩) x.o.length x.o.length, .int .i64 x.got, .int .i64 x.sold, .int .i64 x.missed] 25)) :=
    ⟨rfl, rfl, rfl, by simp, fun k hk _ => Below.heap_alloc w _ k hk⟩
  have L0 := Lies.new w 25 #[.slice (some ⟨g1, 0, none⟩) x.t.length x.t.length, .slice (some ⟨g2, 0, none⟩) x.o.length x.o.length, .int .i64 x.got, .int .i64 x.sold, .int .i64 x.missed]
  have k1 := h1.alloc (.cells #[.slice (some ⟨g1, 0, none⟩) x.t.length x.t.length, .slice (some ⟨g2, 0, none⟩) x.o.length x.o.length, .int .i64 x.got, .int .i64 x.sold, .int .i64 x.missed] 25)
  have k2 := h2.alloc (.cells #[.slice (some ⟨g1, 0, none⟩) x.t.length x.t.length, .slice (some ⟨g2, 0, none⟩) x.o.length x.o.length, .int .i64 x.got, .int .i64 x.sold, .int .i64 x.missed] 25)
  go_enter Try.func18, Try.ntmps18
  go_wp2_with fail
  generalize w.alloc (.cells #[.slice (some ⟨g1, 0, none⟩) x.t.length x.t.length, .slice (some ⟨g2, 0, none⟩) x.o.length x.o.length, .int .i64 x.got, .int .i64 x.sold, .int .i64 x.missed] 25) = W at b0 L0 k1 k2 ⊢
  refine (markTrays_any (some ⟨g1, 0, none⟩) x.t.length x.t.length lo 1 (x.t.flatMap Tray.enc) W (by omega) (by omega) (by omega) ⟨flat_len Tray.enc 2 Tray.enc_len x.t, by omega, .inr ⟨g1, [], rfl, l1, by simpa using k1⟩⟩).mono ?_
  rintro e w1 ⟨rfl, o1, gr0⟩
  have gr1 : W.grownBy w1 (some g1) := gr0
  clear gr0 o1
  have m1 := b0.trans (Mid.of gr1 (by rintro _ ⟨⟩; exact ⟨l1, by omega⟩))
  have L1 := L0.kept gr1 (by intro e; injection e; omega)
  have j2 := k2.kept gr1 (by intro e; injection e; omega)
  have c1 := L1.cell 1
  simp only [List.getElem?_cons_zero, List.getElem?_cons_succ] at c1
  go_wp2_with fail
  refine (markOutings_any (some ⟨g2, 0, none⟩) x.o.length x.o.length lo _ (x.o.flatMap Outing.enc) w1 (by omega) (by omega) (by omega) ⟨flat_len Outing.enc 3 Outing.enc_len x.o, by omega, .inr ⟨g2, [], rfl, by omega, by simpa using j2⟩⟩).mono ?_
  rintro e w2 ⟨rfl, o2, gr0⟩
  have gr2 : w1.grownBy w2 (some g2) := gr0
  clear gr0 o2
  have m2 := m1.trans (Mid.of gr2 (by rintro _ ⟨⟩; exact ⟨by omega, l3⟩))
  go_wp2
  go_ret
  exact ⟨⟨_, rfl, by omega⟩, m2⟩
end Go.Proofs.Ytdiojhjkcholiaa

/- What the laws of an office's steps lean on: arguments and results as values. -/
namespace Go.Proofs.Ytdiojhjkcholiaa
open Go.RowKit

/-- The value v is an office like y that reads. -/
def InV (w : World) (y : Oc) (v : Value) : Prop := ∃ X : Off, v = X.val ∧ X.c = y ∧ OffR w w.heap.size X ∧ X.t.length ≤ X.tc
theorem InV.below {w w' : World} {y : Oc} {v : Value} (h : InV w y v) (hb : Below w.heap.size w w') : InV w' y v := by
  obtain ⟨X, h1, h2, h3, h4⟩ := h; exact ⟨X, h1, h2, h3.then hb, h4⟩
/-- A call gives an office of its own and whether there is one. -/
def GivesR (w : World) (y : Oc) (b : Bool) (e : Ending) (w' : World) : Prop := ∃ v, e = .returned (.tuple #[v, .bool b]) ∧ OwnV w' w.heap.size y v ∧ Below w.heap.size w w'
theorem GivesStep.r {w w' : World} {D : Option Oc} {e : Ending} (h : GivesStep w D e w') : GivesR w (resOf D) D.isSome e w' := by
  obtain ⟨TA, tc, OA, oc, he, h1, h2, hb⟩ := h
  exact ⟨_, he, ⟨TA, tc, OA, oc, rfl, h1, h2⟩, hb⟩
theorem InV.copy {x : Off} {w : World} {g1 g2 : Nat} (h1 : Lies w g1 74 (x.t.flatMap Tray.enc)) (h2 : Lies w g2 100 (x.o.flatMap Outing.enc)) (hn : x.t.length ≤ 1048576) (hm : x.o.length ≤ 1048576) : InV w x.c (x.copy g1 g2).val :=
  ⟨x.copy g1 g2, rfl, rfl, copy_reads h1 h2 hn hm, Nat.le_refl _⟩
theorem toOfficeV (x : Off) (w : World) (h : OffR w w.heap.size x) (hn : x.t.length ≤ 1048576) (hm : x.o.length ≤ 1048576) :
    Calls Try.prog 14 #[x.val] w fun e w' => ∃ v, e = .returned v ∧ InV w' x.c v ∧ Below w.heap.size w w' :=
  (toOffice_any x w h hn hm).mono fun _ _ ⟨g1, g2, he, _, _, h1, h2, hb⟩ => ⟨_, he, InV.copy h1 h2 hn hm, hb⟩
theorem eqOfficeR (x x' : Off) (w : World) (h : OffR w w.heap.size x) (h' : OffR w w.heap.size x') (hc : x.c = x'.c) :
    Calls Try.prog 17 #[x.val, x'.val] w fun e w' => e = .returned (.bool true) ∧ Below w.heap.size w w' := by
  have e := hc
  simp only [Off.c, Oc.mk.injEq] at e
  obtain ⟨e1, e2, e3, e4, e5⟩ := e
  exact eqOffice_yes x x' w h h' (decide_eq_true e1) (decide_eq_true e2) e3 e4 e5
theorem eqOfficeV {y : Oc} {v v' : Value} {w : World} (h : InV w y v) (h' : InV w y v') :
    Calls Try.prog 17 #[v, v'] w fun e w' => e = .returned (.bool true) ∧ Below w.heap.size w w' := by
  obtain ⟨X, rfl, h1, h2, _⟩ := h
  obtain ⟨X', rfl, h1', h2', _⟩ := h'
  exact eqOfficeR X X' w h2 h2' (h1.trans h1'.symm)
/-- Two offices of contents y, given as values. -/
theorem eqOwn {y : Oc} {TA OA TA' OA' : Option Addr} {tc oc tc' oc' : Nat} {w : World} (h : OffR w w.heap.size (y.at TA tc OA oc)) (h' : OffR w w.heap.size (y.at TA' tc' OA' oc')) :
    Calls Try.prog 17 #[.agg #[.slice TA y.t.length tc, .slice OA y.o.length oc, .int .i64 y.got, .int .i64 y.sold, .int .i64 y.missed], .agg #[.slice TA' y.t.length tc', .slice OA' y.o.length oc', .int .i64 y.got, .int .i64 y.sold, .int .i64 y.missed]] w
      fun e w' => e = .returned (.bool true) ∧ Below w.heap.size w w' := eqOfficeR (y.at TA tc OA oc) (y.at TA' tc' OA' oc') w h h' rfl
theorem offR_own {w : World} {y : Oc} {TA OA : Option Addr} {tc oc B B' : Nat} {t t' : TypeId} (h1 : OwnS w B t 2 TA y.t.length (y.t.flatMap Tray.enc)) (h2 : OwnS w B' t' 3 OA y.o.length (y.o.flatMap Outing.enc)) : OffR w w.heap.size (y.at TA tc OA oc) := ⟨h1.reads, h2.reads⟩
theorem offR_row {w : World} {y : Oc} {TA OA : Option Addr} {tc oc B B' tc' oc' : Nat} {t t' : TypeId} (h1 : w.ownsRow B t 2 (.slice TA y.t.length tc) y.t.length (y.t.flatMap Tray.enc)) (h2 : w.ownsRow B' t' 3 (.slice OA y.o.length oc) y.o.length (y.o.flatMap Outing.enc)) : OffR w w.heap.size (y.at TA tc' OA oc') := ⟨ownsRow_reads h1, ownsRow_reads h2⟩
end Go.Proofs.Ytdiojhjkcholiaa

/- Steps of an office in the laws: copy, size, likeness, marks. (Printed by gen_struct.py Stp OfficeStep kind,stamp,person,value, without the struct itself, which XStepP has) -/
namespace Go.Proofs.Ytdiojhjkcholiaa
open Go.RowKit

theorem Stp.of_ints_enc (ns : List Int) (h : ns.length = 4) : ∃ r : Stp, ns.map (Value.int .i64) = r.enc := by
  match ns, h with
  | [v0, v1, v2, v3], _ => exact ⟨⟨v0, v1, v2, v3⟩, rfl⟩
theorem Stp.of_ints (ns : List Int) (h : ns.length = 4) : ∃ r : Stp, Value.agg (ns.map (Value.int .i64)).toArray = r.val := by
  match ns, h with
  | [v0, v1, v2, v3], _ => exact ⟨⟨v0, v1, v2, v3⟩, rfl⟩
/-- It lies at a place, in every world since. -/
structure StpS (B : Nat) (w : World) (b o : Nat) (r : Stp) : Prop where
  c0 : ∀ p : Since B w, p.val.cell? ⟨b, o, none⟩ = some (.int .i64 r.kind)
  c1 : ∀ p : Since B w, p.val.cell? ⟨b, o + 1, none⟩ = some (.int .i64 r.stamp)
  c2 : ∀ p : Since B w, p.val.cell? ⟨b, o + 2, none⟩ = some (.int .i64 r.person)
  c3 : ∀ p : Since B w, p.val.cell? ⟨b, o + 3, none⟩ = some (.int .i64 r.value)
theorem StpS.up {B B' : Nat} {w W : World} {b o : Nat} {r : Stp} (h : StpS B w b o r) (hb : Below B w W) (hB : B ≤ B') : StpS B' W b o r :=
  ⟨fun p => h.c0 ⟨p.val, hb.trans (p.below.mono hB)⟩, fun p => h.c1 ⟨p.val, hb.trans (p.below.mono hB)⟩, fun p => h.c2 ⟨p.val, hb.trans (p.below.mono hB)⟩, fun p => h.c3 ⟨p.val, hb.trans (p.below.mono hB)⟩⟩
theorem StpS.of {W : World} {g : Nat} {t : TypeId} {r : Stp} (h : Lies W g t r.enc) : StpS W.heap.size W g 0 r :=
  ⟨fun p => (p.cell h.lt).trans (h.cell 0), fun p => (p.cell h.lt).trans (h.cell 1), fun p => (p.cell h.lt).trans (h.cell 2), fun p => (p.cell h.lt).trans (h.cell 3)⟩
/-- A slice of them. -/
abbrev StpsR (w : World) (B : Nat) (A : Option Addr) (l : List Stp) : Prop := SlcR w B 4 A l.length (l.flatMap Stp.enc)
theorem StpsR.el {w : World} {B : Nat} {A : Option Addr} {l : List Stp} (h : StpsR w B A l) (hne : 0 < l.length) : ∃ b off, A = some ⟨b, off, none⟩ ∧ b < B ∧ ∀ i (hi : i < l.length), StpS B w b (off + i * 4) l[i] := by
  obtain ⟨b, off, e, hb, hc⟩ := h.at_ hne
  refine ⟨b, off, e, hb, fun i hi => ?_⟩
  have key : ∀ j, j < 4 → ∀ u, (l[i].enc)[j]? = some u → ∀ p : Since B w, p.val.cell? ⟨b, off + i * 4 + j, none⟩ = some u := fun j hj u hu p => by
    rw [p.cell hb, Nat.add_assoc]
    exact hc _ u (by rw [flat_at Stp.enc 4 Stp.enc_len l i hi j hj]; exact hu)
  exact ⟨key 0 (by omega) _ rfl, key 1 (by omega) _ rfl, key 2 (by omega) _ rfl, key 3 (by omega) _ rfl⟩
theorem lies_stps {W : World} {g : Nat} {t : TypeId} {l : List Stp} (h : Lies W g t (l.flatMap Stp.enc)) (hn : l.length ≤ 9223372036854775807) : StpsR W W.heap.size (some ⟨g, 0, none⟩) l :=
  Lies.reads h (flat_len Stp.enc 4 Stp.enc_len l) hn
theorem infoStp : (Try.prog.info? 45).map (fun i => (i.zero, i.size, i.bytes)) = some (some (.agg #[.int .i64 0, .int .i64 0, .int .i64 0, .int .i64 0]), 4, 32) := by kernel_rfl

theorem toStp_any (r : Stp) (w : World) : Calls Try.prog 15 #[r.val] w fun e w' => e = .returned r.val ∧ Below w.heap.size w w' := by
  go_enter Try.func15, Try.ntmps15
  go_wp2
  refine bodyPost_ret (v := r.val) (by simp [results, Try.results15, go_sem]) rfl ⟨rfl, ?_⟩
  go_grown
theorem eqStp_any (r r' : Stp) (w : World) : Calls Try.prog 56 #[r.val, r'.val] w fun e w' => e = .returned (.bool (decide (r = r'))) ∧ Below w.heap.size w w' := by
  obtain ⟨v0, v1, v2, v3⟩ := r
  obtain ⟨u0, u1, u2, u3⟩ := r'
  go_enter Try.func56, Try.ntmps56
  go_wp2
  all_goals (go_ret; refine ⟨by simp_all, ?_⟩; go_grown)

theorem szStps_any (A : Option Addr) (n c : Nat) (k : Int) (w : World) (hn : n ≤ 9223372036854775807) (_hk : 0 ≤ k) (_hk' : k ≤ 1048576) :
    Calls Try.prog 20 #[.slice A n c, .int .i64 k] w fun e w' => e = .returned (.int .i64 (lessen k n)) ∧ w = w' := by
  go_enter Try.func20, Try.ntmps20
  go_wp2
  all_goals (go_ret; refine ⟨?_, rfl⟩; unfold lessen; first | (rw [if_neg (by omega)]; rfl) | (rw [if_pos (by omega)]; rfl))

set_option maxHeartbeats 1000000 in
theorem toStps_any (A : Option Addr) (c : Nat) (l : List Stp) (w : World) (h : StpsR w w.heap.size A l) (hn : l.length ≤ 1048576) :
    Calls Try.prog 22 #[.slice A l.length c] w fun e w' => ∃ g, e = .returned (.slice (some ⟨g, 0, none⟩) l.length l.length) ∧ w.heap.size ≤ g ∧ Lies w' g 45 (l.flatMap Stp.enc) ∧ Below w.heap.size w w' := by
  have hmk := fun W => run_make_all (P := Try.prog) 54 45 _ 4 32 Try.underlying54 infoStp l.length (by omega) (by omega) W
  have hrd := h.el
  go_enter Try.func22, Try.ntmps22
  go_wp2
  go_loopw [4] (fun i wr => ∃ (k : Nat) (rest : List Value), k ≤ l.length ∧ i = .int .i64 k ∧ Below w.heap.size w wr ∧ Lies wr w.heap.size 45 ((l.take k).flatMap Stp.enc ++ rest) ∧ rest.length = (l.length - k) * 4) (fun i _ => l.length - (intOf i).toNat)
  case atStart =>
    refine ⟨0, _, Nat.zero_le _, rfl, (Below.refl _ _).alloc (Nat.le_refl _) _, by simpa using Lies.new w _ _, by simp [size_madeCells]⟩
  case round =>
    obtain ⟨k, rest, hk, rfl, hbel, hl, hlen⟩ := hrel
    by_cases hlt : k < l.length
    · obtain ⟨b, off, rfl, hb, hcell⟩ := hrd (by omega)
      have HL := Lib.hid hl; clear hl
      have HN := Lib.hid hlen; clear hlen
      obtain ⟨x, hxe⟩ : ∃ x, x = l[k] := ⟨_, rfl⟩
      obtain ⟨c0, c1, c2, c3⟩ := hcell k hlt
      obtain ⟨q, rfl⟩ : ∃ q : Since w.heap.size w, wr = q.val := ⟨⟨wr, hbel⟩, rfl⟩
      rw [← hxe] at c0 c1 c2 c3
      have HX := Lib.hid hxe; clear hxe
      clear hcell hrd hbel
      go_wp2_with (first
        | (go_at_call 15; refine (toStp_any x _).mono ?_; rintro e w1 ⟨rfl, hb1⟩)
        | (with_reducible refine wpList_store_next (op := ⟨none, .store 45 (.tmp 21) (.tmp 20), _, _, _, _⟩) rfl _ _ _ rfl Stp.enc 4 Stp.enc_len l k hlt rest HN w.heap.size 45 x.enc.toArray ?c1 ?c2 ?c3 ?c4 ?c5 ?c6 ?_; rotate_right; intro w2 old2 hl2 hn2 hg2))
      case c1 => rfl
      case c2 => rfl
      case c3 => rw [HX.out]; rfl
      case c4 => kernel_rfl
      case c5 => simp [Stp.enc, Value.oneCell']
      case c6 => exact HL.out.below hb1 HL.out.lt
      go_wp2
      go_roundw
      case rel => exact ⟨k + 1, old2, by omega, by go_num, (q.below.trans (hb1.mono q.size)).grown hg2 (Nat.le_trans q.size hb1.size) (by rintro _ ⟨⟩; exact Nat.le_refl _), hl2, hn2⟩
      case measure => simp [intOf]; omega
    · have hk' : k = l.length := by omega
      subst hk'
      go_wp2
      go_ret
      refine ⟨w.heap.size, rfl, Nat.le_refl _, ?_, hbel⟩
      have h0 : rest = [] := List.eq_nil_of_length_eq_zero (by omega)
      rw [h0, List.take_of_length_le (Nat.le_refl _), List.append_nil] at hl
      exact hl

def sameStps (a b : List Stp) : Bool := decide (a = b)
def sameStpFrom : List Stp → List Stp → Bool
  | [], [] => true
  | x :: a, y :: b => decide (x = y) && sameStpFrom a b
  | _, _ => false
theorem sameStpFrom_eq : ∀ a b : List Stp, sameStpFrom a b = sameStps a b
  | [], [] => by simp [sameStpFrom, sameStps]
  | [], _ :: _ => by simp [sameStpFrom, sameStps]
  | _ :: _, [] => by simp [sameStpFrom, sameStps]
  | x :: a, y :: b => by simp [sameStpFrom, sameStps, sameStpFrom_eq a b, Bool.decide_and]

set_option maxHeartbeats 1000000 in
theorem eqStps_any (A B : Option Addr) (c d : Nat) (l m : List Stp) (w : World) (hA : StpsR w w.heap.size A l) (hB : StpsR w w.heap.size B m) :
    Calls Try.prog 24 #[.slice A l.length c, .slice B m.length d] w fun e w' => e = .returned (.bool (sameStps l m)) ∧ Below w.heap.size w w' := by
  have hlA := hA.big
  have hlB := hB.big
  have hrA := hA.el
  have hrB := hB.el
  by_cases hne : l.length = m.length
  · have hF : Hid (sameStpFrom l m = sameStps l m) := sameStpFrom_eq l m
    have hbn : ((l.length : Int) != (m.length : Int)) = false := by simp [hne]
    have HE := Lib.hid hne; clear hne
    go_enter Try.func24, Try.ntmps24
    go_wp2
    go_loopw [5] (fun i wr => ∃ k : Nat, k ≤ l.length ∧ i = .int .i64 k ∧ (∃ q : Since w.heap.size w, wr = q.val) ∧ Hid (sameStpFrom (l.drop k) (m.drop k) = sameStps l m)) (fun i _ => l.length - (intOf i).toNat)
    case atStart => exact ⟨0, Nat.zero_le _, rfl, ⟨Since.start _ _, rfl⟩, hF⟩
    case round =>
      obtain ⟨k, hk, rfl, ⟨q, rfl⟩, HR⟩ := hrel
      by_cases hlt : k < l.length
      · have hlt' : k < m.length := by have := HE.out; omega
        obtain ⟨b, off, rfl, hb, hcell⟩ := hrA (by omega)
        obtain ⟨b', off', rfl, hb', hcell'⟩ := hrB (by omega)
        obtain ⟨c0, c1, c2, c3⟩ := hcell k hlt
        obtain ⟨d0, d1, d2, d3⟩ := hcell' k hlt'
        obtain ⟨x, hxe⟩ : ∃ x, x = l[k] := ⟨_, rfl⟩
        obtain ⟨y, hye⟩ : ∃ x, x = m[k] := ⟨_, rfl⟩
        rw [← hxe] at c0 c1 c2 c3
        rw [← hye] at d0 d1 d2 d3
        have HX := Lib.hid hxe; clear hxe
        have HY := Lib.hid hye; clear hye
        clear hcell hcell' hrA hrB
        have hstep : Hid (sameStpFrom (l.drop k) (m.drop k) = (decide (x = y) && sameStpFrom (l.drop (k + 1)) (m.drop (k + 1)))) := by
          rw [List.drop_eq_getElem_cons hlt, List.drop_eq_getElem_cons hlt', HX.out, HY.out]; rfl
        obtain ⟨v, hv⟩ : ∃ v, decide (x = y) = v := ⟨_, rfl⟩
        have HV := Lib.hid hv; clear hv
        cases v
        all_goals
          go_wp2
          refine wp_region_since _ (by kernel_rfl) (by kernel_rfl) ?_
          repeat (any_goals (first | go_big_quiet_step ((go_at_call 56; refine calls_sinceB HV (Nat.le_refl _) (eqStp_any x y _))) | (refine wpQuiet_step (fun K hK => ?_); go_simp; split <;> (refine hK _ ?_; clear hK K))))
          all_goals (refine wpQuiet_nil ?_; rintro _ ⟨q1, rfl⟩)
          all_goals go_wp2
        · go_ret
          refine ⟨?_, q1.below⟩
          rw [← HR.out, hstep.out, HV.out]; rfl
        · go_roundw
          case rel => exact ⟨k + 1, by omega, by go_num, ⟨q1, rfl⟩, by have h1 := HR.out; rw [hstep.out, HV.out] at h1; exact h1⟩
          case measure => simp [intOf]; omega
      · have hk' : k = l.length := by omega
        go_wp2
        go_ret
        refine ⟨?_, q.below⟩
        rw [← HR.out, List.drop_eq_nil_of_le (by omega), List.drop_eq_nil_of_le (by have := HE.out; omega)]; rfl
  · have hbn : ((l.length : Int) != (m.length : Int)) = true := by rw [bne_iff_ne]; omega
    have hF : Hid (sameStps l m = false) := by
      unfold sameStps; rw [decide_eq_false_iff_not]; intro h; exact hne (by rw [h])
    go_enter Try.func24, Try.ntmps24
    go_wp2
    go_ret
    exact ⟨by rw [hF.out]; rfl, Below.refl _ _⟩

set_option maxHeartbeats 1000000 in
theorem markStps_any (A : Option Addr) (c n B : Nat) (k0 : Int) (cs : List Value) (w : World) (hk : -1000000000 ≤ k0) (hk' : k0 ≤ 1000000000) (hn : n ≤ 100000000) (h : OwnS w B 45 4 A n cs) :
    Calls Try.prog 25 #[.slice A n c, .int .i64 k0] w fun e w' => e = .returned (.int .i64 (k0 + 4 * n)) ∧ OwnS w' B 45 4 A n (encIs (ramp k0 (n * 4))) ∧ w.grownBy w' (A.map (·.block)) := by
  obtain ⟨hl, hn', h0 | ⟨g, rest, rfl, hg, hh⟩⟩ := h
  · obtain ⟨rfl, rfl⟩ := h0
    go_enter Try.func25, Try.ntmps25
    go_wp2
    refine wp_loop_rounds 1 ?_
    rw [rounds_succ]
    go_wp2
    go_ret
    exact ⟨by simp, ⟨by simp [ramp], by omega, .inl ⟨rfl, rfl⟩⟩, World.grownBy.refl w _⟩
  · have HF : Hid (Lies w g 45 (encIs (ramp k0 (0 * 4)) ++ (cs ++ rest)) ∧ n * 4 ≤ (cs ++ rest).length) := ⟨by simpa [ramp] using hh, by simp; omega⟩
    clear hh hl
    go_enter Try.func25, Try.ntmps25
    go_wp2
    go_loopw [1, 5] (fun kk i wr => ∃ (j : Nat) (more : List Value), j ≤ n ∧ i = .int .i64 j ∧ kk = .int .i64 (k0 + 4 * j) ∧ Hid (Lies wr g 45 (encIs (ramp k0 (j * 4)) ++ more) ∧ n * 4 ≤ j * 4 + more.length) ∧ w.grownBy wr (some g)) (fun _ i _ => n - (intOf i).toNat)
    case atStart => exact ⟨0, cs ++ rest, Nat.zero_le _, rfl, congrArg _ (by simp), ⟨HF.out.1, by have := HF.out.2; omega⟩, World.grownBy.refl w _⟩
    case round =>
      obtain ⟨j, more, hj, rfl, rfl, HR, hgr⟩ := hrel
      by_cases hlt : j < n
      · obtain ⟨u0, u1, u2, u3, more', rfl⟩ : ∃ u0 u1 u2 u3 more', more = u0 :: u1 :: u2 :: u3 :: more' := by
          have h2 := HR.out.2
          have hle : 4 ≤ more.length := by omega
          clear HR HF
          exact split_4 hle
        have HE : Hid ((encIs (ramp k0 (j * 4))).length = j * 4) := by unfold Hid encIs; rw [List.length_map, ramp_len]
        have c0 : wr.cell? ⟨g, j * 4, none⟩ = some u0 := (HR.out.1.cell _).trans (at_behind HE.out 0)
        have f0 : wr.frozen? ⟨g, j * 4, none⟩ = false := HR.out.1.frozen _
        have c1 : wr.cell? ⟨g, j * 4 + 1, none⟩ = some u1 := (HR.out.1.cell _).trans (at_behind HE.out 1)
        have f1 : wr.frozen? ⟨g, j * 4 + 1, none⟩ = false := HR.out.1.frozen _
        have c2 : wr.cell? ⟨g, j * 4 + 2, none⟩ = some u2 := (HR.out.1.cell _).trans (at_behind HE.out 2)
        have f2 : wr.frozen? ⟨g, j * 4 + 2, none⟩ = false := HR.out.1.frozen _
        have c3 : wr.cell? ⟨g, j * 4 + 3, none⟩ = some u3 := (HR.out.1.cell _).trans (at_behind HE.out 3)
        have f3 : wr.frozen? ⟨g, j * 4 + 3, none⟩ = false := HR.out.1.frozen _
        go_wp2
        go_roundw
        case rel =>
          refine ⟨j + 1, more', by omega, by go_num, congrArg _ (by omega), ⟨?_, by have := HR.out.2; simp only [List.length_cons] at this; omega⟩, grown_set (grown_set (grown_set (grown_set (hgr))))⟩
          have h1 := HR.out.1
          have h1 := h1.set (j * 4) (.int .i64 (k0 + 4 * (j : Int)))
          have e0 := fun r u => set_behind (r := r) HE.out 0 (u : Value)
          rw [Nat.add_zero] at e0
          rw [e0] at h1
          have h1 := h1.set (j * 4 + 1) (.int .i64 (k0 + 4 * (j : Int) + 1))
          rw [set_behind HE.out 1] at h1
          have h1 := h1.set (j * 4 + 2) (.int .i64 (k0 + 4 * (j : Int) + 1 + 1))
          rw [set_behind HE.out 2] at h1
          have h1 := h1.set (j * 4 + 3) (.int .i64 (k0 + 4 * (j : Int) + 1 + 1 + 1))
          rw [set_behind HE.out 3] at h1
          have e : ramp k0 ((j + 1) * 4) = ramp k0 (j * 4) ++ [k0 + 4 * (j : Int), k0 + 4 * (j : Int) + 1, k0 + 4 * (j : Int) + 1 + 1, k0 + 4 * (j : Int) + 1 + 1 + 1] := by
            rw [show (j + 1) * 4 = j * 4 + 4 by omega]
            simp only [ramp_snoc, List.append_assoc, List.cons_append, List.nil_append]
            simp
            omega
          rw [e]
          unfold encIs at h1 ⊢
          rw [List.map_append, List.append_assoc]
          exact h1
        case measure => simp [intOf]; omega
      · have HJ : Hid (j = n) := by unfold Hid; omega
        go_wp2
        go_ret
        refine ⟨by rw [← HJ.out]; rfl, ⟨by rw [encIs_len, ramp_len, Nat.mul_one], hn', .inr ⟨g, more, rfl, hg, by rw [← HJ.out]; exact HR.out.1⟩⟩, hgr⟩

end Go.Proofs.Ytdiojhjkcholiaa
