/- The long text of a phrase, in the program. -/
import Derived.Test.YtjdedcalbcnkmaaDoorLongT
namespace Go.Proofs.YtjdedcalbcnkmaaDoor
open Go.RowKit

set_option maxRecDepth 100000 in
set_option maxHeartbeats 2000000 in
theorem implLongText_any (x : Ph) (w : World) (h : IntsR w w.heap.size x.A x.f) (ht : Tab w) :
    Calls Tryd.prog 14 #[x.val] w fun e w' => e = .returned (.tuple #[.string (okT x.ok (longT x)), .bool x.ok]) ∧ Below w.heap.size w w' := by
  have b1 := (Below.refl w.heap.size w).alloc (Nat.le_refl _) (.cells #[.int .i64 x.s, .int .i64 x.c, .slice x.A x.f.length x.cap, .int .i64 x.p] 28)
  have L0 := Lies.new w 28 #[.int .i64 x.s, .int .i64 x.c, .slice x.A x.f.length x.cap, .int .i64 x.p]
  have hR := SlcR.up h b1 (Nat.le_refl _)
  have ht1 := ht.then b1
  cases hok : x.ok
  · have HOK := Lib.hid hok; clear hok
    go_enter Tryd.func14, Tryd.ntmps14
    go_wp2_with fail
    generalize w.alloc (.cells #[.int .i64 x.s, .int .i64 x.c, .slice x.A x.f.length x.cap, .int .i64 x.p] 28) = W at b1 L0 hR ⊢
    refine (isPhrase_any x _ hR).mono ?_
    rw [HOK.out]
    rintro e w1 ⟨rfl, hb1⟩
    go_wp2
    go_ret2
    exact ⟨rfl, bthen b1 hb1⟩
  · obtain ⟨⟨s1, s2⟩, ⟨c1, c2⟩, hr, p1, p2⟩ := Ph.bounds hok
    have hnine := faults_nine hr
    have HRI : Hid (∀ i (hi : i < x.f.length), 1 ≤ x.f[i] ∧ x.f[i] ≤ 9) := fun i hi => by
      rw [rises_eq, Bool.and_eq_true, List.all_eq_true] at hr
      exact inR_iff.1 (hr.2 _ (List.getElem_mem hi))
    clear hr
    have HOK := Lib.hid hok; clear hok
    have hs : x.s = 1 ∨ x.s = 2 ∨ x.s = 3 := by omega
    obtain ⟨cv, hcv⟩ : ∃ s : ByteArray, s = ⟨(Lib.itoa x.c).toArray⟩ := ⟨_, rfl⟩
    have hcs : cv.size ≤ 100 := by rw [hcv]; exact itoa_len (by omega) (by omega)
    have NUMC : ∀ W : World, Tab W → Calls Tryd.prog 36 #[.int .i64 x.c] W fun e w' => e = .returned (.string cv) ∧ Below W.heap.size W w' := by
      intro W hW; rw [hcv]; exact itoa_any _ _ (by omega) (by omega) hW
    replace NUMC := Lib.hid NUMC
    have HCV : Hid (bl cv = Lib.itoa x.c) := by rw [hcv, Hid, bl_mk]
    clear hcv
    go_enter Tryd.func14, Tryd.ntmps14
    go_wp2_with fail
    generalize w.alloc (.cells #[.int .i64 x.s, .int .i64 x.c, .slice x.A x.f.length x.cap, .int .i64 x.p] 28) = W at b1 L0 hR ht1 ⊢
    generalize w.heap.size = g0 at L0 ⊢
    refine (isPhrase_any x _ hR).mono ?_
    rw [HOK.out]
    rintro e w1 ⟨rfl, hb1⟩
    have L1 := L0.below hb1 L0.lt
    have k0 := L1.cell 0
    have k1 := L1.cell 1
    have k2 := L1.cell 2
    have k3 := L1.cell 3
    simp only [List.getElem?_cons_zero, List.getElem?_cons_succ] at k0 k1 k2 k3
    have ht2 := ht1.then hb1
    go_wp2_with fail
    rename_i K aK
    have REST : ∀ (T : ByteArray) (u5 u8 u9 u10 u11 u12 u13 u14 u15 u16 u17 : Value) (W' : World), T.size ≤ 120 → Hid (bl T = Lib.itoa x.c ++ [32] ++ longMark x.s) → Below w1.heap.size w1 W' → K { tmps := #[x.val, .pointer (some ⟨g0, 0, none⟩), .string ⟨#[]⟩, .bool false, .string T, u5, .bool true, .bool false, u8, u9, u10, u11, u12, u13, u14, u15, u16, u17, undef, undef, undef, undef, undef, undef, undef, undef, undef, undef, undef, undef, undef, undef, undef, undef, undef, undef, undef, undef], defers := [] } W' := by
      intro T u5 u8 u9 u10 u11 u12 u13 u14 u15 u16 u17 W' hT HT hbW
      apply aK
      have m2 := (hbW.cell L1.lt).trans k2
      have m3 := (hbW.cell L1.lt).trans k3
      clear k0 k1 k2 k3 aK
      have hb6 : Below w.heap.size w W' := bthen b1 (bthen hb1 hbW)
      have hRW := SlcR.then (SlcR.then hR hb1) hbW
      have ht6 := ht2.then hbW
      clear hs NUMC HCV
      by_cases hlen : 0 < x.f.length
      · have HZ := Lib.hid (longFau_join x.f hlen)
        have hj := join_le [44] 100 (x.f.map Lib.itoa) fun y hy => by
          obtain ⟨n, hn, rfl⟩ := List.mem_map.1 hy
          obtain ⟨i, hi, rfl⟩ := List.getElem_of_mem hn
          exact itoa_len' (by have := HRI.out i hi; omega) (by have := HRI.out i hi; omega)
        rw [List.length_map] at hj
        simp only [List.length_cons, List.length_nil] at hj
        obtain ⟨jv, hjv⟩ : ∃ s : ByteArray, s = ⟨(Lib.join (x.f.map Lib.itoa) [44]).toArray⟩ := ⟨_, rfl⟩
        have hjs : jv.size ≤ 1000 := by rw [← bl_size, hjv, bl_mk]; omega
        have JOIN : Calls Tryd.prog 37 #[.slice x.A x.f.length x.cap, .string ⟨#[44]⟩] W' fun e w' => e = .returned (.string jv) ∧ Below W'.heap.size W' w' := by
          rw [hjv]; exact joinInts_any x.A x.cap x.f ⟨#[44]⟩ W' hRW hnine HRI.out (by decide) ht6
        replace JOIN := Lib.hid JOIN
        have HJV : Hid (bl jv = Lib.join (x.f.map Lib.itoa) [44]) := by rw [hjv, Hid, bl_mk]
        clear hjv hj
        by_cases hp : 0 < x.p
        · have HP : Hid (longPri x.p = [32, 97, 116, 32] ++ Lib.itoa x.p) := by unfold longPri Hid; rw [if_pos hp]
          obtain ⟨pv, hpv⟩ : ∃ s : ByteArray, s = ⟨(Lib.itoa x.p).toArray⟩ := ⟨_, rfl⟩
          have hps : pv.size ≤ 100 := by rw [hpv]; exact itoa_len (by omega) (by omega)
          have NUMP : ∀ W : World, Tab W → Calls Tryd.prog 36 #[.int .i64 x.p] W fun e w' => e = .returned (.string pv) ∧ Below W.heap.size W w' := by
            intro W hW; rw [hpv]; exact itoa_any _ _ (by omega) (by omega) hW
          replace NUMP := Lib.hid NUMP
          have HPV : Hid (bl pv = Lib.itoa x.p) := by rw [hpv, Hid, bl_mk]
          clear hpv
          go_wp2_with (first | (go_at_call 37; refine JOIN.out.mono ?_; rintro e w5 ⟨rfl, hb5⟩; have n3 := (hb5.cell (Nat.lt_of_lt_of_le L1.lt hbW.size)).trans m3) | (go_at_call 36; refine (NUMP.out _ (ht6.then hb5)).mono ?_; rintro e w3 ⟨rfl, hb3⟩))
          go_ret2
          have HF : (T ++ (⟨#[32, 119, 105, 116, 104, 32, 102, 97, 117, 108, 116, 115, 32]⟩ ++ jv)) ++ (⟨#[32, 97, 116, 32]⟩ ++ pv) = (⟨(longT x).toArray⟩ : ByteArray) := bl_ext (by unfold longT; simp [bl_app, bl_lit, HT.out, HZ.out, HP.out, HPV.out, HJV.out, withF])
          have HF2 : okT true (longT x) = (T ++ (⟨#[32, 119, 105, 116, 104, 32, 102, 97, 117, 108, 116, 115, 32]⟩ ++ jv)) ++ (⟨#[32, 97, 116, 32]⟩ ++ pv) := HF.symm
          rw [HF2]
          exact ⟨rfl, hb6.trans ((hb5.trans (hb3.mono hb5.size)).mono hb6.size)⟩
        · have HP : Hid (longPri x.p = []) := by unfold longPri Hid; rw [if_neg hp]
          go_wp2_with (first | (go_at_call 37; refine JOIN.out.mono ?_; rintro e w5 ⟨rfl, hb5⟩; have n3 := (hb5.cell (Nat.lt_of_lt_of_le L1.lt hbW.size)).trans m3) | fail)
          go_ret2
          have HF : (T ++ (⟨#[32, 119, 105, 116, 104, 32, 102, 97, 117, 108, 116, 115, 32]⟩ ++ jv)) = (⟨(longT x).toArray⟩ : ByteArray) := bl_ext (by unfold longT; simp [bl_app, bl_lit, HT.out, HZ.out, HP.out, HJV.out, withF])
          have HF2 : okT true (longT x) = (T ++ (⟨#[32, 119, 105, 116, 104, 32, 102, 97, 117, 108, 116, 115, 32]⟩ ++ jv)) := HF.symm
          rw [HF2]
          exact ⟨rfl, hb6.trans (hb5.mono hb6.size)⟩
      · have hz0 : x.f = [] := List.eq_nil_of_length_eq_zero (by omega)
        have HZ : Hid (longFau 0 x.f = []) := by rw [hz0]; rfl
        clear hz0
        by_cases hp : 0 < x.p
        · have HP : Hid (longPri x.p = [32, 97, 116, 32] ++ Lib.itoa x.p) := by unfold longPri Hid; rw [if_pos hp]
          obtain ⟨pv, hpv⟩ : ∃ s : ByteArray, s = ⟨(Lib.itoa x.p).toArray⟩ := ⟨_, rfl⟩
          have hps : pv.size ≤ 100 := by rw [hpv]; exact itoa_len (by omega) (by omega)
          have NUMP : ∀ W : World, Tab W → Calls Tryd.prog 36 #[.int .i64 x.p] W fun e w' => e = .returned (.string pv) ∧ Below W.heap.size W w' := by
            intro W hW; rw [hpv]; exact itoa_any _ _ (by omega) (by omega) hW
          replace NUMP := Lib.hid NUMP
          have HPV : Hid (bl pv = Lib.itoa x.p) := by rw [hpv, Hid, bl_mk]
          clear hpv
          go_wp2_with (first | (go_at_call 36; refine (NUMP.out _ ht6).mono ?_; rintro e w3 ⟨rfl, hb3⟩))
          go_ret2
          have HF : T ++ (⟨#[32, 97, 116, 32]⟩ ++ pv) = (⟨(longT x).toArray⟩ : ByteArray) := bl_ext (by unfold longT; simp [bl_app, bl_lit, HT.out, HZ.out, HP.out, HPV.out])
          have HF2 : okT true (longT x) = T ++ (⟨#[32, 97, 116, 32]⟩ ++ pv) := HF.symm
          rw [HF2]
          exact ⟨rfl, hb6.trans (hb3.mono hb6.size)⟩
        · have HP : Hid (longPri x.p = []) := by unfold longPri Hid; rw [if_neg hp]
          go_wp2_with fail
          go_ret2
          have HF : T = (⟨(longT x).toArray⟩ : ByteArray) := bl_ext (by unfold longT; simp [bl_app, bl_lit, HT.out, HZ.out, HP.out])
          have HF2 : okT true (longT x) = T := HF.symm
          rw [HF2]
          exact ⟨rfl, hb6⟩
    rcases hs with hs | hs | hs
    · have HM : Hid (longMark x.s = [109, 105, 110, 116]) := by rw [hs]; rfl
      rw [hs] at k0
      have r0 : ∀ p : Since w1.heap.size w1, p.val.cell? ⟨g0, 0, none⟩ = some (.int .i64 1) := fun p => (p.cell L1.lt).trans k0
      have r1 : ∀ p : Since w1.heap.size w1, p.val.cell? ⟨g0, 1, none⟩ = some (.int .i64 x.c) := fun p => (p.cell L1.lt).trans k1
      have HX0 := fun W => idx3_0 ⟨#[109, 105, 110, 116]⟩ ⟨#[117, 110, 117, 115, 101, 100]⟩ ⟨#[117, 115, 101, 100]⟩ W
      have HX1 : ∀ W, (Instr.index 53 (.agg #[.string ⟨#[109, 105, 110, 116]⟩, .string ⟨#[117, 110, 117, 115, 101, 100]⟩, .string ⟨#[117, 115, 101, 100]⟩]) (.int .i64 (IntKind.i64.wrap 0))).run Tryd.prog W = .ok (.string ⟨#[109, 105, 110, 116]⟩) W := HX0
      refine wp_region_since0 (by kernel_rfl) (by kernel_rfl) ?_
      repeat (any_goals (first | go_big_quiet_step ((go_at_call 36; refine calls_since (Nat.le_refl _) (NUMC.out _ (ht2.at _)))) | (refine wpQuiet_step (fun K hK => ?_); go_simp; split <;> (refine hK _ ?_; clear hK K))))
      all_goals (refine wpQuiet_nil ?_; rintro _ ⟨q1, rfl⟩)
      exact REST (cv ++ ⟨#[32]⟩ ++ ⟨#[109, 105, 110, 116]⟩) _ _ _ _ _ _ _ _ _ _ _ _ (by simp only [size_app]; (have e1 : (⟨#[32]⟩ : ByteArray).size = 1 := rfl); (have e3 : (⟨#[109, 105, 110, 116]⟩ : ByteArray).size ≤ 6 := by decide); omega) (by rw [Hid, HM.out]; simp [bl_app, bl_lit, HCV.out]) q1.below
    · have HM : Hid (longMark x.s = [117, 110, 117, 115, 101, 100]) := by rw [hs]; rfl
      rw [hs] at k0
      have r0 : ∀ p : Since w1.heap.size w1, p.val.cell? ⟨g0, 0, none⟩ = some (.int .i64 2) := fun p => (p.cell L1.lt).trans k0
      have r1 : ∀ p : Since w1.heap.size w1, p.val.cell? ⟨g0, 1, none⟩ = some (.int .i64 x.c) := fun p => (p.cell L1.lt).trans k1
      have HX0 := fun W => idx3_1 ⟨#[109, 105, 110, 116]⟩ ⟨#[117, 110, 117, 115, 101, 100]⟩ ⟨#[117, 115, 101, 100]⟩ W
      have HX1 : ∀ W, (Instr.index 53 (.agg #[.string ⟨#[109, 105, 110, 116]⟩, .string ⟨#[117, 110, 117, 115, 101, 100]⟩, .string ⟨#[117, 115, 101, 100]⟩]) (.int .i64 (IntKind.i64.wrap 1))).run Tryd.prog W = .ok (.string ⟨#[117, 110, 117, 115, 101, 100]⟩) W := HX0
      refine wp_region_since0 (by kernel_rfl) (by kernel_rfl) ?_
      repeat (any_goals (first | go_big_quiet_step ((go_at_call 36; refine calls_since (Nat.le_refl _) (NUMC.out _ (ht2.at _)))) | (refine wpQuiet_step (fun K hK => ?_); go_simp; split <;> (refine hK _ ?_; clear hK K))))
      all_goals (refine wpQuiet_nil ?_; rintro _ ⟨q1, rfl⟩)
      exact REST (cv ++ ⟨#[32]⟩ ++ ⟨#[117, 110, 117, 115, 101, 100]⟩) _ _ _ _ _ _ _ _ _ _ _ _ (by simp only [size_app]; (have e1 : (⟨#[32]⟩ : ByteArray).size = 1 := rfl); (have e3 : (⟨#[117, 110, 117, 115, 101, 100]⟩ : ByteArray).size ≤ 6 := by decide); omega) (by rw [Hid, HM.out]; simp [bl_app, bl_lit, HCV.out]) q1.below
    · have HM : Hid (longMark x.s = [117, 115, 101, 100]) := by rw [hs]; rfl
      rw [hs] at k0
      have r0 : ∀ p : Since w1.heap.size w1, p.val.cell? ⟨g0, 0, none⟩ = some (.int .i64 3) := fun p => (p.cell L1.lt).trans k0
      have r1 : ∀ p : Since w1.heap.size w1, p.val.cell? ⟨g0, 1, none⟩ = some (.int .i64 x.c) := fun p => (p.cell L1.lt).trans k1
      have HX0 := fun W => idx3_2 ⟨#[109, 105, 110, 116]⟩ ⟨#[117, 110, 117, 115, 101, 100]⟩ ⟨#[117, 115, 101, 100]⟩ W
      have HX1 : ∀ W, (Instr.index 53 (.agg #[.string ⟨#[109, 105, 110, 116]⟩, .string ⟨#[117, 110, 117, 115, 101, 100]⟩, .string ⟨#[117, 115, 101, 100]⟩]) (.int .i64 (IntKind.i64.wrap 2))).run Tryd.prog W = .ok (.string ⟨#[117, 115, 101, 100]⟩) W := HX0
      refine wp_region_since0 (by kernel_rfl) (by kernel_rfl) ?_
      repeat (any_goals (first | go_big_quiet_step ((go_at_call 36; refine calls_since (Nat.le_refl _) (NUMC.out _ (ht2.at _)))) | (refine wpQuiet_step (fun K hK => ?_); go_simp; split <;> (refine hK _ ?_; clear hK K))))
      all_goals (refine wpQuiet_nil ?_; rintro _ ⟨q1, rfl⟩)
      exact REST (cv ++ ⟨#[32]⟩ ++ ⟨#[117, 115, 101, 100]⟩) _ _ _ _ _ _ _ _ _ _ _ _ (by simp only [size_app]; (have e1 : (⟨#[32]⟩ : ByteArray).size = 1 := rfl); (have e3 : (⟨#[117, 115, 101, 100]⟩ : ByteArray).size ≤ 6 := by decide); omega) (by rw [Hid, HM.out]; simp [bl_app, bl_lit, HCV.out]) q1.below
end Go.Proofs.YtjdedcalbcnkmaaDoor
