/- OfficeLine, one side. -/
import Derived.Test.YtgdjdejfegkjdaaDoorHund
namespace Go.Proofs.YtgdjdejfegkjdaaDoor
open Go.RowKit
set_option linter.unusedSimpArgs false
set_option linter.unusedVariables false

set_option maxRecDepth 100000 in
set_option maxHeartbeats 4000000 in
theorem l31Line_any (r : Row) (w : World) (hok : r.ok = true) :
    Calls Tryd.prog 18 #[r.val] w fun e w' => e = .returned (.string (lineO r)) ∧ Below w.heap.size w w' := by
  have hb := Row.ok_bounds hok
  clear hok
  obtain ⟨m, b, s, c, l⟩ := r
  simp only at hb
  obtain ⟨hm0, hm1, hb0, hb1', hs0, hs1, hc0, hc1, hl0, hl1⟩ := hb
  have b1 := (Below.refl w.heap.size w).alloc (Nat.le_refl _) (.cells #[.int .i64 m, .int .i64 b, .int .i64 s, .int .i64 c, .int .i64 l] 26)
  have L1 := Lies.new w 26 #[.int .i64 m, .int .i64 b, .int .i64 s, .int .i64 c, .int .i64 l]
  obtain ⟨t1, e1⟩ : ∃ t : ByteArray, t = ⟨(Lib.itoa m).toArray⟩ := ⟨_, rfl⟩
  have y1 : t1.size ≤ 100 := by rw [e1]; exact itoa_len (by omega) (by omega)
  have N1 : Hid (∀ W, Calls Tryd.prog 22 #[.int .i64 (m)] W fun e w' => e = .returned (.string t1) ∧ Below W.heap.size W w') := by rw [e1]; exact fun W => l1Num_any _ W (by omega) (by omega)
  have HE1 : Hid (bl t1 = Lib.itoa m) := by rw [Hid, e1, bl_mk]
  obtain ⟨t2, e2⟩ : ∃ t : ByteArray, t = ⟨(Lib.itoa b).toArray⟩ := ⟨_, rfl⟩
  have y2 : t2.size ≤ 100 := by rw [e2]; exact itoa_len (by omega) (by omega)
  have N2 : Hid (∀ W, Calls Tryd.prog 22 #[.int .i64 (b)] W fun e w' => e = .returned (.string t2) ∧ Below W.heap.size W w') := by rw [e2]; exact fun W => l1Num_any _ W (by omega) (by omega)
  have HE2 : Hid (bl t2 = Lib.itoa b) := by rw [Hid, e2, bl_mk]
  obtain ⟨t3, e3⟩ : ∃ t : ByteArray, t = ⟨(Lib.itoa s).toArray⟩ := ⟨_, rfl⟩
  have y3 : t3.size ≤ 100 := by rw [e3]; exact itoa_len (by omega) (by omega)
  have N3 : Hid (∀ W, Calls Tryd.prog 22 #[.int .i64 (s)] W fun e w' => e = .returned (.string t3) ∧ Below W.heap.size W w') := by rw [e3]; exact fun W => l1Num_any _ W (by omega) (by omega)
  have HE3 : Hid (bl t3 = Lib.itoa s) := by rw [Hid, e3, bl_mk]
  obtain ⟨t4, e4⟩ : ∃ t : ByteArray, t = ⟨(Lib.itoa l).toArray⟩ := ⟨_, rfl⟩
  have y4 : t4.size ≤ 100 := by rw [e4]; exact itoa_len (by omega) (by omega)
  have N4 : Hid (∀ W, Calls Tryd.prog 22 #[.int .i64 (l)] W fun e w' => e = .returned (.string t4) ∧ Below W.heap.size W w') := by rw [e4]; exact fun W => l1Num_any _ W (by omega) (by omega)
  have HE4 : Hid (bl t4 = Lib.itoa l) := by rw [Hid, e4, bl_mk]
  clear e1 e2 e3 e4
  obtain ⟨a, ha⟩ : ∃ a : Nat, a = c.natAbs := ⟨_, rfl⟩
  have haz : a ≤ 1000000 := by omega
  obtain ⟨t5, e5⟩ : ∃ t : ByteArray, t = ⟨(Lib.itoa ((a : Int) / 100)).toArray⟩ := ⟨_, rfl⟩
  have y5 : t5.size ≤ 100 := by rw [e5]; exact itoa_len (by omega) (by omega)
  have N5 : Hid (∀ W, Calls Tryd.prog 22 #[.int .i64 ((a : Int) / 100)] W fun e w' => e = .returned (.string t5) ∧ Below W.heap.size W w') := by rw [e5]; exact fun W => l1Num_any _ W (by omega) (by omega)
  have HE5 : Hid (bl t5 = Lib.itoa ((a : Int) / 100)) := by rw [Hid, e5, bl_mk]
  obtain ⟨t6, e6⟩ : ∃ t : ByteArray, t = ⟨(Lib.itoa ((a : Int) / 10 % 10)).toArray⟩ := ⟨_, rfl⟩
  have y6 : t6.size ≤ 100 := by rw [e6]; exact itoa_len (by omega) (by omega)
  have N6 : Hid (∀ W, Calls Tryd.prog 22 #[.int .i64 ((a : Int) / 10 % 10)] W fun e w' => e = .returned (.string t6) ∧ Below W.heap.size W w') := by rw [e6]; exact fun W => l1Num_any _ W (by omega) (by omega)
  have HE6 : Hid (bl t6 = Lib.itoa ((a : Int) / 10 % 10)) := by rw [Hid, e6, bl_mk]
  obtain ⟨t7, e7⟩ : ∃ t : ByteArray, t = ⟨(Lib.itoa ((a : Int) % 10)).toArray⟩ := ⟨_, rfl⟩
  have y7 : t7.size ≤ 100 := by rw [e7]; exact itoa_len (by omega) (by omega)
  have N7 : Hid (∀ W, Calls Tryd.prog 22 #[.int .i64 ((a : Int) % 10)] W fun e w' => e = .returned (.string t7) ∧ Below W.heap.size W w') := by rw [e7]; exact fun W => l1Num_any _ W (by omega) (by omega)
  have HE7 : Hid (bl t7 = Lib.itoa ((a : Int) % 10)) := by rw [Hid, e7, bl_mk]
  clear e5 e6 e7
  have v1 : (a : Int).tdiv 100 = (a : Int) / 100 := Int.tdiv_eq_ediv_of_nonneg (by omega)
  have v2 : (a : Int).tdiv 10 = (a : Int) / 10 := Int.tdiv_eq_ediv_of_nonneg (by omega)
  have v3 : ((a : Int) / 10).tmod 10 = (a : Int) / 10 % 10 := Int.tmod_eq_emod_of_nonneg (by omega)
  have v4 : (a : Int).tmod 10 = (a : Int) % 10 := Int.tmod_eq_emod_of_nonneg (by omega)
  have z1 : (⟨#[109]⟩ : ByteArray).size = 1 := rfl
  have z2 : (⟨#[58, 32, 43]⟩ : ByteArray).size = 3 := rfl
  have z3 : (⟨#[32, 45]⟩ : ByteArray).size = 2 := rfl
  have z4 : (⟨#[32, 112, 114, 111, 102, 105, 116, 32]⟩ : ByteArray).size = 8 := rfl
  have z5 : (⟨#[45]⟩ : ByteArray).size = 1 := rfl
  have z6 : (⟨#[46]⟩ : ByteArray).size = 1 := rfl
  have z7 : (⟨#[32]⟩ : ByteArray).size = 1 := rfl
  have z8 : (⟨#[32, 108, 101, 110, 116]⟩ : ByteArray).size = 5 := rfl
  go_enter Tryd.func18, Tryd.ntmps18
  go_wp2_with fail
  generalize w.alloc (.cells #[.int .i64 m, .int .i64 b, .int .i64 s, .int .i64 c, .int .i64 l] 26) = W at b1 L1 ⊢
  generalize hg : w.heap.size = g at L1 ⊢
  refine wp_region_facts (fun W9 => Lies W9 g 26 [.int .i64 m, .int .i64 b, .int .i64 s, .int .i64 c, .int .i64 l] ∧ Below w.heap.size w W9) (fun _ _ => True) (by kernel_rfl) (by kernel_rfl) (by kernel_rfl) ⟨L1.below (Below.refl _ _).drew L1.lt, b1.drew⟩ ?_
  simp only [fillOps, Act.put, List.setIfInBounds_toArray, List.set_cons_zero, List.set_cons_succ, Nat.zero_add, Nat.reduceAdd]
  refine wpFacts_val (.pointer (some ⟨g, 0, none⟩)) (fun vs w9 hC9 hB K9 hK9 => ?_) ?_
  · go_simp
    exact hK9 _ _ rfl hC9 trivial
  refine wpFacts_val (.int .i64 m) (fun vs w9 hC9 hB K9 hK9 => ?_) ?_
  · have hd0 := hB 0 _ (by kernel_rfl) rfl
    simp only [hd0] at hK9 ⊢
    have q0 : w9.cell? ⟨g, 0, none⟩ = some (.int .i64 m) := hC9.1.cell 0
    go_simp
    exact hK9 _ _ rfl hC9 trivial
  refine wpFacts_val (.string t1) (fun vs w9 hC9 hB K9 hK9 => ?_) ?_
  · have hd1 := hB 1 _ (by kernel_rfl) rfl
    simp only [hd1] at hK9 ⊢
    go_simp
    refine (N1.out _).mono ?_
    rintro en w8 ⟨rfl, hb8⟩
    exact hK9 _ _ rfl ⟨hC9.1.below hb8 hC9.1.lt, hC9.2.trans (hb8.mono hC9.2.size)⟩ trivial
  refine wpFacts_val (.string (⟨#[109]⟩ ++ t1)) (fun vs w9 hC9 hB K9 hK9 => ?_) ?_
  · have hd2 := hB 2 _ (by kernel_rfl) rfl
    simp only [hd2] at hK9 ⊢
    go_simp
    (first | (rw [if_neg (by omega)]; go_simp) | skip)
    exact hK9 _ _ rfl hC9 trivial
  refine wpFacts_val (.string (⟨#[109]⟩ ++ t1 ++ ⟨#[58, 32, 43]⟩)) (fun vs w9 hC9 hB K9 hK9 => ?_) ?_
  · have hd3 := hB 3 _ (by kernel_rfl) rfl
    simp only [hd3] at hK9 ⊢
    go_simp
    (first | (rw [if_neg (by omega)]; go_simp) | skip)
    exact hK9 _ _ rfl hC9 trivial
  refine wpFacts_val (.pointer (some ⟨g, 1, none⟩)) (fun vs w9 hC9 hB K9 hK9 => ?_) ?_
  · go_simp
    exact hK9 _ _ rfl hC9 trivial
  refine wpFacts_val (.int .i64 b) (fun vs w9 hC9 hB K9 hK9 => ?_) ?_
  · have hd5 := hB 5 _ (by kernel_rfl) rfl
    simp only [hd5] at hK9 ⊢
    have q0 : w9.cell? ⟨g, 1, none⟩ = some (.int .i64 b) := hC9.1.cell 1
    go_simp
    exact hK9 _ _ rfl hC9 trivial
  refine wpFacts_val (.string t2) (fun vs w9 hC9 hB K9 hK9 => ?_) ?_
  · have hd6 := hB 6 _ (by kernel_rfl) rfl
    simp only [hd6] at hK9 ⊢
    go_simp
    refine (N2.out _).mono ?_
    rintro en w8 ⟨rfl, hb8⟩
    exact hK9 _ _ rfl ⟨hC9.1.below hb8 hC9.1.lt, hC9.2.trans (hb8.mono hC9.2.size)⟩ trivial
  refine wpFacts_val (.string (⟨#[109]⟩ ++ t1 ++ ⟨#[58, 32, 43]⟩ ++ t2)) (fun vs w9 hC9 hB K9 hK9 => ?_) ?_
  · have hd4 := hB 4 _ (by kernel_rfl) rfl
    have hd7 := hB 7 _ (by kernel_rfl) rfl
    simp only [hd4, hd7] at hK9 ⊢
    go_simp
    (first | (rw [if_neg (by omega)]; go_simp) | skip)
    exact hK9 _ _ rfl hC9 trivial
  refine wpFacts_val (.string (⟨#[109]⟩ ++ t1 ++ ⟨#[58, 32, 43]⟩ ++ t2 ++ ⟨#[32, 45]⟩)) (fun vs w9 hC9 hB K9 hK9 => ?_) ?_
  · have hd8 := hB 8 _ (by kernel_rfl) rfl
    simp only [hd8] at hK9 ⊢
    go_simp
    (first | (rw [if_neg (by omega)]; go_simp) | skip)
    exact hK9 _ _ rfl hC9 trivial
  refine wpFacts_val (.pointer (some ⟨g, 2, none⟩)) (fun vs w9 hC9 hB K9 hK9 => ?_) ?_
  · go_simp
    exact hK9 _ _ rfl hC9 trivial
  refine wpFacts_val (.int .i64 s) (fun vs w9 hC9 hB K9 hK9 => ?_) ?_
  · have hd10 := hB 10 _ (by kernel_rfl) rfl
    simp only [hd10] at hK9 ⊢
    have q0 : w9.cell? ⟨g, 2, none⟩ = some (.int .i64 s) := hC9.1.cell 2
    go_simp
    exact hK9 _ _ rfl hC9 trivial
  refine wpFacts_val (.string t3) (fun vs w9 hC9 hB K9 hK9 => ?_) ?_
  · have hd11 := hB 11 _ (by kernel_rfl) rfl
    simp only [hd11] at hK9 ⊢
    go_simp
    refine (N3.out _).mono ?_
    rintro en w8 ⟨rfl, hb8⟩
    exact hK9 _ _ rfl ⟨hC9.1.below hb8 hC9.1.lt, hC9.2.trans (hb8.mono hC9.2.size)⟩ trivial
  refine wpFacts_val (.string (⟨#[109]⟩ ++ t1 ++ ⟨#[58, 32, 43]⟩ ++ t2 ++ ⟨#[32, 45]⟩ ++ t3)) (fun vs w9 hC9 hB K9 hK9 => ?_) ?_
  · have hd9 := hB 9 _ (by kernel_rfl) rfl
    have hd12 := hB 12 _ (by kernel_rfl) rfl
    simp only [hd9, hd12] at hK9 ⊢
    go_simp
    (first | (rw [if_neg (by omega)]; go_simp) | skip)
    exact hK9 _ _ rfl hC9 trivial
  refine wpFacts_val (.string (⟨#[109]⟩ ++ t1 ++ ⟨#[58, 32, 43]⟩ ++ t2 ++ ⟨#[32, 45]⟩ ++ t3 ++ ⟨#[32, 112, 114, 111, 102, 105, 116, 32]⟩)) (fun vs w9 hC9 hB K9 hK9 => ?_) ?_
  · have hd13 := hB 13 _ (by kernel_rfl) rfl
    simp only [hd13] at hK9 ⊢
    go_simp
    (first | (rw [if_neg (by omega)]; go_simp) | skip)
    exact hK9 _ _ rfl hC9 trivial
  refine wpFacts_val (.string (⟨#[109]⟩ ++ t1 ++ ⟨#[58, 32, 43]⟩ ++ t2 ++ ⟨#[32, 45]⟩ ++ t3 ++ ⟨#[32, 112, 114, 111, 102, 105, 116, 32]⟩)) (fun vs w9 hC9 hB K9 hK9 => ?_) ?_
  · have hd14 := hB 14 _ (by kernel_rfl) rfl
    simp only [hd14] at hK9 ⊢
    go_simp
    exact hK9 _ _ rfl hC9 trivial
  refine wpFacts_nil fun vs W2 hC9 hB => ?_
  have hd15 := hB 15 _ rfl
  simp only [hd15]
  obtain ⟨L2, B2⟩ := hC9
  have c3 := L2.cell 3
  have c4 := L2.cell 4
  simp only [List.getElem?_cons_zero, List.getElem?_cons_succ] at c3 c4
  obtain ⟨p, hp⟩ : ∃ p : ByteArray, p = ⟨#[109]⟩ ++ t1 ++ ⟨#[58, 32, 43]⟩ ++ t2 ++ ⟨#[32, 45]⟩ ++ t3 ++ ⟨#[32, 112, 114, 111, 102, 105, 116, 32]⟩ := ⟨_, rfl⟩
  have hpz : p.size ≤ 1000 := by rw [hp]; simp only [size_app, z1, z2, z3, z4]; omega
  have HP : Hid (bl p = [109] ++ Lib.itoa m ++ [58, 32, 43] ++ Lib.itoa b ++ [32, 45] ++ Lib.itoa s ++ [32, 112, 114, 111, 102, 105, 116, 32]) := by
    rw [Hid, hp]; simp only [bl_app, HE1.out, HE2.out, HE3.out]; rfl
  rw [← hp]
  clear hp hB hd15 L1
  by_cases hneg : c < 0
  · obtain rfl : c = -(a : Int) := by omega
    have hap : 0 < a := by omega
    have dn : decide (-(a : Int) < 0) = true := decide_eq_true hneg
    have dn2 : decide (0 < (a : Int)) = true := decide_eq_true (by omega)
    have dn3 : decide (0 < a) = true := decide_eq_true hap
    have HCn : Hid ((-(a : Int) < 0) = True) := eq_true hneg
    have HA : Hid ((-(a : Int)).natAbs = a) := ha.symm
    have HM1 : Hid (max (-(a : Int)) (a : Int) = (a : Int)) := by unfold Hid; omega
    have HM2 : Hid ((if -(a : Int) < (a : Int) then (a : Int) else -(a : Int)) = (a : Int)) := by unfold Hid; rw [if_pos (by omega)]
    clear ha hneg
    by_cases hl : 0 < l
    · have dl : decide (0 < l) = true := decide_eq_true hl
      have HLn : Hid ((0 < l) = True) := eq_true hl
      clear hl
      go_wp2_with fail
      refine (N5.out _).mono ?_
      rintro en w3 ⟨rfl, hb3⟩
      have L3 := L2.below hb3 L2.lt
      have B3 := B2.trans (hb3.mono B2.size)
      go_wp2_with fail
      refine (N6.out _).mono ?_
      rintro en w4 ⟨rfl, hb4⟩
      have L4 := L3.below hb4 L3.lt
      have B4 := B3.trans (hb4.mono B3.size)
      go_wp2_with fail
      refine (N7.out _).mono ?_
      rintro en w5 ⟨rfl, hb5⟩
      have L5 := L4.below hb5 L4.lt
      have B5 := B4.trans (hb5.mono B4.size)
      clear c3 c4
      have c3 := L5.cell 3
      have c4 := L5.cell 4
      simp only [List.getElem?_cons_zero, List.getElem?_cons_succ] at c3 c4
      go_wp2_with fail
      refine (N4.out _).mono ?_
      rintro en w6 ⟨rfl, hb6⟩
      have B6 := B5.trans (hb6.mono B5.size)
      go_wp2_with fail
      have key : (p ++ ⟨#[45]⟩ ++ t5 ++ ⟨#[46]⟩ ++ t6 ++ t7 ++ ⟨#[32]⟩ ++ t4 ++ ⟨#[32, 108, 101, 110, 116]⟩ : ByteArray) = lineO ⟨m, b, s, -(a : Int), l⟩ := bl_ext (l := lineT ⟨m, b, s, -(a : Int), l⟩) (by
        simp only [lineT, bl_app, HP.out, HE4.out, HE5.out, HE6.out, HE7.out, hundT_int, HCn.out, HA.out, HLn.out, if_true, if_false, List.append_assoc, List.append_nil, List.nil_append]
        try rfl)
      go_ret
      exact ⟨by rw [← key]; rfl, B6⟩
    · have dl : decide (0 < l) = false := decide_eq_false hl
      have HLn : Hid ((0 < l) = False) := eq_false hl
      clear hl
      go_wp2_with fail
      refine (N5.out _).mono ?_
      rintro en w3 ⟨rfl, hb3⟩
      have L3 := L2.below hb3 L2.lt
      have B3 := B2.trans (hb3.mono B2.size)
      go_wp2_with fail
      refine (N6.out _).mono ?_
      rintro en w4 ⟨rfl, hb4⟩
      have L4 := L3.below hb4 L3.lt
      have B4 := B3.trans (hb4.mono B3.size)
      go_wp2_with fail
      refine (N7.out _).mono ?_
      rintro en w5 ⟨rfl, hb5⟩
      have L5 := L4.below hb5 L4.lt
      have B5 := B4.trans (hb5.mono B4.size)
      clear c3 c4
      have c3 := L5.cell 3
      have c4 := L5.cell 4
      simp only [List.getElem?_cons_zero, List.getElem?_cons_succ] at c3 c4
      go_wp2_with fail
      have key : (p ++ ⟨#[45]⟩ ++ t5 ++ ⟨#[46]⟩ ++ t6 ++ t7 : ByteArray) = lineO ⟨m, b, s, -(a : Int), l⟩ := bl_ext (l := lineT ⟨m, b, s, -(a : Int), l⟩) (by
        simp only [lineT, bl_app, HP.out, HE4.out, HE5.out, HE6.out, HE7.out, hundT_int, HCn.out, HA.out, HLn.out, if_true, if_false, List.append_assoc, List.append_nil, List.nil_append]
        try rfl)
      go_ret
      exact ⟨by rw [← key]; rfl, B5⟩
  · obtain rfl : c = (a : Int) := by omega
    have dn : decide ((a : Int) < 0) = false := decide_eq_false hneg
    have HCn : Hid (((a : Int) < 0) = False) := eq_false hneg
    have HA : Hid ((a : Int).natAbs = a) := ha.symm
    have HM1 : Hid (max (a : Int) (-(a : Int)) = (a : Int)) := by unfold Hid; omega
    have HM2 : Hid ((if (a : Int) < -(a : Int) then -(a : Int) else (a : Int)) = (a : Int)) := by unfold Hid; rw [if_neg (by omega)]
    clear ha hneg
    by_cases hl : 0 < l
    · have dl : decide (0 < l) = true := decide_eq_true hl
      have HLn : Hid ((0 < l) = True) := eq_true hl
      clear hl
      go_wp2_with fail
      refine (N5.out _).mono ?_
      rintro en w3 ⟨rfl, hb3⟩
      have L3 := L2.below hb3 L2.lt
      have B3 := B2.trans (hb3.mono B2.size)
      go_wp2_with fail
      refine (N6.out _).mono ?_
      rintro en w4 ⟨rfl, hb4⟩
      have L4 := L3.below hb4 L3.lt
      have B4 := B3.trans (hb4.mono B3.size)
      go_wp2_with fail
      refine (N7.out _).mono ?_
      rintro en w5 ⟨rfl, hb5⟩
      have L5 := L4.below hb5 L4.lt
      have B5 := B4.trans (hb5.mono B4.size)
      clear c3 c4
      have c3 := L5.cell 3
      have c4 := L5.cell 4
      simp only [List.getElem?_cons_zero, List.getElem?_cons_succ] at c3 c4
      go_wp2_with fail
      refine (N4.out _).mono ?_
      rintro en w6 ⟨rfl, hb6⟩
      have B6 := B5.trans (hb6.mono B5.size)
      go_wp2_with fail
      have key : (p ++ t5 ++ ⟨#[46]⟩ ++ t6 ++ t7 ++ ⟨#[32]⟩ ++ t4 ++ ⟨#[32, 108, 101, 110, 116]⟩ : ByteArray) = lineO ⟨m, b, s, (a : Int), l⟩ := bl_ext (l := lineT ⟨m, b, s, (a : Int), l⟩) (by
        simp only [lineT, bl_app, HP.out, HE4.out, HE5.out, HE6.out, HE7.out, hundT_int, HCn.out, HA.out, HLn.out, if_true, if_false, List.append_assoc, List.append_nil, List.nil_append]
        try rfl)
      go_ret
      exact ⟨by rw [← key]; rfl, B6⟩
    · have dl : decide (0 < l) = false := decide_eq_false hl
      have HLn : Hid ((0 < l) = False) := eq_false hl
      clear hl
      go_wp2_with fail
      refine (N5.out _).mono ?_
      rintro en w3 ⟨rfl, hb3⟩
      have L3 := L2.below hb3 L2.lt
      have B3 := B2.trans (hb3.mono B2.size)
      go_wp2_with fail
      refine (N6.out _).mono ?_
      rintro en w4 ⟨rfl, hb4⟩
      have L4 := L3.below hb4 L3.lt
      have B4 := B3.trans (hb4.mono B3.size)
      go_wp2_with fail
      refine (N7.out _).mono ?_
      rintro en w5 ⟨rfl, hb5⟩
      have L5 := L4.below hb5 L4.lt
      have B5 := B4.trans (hb5.mono B4.size)
      clear c3 c4
      have c3 := L5.cell 3
      have c4 := L5.cell 4
      simp only [List.getElem?_cons_zero, List.getElem?_cons_succ] at c3 c4
      go_wp2_with fail
      have key : (p ++ t5 ++ ⟨#[46]⟩ ++ t6 ++ t7 : ByteArray) = lineO ⟨m, b, s, (a : Int), l⟩ := bl_ext (l := lineT ⟨m, b, s, (a : Int), l⟩) (by
        simp only [lineT, bl_app, HP.out, HE4.out, HE5.out, HE6.out, HE7.out, hundT_int, HCn.out, HA.out, HLn.out, if_true, if_false, List.append_assoc, List.append_nil, List.nil_append]
        try rfl)
      go_ret
      exact ⟨by rw [← key]; rfl, B5⟩
end Go.Proofs.YtgdjdejfegkjdaaDoor
