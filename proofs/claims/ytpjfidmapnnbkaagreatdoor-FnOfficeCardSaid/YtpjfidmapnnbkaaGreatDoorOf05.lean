/- Of05: the texts Hund OLineS OLineI OLaw NumF SplitP LineP DrawWOf RowNeq LibW AtoiW NumW, joined into one file. -/
import Derived.Lib.ItoaNum
import Derived.Lib.ItoaLen
import Derived.Lib.AtoiTie
import Derived.Lib.Replace
import Derived.Lib.Strings
import Derived.Laws.StructEq
import Derived.Lib.AtoiErrMem
import Derived.Test.YtpjfidmapnnbkaaGreatDoorOf01
import Derived.Test.YtpjfidmapnnbkaaGreatDoorOf03
import Derived.Test.YtpjfidmapnnbkaaGreatDoorOf04

set_option linter.unusedVariables false

/- OfficeLine: both sides and the law. -/
namespace Go.Proofs.YtpjfidmapnnbkaaGreatDoor
open Go.RowKit

/-- Hundredths as text. -/
def hundT (n : Nat) : List UInt8 := Lib.itoa ((n : Int) / 100) ++ ([46] ++ (Lib.itoa ((n : Int) / 10 % 10) ++ Lib.itoa ((n : Int) % 10)))
theorem hundT_int (n : Nat) : hundT n = Lib.itoa ((n : Int) / 100) ++ ([46] ++ (Lib.itoa ((n : Int) / 10 % 10) ++ Lib.itoa ((n : Int) % 10))) := rfl
def lineT (r : Row) : List UInt8 :=
  [109] ++ Lib.itoa r.m ++ [58, 32, 43] ++ Lib.itoa r.b ++ [32, 45] ++ Lib.itoa r.s ++ [32, 112, 114, 111, 102, 105, 116, 32] ++ ((if r.c < 0 then [45] else []) ++ (hundT r.c.natAbs ++ (if 0 < r.l then [32] ++ (Lib.itoa r.l ++ [32, 108, 101, 110, 116]) else [])))
def lineO (r : Row) : ByteArray := ⟨(lineT r).toArray⟩
theorem Row.ok_bounds {r : Row} (h : r.ok = true) : 1 ≤ r.m ∧ r.m ≤ 1200 ∧ 0 ≤ r.b ∧ r.b ≤ 9999 ∧ 0 ≤ r.s ∧ r.s ≤ 9999 ∧ -1000000 ≤ r.c ∧ r.c ≤ 1000000 ∧ 0 ≤ r.l ∧ r.l ≤ 999 := by
  unfold Row.ok inR at h
  simp only [Bool.and_eq_true, decide_eq_true_eq] at h
  omega
theorem hund_small {n : Nat} (h : n % 100 < 10) : hundT n = Lib.itoa ((n : Int) / 100) ++ ([46, 48] ++ Lib.itoa ((n : Int) % 100)) := by
  have e1 : (n : Int) / 10 % 10 = ((0 : Nat) : Int) := by omega
  have e2 : (n : Int) % 10 = (n : Int) % 100 := by omega
  have e3 : Lib.itoa ((0 : Nat) : Int) = [48] := by rw [itoa_nat, dec_small (by omega)]; rfl
  unfold hundT; rw [e1, e2, e3]; rfl
theorem hund_big {n : Nat} (h : ¬ n % 100 < 10) : hundT n = Lib.itoa ((n : Int) / 100) ++ ([46] ++ Lib.itoa ((n : Int) % 100)) := by
  have e1 : (n : Int) / 10 % 10 = ((n % 100 / 10 : Nat) : Int) := by omega
  have e2 : (n : Int) % 10 = ((n % 100 % 10 : Nat) : Int) := by omega
  have e3 : (n : Int) % 100 = ((n % 100 : Nat) : Int) := by omega
  unfold hundT
  rw [e1, e2, e3, itoa_nat (n % 100), dec_big h, itoa_nat, itoa_nat, dec_small (n := n % 100 % 10) (by omega)]
theorem hund_len {n : Nat} (h : n ≤ 1000000) : (⟨(hundT n).toArray⟩ : ByteArray).size ≤ 301 := by
  have h1 := itoa_len (n := (n : Int) / 100) (by omega) (by omega)
  have h2 := itoa_len (n := (n : Int) / 10 % 10) (by omega) (by omega)
  have h3 := itoa_len (n := (n : Int) % 10) (by omega) (by omega)
  have e : ∀ l : List UInt8, (⟨l.toArray⟩ : ByteArray).size = l.length := fun l => rfl
  rw [e] at *
  unfold hundT
  simp only [List.length_append, List.length_cons, List.length_nil]
  have h9 : (Lib.itoa ((n : Int) / 100)).length ≤ 100 := h1
  omega

set_option maxHeartbeats 1000000 in
theorem hundredths_any (n : Nat) (w : World) (h : n ≤ 1000000) (ht : Tab w) :
    Calls Tryz.prog 53 #[.int .i64 (n : Int)] w fun e w' => e = .returned (.string ⟨(hundT n).toArray⟩) ∧ Below w.heap.size w w' := by
  have v1 : (n : Int).tdiv 100 = (n : Int) / 100 := Int.tdiv_eq_ediv_of_nonneg (by omega)
  have v2 : (n : Int).tmod 100 = (n : Int) % 100 := Int.tmod_eq_emod_of_nonneg (by omega)
  obtain ⟨t1, e1⟩ : ∃ t : ByteArray, t = ⟨(Lib.itoa ((n : Int) / 100)).toArray⟩ := ⟨_, rfl⟩
  have y1 : t1.size ≤ 100 := by rw [e1]; exact itoa_len (by omega) (by omega)
  have N1 : Hid (∀ W, Tab W → Calls Tryz.prog 49 #[.int .i64 ((n : Int) / 100)] W fun e w' => e = .returned (.string t1) ∧ Below W.heap.size W w') := by rw [e1]; exact fun W hW => itoa_any _ W (by omega) (by omega) hW
  have HE1 : Hid (bl t1 = Lib.itoa ((n : Int) / 100)) := by rw [Hid, e1, bl_mk]
  obtain ⟨t2, e2⟩ : ∃ t : ByteArray, t = ⟨(Lib.itoa ((n : Int) % 100)).toArray⟩ := ⟨_, rfl⟩
  have y2 : t2.size ≤ 100 := by rw [e2]; exact itoa_len (by omega) (by omega)
  have N2 : Hid (∀ W, Tab W → Calls Tryz.prog 49 #[.int .i64 ((n : Int) % 100)] W fun e w' => e = .returned (.string t2) ∧ Below W.heap.size W w') := by rw [e2]; exact fun W hW => itoa_any _ W (by omega) (by omega) hW
  have HE2 : Hid (bl t2 = Lib.itoa ((n : Int) % 100)) := by rw [Hid, e2, bl_mk]
  have z1 : (⟨#[46]⟩ : ByteArray).size = 1 := rfl
  have z2 : (⟨#[46, 48]⟩ : ByteArray).size = 2 := rfl
  clear e1 e2
  by_cases hlt : n % 100 < 10
  · have HH := Lib.hid (hund_small hlt)
    have d1 : decide ((n : Int) % 100 < 10) = true := decide_eq_true (by omega)
    clear hlt
    go_enter Tryz.func53, Tryz.ntmps53
    go_wp2_with fail
    refine (N1.out _ ht).mono ?_
    rintro en w1 ⟨rfl, hb1⟩
    go_wp2_with fail
    refine (N2.out _ (ht.then hb1)).mono ?_
    rintro en w2 ⟨rfl, hb2⟩
    go_wp2_with fail
    have key : (t1 ++ ⟨#[46, 48]⟩ ++ t2 : ByteArray) = ⟨(hundT n).toArray⟩ := bl_ext (by simp only [bl_app, HH.out, HE1.out, HE2.out, List.append_assoc]; rfl)
    go_ret
    exact ⟨by rw [← key]; rfl, bthen hb1 hb2⟩
  · have HH := Lib.hid (hund_big hlt)
    have d1 : decide ((n : Int) % 100 < 10) = false := decide_eq_false (by omega)
    clear hlt
    go_enter Tryz.func53, Tryz.ntmps53
    go_wp2_with fail
    refine (N1.out _ ht).mono ?_
    rintro en w1 ⟨rfl, hb1⟩
    go_wp2_with fail
    refine (N2.out _ (ht.then hb1)).mono ?_
    rintro en w2 ⟨rfl, hb2⟩
    go_wp2_with fail
    have key : (t1 ++ ⟨#[46]⟩ ++ t2 : ByteArray) = ⟨(hundT n).toArray⟩ := bl_ext (by simp only [bl_app, HH.out, HE1.out, HE2.out, List.append_assoc]; rfl)
    go_ret
    exact ⟨by rw [← key]; rfl, bthen hb1 hb2⟩
end Go.Proofs.YtpjfidmapnnbkaaGreatDoor

/- OfficeLine, one side. -/
namespace Go.Proofs.YtpjfidmapnnbkaaGreatDoor
open Go.RowKit
set_option linter.unusedSimpArgs false
set_option linter.unusedVariables false

set_option maxRecDepth 100000 in
set_option maxHeartbeats 4000000 in
theorem l31Line_any (r : Row) (w : World) (hok : r.ok = true) :
    Calls Tryz.prog 26 #[r.val] w fun e w' => e = .returned (.string (lineO r)) ∧ Below w.heap.size w w' := by
  have hb := Row.ok_bounds hok
  clear hok
  obtain ⟨m, b, s, c, l⟩ := r
  simp only at hb
  obtain ⟨hm0, hm1, hb0, hb1', hs0, hs1, hc0, hc1, hl0, hl1⟩ := hb
  have b1 := (Below.refl w.heap.size w).alloc (Nat.le_refl _) (.cells #[.int .i64 m, .int .i64 b, .int .i64 s, .int .i64 c, .int .i64 l] 25)
  have L1 := Lies.new w 25 #[.int .i64 m, .int .i64 b, .int .i64 s, .int .i64 c, .int .i64 l]
  obtain ⟨t1, e1⟩ : ∃ t : ByteArray, t = ⟨(Lib.itoa m).toArray⟩ := ⟨_, rfl⟩
  have y1 : t1.size ≤ 100 := by rw [e1]; exact itoa_len (by omega) (by omega)
  have N1 : Hid (∀ W, Calls Tryz.prog 51 #[.int .i64 (m)] W fun e w' => e = .returned (.string t1) ∧ Below W.heap.size W w') := by rw [e1]; exact fun W => l1Num_any _ W (by omega) (by omega)
  have HE1 : Hid (bl t1 = Lib.itoa m) := by rw [Hid, e1, bl_mk]
  obtain ⟨t2, e2⟩ : ∃ t : ByteArray, t = ⟨(Lib.itoa b).toArray⟩ := ⟨_, rfl⟩
  have y2 : t2.size ≤ 100 := by rw [e2]; exact itoa_len (by omega) (by omega)
  have N2 : Hid (∀ W, Calls Tryz.prog 51 #[.int .i64 (b)] W fun e w' => e = .returned (.string t2) ∧ Below W.heap.size W w') := by rw [e2]; exact fun W => l1Num_any _ W (by omega) (by omega)
  have HE2 : Hid (bl t2 = Lib.itoa b) := by rw [Hid, e2, bl_mk]
  obtain ⟨t3, e3⟩ : ∃ t : ByteArray, t = ⟨(Lib.itoa s).toArray⟩ := ⟨_, rfl⟩
  have y3 : t3.size ≤ 100 := by rw [e3]; exact itoa_len (by omega) (by omega)
  have N3 : Hid (∀ W, Calls Tryz.prog 51 #[.int .i64 (s)] W fun e w' => e = .returned (.string t3) ∧ Below W.heap.size W w') := by rw [e3]; exact fun W => l1Num_any _ W (by omega) (by omega)
  have HE3 : Hid (bl t3 = Lib.itoa s) := by rw [Hid, e3, bl_mk]
  obtain ⟨t4, e4⟩ : ∃ t : ByteArray, t = ⟨(Lib.itoa l).toArray⟩ := ⟨_, rfl⟩
  have y4 : t4.size ≤ 100 := by rw [e4]; exact itoa_len (by omega) (by omega)
  have N4 : Hid (∀ W, Calls Tryz.prog 51 #[.int .i64 (l)] W fun e w' => e = .returned (.string t4) ∧ Below W.heap.size W w') := by rw [e4]; exact fun W => l1Num_any _ W (by omega) (by omega)
  have HE4 : Hid (bl t4 = Lib.itoa l) := by rw [Hid, e4, bl_mk]
  clear e1 e2 e3 e4
  obtain ⟨a, ha⟩ : ∃ a : Nat, a = c.natAbs := ⟨_, rfl⟩
  have haz : a ≤ 1000000 := by omega
  obtain ⟨t5, e5⟩ : ∃ t : ByteArray, t = ⟨(Lib.itoa ((a : Int) / 100)).toArray⟩ := ⟨_, rfl⟩
  have y5 : t5.size ≤ 100 := by rw [e5]; exact itoa_len (by omega) (by omega)
  have N5 : Hid (∀ W, Calls Tryz.prog 51 #[.int .i64 ((a : Int) / 100)] W fun e w' => e = .returned (.string t5) ∧ Below W.heap.size W w') := by rw [e5]; exact fun W => l1Num_any _ W (by omega) (by omega)
  have HE5 : Hid (bl t5 = Lib.itoa ((a : Int) / 100)) := by rw [Hid, e5, bl_mk]
  obtain ⟨t6, e6⟩ : ∃ t : ByteArray, t = ⟨(Lib.itoa ((a : Int) / 10 % 10)).toArray⟩ := ⟨_, rfl⟩
  have y6 : t6.size ≤ 100 := by rw [e6]; exact itoa_len (by omega) (by omega)
  have N6 : Hid (∀ W, Calls Tryz.prog 51 #[.int .i64 ((a : Int) / 10 % 10)] W fun e w' => e = .returned (.string t6) ∧ Below W.heap.size W w') := by rw [e6]; exact fun W => l1Num_any _ W (by omega) (by omega)
  have HE6 : Hid (bl t6 = Lib.itoa ((a : Int) / 10 % 10)) := by rw [Hid, e6, bl_mk]
  obtain ⟨t7, e7⟩ : ∃ t : ByteArray, t = ⟨(Lib.itoa ((a : Int) % 10)).toArray⟩ := ⟨_, rfl⟩
  have y7 : t7.size ≤ 100 := by rw [e7]; exact itoa_len (by omega) (by omega)
  have N7 : Hid (∀ W, Calls Tryz.prog 51 #[.int .i64 ((a : Int) % 10)] W fun e w' => e = .returned (.string t7) ∧ Below W.heap.size W w') := by rw [e7]; exact fun W => l1Num_any _ W (by omega) (by omega)
  have HE7 : Hid (bl t7 = Lib.itoa ((a : Int) % 10)) := by rw [Hid, e7, bl_mk]
  clear e5 e6 e7
  have v1 : (a : Int).tdiv 100 = (a : Int) / 100 := Int.tdiv_eq_ediv_of_nonneg (by omega)
  have v2 : (a : Int).tdiv 10 = (a : Int) / 10 := Int.tdiv_eq_ediv_of_nonneg (by omega)
  have v3 : ((a : Int) / 10).tmod 10 = (a : Int) / 10 % 10 := Int.tmod_eq_emod_of_nonneg (by omega)
  have v4 : (a : Int).tmod 10 = (a : Int) % 10 := Int.tmod_eq_emod_of_nonneg (by omega)
  have z1 : (⟨#[109]⟩ : ByteArray).size = 1 := rfl
  have z2 : (⟨#[58, 32, 43]⟩ : ByteArray).size = 3 := rfl
  have z3 : (⟨#[32, 45]⟩ : ByteArray).size = 2 := rfl
  have z4 : (⟨#[32, 112, 114, 111, 102, 105, 116, 32]⟩ : ByteArray).size = 8 := rfl
  have z5 : (⟨#[45]⟩ : ByteArray).size = 1 := rfl
  have z6 : (⟨#[46]⟩ : ByteArray).size = 1 := rfl
  have z7 : (⟨#[32]⟩ : ByteArray).size = 1 := rfl
  have z8 : (⟨#[32, 108, 101, 110, 116]⟩ : ByteArray).size = 5 := rfl
  go_enter Tryz.func26, Tryz.ntmps26
  go_wp2_with fail
  generalize w.alloc (.cells #[.int .i64 m, .int .i64 b, .int .i64 s, .int .i64 c, .int .i64 l] 25) = W at b1 L1 ⊢
  generalize hg : w.heap.size = g at L1 ⊢
  refine wp_region_facts (fun W9 => Lies W9 g 25 [.int .i64 m, .int .i64 b, .int .i64 s, .int .i64 c, .int .i64 l] ∧ Below w.heap.size w W9) (fun _ _ => True) (by kernel_rfl) (by kernel_rfl) (by kernel_rfl) ⟨L1.below (Below.refl _ _).drew L1.lt, b1.drew⟩ ?_
  simp only [fillOps, Act.put, List.setIfInBounds_toArray, List.set_cons_zero, List.set_cons_succ, Nat.zero_add, Nat.reduceAdd]
  refine wpFacts_val (.pointer (some ⟨g, 0, none⟩)) (fun vs w9 hC9 hB K9 hK9 => ?_) ?_
  · go_simp
    exact hK9 _ _ rfl hC9 trivial
  refine wpFacts_val (.int .i64 m) (fun vs w9 hC9 hB K9 hK9 => ?_) ?_
  · have hd0 := hB 0 _ (by kernel_rfl) rfl
    simp only [hd0] at hK9 ⊢
    have q0 : w9.cell? ⟨g, 0, none⟩ = some (.int .i64 m) := hC9.1.cell 0
    go_simp
    exact hK9 _ _ rfl hC9 trivial
  refine wpFacts_val (.string t1) (fun vs w9 hC9 hB K9 hK9 => ?_) ?_
  · have hd1 := hB 1 _ (by kernel_rfl) rfl
    simp only [hd1] at hK9 ⊢
    go_simp
    refine (N1.out _).mono ?_
    rintro en w8 ⟨rfl, hb8⟩
    exact hK9 _ _ rfl ⟨hC9.1.below hb8 hC9.1.lt, hC9.2.trans (hb8.mono hC9.2.size)⟩ trivial
  refine wpFacts_val (.string (⟨#[109]⟩ ++ t1)) (fun vs w9 hC9 hB K9 hK9 => ?_) ?_
  · have hd2 := hB 2 _ (by kernel_rfl) rfl
    simp only [hd2] at hK9 ⊢
    go_simp
    (first | (rw [if_neg (by omega)]; go_simp) | skip)
    exact hK9 _ _ rfl hC9 trivial
  refine wpFacts_val (.string (⟨#[109]⟩ ++ t1 ++ ⟨#[58, 32, 43]⟩)) (fun vs w9 hC9 hB K9 hK9 => ?_) ?_
  · have hd3 := hB 3 _ (by kernel_rfl) rfl
    simp only [hd3] at hK9 ⊢
    go_simp
    (first | (rw [if_neg (by omega)]; go_simp) | skip)
    exact hK9 _ _ rfl hC9 trivial
  refine wpFacts_val (.pointer (some ⟨g, 1, none⟩)) (fun vs w9 hC9 hB K9 hK9 => ?_) ?_
  · go_simp
    exact hK9 _ _ rfl hC9 trivial
  refine wpFacts_val (.int .i64 b) (fun vs w9 hC9 hB K9 hK9 => ?_) ?_
  · have hd5 := hB 5 _ (by kernel_rfl) rfl
    simp only [hd5] at hK9 ⊢
    have q0 : w9.cell? ⟨g, 1, none⟩ = some (.int .i64 b) := hC9.1.cell 1
    go_simp
    exact hK9 _ _ rfl hC9 trivial
  refine wpFacts_val (.string t2) (fun vs w9 hC9 hB K9 hK9 => ?_) ?_
  · have hd6 := hB 6 _ (by kernel_rfl) rfl
    simp only [hd6] at hK9 ⊢
    go_simp
    refine (N2.out _).mono ?_
    rintro en w8 ⟨rfl, hb8⟩
    exact hK9 _ _ rfl ⟨hC9.1.below hb8 hC9.1.lt, hC9.2.trans (hb8.mono hC9.2.size)⟩ trivial
  refine wpFacts_val (.string (⟨#[109]⟩ ++ t1 ++ ⟨#[58, 32, 43]⟩ ++ t2)) (fun vs w9 hC9 hB K9 hK9 => ?_) ?_
  · have hd4 := hB 4 _ (by kernel_rfl) rfl
    have hd7 := hB 7 _ (by kernel_rfl) rfl
    simp only [hd4, hd7] at hK9 ⊢
    go_simp
    (first | (rw [if_neg (by omega)]; go_simp) | skip)
    exact hK9 _ _ rfl hC9 trivial
  refine wpFacts_val (.string (⟨#[109]⟩ ++ t1 ++ ⟨#[58, 32, 43]⟩ ++ t2 ++ ⟨#[32, 45]⟩)) (fun vs w9 hC9 hB K9 hK9 => ?_) ?_
  · have hd8 := hB 8 _ (by kernel_rfl) rfl
    simp only [hd8] at hK9 ⊢
    go_simp
    (first | (rw [if_neg (by omega)]; go_simp) | skip)
    exact hK9 _ _ rfl hC9 trivial
  refine wpFacts_val (.pointer (some ⟨g, 2, none⟩)) (fun vs w9 hC9 hB K9 hK9 => ?_) ?_
  · go_simp
    exact hK9 _ _ rfl hC9 trivial
  refine wpFacts_val (.int .i64 s) (fun vs w9 hC9 hB K9 hK9 => ?_) ?_
  · have hd10 := hB 10 _ (by kernel_rfl) rfl
    simp only [hd10] at hK9 ⊢
    have q0 : w9.cell? ⟨g, 2, none⟩ = some (.int .i64 s) := hC9.1.cell 2
    go_simp
    exact hK9 _ _ rfl hC9 trivial
  refine wpFacts_val (.string t3) (fun vs w9 hC9 hB K9 hK9 => ?_) ?_
  · have hd11 := hB 11 _ (by kernel_rfl) rfl
    simp only [hd11] at hK9 ⊢
    go_simp
    refine (N3.out _).mono ?_
    rintro en w8 ⟨rfl, hb8⟩
    exact hK9 _ _ rfl ⟨hC9.1.below hb8 hC9.1.lt, hC9.2.trans (hb8.mono hC9.2.size)⟩ trivial
  refine wpFacts_val (.string (⟨#[109]⟩ ++ t1 ++ ⟨#[58, 32, 43]⟩ ++ t2 ++ ⟨#[32, 45]⟩ ++ t3)) (fun vs w9 hC9 hB K9 hK9 => ?_) ?_
  · have hd9 := hB 9 _ (by kernel_rfl) rfl
    have hd12 := hB 12 _ (by kernel_rfl) rfl
    simp only [hd9, hd12] at hK9 ⊢
    go_simp
    (first | (rw [if_neg (by omega)]; go_simp) | skip)
    exact hK9 _ _ rfl hC9 trivial
  refine wpFacts_val (.string (⟨#[109]⟩ ++ t1 ++ ⟨#[58, 32, 43]⟩ ++ t2 ++ ⟨#[32, 45]⟩ ++ t3 ++ ⟨#[32, 112, 114, 111, 102, 105, 116, 32]⟩)) (fun vs w9 hC9 hB K9 hK9 => ?_) ?_
  · have hd13 := hB 13 _ (by kernel_rfl) rfl
    simp only [hd13] at hK9 ⊢
    go_simp
    (first | (rw [if_neg (by omega)]; go_simp) | skip)
    exact hK9 _ _ rfl hC9 trivial
  refine wpFacts_val (.string (⟨#[109]⟩ ++ t1 ++ ⟨#[58, 32, 43]⟩ ++ t2 ++ ⟨#[32, 45]⟩ ++ t3 ++ ⟨#[32, 112, 114, 111, 102, 105, 116, 32]⟩)) (fun vs w9 hC9 hB K9 hK9 => ?_) ?_
  · have hd14 := hB 14 _ (by kernel_rfl) rfl
    simp only [hd14] at hK9 ⊢
    go_simp
    exact hK9 _ _ rfl hC9 trivial
  refine wpFacts_nil fun vs W2 hC9 hB => ?_
  have hd15 := hB 15 _ rfl
  simp only [hd15]
  obtain ⟨L2, B2⟩ := hC9
  have c3 := L2.cell 3
  have c4 := L2.cell 4
  simp only [List.getElem?_cons_zero, List.getElem?_cons_succ] at c3 c4
  obtain ⟨p, hp⟩ : ∃ p : ByteArray, p = ⟨#[109]⟩ ++ t1 ++ ⟨#[58, 32, 43]⟩ ++ t2 ++ ⟨#[32, 45]⟩ ++ t3 ++ ⟨#[32, 112, 114, 111, 102, 105, 116, 32]⟩ := ⟨_, rfl⟩
  have hpz : p.size ≤ 1000 := by rw [hp]; simp only [size_app, z1, z2, z3, z4]; omega
  have HP : Hid (bl p = [109] ++ Lib.itoa m ++ [58, 32, 43] ++ Lib.itoa b ++ [32, 45] ++ Lib.itoa s ++ [32, 112, 114, 111, 102, 105, 116, 32]) := by
    rw [Hid, hp]; simp only [bl_app, HE1.out, HE2.out, HE3.out]; rfl
  rw [← hp]
  clear hp hB hd15 L1
  by_cases hneg : c < 0
  · obtain rfl : c = -(a : Int) := by omega
    have hap : 0 < a := by omega
    have dn : decide (-(a : Int) < 0) = true := decide_eq_true hneg
    have dn2 : decide (0 < (a : Int)) = true := decide_eq_true (by omega)
    have dn3 : decide (0 < a) = true := decide_eq_true hap
    have HCn : Hid ((-(a : Int) < 0) = True) := eq_true hneg
    have HA : Hid ((-(a : Int)).natAbs = a) := ha.symm
    have HM1 : Hid (max (-(a : Int)) (a : Int) = (a : Int)) := by unfold Hid; omega
    have HM2 : Hid ((if -(a : Int) < (a : Int) then (a : Int) else -(a : Int)) = (a : Int)) := by unfold Hid; rw [if_pos (by omega)]
    clear ha hneg
    by_cases hl : 0 < l
    · have dl : decide (0 < l) = true := decide_eq_true hl
      have HLn : Hid ((0 < l) = True) := eq_true hl
      clear hl
      go_wp2_with fail
      refine (N5.out _).mono ?_
      rintro en w3 ⟨rfl, hb3⟩
      have L3 := L2.below hb3 L2.lt
      have B3 := B2.trans (hb3.mono B2.size)
      go_wp2_with fail
      refine (N6.out _).mono ?_
      rintro en w4 ⟨rfl, hb4⟩
      have L4 := L3.below hb4 L3.lt
      have B4 := B3.trans (hb4.mono B3.size)
      go_wp2_with fail
      refine (N7.out _).mono ?_
      rintro en w5 ⟨rfl, hb5⟩
      have L5 := L4.below hb5 L4.lt
      have B5 := B4.trans (hb5.mono B4.size)
      clear c3 c4
      have c3 := L5.cell 3
      have c4 := L5.cell 4
      simp only [List.getElem?_cons_zero, List.getElem?_cons_succ] at c3 c4
      go_wp2_with fail
      refine (N4.out _).mono ?_
      rintro en w6 ⟨rfl, hb6⟩
      have B6 := B5.trans (hb6.mono B5.size)
      go_wp2_with fail
      have key : (p ++ ⟨#[45]⟩ ++ t5 ++ ⟨#[46]⟩ ++ t6 ++ t7 ++ ⟨#[32]⟩ ++ t4 ++ ⟨#[32, 108, 101, 110, 116]⟩ : ByteArray) = lineO ⟨m, b, s, -(a : Int), l⟩ := bl_ext (l := lineT ⟨m, b, s, -(a : Int), l⟩) (by
        simp only [lineT, bl_app, HP.out, HE4.out, HE5.out, HE6.out, HE7.out, hundT_int, HCn.out, HA.out, HLn.out, if_true, if_false, List.append_assoc, List.append_nil, List.nil_append]
        try rfl)
      go_ret
      exact ⟨by rw [← key]; rfl, B6⟩
    · have dl : decide (0 < l) = false := decide_eq_false hl
      have HLn : Hid ((0 < l) = False) := eq_false hl
      clear hl
      go_wp2_with fail
      refine (N5.out _).mono ?_
      rintro en w3 ⟨rfl, hb3⟩
      have L3 := L2.below hb3 L2.lt
      have B3 := B2.trans (hb3.mono B2.size)
      go_wp2_with fail
      refine (N6.out _).mono ?_
      rintro en w4 ⟨rfl, hb4⟩
      have L4 := L3.below hb4 L3.lt
      have B4 := B3.trans (hb4.mono B3.size)
      go_wp2_with fail
      refine (N7.out _).mono ?_
      rintro en w5 ⟨rfl, hb5⟩
      have L5 := L4.below hb5 L4.lt
      have B5 := B4.trans (hb5.mono B4.size)
      clear c3 c4
      have c3 := L5.cell 3
      have c4 := L5.cell 4
      simp only [List.getElem?_cons_zero, List.getElem?_cons_succ] at c3 c4
      go_wp2_with fail
      have key : (p ++ ⟨#[45]⟩ ++ t5 ++ ⟨#[46]⟩ ++ t6 ++ t7 : ByteArray) = lineO ⟨m, b, s, -(a : Int), l⟩ := bl_ext (l := lineT ⟨m, b, s, -(a : Int), l⟩) (by
        simp only [lineT, bl_app, HP.out, HE4.out, HE5.out, HE6.out, HE7.out, hundT_int, HCn.out, HA.out, HLn.out, if_true, if_false, List.append_assoc, List.append_nil, List.nil_append]
        try rfl)
      go_ret
      exact ⟨by rw [← key]; rfl, B5⟩
  · obtain rfl : c = (a : Int) := by omega
    have dn : decide ((a : Int) < 0) = false := decide_eq_false hneg
    have HCn : Hid (((a : Int) < 0) = False) := eq_false hneg
    have HA : Hid ((a : Int).natAbs = a) := ha.symm
    have HM1 : Hid (max (a : Int) (-(a : Int)) = (a : Int)) := by unfold Hid; omega
    have HM2 : Hid ((if (a : Int) < -(a : Int) then -(a : Int) else (a : Int)) = (a : Int)) := by unfold Hid; rw [if_neg (by omega)]
    clear ha hneg
    by_cases hl : 0 < l
    · have dl : decide (0 < l) = true := decide_eq_true hl
      have HLn : Hid ((0 < l) = True) := eq_true hl
      clear hl
      go_wp2_with fail
      refine (N5.out _).mono ?_
      rintro en w3 ⟨rfl, hb3⟩
      have L3 := L2.below hb3 L2.lt
      have B3 := B2.trans (hb3.mono B2.size)
      go_wp2_with fail
      refine (N6.out _).mono ?_
      rintro en w4 ⟨rfl, hb4⟩
      have L4 := L3.below hb4 L3.lt
      have B4 := B3.trans (hb4.mono B3.size)
      go_wp2_with fail
      refine (N7.out _).mono ?_
      rintro en w5 ⟨rfl, hb5⟩
      have L5 := L4.below hb5 L4.lt
      have B5 := B4.trans (hb5.mono B4.size)
      clear c3 c4
      have c3 := L5.cell 3
      have c4 := L5.cell 4
      simp only [List.getElem?_cons_zero, List.getElem?_cons_succ] at c3 c4
      go_wp2_with fail
      refine (N4.out _).mono ?_
      rintro en w6 ⟨rfl, hb6⟩
      have B6 := B5.trans (hb6.mono B5.size)
      go_wp2_with fail
      have key : (p ++ t5 ++ ⟨#[46]⟩ ++ t6 ++ t7 ++ ⟨#[32]⟩ ++ t4 ++ ⟨#[32, 108, 101, 110, 116]⟩ : ByteArray) = lineO ⟨m, b, s, (a : Int), l⟩ := bl_ext (l := lineT ⟨m, b, s, (a : Int), l⟩) (by
        simp only [lineT, bl_app, HP.out, HE4.out, HE5.out, HE6.out, HE7.out, hundT_int, HCn.out, HA.out, HLn.out, if_true, if_false, List.append_assoc, List.append_nil, List.nil_append]
        try rfl)
      go_ret
      exact ⟨by rw [← key]; rfl, B6⟩
    · have dl : decide (0 < l) = false := decide_eq_false hl
      have HLn : Hid ((0 < l) = False) := eq_false hl
      clear hl
      go_wp2_with fail
      refine (N5.out _).mono ?_
      rintro en w3 ⟨rfl, hb3⟩
      have L3 := L2.below hb3 L2.lt
      have B3 := B2.trans (hb3.mono B2.size)
      go_wp2_with fail
      refine (N6.out _).mono ?_
      rintro en w4 ⟨rfl, hb4⟩
      have L4 := L3.below hb4 L3.lt
      have B4 := B3.trans (hb4.mono B3.size)
      go_wp2_with fail
      refine (N7.out _).mono ?_
      rintro en w5 ⟨rfl, hb5⟩
      have L5 := L4.below hb5 L4.lt
      have B5 := B4.trans (hb5.mono B4.size)
      clear c3 c4
      have c3 := L5.cell 3
      have c4 := L5.cell 4
      simp only [List.getElem?_cons_zero, List.getElem?_cons_succ] at c3 c4
      go_wp2_with fail
      have key : (p ++ t5 ++ ⟨#[46]⟩ ++ t6 ++ t7 : ByteArray) = lineO ⟨m, b, s, (a : Int), l⟩ := bl_ext (l := lineT ⟨m, b, s, (a : Int), l⟩) (by
        simp only [lineT, bl_app, HP.out, HE4.out, HE5.out, HE6.out, HE7.out, hundT_int, HCn.out, HA.out, HLn.out, if_true, if_false, List.append_assoc, List.append_nil, List.nil_append]
        try rfl)
      go_ret
      exact ⟨by rw [← key]; rfl, B5⟩
end Go.Proofs.YtpjfidmapnnbkaaGreatDoor

/- OfficeLine, one side. -/
namespace Go.Proofs.YtpjfidmapnnbkaaGreatDoor
open Go.RowKit
set_option linter.unusedSimpArgs false
set_option linter.unusedVariables false

set_option maxRecDepth 100000 in
set_option maxHeartbeats 4000000 in
theorem officeLine_any (r : Row) (w : World) (hok : r.ok = true) (ht : Tab w) :
    Calls Tryz.prog 24 #[r.val] w fun e w' => e = .returned (.string (lineO r)) ∧ Below w.heap.size w w' := by
  have hb := Row.ok_bounds hok
  clear hok
  obtain ⟨m, b, s, c, l⟩ := r
  simp only at hb
  obtain ⟨hm0, hm1, hb0, hb1', hs0, hs1, hc0, hc1, hl0, hl1⟩ := hb
  have b1 := (Below.refl w.heap.size w).alloc (Nat.le_refl _) (.cells #[.int .i64 m, .int .i64 b, .int .i64 s, .int .i64 c, .int .i64 l] 25)
  have L1 := Lies.new w 25 #[.int .i64 m, .int .i64 b, .int .i64 s, .int .i64 c, .int .i64 l]
  obtain ⟨t1, e1⟩ : ∃ t : ByteArray, t = ⟨(Lib.itoa m).toArray⟩ := ⟨_, rfl⟩
  have y1 : t1.size ≤ 100 := by rw [e1]; exact itoa_len (by omega) (by omega)
  have N1 : Hid (∀ W, Tab W → Calls Tryz.prog 49 #[.int .i64 (m)] W fun e w' => e = .returned (.string t1) ∧ Below W.heap.size W w') := by rw [e1]; exact fun W hW => itoa_any _ W (by omega) (by omega) hW
  have HE1 : Hid (bl t1 = Lib.itoa m) := by rw [Hid, e1, bl_mk]
  obtain ⟨t2, e2⟩ : ∃ t : ByteArray, t = ⟨(Lib.itoa b).toArray⟩ := ⟨_, rfl⟩
  have y2 : t2.size ≤ 100 := by rw [e2]; exact itoa_len (by omega) (by omega)
  have N2 : Hid (∀ W, Tab W → Calls Tryz.prog 49 #[.int .i64 (b)] W fun e w' => e = .returned (.string t2) ∧ Below W.heap.size W w') := by rw [e2]; exact fun W hW => itoa_any _ W (by omega) (by omega) hW
  have HE2 : Hid (bl t2 = Lib.itoa b) := by rw [Hid, e2, bl_mk]
  obtain ⟨t3, e3⟩ : ∃ t : ByteArray, t = ⟨(Lib.itoa s).toArray⟩ := ⟨_, rfl⟩
  have y3 : t3.size ≤ 100 := by rw [e3]; exact itoa_len (by omega) (by omega)
  have N3 : Hid (∀ W, Tab W → Calls Tryz.prog 49 #[.int .i64 (s)] W fun e w' => e = .returned (.string t3) ∧ Below W.heap.size W w') := by rw [e3]; exact fun W hW => itoa_any _ W (by omega) (by omega) hW
  have HE3 : Hid (bl t3 = Lib.itoa s) := by rw [Hid, e3, bl_mk]
  obtain ⟨t4, e4⟩ : ∃ t : ByteArray, t = ⟨(Lib.itoa l).toArray⟩ := ⟨_, rfl⟩
  have y4 : t4.size ≤ 100 := by rw [e4]; exact itoa_len (by omega) (by omega)
  have N4 : Hid (∀ W, Tab W → Calls Tryz.prog 49 #[.int .i64 (l)] W fun e w' => e = .returned (.string t4) ∧ Below W.heap.size W w') := by rw [e4]; exact fun W hW => itoa_any _ W (by omega) (by omega) hW
  have HE4 : Hid (bl t4 = Lib.itoa l) := by rw [Hid, e4, bl_mk]
  clear e1 e2 e3 e4
  obtain ⟨a, ha⟩ : ∃ a : Nat, a = c.natAbs := ⟨_, rfl⟩
  have haz : a ≤ 1000000 := by omega
  obtain ⟨t5, e5⟩ : ∃ t : ByteArray, t = ⟨(hundT a).toArray⟩ := ⟨_, rfl⟩
  have y5 : t5.size ≤ 301 := by rw [e5]; exact hund_len haz
  have N5 : Hid (∀ W, Tab W → Calls Tryz.prog 53 #[.int .i64 (a : Int)] W fun e w' => e = .returned (.string t5) ∧ Below W.heap.size W w') := by rw [e5]; exact fun W hW => hundredths_any a W haz hW
  have HE5 : Hid (bl t5 = hundT a) := by rw [Hid, e5, bl_mk]
  clear e5
  have z1 : (⟨#[109]⟩ : ByteArray).size = 1 := rfl
  have z2 : (⟨#[58, 32, 43]⟩ : ByteArray).size = 3 := rfl
  have z3 : (⟨#[32, 45]⟩ : ByteArray).size = 2 := rfl
  have z4 : (⟨#[32, 112, 114, 111, 102, 105, 116, 32]⟩ : ByteArray).size = 8 := rfl
  have z5 : (⟨#[45]⟩ : ByteArray).size = 1 := rfl
  have z6 : (⟨#[46]⟩ : ByteArray).size = 1 := rfl
  have z7 : (⟨#[32]⟩ : ByteArray).size = 1 := rfl
  have z8 : (⟨#[32, 108, 101, 110, 116]⟩ : ByteArray).size = 5 := rfl
  go_enter Tryz.func24, Tryz.ntmps24
  go_wp2_with fail
  generalize w.alloc (.cells #[.int .i64 m, .int .i64 b, .int .i64 s, .int .i64 c, .int .i64 l] 25) = W at b1 L1 ⊢
  generalize hg : w.heap.size = g at L1 ⊢
  refine wp_region_facts (fun W9 => Lies W9 g 25 [.int .i64 m, .int .i64 b, .int .i64 s, .int .i64 c, .int .i64 l] ∧ Below w.heap.size w W9) (fun _ _ => True) (by kernel_rfl) (by kernel_rfl) (by kernel_rfl) ⟨L1.below (Below.refl _ _).drew L1.lt, b1.drew⟩ ?_
  simp only [fillOps, Act.put, List.setIfInBounds_toArray, List.set_cons_zero, List.set_cons_succ, Nat.zero_add, Nat.reduceAdd]
  refine wpFacts_val (.pointer (some ⟨g, 0, none⟩)) (fun vs w9 hC9 hB K9 hK9 => ?_) ?_
  · go_simp
    exact hK9 _ _ rfl hC9 trivial
  refine wpFacts_val (.int .i64 m) (fun vs w9 hC9 hB K9 hK9 => ?_) ?_
  · have hd0 := hB 0 _ (by kernel_rfl) rfl
    simp only [hd0] at hK9 ⊢
    have q0 : w9.cell? ⟨g, 0, none⟩ = some (.int .i64 m) := hC9.1.cell 0
    go_simp
    exact hK9 _ _ rfl hC9 trivial
  refine wpFacts_val (.string t1) (fun vs w9 hC9 hB K9 hK9 => ?_) ?_
  · have hd1 := hB 1 _ (by kernel_rfl) rfl
    simp only [hd1] at hK9 ⊢
    go_simp
    refine (N1.out _ (ht.then hC9.2)).mono ?_
    rintro en w8 ⟨rfl, hb8⟩
    exact hK9 _ _ rfl ⟨hC9.1.below hb8 hC9.1.lt, hC9.2.trans (hb8.mono hC9.2.size)⟩ trivial
  refine wpFacts_val (.string (⟨#[109]⟩ ++ t1)) (fun vs w9 hC9 hB K9 hK9 => ?_) ?_
  · have hd2 := hB 2 _ (by kernel_rfl) rfl
    simp only [hd2] at hK9 ⊢
    go_simp
    (first | (rw [if_neg (by omega)]; go_simp) | skip)
    exact hK9 _ _ rfl hC9 trivial
  refine wpFacts_val (.string (⟨#[109]⟩ ++ t1 ++ ⟨#[58, 32, 43]⟩)) (fun vs w9 hC9 hB K9 hK9 => ?_) ?_
  · have hd3 := hB 3 _ (by kernel_rfl) rfl
    simp only [hd3] at hK9 ⊢
    go_simp
    (first | (rw [if_neg (by omega)]; go_simp) | skip)
    exact hK9 _ _ rfl hC9 trivial
  refine wpFacts_val (.pointer (some ⟨g, 1, none⟩)) (fun vs w9 hC9 hB K9 hK9 => ?_) ?_
  · go_simp
    exact hK9 _ _ rfl hC9 trivial
  refine wpFacts_val (.int .i64 b) (fun vs w9 hC9 hB K9 hK9 => ?_) ?_
  · have hd5 := hB 5 _ (by kernel_rfl) rfl
    simp only [hd5] at hK9 ⊢
    have q0 : w9.cell? ⟨g, 1, none⟩ = some (.int .i64 b) := hC9.1.cell 1
    go_simp
    exact hK9 _ _ rfl hC9 trivial
  refine wpFacts_val (.string t2) (fun vs w9 hC9 hB K9 hK9 => ?_) ?_
  · have hd6 := hB 6 _ (by kernel_rfl) rfl
    simp only [hd6] at hK9 ⊢
    go_simp
    refine (N2.out _ (ht.then hC9.2)).mono ?_
    rintro en w8 ⟨rfl, hb8⟩
    exact hK9 _ _ rfl ⟨hC9.1.below hb8 hC9.1.lt, hC9.2.trans (hb8.mono hC9.2.size)⟩ trivial
  refine wpFacts_val (.string (⟨#[109]⟩ ++ t1 ++ ⟨#[58, 32, 43]⟩ ++ t2)) (fun vs w9 hC9 hB K9 hK9 => ?_) ?_
  · have hd4 := hB 4 _ (by kernel_rfl) rfl
    have hd7 := hB 7 _ (by kernel_rfl) rfl
    simp only [hd4, hd7] at hK9 ⊢
    go_simp
    (first | (rw [if_neg (by omega)]; go_simp) | skip)
    exact hK9 _ _ rfl hC9 trivial
  refine wpFacts_val (.string (⟨#[109]⟩ ++ t1 ++ ⟨#[58, 32, 43]⟩ ++ t2 ++ ⟨#[32, 45]⟩)) (fun vs w9 hC9 hB K9 hK9 => ?_) ?_
  · have hd8 := hB 8 _ (by kernel_rfl) rfl
    simp only [hd8] at hK9 ⊢
    go_simp
    (first | (rw [if_neg (by omega)]; go_simp) | skip)
    exact hK9 _ _ rfl hC9 trivial
  refine wpFacts_val (.pointer (some ⟨g, 2, none⟩)) (fun vs w9 hC9 hB K9 hK9 => ?_) ?_
  · go_simp
    exact hK9 _ _ rfl hC9 trivial
  refine wpFacts_val (.int .i64 s) (fun vs w9 hC9 hB K9 hK9 => ?_) ?_
  · have hd10 := hB 10 _ (by kernel_rfl) rfl
    simp only [hd10] at hK9 ⊢
    have q0 : w9.cell? ⟨g, 2, none⟩ = some (.int .i64 s) := hC9.1.cell 2
    go_simp
    exact hK9 _ _ rfl hC9 trivial
  refine wpFacts_val (.string t3) (fun vs w9 hC9 hB K9 hK9 => ?_) ?_
  · have hd11 := hB 11 _ (by kernel_rfl) rfl
    simp only [hd11] at hK9 ⊢
    go_simp
    refine (N3.out _ (ht.then hC9.2)).mono ?_
    rintro en w8 ⟨rfl, hb8⟩
    exact hK9 _ _ rfl ⟨hC9.1.below hb8 hC9.1.lt, hC9.2.trans (hb8.mono hC9.2.size)⟩ trivial
  refine wpFacts_val (.string (⟨#[109]⟩ ++ t1 ++ ⟨#[58, 32, 43]⟩ ++ t2 ++ ⟨#[32, 45]⟩ ++ t3)) (fun vs w9 hC9 hB K9 hK9 => ?_) ?_
  · have hd9 := hB 9 _ (by kernel_rfl) rfl
    have hd12 := hB 12 _ (by kernel_rfl) rfl
    simp only [hd9, hd12] at hK9 ⊢
    go_simp
    (first | (rw [if_neg (by omega)]; go_simp) | skip)
    exact hK9 _ _ rfl hC9 trivial
  refine wpFacts_val (.string (⟨#[109]⟩ ++ t1 ++ ⟨#[58, 32, 43]⟩ ++ t2 ++ ⟨#[32, 45]⟩ ++ t3 ++ ⟨#[32, 112, 114, 111, 102, 105, 116, 32]⟩)) (fun vs w9 hC9 hB K9 hK9 => ?_) ?_
  · have hd13 := hB 13 _ (by kernel_rfl) rfl
    simp only [hd13] at hK9 ⊢
    go_simp
    (first | (rw [if_neg (by omega)]; go_simp) | skip)
    exact hK9 _ _ rfl hC9 trivial
  refine wpFacts_val (.string (⟨#[109]⟩ ++ t1 ++ ⟨#[58, 32, 43]⟩ ++ t2 ++ ⟨#[32, 45]⟩ ++ t3 ++ ⟨#[32, 112, 114, 111, 102, 105, 116, 32]⟩)) (fun vs w9 hC9 hB K9 hK9 => ?_) ?_
  · have hd14 := hB 14 _ (by kernel_rfl) rfl
    simp only [hd14] at hK9 ⊢
    go_simp
    exact hK9 _ _ rfl hC9 trivial
  refine wpFacts_nil fun vs W2 hC9 hB => ?_
  have hd15 := hB 15 _ rfl
  simp only [hd15]
  obtain ⟨L2, B2⟩ := hC9
  have c3 := L2.cell 3
  have c4 := L2.cell 4
  simp only [List.getElem?_cons_zero, List.getElem?_cons_succ] at c3 c4
  obtain ⟨p, hp⟩ : ∃ p : ByteArray, p = ⟨#[109]⟩ ++ t1 ++ ⟨#[58, 32, 43]⟩ ++ t2 ++ ⟨#[32, 45]⟩ ++ t3 ++ ⟨#[32, 112, 114, 111, 102, 105, 116, 32]⟩ := ⟨_, rfl⟩
  have hpz : p.size ≤ 1000 := by rw [hp]; simp only [size_app, z1, z2, z3, z4]; omega
  have HP : Hid (bl p = [109] ++ Lib.itoa m ++ [58, 32, 43] ++ Lib.itoa b ++ [32, 45] ++ Lib.itoa s ++ [32, 112, 114, 111, 102, 105, 116, 32]) := by
    rw [Hid, hp]; simp only [bl_app, HE1.out, HE2.out, HE3.out]; rfl
  rw [← hp]
  clear hp hB hd15 L1
  by_cases hneg : c < 0
  · obtain rfl : c = -(a : Int) := by omega
    have hap : 0 < a := by omega
    have dn : decide (-(a : Int) < 0) = true := decide_eq_true hneg
    have dn2 : decide (0 < (a : Int)) = true := decide_eq_true (by omega)
    have dn3 : decide (0 < a) = true := decide_eq_true hap
    have HCn : Hid ((-(a : Int) < 0) = True) := eq_true hneg
    have HA : Hid ((-(a : Int)).natAbs = a) := ha.symm
    have HM1 : Hid (max (-(a : Int)) (a : Int) = (a : Int)) := by unfold Hid; omega
    have HM2 : Hid ((if -(a : Int) < (a : Int) then (a : Int) else -(a : Int)) = (a : Int)) := by unfold Hid; rw [if_pos (by omega)]
    clear ha hneg
    by_cases hl : 0 < l
    · have dl : decide (0 < l) = true := decide_eq_true hl
      have HLn : Hid ((0 < l) = True) := eq_true hl
      clear hl
      go_wp2_with fail
      first | rw [HM1.out] | rw [HM2.out] | skip
      refine (N5.out _ (ht.then B2)).mono ?_
      rintro en w3 ⟨rfl, hb3⟩
      have L3 := L2.below hb3 L2.lt
      have B3 := B2.trans (hb3.mono B2.size)
      clear c3 c4
      have c3 := L3.cell 3
      have c4 := L3.cell 4
      simp only [List.getElem?_cons_zero, List.getElem?_cons_succ] at c3 c4
      go_wp2_with fail
      refine (N4.out _ (ht.then B3)).mono ?_
      rintro en w4 ⟨rfl, hb4⟩
      have B4 := B3.trans (hb4.mono B3.size)
      go_wp2_with fail
      have key : (p ++ ⟨#[45]⟩ ++ t5 ++ (⟨#[32]⟩ ++ t4 ++ ⟨#[32, 108, 101, 110, 116]⟩) : ByteArray) = lineO ⟨m, b, s, -(a : Int), l⟩ := bl_ext (l := lineT ⟨m, b, s, -(a : Int), l⟩) (by
        simp only [lineT, bl_app, HP.out, HE4.out, HE5.out, HCn.out, HA.out, HLn.out, if_true, if_false, List.append_assoc, List.append_nil, List.nil_append]
        try rfl)
      go_ret
      exact ⟨by rw [← key]; rfl, B4⟩
    · have dl : decide (0 < l) = false := decide_eq_false hl
      have HLn : Hid ((0 < l) = False) := eq_false hl
      clear hl
      go_wp2_with fail
      first | rw [HM1.out] | rw [HM2.out] | skip
      refine (N5.out _ (ht.then B2)).mono ?_
      rintro en w3 ⟨rfl, hb3⟩
      have L3 := L2.below hb3 L2.lt
      have B3 := B2.trans (hb3.mono B2.size)
      clear c3 c4
      have c3 := L3.cell 3
      have c4 := L3.cell 4
      simp only [List.getElem?_cons_zero, List.getElem?_cons_succ] at c3 c4
      go_wp2_with fail
      have key : (p ++ ⟨#[45]⟩ ++ t5 : ByteArray) = lineO ⟨m, b, s, -(a : Int), l⟩ := bl_ext (l := lineT ⟨m, b, s, -(a : Int), l⟩) (by
        simp only [lineT, bl_app, HP.out, HE4.out, HE5.out, HCn.out, HA.out, HLn.out, if_true, if_false, List.append_assoc, List.append_nil, List.nil_append]
        try rfl)
      go_ret
      exact ⟨by rw [← key]; rfl, B3⟩
  · obtain rfl : c = (a : Int) := by omega
    have dn : decide ((a : Int) < 0) = false := decide_eq_false hneg
    have HCn : Hid (((a : Int) < 0) = False) := eq_false hneg
    have HA : Hid ((a : Int).natAbs = a) := ha.symm
    have HM1 : Hid (max (a : Int) (-(a : Int)) = (a : Int)) := by unfold Hid; omega
    have HM2 : Hid ((if (a : Int) < -(a : Int) then -(a : Int) else (a : Int)) = (a : Int)) := by unfold Hid; rw [if_neg (by omega)]
    clear ha hneg
    by_cases hl : 0 < l
    · have dl : decide (0 < l) = true := decide_eq_true hl
      have HLn : Hid ((0 < l) = True) := eq_true hl
      clear hl
      go_wp2_with fail
      first | rw [HM1.out] | rw [HM2.out] | skip
      refine (N5.out _ (ht.then B2)).mono ?_
      rintro en w3 ⟨rfl, hb3⟩
      have L3 := L2.below hb3 L2.lt
      have B3 := B2.trans (hb3.mono B2.size)
      clear c3 c4
      have c3 := L3.cell 3
      have c4 := L3.cell 4
      simp only [List.getElem?_cons_zero, List.getElem?_cons_succ] at c3 c4
      go_wp2_with fail
      refine (N4.out _ (ht.then B3)).mono ?_
      rintro en w4 ⟨rfl, hb4⟩
      have B4 := B3.trans (hb4.mono B3.size)
      go_wp2_with fail
      have key : (p ++ t5 ++ (⟨#[32]⟩ ++ t4 ++ ⟨#[32, 108, 101, 110, 116]⟩) : ByteArray) = lineO ⟨m, b, s, (a : Int), l⟩ := bl_ext (l := lineT ⟨m, b, s, (a : Int), l⟩) (by
        simp only [lineT, bl_app, HP.out, HE4.out, HE5.out, HCn.out, HA.out, HLn.out, if_true, if_false, List.append_assoc, List.append_nil, List.nil_append]
        try rfl)
      go_ret
      exact ⟨by rw [← key]; rfl, B4⟩
    · have dl : decide (0 < l) = false := decide_eq_false hl
      have HLn : Hid ((0 < l) = False) := eq_false hl
      clear hl
      go_wp2_with fail
      first | rw [HM1.out] | rw [HM2.out] | skip
      refine (N5.out _ (ht.then B2)).mono ?_
      rintro en w3 ⟨rfl, hb3⟩
      have L3 := L2.below hb3 L2.lt
      have B3 := B2.trans (hb3.mono B2.size)
      clear c3 c4
      have c3 := L3.cell 3
      have c4 := L3.cell 4
      simp only [List.getElem?_cons_zero, List.getElem?_cons_succ] at c3 c4
      go_wp2_with fail
      have key : (p ++ t5 : ByteArray) = lineO ⟨m, b, s, (a : Int), l⟩ := bl_ext (l := lineT ⟨m, b, s, (a : Int), l⟩) (by
        simp only [lineT, bl_app, HP.out, HE4.out, HE5.out, HCn.out, HA.out, HLn.out, if_true, if_false, List.append_assoc, List.append_nil, List.nil_append]
        try rfl)
      go_ret
      exact ⟨by rw [← key]; rfl, B3⟩
end Go.Proofs.YtpjfidmapnnbkaaGreatDoor

/- OfficeLine: the law. -/
namespace Go.Proofs.YtpjfidmapnnbkaaGreatDoor
open Go.RowKit

def lineV (r : Row) : ByteArray := if r.ok then lineO r else ⟨#[]⟩

set_option maxHeartbeats 1000000 in
theorem specOfficeLine_any (r : Row) (w : World) :
    Calls Tryz.prog 7 #[r.val] w fun e w' => e = .returned (.tuple #[.string (lineV r), .bool r.ok]) ∧ Below w.heap.size w w' := by
  have b1 := (Below.refl w.heap.size w).alloc (Nat.le_refl _) (.cells #[.int .i64 r.m, .int .i64 r.b, .int .i64 r.s, .int .i64 r.c, .int .i64 r.l] 25)
  have L1 := Lies.new w 25 #[.int .i64 r.m, .int .i64 r.b, .int .i64 r.s, .int .i64 r.c, .int .i64 r.l]
  go_enter Tryz.func7, Tryz.ntmps7
  go_wp2_with fail
  generalize w.alloc (.cells #[.int .i64 r.m, .int .i64 r.b, .int .i64 r.s, .int .i64 r.c, .int .i64 r.l] 25) = W at b1 L1 ⊢
  generalize hg : w.heap.size = g at L1 ⊢
  refine (l31One_any r _).mono ?_
  rintro e w2 ⟨rfl, hb2⟩
  have L2 := L1.below hb2 L1.lt
  have c0 := L2.cell 0
  have c1 := L2.cell 1
  have c2 := L2.cell 2
  have c3 := L2.cell 3
  have c4 := L2.cell 4
  simp only [List.getElem?_cons_zero, List.getElem?_cons_succ] at c0 c1 c2 c3 c4
  have hbb : Below w.heap.size w w2 := by rw [← hg] at *; exact bthen b1 hb2
  clear L1 L2
  cases hok : r.ok
  · have HV : Hid (lineV r = ⟨#[]⟩) := by unfold lineV Hid; rw [hok]; rfl
    have HK := Lib.hid hok
    clear hok
    go_wp2_with fail
    go_ret2
    exact ⟨by rw [HK.out, HV.out]; rfl, hbb⟩
  · have HL := Lib.hid (l31Line_any r w2 hok)
    have HV : Hid (lineV r = lineO r) := by unfold lineV Hid; rw [hok]; rfl
    have HK := Lib.hid hok
    clear hok
    go_wp2_with fail
    refine (HL.out).mono ?_
    rintro e w3 ⟨rfl, hb3⟩
    go_wp2_with fail
    go_ret2
    exact ⟨by rw [HK.out, HV.out]; rfl, bthen hbb hb3⟩

set_option maxHeartbeats 1000000 in
theorem implOfficeLine_any (r : Row) (w : World) (ht : Tab w) :
    Calls Tryz.prog 6 #[r.val] w fun e w' => e = .returned (.tuple #[.string (lineV r), .bool r.ok]) ∧ Below w.heap.size w w' := by
  have b1 := (Below.refl w.heap.size w).alloc (Nat.le_refl _) (.cells #[.int .i64 r.m, .int .i64 r.b, .int .i64 r.s, .int .i64 r.c, .int .i64 r.l] 25)
  have L1 := Lies.new w 25 #[.int .i64 r.m, .int .i64 r.b, .int .i64 r.s, .int .i64 r.c, .int .i64 r.l]
  go_enter Tryz.func6, Tryz.ntmps6
  go_wp2_with fail
  generalize w.alloc (.cells #[.int .i64 r.m, .int .i64 r.b, .int .i64 r.s, .int .i64 r.c, .int .i64 r.l] 25) = W at b1 L1 ⊢
  generalize hg : w.heap.size = g at L1 ⊢
  refine (isOfficeRow_any r _).mono ?_
  rintro e w2 ⟨rfl, hb2⟩
  have L2 := L1.below hb2 L1.lt
  have c0 := L2.cell 0
  have c1 := L2.cell 1
  have c2 := L2.cell 2
  have c3 := L2.cell 3
  have c4 := L2.cell 4
  simp only [List.getElem?_cons_zero, List.getElem?_cons_succ] at c0 c1 c2 c3 c4
  have hbb : Below w.heap.size w w2 := by rw [← hg] at *; exact bthen b1 hb2
  clear L1 L2
  cases hok : r.ok
  · have HV : Hid (lineV r = ⟨#[]⟩) := by unfold lineV Hid; rw [hok]; rfl
    have HK := Lib.hid hok
    clear hok
    go_wp2_with fail
    go_ret2
    exact ⟨by rw [HK.out, HV.out]; rfl, hbb⟩
  · have HL := Lib.hid (officeLine_any r w2 hok (ht.then hbb))
    have HV : Hid (lineV r = lineO r) := by unfold lineV Hid; rw [hok]; rfl
    have HK := Lib.hid hok
    clear hok
    go_wp2_with fail
    refine (HL.out).mono ?_
    rintro e w3 ⟨rfl, hb3⟩
    go_wp2_with fail
    go_ret2
    exact ⟨by rw [HK.out, HV.out]; rfl, bthen hbb hb3⟩

end Go.Proofs.YtpjfidmapnnbkaaGreatDoor

/- Texts of numbers of at most six digits (plain). -/
namespace Go.Proofs.YtpjfidmapnnbkaaGreatDoor

def Six (n : Int) : Prop := -999999 ≤ n ∧ n ≤ 999999
theorem digitVal_digit {d : Nat} (h : d < 10) : Lib.digitVal (UInt8.ofNat (48 + d)) = some d := by
  have : (UInt8.ofNat (48 + d)).toNat = 48 + d := by simp [UInt8.toNat_ofNat']; omega
  unfold Lib.digitVal
  rw [this, if_pos (by omega)]
  congr 1; omega
theorem decFrom_app : ∀ (l r : List UInt8) (acc m : Nat), Lib.decFrom acc l = some m → Lib.decFrom acc (l ++ r) = Lib.decFrom m r
  | [], r, acc, m, h => by simp only [Lib.decFrom, Option.some.injEq] at h; subst h; rfl
  | b :: l, r, acc, m, h => by
    simp only [List.cons_append, Lib.decFrom] at h ⊢
    cases hb : Lib.digitVal b with
    | none => rw [hb] at h; cases h
    | some d => rw [hb] at h; exact decFrom_app l r _ _ h
theorem decFrom_dec (n : Nat) : Lib.decFrom 0 (Lib.decDigits n) = some n := by
  induction n using Nat.strongRecOn with
  | _ n ih =>
    rw [Lib.decDigits]
    by_cases h : n < 10
    · rw [dif_pos h]
      simp only [Lib.decFrom, digitVal_digit h]
      congr 1; omega
    · rw [dif_neg h, decFrom_app _ _ _ _ (ih (n / 10) (by omega))]
      simp only [Lib.decFrom, digitVal_digit (Nat.mod_lt n (by omega : 0 < 10))]
      congr 1; omega
theorem dec_ne (n : Nat) : Lib.decDigits n ≠ [] := by
  intro h
  have h1 := Lib.decDigits_length n
  have h2 := Lib.nDigits_pos n
  rw [h] at h1; simp at h1; omega
theorem dec_digit (n : Nat) : ∀ b ∈ Lib.decDigits n, 48 ≤ b.toNat ∧ b.toNat ≤ 57 := by
  intro b hb
  obtain ⟨k, hk, e⟩ := List.getElem_of_mem hb
  obtain ⟨d, hd⟩ := Lib.digit_of_decFrom _ _ _ (decFrom_dec n) k b (by rw [List.getElem?_eq_getElem hk, e])
  have := Lib.digitVal_eq hd
  omega
theorem decNat_dec (n : Nat) : Lib.decNat (Lib.decDigits n) = some n := by
  unfold Lib.decNat
  rw [if_neg (by simp [dec_ne])]
  exact decFrom_dec n
theorem atoi_itoa (n : Int) : Lib.atoi (Lib.itoa n) = some n := by
  unfold Lib.itoa
  by_cases h : n < 0
  · rw [if_pos h]
    simp only [Lib.atoi, beq_self_eq_true, if_true, decNat_dec, Option.map_some, Option.some.injEq]
    omega
  · rw [if_neg h]
    obtain ⟨m, rfl⟩ := Int.eq_ofNat_of_zero_le (by omega : 0 ≤ n)
    rw [Int.toNat_natCast]
    cases hd : Lib.decDigits m with
    | nil => exact absurd hd (dec_ne m)
    | cons b r =>
      have hb := dec_digit m b (by rw [hd]; simp)
      have h1 : (b == 45) = false := by
        rw [beq_eq_false_iff_ne]; intro e; subst e; have : (45 : UInt8).toNat = 45 := rfl; omega
      have h2 : (b == 43) = false := by
        rw [beq_eq_false_iff_ne]; intro e; subst e; have : (43 : UInt8).toNat = 43 := rfl; omega
      simp only [Lib.atoi, h1, h2, Bool.false_eq_true, if_false]
      rw [← hd, decNat_dec]
      rfl
theorem itoa_inj {n m : Int} (h : Lib.itoa n = Lib.itoa m) : n = m := by
  have := atoi_itoa n
  rw [h, atoi_itoa m] at this
  exact (Option.some.inj this).symm
theorem nDigits_six {n : Nat} (h : n ≤ 999999) : Lib.nDigits n ≤ 6 := by
  by_cases h0 : n = 0
  · subst h0; rw [Lib.nDigits_small (by omega)]; omega
  · have h1 := Lib.nDigits_pos n
    by_cases h2 : Lib.nDigits n ≤ 6
    · exact h2
    · exfalso
      have key : ∀ (k n : Nat), n < 10 ^ (k + 1) → Lib.nDigits n ≤ k + 1 := by
        intro k
        induction k with
        | zero => intro n hn; rw [Lib.nDigits_small (by simpa using hn)]; omega
        | succ k ih =>
          intro n hn
          by_cases hs : n < 10
          · rw [Lib.nDigits_small hs]; omega
          · rw [Lib.nDigits_big hs]
            have := ih (n / 10) (Nat.div_lt_of_lt_mul (by rw [Nat.mul_comm, ← Nat.pow_succ]; exact hn))
            omega
      exact h2 (key 5 n (by omega))
theorem itoa_six {n : Int} (h : Six n) : 1 ≤ (Lib.itoa n).length ∧ (Lib.itoa n).length ≤ 7 := by
  unfold Lib.itoa
  obtain ⟨h1, h2⟩ := h
  split
  · have := nDigits_six (n := n.natAbs) (by omega)
    rw [List.length_cons, Lib.decDigits_length]; omega
  · have := nDigits_six (n := n.toNat) (by omega)
    have h3 := Lib.nDigits_pos n.toNat
    rw [Lib.decDigits_length]; omega
open Classical in
/-- The number of at most six digits of which this is the text. -/
noncomputable def numF (s : List UInt8) : Option Int := if h : ∃ n, Six n ∧ Lib.itoa n = s then some h.choose else none
theorem numF_some {n : Int} (h : Six n) : numF (Lib.itoa n) = some n := by
  have hex : ∃ m, Six m ∧ Lib.itoa m = Lib.itoa n := ⟨n, h, rfl⟩
  unfold numF
  rw [dif_pos hex]
  exact congrArg some (itoa_inj hex.choose_spec.2)
theorem numF_eq {n : Int} {s : List UInt8} (h : Six n) (e : Lib.itoa n = s) : numF s = some n := e ▸ numF_some h
theorem numF_is {n : Int} {s : List UInt8} (h : numF s = some n) : Six n ∧ Lib.itoa n = s := by
  by_cases hex : ∃ m, Six m ∧ Lib.itoa m = s
  · unfold numF at h
    rw [dif_pos hex] at h
    have := hex.choose_spec
    rw [Option.some.inj h] at this
    exact this
  · unfold numF at h
    rw [dif_neg hex] at h; cases h
theorem numF_none {s : List UInt8} (h : ∀ n, Six n → Lib.itoa n ≠ s) : numF s = none := by
  unfold numF; rw [dif_neg (fun ⟨n, h1, h2⟩ => h n h1 h2)]
/-- Atoi of the text of such a number. -/
theorem atoiAll_six {n : Int} (h : Six n) : Lib.atoiAll (Lib.itoa n) = .ok n := by
  rw [Lib.atoiAll_short _ (by have := itoa_six h; omega), atoi_itoa]; rfl
/-- What l1Read asks of the digits. -/
theorem num_read {s : List UInt8} {n : Int} (h : Six n) (e : Lib.itoa n = s) :
    (n < 0 ∧ ∃ t, s = 45 :: t ∧ 1 ≤ t.length ∧ t.length ≤ 6 ∧ Lib.decFrom 0 t = some n.natAbs) ∨ (0 ≤ n ∧ s.head? ≠ some 45 ∧ 1 ≤ s.length ∧ s.length ≤ 6 ∧ Lib.decFrom 0 s = some n.natAbs) := by
  obtain ⟨h1, h2⟩ := h
  unfold Lib.itoa at e
  by_cases hn : n < 0
  · left
    rw [if_pos hn] at e
    have h3 := nDigits_six (n := n.natAbs) (by omega)
    have h4 := Lib.nDigits_pos n.natAbs
    exact ⟨hn, _, e.symm, by rw [Lib.decDigits_length]; omega, by rw [Lib.decDigits_length]; omega, decFrom_dec _⟩
  · right
    rw [if_neg hn] at e
    have h3 := nDigits_six (n := n.toNat) (by omega)
    have h4 := Lib.nDigits_pos n.toNat
    have h5 : n.natAbs = n.toNat := by omega
    subst e
    refine ⟨by omega, ?_, by rw [Lib.decDigits_length]; omega, by rw [Lib.decDigits_length]; omega, by rw [h5]; exact decFrom_dec _⟩
    intro hh
    have hm : (45 : UInt8) ∈ Lib.decDigits n.toNat := List.mem_of_mem_head? hh
    have := dec_digit _ _ hm
    have h6 : (45 : UInt8).toNat = 45 := rfl
    omega
end Go.Proofs.YtpjfidmapnnbkaaGreatDoor

/- The parts of a text between bytes (plain). -/
namespace Go.Proofs.YtpjfidmapnnbkaaGreatDoor

def partsL (b : UInt8) : List UInt8 → List UInt8 → List (List UInt8)
  | cur, [] => [cur]
  | cur, x :: l => if x = b then cur :: partsL b [] l else partsL b (cur ++ [x]) l
def splitL (b : UInt8) (s : List UInt8) : List (List UInt8) := partsL b [] s
theorem parts_free {b : UInt8} : ∀ {l cur : List UInt8}, b ∉ l → partsL b cur l = [cur ++ l]
  | [], _, _ => by simp [partsL]
  | x :: l, cur, h => by
    simp only [List.mem_cons, not_or] at h
    rw [partsL, if_neg (Ne.symm h.1), parts_free h.2]; simp
theorem parts_mid {b : UInt8} {r : List UInt8} : ∀ {t cur : List UInt8}, b ∉ t → partsL b cur (t ++ b :: r) = (cur ++ t) :: partsL b [] r
  | [], _, _ => by simp [partsL]
  | x :: t, cur, h => by
    simp only [List.mem_cons, not_or] at h
    rw [List.cons_append, partsL, if_neg (Ne.symm h.1), parts_mid h.2]; simp
theorem split_free {b : UInt8} {l : List UInt8} (h : b ∉ l) : splitL b l = [l] := by unfold splitL; rw [parts_free h]; rfl
theorem split_mid {b : UInt8} {t r : List UInt8} (h : b ∉ t) : splitL b (t ++ b :: r) = t :: splitL b r := by unfold splitL; rw [parts_mid h]; rfl
theorem parts_ne (b : UInt8) : ∀ (l cur : List UInt8), partsL b cur l ≠ []
  | [], _ => by simp [partsL]
  | x :: l, cur => by
    unfold partsL; split
    · simp
    · exact parts_ne b l _
theorem parts_len (b : UInt8) : ∀ (l cur : List UInt8), (partsL b cur l).length ≤ l.length + 1
  | [], _ => by simp [partsL]
  | x :: l, cur => by
    unfold partsL; split
    · have := parts_len b l []; simp; omega
    · have := parts_len b l (cur ++ [x]); simp; omega
theorem parts_mem {b : UInt8} {t : List UInt8} : ∀ (l cur : List UInt8), t ∈ partsL b cur l → t.length ≤ cur.length + l.length
  | [], cur, h => by simp only [partsL, List.mem_singleton] at h; subst h; simp
  | x :: l, cur, h => by
    unfold partsL at h; split at h
    · rcases List.mem_cons.1 h with h | h
      · subst h; omega
      · have := parts_mem l [] h; simp at this ⊢; omega
    · have := parts_mem l _ h; simp at this ⊢; omega
theorem split_head (b : UInt8) (s : List UInt8) : ∃ ps, splitL b s = bef b s :: ps ∧ (ps = [] ↔ b ∉ s) := by
  rcases bef_or b s with ⟨h1, h2⟩ | ⟨r, h⟩
  · exact ⟨[], by rw [split_free h1, h2], by simp [h1]⟩
  · refine ⟨splitL b r, ?_, ?_⟩
    · have h1 := split_mid (r := r) (bef_not b s)
      rw [← h] at h1; exact h1
    · constructor
      · intro e; exact absurd e (parts_ne b r [])
      · intro hn; exact absurd (by rw [h]; simp) hn
end Go.Proofs.YtpjfidmapnnbkaaGreatDoor

/- A row is read back from its line, in the program's way and in the reference's (plain). -/
namespace Go.Proofs.YtpjfidmapnnbkaaGreatDoor

theorem itoa_free' {n : Int} {b : UInt8} (h : b.toNat < 45 ∨ 57 < b.toNat) : b ∉ Lib.itoa n := by
  unfold Lib.itoa
  split
  · intro hm
    rcases List.mem_cons.1 hm with e | e
    · subst e
      have h45 : (45 : UInt8).toNat = 45 := rfl
      omega
    · have := dec_digit _ _ e; omega
  · intro hm
    have := dec_digit _ _ hm; omega
theorem itoa_dot {n : Int} : (46 : UInt8) ∉ Lib.itoa n := by
  have h46 : (46 : UInt8).toNat = 46 := rfl
  unfold Lib.itoa
  split
  · intro hm
    rcases List.mem_cons.1 hm with e | e
    · exact absurd e (by decide)
    · have := dec_digit _ _ e; omega
  · intro hm
    have := dec_digit _ _ hm; omega
theorem itoa_pos {c : Int} : 1 ≤ (Lib.itoa c).length := by
  unfold Lib.itoa
  split
  · simp
  · rw [Lib.decDigits_length]; exact Lib.nDigits_pos _
theorem nDigits_pow (k : Nat) : ∀ n : Nat, n < 10 ^ (k + 1) → Lib.nDigits n ≤ k + 1 := by
  induction k with
  | zero => intro n hn; rw [Lib.nDigits_small (by simpa using hn)]; omega
  | succ k ih =>
    intro n hn
    by_cases hs : n < 10
    · rw [Lib.nDigits_small hs]; omega
    · rw [Lib.nDigits_big hs]
      have := ih (n / 10) (Nat.div_lt_of_lt_mul (by rw [Nat.mul_comm, ← Nat.pow_succ]; exact hn))
      omega
theorem itoa_pow {n : Int} (k : Nat) (h0 : 0 ≤ n) (h : n < ((10 ^ (k + 1) : Nat) : Int)) : (Lib.itoa n).length ≤ k + 1 := by
  unfold Lib.itoa
  rw [if_neg (by omega), Lib.decDigits_length]
  exact nDigits_pow k _ (by omega)
/-- The number of a text, or 0. -/
noncomputable def numD (t : List UInt8) : Int := (numF t).getD 0
theorem numD_itoa {n : Int} (h : Six n) : numD (Lib.itoa n) = n := by unfold numD; rw [numF_some h]; rfl
theorem numD_six (t : List UInt8) : Six (numD t) := by
  unfold numD
  cases h : numF t with
  | none => exact ⟨by simp, by simp⟩
  | some n => exact (numF_is h).1
/-- The text of a number of cents. -/
def centT (c : Int) : List UInt8 := (if c < 0 then [45] else []) ++ hundT c.natAbs
theorem lineT_eq (r : Row) : lineT r = ([109] ++ Lib.itoa r.m ++ [58]) ++ 32 :: (([43] ++ Lib.itoa r.b) ++ 32 :: (([45] ++ Lib.itoa r.s) ++ 32 :: ([112, 114, 111, 102, 105, 116] ++ 32 :: (centT r.c ++ (if 0 < r.l then 32 :: (Lib.itoa r.l ++ 32 :: [108, 101, 110, 116]) else []))))) := by
  unfold lineT centT
  by_cases h : 0 < r.l
  · rw [if_pos h, if_pos h]; simp
  · rw [if_neg h, if_neg h]; simp
theorem hund_free {n : Nat} {b : UInt8} (h : b.toNat < 45) : b ∉ hundT n := by
  unfold hundT
  simp only [List.mem_append, List.mem_singleton, not_or]
  refine ⟨itoa_free' (.inl h), ?_, itoa_free' (.inl h), itoa_free' (.inl h)⟩
  intro e; subst e; have : (46 : UInt8).toNat = 46 := rfl; omega
theorem cent_free {c : Int} {b : UInt8} (h : b.toNat < 45) : b ∉ centT c := by
  unfold centT
  rw [List.mem_append, not_or]
  refine ⟨?_, hund_free h⟩
  split
  · intro e; rw [List.mem_singleton] at e; subst e; have : (45 : UInt8).toNat = 45 := rfl; omega
  · simp
/-- The words of a line. -/
theorem line_words (r : Row) : splitL 32 (lineT r) = [[109] ++ Lib.itoa r.m ++ [58], [43] ++ Lib.itoa r.b, [45] ++ Lib.itoa r.s, [112, 114, 111, 102, 105, 116], centT r.c] ++ (if 0 < r.l then [Lib.itoa r.l, [108, 101, 110, 116]] else []) := by
  have f : ∀ n : Int, (32 : UInt8) ∉ Lib.itoa n := fun n => itoa_free' (by decide)
  rw [lineT_eq]
  rw [split_mid (by simp [f])]
  rw [split_mid (by simp [f])]
  rw [split_mid (by simp [f])]
  rw [split_mid (by decide)]
  by_cases h : 0 < r.l
  · rw [if_pos h, if_pos h, split_mid (cent_free (by decide)), split_mid (f _), split_free (by decide)]; rfl
  · rw [if_neg h, if_neg h, List.append_nil, split_free (cent_free (by decide))]; rfl

/-! ### The cents -/
/-- The reference's way. -/
noncomputable def centS (t : List UInt8) : Int :=
  let minus := decide (t.head? = some 45)
  let u := if minus = true then t.drop 1 else t
  let ps := splitL 46 u
  if ps.length = 2 ∧ (ps.getD 1 []).length = 2 then
    (if minus = true then -100 * numD (ps.getD 0 []) - 10 * numD ((ps.getD 1 []).take 1) - numD ((ps.getD 1 []).drop 1)
     else 100 * numD (ps.getD 0 []) + 10 * numD ((ps.getD 1 []).take 1) + numD ((ps.getD 1 []).drop 1))
  else 0
theorem itoa_dig {n : Int} (h0 : 0 ≤ n) (h9 : n ≤ 9) : ∃ d, Lib.itoa n = [d] := by
  have h1 := itoa_pow (n := n) 0 h0 (by simp; omega)
  have h2 := @itoa_pos n
  match h : Lib.itoa n with
  | [] => rw [h] at h2; simp at h2
  | [d] => exact ⟨d, rfl⟩
  | a :: b :: l => rw [h] at h1; simp at h1
theorem hund_split (n : Nat) : ∃ d e, Lib.itoa ((n : Int) / 10 % 10) = [d] ∧ Lib.itoa ((n : Int) % 10) = [e] ∧ hundT n = Lib.itoa ((n : Int) / 100) ++ 46 :: [d, e] := by
  obtain ⟨d, hd⟩ := itoa_dig (n := (n : Int) / 10 % 10) (by omega) (by omega)
  obtain ⟨e, he⟩ := itoa_dig (n := (n : Int) % 10) (by omega) (by omega)
  exact ⟨d, e, hd, he, by unfold hundT; rw [hd, he]; rfl⟩
theorem itoa_head {n : Int} (h : 0 ≤ n) : (Lib.itoa n).head? ≠ some 45 := by
  unfold Lib.itoa
  rw [if_neg (by omega)]
  intro hh
  have hm : (45 : UInt8) ∈ Lib.decDigits n.toNat := List.mem_of_mem_head? hh
  have := dec_digit _ _ hm
  have h6 : (45 : UInt8).toNat = 45 := rfl
  omega
theorem hund_read {n : Nat} (hn : n ≤ 1000000) : (splitL 46 (hundT n)).length = 2 ∧ ((splitL 46 (hundT n)).getD 1 []).length = 2 ∧ numD ((splitL 46 (hundT n)).getD 0 []) = (n : Int) / 100 ∧ numD (((splitL 46 (hundT n)).getD 1 []).take 1) = (n : Int) / 10 % 10 ∧ numD (((splitL 46 (hundT n)).getD 1 []).drop 1) = (n : Int) % 10 := by
  obtain ⟨d, e, hd, he, hh⟩ := hund_split n
  have hd46 : (46 : UInt8) ≠ d := fun h => itoa_dot (n := (n : Int) / 10 % 10) (by rw [hd, h]; simp)
  have he46 : (46 : UInt8) ≠ e := fun h => itoa_dot (n := (n : Int) % 10) (by rw [he, h]; simp)
  have hs : splitL 46 (hundT n) = [Lib.itoa ((n : Int) / 100), [d, e]] := by
    rw [hh, split_mid itoa_dot, split_free (by simp [hd46, he46])]
  rw [hs]
  refine ⟨rfl, rfl, ?_, ?_, ?_⟩
  · show numD (Lib.itoa ((n : Int) / 100)) = _
    exact numD_itoa ⟨by omega, by omega⟩
  · show numD [d] = _
    rw [← hd]; exact numD_itoa ⟨by omega, by omega⟩
  · show numD [e] = _
    rw [← he]; exact numD_itoa ⟨by omega, by omega⟩
theorem hund_head (n : Nat) : (hundT n).head? ≠ some 45 := by
  obtain ⟨d, e, hd, he, hh⟩ := hund_split n
  rw [hh]
  have h1 := itoa_head (n := (n : Int) / 100) (by omega)
  have h2 := @itoa_pos ((n : Int) / 100)
  cases hi : Lib.itoa ((n : Int) / 100) with
  | nil => rw [hi] at h2; simp at h2
  | cons a l => rw [hi] at h1; exact h1
theorem centS_cent {c : Int} (h : -1000000 ≤ c ∧ c ≤ 1000000) : centS (centT c) = c := by
  obtain ⟨h1, h2, h3, h4, h5⟩ := hund_read (n := c.natAbs) (by omega)
  unfold centS
  by_cases hc : c < 0
  · have e1 : centT c = 45 :: hundT c.natAbs := by unfold centT; rw [if_pos hc]; rfl
    simp only [e1, List.head?_cons, decide_true, if_true, List.drop_succ_cons, List.drop_zero]
    rw [if_pos ⟨h1, h2⟩, h3, h4, h5]
    omega
  · have e1 : centT c = hundT c.natAbs := by unfold centT; rw [if_neg hc]; rfl
    have e2 : decide ((hundT c.natAbs).head? = some 45) = false := decide_eq_false (hund_head _)
    simp only [e1, e2, Bool.false_eq_true, if_false]
    rw [if_pos ⟨h1, h2⟩, h3, h4, h5]
    omega
/-- The program's way: the text without its point. -/
def centR (t : List UInt8) : List UInt8 := Lib.replace t [46] [] 1
theorem replace_one {t r : List UInt8} (h : (46 : UInt8) ∉ t) : Lib.replace (t ++ 46 :: r) [46] [] 1 = t ++ r := by
  have hi := index_one_mid (r := r) h
  have hc : 1 ≤ Lib.count (t ++ 46 :: r) [46] := by
    unfold Lib.count Lib.countFrom
    rw [hi, if_neg (fun e => by have := beq_iff_eq.1 e; omega)]
    omega
  have hn : Lib.replaceNum (t ++ 46 :: r) [46] 1 = 1 := by
    unfold Lib.replaceNum
    rw [if_neg]
    · rfl
    · rintro (h1 | h1)
      · omega
      · omega
  unfold Lib.replace
  rw [if_neg (by decide), hn, Lib.replaceK_hit [46] [] 0 _ t.length hi, Lib.replaceK]
  simp
theorem digs_dec {d : UInt8} {n : Int} (h0 : 0 ≤ n) (h9 : n ≤ 9) (h : Lib.itoa n = [d]) : Lib.digitVal d = some n.toNat := by
  have h1 : Lib.itoa n = Lib.decDigits n.toNat := by unfold Lib.itoa; rw [if_neg (by omega)]
  rw [h1, dec_small (by omega)] at h
  injection h with h _
  rw [← h]; exact digitVal_digit (by omega)
theorem hund_flat {n : Nat} : ∃ l, l ≠ [] ∧ l.head? ≠ some 45 ∧ l.head? ≠ some 43 ∧ centR (hundT n) = l ∧ (∀ p, (46 : UInt8) ∉ p → centR (p ++ hundT n) = p ++ l) ∧ Lib.decFrom 0 l = some n ∧ l.length = (Lib.itoa ((n : Int) / 100)).length + 2 := by
  obtain ⟨d, e, hd, he, hh⟩ := hund_split n
  have hr : ∀ p : List UInt8, (46 : UInt8) ∉ p → centR (p ++ hundT n) = p ++ (Lib.itoa ((n : Int) / 100) ++ [d, e]) := fun p hp => by
    unfold centR
    rw [hh, ← List.append_assoc, replace_one (by rw [List.mem_append]; rintro (h | h); exact hp h; exact itoa_dot h), List.append_assoc]
  have h1 : Lib.itoa ((n : Int) / 100) = Lib.decDigits (n / 100) := by
    unfold Lib.itoa; rw [if_neg (by omega)]; congr 1
  have hd1 := digs_dec (by omega) (by omega) hd
  have he1 := digs_dec (by omega) (by omega) he
  have hpos := @itoa_pos ((n : Int) / 100)
  refine ⟨Lib.itoa ((n : Int) / 100) ++ [d, e], by simp, ?_, ?_, by simpa using hr [] (by simp), hr, ?_, by simp⟩
  · have h2 := itoa_head (n := (n : Int) / 100) (by omega)
    cases hi : Lib.itoa ((n : Int) / 100) with
    | nil => rw [hi] at hpos; simp at hpos
    | cons a l => rw [hi] at h2; exact h2
  · cases hi : Lib.itoa ((n : Int) / 100) with
    | nil => rw [hi] at hpos; simp at hpos
    | cons a l =>
      intro e43
      simp only [List.cons_append, List.head?_cons, Option.some.injEq] at e43
      have hm : a ∈ Lib.itoa ((n : Int) / 100) := by rw [hi]; simp
      rw [e43] at hm
      exact itoa_free' (by decide) hm
  · rw [h1, decFrom_app _ _ _ _ (decFrom_dec (n / 100))]
    simp only [Lib.decFrom, hd1, he1]
    congr 1
    omega
theorem centI_cent {c : Int} (h : -1000000 ≤ c ∧ c ≤ 1000000) : Lib.atoiAll (centR (centT c)) = .ok c := by
  obtain ⟨l, h1, h2, h3, h4, h5, h6, h7⟩ := hund_flat (n := c.natAbs)
  have hlen : l.length ≤ 10 := by
    have := itoa_pow (n := ((c.natAbs : Nat) : Int) / 100) 5 (by omega) (by simp; omega)
    omega
  have hne : Lib.decNat l = some c.natAbs := by
    unfold Lib.decNat
    rw [if_neg (by simp [h1])]; exact h6
  by_cases hc : c < 0
  · have e1 : centT c = [45] ++ hundT c.natAbs := by unfold centT; rw [if_pos hc]
    rw [e1, h5 [45] (by decide), Lib.atoiAll_short _ (by simp; omega)]
    simp only [List.cons_append, List.nil_append, Lib.atoi, beq_self_eq_true, if_true, hne, Option.map_some, Lib.NumEnd.ofOption]
    congr 1; omega
  · have e1 : centT c = hundT c.natAbs := by unfold centT; rw [if_neg hc]; rfl
    rw [e1, h4, Lib.atoiAll_short _ (by omega)]
    cases hl : l with
    | nil => exact absurd hl h1
    | cons a r =>
      rw [hl] at h2 h3 hne
      have ha : (a == 45) = false := by rw [beq_eq_false_iff_ne]; intro e; subst e; exact h2 rfl
      have hb : (a == 43) = false := by rw [beq_eq_false_iff_ne]; intro e; subst e; exact h3 rfl
      simp only [Lib.atoi, ha, hb, Bool.false_eq_true, if_false, hne, Option.map_some, Lib.NumEnd.ofOption]
      congr 1; omega

/-! ### The rows that are read -/
/-- What the program tries, word by word. -/
def monW (t : List UInt8) : List UInt8 := Lib.trimPrefix (Lib.trimSuffix t [58]) [109]
noncomputable def rowI (ws : List (List UInt8)) (cents : Int) : Row :=
  ⟨numD (monW (ws.getD 0 [])), numD (Lib.trimPrefix (ws.getD 1 []) [43]), numD (Lib.trimPrefix (ws.getD 2 []) [45]), cents, if ws.length = 7 then numD (ws.getD 5 []) else 0⟩
noncomputable def rowS (ws : List (List UInt8)) : Row :=
  ⟨numD (((ws.getD 0 []).take ((ws.getD 0 []).length - 1)).drop 1), numD ((ws.getD 1 []).drop 1), numD ((ws.getD 2 []).drop 1), centS (ws.getD 4 []), if ws.length = 7 then numD (ws.getD 5 []) else 0⟩
theorem trim_pre (b : UInt8) (l : List UInt8) : Lib.trimPrefix (b :: l) [b] = l := by
  unfold Lib.trimPrefix Lib.hasPrefix
  rw [if_pos (by simp [List.isPrefixOf])]; rfl
theorem trim_suf (b : UInt8) (l : List UInt8) : Lib.trimSuffix (l ++ [b]) [b] = l := by
  unfold Lib.trimSuffix Lib.hasSuffix
  have hsuf : List.isSuffixOf [b] (l ++ [b]) = true := by rw [List.isSuffixOf_iff_suffix]; exact List.suffix_append _ _
  rw [if_pos hsuf]
  rw [show (l ++ [b]).length - ([b] : List UInt8).length = l.length by simp, List.take_left' rfl]
theorem line_read {r : Row} (h : r.ok = true) : let ws := splitL 32 (lineT r)
    (ws.length = 5 ∨ ws.length = 7) ∧ (numF (monW (ws.getD 0 []))).isSome = true ∧ (numF (Lib.trimPrefix (ws.getD 1 []) [43])).isSome = true ∧ (numF (Lib.trimPrefix (ws.getD 2 []) [45])).isSome = true ∧ Lib.atoiAll (centR (ws.getD 4 [])) = .ok r.c ∧ rowI ws r.c = r ∧ rowS ws = r ∧ 3 ≤ (ws.getD 0 []).length ∧ 2 ≤ (ws.getD 1 []).length ∧ 2 ≤ (ws.getD 2 []).length := by
  obtain ⟨m1, m2, b1, b2, s1, s2, c1, c2, l1, l2⟩ := Row.ok_bounds h
  have hw := line_words r
  intro ws
  have e0 : ws.getD 0 [] = 109 :: (Lib.itoa r.m ++ [58]) := by show (splitL 32 (lineT r)).getD 0 [] = _; rw [hw]; rfl
  have e1 : ws.getD 1 [] = 43 :: Lib.itoa r.b := by show (splitL 32 (lineT r)).getD 1 [] = _; rw [hw]; rfl
  have e2 : ws.getD 2 [] = 45 :: Lib.itoa r.s := by show (splitL 32 (lineT r)).getD 2 [] = _; rw [hw]; rfl
  have e4 : ws.getD 4 [] = centT r.c := by show (splitL 32 (lineT r)).getD 4 [] = _; rw [hw]; rfl
  have e5 : (if ws.length = 7 then numD (ws.getD 5 []) else 0) = r.l ∧ (ws.length = 5 ∨ ws.length = 7) := by
    show (if (splitL 32 (lineT r)).length = 7 then numD ((splitL 32 (lineT r)).getD 5 []) else 0) = r.l ∧ ((splitL 32 (lineT r)).length = 5 ∨ (splitL 32 (lineT r)).length = 7)
    rw [hw]
    by_cases hl : 0 < r.l
    · rw [if_pos hl]
      exact ⟨(if_pos rfl).trans (numD_itoa ⟨by omega, by omega⟩), .inr rfl⟩
    · rw [if_neg hl]
      exact ⟨(if_neg (by simp)).trans (by omega), .inl rfl⟩
  have hm : monW (ws.getD 0 []) = Lib.itoa r.m := by
    unfold monW
    rw [e0, ← List.cons_append, trim_suf, trim_pre]
  have hb : Lib.trimPrefix (ws.getD 1 []) [43] = Lib.itoa r.b := by rw [e1, trim_pre]
  have hs : Lib.trimPrefix (ws.getD 2 []) [45] = Lib.itoa r.s := by rw [e2, trim_pre]
  have six : ∀ n : Int, 0 ≤ n → n ≤ 9999 → Six n := fun n h1 h2 => ⟨by omega, by omega⟩
  have nm := numD_itoa (six r.m (by omega) (by omega))
  have nb := numD_itoa (six r.b (by omega) (by omega))
  have ns := numD_itoa (six r.s (by omega) (by omega))
  have h0t : ((ws.getD 0 []).take ((ws.getD 0 []).length - 1)).drop 1 = Lib.itoa r.m := by
    rw [e0, ← List.cons_append, show ((109 :: Lib.itoa r.m) ++ [(58 : UInt8)]).length - 1 = (109 :: Lib.itoa r.m).length by simp, List.take_left' rfl]; rfl
  refine ⟨e5.2, ?_, ?_, ?_, ?_, ?_, ?_, ?_, ?_, ?_⟩
  · rw [hm, numF_some (six _ (by omega) (by omega))]; rfl
  · rw [hb, numF_some (six _ (by omega) (by omega))]; rfl
  · rw [hs, numF_some (six _ (by omega) (by omega))]; rfl
  · rw [e4]; exact centI_cent ⟨c1, c2⟩
  · unfold rowI; rw [hm, hb, hs, nm, nb, ns, e5.1]
  · unfold rowS; rw [h0t, e1, e2, e4, centS_cent ⟨c1, c2⟩, e5.1]
    simp only [List.drop_succ_cons, List.drop_zero]
    rw [nm, nb, ns]
  · rw [e0]; have := @itoa_pos r.m; simp; omega
  · rw [e1]; have := @itoa_pos r.b; simp; omega
  · rw [e2]; have := @itoa_pos r.s; simp; omega
theorem line_short {r : Row} (h : r.ok = true) : (lineT r).length ≤ 70 := by
  obtain ⟨m1, m2, b1, b2, s1, s2, c1, c2, l1, l2⟩ := Row.ok_bounds h
  have hm := itoa_pow (n := r.m) 3 (by omega) (by simp; omega)
  have hb := itoa_pow (n := r.b) 3 (by omega) (by simp; omega)
  have hs := itoa_pow (n := r.s) 3 (by omega) (by simp; omega)
  have hl := itoa_pow (n := r.l) 2 (by omega) (by simp; omega)
  obtain ⟨d, e, _, _, hh⟩ := hund_split r.c.natAbs
  have hc := itoa_pow (n := ((r.c.natAbs : Nat) : Int) / 100) 4 (by omega) (by simp; omega)
  unfold lineT
  rw [hh]
  simp only [List.length_append, List.length_cons, List.length_nil]
  split <;> split <;> simp <;> omega
open Classical in
/-- The row of which this is the line. -/
noncomputable def lineF (s : List UInt8) : Option Row := if h : ∃ r : Row, r.ok = true ∧ lineT r = s then some h.choose else none
theorem lineF_eq {r : Row} {s : List UInt8} (h : r.ok = true) (e : lineT r = s) : lineF s = some r := by
  have hex : ∃ r : Row, r.ok = true ∧ lineT r = s := ⟨r, h, e⟩
  unfold lineF
  rw [dif_pos hex]
  obtain ⟨h1, h2⟩ := hex.choose_spec
  have a := (line_read h1).2.2.2.2.2.2.1
  have b := (line_read h).2.2.2.2.2.2.1
  rw [h2] at a; rw [e] at b
  exact congrArg some (a.symm.trans b)
theorem lineF_is {r : Row} {s : List UInt8} (h : lineF s = some r) : r.ok = true ∧ lineT r = s := by
  by_cases hex : ∃ r : Row, r.ok = true ∧ lineT r = s
  · unfold lineF at h
    rw [dif_pos hex] at h
    have := hex.choose_spec
    rw [Option.some.inj h] at this
    exact this
  · unfold lineF at h
    rw [dif_neg hex] at h; cases h
theorem lineF_none {s : List UInt8} (h : ∀ r : Row, r.ok = true → lineT r ≠ s) : lineF s = none := by
  cases hq : lineF s with
  | none => rfl
  | some r => obtain ⟨h1, h2⟩ := lineF_is hq; exact absurd h2 (h r h1)
end Go.Proofs.YtpjfidmapnnbkaaGreatDoor

/- The reference draws an office row, a line of it, and two lists. (Printed by gen_dwoff.py) -/
namespace Go.Proofs.YtpjfidmapnnbkaaGreatDoor
open Go.RowKit

theorem below_row {w W W' : World} (h : Below w.heap.size w W) (hg : W.grownBy W' (some w.heap.size)) : Below w.heap.size w W' :=
  grown_belowR (grown_trans (grownAny h (some w.heap.size)) hg) (Nat.le_refl _)
theorem Env.newInts {w W : World} {g : Nat} {A : Option Addr} {bs : List UInt8} {cap m : Nat} (E : Env w W g A bs cap m) : Env w (W.alloc (.cells #[.int .i64 1, .int .i64 42, .int .i64 1200] 3)) g A bs cap m := E.below ((Below.refl W.heap.size W).alloc (Nat.le_refl _) (.cells #[.int .i64 1, .int .i64 42, .int .i64 1200] 3))
theorem lineV_size (r : Row) : (lineV r).size ≤ 70 := by
  unfold lineV
  split
  · next h => have := line_short h; unfold lineO; rw [← bl_size, bl_mk]; exact this
  · exact Nat.zero_le _
set_option maxHeartbeats 2000000 in
theorem drawIsRow_any (A : Option Addr) (cap : Nat) (bs : List UInt8) (w : World) (hr : BytesR w w.heap.size A bs) :
    Calls Tryz.prog 22 #[.slice A bs.length cap] w fun e w' => ∃ r : Row, e = .returned r.val ∧ Below w.heap.size w w' := by
  have b0 := (Below.refl w.heap.size w).alloc (Nat.le_refl _) (.cells #[.int .i64 0, .int .i64 0, .int .i64 0, .int .i64 0, .int .i64 0] 25)
  have L0 := Lies.new w 25 #[.int .i64 0, .int .i64 0, .int .i64 0, .int .i64 0, .int .i64 0]
  have E1 := cur_start (cap := cap) ((SlcR.below hr b0).mono b0.size)
  have b1 := b0.alloc b0.size (.cells #[.slice A bs.length cap, .int .i64 0, .int .u64 0] 59)
  have L1 := L0.alloc (.cells #[.slice A bs.length cap, .int .i64 0, .int .u64 0] 59)
  have hg : w.heap.size < (w.alloc (.cells #[.int .i64 0, .int .i64 0, .int .i64 0, .int .i64 0, .int .i64 0] 25)).heap.size := L0.lt
  go_enter Tryz.func22, Tryz.ntmps22
  go_wp2_with fail
  obtain ⟨W0, hW0⟩ : ∃ W0, w.alloc (.cells #[.int .i64 0, .int .i64 0, .int .i64 0, .int .i64 0, .int .i64 0] 25) = W0 := ⟨_, rfl⟩
  have hs0 : W0.heap.size = w.heap.size + 1 := by rw [← hW0]; exact Array.size_push _
  rw [hW0] at E1 b1 L1 hg ⊢
  clear b0 L0
  obtain ⟨W1, hW1⟩ : ∃ W1, W0.alloc (.cells #[.slice A bs.length cap, .int .i64 0, .int .u64 0] 59) = W1 := ⟨_, rfl⟩
  have hs1 : W1.heap.size = w.heap.size + 1 + 1 := by rw [← hW1, ← hs0]; exact Array.size_push _
  rw [hW1] at E1 b1 L1 ⊢
  rw [hs0] at E1 hg
  clear hW0 hW1 hs0
  have E2 := E1.newInts
  have LI := Lies.new W1 3 #[.int .i64 1, .int .i64 42, .int .i64 1200]
  have L2 := L1.alloc (.cells #[.int .i64 1, .int .i64 42, .int .i64 1200] 3)
  have b2 := b1.alloc b1.size (.cells #[.int .i64 1, .int .i64 42, .int .i64 1200] 3)
  rw [hs1] at LI
  clear E1 L1 b1 hs1
  generalize W1.alloc (.cells #[.int .i64 1, .int .i64 42, .int .i64 1200] 3) = W2 at E2 LI L2 b2 ⊢
  refine (among_lies (l := [1, 42, 1200]) E2 (w.heap.size + 1 + 1) 3 (by simp) LI (by omega) (by omega) (by omega) (by omega)).mono ?_
  rintro e W3 ⟨mo, rfl, E3, gr3⟩
  have L3 := L2.kept gr3 (by intro e; injection e; omega)
  have b3 : Below w.heap.size w W3 := grown_belowR (grown_trans (grownAny b2 (some (w.heap.size + 1))) gr3) (by omega)
  clear E2 gr3 L2 b2 LI
  go_wp2_with fail
  refine (officeRow_any (w.heap.size + 1) A bs cap _ mo W1 W3 (by omega) E3).mono ?_
  rintro e W4 ⟨r, rfl, E4, gr4⟩
  have K := L3.kept gr4 (by intro e; injection e; omega)
  have b2 : Below w.heap.size w W4 := grown_belowR (grown_trans (grownAny b3 (some (w.heap.size + 1))) gr4) (by omega)
  clear E3 E4 gr4 L3 b3
  have a0 := K.cell 0
  have a1 := K.cell 1
  have a2 := K.cell 2
  have a3 := K.cell 3
  have a4 := K.cell 4
  simp only [List.getElem?_cons_zero, List.getElem?_cons_succ] at a0 a1 a2 a3 a4
  have fa0 := K.frozen 0
  have fa1 := K.frozen 1
  have fa2 := K.frozen 2
  have fa3 := K.frozen 3
  have fa4 := K.frozen 4
  obtain ⟨W20, hW20⟩ : ∃ W20, (((((W4.setCell ⟨w.heap.size, 0, none⟩ (.int .i64 r.m)).setCell ⟨w.heap.size, 1, none⟩ (.int .i64 r.b)).setCell ⟨w.heap.size, 2, none⟩ (.int .i64 r.s)).setCell ⟨w.heap.size, 3, none⟩ (.int .i64 r.c)).setCell ⟨w.heap.size, 4, none⟩ (.int .i64 r.l)) = W20 := ⟨_, rfl⟩
  have gw : W4.grownBy (((((W4.setCell ⟨w.heap.size, 0, none⟩ (.int .i64 r.m)).setCell ⟨w.heap.size, 1, none⟩ (.int .i64 r.b)).setCell ⟨w.heap.size, 2, none⟩ (.int .i64 r.s)).setCell ⟨w.heap.size, 3, none⟩ (.int .i64 r.c)).setCell ⟨w.heap.size, 4, none⟩ (.int .i64 r.l)) (some w.heap.size) := (grown_set (g := w.heap.size) (i := 4) (u := .int .i64 r.l) (grown_set (g := w.heap.size) (i := 3) (u := .int .i64 r.c) (grown_set (g := w.heap.size) (i := 2) (u := .int .i64 r.s) (grown_set (g := w.heap.size) (i := 1) (u := .int .i64 r.b) (grown_set (g := w.heap.size) (i := 0) (u := .int .i64 r.m) (World.grownBy.refl _ _))))))
  have kw : Lies (((((W4.setCell ⟨w.heap.size, 0, none⟩ (.int .i64 r.m)).setCell ⟨w.heap.size, 1, none⟩ (.int .i64 r.b)).setCell ⟨w.heap.size, 2, none⟩ (.int .i64 r.s)).setCell ⟨w.heap.size, 3, none⟩ (.int .i64 r.c)).setCell ⟨w.heap.size, 4, none⟩ (.int .i64 r.l)) w.heap.size 25 [.int .i64 r.m, .int .i64 r.b, .int .i64 r.s, .int .i64 r.c, .int .i64 r.l] := K.set 0 (.int .i64 r.m) |>.set 1 (.int .i64 r.b) |>.set 2 (.int .i64 r.s) |>.set 3 (.int .i64 r.c) |>.set 4 (.int .i64 r.l)
  have HB := Lib.hid (below_row b2 gw)
  rw [hW20] at kw HB
  have HW20 := Lib.hid hW20
  have HK := Lib.hid kw
  clear gw kw hW20 K b2
  repeat (first | go_values | go_skip | go_guarded | go_step | go_upon | simp only [])
  rw [HW20.out]
  have LS := HK.out
  have x0 := LS.cell 0
  have x1 := LS.cell 1
  have x2 := LS.cell 2
  have x3 := LS.cell 3
  have x4 := LS.cell 4
  simp only [List.getElem?_cons_zero, List.getElem?_cons_succ] at x0 x1 x2 x3 x4
  refine bodyPost_ret (v := .agg #[.int .i64 r.m, .int .i64 r.b, .int .i64 r.s, .int .i64 r.c, .int .i64 r.l]) (by simp [results, Tryz.results22, go_sem, x0, x1, x2, x3, x4]) rfl ?_
  exact ⟨r, rfl, HB.out⟩
theorem drawLine_any (A : Option Addr) (cap : Nat) (bs : List UInt8) (w : World) (hr : BytesR w w.heap.size A bs) :
    Calls Tryz.prog 5 #[.slice A bs.length cap] w fun e w' => ∃ r : Row, e = .returned r.val ∧ Below w.heap.size w w' := by
  have b0 := (Below.refl w.heap.size w).alloc (Nat.le_refl _) (.cells #[.int .i64 0, .int .i64 0, .int .i64 0, .int .i64 0, .int .i64 0] 25)
  have L0 := Lies.new w 25 #[.int .i64 0, .int .i64 0, .int .i64 0, .int .i64 0, .int .i64 0]
  have hr0 := (SlcR.below hr b0).mono b0.size
  go_enter Tryz.func5, Tryz.ntmps5
  go_wp2_with fail
  generalize w.alloc (.cells #[.int .i64 0, .int .i64 0, .int .i64 0, .int .i64 0, .int .i64 0] 25) = W0 at L0 b0 hr0 ⊢
  refine (drawIsRow_any A cap bs W0 hr0).mono ?_
  rintro e W2 ⟨r, rfl, hb⟩
  have K := L0.below hb L0.lt
  have b2 : Below w.heap.size w W2 := bthen b0 hb
  clear b0 hb L0 hr0
  have a0 := K.cell 0
  have a1 := K.cell 1
  have a2 := K.cell 2
  have a3 := K.cell 3
  have a4 := K.cell 4
  simp only [List.getElem?_cons_zero, List.getElem?_cons_succ] at a0 a1 a2 a3 a4
  have fa0 := K.frozen 0
  have fa1 := K.frozen 1
  have fa2 := K.frozen 2
  have fa3 := K.frozen 3
  have fa4 := K.frozen 4
  obtain ⟨W20, hW20⟩ : ∃ W20, (((((W2.setCell ⟨w.heap.size, 0, none⟩ (.int .i64 r.m)).setCell ⟨w.heap.size, 1, none⟩ (.int .i64 r.b)).setCell ⟨w.heap.size, 2, none⟩ (.int .i64 r.s)).setCell ⟨w.heap.size, 3, none⟩ (.int .i64 r.c)).setCell ⟨w.heap.size, 4, none⟩ (.int .i64 r.l)) = W20 := ⟨_, rfl⟩
  have gw : W2.grownBy (((((W2.setCell ⟨w.heap.size, 0, none⟩ (.int .i64 r.m)).setCell ⟨w.heap.size, 1, none⟩ (.int .i64 r.b)).setCell ⟨w.heap.size, 2, none⟩ (.int .i64 r.s)).setCell ⟨w.heap.size, 3, none⟩ (.int .i64 r.c)).setCell ⟨w.heap.size, 4, none⟩ (.int .i64 r.l)) (some w.heap.size) := (grown_set (g := w.heap.size) (i := 4) (u := .int .i64 r.l) (grown_set (g := w.heap.size) (i := 3) (u := .int .i64 r.c) (grown_set (g := w.heap.size) (i := 2) (u := .int .i64 r.s) (grown_set (g := w.heap.size) (i := 1) (u := .int .i64 r.b) (grown_set (g := w.heap.size) (i := 0) (u := .int .i64 r.m) (World.grownBy.refl _ _))))))
  have kw : Lies (((((W2.setCell ⟨w.heap.size, 0, none⟩ (.int .i64 r.m)).setCell ⟨w.heap.size, 1, none⟩ (.int .i64 r.b)).setCell ⟨w.heap.size, 2, none⟩ (.int .i64 r.s)).setCell ⟨w.heap.size, 3, none⟩ (.int .i64 r.c)).setCell ⟨w.heap.size, 4, none⟩ (.int .i64 r.l)) w.heap.size 25 [.int .i64 r.m, .int .i64 r.b, .int .i64 r.s, .int .i64 r.c, .int .i64 r.l] := K.set 0 (.int .i64 r.m) |>.set 1 (.int .i64 r.b) |>.set 2 (.int .i64 r.s) |>.set 3 (.int .i64 r.c) |>.set 4 (.int .i64 r.l)
  have HB := Lib.hid (below_row b2 gw)
  rw [hW20] at kw HB
  have HW20 := Lib.hid hW20
  have HK := Lib.hid kw
  clear gw kw hW20 K b2
  repeat (first | go_values | go_skip | go_guarded | go_step | go_upon | simp only [])
  rw [HW20.out]
  have LS := HK.out
  have x0 := LS.cell 0
  have x1 := LS.cell 1
  have x2 := LS.cell 2
  have x3 := LS.cell 3
  have x4 := LS.cell 4
  simp only [List.getElem?_cons_zero, List.getElem?_cons_succ] at x0 x1 x2 x3 x4
  refine bodyPost_ret (v := .agg #[.int .i64 r.m, .int .i64 r.b, .int .i64 r.s, .int .i64 r.c, .int .i64 r.l]) (by simp [results, Tryz.results5, go_sem, x0, x1, x2, x3, x4]) rfl ?_
  exact ⟨r, rfl, HB.out⟩
theorem drawParseOffice_any (A : Option Addr) (cap : Nat) (bs : List UInt8) (w : World) (hr : BytesR w w.heap.size A bs) :
    Calls Tryz.prog 10 #[.slice A bs.length cap] w fun e w' => ∃ s : ByteArray, e = .returned (.string s) ∧ s.size ≤ 500 ∧ Below w.heap.size w w' := by
  have E1 := cur_start (cap := cap) hr
  have b1 : Below w.heap.size w (w.alloc (.cells #[.slice A bs.length cap, .int .i64 0, .int .u64 0] 59)) := (Below.refl w.heap.size w).alloc (Nat.le_refl _) (.cells #[.slice A bs.length cap, .int .i64 0, .int .u64 0] 59)
  have hs1 : (w.alloc (.cells #[.slice A bs.length cap, .int .i64 0, .int .u64 0] 59)).heap.size = w.heap.size + 1 := Array.size_push _
  go_enter Tryz.func10, Tryz.ntmps10
  go_wp2_with fail
  generalize w.alloc (.cells #[.slice A bs.length cap, .int .i64 0, .int .u64 0] 59) = W1 at E1 b1 hs1 ⊢
  have E2 := E1.newInts
  have LI := Lies.new W1 3 #[.int .i64 1, .int .i64 42, .int .i64 1200]
  have b2 := b1.alloc b1.size (.cells #[.int .i64 1, .int .i64 42, .int .i64 1200] 3)
  rw [hs1] at LI
  clear E1 b1 hs1
  generalize W1.alloc (.cells #[.int .i64 1, .int .i64 42, .int .i64 1200] 3) = W2 at E2 LI b2 ⊢
  refine (among_lies (l := [1, 42, 1200]) E2 (w.heap.size + 1) 3 (by simp) LI (by omega) (by omega) (by omega) (by omega)).mono ?_
  rintro e W3 ⟨mo, rfl, E3, gr3⟩
  have b3 : Below w.heap.size w W3 := grown_belowR (grown_trans (grownAny b2 (some w.heap.size)) gr3) (by omega)
  clear E2 gr3 b2 LI
  go_wp2_with fail
  refine (officeRow_any w.heap.size A bs cap _ mo W1 W3 (by omega) E3).mono ?_
  rintro e W4 ⟨r, rfl, E4, gr4⟩
  have b4 : Below w.heap.size w W4 := grown_belowR (grown_trans (grownAny b3 (some w.heap.size)) gr4) (by omega)
  clear E3 gr4 b3
  go_wp2_with fail
  refine (specOfficeLine_any r W4).mono ?_
  rintro e W5 ⟨rfl, hb5⟩
  have hz := lineV_size r
  generalize lineV r = t at hz ⊢
  have b5 := bthen b4 hb5
  have E5 := E4.below hb5
  clear b4 E4 hb5
  go_wp2_with fail
  refine (one_env E5 3 (by omega) (by omega)).mono ?_
  rintro e W6 ⟨q, rfl, E6, gr6⟩
  have b6 : Below w.heap.size w W6 := grown_belowR (grown_trans (grownAny b5 (some w.heap.size)) gr6) (Nat.le_refl _)
  clear b5 E5 gr6
  cases q with
  | true =>
    go_wp2_with fail
    refine (spoilt_any w.heap.size A cap _ bs t ⟨#[48, 32, 46, 58, 43, 45, 49, 109]⟩ W1 W6 (by decide) (by decide) (by omega) (by omega) E6).mono ?_
    rintro e W7 ⟨u, rfl, hu, E7, gr7⟩
    have b7 : Below w.heap.size w W7 := grown_belowR (grown_trans (grownAny b6 (some w.heap.size)) gr7) (Nat.le_refl _)
    clear b6 E6 E7 gr7
    go_wp2_with fail
    go_ret
    exact ⟨u, rfl, by omega, b7⟩
  | false =>
    clear E6
    go_wp2_with fail
    go_ret
    exact ⟨t, rfl, by omega, b6⟩
def DrawnTwo (w : World) (e : Ending) (w' : World) : Prop := ∃ (l m : List Row) (A B : Option Addr) (c d : Nat), e = .returned (.tuple #[.slice A l.length c, .slice B m.length d]) ∧ RowsR w' w'.heap.size A l ∧ RowsR w' w'.heap.size B m ∧ Below w.heap.size w w'
theorem drawJoinRows_any (A : Option Addr) (cap : Nat) (bs : List UInt8) (w : World) (hr : BytesR w w.heap.size A bs) :
    Calls Tryz.prog 12 #[.slice A bs.length cap] w (DrawnTwo w) := by
  have E1 := cur_start (cap := cap) hr
  have b1 : Below w.heap.size w (w.alloc (.cells #[.slice A bs.length cap, .int .i64 0, .int .u64 0] 59)) := (Below.refl w.heap.size w).alloc (Nat.le_refl _) (.cells #[.slice A bs.length cap, .int .i64 0, .int .u64 0] 59)
  go_enter Tryz.func12, Tryz.ntmps12
  go_wp2_with fail
  generalize w.alloc (.cells #[.slice A bs.length cap, .int .i64 0, .int .u64 0] 59) = W1 at E1 b1 ⊢
  refine (officeRows_any w.heap.size A bs cap 0 W1 W1 (by omega) E1).mono ?_
  rintro e W2 ⟨l, v, rfl, hl, S2⟩
  obtain ⟨A', c', rfl⟩ := ownsRow_slice S2.own
  have b2 := grown_belowR (grown_trans (grownAny b1 (some w.heap.size)) S2.gr) (Nat.le_refl _)
  have E2 := S2.env
  have hO := S2.own
  have hgl : w.heap.size < W1.heap.size := E1.lt
  clear E1 b1 S2
  go_wp2_with fail
  refine (officeRows_any w.heap.size A bs cap _ W1 W2 (by omega) E2).mono ?_
  rintro e W3 ⟨m, v, rfl, hm, S3⟩
  obtain ⟨B', d', rfl⟩ := ownsRow_slice S3.own
  have b3 := grown_belowR (grown_trans (grownAny b2 (some w.heap.size)) S3.gr) (Nat.le_refl _)
  have hR1 : RowsR W3 W3.heap.size A' l := (OwnS.of (ownsRow_gr hO S3.gr hgl)).reads
  have hR2 : RowsR W3 W3.heap.size B' m := (OwnS.of S3.own).reads
  clear E2 b2 S3 hO
  go_wp2_with fail
  go_ret2
  exact ⟨l, m, A', B', c', d', rfl, hR1, hR2, b3⟩
theorem drawReport_any (A : Option Addr) (cap : Nat) (bs : List UInt8) (w : World) (hr : BytesR w w.heap.size A bs) :
    Calls Tryz.prog 17 #[.slice A bs.length cap] w (DrawnRows w) := by
  go_enter Tryz.func17, Tryz.ntmps17
  go_wp2_with fail
  refine (drawAreRows_any A cap bs _ hr).mono ?_
  rintro e W2 ⟨l, A', c', rfl, hl, hR, hB⟩
  go_wp2_with fail
  go_ret
  exact ⟨l, A', c', rfl, hl, hR, hB⟩
end Go.Proofs.YtpjfidmapnnbkaaGreatDoor

/- Two equal rows are not unequal; laws.rOffice at two alike lists. -/
namespace Go.Proofs.YtpjfidmapnnbkaaGreatDoor
open Go.RowKit

theorem guardRow : Tryz.prog.eqGuardType Tryz.prog.depth 25 = false := by kernel_rfl
theorem heldRow : Tryz.prog.stoodInHeld 25 = false := by kernel_rfl
theorem fieldsRow : Tryz.prog.underlying 25 = some (.struct (Tryz.prog.fieldsOf 25)) := by kernel_rfl
theorem neqRow (r : Row) (w : World) : (binOp .neq 25 (.agg #[.int .i64 r.m, .int .i64 r.b, .int .i64 r.s, .int .i64 r.c, .int .i64 r.l]) (.agg #[.int .i64 r.m, .int .i64 r.b, .int .i64 r.s, .int .i64 r.c, .int .i64 r.l])).run Tryz.prog w = .ok (.bool false) w := by
  rw [run_neq_struct, run_equalIn_agg _ _ _ _ _ fieldsRow heldRow]
  have e : ∀ (d : Nat) (a : Int) (w : World), (Op.equalIn (d + 1) 3 (.int .i64 a) (.int .i64 a)).run Tryz.prog w = .ok true w := fun d a w => by
    rw [run_equalIn_int w d 3 .i64 .i64 a a Tryz.underlying3]; simp
  simp [Program.fieldsOf, Tryz.underlying25, Op.eqFields, go_sem, e]
theorem guardNeq (x y : Operand) (xs ys : Array Value) (w : World) : (eqGuard .neq 25 x y (.agg xs) (.agg ys)).run Tryz.prog w = .ok () w := run_eqGuard_agg w .neq 25 x y xs ys guardRow

set_option maxHeartbeats 1000000 in
theorem rOffice_yes (A B : Option Addr) (c d : Nat) (l : List Row) (w : World) (hA : RowsR w w.heap.size A l) (hB : RowsR w w.heap.size B l) :
    Calls Tryz.prog 15 #[.slice A l.length c, .slice B l.length d] w fun e w' => e = .returned (.bool true) ∧ Below w.heap.size w w' := by
  have hlA := hA.big
  have hrA := hA.row
  have hrB := hB.row
  have hbn : ((l.length : Int) != (l.length : Int)) = false := by simp
  have HQ := Lib.hid neqRow
  have hgd := guardNeq
  go_enter Tryz.func15, Tryz.ntmps15
  go_wp2
  go_loopw [5] (fun i wr => ∃ k : Nat, k ≤ l.length ∧ i = .int .i64 k ∧ (∃ q : Since w.heap.size w, wr = q.val)) (fun i _ => l.length - (intOf i).toNat)
  case atStart => exact ⟨0, Nat.zero_le _, rfl, ⟨Since.start _ _, rfl⟩⟩
  case round =>
    obtain ⟨k, hk, rfl, ⟨q, rfl⟩⟩ := hrel
    by_cases hlt : k < l.length
    · obtain ⟨b, off, rfl, hb, hcell⟩ := hrA (by omega)
      obtain ⟨b', off', rfl, hb', hcell'⟩ := hrB (by omega)
      obtain ⟨c0, c1, c2, c3, c4⟩ := hcell k hlt
      obtain ⟨d0, d1, d2, d3, d4⟩ := hcell' k hlt
      have hnq := HQ.out l[k]
      obtain ⟨x, hxe⟩ : ∃ x, x = l[k] := ⟨_, rfl⟩
      rw [← hxe] at c0 c1 c2 c3 c4 d0 d1 d2 d3 d4 hnq
      clear hcell hcell' hrA hrB hxe
      go_wp2
      refine wp_region_since _ (by kernel_rfl) (by kernel_rfl) ?_
      repeat (any_goals (first | go_big_quiet_step ((fail)) | (refine wpQuiet_step (fun K hK => ?_); go_simp; split <;> (refine hK _ ?_; clear hK K))))
      all_goals (refine wpQuiet_nil ?_; rintro _ ⟨q1, rfl⟩)
      all_goals go_wp2
      go_roundw
      case rel => exact ⟨k + 1, by omega, by go_num, ⟨q1, rfl⟩⟩
      case measure => simp [intOf]; omega
    · go_wp2
      go_ret
      exact ⟨rfl, q.below⟩
end Go.Proofs.YtpjfidmapnnbkaaGreatDoor

/- What the library's variables hold, in every world of a call. -/
namespace Go.Proofs.YtpjfidmapnnbkaaGreatDoor
open Go.RowKit

/-- A variable of an interface type holds an interface value. -/
def IfaceAt (w : World) (g : Nat) : Prop := ∃ ev, w.cell? ⟨g, 0, none⟩ = some ev ∧ (ev = .nilIface ∨ ∃ te pe, ev = .iface te pe)
/-- What the library's variables hold. -/
structure LW (w : World) : Prop where
  tab : Tab w
  syn : IfaceAt w 0
  rng : IfaceAt w 1
  ml : ∃ m : Int, w.cell? ⟨2, 0, none⟩ = some (.int .i64 m)
theorem cell_lt {w : World} {a : Addr} {v : Value} (h : w.cell? a = some v) : a.block < w.heap.size := by
  rcases Nat.lt_or_ge a.block w.heap.size with h1 | h1
  · exact h1
  · unfold World.cell? at h; simp [Array.getElem?_eq_none h1] at h
theorem IfaceAt.then {w w' : World} {g : Nat} (h : IfaceAt w g) (hb : Below w.heap.size w w') : IfaceAt w' g := by
  obtain ⟨ev, h1, h2⟩ := h
  exact ⟨ev, (hb.cell (cell_lt h1)).trans h1, h2⟩
theorem LW.then {w w' : World} (h : LW w) (hb : Below w.heap.size w w') : LW w' := by
  obtain ⟨h1, h2, h3, m, h4⟩ := h
  exact ⟨h1.then hb, h2.then hb, h3.then hb, m, (hb.cell (cell_lt h4)).trans h4⟩
theorem LW.at {w : World} (h : LW w) (q : Since w.heap.size w) : LW q.val := h.then q.below
end Go.Proofs.YtpjfidmapnnbkaaGreatDoor

/- strconv.Atoi at every text. -/
namespace Go.Proofs.YtpjfidmapnnbkaaGreatDoor
open Go.RowKit

/-- What Atoi gives: a number and no error, or an error where there is none. -/
def GivesAtoi (s : ByteArray) (w : World) (e : Ending) (w' : World) : Prop := ∃ (v : Int) (okc : Bool) (ev : Value), e = .returned (.tuple #[.int .i64 v, ev]) ∧ ((okc = true ∧ ev = .nilIface ∧ Lib.atoiAll (bl s) = .ok v) ∨ (okc = false ∧ (∃ t p, ev = .iface t p) ∧ ∀ u, Lib.atoiAll (bl s) ≠ .ok u)) ∧ Below w.heap.size w w'
theorem atoi_any (s : ByteArray) (w : World) (hs : s.size ≤ 1000000000) (hL : LW w) : Calls Tryz.prog 31 #[.string s] w (GivesAtoi s w) := by
  rcases ha : Lib.atoiAll s.data.toList with v | _ | _
  · refine (Tryz.strconv_Atoi_ok s (by omega) v ha w).mono ?_
    rintro e w1 ⟨rfl, hw1⟩
    refine ⟨v, true, _, rfl, .inl ⟨rfl, rfl, ha⟩, ?_⟩
    rcases hw1 with rfl | ⟨t, rfl⟩
    · exact Below.refl _ _
    · exact Lib.bytesWorld_below _ _ _
  · obtain ⟨ev, he1, he2⟩ := hL.syn
    refine (Tryz.strconv_Atoi_syntax s (by omega) ha ev w he1 he2).mono ?_
    rintro e w1 ⟨N, rfl, _, _, hb1⟩
    exact ⟨0, false, _, rfl, .inr ⟨rfl, ⟨_, _, rfl⟩, fun u hu => by rw [show Lib.atoiAll (bl s) = _ from ha] at hu; cases hu⟩, hb1⟩
  · obtain ⟨ev, he1, he2⟩ := hL.rng
    refine (Tryz.strconv_Atoi_range s (by omega) ha ev w he1 he2).mono ?_
    rintro e w1 ⟨N, rfl, _, _, hb1⟩
    exact ⟨_, false, _, rfl, .inr ⟨rfl, ⟨_, _, rfl⟩, fun u hu => by rw [show Lib.atoiAll (bl s) = _ from ha] at hu; cases hu⟩, hb1⟩
end Go.Proofs.YtpjfidmapnnbkaaGreatDoor

/- Numbers of texts: the reference's l1Read, the program's ParseInt. -/
namespace Go.Proofs.YtpjfidmapnnbkaaGreatDoor
open Go.RowKit

theorem inr_iff {n lo hi : Int} : inR n lo hi = true ↔ lo ≤ n ∧ n ≤ hi := by simp [inR]
/-- Every number of which a text may tell. -/
theorem l1Num_all (n : Int) (w : World) (h0 : -1000000000 ≤ n) (h1 : n ≤ 1000000000) :
    Calls Tryz.prog 51 #[.int .i64 n] w fun e w' => e = .returned (.string ⟨(Lib.itoa n).toArray⟩) ∧ Below w.heap.size w w' := by
  by_cases hn : n < 0
  · have HC : Hid (∀ W : World, Calls Tryz.prog 51 #[.int .i64 (-n)] W fun e w' => e = .returned (.string ⟨(Lib.itoa (-n)).toArray⟩) ∧ Below W.heap.size W w') := fun W => l1Num_any (-n) W (by omega) (by omega)
    have HI : Hid (Lib.itoa n = 45 :: Lib.itoa (-n)) := by
      unfold Lib.itoa Hid
      rw [if_pos hn, if_neg (by omega), show n.natAbs = (-n).toNat by omega]
    have hz := itoa_len (n := -n) (by omega) (by omega)
    obtain ⟨t, ht⟩ : ∃ t : ByteArray, t = ⟨(Lib.itoa (-n)).toArray⟩ := ⟨_, rfl⟩
    rw [← ht] at HC hz
    have HT := Lib.hid ht
    clear ht
    have hw : IntKind.i64.wrap (-n) = -n := IntWalk.i64_in _ (by omega)
    go_enter Tryz.func51, Tryz.ntmps51
    go_wp2_with fail
    refine (HC.out _).mono ?_
    rintro e w1 ⟨rfl, hb⟩
    go_wp2_with fail
    go_ret
    refine ⟨?_, hb⟩
    rw [HI.out]
    congr 1
    rw [HT.out, ByteArray.mk_append_mk]; rfl
  · exact l1Num_any n w (by omega) h1
/-- What reading a number gives. -/
def GivesNum (s : ByteArray) (w : World) (e : Ending) (w' : World) : Prop := e = .returned (.tuple #[.int .i64 ((numF (bl s)).getD 0), .bool (numF (bl s)).isSome]) ∧ Below w.heap.size w w'
end Go.Proofs.YtpjfidmapnnbkaaGreatDoor
