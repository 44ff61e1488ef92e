/- Greatest common divisors and fractions. -/
import Derived.Test.YtgdjdejfegkjdaaRowLeast
namespace Go.Proofs.Ytgdjdejfegkjdaa
open Go.RowKit

set_option maxHeartbeats 1000000 in
theorem gcd_any (x y : Nat) (w : World) (hx : x ≤ 1000000000000) (hy : y ≤ 1000000000000) :
    Calls Try.prog 65 #[.int .i64 x, .int .i64 y] w fun e w' => e = .returned (.int .i64 (Nat.gcd x y)) ∧ Below w.heap.size w w' := by
  go_enter Try.func65, Try.ntmps65
  go_wp2
  go_loopw [0, 1] (fun a b wr => ∃ (p r : Nat), a = .int .i64 p ∧ b = .int .i64 r ∧ p ≤ 1000000000000 ∧ r ≤ 1000000000000 ∧ Below w.heap.size w wr ∧ Hid (Nat.gcd p r = Nat.gcd x y)) (fun _ b _ => (intOf b).toNat)
  case atStart => exact ⟨x, y, rfl, rfl, hx, hy, Below.refl _ _, rfl⟩
  case round =>
    obtain ⟨p, r, rfl, rfl, hp, hr, hbr, HR⟩ := hrel
    obtain ⟨q, rfl⟩ : ∃ q : Since w.heap.size w, wr = q.val := ⟨⟨wr, hbr⟩, rfl⟩
    by_cases h0 : r = 0
    · have hz : ((r : Int) != 0) = false := by simp [h0]
      have HE : Hid (p = Nat.gcd x y) := by have h1 := HR.out; rw [h0, Nat.gcd_zero_right] at h1; exact h1
      clear h0
      go_wp2
      go_ret
      exact ⟨by rw [← HE.out]; rfl, q.below⟩
    · have hz : ((r : Int) != 0) = true := by simp [h0]
      have hz' : ((r : Int) == 0) = false := by simp [h0]
      have hz2 : (r : Int) ≠ 0 := by omega
      have HE : Hid (Nat.gcd r (p % r) = Nat.gcd x y) := by have h1 := HR.out; rw [Nat.gcd_comm p r, Nat.gcd_rec, Nat.gcd_comm] at h1; exact h1
      have hlt : p % r < r := Nat.mod_lt _ (by omega)
      go_wp2
      refine wp_region_since _ (by kernel_rfl) (by kernel_rfl) ?_
      repeat (any_goals (first | go_big_quiet_step ((fail)) | (refine wpQuiet_step (fun K hK => ?_); go_simp; split <;> (refine hK _ ?_; clear hK K))))
      all_goals (refine wpQuiet_nil ?_; rintro _ ⟨q1, rfl⟩)
      go_wp2
      go_roundw
      case rel => exact ⟨r, p % r, rfl, by rw [Int.natCast_emod], hr, by omega, q1.below, HE⟩
      case measure => simp only [intOf, ← Int.natCast_emod]; simp; omega

/-- Both parts of a fraction. -/
theorem fraction_any (n : Int) (y : Nat) (w : World) (hn : -1000000000000 ≤ n) (hn' : n ≤ 1000000000000) (hy : y ≤ 1000000000000) (hy0 : 0 < y) :
    Calls Try.prog 52 #[.int .i64 n, .int .i64 y] w fun e w' => e = .returned (.tuple #[.int .i64 (n.tdiv (Nat.gcd n.natAbs y)), .int .i64 ((y : Int).tdiv (Nat.gcd n.natAbs y))]) ∧ Below w.heap.size w w' := by
  have hg : 0 < Nat.gcd n.natAbs y := Nat.gcd_pos_of_pos_right _ hy0
  have hgy : Nat.gcd n.natAbs y ≤ y := Nat.gcd_le_right _ hy0
  have HC : ∀ (m : Int) (hm : m = n.natAbs) (w : World), Calls Try.prog 65 #[.int .i64 m, .int .i64 y] w fun e w' => e = .returned (.int .i64 (Nat.gcd n.natAbs y)) ∧ Below w.heap.size w w' := fun m hm w => by subst hm; exact gcd_any n.natAbs y w (by omega) hy
  generalize Nat.gcd n.natAbs y = g at HC hg hgy ⊢
  have hb0 : 0 ≤ (y : Int) / (g : Int) := Int.ediv_nonneg (by omega) (by omega)
  have hb1' : (y : Int) / (g : Int) ≤ y := Int.ediv_le_self _ (by omega)
  have HT : Hid ((y : Int).tdiv g = (y : Int) / g) := Int.tdiv_eq_ediv_of_nonneg (by omega)
  have HN : Hid (0 ≤ n → n.tdiv g = n / g) := fun h => Int.tdiv_eq_ediv_of_nonneg h
  have hz : ((g : Int) == 0) = false := by rw [beq_eq_false_iff_ne]; omega
  have hz2 : (g : Int) ≠ 0 := by omega
  go_enter Try.func52, Try.ntmps52
  go_wp2_with fail
  all_goals
    refine (HC _ (by omega) _).mono ?_
    rintro e w1 ⟨rfl, hb1⟩
    obtain ⟨q, rfl⟩ : ∃ q : Since w.heap.size w, w1 = q.val := ⟨⟨w1, hb1⟩, rfl⟩
    go_wp2
    refine wp_region_since _ (by kernel_rfl) (by kernel_rfl) ?_
    repeat (any_goals (first | go_big_quiet_step ((fail)) | (refine wpQuiet_step (fun K hK => ?_); go_simp; split <;> (refine hK _ ?_; clear hK K))))
    all_goals (refine wpQuiet_nil ?_; rintro _ ⟨q1, rfl⟩)
    go_wp2
    go_ret2
    exact ⟨by rw [HT.out]; first | rfl | (rw [HN.out (by omega)]; rfl), q1.below⟩

set_option maxHeartbeats 1000000 in
theorem l2Reduce_any (n : Int) (y : Nat) (w : World) (hn : -1000000000000 ≤ n) (hn' : n ≤ 1000000000000) (hy : y ≤ 1000000000000) (hy0 : 0 < y) :
    Calls Try.prog 51 #[.int .i64 n, .int .i64 y] w fun e w' => e = .returned (.tuple #[.int .i64 (n.tdiv (Nat.gcd n.natAbs y)), .int .i64 ((y : Int).tdiv (Nat.gcd n.natAbs y))]) ∧ Below w.heap.size w w' := by
  have hg : 0 < Nat.gcd n.natAbs y := Nat.gcd_pos_of_pos_right _ hy0
  have hgy : Nat.gcd n.natAbs y ≤ y := Nat.gcd_le_right _ hy0
  have HM : Hid (max n (-n) = (n.natAbs : Int)) := by unfold Hid; omega
  have hx : n.natAbs ≤ 1000000000000 := by omega
  generalize hge : Nat.gcd n.natAbs y = g at hg hgy ⊢
  have hb0 : 0 ≤ (y : Int) / (g : Int) := Int.ediv_nonneg (by omega) (by omega)
  have hb1' : (y : Int) / (g : Int) ≤ y := Int.ediv_le_self _ (by omega)
  have HT : Hid ((y : Int).tdiv g = (y : Int) / g) := Int.tdiv_eq_ediv_of_nonneg (by omega)
  have HN : Hid (0 ≤ n → n.tdiv g = n / g) := fun h => Int.tdiv_eq_ediv_of_nonneg h
  have HG := Lib.hid hge; clear hge
  go_enter Try.func51, Try.ntmps51
  go_wp2_with fail
  refine (l1Most_any _ _ _).mono ?_
  rw [HM.out]
  rintro e w1 ⟨rfl, rfl⟩
  go_wp2
  go_loopw [6, 7] (fun a b wr => ∃ (p r : Nat), a = .int .i64 p ∧ b = .int .i64 r ∧ p ≤ 1000000000000 ∧ r ≤ 1000000000000 ∧ Below w.heap.size w wr ∧ Hid (Nat.gcd p r = g)) (fun _ b _ => (intOf b).toNat)
  case atStart => exact ⟨n.natAbs, y, rfl, rfl, hx, hy, Below.refl _ _, HG⟩
  case round =>
    obtain ⟨p, r, rfl, rfl, hp, hr, hbr, HR⟩ := hrel
    obtain ⟨q, rfl⟩ : ∃ q : Since w.heap.size w, wr = q.val := ⟨⟨wr, hbr⟩, rfl⟩
    by_cases h0 : r = 0
    · have hz : ((r : Int) != 0) = false := by simp [h0]
      have HE : Hid (p = g) := by have h1 := HR.out; rw [h0, Nat.gcd_zero_right] at h1; exact h1
      have hz1 : ((p : Int) == 0) = false := by rw [beq_eq_false_iff_ne, HE.out]; omega
      have hz2 : (p : Int) ≠ 0 := by rw [HE.out]; omega
      have hp0 : 0 < p := by have := HE.out; omega
      have hb2 : 0 ≤ (y : Int) / (p : Int) := by rw [HE.out]; exact hb0
      have hb3 : (y : Int) / (p : Int) ≤ y := by rw [HE.out]; exact hb1'
      clear h0
      go_wp2
      refine wp_region_since _ (by kernel_rfl) (by kernel_rfl) ?_
      repeat (any_goals (first | go_big_quiet_step ((fail)) | (refine wpQuiet_step (fun K hK => ?_); go_simp; split <;> (refine hK _ ?_; clear hK K))))
      all_goals (refine wpQuiet_nil ?_; rintro _ ⟨q1, rfl⟩)
      go_wp2
      go_ret2
      exact ⟨by rw [HT.out, ← HE.out]; first | rfl | (rw [HE.out, HN.out (by omega), ← HE.out]; rfl), q1.below⟩
    · have hz : ((r : Int) != 0) = true := by simp [h0]
      have hz' : ((r : Int) == 0) = false := by simp [h0]
      have hz2 : (r : Int) ≠ 0 := by omega
      have HE : Hid (Nat.gcd r (p % r) = g) := by have h1 := HR.out; rw [Nat.gcd_comm p r, Nat.gcd_rec, Nat.gcd_comm] at h1; exact h1
      have hlt : p % r < r := Nat.mod_lt _ (by omega)
      go_wp2
      go_roundw
      case rel => exact ⟨r, p % r, rfl, by rw [Int.natCast_emod], hr, by omega, hbr, HE⟩
      case measure => simp only [intOf, ← Int.natCast_emod]; simp; omega
end Go.Proofs.Ytgdjdejfegkjdaa
