/- Rows of the office: the profit per item sold, in the reference and in the program. -/
import Derived.Test.YtgdjdejfegkjdaaRowSums
import Derived.Test.YtgdjdejfegkjdaaGcd
namespace Go.Proofs.Ytgdjdejfegkjdaa
open Go.RowKit

def csFrom : Int → Int → List Row → Int × Int
  | c, s, [] => (c, s)
  | c, s, r :: l => csFrom (c + r.c) (s + r.s) l
theorem cs_step {l : List Row} {k : Nat} (h : k < l.length) (c s : Int) : csFrom c s (l.drop k) = csFrom (c + l[k].c) (s + l[k].s) (l.drop (k + 1)) := by
  rw [List.drop_eq_getElem_cons h]; rfl
theorem cs_sums : ∀ (l : List Row) (b s c m : Int), ∃ b' m', sumsFrom b s c m l = [b', (csFrom c s l).2, (csFrom c s l).1, m']
  | [], b, _, _, m => ⟨b, m, rfl⟩
  | _ :: l, _, _, _, _ => cs_sums l _ _ _ _
theorem cs_bounds : ∀ (l : List Row) (c s : Int), (∀ x ∈ l, x.ok = true) → (s ≤ (csFrom c s l).2 ∧ (csFrom c s l).2 ≤ s + 9999 * l.length) ∧ (c - 1000000 * l.length ≤ (csFrom c s l).1 ∧ (csFrom c s l).1 ≤ c + 1000000 * l.length)
  | [], c, s, _ => by simp [csFrom]
  | r :: l, c, s, h => by
    obtain ⟨_, _, h1, h2, _⟩ := Row.bounds (h r (by simp))
    have := cs_bounds l (c + r.c) (s + r.s) (fun x hx => h x (by simp [hx]))
    simp only [csFrom, List.length_cons]
    omega
def profCS (l : List Row) : Int × Int := csFrom 0 0 l
def profOk (l : List Row) : Bool := goodRows l && decide ((profCS l).2 ≠ 0)
def profGcd (l : List Row) : Int := Nat.gcd (profCS l).1.natAbs (profCS l).2.toNat
def profNum (l : List Row) : Int := if profOk l then (profCS l).1.tdiv (profGcd l) else 0
def profDen (l : List Row) : Int := if profOk l then (profCS l).2.tdiv (profGcd l) else 0
theorem prof_no {l : List Row} (h : profOk l = false) : profNum l = 0 ∧ profDen l = 0 := by unfold profNum profDen; rw [h]; exact ⟨rfl, rfl⟩
theorem prof_yes {l : List Row} (h : profOk l = true) : profNum l = (profCS l).1.tdiv (profGcd l) ∧ profDen l = (profCS l).2.tdiv (profGcd l) := by unfold profNum profDen; rw [h]; exact ⟨rfl, rfl⟩

set_option maxHeartbeats 2000000 in
theorem specProfit_any (A : Option Addr) (c : Nat) (l : List Row) (w : World) (h : RowsR w w.heap.size A l) :
    Calls Try.prog 27 #[.slice A l.length c] w fun e w' => e = .returned (.tuple #[.int .i64 (profNum l), .int .i64 (profDen l), .bool (profOk l)]) ∧ Below w.heap.size w w' := by
  have hS := specSums_any A c l w h
  cases hg : goodRows l
  · have ho : profOk l = false := by unfold profOk; rw [hg]; rfl
    have HF := Lib.hid (prof_no ho)
    have HO := Lib.hid ho
    rw [hg] at hS
    clear hg ho
    go_enter Try.func27, Try.ntmps27
    go_wp2_with fail
    refine hS.mono ?_
    rintro e w1 ⟨A', c', rfl, _, hb1⟩
    go_wp2
    go_ret3
    rw [HF.out.1, HF.out.2, HO.out]
    exact ⟨rfl, hb1⟩
  · have h12 := good_len hg
    obtain ⟨tb, tm, hE0⟩ := cs_sums l 0 0 0 0
    have hE : sumsR l = [tb, (profCS l).2, (profCS l).1, tm] := by unfold sumsR; rw [hg]; exact hE0
    obtain ⟨⟨s0, s1⟩, ⟨m0, m1⟩⟩ := cs_bounds l 0 0 (fun x hx => by obtain ⟨i, hi, rfl⟩ := List.getElem_of_mem hx; exact good_at hg hi)
    have hN : profOk l = decide ((profCS l).2 ≠ 0) := by unfold profOk; rw [hg]; rfl
    have hno := prof_no (l := l)
    have hyes := prof_yes (l := l)
    unfold profGcd at hyes
    change 0 ≤ (profCS l).2 at s0
    change (profCS l).2 ≤ _ at s1
    change _ ≤ (profCS l).1 at m0
    change (profCS l).1 ≤ _ at m1
    rw [hE, hg] at hS
    have hc : Calls Try.prog 29 #[.slice A l.length c] w fun e w' => ∃ A' c', e = .returned (.tuple #[.slice A' 4 c', .bool true]) ∧ OwnS w' w.heap.size 3 1 A' 4 (encIs [tb, (profCS l).2, (profCS l).1, tm]) ∧ Below w.heap.size w w' := hS
    generalize (profCS l).1 = pc at *
    generalize (profCS l).2 = ps at *
    clear hg hE hE0 hS
    obtain ⟨y, rfl⟩ : ∃ y : Nat, ps = y := ⟨ps.toNat, by omega⟩
    rw [Int.toNat_natCast] at hyes
    cases ho : profOk l
    · have hy0 : (y : Int) = 0 := by rw [ho] at hN; simpa using hN
      have HF := Lib.hid (hno ho)
      have HO := Lib.hid ho
      clear hno hyes hN ho
      go_enter Try.func27, Try.ntmps27
      go_wp2_with fail
      refine hc.mono ?_
      rintro e w1 ⟨A', c', rfl, ⟨_, _, ⟨_, h4⟩ | ⟨g, rest, rfl, hgg, hL⟩⟩, hb1⟩
      · omega
      · have d1 := hL.cell 1
        simp only [List.map_cons, List.cons_append, List.getElem?_cons_zero, List.getElem?_cons_succ] at d1
        rw [hy0] at d1
        clear hL hc
        go_wp2
        go_ret3
        rw [HF.out.1, HF.out.2]
        exact ⟨rfl, hb1⟩
    · have hy0 : (y : Int) ≠ 0 := by rw [ho] at hN; simpa using hN
      have hyb : ((y : Int) == 0) = false := by rw [beq_eq_false_iff_ne]; exact hy0
      have hgp : 0 < Nat.gcd pc.natAbs y := Nat.gcd_pos_of_pos_right _ (by omega)
      have hR : ∀ w, Calls Try.prog 51 #[.int .i64 (max pc (-pc)), .int .i64 y] w fun e w' => e = .returned (.tuple #[.int .i64 ((pc.natAbs : Int).tdiv (Nat.gcd pc.natAbs y)), .int .i64 ((y : Int).tdiv (Nat.gcd pc.natAbs y))]) ∧ Below w.heap.size w w' := fun w => by
        have hm : max pc (-pc) = (pc.natAbs : Int) := by omega
        have := l2Reduce_any (pc.natAbs : Int) y w (by omega) (by omega) (by omega) (by omega)
        rw [Int.natAbs_natCast] at this
        rw [hm]; exact this
      obtain ⟨hf1, hf2⟩ := hyes ho
      have hq0 : 0 ≤ (pc.natAbs : Int).tdiv (Nat.gcd pc.natAbs y) := Int.tdiv_nonneg (by omega) (by omega)
      have hq1 : (pc.natAbs : Int).tdiv (Nat.gcd pc.natAbs y) ≤ 12000000 := by
        rw [Int.tdiv_eq_ediv_of_nonneg (by omega)]
        have := Int.ediv_le_self (a := (pc.natAbs : Int)) (Nat.gcd pc.natAbs y : Int) (by omega)
        omega
      have hneg : pc < 0 → profNum l = -((pc.natAbs : Int).tdiv (Nat.gcd pc.natAbs y)) := fun hlt => by
        rw [hf1, ← Int.neg_tdiv]; congr 1; omega
      have hpos : ¬ pc < 0 → profNum l = (pc.natAbs : Int).tdiv (Nat.gcd pc.natAbs y) := fun hlt => by
        rw [hf1]; congr 1; omega
      have HD := Lib.hid hf2
      have HO := Lib.hid ho
      clear hf1 hf2 hno hyes hN ho
      generalize (pc.natAbs : Int).tdiv (Nat.gcd pc.natAbs y) = num at *
      generalize (y : Int).tdiv (Nat.gcd pc.natAbs y) = den at *
      go_enter Try.func27, Try.ntmps27
      go_wp2_with fail
      refine hc.mono ?_
      rintro e w1 ⟨A', c', rfl, ⟨_, _, ⟨_, h4⟩ | ⟨g, rest, rfl, hgg, hL⟩⟩, hb1⟩
      · omega
      · have k1 := hL.cell 1
        have k2 := hL.cell 2
        simp only [List.map_cons, List.cons_append, List.getElem?_cons_zero, List.getElem?_cons_succ] at k1 k2
        have d1 : ∀ p : Since w1.heap.size w1, p.val.cell? ⟨g, 1, none⟩ = some (.int .i64 y) := fun p => (p.cell hL.lt).trans k1
        have d2 : ∀ p : Since w1.heap.size w1, p.val.cell? ⟨g, 2, none⟩ = some (.int .i64 pc) := fun p => (p.cell hL.lt).trans k2
        clear hL hc
        by_cases hlt : pc < 0
        · have HN := Lib.hid (hneg hlt)
          clear hneg hpos
          go_wp2
          clear k1 k2
          refine wp_region_since0 (by kernel_rfl) (by kernel_rfl) ?_
          repeat (any_goals (first | go_big_quiet_step ((first | (go_at_call 50; refine calls_same (l1Most_any _ _ _)) | (go_at_call 51; refine calls_since (Nat.le_refl _) (hR _)))) | (refine wpQuiet_step (fun K hK => ?_); go_simp; split <;> (refine hK _ ?_; clear hK K))))
          all_goals (refine wpQuiet_nil ?_; rintro _ ⟨q1, rfl⟩)
          go_wp2
          go_ret3
          rw [HN.out, HD.out]
          exact ⟨rfl, bthen hb1 q1.below⟩
        · have HN := Lib.hid (hpos (by omega))
          clear hneg hpos
          go_wp2
          clear k1 k2
          refine wp_region_since0 (by kernel_rfl) (by kernel_rfl) ?_
          repeat (any_goals (first | go_big_quiet_step ((first | (go_at_call 50; refine calls_same (l1Most_any _ _ _)) | (go_at_call 51; refine calls_since (Nat.le_refl _) (hR _)))) | (refine wpQuiet_step (fun K hK => ?_); go_simp; split <;> (refine hK _ ?_; clear hK K))))
          all_goals (refine wpQuiet_nil ?_; rintro _ ⟨q1, rfl⟩)
          go_wp2
          go_ret3
          rw [HN.out, HD.out]
          exact ⟨rfl, bthen hb1 q1.below⟩

set_option maxHeartbeats 2000000 in
theorem implProfit_any (A : Option Addr) (c : Nat) (l : List Row) (w : World) (h : RowsR w w.heap.size A l) :
    Calls Try.prog 28 #[.slice A l.length c] w fun e w' => e = .returned (.tuple #[.int .i64 (profNum l), .int .i64 (profDen l), .bool (profOk l)]) ∧ Below w.heap.size w w' := by
  have hl := h.big
  have hrd := h.row
  have hc := areOfficeRows_any A c l w h
  cases hg : goodRows l
  · have ho : profOk l = false := by unfold profOk; rw [hg]; rfl
    have HF := Lib.hid (prof_no ho)
    have HO := Lib.hid ho
    rw [hg] at hc
    clear hg ho hrd
    go_enter Try.func28, Try.ntmps28
    go_wp2_with fail
    refine hc.mono ?_
    rintro e w1 ⟨rfl, hb1⟩
    go_wp2
    go_ret3
    rw [HF.out.1, HF.out.2, HO.out]
    exact ⟨rfl, hb1⟩
  · have h12 := good_len hg
    have HA : Hid (∀ i (hi : i < l.length), l[i].ok = true) := fun i hi => good_at hg hi
    have HF : Hid (csFrom 0 0 (l.drop 0) = profCS l) := rfl
    have HN : Hid (profOk l = decide ((profCS l).2 ≠ 0)) := by unfold profOk; rw [hg]; rfl
    rw [hg] at hc
    clear hg
    go_enter Try.func28, Try.ntmps28
    go_wp2_with fail
    refine hc.mono ?_
    rintro e w1 ⟨rfl, hb1⟩
    clear hc
    go_wp2
    go_loopw [5, 6, 16] (fun a s i wr => ∃ (k : Nat) (tc ts : Int), k ≤ l.length ∧ i = .int .i64 k ∧ a = .int .i64 tc ∧ s = .int .i64 ts ∧ (0 ≤ ts ∧ ts ≤ 9999 * (k : Int)) ∧ (-(1000000 * (k : Int)) ≤ tc ∧ tc ≤ 1000000 * (k : Int)) ∧ Below w.heap.size w wr ∧ Hid (csFrom tc ts (l.drop k) = profCS l)) (fun _ _ i _ => l.length - (intOf i).toNat)
    case atStart => exact ⟨0, 0, 0, Nat.zero_le _, rfl, rfl, rfl, by omega, by omega, hb1, HF⟩
    case round =>
      clear hb1
      obtain ⟨k, tc, ts, hk, rfl, rfl, rfl, ⟨s1, s2⟩, ⟨m1, m2⟩, hbr, HR⟩ := hrel
      obtain ⟨q, rfl⟩ : ∃ q : Since w.heap.size w, wr = q.val := ⟨⟨wr, hbr⟩, rfl⟩
      by_cases hlt : k < l.length
      · obtain ⟨b, off, rfl, hb, hcell⟩ := hrd (by omega)
        obtain ⟨c0, c1, c2, c3, c4⟩ := hcell k hlt
        obtain ⟨_, _, hxs, hxc, _⟩ := Row.bounds (HA.out k hlt)
        have HS : Hid (csFrom tc ts (l.drop k) = csFrom (tc + l[k].c) (ts + l[k].s) (l.drop (k + 1))) := cs_step hlt _ _
        obtain ⟨x, hxe⟩ : ∃ x, x = l[k] := ⟨_, rfl⟩
        rw [← hxe] at c0 c1 c2 c3 c4 hxs hxc HS
        clear hxe hcell hrd
        obtain ⟨xs1, xs2⟩ := hxs
        obtain ⟨xc1, xc2⟩ := hxc
        have hbW := q.below.alloc q.size (.cells #[.int .i64 x.m, .int .i64 x.b, .int .i64 x.s, .int .i64 x.c, .int .i64 x.l] 25)
        go_wp2
        go_roundw
        case rel => exact ⟨k + 1, tc + x.c, ts + x.s, by omega, by go_num, rfl, rfl, by omega, by omega, hbW, Lib.hid (by rw [← HS.out]; exact HR.out)⟩
        case measure => simp [intOf]; omega
      · have hE : profCS l = (tc, ts) := by
          have h1 := HR.out; rw [List.drop_eq_nil_of_le (by omega)] at h1; exact h1.symm
        have hN := HN.out
        have hno := prof_no (l := l)
        have hyes := prof_yes (l := l)
        unfold profGcd at hyes
        rw [hE] at hN hyes
        simp only at hN hyes
        clear hrd HR HF HN hE
        obtain ⟨y, rfl⟩ : ∃ y : Nat, ts = y := ⟨ts.toNat, by omega⟩
        rw [Int.toNat_natCast] at hyes
        cases ho : profOk l
        · have hy0 : (y : Int) = 0 := by rw [ho] at hN; simpa using hN
          have hyb : ((y : Int) == 0) = true := by rw [hy0]; rfl
          have HF := Lib.hid (hno ho)
          have HO := Lib.hid ho
          clear hno hyes hN ho hy0
          go_wp2
          go_ret3
          rw [HF.out.1, HF.out.2, HO.out]
          exact ⟨rfl, q.below⟩
        · have hy0 : (y : Int) ≠ 0 := by rw [ho] at hN; simpa using hN
          have hyb : ((y : Int) == 0) = false := by rw [beq_eq_false_iff_ne]; exact hy0
          have HF := Lib.hid (And.intro (hyes ho).1 ((hyes ho).2.trans (Int.tdiv_eq_ediv_of_nonneg (by omega))))
          have HO := Lib.hid ho
          have hR := fun w => fraction_any tc y w (by omega) (by omega) (by omega) (by omega)
          clear hno hyes hN ho
          go_wp2_with fail
          refine (hR _).mono ?_
          rintro e w2 ⟨rfl, hb2⟩
          have hb3 := q.below.trans (hb2.mono q.size)
          go_wp2
          go_ret3
          rw [HF.out.1, HF.out.2, HO.out]
          exact ⟨rfl, hb3⟩
end Go.Proofs.Ytgdjdejfegkjdaa
