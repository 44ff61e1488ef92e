/- St03: the texts RowProfit RowBest RowWorst StockP DrawRows VInts LawStock, joined into one file. -/
import Derived.Test.YtpjfidmapnnbkaaSt01
import Derived.Test.YtpjfidmapnnbkaaSt02

set_option linter.unusedVariables false

/- Rows of the office: the profit per item sold, in the reference and in the program. -/
namespace Go.Proofs.Ytpjfidmapnnbkaa
open Go.RowKit

def csFrom : Int → Int → List Row → Int × Int
  | c, s, [] => (c, s)
  | c, s, r :: l => csFrom (c + r.c) (s + r.s) l
theorem cs_step {l : List Row} {k : Nat} (h : k < l.length) (c s : Int) : csFrom c s (l.drop k) = csFrom (c + l[k].c) (s + l[k].s) (l.drop (k + 1)) := by
  rw [List.drop_eq_getElem_cons h]; rfl
theorem cs_sums : ∀ (l : List Row) (b s c m : Int), ∃ b' m', sumsFrom b s c m l = [b', (csFrom c s l).2, (csFrom c s l).1, m']
  | [], b, _, _, m => ⟨b, m, rfl⟩
  | _ :: l, _, _, _, _ => cs_sums l _ _ _ _
theorem cs_bounds : ∀ (l : List Row) (c s : Int), (∀ x ∈ l, x.ok = true) → (s ≤ (csFrom c s l).2 ∧ (csFrom c s l).2 ≤ s + 9999 * l.length) ∧ (c - 1000000 * l.length ≤ (csFrom c s l).1 ∧ (csFrom c s l).1 ≤ c + 1000000 * l.length)
  | [], c, s, _ => by simp [csFrom]
  | r :: l, c, s, h => by
    obtain ⟨_, _, h1, h2, _⟩ := Row.bounds (h r (by simp))
    have := cs_bounds l (c + r.c) (s + r.s) (fun x hx => h x (by simp [hx]))
    simp only [csFrom, List.length_cons]
    omega
def profCS (l : List Row) : Int × Int := csFrom 0 0 l
def profOk (l : List Row) : Bool := goodRows l && decide ((profCS l).2 ≠ 0)
def profGcd (l : List Row) : Int := Nat.gcd (profCS l).1.natAbs (profCS l).2.toNat
def profNum (l : List Row) : Int := if profOk l then (profCS l).1.tdiv (profGcd l) else 0
def profDen (l : List Row) : Int := if profOk l then (profCS l).2.tdiv (profGcd l) else 0
theorem prof_no {l : List Row} (h : profOk l = false) : profNum l = 0 ∧ profDen l = 0 := by unfold profNum profDen; rw [h]; exact ⟨rfl, rfl⟩
theorem prof_yes {l : List Row} (h : profOk l = true) : profNum l = (profCS l).1.tdiv (profGcd l) ∧ profDen l = (profCS l).2.tdiv (profGcd l) := by unfold profNum profDen; rw [h]; exact ⟨rfl, rfl⟩

set_option maxHeartbeats 2000000 in
theorem specProfit_any (A : Option Addr) (c : Nat) (l : List Row) (w : World) (h : RowsR w w.heap.size A l) :
    Calls Try.prog 23 #[.slice A l.length c] w fun e w' => e = .returned (.tuple #[.int .i64 (profNum l), .int .i64 (profDen l), .bool (profOk l)]) ∧ Below w.heap.size w w' := by
  have hS := specSums_any A c l w h
  cases hg : goodRows l
  · have ho : profOk l = false := by unfold profOk; rw [hg]; rfl
    have HF := Lib.hid (prof_no ho)
    have HO := Lib.hid ho
    rw [hg] at hS
    clear hg ho
    go_enter Try.func23, Try.ntmps23
    go_wp2_with fail
    refine hS.mono ?_
    rintro e w1 ⟨A', c', rfl, _, hb1⟩
    go_wp2
    go_ret3
    rw [HF.out.1, HF.out.2, HO.out]
    exact ⟨rfl, hb1⟩
  · have h12 := good_len hg
    obtain ⟨tb, tm, hE0⟩ := cs_sums l 0 0 0 0
    have hE : sumsR l = [tb, (profCS l).2, (profCS l).1, tm] := by unfold sumsR; rw [hg]; exact hE0
    obtain ⟨⟨s0, s1⟩, ⟨m0, m1⟩⟩ := cs_bounds l 0 0 (fun x hx => by obtain ⟨i, hi, rfl⟩ := List.getElem_of_mem hx; exact good_at hg hi)
    have hN : profOk l = decide ((profCS l).2 ≠ 0) := by unfold profOk; rw [hg]; rfl
    have hno := prof_no (l := l)
    have hyes := prof_yes (l := l)
    unfold profGcd at hyes
    change 0 ≤ (profCS l).2 at s0
    change (profCS l).2 ≤ _ at s1
    change _ ≤ (profCS l).1 at m0
    change (profCS l).1 ≤ _ at m1
    rw [hE, hg] at hS
    have hc : Calls Try.prog 25 #[.slice A l.length c] w fun e w' => ∃ A' c', e = .returned (.tuple #[.slice A' 4 c', .bool true]) ∧ OwnS w' w.heap.size 3 1 A' 4 (encIs [tb, (profCS l).2, (profCS l).1, tm]) ∧ Below w.heap.size w w' := hS
    generalize (profCS l).1 = pc at *
    generalize (profCS l).2 = ps at *
    clear hg hE hE0 hS
    obtain ⟨y, rfl⟩ : ∃ y : Nat, ps = y := ⟨ps.toNat, by omega⟩
    rw [Int.toNat_natCast] at hyes
    cases ho : profOk l
    · have hy0 : (y : Int) = 0 := by rw [ho] at hN; simpa using hN
      have HF := Lib.hid (hno ho)
      have HO := Lib.hid ho
      clear hno hyes hN ho
      go_enter Try.func23, Try.ntmps23
      go_wp2_with fail
      refine hc.mono ?_
      rintro e w1 ⟨A', c', rfl, ⟨_, _, ⟨_, h4⟩ | ⟨g, rest, rfl, hgg, hL⟩⟩, hb1⟩
      · omega
      · have d1 := hL.cell 1
        simp only [List.map_cons, List.cons_append, List.getElem?_cons_zero, List.getElem?_cons_succ] at d1
        rw [hy0] at d1
        clear hL hc
        go_wp2
        go_ret3
        rw [HF.out.1, HF.out.2]
        exact ⟨rfl, hb1⟩
    · have hy0 : (y : Int) ≠ 0 := by rw [ho] at hN; simpa using hN
      have hyb : ((y : Int) == 0) = false := by rw [beq_eq_false_iff_ne]; exact hy0
      have hgp : 0 < Nat.gcd pc.natAbs y := Nat.gcd_pos_of_pos_right _ (by omega)
      have hR : ∀ w, Calls Try.prog 42 #[.int .i64 (max pc (-pc)), .int .i64 y] w fun e w' => e = .returned (.tuple #[.int .i64 ((pc.natAbs : Int).tdiv (Nat.gcd pc.natAbs y)), .int .i64 ((y : Int).tdiv (Nat.gcd pc.natAbs y))]) ∧ Below w.heap.size w w' := fun w => by
        have hm : max pc (-pc) = (pc.natAbs : Int) := by omega
        have := l2Reduce_any (pc.natAbs : Int) y w (by omega) (by omega) (by omega) (by omega)
        rw [Int.natAbs_natCast] at this
        rw [hm]; exact this
      obtain ⟨hf1, hf2⟩ := hyes ho
      have hq0 : 0 ≤ (pc.natAbs : Int).tdiv (Nat.gcd pc.natAbs y) := Int.tdiv_nonneg (by omega) (by omega)
      have hq1 : (pc.natAbs : Int).tdiv (Nat.gcd pc.natAbs y) ≤ 12000000 := by
        rw [Int.tdiv_eq_ediv_of_nonneg (by omega)]
        have := Int.ediv_le_self (a := (pc.natAbs : Int)) (Nat.gcd pc.natAbs y : Int) (by omega)
        omega
      have hneg : pc < 0 → profNum l = -((pc.natAbs : Int).tdiv (Nat.gcd pc.natAbs y)) := fun hlt => by
        rw [hf1, ← Int.neg_tdiv]; congr 1; omega
      have hpos : ¬ pc < 0 → profNum l = (pc.natAbs : Int).tdiv (Nat.gcd pc.natAbs y) := fun hlt => by
        rw [hf1]; congr 1; omega
      have HD := Lib.hid hf2
      have HO := Lib.hid ho
      clear hf1 hf2 hno hyes hN ho
      generalize (pc.natAbs : Int).tdiv (Nat.gcd pc.natAbs y) = num at *
      generalize (y : Int).tdiv (Nat.gcd pc.natAbs y) = den at *
      go_enter Try.func23, Try.ntmps23
      go_wp2_with fail
      refine hc.mono ?_
      rintro e w1 ⟨A', c', rfl, ⟨_, _, ⟨_, h4⟩ | ⟨g, rest, rfl, hgg, hL⟩⟩, hb1⟩
      · omega
      · have k1 := hL.cell 1
        have k2 := hL.cell 2
        simp only [List.map_cons, List.cons_append, List.getElem?_cons_zero, List.getElem?_cons_succ] at k1 k2
        have d1 : ∀ p : Since w1.heap.size w1, p.val.cell? ⟨g, 1, none⟩ = some (.int .i64 y) := fun p => (p.cell hL.lt).trans k1
        have d2 : ∀ p : Since w1.heap.size w1, p.val.cell? ⟨g, 2, none⟩ = some (.int .i64 pc) := fun p => (p.cell hL.lt).trans k2
        clear hL hc
        by_cases hlt : pc < 0
        · have HN := Lib.hid (hneg hlt)
          clear hneg hpos
          go_wp2
          clear k1 k2
          refine wp_region_since0 (by kernel_rfl) (by kernel_rfl) ?_
          repeat (any_goals (first | go_big_quiet_step ((first | (go_at_call 39; refine calls_same (l1MostR_any _ _ _)) | (go_at_call 42; refine calls_since (Nat.le_refl _) (hR _)))) | (refine wpQuiet_step (fun K hK => ?_); go_simp; split <;> (refine hK _ ?_; clear hK K))))
          all_goals (refine wpQuiet_nil ?_; rintro _ ⟨q1, rfl⟩)
          go_wp2
          go_ret3
          rw [HN.out, HD.out]
          exact ⟨rfl, bthen hb1 q1.below⟩
        · have HN := Lib.hid (hpos (by omega))
          clear hneg hpos
          go_wp2
          clear k1 k2
          refine wp_region_since0 (by kernel_rfl) (by kernel_rfl) ?_
          repeat (any_goals (first | go_big_quiet_step ((first | (go_at_call 39; refine calls_same (l1MostR_any _ _ _)) | (go_at_call 42; refine calls_since (Nat.le_refl _) (hR _)))) | (refine wpQuiet_step (fun K hK => ?_); go_simp; split <;> (refine hK _ ?_; clear hK K))))
          all_goals (refine wpQuiet_nil ?_; rintro _ ⟨q1, rfl⟩)
          go_wp2
          go_ret3
          rw [HN.out, HD.out]
          exact ⟨rfl, bthen hb1 q1.below⟩

set_option maxHeartbeats 2000000 in
theorem implProfit_any (A : Option Addr) (c : Nat) (l : List Row) (w : World) (h : RowsR w w.heap.size A l) :
    Calls Try.prog 22 #[.slice A l.length c] w fun e w' => e = .returned (.tuple #[.int .i64 (profNum l), .int .i64 (profDen l), .bool (profOk l)]) ∧ Below w.heap.size w w' := by
  have hl := h.big
  have hrd := h.row
  have hc := areOfficeRows_any A c l w h
  cases hg : goodRows l
  · have ho : profOk l = false := by unfold profOk; rw [hg]; rfl
    have HF := Lib.hid (prof_no ho)
    have HO := Lib.hid ho
    rw [hg] at hc
    clear hg ho hrd
    go_enter Try.func22, Try.ntmps22
    go_wp2_with fail
    refine hc.mono ?_
    rintro e w1 ⟨rfl, hb1⟩
    go_wp2
    go_ret3
    rw [HF.out.1, HF.out.2, HO.out]
    exact ⟨rfl, hb1⟩
  · have h12 := good_len hg
    have HA : Hid (∀ i (hi : i < l.length), l[i].ok = true) := fun i hi => good_at hg hi
    have HF : Hid (csFrom 0 0 (l.drop 0) = profCS l) := rfl
    have HN : Hid (profOk l = decide ((profCS l).2 ≠ 0)) := by unfold profOk; rw [hg]; rfl
    rw [hg] at hc
    clear hg
    go_enter Try.func22, Try.ntmps22
    go_wp2_with fail
    refine hc.mono ?_
    rintro e w1 ⟨rfl, hb1⟩
    clear hc
    go_wp2
    go_loopw [5, 6, 16] (fun a s i wr => ∃ (k : Nat) (tc ts : Int), k ≤ l.length ∧ i = .int .i64 k ∧ a = .int .i64 tc ∧ s = .int .i64 ts ∧ (0 ≤ ts ∧ ts ≤ 9999 * (k : Int)) ∧ (-(1000000 * (k : Int)) ≤ tc ∧ tc ≤ 1000000 * (k : Int)) ∧ Below w.heap.size w wr ∧ Hid (csFrom tc ts (l.drop k) = profCS l)) (fun _ _ i _ => l.length - (intOf i).toNat)
    case atStart => exact ⟨0, 0, 0, Nat.zero_le _, rfl, rfl, rfl, by omega, by omega, hb1, HF⟩
    case round =>
      clear hb1
      obtain ⟨k, tc, ts, hk, rfl, rfl, rfl, ⟨s1, s2⟩, ⟨m1, m2⟩, hbr, HR⟩ := hrel
      obtain ⟨q, rfl⟩ : ∃ q : Since w.heap.size w, wr = q.val := ⟨⟨wr, hbr⟩, rfl⟩
      by_cases hlt : k < l.length
      · obtain ⟨b, off, rfl, hb, hcell⟩ := hrd (by omega)
        obtain ⟨c0, c1, c2, c3, c4⟩ := hcell k hlt
        obtain ⟨_, _, hxs, hxc, _⟩ := Row.bounds (HA.out k hlt)
        have HS : Hid (csFrom tc ts (l.drop k) = csFrom (tc + l[k].c) (ts + l[k].s) (l.drop (k + 1))) := cs_step hlt _ _
        obtain ⟨x, hxe⟩ : ∃ x, x = l[k] := ⟨_, rfl⟩
        rw [← hxe] at c0 c1 c2 c3 c4 hxs hxc HS
        clear hxe hcell hrd
        obtain ⟨xs1, xs2⟩ := hxs
        obtain ⟨xc1, xc2⟩ := hxc
        have hbW := q.below.alloc q.size (.cells #[.int .i64 x.m, .int .i64 x.b, .int .i64 x.s, .int .i64 x.c, .int .i64 x.l] 42)
        go_wp2
        go_roundw
        case rel => exact ⟨k + 1, tc + x.c, ts + x.s, by omega, by go_num, rfl, rfl, by omega, by omega, hbW, Lib.hid (by rw [← HS.out]; exact HR.out)⟩
        case measure => simp [intOf]; omega
      · have hE : profCS l = (tc, ts) := by
          have h1 := HR.out; rw [List.drop_eq_nil_of_le (by omega)] at h1; exact h1.symm
        have hN := HN.out
        have hno := prof_no (l := l)
        have hyes := prof_yes (l := l)
        unfold profGcd at hyes
        rw [hE] at hN hyes
        simp only at hN hyes
        clear hrd HR HF HN hE
        obtain ⟨y, rfl⟩ : ∃ y : Nat, ts = y := ⟨ts.toNat, by omega⟩
        rw [Int.toNat_natCast] at hyes
        cases ho : profOk l
        · have hy0 : (y : Int) = 0 := by rw [ho] at hN; simpa using hN
          have hyb : ((y : Int) == 0) = true := by rw [hy0]; rfl
          have HF := Lib.hid (hno ho)
          have HO := Lib.hid ho
          clear hno hyes hN ho hy0
          go_wp2
          go_ret3
          rw [HF.out.1, HF.out.2, HO.out]
          exact ⟨rfl, q.below⟩
        · have hy0 : (y : Int) ≠ 0 := by rw [ho] at hN; simpa using hN
          have hyb : ((y : Int) == 0) = false := by rw [beq_eq_false_iff_ne]; exact hy0
          have HF := Lib.hid (And.intro (hyes ho).1 ((hyes ho).2.trans (Int.tdiv_eq_ediv_of_nonneg (by omega))))
          have HO := Lib.hid ho
          have hR := fun w => fraction_any tc y w (by omega) (by omega) (by omega) (by omega)
          clear hno hyes hN ho
          go_wp2_with fail
          refine (hR _).mono ?_
          rintro e w2 ⟨rfl, hb2⟩
          have hb3 := q.below.trans (hb2.mono q.size)
          go_wp2
          go_ret3
          rw [HF.out.1, HF.out.2, HO.out]
          exact ⟨rfl, hb3⟩
end Go.Proofs.Ytpjfidmapnnbkaa

/- Rows of the office: the best month, in the reference and in the program. -/
namespace Go.Proofs.Ytpjfidmapnnbkaa
open Go.RowKit

def betterRow (b r : Row) : Row := if b.c < r.c then r else b
def bestFrom : Row → List Row → Row
  | b, [] => b
  | b, r :: rest => bestFrom (betterRow b r) rest
/-- The best month of a list that is valid and not empty. -/
def bestMonth : List Row → Int
  | [] => 0
  | r :: rest => (bestFrom r (r :: rest)).m

theorem bestFrom_step {l : List Row} {k : Nat} (h : k < l.length) (b : Row) : bestFrom b (l.drop k) = bestFrom (betterRow b l[k]) (l.drop (k + 1)) := by
  rw [List.drop_eq_getElem_cons h]; rfl
theorem bestMonth_eq {l : List Row} (h : 0 < l.length) : bestMonth l = (bestFrom l[0] (l.drop 0)).m := by
  cases l with
  | nil => simp at h
  | cons r rest => rfl

def bestOk (l : List Row) : Bool := goodRows l && !l.isEmpty

/-- The results where the list is not valid, or empty. -/
theorem specBest_no (A : Option Addr) (c : Nat) (l : List Row) (w : World) (h : RowsR w w.heap.size A l) (hno : bestOk l = false) :
    Calls Try.prog 21 #[.slice A l.length c] w fun e w' => e = .returned (.tuple #[.int .i64 0, .bool false]) ∧ Below w.heap.size w w' := by
  have hl := h.big
  cases hg : goodRows l
  · have HG := Lib.hid hg; clear hg
    go_enter Try.func21, Try.ntmps21
    go_wp2_with (go_at_call 29; refine (l31Good_any A c l _ h).mono ?_; rw [HG.out]; rintro e w1 ⟨rfl, hb1⟩)
    go_ret2
    exact ⟨rfl, hb1⟩
  · have hz : l = [] := by simpa [bestOk, hg] using hno
    have h0 : ((l.length : Int) == 0) = true := by simp [hz]
    have HG := Lib.hid hg; clear hg
    clear hz
    go_enter Try.func21, Try.ntmps21
    go_wp2_with (go_at_call 29; refine (l31Good_any A c l _ h).mono ?_; rw [HG.out]; rintro e w1 ⟨rfl, hb1⟩)
    go_ret2
    exact ⟨rfl, hb1⟩

set_option maxHeartbeats 1000000 in
theorem specBest_yes (A : Option Addr) (c : Nat) (l : List Row) (w : World) (h : RowsR w w.heap.size A l) (hyes : bestOk l = true) :
    Calls Try.prog 21 #[.slice A l.length c] w fun e w' => e = .returned (.tuple #[.int .i64 (bestMonth l), .bool true]) ∧ Below w.heap.size w w' := by
  have hl := h.big
  obtain ⟨hg, hz⟩ : goodRows l = true ∧ 0 < l.length := by
    simp only [bestOk, Bool.and_eq_true, Bool.not_eq_true', List.isEmpty_eq_false_iff] at hyes
    exact ⟨hyes.1, List.length_pos_iff.2 hyes.2⟩
  have h0 : ((l.length : Int) == 0) = false := beq_eq_false_iff_ne.2 (by omega)
  have HG := Lib.hid hg; clear hg hyes
  obtain ⟨b, off, rfl, hb, hcell⟩ := h.row hz
  go_enter Try.func21, Try.ntmps21
  go_wp2_with (go_at_call 29; refine (l31Good_any _ c l _ h).mono ?_; rw [HG.out]; rintro e w1 ⟨rfl, hb1⟩)
  obtain ⟨q, rfl⟩ : ∃ q : Since w.heap.size w, w1 = q.val := ⟨⟨w1, hb1⟩, rfl⟩
  go_loopw [4, 5] (fun bs i wr => ∃ (k j : Nat), k ≤ l.length ∧ i = .int .i64 k ∧ bs = .int .i64 j ∧ (∃ q : Since w.heap.size w, wr = q.val) ∧ ∃ hj : j < l.length, Hid ((bestFrom l[j] (l.drop k)).m = bestMonth l)) (fun _ i _ => l.length - (intOf i).toNat)
  case atStart => exact ⟨0, 0, Nat.zero_le _, rfl, rfl, ⟨q, rfl⟩, hz, (bestMonth_eq hz).symm⟩
  case round =>
    obtain ⟨k, j, hk, rfl, rfl, ⟨q, rfl⟩, hj, HR⟩ := hrel
    by_cases hlt : k < l.length
    · have c3 := (hcell k hlt).c3
      have d3 := (hcell j hj).c3
      have HS : Hid (bestFrom l[j] (l.drop k) = bestFrom (betterRow l[j] l[k]) (l.drop (k + 1))) := bestFrom_step hlt _
      have HC : Hid (∀ i (hi : i < l.length), RowS w.heap.size w b (off + i * 5) l[i]) := hcell
      clear hcell
      obtain ⟨x, hxe⟩ : ∃ x, x = l[k] := ⟨_, rfl⟩
      obtain ⟨y, hye⟩ : ∃ x, x = l[j] := ⟨_, rfl⟩
      rw [← hxe] at c3
      rw [← hye] at d3
      have HX := Lib.hid hxe; clear hxe
      have HY := Lib.hid hye; clear hye
      go_wp2
      refine wp_region_since _ (by kernel_rfl) (by kernel_rfl) ?_
      repeat (any_goals (first | go_big_quiet_step ((fail)) | (refine wpQuiet_step (fun K hK => ?_); go_simp; split <;> (refine hK _ ?_; clear hK K))))
      all_goals (refine wpQuiet_nil ?_; rintro _ ⟨q1, rfl⟩)
      all_goals go_wp2
      · have hm : y.c < x.c := by assumption
        go_roundw
        case rel => exact ⟨k + 1, k, by omega, by go_num, rfl, ⟨q1, rfl⟩, hlt, by have h1 := HR.out; rw [HS.out, betterRow, if_pos (by rw [← HX.out, ← HY.out]; exact hm)] at h1; exact h1⟩
        case measure => simp [intOf]; omega
      · have hm : x.c ≤ y.c := by assumption
        go_roundw
        case rel => exact ⟨k + 1, j, by omega, by go_num, rfl, ⟨q1, rfl⟩, hj, by have h1 := HR.out; rw [HS.out, betterRow, if_neg (by rw [← HX.out, ← HY.out]; omega)] at h1; exact h1⟩
        case measure => simp [intOf]; omega
    · have c0 := (hcell j hj).c0
      have HE : Hid (l[j].m = bestMonth l) := by
        have h1 := HR.out; rw [List.drop_eq_nil_of_le (by omega)] at h1; exact h1
      obtain ⟨y, hye⟩ : ∃ x, x = l[j].m := ⟨_, rfl⟩
      rw [← hye] at c0
      have HY := Lib.hid hye; clear hye
      clear hcell
      go_wp2
      go_ret2
      exact ⟨by rw [← HE.out, ← HY.out]; rfl, q.below⟩

theorem implBest_no (A : Option Addr) (c : Nat) (l : List Row) (w : World) (h : RowsR w w.heap.size A l) (hno : bestOk l = false) :
    Calls Try.prog 20 #[.slice A l.length c] w fun e w' => e = .returned (.tuple #[.int .i64 0, .bool false]) ∧ Below w.heap.size w w' := by
  have hl := h.big
  cases hg : goodRows l
  · have HG := Lib.hid hg; clear hg
    go_enter Try.func20, Try.ntmps20
    go_wp2_with (go_at_call 31; refine (areOfficeRows_any A c l _ h).mono ?_; rw [HG.out]; rintro e w1 ⟨rfl, hb1⟩)
    go_ret2
    exact ⟨rfl, hb1⟩
  · have hz : l = [] := by simpa [bestOk, hg] using hno
    have h0 : ((l.length : Int) == 0) = true := by simp [hz]
    have HG := Lib.hid hg; clear hg
    clear hz
    go_enter Try.func20, Try.ntmps20
    go_wp2_with (go_at_call 31; refine (areOfficeRows_any A c l _ h).mono ?_; rw [HG.out]; rintro e w1 ⟨rfl, hb1⟩)
    go_ret2
    exact ⟨rfl, hb1⟩

set_option maxHeartbeats 1000000 in
theorem implBest_yes (A : Option Addr) (c : Nat) (l : List Row) (w : World) (h : RowsR w w.heap.size A l) (hyes : bestOk l = true) :
    Calls Try.prog 20 #[.slice A l.length c] w fun e w' => e = .returned (.tuple #[.int .i64 (bestMonth l), .bool true]) ∧ Below w.heap.size w w' := by
  have hl := h.big
  obtain ⟨hg, hz⟩ : goodRows l = true ∧ 0 < l.length := by
    simp only [bestOk, Bool.and_eq_true, Bool.not_eq_true', List.isEmpty_eq_false_iff] at hyes
    exact ⟨hyes.1, List.length_pos_iff.2 hyes.2⟩
  have h0 : ((l.length : Int) == 0) = false := beq_eq_false_iff_ne.2 (by omega)
  have HG := Lib.hid hg; clear hg hyes
  obtain ⟨b, off, rfl, hb, hcell⟩ := h.row hz
  have hc0 := hcell 0 hz
  rw [Nat.zero_mul, Nat.add_zero] at hc0
  obtain ⟨c0, c1, c2, c3, c4⟩ := hc0
  obtain ⟨x, hxe⟩ : ∃ x, x = l[0] := ⟨_, rfl⟩
  rw [← hxe] at c0 c1 c2 c3 c4
  have HX := Lib.hid hxe; clear hxe
  have HC : Hid (∀ i (hi : i < l.length), RowS w.heap.size w b (off + i * 5) l[i]) := hcell
  clear hcell
  go_enter Try.func20, Try.ntmps20
  go_wp2_with (go_at_call 31; refine (areOfficeRows_any _ c l _ h).mono ?_; rw [HG.out]; rintro e w1 ⟨rfl, hb1⟩; obtain ⟨q, rfl⟩ : ∃ q : Since w.heap.size w, w1 = q.val := ⟨⟨w1, hb1⟩, rfl⟩)
  have hbW := (q.below.alloc q.size (.cells #[.int .i64 x.m, .int .i64 x.b, .int .i64 x.s, .int .i64 x.c, .int .i64 x.l] 42))
  have hlW := Lies.new q.val 42 #[.int .i64 x.m, .int .i64 x.b, .int .i64 x.s, .int .i64 x.c, .int .i64 x.l]
  have hgW := q.size
  generalize q.val.alloc (.cells #[.int .i64 x.m, .int .i64 x.b, .int .i64 x.s, .int .i64 x.c, .int .i64 x.l] 42) = W at hbW hlW ⊢
  generalize q.val.heap.size = g at hlW hgW ⊢
  clear c0 c1 c2 c3 c4
  go_loopw [20] (fun i wr => ∃ (k : Nat) (y : Row), k ≤ l.length ∧ i = .int .i64 k ∧ Below w.heap.size w wr ∧ Hid (Lies wr g 42 y.enc) ∧ Hid ((bestFrom y (l.drop k)).m = bestMonth l)) (fun i _ => l.length - (intOf i).toNat)
  case atStart => exact ⟨0, x, Nat.zero_le _, rfl, hbW, hlW, by rw [HX.out]; exact (bestMonth_eq hz).symm⟩
  case round =>
    clear hbW hlW
    obtain ⟨k, y, hk, rfl, hbr, HL, HR⟩ := hrel
    by_cases hlt : k < l.length
    · obtain ⟨c0, c1, c2, c3, c4⟩ := HC.out k hlt
      have HS : Hid (bestFrom y (l.drop k) = bestFrom (betterRow y l[k]) (l.drop (k + 1))) := bestFrom_step hlt _
      obtain ⟨z, hze⟩ : ∃ x, x = l[k] := ⟨_, rfl⟩
      rw [← hze] at c0 c1 c2 c3 c4
      have HZ := Lib.hid hze; clear hze
      obtain ⟨q2, rfl⟩ : ∃ q : Since w.heap.size w, wr = q.val := ⟨⟨wr, hbr⟩, rfl⟩
      have e0 := HL.out.cell 0
      have e1 := HL.out.cell 1
      have e2 := HL.out.cell 2
      have e3 := HL.out.cell 3
      have e4 := HL.out.cell 4
      have f0 := HL.out.frozen 0
      have f1 := HL.out.frozen 1
      have f2 := HL.out.frozen 2
      have f3 := HL.out.frozen 3
      have f4 := HL.out.frozen 4
      have hgl := HL.out.lt
      simp only [Row.enc, List.getElem?_cons_zero, List.getElem?_cons_succ] at e0 e1 e2 e3 e4
      go_wp2
      · have hm : y.c < z.c := by assumption
        go_roundw
        case rel => exact ⟨k + 1, z, by omega, by go_num, by go_grown, (((((HL.out.set 0 _).set 1 _).set 2 _).set 3 _).set 4 _).alloc _, by have h1 := HR.out; rw [HS.out, betterRow, if_pos (by rw [← HZ.out]; exact hm), ← HZ.out] at h1; exact h1⟩
        case measure => simp [intOf]; omega
      · have hm : z.c ≤ y.c := by assumption
        go_roundw
        case rel => exact ⟨k + 1, y, by omega, by go_num, by go_grown, HL.out.alloc _, by have h1 := HR.out; rw [HS.out, betterRow, if_neg (by rw [← HZ.out]; omega)] at h1; exact h1⟩
        case measure => simp [intOf]; omega
    · have e0 := HL.out.cell 0
      simp only [Row.enc, List.getElem?_cons_zero] at e0
      have HE : Hid (y.m = bestMonth l) := by
        have h1 := HR.out; rw [List.drop_eq_nil_of_le (by omega)] at h1; exact h1
      go_wp2
      go_ret2
      exact ⟨by rw [← HE.out]; rfl, hbr⟩

/-- The month, whatever the list. -/
def bestM (l : List Row) : Int := if bestOk l then bestMonth l else 0
theorem specBest_any (A : Option Addr) (c : Nat) (l : List Row) (w : World) (h : RowsR w w.heap.size A l) :
    Calls Try.prog 21 #[.slice A l.length c] w fun e w' => e = .returned (.tuple #[.int .i64 (bestM l), .bool (bestOk l)]) ∧ Below w.heap.size w w' := by
  unfold bestM
  cases hb : bestOk l
  · exact specBest_no A c l w h hb
  · exact specBest_yes A c l w h hb
theorem implBest_any (A : Option Addr) (c : Nat) (l : List Row) (w : World) (h : RowsR w w.heap.size A l) :
    Calls Try.prog 20 #[.slice A l.length c] w fun e w' => e = .returned (.tuple #[.int .i64 (bestM l), .bool (bestOk l)]) ∧ Below w.heap.size w w' := by
  unfold bestM
  cases hb : bestOk l
  · exact implBest_no A c l w h hb
  · exact implBest_yes A c l w h hb
end Go.Proofs.Ytpjfidmapnnbkaa

/- Rows of the office: the worst run, in the reference and in the program. -/
namespace Go.Proofs.Ytpjfidmapnnbkaa
open Go.RowKit

abbrev Run := Option (Nat × Nat × Int)
def stepRun (i k : Nat) (sum : Int) : Run → Run
  | none => some (i, k, sum)
  | some (a, b, m) => if sum < m then some (i, k, sum) else some (a, b, m)
def innerRun (i : Nat) : Nat → Int → List Row → Run → Run
  | _, _, [], st => st
  | k, sum, r :: rest, st => innerRun i (k + 1) (sum + r.c) rest (stepRun i k (sum + r.c) st)
def outerRun : Nat → List Row → Run → Run
  | _, [], st => st
  | i, r :: rest, st => outerRun (i + 1) rest (innerRun i i 0 (r :: rest) st)
theorem inner_step {l : List Row} {k : Nat} (h : k < l.length) (i : Nat) (sum : Int) (st : Run) : innerRun i k sum (l.drop k) st = innerRun i (k + 1) (sum + l[k].c) (l.drop (k + 1)) (stepRun i k (sum + l[k].c) st) := by
  rw [List.drop_eq_getElem_cons h]; rfl
theorem outer_step {l : List Row} {i : Nat} (h : i < l.length) (st : Run) : outerRun i (l.drop i) st = outerRun (i + 1) (l.drop (i + 1)) (innerRun i i 0 (l.drop i) st) := by
  rw [List.drop_eq_getElem_cons h]; rfl
theorem outer_start {l : List Row} (h : 0 < l.length) : outerRun 0 l (some (0, 0, l[0].c)) = outerRun 0 l none := by
  cases l with
  | nil => simp at h
  | cons r rest => simp [outerRun, innerRun, stepRun]

/-- A state of the search, within a list. -/
def runIn (l : List Row) (st : Run) : Prop := match st with | none => True | some (a, b, _) => a < l.length ∧ b < l.length
theorem runIn_step {l : List Row} {i k : Nat} {sum : Int} {st : Run} (hi : i < l.length) (hk : k < l.length) (h : runIn l st) : runIn l (stepRun i k sum st) := by
  cases st with
  | none => exact ⟨hi, hk⟩
  | some x =>
    obtain ⟨a, b, m⟩ := x
    by_cases hm : sum < m
    · simp only [stepRun, if_pos hm]; exact ⟨hi, hk⟩
    · simp only [stepRun, if_neg hm]; exact h
def fromOf (l : List Row) : Run → Int | none => 0 | some (a, _, _) => (l[a]?.map (·.m)).getD 0
def untilOf (l : List Row) : Run → Int | none => 0 | some (_, b, _) => (l[b]?.map (·.m)).getD 0
def leastOf : Run → Int | none => 0 | some (_, _, m) => m
def worstRun (l : List Row) : Run := if bestOk l then outerRun 0 l none else none
abbrev worstVal (l : List Row) : Value := .tuple #[.int .i64 (fromOf l (worstRun l)), .int .i64 (untilOf l (worstRun l)), .int .i64 (leastOf (worstRun l)), .bool (bestOk l)]

theorem specWorst_no (A : Option Addr) (c : Nat) (l : List Row) (w : World) (h : RowsR w w.heap.size A l) (hno : bestOk l = false) :
    Calls Try.prog 19 #[.slice A l.length c] w fun e w' => e = .returned (.tuple #[.int .i64 0, .int .i64 0, .int .i64 0, .bool false]) ∧ Below w.heap.size w w' := by
  have hl := h.big
  cases hg : goodRows l
  · have HG := Lib.hid hg; clear hg
    go_enter Try.func19, Try.ntmps19
    go_wp2_with (go_at_call 29; refine (l31Good_any A c l _ h).mono ?_; rw [HG.out]; rintro e w1 ⟨rfl, hb1⟩)
    refine bodyPost_ret (results_four rfl _ _ _) rfl ⟨rfl, hb1⟩
  · have hz : l = [] := by simpa [bestOk, hg] using hno
    have h0 : ((l.length : Int) == 0) = true := by simp [hz]
    have HG := Lib.hid hg; clear hg
    clear hz
    go_enter Try.func19, Try.ntmps19
    go_wp2_with (go_at_call 29; refine (l31Good_any A c l _ h).mono ?_; rw [HG.out]; rintro e w1 ⟨rfl, hb1⟩)
    refine bodyPost_ret (results_four rfl _ _ _) rfl ⟨rfl, hb1⟩

set_option maxHeartbeats 2000000 in
theorem specWorst_yes (A : Option Addr) (c : Nat) (l : List Row) (w : World) (h : RowsR w w.heap.size A l) (hyes : bestOk l = true) :
    Calls Try.prog 19 #[.slice A l.length c] w fun e w' => e = .returned (worstVal l) ∧ Below w.heap.size w w' := by
  have hl := h.big
  have HF : Hid (outerRun 0 (l.drop 0) none = worstRun l) := by unfold worstRun; rw [hyes]; rfl
  have HY : Hid (bestOk l = true) := hyes
  obtain ⟨hg, hz⟩ : goodRows l = true ∧ 0 < l.length := by
    simp only [bestOk, Bool.and_eq_true, Bool.not_eq_true', List.isEmpty_eq_false_iff] at hyes
    exact ⟨hyes.1, List.length_pos_iff.2 hyes.2⟩
  have h0 : ((l.length : Int) == 0) = false := beq_eq_false_iff_ne.2 (by omega)
  have h12 := good_len hg
  have HA : Hid (∀ i (hi : i < l.length), l[i].ok = true) := fun i hi => good_at hg hi
  have HG := Lib.hid hg; clear hg hyes
  obtain ⟨b, off, rfl, hb, hcell⟩ := h.row hz
  have HC : Hid (∀ i (hi : i < l.length), RowS w.heap.size w b (off + i * 5) l[i]) := hcell
  clear hcell
  go_enter Try.func19, Try.ntmps19
  go_wp2_with (go_at_call 29; refine (l31Good_any _ c l _ h).mono ?_; rw [HG.out]; rintro e w1 ⟨rfl, hb1⟩)
  go_loopw [6, 7, 8, 9] (fun f u m i wr => ∃ (k : Nat) (st : Run), k ≤ l.length ∧ i = .int .i64 k ∧ f = .int .i64 (fromOf l st) ∧ u = .int .i64 (untilOf l st) ∧ m = .int .i64 (leastOf st) ∧ runIn l st ∧ Below w.heap.size w wr ∧ Hid (outerRun k (l.drop k) st = worstRun l)) (fun _ _ _ i _ => l.length - (intOf i).toNat)
  case atStart => exact ⟨0, none, Nat.zero_le _, rfl, rfl, rfl, rfl, trivial, hb1, HF⟩
  case round =>
    clear hb1
    obtain ⟨i, st, hi, rfl, rfl, rfl, rfl, hst, hbr, HR⟩ := hrel
    by_cases hlt : i < l.length
    · have HS : Hid (outerRun i (l.drop i) st = outerRun (i + 1) (l.drop (i + 1)) (innerRun i i 0 (l.drop i) st)) := outer_step hlt st
      obtain ⟨ST, hST⟩ : ∃ x, x = innerRun i i 0 (l.drop i) st := ⟨_, rfl⟩
      rw [← hST] at HS
      have HT : Hid (innerRun i i 0 (l.drop i) st = ST) := hST.symm
      clear hST
      have di := (HC.out i hlt).c0
      go_wp2
      go_loopw [6, 7, 8, 10, 11] (fun f u m s kk wr => ∃ (k : Nat) (sum : Int) (st : Run), k ≤ l.length ∧ i ≤ k ∧ kk = .int .i64 k ∧ s = .int .i64 sum ∧ f = .int .i64 (fromOf l st) ∧ u = .int .i64 (untilOf l st) ∧ m = .int .i64 (leastOf st) ∧ runIn l st ∧ -(1000000 * (k : Int)) ≤ sum ∧ sum ≤ 1000000 * (k : Int) ∧ Below w.heap.size w wr ∧ Hid (innerRun i k sum (l.drop k) st = ST)) (fun _ _ _ _ kk _ => l.length - (intOf kk).toNat)
      case atStart => exact ⟨i, 0, st, hi, Nat.le_refl _, rfl, rfl, rfl, rfl, rfl, hst, by omega, by omega, hbr, HT⟩
      case round =>
        clear hst hbr HT
        obtain ⟨k, sum, st, hk, hik, rfl, rfl, rfl, rfl, rfl, hst, hs1, hs2, hbr, HT⟩ := hrel
        by_cases hlk : k < l.length
        · obtain ⟨q, rfl⟩ : ∃ q : Since w.heap.size w, wr = q.val := ⟨⟨wr, hbr⟩, rfl⟩
          have HI : Hid (innerRun i k sum (l.drop k) st = innerRun i (k + 1) (sum + l[k].c) (l.drop (k + 1)) (stepRun i k (sum + l[k].c) st)) := inner_step hlk i sum st
          have hin := runIn_step (sum := sum + l[k].c) hlt hlk hst
          have dk := (HC.out k hlk).c0
          have ck := (HC.out k hlk).c3
          have hkc := (Row.bounds (HA.out k hlk)).2.2.2.1
          have HD : Hid (fromOf l (some (i, k, sum + l[k].c)) = l[i].m ∧ untilOf l (some (i, k, sum + l[k].c)) = l[k].m ∧ leastOf (some (i, k, sum + l[k].c)) = sum + l[k].c) := by
            simp [Hid, fromOf, untilOf, leastOf, hlt, hlk]
          obtain ⟨xm, hxm⟩ : ∃ x, x = l[i].m := ⟨_, rfl⟩
          obtain ⟨ym, hym⟩ : ∃ x, x = l[k].m := ⟨_, rfl⟩
          obtain ⟨yc, hyc⟩ : ∃ x, x = l[k].c := ⟨_, rfl⟩
          rw [← hxm] at di HD
          rw [← hym] at dk HD
          rw [← hyc] at ck HD HI hin hkc
          clear hxm hym hyc
          obtain ⟨kc1, kc2⟩ := hkc
          cases st with
          | none =>
            have e0 : fromOf l none = 0 := rfl
            have e1 : leastOf none = 0 := rfl
            have e2 : untilOf l none = 0 := rfl
            rw [e0, e1, e2]
            clear e0 e1 e2
            go_wp2
            go_roundw
            case rel => exact ⟨k + 1, sum + yc, some (i, k, sum + yc), by omega, by omega, by go_num, rfl, by rw [HD.out.1], by rw [HD.out.2.1], by rw [HD.out.2.2], hin, by omega, by omega, q.below, Lib.hid (by rw [← HT.out, HI.out]; rfl)⟩
            case measure => simp [intOf]; omega
          | some t =>
            obtain ⟨a, b', m⟩ := t
            have hf0 : ((fromOf l (some (a, b', m))) == 0) = false := by
              obtain ⟨ha, _⟩ := hst
              have := (Row.bounds (HA.out a ha)).1
              simp [fromOf, ha]; omega
            have e1 : leastOf (some (a, b', m)) = m := rfl
            rw [e1]
            obtain ⟨ff, hff⟩ : ∃ x, x = fromOf l (some (a, b', m)) := ⟨_, rfl⟩
            obtain ⟨uu, huu⟩ : ∃ x, x = untilOf l (some (a, b', m)) := ⟨_, rfl⟩
            rw [← hff, ← huu]
            rw [← hff] at hf0
            have HF1 := Lib.hid hff; clear hff
            have HU1 := Lib.hid huu; clear huu
            clear e1 hst
            by_cases hm : sum + yc < m
            · have HM : Hid (stepRun i k (sum + yc) (some (a, b', m)) = some (i, k, sum + yc)) := by simp [Hid, stepRun, hm]
              go_wp2
              go_roundw
              case rel => exact ⟨k + 1, sum + yc, some (i, k, sum + yc), by omega, by omega, by go_num, rfl, by rw [HD.out.1], by rw [HD.out.2.1], by rw [HD.out.2.2], by rw [← HM.out]; exact hin, by omega, by omega, q.below, Lib.hid (by rw [← HT.out, HI.out, HM.out])⟩
              case measure => simp [intOf]; omega
            · have HM : Hid (stepRun i k (sum + yc) (some (a, b', m)) = some (a, b', m)) := by simp [Hid, stepRun, hm]
              go_wp2
              go_roundw
              case rel => exact ⟨k + 1, sum + yc, some (a, b', m), by omega, by omega, by go_num, rfl, by rw [HF1.out], by rw [HU1.out], rfl, by rw [← HM.out]; exact hin, by omega, by omega, q.below, Lib.hid (by rw [← HT.out, HI.out, HM.out])⟩
              case measure => simp [intOf]; omega
        · have HE : Hid (st = ST) := by
            have h1 := HT.out; rw [List.drop_eq_nil_of_le (by omega)] at h1; exact h1
          go_wp2
          go_roundw
          case rel => exact ⟨i + 1, st, by omega, by go_num, rfl, rfl, rfl, hst, hbr, Lib.hid (by rw [← HR.out, HS.out, HE.out])⟩
          case measure => simp [intOf]; omega
    · have HE : Hid (st = worstRun l) := by
        have h1 := HR.out; rw [List.drop_eq_nil_of_le (by omega)] at h1; exact h1
      go_wp2
      refine bodyPost_ret (results_four rfl _ _ _) rfl ⟨?_, hbr⟩
      unfold worstVal
      rw [← HE.out, HY.out]; rfl

theorem implWorst_no (A : Option Addr) (c : Nat) (l : List Row) (w : World) (h : RowsR w w.heap.size A l) (hno : bestOk l = false) :
    Calls Try.prog 18 #[.slice A l.length c] w fun e w' => e = .returned (.tuple #[.int .i64 0, .int .i64 0, .int .i64 0, .bool false]) ∧ Below w.heap.size w w' := by
  have hl := h.big
  cases hg : goodRows l
  · have HG := Lib.hid hg; clear hg
    go_enter Try.func18, Try.ntmps18
    go_wp2_with (go_at_call 31; refine (areOfficeRows_any A c l _ h).mono ?_; rw [HG.out]; rintro e w1 ⟨rfl, hb1⟩)
    refine bodyPost_ret (results_four rfl _ _ _) rfl ⟨rfl, hb1⟩
  · have hz : l = [] := by simpa [bestOk, hg] using hno
    have h0 : ((l.length : Int) == 0) = true := by simp [hz]
    have HG := Lib.hid hg; clear hg
    clear hz
    go_enter Try.func18, Try.ntmps18
    go_wp2_with (go_at_call 31; refine (areOfficeRows_any A c l _ h).mono ?_; rw [HG.out]; rintro e w1 ⟨rfl, hb1⟩)
    refine bodyPost_ret (results_four rfl _ _ _) rfl ⟨rfl, hb1⟩

def idxA : Run → Nat | none => 0 | some (a, _, _) => a
def idxB : Run → Nat | none => 0 | some (_, b, _) => b
def isRun : Run → Bool | none => false | some _ => true
theorem isRun_step (i k : Nat) (s : Int) (st : Run) : isRun (stepRun i k s st) = true := by
  cases st with
  | none => rfl
  | some t =>
    obtain ⟨a, b, m⟩ := t
    by_cases h : s < m
    · simp [stepRun, h, isRun]
    · simp [stepRun, h, isRun]

set_option maxHeartbeats 2000000 in
theorem implWorst_yes (A : Option Addr) (c : Nat) (l : List Row) (w : World) (h : RowsR w w.heap.size A l) (hyes : bestOk l = true) :
    Calls Try.prog 18 #[.slice A l.length c] w fun e w' => e = .returned (worstVal l) ∧ Below w.heap.size w w' := by
  have hl := h.big
  have HY : Hid (bestOk l = true) := hyes
  obtain ⟨hg, hz⟩ : goodRows l = true ∧ 0 < l.length := by
    simp only [bestOk, Bool.and_eq_true, Bool.not_eq_true', List.isEmpty_eq_false_iff] at hyes
    exact ⟨hyes.1, List.length_pos_iff.2 hyes.2⟩
  have HF : Hid (outerRun 0 (l.drop 0) (some (0, 0, l[0].c)) = worstRun l) := by unfold worstRun; rw [hyes]; exact outer_start hz
  have h0 : ((l.length : Int) == 0) = false := beq_eq_false_iff_ne.2 (by omega)
  have h12 := good_len hg
  have HA : Hid (∀ i (hi : i < l.length), l[i].ok = true) := fun i hi => good_at hg hi
  have HG := Lib.hid hg; clear hg hyes
  obtain ⟨b, off, rfl, hb, hcell⟩ := h.row hz
  have HC : Hid (∀ i (hi : i < l.length), RowS w.heap.size w b (off + i * 5) l[i]) := hcell
  have c0 := (hcell 0 hz).c3
  rw [Nat.zero_mul, Nat.add_zero] at c0
  clear hcell
  obtain ⟨z, hz0⟩ : ∃ x, x = l[0].c := ⟨_, rfl⟩
  rw [← hz0] at c0 HF
  have hz1 := (Row.bounds (HA.out 0 hz)).2.2.2.1
  rw [← hz0] at hz1
  clear hz0
  obtain ⟨z1, z2⟩ := hz1
  go_enter Try.func18, Try.ntmps18
  go_wp2_with (go_at_call 31; refine (areOfficeRows_any _ c l _ h).mono ?_; rw [HG.out]; rintro e w1 ⟨rfl, hb1⟩; obtain ⟨q0, rfl⟩ : ∃ q : Since w.heap.size w, w1 = q.val := ⟨⟨w1, hb1⟩, rfl⟩)
  refine wp_region_since _ (by kernel_rfl) (by kernel_rfl) ?_
  repeat (any_goals (first | go_big_quiet_step ((fail)) | (refine wpQuiet_step (fun K hK => ?_); go_simp; split <;> (refine hK _ ?_; clear hK K))))
  all_goals (refine wpQuiet_nil ?_; rintro _ ⟨q1, rfl⟩)
  go_wp2
  have hb1 := q1.below
  go_loopw [6, 7, 8, 26] (fun f u m i wr => ∃ (k a b' : Nat) (mm : Int), k ≤ l.length ∧ i = .int .i64 k ∧ f = .int .i64 a ∧ u = .int .i64 b' ∧ m = .int .i64 mm ∧ (a < l.length ∧ b' < l.length) ∧ Below w.heap.size w wr ∧ Hid (outerRun k (l.drop k) (some (a, b', mm)) = worstRun l)) (fun _ _ _ i _ => l.length - (intOf i).toNat)
  case atStart => exact ⟨0, 0, 0, z, Nat.zero_le _, rfl, rfl, rfl, rfl, ⟨hz, hz⟩, hb1, HF⟩
  case round =>
    clear hb1
    obtain ⟨i, a, b', mm, hi, rfl, rfl, rfl, rfl, hst, hbr, HR⟩ := hrel
    by_cases hlt : i < l.length
    · have HS : Hid (outerRun i (l.drop i) (some (a, b', mm)) = outerRun (i + 1) (l.drop (i + 1)) (innerRun i i 0 (l.drop i) (some (a, b', mm)))) := outer_step hlt _
      obtain ⟨ST, hST⟩ : ∃ x, x = innerRun i i 0 (l.drop i) (some (a, b', mm)) := ⟨_, rfl⟩
      rw [← hST] at HS
      have HT : Hid (innerRun i i 0 (l.drop i) (some (a, b', mm)) = ST) := hST.symm
      clear hST
      obtain ⟨ha, hb'⟩ := hst
      go_wp2
      go_loopw [6, 7, 8, 10, 11] (fun f u m s kk wr => ∃ (k : Nat) (sum : Int) (a b' : Nat) (mm : Int), k ≤ l.length ∧ i ≤ k ∧ kk = .int .i64 k ∧ s = .int .i64 sum ∧ f = .int .i64 a ∧ u = .int .i64 b' ∧ m = .int .i64 mm ∧ (a < l.length ∧ b' < l.length) ∧ -(1000000 * (k : Int)) ≤ sum ∧ sum ≤ 1000000 * (k : Int) ∧ Below w.heap.size w wr ∧ Hid (innerRun i k sum (l.drop k) (some (a, b', mm)) = ST)) (fun _ _ _ _ kk _ => l.length - (intOf kk).toNat)
      case atStart => exact ⟨i, 0, a, b', mm, hi, Nat.le_refl _, rfl, rfl, rfl, rfl, rfl, ⟨ha, hb'⟩, by omega, by omega, hbr, HT⟩
      case round =>
        clear ha hb' hbr HT
        obtain ⟨k, sum, a, b', m, hk, hik, rfl, rfl, rfl, rfl, rfl, hst, hs1, hs2, hbr, HT⟩ := hrel
        by_cases hlk : k < l.length
        · obtain ⟨q, rfl⟩ : ∃ q : Since w.heap.size w, wr = q.val := ⟨⟨wr, hbr⟩, rfl⟩
          have HI : Hid (innerRun i k sum (l.drop k) (some (a, b', m)) = innerRun i (k + 1) (sum + l[k].c) (l.drop (k + 1)) (stepRun i k (sum + l[k].c) (some (a, b', m)))) := inner_step hlk i sum _
          have ck := (HC.out k hlk).c3
          have hkc := (Row.bounds (HA.out k hlk)).2.2.2.1
          obtain ⟨yc, hyc⟩ : ∃ x, x = l[k].c := ⟨_, rfl⟩
          rw [← hyc] at ck HI hkc
          clear hyc
          obtain ⟨kc1, kc2⟩ := hkc
          obtain ⟨ha, hb'⟩ := hst
          by_cases hm : sum + yc < m
          · have HM : Hid (stepRun i k (sum + yc) (some (a, b', m)) = some (i, k, sum + yc)) := by simp [Hid, stepRun, hm]
            go_wp2
            go_roundw
            case rel => exact ⟨k + 1, sum + yc, i, k, sum + yc, by omega, by omega, by go_num, rfl, rfl, rfl, rfl, ⟨hlt, hlk⟩, by omega, by omega, q.below, Lib.hid (by rw [← HT.out, HI.out, HM.out])⟩
            case measure => simp [intOf]; omega
          · have HM : Hid (stepRun i k (sum + yc) (some (a, b', m)) = some (a, b', m)) := by simp [Hid, stepRun, hm]
            go_wp2
            go_roundw
            case rel => exact ⟨k + 1, sum + yc, a, b', m, by omega, by omega, by go_num, rfl, rfl, rfl, rfl, ⟨ha, hb'⟩, by omega, by omega, q.below, Lib.hid (by rw [← HT.out, HI.out, HM.out])⟩
            case measure => simp [intOf]; omega
        · have HE : Hid (some (a, b', m) = ST) := by
            have h1 := HT.out; rw [List.drop_eq_nil_of_le (by omega)] at h1; exact h1
          go_wp2
          go_roundw
          case rel => exact ⟨i + 1, a, b', m, by omega, by go_num, rfl, rfl, rfl, hst, hbr, Lib.hid (by rw [← HR.out, HS.out, HE.out])⟩
          case measure => simp [intOf]; omega
    · have HE : Hid (some (a, b', mm) = worstRun l) := by
        have h1 := HR.out; rw [List.drop_eq_nil_of_le (by omega)] at h1; exact h1
      obtain ⟨ha, hb'⟩ := hst
      have d0 := (HC.out a ha).c0
      have e0 := (HC.out b' hb').c0
      have HD : Hid (fromOf l (some (a, b', mm)) = l[a].m ∧ untilOf l (some (a, b', mm)) = l[b'].m) := by
        simp [Hid, fromOf, untilOf, ha, hb']
      obtain ⟨xm, hxm⟩ : ∃ x, x = l[a].m := ⟨_, rfl⟩
      obtain ⟨ym, hym⟩ : ∃ x, x = l[b'].m := ⟨_, rfl⟩
      rw [← hxm] at d0 HD
      rw [← hym] at e0 HD
      clear hxm hym
      obtain ⟨q, rfl⟩ : ∃ q : Since w.heap.size w, wr = q.val := ⟨⟨wr, hbr⟩, rfl⟩
      go_wp2
      refine wp_region_since _ (by kernel_rfl) (by kernel_rfl) ?_
      repeat (any_goals (first | go_big_quiet_step ((fail)) | (refine wpQuiet_step (fun K hK => ?_); go_simp; split <;> (refine hK _ ?_; clear hK K))))
      all_goals (refine wpQuiet_nil ?_; rintro _ ⟨q1, rfl⟩)
      go_wp2
      refine bodyPost_ret (results_four rfl _ _ _) rfl ⟨?_, q1.below⟩
      unfold worstVal
      rw [← HE.out, HY.out, HD.out.1, HD.out.2]; rfl

theorem specWorst_any (A : Option Addr) (c : Nat) (l : List Row) (w : World) (h : RowsR w w.heap.size A l) :
    Calls Try.prog 19 #[.slice A l.length c] w fun e w' => e = .returned (worstVal l) ∧ Below w.heap.size w w' := by
  cases hb : bestOk l
  · refine (specWorst_no A c l w h hb).mono fun e w' ⟨he, hw⟩ => ⟨?_, hw⟩
    rw [he]; unfold worstVal; simp [worstRun, hb, fromOf, untilOf, leastOf]
  · exact specWorst_yes A c l w h hb
theorem implWorst_any (A : Option Addr) (c : Nat) (l : List Row) (w : World) (h : RowsR w w.heap.size A l) :
    Calls Try.prog 18 #[.slice A l.length c] w fun e w' => e = .returned (worstVal l) ∧ Below w.heap.size w w' := by
  cases hb : bestOk l
  · refine (implWorst_no A c l w h hb).mono fun e w' ⟨he, hw⟩ => ⟨?_, hw⟩
    rw [he]; unfold worstVal; simp [worstRun, hb, fromOf, untilOf, leastOf]
  · exact implWorst_yes A c l w h hb
end Go.Proofs.Ytpjfidmapnnbkaa

/- FnStock: the plain law. -/
namespace Go.Proofs.Ytpjfidmapnnbkaa
open Go.RowKit

theorem least_iff : ∀ (l : List Row) (acc : List Int) (now need s : Int), leastFrom now need l ≤ s ↔ need ≤ s ∧ (stockGo acc (s + now) l).2 = true
  | [], acc, now, need, s => by simp [leastFrom, stockGo]
  | r :: l, acc, now, need, s => by
    rw [leastFrom, stockGo]
    by_cases h : s + now + r.b - r.s < 0
    · rw [if_pos h]
      have := least_iff l [] (now + r.b - r.s) (max need (-(now + r.b - r.s))) s
      constructor
      · intro h1; have := (this.1 h1).1; omega
      · rintro ⟨_, h1⟩; cases h1
    · rw [if_neg h]
      have := least_iff l (acc ++ [s + now + r.b - r.s]) (now + r.b - r.s) (max need (-(now + r.b - r.s))) s
      rw [show s + (now + r.b - r.s) = s + now + r.b - r.s by omega] at this
      rw [this]
      constructor
      · rintro ⟨h1, h2⟩; exact ⟨by omega, h2⟩
      · rintro ⟨h1, h2⟩; exact ⟨by omega, h2⟩
theorem stock_full : ∀ (l : List Row) (acc : List Int) (now : Int), (stockGo acc now l).2 = true → (stockGo acc now l).1.length = acc.length + l.length
  | [], acc, _, _ => by simp [stockGo]
  | r :: l, acc, now, h => by
    rw [stockGo] at h ⊢
    split at h
    · cases h
    · rename_i hn
      rw [if_neg hn, stock_full l _ _ h]
      simp only [List.length_append, List.length_cons, List.length_nil]; omega
theorem least_le : ∀ (l : List Row) (now need M : Int), (∀ x ∈ l, x.ok = true) → need ≤ M → -now ≤ M → need ≤ leastFrom now need l ∧ leastFrom now need l ≤ M + 9999 * l.length
  | [], now, need, M, _, h1, _ => by simp [leastFrom]; omega
  | r :: l, now, need, M, h, h1, h2 => by
    obtain ⟨_, ⟨b1, b2⟩, ⟨s1, s2⟩, _⟩ := Row.bounds (h r (by simp))
    have := least_le l (now + r.b - r.s) (max need (-(now + r.b - r.s))) (M + 9999) (fun x hx => h x (by simp [hx])) (by omega) (by omega)
    rw [leastFrom, List.length_cons]
    omega
theorem least_law {l : List Row} (h : goodRows l = true) : (0 ≤ leastStart l ∧ leastStart l ≤ 1000000) ∧ stockOk l (leastStart l) = true ∧ (stockR l (leastStart l)).length = l.length ∧ (0 < leastStart l → stockOk l (leastStart l - 1) = false) := by
  have hl := good_len h
  have hb := least_le l 0 0 0 (goodFrom_all l 0 0 h).2 (by omega) (by omega)
  have e : leastStart l = leastFrom 0 0 l := by unfold leastStart; rw [if_pos h]
  rw [← e] at hb
  have h01 : 0 ≤ leastStart l ∧ leastStart l ≤ 1000000 := by omega
  have k1 := (least_iff l [] 0 0 (leastStart l)).1 (by rw [← e]; exact Int.le_refl _)
  rw [Int.add_zero] at k1
  have e1 : stockBoth l (leastStart l) = stockGo [] (leastStart l) l := by unfold stockBoth; rw [h, inR_iff.2 h01]; rfl
  refine ⟨h01, by unfold stockOk; rw [e1]; exact k1.2, by unfold stockR; rw [e1, stock_full l _ _ k1.2]; simp, fun h0 => ?_⟩
  have h02 : 0 ≤ leastStart l - 1 ∧ leastStart l - 1 ≤ 1000000 := by omega
  have e2 : stockBoth l (leastStart l - 1) = stockGo [] (leastStart l - 1) l := by unfold stockBoth; rw [h, inR_iff.2 h02]; rfl
  unfold stockOk
  rw [e2]
  have k2 := least_iff l [] 0 0 (leastStart l - 1)
  rw [Int.add_zero, ← e] at k2
  cases hq : (stockGo [] (leastStart l - 1) l).2 with
  | false => rfl
  | true => have := k2.2 ⟨by omega, hq⟩; omega

/-! ### The worst run -/
def centsOf (l : List Row) : Int := (l.map (·.c)).sum
theorem cents_cons (r : Row) (l : List Row) : centsOf (r :: l) = r.c + centsOf l := by simp [centsOf]
theorem cents_app (a b : List Row) : centsOf (a ++ b) = centsOf a + centsOf b := by simp [centsOf]
def segC (l : List Row) (a b : Nat) : Int := centsOf ((l.drop a).take (b + 1 - a))
/-- The run that is held is one of the list, and no dearer than the rows below n. -/
structure RunOk (l : List Row) (n : Nat) (st : Run) : Prop where
  is : ∀ a b m, st = some (a, b, m) → a ≤ b ∧ b < l.length ∧ m = segC l a b
  low : ∀ j (hj : j < l.length), j < n → ∃ a b m, st = some (a, b, m) ∧ m ≤ l[j].c
theorem seg_one {l : List Row} {i : Nat} (h : i < l.length) : segC l i i = l[i].c := by
  unfold segC
  rw [show i + 1 - i = 0 + 1 by omega, List.drop_eq_getElem_cons h, List.take_succ_cons, List.take_zero, cents_cons]
  simp [centsOf]
theorem seg_next {l : List Row} {i k : Nat} (hik : i ≤ k) (h : k + 1 < l.length) : segC l i (k + 1) = segC l i k + l[k + 1].c := by
  unfold segC
  rw [show k + 1 + 1 - i = (k + 1 - i) + 1 by omega, List.take_succ_eq_append_getElem (by rw [List.length_drop]; omega), cents_app, List.getElem_drop]
  simp only [show i + (k + 1 - i) = k + 1 by omega]
  simp [centsOf]
theorem stepRun_ok {l : List Row} {n i k : Nat} {st : Run} (hik : i ≤ k) (hk : k < l.length) (h : RunOk l n st) : RunOk l n (stepRun i k (segC l i k) st) ∧ ∃ a b m, stepRun i k (segC l i k) st = some (a, b, m) ∧ m ≤ segC l i k := by
  cases st with
  | none =>
    refine ⟨⟨fun a b m e => ?_, fun j hj hn => ?_⟩, i, k, _, rfl, Int.le_refl _⟩
    · injection e with e; injection e with e1 e2; injection e2 with e2 e3; subst e1 e2 e3; exact ⟨hik, hk, rfl⟩
    · obtain ⟨a, b, m, e, _⟩ := h.low j hj hn; cases e
  | some x =>
    obtain ⟨a, b, m⟩ := x
    by_cases hm : segC l i k < m
    · simp only [stepRun, if_pos hm]
      refine ⟨⟨fun a b m e => ?_, fun j hj hn => ?_⟩, i, k, _, rfl, Int.le_refl _⟩
      · injection e with e; injection e with e1 e2; injection e2 with e2 e3; subst e1 e2 e3; exact ⟨hik, hk, rfl⟩
      · obtain ⟨a', b', m', e, hle⟩ := h.low j hj hn
        injection e with e; injection e with e1 e2; injection e2 with e2 e3; subst e1 e2 e3
        exact ⟨i, k, _, rfl, by omega⟩
    · simp only [stepRun, if_neg hm]
      exact ⟨h, a, b, m, rfl, by omega⟩
theorem inner_ok (l : List Row) (i n : Nat) : ∀ (f k : Nat) (sum : Int) (st : Run), l.length - k = f → i < k → k ≤ l.length → sum = segC l i (k - 1) → RunOk l n st → (∃ a b m, st = some (a, b, m) ∧ m ≤ l[i]!.c) → RunOk l n (innerRun i k sum (l.drop k) st) ∧ ∃ a b m, innerRun i k sum (l.drop k) st = some (a, b, m) ∧ m ≤ l[i]!.c
  | 0, k, sum, st, hf, hi, hk, hs, h, hx => by
    rw [List.drop_eq_nil_of_le (by omega), innerRun]; exact ⟨h, hx⟩
  | f + 1, k, sum, st, hf, hi, hk, hs, h, hx => by
    have hlt : k < l.length := by omega
    rw [inner_step hlt]
    have e : sum + l[k].c = segC l i k := by
      obtain ⟨q, rfl⟩ : ∃ q, k = q + 1 := ⟨k - 1, by omega⟩
      rw [seg_next (by omega) hlt, hs]; simp
    rw [e]
    have h1 := stepRun_ok (by omega : i ≤ k) hlt h
    refine inner_ok l i n f (k + 1) _ _ (by omega) (by omega) (by omega) (by simp) h1.1 ?_
    obtain ⟨a, b, m, rfl, hm⟩ := hx
    by_cases hq : segC l i k < m
    · exact ⟨i, k, segC l i k, by simp only [stepRun, if_pos hq], by omega⟩
    · exact ⟨a, b, m, by simp only [stepRun, if_neg hq], hm⟩
theorem outer_ok (l : List Row) : ∀ (f i : Nat) (st : Run), l.length - i = f → i ≤ l.length → RunOk l i st → RunOk l l.length (outerRun i (l.drop i) st)
  | 0, i, st, hf, hi, h => by
    rw [List.drop_eq_nil_of_le (by omega), outerRun]
    have : i = l.length := by omega
    rw [← this]; exact h
  | f + 1, i, st, hf, hi, h => by
    have hlt : i < l.length := by omega
    rw [outer_step hlt, inner_step hlt, Int.zero_add]
    have e := seg_one hlt
    rw [← e]
    have h1 := stepRun_ok (Nat.le_refl i) hlt h
    have h2 := inner_ok l i i (l.length - (i + 1)) (i + 1) (segC l i i) _ rfl (by omega) (by omega) rfl h1.1 (by
      obtain ⟨a, b, m, e1, hm⟩ := h1.2
      exact ⟨a, b, m, e1, by rw [getElem!_pos l i hlt]; omega⟩)
    refine outer_ok l f (i + 1) _ (by omega) (by omega) ⟨h2.1.is, fun j hj hn => ?_⟩
    by_cases hj' : j < i
    · exact h2.1.low j hj hj'
    · have : j = i := by omega
      subst this
      obtain ⟨a, b, m, e1, hm⟩ := h2.2
      exact ⟨a, b, m, e1, by rw [getElem!_pos l j hlt] at hm; exact hm⟩
/-- The months rise. -/
theorem good_asc : ∀ (l : List Row) (n : Nat) (p : Int), goodFrom n p l = true → l.Pairwise (fun x y => x.m < y.m) ∧ (n ≠ 0 → ∀ x ∈ l, p < x.m)
  | [], _, _, _ => ⟨List.Pairwise.nil, by simp⟩
  | r :: l, n, p, h => by
    simp only [goodFrom, Bool.and_eq_true, Bool.or_eq_true, decide_eq_true_eq] at h
    obtain ⟨⟨_, h1⟩, h2⟩ := h
    have ih := good_asc l (n + 1) r.m h2
    refine ⟨List.pairwise_cons.2 ⟨fun y hy => ih.2 (by omega) y hy, ih.1⟩, fun hn x hx => ?_⟩
    rcases List.mem_cons.1 hx with rfl | hx
    · rcases h1 with h1 | h1
      · exact absurd h1 hn
      · exact h1
    · have := ih.2 (by omega) x hx
      rcases h1 with h1 | h1
      · exact absurd h1 hn
      · omega
/-- The cents of the months from f until u. -/
def selSum (f u : Int) : List Row → Int
  | [] => 0
  | r :: l => (if f ≤ r.m ∧ r.m ≤ u then r.c else 0) + selSum f u l
theorem sel_app (f u : Int) : ∀ a b : List Row, selSum f u (a ++ b) = selSum f u a + selSum f u b
  | [], b => by simp [selSum]
  | r :: a, b => by simp only [List.cons_append, selSum, sel_app f u a b]; omega
theorem sel_none (f u : Int) : ∀ a : List Row, (∀ x ∈ a, x.m < f ∨ u < x.m) → selSum f u a = 0
  | [], _ => rfl
  | r :: a, h => by
    have h1 := h r (by simp)
    rw [selSum, if_neg (by omega), sel_none f u a (fun x hx => h x (by simp [hx]))]; rfl
theorem sel_all (f u : Int) : ∀ a : List Row, (∀ x ∈ a, f ≤ x.m ∧ x.m ≤ u) → selSum f u a = centsOf a
  | [], _ => rfl
  | r :: a, h => by rw [selSum, if_pos (h r (by simp)), sel_all f u a (fun x hx => h x (by simp [hx])), cents_cons]
theorem sel_seg {l : List Row} (h : l.Pairwise (fun x y => x.m < y.m)) {a b : Nat} (hab : a ≤ b) (hb : b < l.length) : selSum (l[a]'(by omega)).m l[b].m l = segC l a b := by
  have hlt : ∀ i j (hi : i < l.length) (hj : j < l.length), i < j → l[i].m < l[j].m := fun i j hi hj hij => List.pairwise_iff_getElem.1 h i j hi hj hij
  have hle : ∀ i j (hi : i < l.length) (hj : j < l.length), i ≤ j → l[i].m ≤ l[j].m := fun i j hi hj hij => by
    rcases Nat.lt_or_ge i j with h1 | h1
    · have := hlt i j hi hj h1; omega
    · have : i = j := by omega
      subst this; exact Int.le_refl _
  have e : l = l.take a ++ ((l.drop a).take (b + 1 - a) ++ (l.drop a).drop (b + 1 - a)) := by rw [List.take_append_drop, List.take_append_drop]
  have key : ∀ f u, selSum f u l = selSum f u (l.take a) + (selSum f u ((l.drop a).take (b + 1 - a)) + selSum f u ((l.drop a).drop (b + 1 - a))) := fun f u => by
    rw (occs := [1]) [e]; rw [sel_app, sel_app]
  rw [key, sel_none _ _ (l.take a), sel_none _ _ ((l.drop a).drop (b + 1 - a)), sel_all]
  · unfold segC; omega
  · intro x hx
    obtain ⟨i, hi, rfl⟩ := List.getElem_of_mem hx
    have hi' := hi
    rw [List.length_take, List.length_drop] at hi'
    rw [List.getElem_take, List.getElem_drop]
    exact ⟨hle _ _ _ (by omega) (by omega), hle _ _ (by omega) _ (by omega)⟩
  · intro x hx
    rw [List.drop_drop] at hx
    obtain ⟨i, hi, rfl⟩ := List.getElem_of_mem hx
    have hi' := hi
    rw [List.length_drop] at hi'
    rw [List.getElem_drop]
    exact .inr (hlt _ _ _ (by omega) (by omega))
  · intro x hx
    obtain ⟨i, hi, rfl⟩ := List.getElem_of_mem hx
    have hi' := hi
    rw [List.length_take] at hi'
    rw [List.getElem_take]
    exact .inl (hlt _ _ (by omega) _ (by omega))
theorem worst_law {l : List Row} (h : bestOk l = true) : (∀ i (hi : i < l.length), leastOf (worstRun l) ≤ l[i].c) ∧ selSum (fromOf l (worstRun l)) (untilOf l (worstRun l)) l = leastOf (worstRun l) := by
  have hg : goodRows l = true ∧ l ≠ [] := by
    unfold bestOk at h
    rw [Bool.and_eq_true] at h
    exact ⟨h.1, by intro e; rw [e] at h; cases h.2⟩
  have h0 : 0 < l.length := List.length_pos_iff.2 hg.2
  have hr := outer_ok l l.length 0 none (by omega) (by omega) ⟨fun a b m e => (by cases e), fun j hj hn => (by omega)⟩
  rw [List.drop_zero] at hr
  have e : worstRun l = outerRun 0 l none := by unfold worstRun; rw [if_pos h]
  rw [← e] at hr
  obtain ⟨a, b, m, e1, _⟩ := hr.low 0 h0 h0
  obtain ⟨q1, q2, q3⟩ := hr.is a b m e1
  refine ⟨fun i hi => ?_, ?_⟩
  · obtain ⟨a', b', m', e2, hm⟩ := hr.low i hi hi
    rw [e2]; exact hm
  · have hab : a < l.length := by omega
    have hs := sel_seg (good_asc l 0 0 hg.1).1 q1 q2
    rw [e1]
    simp only [fromOf, untilOf, leastOf]
    rw [List.getElem?_eq_getElem hab, List.getElem?_eq_getElem q2]
    simp only [Option.map_some, Option.getD_some]
    rw [hs, q3]

/-! ### The profit -/
theorem prof_law {l : List Row} (h : profOk l = true) : ∃ tb tm, sumsR l = [tb, (profCS l).2, (profCS l).1, tm] ∧ profNum l * (profCS l).2 = profDen l * (profCS l).1 ∧ ((0 ≤ (profCS l).2 ∧ (profCS l).2 ≤ 119988) ∧ (-12000000 ≤ (profCS l).1 ∧ (profCS l).1 ≤ 12000000) ∧ (-12000000 ≤ profNum l ∧ profNum l ≤ 12000000) ∧ (-119988 ≤ profDen l ∧ profDen l ≤ 119988)) := by
  have h' := h
  unfold profOk at h'
  rw [Bool.and_eq_true, decide_eq_true_eq] at h'
  obtain ⟨hg, hs⟩ := h'
  obtain ⟨tb, tm, e⟩ := cs_sums l 0 0 0 0
  have hb := cs_bounds l 0 0 (goodFrom_all l 0 0 hg).2
  have hl := good_len hg
  change (0 ≤ (profCS l).2 ∧ (profCS l).2 ≤ 0 + 9999 * (l.length : Int)) ∧ (0 - 1000000 * (l.length : Int) ≤ (profCS l).1 ∧ (profCS l).1 ≤ 0 + 1000000 * (l.length : Int)) at hb
  obtain ⟨e1, e2⟩ := prof_yes h
  refine ⟨tb, tm, by unfold sumsR; rw [if_pos hg]; exact e, ?_⟩
  rw [e1, e2]
  have gc : profGcd l ∣ (profCS l).1 := by
    unfold profGcd
    exact Int.dvd_natAbs.1 (Int.natCast_dvd_natCast.2 (Nat.gcd_dvd_left _ _))
  have gs : profGcd l ∣ (profCS l).2 := by
    unfold profGcd
    have : ((profCS l).2.toNat : Int) = (profCS l).2 := by omega
    rw [← this]
    exact Int.natCast_dvd_natCast.2 (Nat.gcd_dvd_right _ _)
  have g0 : 0 < profGcd l := by
    unfold profGcd
    have : 0 < Nat.gcd (profCS l).1.natAbs (profCS l).2.toNat := Nat.gcd_pos_of_pos_right _ (by omega)
    omega
  generalize profGcd l = g at gc gs g0
  generalize (profCS l).1 = c at *
  generalize (profCS l).2 = s at *
  obtain ⟨c', rfl⟩ := gc
  obtain ⟨s', rfl⟩ := gs
  rw [Int.mul_tdiv_cancel_left _ (by omega), Int.mul_tdiv_cancel_left _ (by omega)]
  have hle : ∀ x : Int, -(g * x).natAbs ≤ x ∧ x ≤ (g * x).natAbs := fun x => by
    rw [Int.natAbs_mul]
    have h1 : x.natAbs ≤ g.natAbs * x.natAbs := Nat.le_mul_of_pos_left _ (by omega)
    have h2 : (x.natAbs : Int) ≤ ((g.natAbs * x.natAbs : Nat) : Int) := Int.ofNat_le.2 h1
    omega
  have b1 := hle c'
  have b2 := hle s'
  refine ⟨?_, by omega, by omega, by omega, by omega⟩
  rw [Int.mul_left_comm c' g s', Int.mul_left_comm s' g c', Int.mul_comm c' s']
end Go.Proofs.Ytpjfidmapnnbkaa

/- The reference draws a list of office rows. (Printed by gen_drows.py) -/
namespace Go.Proofs.Ytpjfidmapnnbkaa
open Go.RowKit

theorem Env.wroteV {w W W' : World} {g : Nat} {A : Option Addr} {bs : List UInt8} {cap m B k n : Nat} {e : TypeId} {v : Value} {xs : List Value} (E : Env w W g A bs cap m) (ho : W.ownsRow B e k v n xs) (hg : W.grownBy W' v.ownBlock) (hB : w.heap.size ≤ B) (hgB : g < B) : Env w W' g A bs cap m := by
  cases hv : v.ownBlock with
  | none => rw [hv] at hg; exact E.below ⟨hg.os, hg.tape, hg.output, hg.size, fun j hj => hg.block j hj (by simp)⟩
  | some b => rw [hv] at hg; have := (ho.lt b hv).1; exact E.wrote hg (by omega) (by omega)
theorem ownsRow_gr {W W' : World} {B k n g : Nat} {e : TypeId} {v : Value} {xs : List Value} (h : W.ownsRow B e k v n xs) (hg : W.grownBy W' (some g)) (hB : g < B) : W'.ownsRow B e k v n xs :=
  h.kept hg (by
    cases hv : v.ownBlock with
    | none => left; rfl
    | some b => right; have := (h.lt b hv).1; intro e; injection e; omega)
theorem grown_row {W W' W'' : World} {B k n g : Nat} {e : TypeId} {v : Value} {xs : List Value} (G : W.grownBy W' (some g)) (ho : W'.ownsRow B e k v n xs) (hg : W'.grownBy W'' v.ownBlock) (hB : W.heap.size ≤ B) : W.grownBy W'' (some g) := by
  cases hv : v.ownBlock with
  | none => rw [hv] at hg; exact grown_trans G ⟨hg.os, hg.tape, hg.output, hg.size, fun j hj _ => hg.block j hj (by simp)⟩
  | some b => rw [hv] at hg; have := (ho.lt b hv).1; exact grown_own G hg (by omega)
/-- The rows drawn so far. -/
structure RSt (w W wx : World) (g : Nat) (A : Option Addr) (bs : List UInt8) (cap m : Nat) (l : List Row) (v : Value) : Prop where
  env : Env w wx g A bs cap m
  own : wx.ownsRow W.heap.size 42 5 v l.length (l.flatMap Row.enc)
  gr : W.grownBy wx (some g)
section
variable {w W wx wy : World} {g : Nat} {A : Option Addr} {bs : List UInt8} {cap m m' : Nat} {l : List Row} {v v' : Value}
theorem RSt.mono (h : RSt w W wx g A bs cap m l v) (hm : m ≤ m') : RSt w W wx g A bs cap m' l v := { h with env := h.env.mono hm }
theorem RSt.next (h : RSt w W wx g A bs cap m l v) (E : Env w wy g A bs cap m') (hg : wx.grownBy wy (some g)) (hB : g < W.heap.size) : RSt w W wy g A bs cap m' l v := ⟨E, ownsRow_gr h.own hg hB, grown_trans h.gr hg⟩
theorem RSt.push (h : RSt w W wx g A bs cap m l v) (r : Row) (ho : wy.ownsRow W.heap.size 42 5 v' (l.length + 1) (l.flatMap Row.enc ++ r.enc)) (hg : wx.grownBy wy v.ownBlock) (hB : g < W.heap.size) (hw : w.heap.size ≤ W.heap.size) : RSt w W wy g A bs cap m (l ++ [r]) v' :=
  ⟨h.env.wroteV h.own hg hw hB, by simpa using ho, grown_row h.gr h.own hg (Nat.le_refl _)⟩
end
theorem RSt.fresh {w W wx : World} {g : Nat} {A : Option Addr} {bs : List UInt8} {cap m : Nat} (E : Env w wx g A bs cap m) (G : W.grownBy wx (some g)) : RSt w W (wx.alloc (.cells #[] 42)) g A bs cap m [] (.slice (some ⟨wx.heap.size, 0, none⟩) 0 0) :=
  ⟨E.alloc _, World.ownsRow_lit (base := W.heap.size) (e := 42) (size := 5) wx #[] 0 G.size (by decide) rfl, grown_alloc G _⟩

set_option maxHeartbeats 4000000 in
set_option linter.unusedVariables false in
theorem officeRows_any (g : Nat) (A : Option Addr) (bs : List UInt8) (cap m : Nat) (w W : World) (hm : m ≤ 700000000) (E0 : Env w W g A bs cap m) :
    Calls Try.prog 43 #[.pointer (some ⟨g, 0, none⟩)] W fun e w' => ∃ (l : List Row) (v : Value), e = .returned v ∧ l.length ≤ 13 ∧ RSt w W w' g A bs cap (m + 1000) l v := by
  have hgW := E0.lt
  have hwW := E0.gr.size
  have S1 := RSt.fresh (W := W) E0 (World.grownBy.refl W (some g))
  have hl1 : (W.alloc (.cells #[] 42)).heap.size = W.heap.size + 1 := by simp
  go_enter Try.func43, Try.ntmps43
  go_wp2_with fail
  have Li := Lies.newB W (.cells #[] 42) 3 #[.int .i64 0, .int .i64 0, .int .i64 500, .int .i64 1180]
  have E1 := S1.env.alloc (.cells #[.int .i64 0, .int .i64 0, .int .i64 500, .int .i64 1180] 3)
  have S1 := S1.next E1 (World.grownBy_alloc _ (.cells #[.int .i64 0, .int .i64 0, .int .i64 500, .int .i64 1180] 3) (some g)) hgW
  generalize (W.alloc (.cells #[] 42)).alloc (.cells #[.int .i64 0, .int .i64 0, .int .i64 500, .int .i64 1180] 3) = W1 at S1 E1 Li ⊢
  generalize hv0 : (Value.slice (some ⟨W.heap.size, 0, none⟩) 0 0) = v0 at S1 ⊢
  generalize hb0 : W.heap.size + 1 = b0 at Li ⊢
  refine (among_lies E1 b0 4 [0, 0, 500, 1180] rfl Li (by omega) (by omega) (by omega) (by omega)).mono ?_
  rintro e W2 ⟨z, rfl, E2, gr⟩
  replace S1 := S1.next E2 gr hgW
  clear gr E1 E2 Li hv0 hb0 hl1
  go_wp2_with fail
  refine (pick_env S1.env 7 (by omega) (by omega)).mono ?_
  rintro e W3 ⟨n, rfl, hn, E3, gr⟩
  have HS := Lib.hid ((S1.next E3 gr hgW).mono (show _ ≤ m + 10 + 20 * (6 - n) by omega))
  clear gr E3 S1 E0
  go_wp2_with fail
  go_loopw [3, 4, 5] (fun o mo i wr => ∃ (k : Nat) (l : List Row) (z : Int), k ≤ 6 ∧ i = .int .i64 k ∧ mo = .int .i64 z ∧ l.length + k ≤ 6 ∧ Hid (RSt w W wr g A bs cap (m + 10 + 20 * (6 - k)) l o)) (fun _ _ i _ => (intOf i).toNat)
  case atStart => exact ⟨n, [], z, by omega, rfl, rfl, by simp; omega, HS⟩
  case round =>
    clear HS hn
    obtain ⟨k, l, z2, hk, rfl, rfl, hl, HS⟩ := hrel
    by_cases hlt : 0 < k
    · obtain ⟨k, rfl⟩ : ∃ q, k = q + 1 := ⟨k - 1, by omega⟩
      clear hlt
      have hi0 : (0 : Int) < ((k + 1 : Nat) : Int) := by omega
      go_wp2_with fail
      refine (pick_env HS.out.env 3 (by omega) (by omega)).mono ?_
      rintro e W4 ⟨x1, rfl, -, E4, gr⟩
      have S4 := HS.out.next E4 gr hgW
      clear gr E4 HS
      go_wp2_with fail
      refine (pick_env S4.env 150 (by omega) (by omega)).mono ?_
      rintro e W5 ⟨x2, rfl, -, E5, gr⟩
      have S5 := S4.next E5 gr hgW
      clear gr E5 S4
      go_wp2_with fail
      refine (officeRow_any g A bs cap _ _ w W5 (by omega) S5.env).mono ?_
      rintro e W6 ⟨r, rfl, E6, gr⟩
      have S6 := S5.next E6 gr hgW
      have hz6 := S6.gr.size
      have HO := Lib.hid S6.own
      clear gr E6 S5
      have HS6 := Lib.hid S6
      clear S6
      go_wp2_with (at_builtin; refine wpList_push (w0 := W6) rfl _ _ 24 rfl 42 _ 5 40 Try.underlying24 infoRow rfl (by decide) (by omega) W.heap.size _ _ _ rfl HO #[.int .i64 r.m, .int .i64 r.b, .int .i64 r.s, .int .i64 r.c, .int .i64 r.l] 1 _ rfl (by first | rfl | exact Array.size_push _) rfl (by simp [Value.oneCell']) (by omega) hz6 rfl rfl rfl rfl ?_; intro v' W7 HO7 hg7 _)
      have HS7 := Lib.hid ((HS6.out.push r HO7.out hg7 hgW hwW).mono (show _ ≤ m + 10 + 20 * (6 - k) by omega))
      clear HS6 HO HO7 hg7
      go_roundw
      case rel => exact ⟨k, l ++ [r], _, by omega, by go_num, rfl, (by simp; omega), HS7⟩
      case measure => simp [intOf] <;> omega
    · obtain rfl : k = 0 := by omega
      clear hlt
      have hi0 : ¬ (0 : Int) < ((0 : Nat) : Int) := by omega
      go_wp2_with fail
      refine (one_env HS.out.env 24 (by omega) (by omega)).mono ?_
      rintro e W4 ⟨q, rfl, E4, gr⟩
      have S4 := HS.out.next E4 gr hgW
      clear gr E4 HS
      cases q
      · have HS4 := Lib.hid (S4.mono (show _ ≤ m + 1000 by omega))
        clear S4
        go_wp2_with fail
        go_ret
        exact ⟨l, _, rfl, by omega, HS4.out⟩
      · have S5 := RSt.fresh (W := W) S4.env S4.gr
        clear S4
        go_wp2_with fail
        generalize W4.alloc (.cells #[] 42) = W5 at S5 ⊢
        generalize (Value.slice (some ⟨W4.heap.size, 0, none⟩) 0 0) = v5 at S5 ⊢
        have HS := Lib.hid (S5.mono (show _ ≤ m + 10 + 20 * 6 + 2 + 2 * 0 by omega))
        clear S5
        go_loopw [3, 6] (fun o i wr => ∃ (k : Nat) (l : List Row), k ≤ 13 ∧ i = .int .i64 k ∧ l.length = k ∧ Hid (RSt w W wr g A bs cap (m + 10 + 20 * 6 + 2 + 2 * k) l o)) (fun _ i _ => 14 - (intOf i).toNat)
        case atStart => exact ⟨0, [], by omega, rfl, rfl, HS⟩
        case round =>
          clear HS hl l
          obtain ⟨k, l, hk, rfl, hl, HS⟩ := hrel
          go_wp2_with fail
          refine (pick_env HS.out.env 2 (by omega) (by omega)).mono ?_
          rintro e W6 ⟨x, rfl, hx, E6, gr⟩
          have S6 := HS.out.next E6 gr hgW
          clear gr E6 HS
          by_cases hlt : k < 12 + x
          · have hi1 : (k : Int) < 12 + (x : Int) := by omega
            have hz6 := S6.gr.size
            have HO := Lib.hid S6.own
            have HS6 := Lib.hid S6
            clear S6
            go_wp2_with (at_builtin; refine wpList_push (w0 := W6) rfl _ _ 24 rfl 42 _ 5 40 Try.underlying24 infoRow rfl (by decide) (by omega) W.heap.size _ _ _ rfl HO #[.int .i64 ((k : Int) + 1), .int .i64 (10 * ((k : Int) % 5)), .int .i64 (k : Int), .int .i64 (100 * ((k : Int) % 3) - 90), .int .i64 0] 1 _ rfl (by first | rfl | exact Array.size_push _) rfl (by simp [Value.oneCell']) (by omega) hz6 rfl rfl rfl rfl ?_; intro v' W7 HO7 hg7 _)
            have HS7 := Lib.hid ((HS6.out.push ⟨(k : Int) + 1, 10 * ((k : Int) % 5), k, 100 * ((k : Int) % 3) - 90, 0⟩ HO7.out hg7 hgW hwW).mono (show _ ≤ m + 10 + 20 * 6 + 2 + 2 * (k + 1) by omega))
            clear HS6 HO HO7 hg7
            go_roundw
            case rel => exact ⟨k + 1, _, by omega, by go_num, by simp [hl], HS7⟩
            case measure => simp [intOf]; omega
          · have hi1 : ¬ (k : Int) < 12 + (x : Int) := by omega
            have HS6 := Lib.hid (S6.mono (show _ ≤ m + 1000 by omega))
            clear S6
            go_wp2_with fail
            go_ret
            exact ⟨l, _, rfl, by omega, HS6.out⟩
theorem grown_belowR {w w' : World} {g : Nat} (hg : w.grownBy w' (some g)) (h : w.heap.size ≤ g) : Below w.heap.size w w' :=
  ⟨hg.os, hg.tape, hg.output, hg.size, fun k hk => hg.block k hk (by intro e; injection e; omega)⟩
def DrawnRows (w : World) (e : Ending) (w' : World) : Prop := ∃ (l : List Row) (A : Option Addr) (c : Nat), e = .returned (.slice A l.length c) ∧ l.length ≤ 13 ∧ RowsR w' w'.heap.size A l ∧ Below w.heap.size w w'
def DrawnStock (w : World) (e : Ending) (w' : World) : Prop := ∃ (l : List Row) (A : Option Addr) (c : Nat) (z : Int), e = .returned (.tuple #[.slice A l.length c, .int .i64 z]) ∧ (-2 ≤ z ∧ z ≤ 1000001) ∧ l.length ≤ 13 ∧ RowsR w' w'.heap.size A l ∧ Below w.heap.size w w'
theorem cur_start {w : World} {A : Option Addr} {cap : Nat} {bs : List UInt8} (hr : BytesR w w.heap.size A bs) : Env (w.alloc (.cells #[.slice A bs.length cap, .int .i64 0, .int .u64 0] 64)) (w.alloc (.cells #[.slice A bs.length cap, .int .i64 0, .int .u64 0] 64)) w.heap.size A bs cap 0 :=
  have b1 : Below w.heap.size w (w.alloc (.cells #[.slice A bs.length cap, .int .i64 0, .int .u64 0] 64)) := (Below.refl w.heap.size w).alloc (Nat.le_refl _) (.cells #[.slice A bs.length cap, .int .i64 0, .int .u64 0] 64)
  ⟨⟨0, 0, Lies.new w 64 #[.slice A bs.length cap, .int .i64 0, .int .u64 0], Nat.le_refl _, by omega, by omega⟩, SlcR.below hr b1, World.grownBy.refl _ _⟩

set_option maxHeartbeats 1000000 in
theorem drawAreRows_any (A : Option Addr) (cap : Nat) (bs : List UInt8) (w : World) (hr : BytesR w w.heap.size A bs) :
    Calls Try.prog 38 #[.slice A bs.length cap] w (DrawnRows w) := by
  have E1 := cur_start (cap := cap) hr
  have b1 : Below w.heap.size w (w.alloc (.cells #[.slice A bs.length cap, .int .i64 0, .int .u64 0] 64)) := (Below.refl w.heap.size w).alloc (Nat.le_refl _) (.cells #[.slice A bs.length cap, .int .i64 0, .int .u64 0] 64)
  go_enter Try.func38, Try.ntmps38
  go_wp2_with fail
  generalize w.alloc (.cells #[.slice A bs.length cap, .int .i64 0, .int .u64 0] 64) = W1 at E1 b1 ⊢
  refine (officeRows_any w.heap.size A bs cap 0 W1 W1 (by omega) E1).mono ?_
  rintro e W2 ⟨l, v, rfl, hl, S2⟩
  obtain ⟨A', c', rfl⟩ := ownsRow_slice S2.own
  have hR : RowsR W2 W2.heap.size A' l := (OwnS.of S2.own).reads
  have hB := grown_belowR (grown_trans (grownAny b1 (some w.heap.size)) S2.gr) (Nat.le_refl _)
  clear S2
  go_wp2_with fail
  go_ret
  exact ⟨l, A', c', rfl, hl, hR, hB⟩
theorem drawLeast_any (A : Option Addr) (cap : Nat) (bs : List UInt8) (w : World) (hr : BytesR w w.heap.size A bs) :
    Calls Try.prog 13 #[.slice A bs.length cap] w (DrawnRows w) := by
  go_enter Try.func13, Try.ntmps13
  go_wp2_with fail
  refine (drawAreRows_any A cap bs _ hr).mono ?_
  rintro e W2 ⟨l, A', c', rfl, hl, hR, hB⟩
  go_wp2_with fail
  go_ret
  exact ⟨l, A', c', rfl, hl, hR, hB⟩
theorem drawWorst_any (A : Option Addr) (cap : Nat) (bs : List UInt8) (w : World) (hr : BytesR w w.heap.size A bs) :
    Calls Try.prog 17 #[.slice A bs.length cap] w (DrawnRows w) := by
  go_enter Try.func17, Try.ntmps17
  go_wp2_with fail
  refine (drawAreRows_any A cap bs _ hr).mono ?_
  rintro e W2 ⟨l, A', c', rfl, hl, hR, hB⟩
  go_wp2_with fail
  go_ret
  exact ⟨l, A', c', rfl, hl, hR, hB⟩
/-- One of the first n of a list that lies in a block. -/
theorem among_take {w W : World} {g : Nat} {A : Option Addr} {bs : List UInt8} {cap m : Nat} (E : Env w W g A bs cap m) (b n c' : Nat) (l : List Int) (hl : n ≤ l.length) (hl' : l.length ≤ 100000) (hL : Lies W b 3 (encIs l)) (hne : b ≠ g) (h0 : 0 < n) (hm : m ≤ 900000000) :
    Calls Try.prog 46 #[.pointer (some ⟨g, 0, none⟩), .slice (some ⟨b, 0, none⟩) n c'] W fun e w' => ∃ x : Int, e = .returned (.int .i64 x) ∧ x ∈ l ∧ Env w w' g A bs cap (m + 2) ∧ W.grownBy w' (some g) := by
  have hn : (l.take n).length = n := by rw [List.length_take]; omega
  have hi : IntsR W W.heap.size (some ⟨b, 0, none⟩) (l.take n) := by
    refine ⟨by rw [encIs_len], by omega, fun _ => ⟨b, 0, rfl, hL.lt, fun j u hu => ?_⟩⟩
    rw [Nat.zero_add, hL.cell]
    have hj : j < n := by have := (List.getElem?_eq_some_iff.1 hu).1; rw [encIs_len] at this; omega
    rw [← hu]
    simp [List.getElem?_take, hj]
  have h := among_any g A (some ⟨b, 0, none⟩) cap c' m bs (l.take n) W (by omega) (by omega) hm E.cur E.rd hi (by intro e; injection e with e; exact hne e)
  rw [hn] at h
  exact h.mono fun _ _ ⟨x, he, hx, hc, hg⟩ => ⟨x, he, List.mem_of_mem_take hx, E.next hc hg, hg⟩
set_option maxHeartbeats 1000000 in
theorem drawStock_any (A : Option Addr) (cap : Nat) (bs : List UInt8) (w : World) (hr : BytesR w w.heap.size A bs) :
    Calls Try.prog 27 #[.slice A bs.length cap] w (DrawnStock w) := by
  have E1 := cur_start (cap := cap) hr
  have b1 : Below w.heap.size w (w.alloc (.cells #[.slice A bs.length cap, .int .i64 0, .int .u64 0] 64)) := (Below.refl w.heap.size w).alloc (Nat.le_refl _) (.cells #[.slice A bs.length cap, .int .i64 0, .int .u64 0] 64)
  go_enter Try.func27, Try.ntmps27
  go_wp2_with fail
  generalize w.alloc (.cells #[.slice A bs.length cap, .int .i64 0, .int .u64 0] 64) = W1 at E1 b1 ⊢
  refine (officeRows_any w.heap.size A bs cap 0 W1 W1 (by omega) E1).mono ?_
  rintro e W2 ⟨l, v, rfl, hl, S2⟩
  obtain ⟨A', c', rfl⟩ := ownsRow_slice S2.own
  have hR : RowsR W2 W2.heap.size A' l := (OwnS.of S2.own).reads
  have hgW := E1.lt
  clear E1
  go_wp2_with fail
  refine (specLeast_any A' c' l W2 hR).mono ?_
  rintro e W3 ⟨rfl, hb3⟩
  have S3 : RSt W1 W1 W3 w.heap.size A bs cap (0 + 1000) l (.slice A' l.length c') := S2.next (S2.env.below hb3) (grownAny hb3 _) hgW
  have hN : -1 ≤ leastStart l - 1 ∧ leastStart l ≤ 1000000 := by
    cases hg : goodRows l with
    | true => have := (least_law hg).1; omega
    | false => unfold leastStart; rw [hg]; simp
  obtain ⟨need, hneed⟩ : ∃ z, leastStart l = z := ⟨_, rfl⟩
  obtain ⟨ok, hok⟩ : ∃ b, goodRows l = b := ⟨_, rfl⟩
  rw [hneed] at hN
  rw [hneed, hok]
  clear hneed hok S2 hR hb3
  have fin : ∀ W4 m, RSt W1 W1 W4 w.heap.size A bs cap m l (.slice A' l.length c') → ∀ z : Int, -2 ≤ z ∧ z ≤ 1000001 → DrawnStock w (.returned (.tuple #[.slice A' l.length c', .int .i64 z])) W4 := fun W4 m S z hz =>
    ⟨l, A', c', z, rfl, hz, hl, (OwnS.of S.own).reads, grown_belowR (grown_trans (grownAny b1 (some w.heap.size)) S.gr) (Nat.le_refl _)⟩
  have FIN := Lib.hid fin
  clear fin b1
  have last : ∀ W4 m, m ≤ 2000 → RSt W1 W1 W4 w.heap.size A bs cap m l (.slice A' l.length c') → ∀ x : Nat, x ≤ 23 → True := fun _ _ _ _ _ _ => trivial
  clear last
  cases ok
  · go_wp2_with fail
    have Li := Lies.new W3 3 #[.int .i64 0, .int .i64 20, .int .i64 1000000, .int .i64 (-1), .int .i64 1000001]
    have E5 := S3.env.alloc (.cells #[.int .i64 0, .int .i64 20, .int .i64 1000000, .int .i64 (-1), .int .i64 1000001] 3)
    have S5 := S3.next E5 (World.grownBy_alloc _ (.cells #[.int .i64 0, .int .i64 20, .int .i64 1000000, .int .i64 (-1), .int .i64 1000001] 3) (some w.heap.size)) hgW
    have hl5 := S3.env.lt
    clear S3 E5
    generalize W3.alloc (.cells #[.int .i64 0, .int .i64 20, .int .i64 1000000, .int .i64 (-1), .int .i64 1000001] 3) = W5 at S5 Li ⊢
    generalize W3.heap.size = gi at Li hl5 ⊢
    refine (pick_env S5.env 24 (by omega) (by omega)).mono ?_
    rintro e W6 ⟨x, rfl, hx, E6, gr⟩
    have S6 := S5.next E6 gr hgW
    replace Li := Li.kept gr (by intro e; injection e; omega)
    clear gr E6 S5
    have hx3 : ∃ y : Nat, (x : Int) / 11 = y ∧ y ≤ 2 := ⟨x / 11, by omega, by omega⟩
    obtain ⟨y, hy, hy2⟩ := hx3
    have hw1 : IntKind.i64.wrap (3 + (y : Int)) = 3 + (y : Int) := IntWalk.i64_in _ (by omega)
    go_wp2_with fail
    refine (among_take S6.env gi (3 + y) 5 [0, 20, 1000000, -1, 1000001] (by simp; omega) (by simp) Li (by omega) (by omega) (by omega)).mono ?_
    rintro e W7 ⟨z, rfl, hz, E7, gr⟩
    have S7 := S6.next E7 gr hgW
    have hzb : -2 ≤ z ∧ z ≤ 1000001 := by
      simp only [List.mem_cons, List.not_mem_nil, or_false] at hz; omega
    have HF := Lib.hid (FIN.out _ _ S7 z hzb)
    clear S7 S6 Li hz hzb gr E7 hy
    go_wp2_with fail
    go_ret2
    exact HF.out
  · go_wp2_with fail
    refine (one_env S3.env 2 (by omega) (by omega)).mono ?_
    rintro e W4 ⟨q, rfl, E4, gr⟩
    have S4 := S3.next E4 gr hgW
    clear gr E4 S3
    cases q
    · go_wp2_with fail
      have Li := Lies.new W4 3 #[.int .i64 0, .int .i64 20, .int .i64 1000000, .int .i64 (-1), .int .i64 1000001]
      have E5 := S4.env.alloc (.cells #[.int .i64 0, .int .i64 20, .int .i64 1000000, .int .i64 (-1), .int .i64 1000001] 3)
      have S5 := S4.next E5 (World.grownBy_alloc _ (.cells #[.int .i64 0, .int .i64 20, .int .i64 1000000, .int .i64 (-1), .int .i64 1000001] 3) (some w.heap.size)) hgW
      have hl5 := S4.env.lt
      clear S4 E5
      generalize W4.alloc (.cells #[.int .i64 0, .int .i64 20, .int .i64 1000000, .int .i64 (-1), .int .i64 1000001] 3) = W5 at S5 Li ⊢
      generalize W4.heap.size = gi at Li hl5 ⊢
      refine (pick_env S5.env 24 (by omega) (by omega)).mono ?_
      rintro e W6 ⟨x, rfl, hx, E6, gr⟩
      have S6 := S5.next E6 gr hgW
      replace Li := Li.kept gr (by intro e; injection e; omega)
      clear gr E6 S5
      have hx3 : ∃ y : Nat, (x : Int) / 11 = y ∧ y ≤ 2 := ⟨x / 11, by omega, by omega⟩
      obtain ⟨y, hy, hy2⟩ := hx3
      have hw1 : IntKind.i64.wrap (3 + (y : Int)) = 3 + (y : Int) := IntWalk.i64_in _ (by omega)
      go_wp2_with fail
      refine (among_take S6.env gi (3 + y) 5 [0, 20, 1000000, -1, 1000001] (by simp; omega) (by simp) Li (by omega) (by omega) (by omega)).mono ?_
      rintro e W7 ⟨z, rfl, hz, E7, gr⟩
      have S7 := S6.next E7 gr hgW
      have hzb : -2 ≤ z ∧ z ≤ 1000001 := by
        simp only [List.mem_cons, List.not_mem_nil, or_false] at hz; omega
      have HF := Lib.hid (FIN.out _ _ S7 z hzb)
      clear S7 S6 Li hz hzb gr E7 hy
      go_wp2_with fail
      go_ret2
      exact HF.out
    · go_wp2_with fail
      refine (pick_env S4.env 2 (by omega) (by omega)).mono ?_
      rintro e W5 ⟨x, rfl, hx, E5, gr⟩
      have S5 := S4.next E5 gr hgW
      clear gr E5 S4
      go_wp2_with fail
      refine (l1MostR_any _ _ _).mono ?_
      rintro e W6 ⟨rfl, rfl⟩
      have HF := Lib.hid (FIN.out _ _ S5 (max 0 (need - x)) (by omega))
      clear S5
      go_wp2_with fail
      go_ret2
      exact HF.out
end Go.Proofs.Ytpjfidmapnnbkaa

/- What laws.vHas and laws.vInts answer. -/
namespace Go.Proofs.Ytpjfidmapnnbkaa
open Go.RowKit

def hasFrom (x : Int) (l : List Int) : Bool := l.any (fun y => decide (y = x))
set_option maxHeartbeats 1000000 in
theorem rInts_any (A B : Option Addr) (c d : Nat) (l : List Int) (w : World) (hA : IntsR w w.heap.size A l) (hB : IntsR w w.heap.size B l) :
    Calls Try.prog 26 #[.slice A l.length c, .slice B l.length d] w fun e w' => e = .returned (.bool true) ∧ Below w.heap.size w w' := by
  have hlA := hA.big
  have hrA := hA.ints
  have hrB := hB.ints
  have hbn : ((l.length : Int) != (l.length : Int)) = false := by simp
  go_enter Try.func26, Try.ntmps26
  go_wp2
  go_loopw [5] (fun i wr => ∃ k : Nat, k ≤ l.length ∧ i = .int .i64 k ∧ (∃ q : Since w.heap.size w, wr = q.val)) (fun i _ => l.length - (intOf i).toNat)
  case atStart => exact ⟨0, Nat.zero_le _, rfl, ⟨Since.start _ _, rfl⟩⟩
  case round =>
    obtain ⟨k, hk, rfl, ⟨q, rfl⟩⟩ := hrel
    by_cases hlt : k < l.length
    · obtain ⟨b, off, rfl, hb, hcell⟩ := hrA (by omega)
      obtain ⟨b', off', rfl, hb', hcell'⟩ := hrB (by omega)
      have c0 := hcell k hlt
      have d0 := hcell' k hlt
      generalize l[k] = y at c0 d0
      clear hcell hcell' hrA hrB
      go_wp2
      refine wp_region_since _ (by kernel_rfl) (by kernel_rfl) ?_
      repeat (any_goals (first | go_big_quiet_step ((fail)) | (refine wpQuiet_step (fun K hK => ?_); go_simp; split <;> (refine hK _ ?_; clear hK K))))
      all_goals (refine wpQuiet_nil ?_; rintro _ ⟨q1, rfl⟩)
      go_wp2
      go_roundw
      case rel => exact ⟨k + 1, by omega, by go_num, ⟨q1, rfl⟩⟩
      case measure => simp [intOf]; omega
    · go_wp2
      go_ret
      exact ⟨rfl, q.below⟩
end Go.Proofs.Ytpjfidmapnnbkaa

/- FnStock: the walk. -/
namespace Go.Proofs.Ytpjfidmapnnbkaa
open Go.RowKit

theorem rBig_any (A : Option Addr) (n c : Nat) (w : World) : Calls Try.prog 12 #[.slice A n c] w fun e w' => e = .returned (.bool (decide (65536 < n))) ∧ w = w' := by
  by_cases h : 65536 < n
  · have h1 : (65536 : Int) < n := by omega
    rw [decide_eq_true h]
    go_enter Try.func12, Try.ntmps12
    go_wp2
    go_ret
    exact ⟨by simp [h1], rfl⟩
  · have h1 : ¬ (65536 : Int) < n := by omega
    rw [decide_eq_false h]
    go_enter Try.func12, Try.ntmps12
    go_wp2
    go_ret
    exact ⟨by simp [h1], rfl⟩
/-- Rows drawn, in the law's hands. -/
structure RT (w W : World) (A : Option Addr) (l : List Row) : Prop where
  bl : Below w.heap.size w W
  x : RowsR W W.heap.size A l
theorem RT.then {w W W' : World} {A : Option Addr} {l : List Row} (h : RT w W A l) (hb : Below W.heap.size W W') : RT w W' A l := ⟨h.bl.trans (hb.mono h.bl.size), SlcR.then h.x hb⟩
theorem ints_then {w w' : World} {A : Option Addr} {l : List Int} (h : IntsR w w.heap.size A l) (hb : Below w.heap.size w w') : IntsR w' w'.heap.size A l := (SlcR.below h hb).mono hb.size

set_option maxRecDepth 100000 in
set_option maxHeartbeats 8000000 in
set_option linter.unusedVariables false in
theorem lawStock_any (A : Option Addr) (cap : Nat) (bs : List UInt8) (w : World) (hr : BytesR w w.heap.size A bs) :
    Calls Try.prog 4 #[.slice A bs.length cap] w fun e w' => e = .returned (.bool true) ∧ Below w.heap.size w w' := by
  by_cases hbig : 65536 < bs.length
  · have hb' : decide (65536 < bs.length) = true := decide_eq_true hbig
    go_enter Try.func4, Try.ntmps4
    go_wp2_with (go_at_call 12; refine (rBig_any _ _ _ _).mono ?_; rintro e w' ⟨rfl, rfl⟩)
    go_ret
    exact ⟨rfl, Below.refl _ _⟩
  · have hb' : decide (65536 < bs.length) = false := decide_eq_false hbig
    go_enter Try.func4, Try.ntmps4
    go_wp2_with fail
    refine (rBig_any _ _ _ _).mono ?_
    rintro e w' ⟨rfl, rfl⟩
    go_wp2_with fail
    clear hb' hbig
    have HBR := Lib.hid hr
    refine (drawLeast_any A cap bs w hr).mono ?_
    rintro e v0 ⟨l, A0, c0, rfl, hl, hx, hb⟩
    have S0 : RT w v0 A0 l := ⟨hb, hx⟩
    clear hb hx hr
    have cI := fun W h => implLeast_any A0 c0 l W h
    have cS := fun W h => specLeast_any A0 c0 l W h
    have hLaw := fun h => least_law (l := l) h
    obtain ⟨ok, hok⟩ : ∃ b, goodRows l = b := ⟨_, rfl⟩
    obtain ⟨st, hst⟩ : ∃ z, leastStart l = z := ⟨_, rfl⟩
    simp only [hok, hst] at cI cS hLaw
    clear hok hst
    have HLaw := Lib.hid hLaw
    have hbo : (ok != ok) = false := by cases ok <;> rfl
    have hbs : (st != st) = false := by simp
    clear hLaw
    go_wp2_with fail
    refine (cI _ S0.x).mono ?_
    rintro e v1 ⟨rfl, hb1⟩
    have S1 := S0.then hb1
    clear S0 hb1 cI
    go_wp2_with fail
    refine (cS _ S1.x).mono ?_
    rintro e v2 ⟨rfl, hb1⟩
    have S2 := S1.then hb1
    clear S1 hb1 cS
    go_upto_if 65 with fail
    go_cut [] (fun wx => Below v2.heap.size v2 wx)
    case first => as_aux_lemma =>
      cases ok
      · go_wp2_with fail
        go_meet
        case rel => exact Below.refl _ _
      · obtain ⟨⟨h0, h1⟩, h2, h3, h4⟩ := HLaw.out rfl
        have cK := fun W h => implStock_any A0 c0 l st W (by omega) (by omega) h
        rw [h2, h3] at cK
        have hz : ((l.length : Int) != (l.length : Int)) = false := by simp
        clear h2 h3 hbo hbs HLaw
        go_wp2_with fail
        refine (cK v2 S2.x).mono ?_
        rintro e v3 ⟨A3, c3, rfl, hO3, hb3⟩
        have S3 := S2.then hb3
        clear hO3 cK
        by_cases hp : 0 < st
        · have cK := fun W h => implStock_any A0 c0 l (st - 1) W (by omega) (by omega) h
          rw [h4 hp] at cK
          have hw1 : IntKind.i64.wrap (st - 1) = st - 1 := IntWalk.i64_in _ (by omega)
          clear h4 hz
          go_wp2_with fail
          refine (cK v3 S3.x).mono ?_
          rintro e v4 ⟨A4, c4, rfl, hO4, hb4⟩
          clear hO4 cK S3 S2
          go_wp2_with fail
          go_meet
          case rel => exact bthen hb3 hb4
        · clear h4
          go_wp2_with fail
          go_meet
          case rel => exact hb3
    case rest => as_aux_lemma =>
      have HB := Lib.hid (S2.bl.trans (hcut.mono S2.bl.size))
      have hrd : BytesR wc wc.heap.size A bs := SlcR.up HBR.out HB.out (Nat.le_refl _)
      clear hcut S2 HLaw hbo hbs hl
      go_wp2_with fail
      refine (drawWorst_any A cap bs wc hrd).mono ?_
      rintro e w0 ⟨m, A1, c1, rfl, hm, hx, hb⟩
      have S0 : RT w w0 A1 m := ⟨HB.out.trans (hb.mono HB.out.size), hx⟩
      clear hb hx hrd HB
      have cI := fun W h => implWorst_any A1 c1 m W h
      have cS := fun W h => specWorst_any A1 c1 m W h
      have cBI := fun W h => implBest_any A1 c1 m W h
      have cBS := fun W h => specBest_any A1 c1 m W h
      have hLaw := fun h => worst_law (l := m) h
      have hgd : ∀ h : bestOk m = true, ∀ i (hi : i < m.length), -1000000 ≤ m[i].c ∧ m[i].c ≤ 1000000 := fun h i hi => by
        have hg : goodRows m = true := by unfold bestOk at h; rw [Bool.and_eq_true] at h; exact h.1
        exact (Row.bounds (good_at hg hi)).2.2.2.1
      obtain ⟨fine, hfine⟩ : ∃ b, bestOk m = b := ⟨_, rfl⟩
      obtain ⟨f, hf⟩ : ∃ z, fromOf m (worstRun m) = z := ⟨_, rfl⟩
      obtain ⟨u, hu⟩ : ∃ z, untilOf m (worstRun m) = z := ⟨_, rfl⟩
      obtain ⟨le, hle⟩ : ∃ z, leastOf (worstRun m) = z := ⟨_, rfl⟩
      obtain ⟨bm, hbm⟩ : ∃ z, bestM m = z := ⟨_, rfl⟩
      simp only [worstVal, hfine, hf, hu, hle, hbm] at cI cS cBI cBS hLaw hgd
      clear hfine hf hu hle hbm
      have HLaw := Lib.hid hLaw
      have HGD := Lib.hid hgd
      clear hLaw hgd
      have hb0 : (fine != fine) = false := by cases fine <;> rfl
      have hb1 : (f != f) = false := by simp
      have hb2 : (u != u) = false := by simp
      have hb3 : (le != le) = false := by simp
      have hb4 : (bm != bm) = false := by simp
      go_wp2_with fail
      refine (cI _ S0.x).mono ?_
      rintro e w1 ⟨rfl, hb1⟩
      have S1 := S0.then hb1
      clear S0 hb1 cI
      go_wp2_with fail
      refine (cS _ S1.x).mono ?_
      rintro e w2 ⟨rfl, hb1⟩
      have S2 := S1.then hb1
      clear S1 hb1 cS
      go_upto_region 21 with fail
      go_cut [21] (fun s21 wx => s21 = .int .i64 0 ∧ wx = w2)
      case first => as_aux_lemma =>
        go_wp2_with fail
        go_meet
        case rel => exact ⟨rfl, rfl⟩
      case rest => as_aux_lemma =>
        obtain ⟨rfl, rfl⟩ := hcut
        go_step
        go_step
        go_cut [21] (fun s21 wx => ∃ z : Int, s21 = .int .i64 z ∧ Hid (fine = true → z = le) ∧ Below wc.heap.size wc wx)
        case first => as_aux_lemma =>
          cases fine
          · go_wp2_with fail
            go_loopw [21, 22] (fun s i wr => s = .int .i64 0 ∧ i = .int .i64 0 ∧ wr = wc) (fun _ _ _ => 0)
            case atStart => exact ⟨rfl, rfl, rfl⟩
            case round =>
              obtain ⟨rfl, rfl, rfl⟩ := hrel
              go_wp2_with fail
              all_goals (go_meet; exact ⟨0, rfl, (fun h => by cases h), Below.refl _ _⟩)
          · obtain ⟨q1, q2⟩ := HLaw.out rfl
            have hgd := HGD.out rfl
            have HLE := Lib.hid q1
            have HSUM : Hid (0 + selSum f u (m.drop 0) = le) := by rw [List.drop_zero, Hid, Int.zero_add]; exact q2
            have HGD' := Lib.hid hgd
            have hrd := S2.x.row
            clear q1 q2 hgd HLaw HGD
            go_wp2_with fail
            go_loopw [21, 22] (fun s i wr => ∃ (k : Nat) (z : Int), k ≤ m.length ∧ i = .int .i64 k ∧ s = .int .i64 z ∧ (-1000000 * (k : Int) ≤ z ∧ z ≤ 1000000 * (k : Int)) ∧ Hid (z + selSum f u (m.drop k) = le) ∧ Below wc.heap.size wc wr) (fun _ i _ => m.length - (intOf i).toNat)
            case atStart => exact ⟨0, 0, Nat.zero_le _, rfl, rfl, by omega, HSUM, Below.refl _ _⟩
            case round =>
              clear HSUM
              obtain ⟨k, z, hk, rfl, rfl, ⟨z1, z2⟩, HR, hbr⟩ := hrel
              by_cases hlt : k < m.length
              · obtain ⟨b, off, rfl, hb, hcell⟩ := hrd (by omega)
                have hrow := hcell k hlt
                have hLE := HLE.out k hlt
                obtain ⟨hg1, hg2⟩ := HGD'.out k hlt
                have HST : Hid (selSum f u (m.drop k) = (if f ≤ m[k].m ∧ m[k].m ≤ u then m[k].c else 0) + selSum f u (m.drop (k + 1))) := by rw [Hid, List.drop_eq_getElem_cons hlt]; rfl
                obtain ⟨x, hxe⟩ : ∃ x, x = m[k] := ⟨_, rfl⟩
                rw [← hxe] at hrow hLE hg1 hg2 HST
                have k0 := hrow.c0 ⟨wr, hbr⟩
                have k3 := hrow.c3 ⟨wr, hbr⟩
                simp only at k0 k3
                clear hxe hcell hrd hrow
                have d3 : decide (x.c < le) = false := decide_eq_false (by omega)
                have hw1 : IntKind.i64.wrap (z + x.c) = z + x.c := IntWalk.i64_in _ (by omega)
                by_cases h1 : f ≤ x.m
                · by_cases h2 : x.m ≤ u
                  · have HE : Hid (z + x.c + selSum f u (m.drop (k + 1)) = le) := by have h := HR.out; rw [HST.out, if_pos ⟨h1, h2⟩] at h; rw [Hid]; omega
                    have d1 : decide (f ≤ x.m) = true := decide_eq_true h1
                    have d2 : decide (x.m ≤ u) = true := decide_eq_true h2
                    clear HR HST
                    go_wp2_with fail
                    go_roundw
                    case rel => exact ⟨k + 1, z + x.c, by omega, by go_num, rfl, by omega, HE, hbr⟩
                    case measure => simp [intOf]; omega
                  · have HE : Hid (z + selSum f u (m.drop (k + 1)) = le) := by have h := HR.out; rw [HST.out, if_neg (fun h => h2 h.2)] at h; rw [Hid]; omega
                    have d1 : decide (f ≤ x.m) = true := decide_eq_true h1
                    have d2 : decide (x.m ≤ u) = false := decide_eq_false h2
                    clear HR HST
                    go_wp2_with fail
                    go_roundw
                    case rel => exact ⟨k + 1, z, by omega, by go_num, rfl, by omega, HE, hbr⟩
                    case measure => simp [intOf]; omega
                · have HE : Hid (z + selSum f u (m.drop (k + 1)) = le) := by have h := HR.out; rw [HST.out, if_neg (fun h => h1 h.1)] at h; rw [Hid]; omega
                  have d1 : decide (f ≤ x.m) = false := decide_eq_false h1
                  clear HR HST
                  go_wp2_with fail
                  go_roundw
                  case rel => exact ⟨k + 1, z, by omega, by go_num, rfl, by omega, HE, hbr⟩
                  case measure => simp [intOf]; omega
              · have HE : Hid (true = true → z = le) := fun _ => by
                  have h := HR.out; rw [List.drop_eq_nil_of_le (by omega)] at h; simpa [selSum] using h
                clear HR
                go_wp2_with fail
                go_meet
                case rel => exact ⟨z, rfl, HE, hbr⟩
        case rest => as_aux_lemma =>
          obtain ⟨z, rfl, HZ, hx⟩ := hcut
          have S3 := S2.then hx
          clear hx HLaw HGD S2 hb1 hb2 hb3
          go_upto_region 29 with fail
          go_cut [169] (fun s169 wx => s169 = .bool false ∧ wx = wc)
          case first => as_aux_lemma =>
            cases fine
            · go_wp2_with fail
              go_meet
              case rel => exact ⟨rfl, rfl⟩
            · obtain rfl : z = le := HZ.out rfl
              have hq : (z != z) = false := by simp
              go_wp2_with fail
              go_meet
              case rel => exact ⟨rfl, rfl⟩
          case rest => as_aux_lemma =>
            obtain ⟨rfl, rfl⟩ := hcut
            clear HZ
            go_wp2_with fail
            refine (cBI _ S3.x).mono ?_
            rintro e w4 ⟨rfl, hb1⟩
            have S4 := S3.then hb1
            clear S3 hb1 cBI
            go_wp2_with fail
            refine (cBS _ S4.x).mono ?_
            rintro e w5 ⟨rfl, hb1⟩
            have S5 := S4.then hb1
            clear S4 hb1 cBS
            go_upto_region 35 with fail
            clear hb0 hb4
            have cI := fun W h => implProfit_any A1 c1 m W h
            have cS := fun W h => specProfit_any A1 c1 m W h
            have cSI := fun W h => implSums_any A1 c1 m W h
            have cSS := fun W h => specSums_any A1 c1 m W h
            have hLaw := fun h => prof_law (l := m) h
            obtain ⟨pk, hpk⟩ : ∃ b, profOk m = b := ⟨_, rfl⟩
            obtain ⟨pn, hpn⟩ : ∃ b, profNum m = b := ⟨_, rfl⟩
            obtain ⟨pd, hpd⟩ : ∃ b, profDen m = b := ⟨_, rfl⟩
            obtain ⟨sl, hsl⟩ : ∃ b, sumsR m = b := ⟨_, rfl⟩
            obtain ⟨gm, hgm⟩ : ∃ b, goodRows m = b := ⟨_, rfl⟩
            obtain ⟨pc, hpc⟩ : ∃ b, profCS m = b := ⟨_, rfl⟩
            obtain ⟨pc1, pc2⟩ := pc
            simp only [hpk, hpn, hpd, hsl, hgm, hpc] at cI cS cSI cSS hLaw
            clear hpk hpn hpd hsl hgm hpc
            have HLaw := Lib.hid hLaw
            clear hLaw
            have hb0 : (pk != pk) = false := by cases pk <;> rfl
            have hb1 : (pn != pn) = false := by simp
            have hb2 : (pd != pd) = false := by simp
            have hb3 : (gm != gm) = false := by cases gm <;> rfl
            go_wp2_with fail
            refine (cI _ S5.x).mono ?_
            rintro e w6 ⟨rfl, hb1⟩
            have S6 := S5.then hb1
            clear S5 hb1 cI
            go_wp2_with fail
            refine (cS _ S6.x).mono ?_
            rintro e w7 ⟨rfl, hb1⟩
            have S7 := S6.then hb1
            clear S6 hb1 cS
            go_wp2_with fail
            refine (cSI _ S7.x).mono ?_
            rintro e w8 ⟨P, pp, rfl, hP, hb1⟩
            have I8 : IntsR w8 w8.heap.size P sl := hP.reads
            have S8 := S7.then hb1
            clear S7 hb1 cSI hP
            go_wp2_with fail
            refine (cSS _ S8.x).mono ?_
            rintro e w9 ⟨P', pp', rfl, hP, hb1⟩
            have J9 : IntsR w9 w9.heap.size P' sl := hP.reads
            have I9 := ints_then I8 hb1
            have S9 := S8.then hb1
            clear S8 hb1 cSS hP I8
            go_wp2_with fail
            refine (rInts_any P P' pp pp' sl w9 I9 J9).mono ?_
            rintro e w10 ⟨rfl, hb1⟩
            have I10 := ints_then I9 hb1
            have S10 := S9.then hb1
            clear S9 hb1 I9 J9 hb0 hb2 hb3
            go_upto_region 43 with fail
            go_cut [255] (fun s255 wx => s255 = .bool false ∧ Below w10.heap.size w10 wx)
            case first => as_aux_lemma =>
              cases pk
              · skip
                refine wp_region_since0 (by kernel_rfl) (by kernel_rfl) ?_
                repeat (any_goals (first | go_big_quiet_step ((fail)) | (refine wpQuiet_step (fun K hK => ?_); go_simp; split <;> (refine hK _ ?_; clear hK K))))
                all_goals (refine wpQuiet_nil ?_; rintro _ ⟨q1, rfl⟩)
                go_wp2_with fail
                go_meet
                case rel => exact ⟨rfl, q1.below⟩
              · obtain ⟨tb, tm, hs, e1, ⟨s0, s1⟩, ⟨c0', c1'⟩, ⟨n0, n1⟩, d0, d1⟩ := HLaw.out rfl
                subst hs
                have hab : (pn * pc2).natAbs ≤ 12000000 * 119988 := by
                  rw [Int.natAbs_mul]; exact Nat.mul_le_mul (by omega) (by omega)
                have hw1 : IntKind.i64.wrap (pn * pc2) = pn * pc2 := IntWalk.i64_in _ (by omega)
                have hw2 : IntKind.i64.wrap (pd * pc1) = pd * pc1 := IntWalk.i64_in _ (by rw [← e1]; omega)
                have hq : (pn * pc2 != pd * pc1) = false := by rw [bne_eq_false_iff_eq]; exact e1
                obtain ⟨b, off, rfl, hb, hcell⟩ := I10.ints (by simp)
                have k1 := hcell 1 (by simp)
                have k2 := hcell 2 (by simp)
                simp only [List.getElem_cons_zero, List.getElem_cons_succ] at k1 k2
                clear hab e1 hcell I10 HLaw s0 s1 c0' c1' n0 n1 d0 d1
                refine wp_region_since0 (by kernel_rfl) (by kernel_rfl) ?_
                repeat (any_goals (first | go_big_quiet_step ((fail)) | (refine wpQuiet_step (fun K hK => ?_); go_simp; split <;> (refine hK _ ?_; clear hK K))))
                all_goals (refine wpQuiet_nil ?_; rintro _ ⟨q1, rfl⟩)
                go_wp2_with fail
                go_meet
                case rel => exact ⟨rfl, q1.below⟩
            case rest => as_aux_lemma =>
              obtain ⟨rfl, hx⟩ := hcut
              have HB := Lib.hid (S10.bl.trans (hx.mono S10.bl.size))
              have hrd : BytesR wc wc.heap.size A bs := SlcR.up HBR.out HB.out (Nat.le_refl _)
              clear hx S10 I10 HLaw
              go_wp2_with fail
              refine (drawStock_any A cap bs wc hrd).mono ?_
              rintro e w0 ⟨l2, A2, c2, z2, rfl, ⟨hz1, hz2⟩, hl2, hx, hb⟩
              have S0 : RT w w0 A2 l2 := ⟨HB.out.trans (hb.mono HB.out.size), hx⟩
              clear hb hx hrd HB
              have cI := fun W h => implStock_any A2 c2 l2 z2 W (by omega) (by omega) h
              have cS := fun W h => specStock_any A2 c2 l2 z2 W (by omega) (by omega) h
              obtain ⟨sr, hsr⟩ : ∃ b, stockR l2 z2 = b := ⟨_, rfl⟩
              obtain ⟨so, hso⟩ : ∃ b, stockOk l2 z2 = b := ⟨_, rfl⟩
              simp only [hsr, hso] at cI cS
              clear hsr hso
              have hbo : (so == so) = true := by cases so <;> rfl
              go_wp2_with fail
              refine (cI _ S0.x).mono ?_
              rintro e w1 ⟨P, pp, rfl, hP, hb1⟩
              have I1 : IntsR w1 w1.heap.size P sr := hP.reads
              have S1 := S0.then hb1
              clear S0 hb1 cI hP
              go_wp2_with fail
              refine (cS _ S1.x).mono ?_
              rintro e w2 ⟨P', pp', rfl, hP, hb1⟩
              have J2 : IntsR w2 w2.heap.size P' sr := hP.reads
              have I2 := ints_then I1 hb1
              have S2 := S1.then hb1
              clear S1 hb1 cS hP I1
              go_wp2_with fail
              refine (rInts_any P P' pp pp' sr w2 I2 J2).mono ?_
              rintro e w3 ⟨rfl, hb1⟩
              have S3 := S2.then hb1
              clear S2 hb1 I2 J2
              go_wp2_with fail
              go_ret
              exact ⟨rfl, S3.bl⟩
end Go.Proofs.Ytpjfidmapnnbkaa
