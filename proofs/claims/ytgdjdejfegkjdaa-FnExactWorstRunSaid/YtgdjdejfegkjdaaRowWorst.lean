/- Rows of the office: the worst run, in the reference and in the program. -/
import Derived.Test.YtgdjdejfegkjdaaRowBest
import Derived.Test.YtgdjdejfegkjdaaRowLeast
namespace Go.Proofs.Ytgdjdejfegkjdaa
open Go.RowKit

abbrev Run := Option (Nat × Nat × Int)
def stepRun (i k : Nat) (sum : Int) : Run → Run
  | none => some (i, k, sum)
  | some (a, b, m) => if sum < m then some (i, k, sum) else some (a, b, m)
def innerRun (i : Nat) : Nat → Int → List Row → Run → Run
  | _, _, [], st => st
  | k, sum, r :: rest, st => innerRun i (k + 1) (sum + r.c) rest (stepRun i k (sum + r.c) st)
def outerRun : Nat → List Row → Run → Run
  | _, [], st => st
  | i, r :: rest, st => outerRun (i + 1) rest (innerRun i i 0 (r :: rest) st)
theorem inner_step {l : List Row} {k : Nat} (h : k < l.length) (i : Nat) (sum : Int) (st : Run) : innerRun i k sum (l.drop k) st = innerRun i (k + 1) (sum + l[k].c) (l.drop (k + 1)) (stepRun i k (sum + l[k].c) st) := by
  rw [List.drop_eq_getElem_cons h]; rfl
theorem outer_step {l : List Row} {i : Nat} (h : i < l.length) (st : Run) : outerRun i (l.drop i) st = outerRun (i + 1) (l.drop (i + 1)) (innerRun i i 0 (l.drop i) st) := by
  rw [List.drop_eq_getElem_cons h]; rfl
theorem outer_start {l : List Row} (h : 0 < l.length) : outerRun 0 l (some (0, 0, l[0].c)) = outerRun 0 l none := by
  cases l with
  | nil => simp at h
  | cons r rest => simp [outerRun, innerRun, stepRun]

/-- A state of the search, within a list. -/
def runIn (l : List Row) (st : Run) : Prop := match st with | none => True | some (a, b, _) => a < l.length ∧ b < l.length
theorem runIn_step {l : List Row} {i k : Nat} {sum : Int} {st : Run} (hi : i < l.length) (hk : k < l.length) (h : runIn l st) : runIn l (stepRun i k sum st) := by
  cases st with
  | none => exact ⟨hi, hk⟩
  | some x =>
    obtain ⟨a, b, m⟩ := x
    by_cases hm : sum < m
    · simp only [stepRun, if_pos hm]; exact ⟨hi, hk⟩
    · simp only [stepRun, if_neg hm]; exact h
def fromOf (l : List Row) : Run → Int | none => 0 | some (a, _, _) => (l[a]?.map (·.m)).getD 0
def untilOf (l : List Row) : Run → Int | none => 0 | some (_, b, _) => (l[b]?.map (·.m)).getD 0
def leastOf : Run → Int | none => 0 | some (_, _, m) => m
def worstRun (l : List Row) : Run := if bestOk l then outerRun 0 l none else none
abbrev worstVal (l : List Row) : Value := .tuple #[.int .i64 (fromOf l (worstRun l)), .int .i64 (untilOf l (worstRun l)), .int .i64 (leastOf (worstRun l)), .bool (bestOk l)]

theorem specWorst_no (A : Option Addr) (c : Nat) (l : List Row) (w : World) (h : RowsR w w.heap.size A l) (hno : bestOk l = false) :
    Calls Try.prog 25 #[.slice A l.length c] w fun e w' => e = .returned (.tuple #[.int .i64 0, .int .i64 0, .int .i64 0, .bool false]) ∧ Below w.heap.size w w' := by
  have hl := h.big
  cases hg : goodRows l
  · have HG := Lib.hid hg; clear hg
    go_enter Try.func25, Try.ntmps25
    go_wp2_with (go_at_call 47; refine (l31Good_any A c l _ h).mono ?_; rw [HG.out]; rintro e w1 ⟨rfl, hb1⟩)
    refine bodyPost_ret (results_four rfl _ _ _) rfl ⟨rfl, hb1⟩
  · have hz : l = [] := by simpa [bestOk, hg] using hno
    have h0 : ((l.length : Int) == 0) = true := by simp [hz]
    have HG := Lib.hid hg; clear hg
    clear hz
    go_enter Try.func25, Try.ntmps25
    go_wp2_with (go_at_call 47; refine (l31Good_any A c l _ h).mono ?_; rw [HG.out]; rintro e w1 ⟨rfl, hb1⟩)
    refine bodyPost_ret (results_four rfl _ _ _) rfl ⟨rfl, hb1⟩

set_option maxHeartbeats 2000000 in
theorem specWorst_yes (A : Option Addr) (c : Nat) (l : List Row) (w : World) (h : RowsR w w.heap.size A l) (hyes : bestOk l = true) :
    Calls Try.prog 25 #[.slice A l.length c] w fun e w' => e = .returned (worstVal l) ∧ Below w.heap.size w w' := by
  have hl := h.big
  have HF : Hid (outerRun 0 (l.drop 0) none = worstRun l) := by unfold worstRun; rw [hyes]; rfl
  have HY : Hid (bestOk l = true) := hyes
  obtain ⟨hg, hz⟩ : goodRows l = true ∧ 0 < l.length := by
    simp only [bestOk, Bool.and_eq_true, Bool.not_eq_true', List.isEmpty_eq_false_iff] at hyes
    exact ⟨hyes.1, List.length_pos_iff.2 hyes.2⟩
  have h0 : ((l.length : Int) == 0) = false := beq_eq_false_iff_ne.2 (by omega)
  have h12 := good_len hg
  have HA : Hid (∀ i (hi : i < l.length), l[i].ok = true) := fun i hi => good_at hg hi
  have HG := Lib.hid hg; clear hg hyes
  obtain ⟨b, off, rfl, hb, hcell⟩ := h.row hz
  have HC : Hid (∀ i (hi : i < l.length), RowS w.heap.size w b (off + i * 5) l[i]) := hcell
  clear hcell
  go_enter Try.func25, Try.ntmps25
  go_wp2_with (go_at_call 47; refine (l31Good_any _ c l _ h).mono ?_; rw [HG.out]; rintro e w1 ⟨rfl, hb1⟩)
  go_loopw [6, 7, 8, 9] (fun f u m i wr => ∃ (k : Nat) (st : Run), k ≤ l.length ∧ i = .int .i64 k ∧ f = .int .i64 (fromOf l st) ∧ u = .int .i64 (untilOf l st) ∧ m = .int .i64 (leastOf st) ∧ runIn l st ∧ Below w.heap.size w wr ∧ Hid (outerRun k (l.drop k) st = worstRun l)) (fun _ _ _ i _ => l.length - (intOf i).toNat)
  case atStart => exact ⟨0, none, Nat.zero_le _, rfl, rfl, rfl, rfl, trivial, hb1, HF⟩
  case round =>
    clear hb1
    obtain ⟨i, st, hi, rfl, rfl, rfl, rfl, hst, hbr, HR⟩ := hrel
    by_cases hlt : i < l.length
    · have HS : Hid (outerRun i (l.drop i) st = outerRun (i + 1) (l.drop (i + 1)) (innerRun i i 0 (l.drop i) st)) := outer_step hlt st
      obtain ⟨ST, hST⟩ : ∃ x, x = innerRun i i 0 (l.drop i) st := ⟨_, rfl⟩
      rw [← hST] at HS
      have HT : Hid (innerRun i i 0 (l.drop i) st = ST) := hST.symm
      clear hST
      have di := (HC.out i hlt).c0
      go_wp2
      go_loopw [6, 7, 8, 10, 11] (fun f u m s kk wr => ∃ (k : Nat) (sum : Int) (st : Run), k ≤ l.length ∧ i ≤ k ∧ kk = .int .i64 k ∧ s = .int .i64 sum ∧ f = .int .i64 (fromOf l st) ∧ u = .int .i64 (untilOf l st) ∧ m = .int .i64 (leastOf st) ∧ runIn l st ∧ -(1000000 * (k : Int)) ≤ sum ∧ sum ≤ 1000000 * (k : Int) ∧ Below w.heap.size w wr ∧ Hid (innerRun i k sum (l.drop k) st = ST)) (fun _ _ _ _ kk _ => l.length - (intOf kk).toNat)
      case atStart => exact ⟨i, 0, st, hi, Nat.le_refl _, rfl, rfl, rfl, rfl, rfl, hst, by omega, by omega, hbr, HT⟩
      case round =>
        clear hst hbr HT
        obtain ⟨k, sum, st, hk, hik, rfl, rfl, rfl, rfl, rfl, hst, hs1, hs2, hbr, HT⟩ := hrel
        by_cases hlk : k < l.length
        · obtain ⟨q, rfl⟩ : ∃ q : Since w.heap.size w, wr = q.val := ⟨⟨wr, hbr⟩, rfl⟩
          have HI : Hid (innerRun i k sum (l.drop k) st = innerRun i (k + 1) (sum + l[k].c) (l.drop (k + 1)) (stepRun i k (sum + l[k].c) st)) := inner_step hlk i sum st
          have hin := runIn_step (sum := sum + l[k].c) hlt hlk hst
          have dk := (HC.out k hlk).c0
          have ck := (HC.out k hlk).c3
          have hkc := (Row.bounds (HA.out k hlk)).2.2.2.1
          have HD : Hid (fromOf l (some (i, k, sum + l[k].c)) = l[i].m ∧ untilOf l (some (i, k, sum + l[k].c)) = l[k].m ∧ leastOf (some (i, k, sum + l[k].c)) = sum + l[k].c) := by
            simp [Hid, fromOf, untilOf, leastOf, hlt, hlk]
          obtain ⟨xm, hxm⟩ : ∃ x, x = l[i].m := ⟨_, rfl⟩
          obtain ⟨ym, hym⟩ : ∃ x, x = l[k].m := ⟨_, rfl⟩
          obtain ⟨yc, hyc⟩ : ∃ x, x = l[k].c := ⟨_, rfl⟩
          rw [← hxm] at di HD
          rw [← hym] at dk HD
          rw [← hyc] at ck HD HI hin hkc
          clear hxm hym hyc
          obtain ⟨kc1, kc2⟩ := hkc
          cases st with
          | none =>
            have e0 : fromOf l none = 0 := rfl
            have e1 : leastOf none = 0 := rfl
            have e2 : untilOf l none = 0 := rfl
            rw [e0, e1, e2]
            clear e0 e1 e2
            go_wp2
            go_roundw
            case rel => exact ⟨k + 1, sum + yc, some (i, k, sum + yc), by omega, by omega, by go_num, rfl, by rw [HD.out.1], by rw [HD.out.2.1], by rw [HD.out.2.2], hin, by omega, by omega, q.below, Lib.hid (by rw [← HT.out, HI.out]; rfl)⟩
            case measure => simp [intOf]; omega
          | some t =>
            obtain ⟨a, b', m⟩ := t
            have hf0 : ((fromOf l (some (a, b', m))) == 0) = false := by
              obtain ⟨ha, _⟩ := hst
              have := (Row.bounds (HA.out a ha)).1
              simp [fromOf, ha]; omega
            have e1 : leastOf (some (a, b', m)) = m := rfl
            rw [e1]
            obtain ⟨ff, hff⟩ : ∃ x, x = fromOf l (some (a, b', m)) := ⟨_, rfl⟩
            obtain ⟨uu, huu⟩ : ∃ x, x = untilOf l (some (a, b', m)) := ⟨_, rfl⟩
            rw [← hff, ← huu]
            rw [← hff] at hf0
            have HF1 := Lib.hid hff; clear hff
            have HU1 := Lib.hid huu; clear huu
            clear e1 hst
            by_cases hm : sum + yc < m
            · have HM : Hid (stepRun i k (sum + yc) (some (a, b', m)) = some (i, k, sum + yc)) := by simp [Hid, stepRun, hm]
              go_wp2
              go_roundw
              case rel => exact ⟨k + 1, sum + yc, some (i, k, sum + yc), by omega, by omega, by go_num, rfl, by rw [HD.out.1], by rw [HD.out.2.1], by rw [HD.out.2.2], by rw [← HM.out]; exact hin, by omega, by omega, q.below, Lib.hid (by rw [← HT.out, HI.out, HM.out])⟩
              case measure => simp [intOf]; omega
            · have HM : Hid (stepRun i k (sum + yc) (some (a, b', m)) = some (a, b', m)) := by simp [Hid, stepRun, hm]
              go_wp2
              go_roundw
              case rel => exact ⟨k + 1, sum + yc, some (a, b', m), by omega, by omega, by go_num, rfl, by rw [HF1.out], by rw [HU1.out], rfl, by rw [← HM.out]; exact hin, by omega, by omega, q.below, Lib.hid (by rw [← HT.out, HI.out, HM.out])⟩
              case measure => simp [intOf]; omega
        · have HE : Hid (st = ST) := by
            have h1 := HT.out; rw [List.drop_eq_nil_of_le (by omega)] at h1; exact h1
          go_wp2
          go_roundw
          case rel => exact ⟨i + 1, st, by omega, by go_num, rfl, rfl, rfl, hst, hbr, Lib.hid (by rw [← HR.out, HS.out, HE.out])⟩
          case measure => simp [intOf]; omega
    · have HE : Hid (st = worstRun l) := by
        have h1 := HR.out; rw [List.drop_eq_nil_of_le (by omega)] at h1; exact h1
      go_wp2
      refine bodyPost_ret (results_four rfl _ _ _) rfl ⟨?_, hbr⟩
      unfold worstVal
      rw [← HE.out, HY.out]; rfl

theorem implWorst_no (A : Option Addr) (c : Nat) (l : List Row) (w : World) (h : RowsR w w.heap.size A l) (hno : bestOk l = false) :
    Calls Try.prog 26 #[.slice A l.length c] w fun e w' => e = .returned (.tuple #[.int .i64 0, .int .i64 0, .int .i64 0, .bool false]) ∧ Below w.heap.size w w' := by
  have hl := h.big
  cases hg : goodRows l
  · have HG := Lib.hid hg; clear hg
    go_enter Try.func26, Try.ntmps26
    go_wp2_with (go_at_call 48; refine (areOfficeRows_any A c l _ h).mono ?_; rw [HG.out]; rintro e w1 ⟨rfl, hb1⟩)
    refine bodyPost_ret (results_four rfl _ _ _) rfl ⟨rfl, hb1⟩
  · have hz : l = [] := by simpa [bestOk, hg] using hno
    have h0 : ((l.length : Int) == 0) = true := by simp [hz]
    have HG := Lib.hid hg; clear hg
    clear hz
    go_enter Try.func26, Try.ntmps26
    go_wp2_with (go_at_call 48; refine (areOfficeRows_any A c l _ h).mono ?_; rw [HG.out]; rintro e w1 ⟨rfl, hb1⟩)
    refine bodyPost_ret (results_four rfl _ _ _) rfl ⟨rfl, hb1⟩

def idxA : Run → Nat | none => 0 | some (a, _, _) => a
def idxB : Run → Nat | none => 0 | some (_, b, _) => b
def isRun : Run → Bool | none => false | some _ => true
theorem isRun_step (i k : Nat) (s : Int) (st : Run) : isRun (stepRun i k s st) = true := by
  cases st with
  | none => rfl
  | some t =>
    obtain ⟨a, b, m⟩ := t
    by_cases h : s < m
    · simp [stepRun, h, isRun]
    · simp [stepRun, h, isRun]

set_option maxHeartbeats 2000000 in
theorem implWorst_yes (A : Option Addr) (c : Nat) (l : List Row) (w : World) (h : RowsR w w.heap.size A l) (hyes : bestOk l = true) :
    Calls Try.prog 26 #[.slice A l.length c] w fun e w' => e = .returned (worstVal l) ∧ Below w.heap.size w w' := by
  have hl := h.big
  have HY : Hid (bestOk l = true) := hyes
  obtain ⟨hg, hz⟩ : goodRows l = true ∧ 0 < l.length := by
    simp only [bestOk, Bool.and_eq_true, Bool.not_eq_true', List.isEmpty_eq_false_iff] at hyes
    exact ⟨hyes.1, List.length_pos_iff.2 hyes.2⟩
  have HF : Hid (outerRun 0 (l.drop 0) (some (0, 0, l[0].c)) = worstRun l) := by unfold worstRun; rw [hyes]; exact outer_start hz
  have h0 : ((l.length : Int) == 0) = false := beq_eq_false_iff_ne.2 (by omega)
  have h12 := good_len hg
  have HA : Hid (∀ i (hi : i < l.length), l[i].ok = true) := fun i hi => good_at hg hi
  have HG := Lib.hid hg; clear hg hyes
  obtain ⟨b, off, rfl, hb, hcell⟩ := h.row hz
  have HC : Hid (∀ i (hi : i < l.length), RowS w.heap.size w b (off + i * 5) l[i]) := hcell
  have c0 := (hcell 0 hz).c3
  rw [Nat.zero_mul, Nat.add_zero] at c0
  clear hcell
  obtain ⟨z, hz0⟩ : ∃ x, x = l[0].c := ⟨_, rfl⟩
  rw [← hz0] at c0 HF
  have hz1 := (Row.bounds (HA.out 0 hz)).2.2.2.1
  rw [← hz0] at hz1
  clear hz0
  obtain ⟨z1, z2⟩ := hz1
  go_enter Try.func26, Try.ntmps26
  go_wp2_with (go_at_call 48; refine (areOfficeRows_any _ c l _ h).mono ?_; rw [HG.out]; rintro e w1 ⟨rfl, hb1⟩; obtain ⟨q0, rfl⟩ : ∃ q : Since w.heap.size w, w1 = q.val := ⟨⟨w1, hb1⟩, rfl⟩)
  refine wp_region_since _ (by kernel_rfl) (by kernel_rfl) ?_
  repeat (any_goals (first | go_big_quiet_step ((fail)) | (refine wpQuiet_step (fun K hK => ?_); go_simp; split <;> (refine hK _ ?_; clear hK K))))
  all_goals (refine wpQuiet_nil ?_; rintro _ ⟨q1, rfl⟩)
  go_wp2
  have hb1 := q1.below
  go_loopw [6, 7, 8, 26] (fun f u m i wr => ∃ (k a b' : Nat) (mm : Int), k ≤ l.length ∧ i = .int .i64 k ∧ f = .int .i64 a ∧ u = .int .i64 b' ∧ m = .int .i64 mm ∧ (a < l.length ∧ b' < l.length) ∧ Below w.heap.size w wr ∧ Hid (outerRun k (l.drop k) (some (a, b', mm)) = worstRun l)) (fun _ _ _ i _ => l.length - (intOf i).toNat)
  case atStart => exact ⟨0, 0, 0, z, Nat.zero_le _, rfl, rfl, rfl, rfl, ⟨hz, hz⟩, hb1, HF⟩
  case round =>
    clear hb1
    obtain ⟨i, a, b', mm, hi, rfl, rfl, rfl, rfl, hst, hbr, HR⟩ := hrel
    by_cases hlt : i < l.length
    · have HS : Hid (outerRun i (l.drop i) (some (a, b', mm)) = outerRun (i + 1) (l.drop (i + 1)) (innerRun i i 0 (l.drop i) (some (a, b', mm)))) := outer_step hlt _
      obtain ⟨ST, hST⟩ : ∃ x, x = innerRun i i 0 (l.drop i) (some (a, b', mm)) := ⟨_, rfl⟩
      rw [← hST] at HS
      have HT : Hid (innerRun i i 0 (l.drop i) (some (a, b', mm)) = ST) := hST.symm
      clear hST
      obtain ⟨ha, hb'⟩ := hst
      go_wp2
      go_loopw [6, 7, 8, 10, 11] (fun f u m s kk wr => ∃ (k : Nat) (sum : Int) (a b' : Nat) (mm : Int), k ≤ l.length ∧ i ≤ k ∧ kk = .int .i64 k ∧ s = .int .i64 sum ∧ f = .int .i64 a ∧ u = .int .i64 b' ∧ m = .int .i64 mm ∧ (a < l.length ∧ b' < l.length) ∧ -(1000000 * (k : Int)) ≤ sum ∧ sum ≤ 1000000 * (k : Int) ∧ Below w.heap.size w wr ∧ Hid (innerRun i k sum (l.drop k) (some (a, b', mm)) = ST)) (fun _ _ _ _ kk _ => l.length - (intOf kk).toNat)
      case atStart => exact ⟨i, 0, a, b', mm, hi, Nat.le_refl _, rfl, rfl, rfl, rfl, rfl, ⟨ha, hb'⟩, by omega, by omega, hbr, HT⟩
      case round =>
        clear ha hb' hbr HT
        obtain ⟨k, sum, a, b', m, hk, hik, rfl, rfl, rfl, rfl, rfl, hst, hs1, hs2, hbr, HT⟩ := hrel
        by_cases hlk : k < l.length
        · obtain ⟨q, rfl⟩ : ∃ q : Since w.heap.size w, wr = q.val := ⟨⟨wr, hbr⟩, rfl⟩
          have HI : Hid (innerRun i k sum (l.drop k) (some (a, b', m)) = innerRun i (k + 1) (sum + l[k].c) (l.drop (k + 1)) (stepRun i k (sum + l[k].c) (some (a, b', m)))) := inner_step hlk i sum _
          have ck := (HC.out k hlk).c3
          have hkc := (Row.bounds (HA.out k hlk)).2.2.2.1
          obtain ⟨yc, hyc⟩ : ∃ x, x = l[k].c := ⟨_, rfl⟩
          rw [← hyc] at ck HI hkc
          clear hyc
          obtain ⟨kc1, kc2⟩ := hkc
          obtain ⟨ha, hb'⟩ := hst
          by_cases hm : sum + yc < m
          · have HM : Hid (stepRun i k (sum + yc) (some (a, b', m)) = some (i, k, sum + yc)) := by simp [Hid, stepRun, hm]
            go_wp2
            go_roundw
            case rel => exact ⟨k + 1, sum + yc, i, k, sum + yc, by omega, by omega, by go_num, rfl, rfl, rfl, rfl, ⟨hlt, hlk⟩, by omega, by omega, q.below, Lib.hid (by rw [← HT.out, HI.out, HM.out])⟩
            case measure => simp [intOf]; omega
          · have HM : Hid (stepRun i k (sum + yc) (some (a, b', m)) = some (a, b', m)) := by simp [Hid, stepRun, hm]
            go_wp2
            go_roundw
            case rel => exact ⟨k + 1, sum + yc, a, b', m, by omega, by omega, by go_num, rfl, rfl, rfl, rfl, ⟨ha, hb'⟩, by omega, by omega, q.below, Lib.hid (by rw [← HT.out, HI.out, HM.out])⟩
            case measure => simp [intOf]; omega
        · have HE : Hid (some (a, b', m) = ST) := by
            have h1 := HT.out; rw [List.drop_eq_nil_of_le (by omega)] at h1; exact h1
          go_wp2
          go_roundw
          case rel => exact ⟨i + 1, a, b', m, by omega, by go_num, rfl, rfl, rfl, hst, hbr, Lib.hid (by rw [← HR.out, HS.out, HE.out])⟩
          case measure => simp [intOf]; omega
    · have HE : Hid (some (a, b', mm) = worstRun l) := by
        have h1 := HR.out; rw [List.drop_eq_nil_of_le (by omega)] at h1; exact h1
      obtain ⟨ha, hb'⟩ := hst
      have d0 := (HC.out a ha).c0
      have e0 := (HC.out b' hb').c0
      have HD : Hid (fromOf l (some (a, b', mm)) = l[a].m ∧ untilOf l (some (a, b', mm)) = l[b'].m) := by
        simp [Hid, fromOf, untilOf, ha, hb']
      obtain ⟨xm, hxm⟩ : ∃ x, x = l[a].m := ⟨_, rfl⟩
      obtain ⟨ym, hym⟩ : ∃ x, x = l[b'].m := ⟨_, rfl⟩
      rw [← hxm] at d0 HD
      rw [← hym] at e0 HD
      clear hxm hym
      obtain ⟨q, rfl⟩ : ∃ q : Since w.heap.size w, wr = q.val := ⟨⟨wr, hbr⟩, rfl⟩
      go_wp2
      refine wp_region_since _ (by kernel_rfl) (by kernel_rfl) ?_
      repeat (any_goals (first | go_big_quiet_step ((fail)) | (refine wpQuiet_step (fun K hK => ?_); go_simp; split <;> (refine hK _ ?_; clear hK K))))
      all_goals (refine wpQuiet_nil ?_; rintro _ ⟨q1, rfl⟩)
      go_wp2
      refine bodyPost_ret (results_four rfl _ _ _) rfl ⟨?_, q1.below⟩
      unfold worstVal
      rw [← HE.out, HY.out, HD.out.1, HD.out.2]; rfl

theorem specWorst_any (A : Option Addr) (c : Nat) (l : List Row) (w : World) (h : RowsR w w.heap.size A l) :
    Calls Try.prog 25 #[.slice A l.length c] w fun e w' => e = .returned (worstVal l) ∧ Below w.heap.size w w' := by
  cases hb : bestOk l
  · refine (specWorst_no A c l w h hb).mono fun e w' ⟨he, hw⟩ => ⟨?_, hw⟩
    rw [he]; unfold worstVal; simp [worstRun, hb, fromOf, untilOf, leastOf]
  · exact specWorst_yes A c l w h hb
theorem implWorst_any (A : Option Addr) (c : Nat) (l : List Row) (w : World) (h : RowsR w w.heap.size A l) :
    Calls Try.prog 26 #[.slice A l.length c] w fun e w' => e = .returned (worstVal l) ∧ Below w.heap.size w w' := by
  cases hb : bestOk l
  · refine (implWorst_no A c l w h hb).mono fun e w' ⟨he, hw⟩ => ⟨?_, hw⟩
    rw [he]; unfold worstVal; simp [worstRun, hb, fromOf, untilOf, leastOf]
  · exact implWorst_yes A c l w h hb
end Go.Proofs.Ytgdjdejfegkjdaa
