/- Rows of the office: the best month, in the reference and in the program. -/
import Derived.Test.YtgdjdejfegkjdaaRowGood
namespace Go.Proofs.Ytgdjdejfegkjdaa
open Go.RowKit

def betterRow (b r : Row) : Row := if b.c < r.c then r else b
def bestFrom : Row → List Row → Row
  | b, [] => b
  | b, r :: rest => bestFrom (betterRow b r) rest
/-- The best month of a list that is valid and not empty. -/
def bestMonth : List Row → Int
  | [] => 0
  | r :: rest => (bestFrom r (r :: rest)).m

theorem bestFrom_step {l : List Row} {k : Nat} (h : k < l.length) (b : Row) : bestFrom b (l.drop k) = bestFrom (betterRow b l[k]) (l.drop (k + 1)) := by
  rw [List.drop_eq_getElem_cons h]; rfl
theorem bestMonth_eq {l : List Row} (h : 0 < l.length) : bestMonth l = (bestFrom l[0] (l.drop 0)).m := by
  cases l with
  | nil => simp at h
  | cons r rest => rfl

def bestOk (l : List Row) : Bool := goodRows l && !l.isEmpty

/-- The results where the list is not valid, or empty. -/
theorem specBest_no (A : Option Addr) (c : Nat) (l : List Row) (w : World) (h : RowsR w w.heap.size A l) (hno : bestOk l = false) :
    Calls Try.prog 21 #[.slice A l.length c] w fun e w' => e = .returned (.tuple #[.int .i64 0, .bool false]) ∧ Below w.heap.size w w' := by
  have hl := h.big
  cases hg : goodRows l
  · have HG := Lib.hid hg; clear hg
    go_enter Try.func21, Try.ntmps21
    go_wp2_with (go_at_call 47; refine (l31Good_any A c l _ h).mono ?_; rw [HG.out]; rintro e w1 ⟨rfl, hb1⟩)
    go_ret2
    exact ⟨rfl, hb1⟩
  · have hz : l = [] := by simpa [bestOk, hg] using hno
    have h0 : ((l.length : Int) == 0) = true := by simp [hz]
    have HG := Lib.hid hg; clear hg
    clear hz
    go_enter Try.func21, Try.ntmps21
    go_wp2_with (go_at_call 47; refine (l31Good_any A c l _ h).mono ?_; rw [HG.out]; rintro e w1 ⟨rfl, hb1⟩)
    go_ret2
    exact ⟨rfl, hb1⟩

set_option maxHeartbeats 1000000 in
theorem specBest_yes (A : Option Addr) (c : Nat) (l : List Row) (w : World) (h : RowsR w w.heap.size A l) (hyes : bestOk l = true) :
    Calls Try.prog 21 #[.slice A l.length c] w fun e w' => e = .returned (.tuple #[.int .i64 (bestMonth l), .bool true]) ∧ Below w.heap.size w w' := by
  have hl := h.big
  obtain ⟨hg, hz⟩ : goodRows l = true ∧ 0 < l.length := by
    simp only [bestOk, Bool.and_eq_true, Bool.not_eq_true', List.isEmpty_eq_false_iff] at hyes
    exact ⟨hyes.1, List.length_pos_iff.2 hyes.2⟩
  have h0 : ((l.length : Int) == 0) = false := beq_eq_false_iff_ne.2 (by omega)
  have HG := Lib.hid hg; clear hg hyes
  obtain ⟨b, off, rfl, hb, hcell⟩ := h.row hz
  go_enter Try.func21, Try.ntmps21
  go_wp2_with (go_at_call 47; refine (l31Good_any _ c l _ h).mono ?_; rw [HG.out]; rintro e w1 ⟨rfl, hb1⟩)
  obtain ⟨q, rfl⟩ : ∃ q : Since w.heap.size w, w1 = q.val := ⟨⟨w1, hb1⟩, rfl⟩
  go_loopw [4, 5] (fun bs i wr => ∃ (k j : Nat), k ≤ l.length ∧ i = .int .i64 k ∧ bs = .int .i64 j ∧ (∃ q : Since w.heap.size w, wr = q.val) ∧ ∃ hj : j < l.length, Hid ((bestFrom l[j] (l.drop k)).m = bestMonth l)) (fun _ i _ => l.length - (intOf i).toNat)
  case atStart => exact ⟨0, 0, Nat.zero_le _, rfl, rfl, ⟨q, rfl⟩, hz, (bestMonth_eq hz).symm⟩
  case round =>
    obtain ⟨k, j, hk, rfl, rfl, ⟨q, rfl⟩, hj, HR⟩ := hrel
    by_cases hlt : k < l.length
    · have c3 := (hcell k hlt).c3
      have d3 := (hcell j hj).c3
      have HS : Hid (bestFrom l[j] (l.drop k) = bestFrom (betterRow l[j] l[k]) (l.drop (k + 1))) := bestFrom_step hlt _
      have HC : Hid (∀ i (hi : i < l.length), RowS w.heap.size w b (off + i * 5) l[i]) := hcell
      clear hcell
      obtain ⟨x, hxe⟩ : ∃ x, x = l[k] := ⟨_, rfl⟩
      obtain ⟨y, hye⟩ : ∃ x, x = l[j] := ⟨_, rfl⟩
      rw [← hxe] at c3
      rw [← hye] at d3
      have HX := Lib.hid hxe; clear hxe
      have HY := Lib.hid hye; clear hye
      go_wp2
      refine wp_region_since _ (by kernel_rfl) (by kernel_rfl) ?_
      repeat (any_goals (first | go_big_quiet_step ((fail)) | (refine wpQuiet_step (fun K hK => ?_); go_simp; split <;> (refine hK _ ?_; clear hK K))))
      all_goals (refine wpQuiet_nil ?_; rintro _ ⟨q1, rfl⟩)
      all_goals go_wp2
      · have hm : y.c < x.c := by assumption
        go_roundw
        case rel => exact ⟨k + 1, k, by omega, by go_num, rfl, ⟨q1, rfl⟩, hlt, by have h1 := HR.out; rw [HS.out, betterRow, if_pos (by rw [← HX.out, ← HY.out]; exact hm)] at h1; exact h1⟩
        case measure => simp [intOf]; omega
      · have hm : x.c ≤ y.c := by assumption
        go_roundw
        case rel => exact ⟨k + 1, j, by omega, by go_num, rfl, ⟨q1, rfl⟩, hj, by have h1 := HR.out; rw [HS.out, betterRow, if_neg (by rw [← HX.out, ← HY.out]; omega)] at h1; exact h1⟩
        case measure => simp [intOf]; omega
    · have c0 := (hcell j hj).c0
      have HE : Hid (l[j].m = bestMonth l) := by
        have h1 := HR.out; rw [List.drop_eq_nil_of_le (by omega)] at h1; exact h1
      obtain ⟨y, hye⟩ : ∃ x, x = l[j].m := ⟨_, rfl⟩
      rw [← hye] at c0
      have HY := Lib.hid hye; clear hye
      clear hcell
      go_wp2
      go_ret2
      exact ⟨by rw [← HE.out, ← HY.out]; rfl, q.below⟩

theorem implBest_no (A : Option Addr) (c : Nat) (l : List Row) (w : World) (h : RowsR w w.heap.size A l) (hno : bestOk l = false) :
    Calls Try.prog 22 #[.slice A l.length c] w fun e w' => e = .returned (.tuple #[.int .i64 0, .bool false]) ∧ Below w.heap.size w w' := by
  have hl := h.big
  cases hg : goodRows l
  · have HG := Lib.hid hg; clear hg
    go_enter Try.func22, Try.ntmps22
    go_wp2_with (go_at_call 48; refine (areOfficeRows_any A c l _ h).mono ?_; rw [HG.out]; rintro e w1 ⟨rfl, hb1⟩)
    go_ret2
    exact ⟨rfl, hb1⟩
  · have hz : l = [] := by simpa [bestOk, hg] using hno
    have h0 : ((l.length : Int) == 0) = true := by simp [hz]
    have HG := Lib.hid hg; clear hg
    clear hz
    go_enter Try.func22, Try.ntmps22
    go_wp2_with (go_at_call 48; refine (areOfficeRows_any A c l _ h).mono ?_; rw [HG.out]; rintro e w1 ⟨rfl, hb1⟩)
    go_ret2
    exact ⟨rfl, hb1⟩

set_option maxHeartbeats 1000000 in
theorem implBest_yes (A : Option Addr) (c : Nat) (l : List Row) (w : World) (h : RowsR w w.heap.size A l) (hyes : bestOk l = true) :
    Calls Try.prog 22 #[.slice A l.length c] w fun e w' => e = .returned (.tuple #[.int .i64 (bestMonth l), .bool true]) ∧ Below w.heap.size w w' := by
  have hl := h.big
  obtain ⟨hg, hz⟩ : goodRows l = true ∧ 0 < l.length := by
    simp only [bestOk, Bool.and_eq_true, Bool.not_eq_true', List.isEmpty_eq_false_iff] at hyes
    exact ⟨hyes.1, List.length_pos_iff.2 hyes.2⟩
  have h0 : ((l.length : Int) == 0) = false := beq_eq_false_iff_ne.2 (by omega)
  have HG := Lib.hid hg; clear hg hyes
  obtain ⟨b, off, rfl, hb, hcell⟩ := h.row hz
  have hc0 := hcell 0 hz
  rw [Nat.zero_mul, Nat.add_zero] at hc0
  obtain ⟨c0, c1, c2, c3, c4⟩ := hc0
  obtain ⟨x, hxe⟩ : ∃ x, x = l[0] := ⟨_, rfl⟩
  rw [← hxe] at c0 c1 c2 c3 c4
  have HX := Lib.hid hxe; clear hxe
  have HC : Hid (∀ i (hi : i < l.length), RowS w.heap.size w b (off + i * 5) l[i]) := hcell
  clear hcell
  go_enter Try.func22, Try.ntmps22
  go_wp2_with (go_at_call 48; refine (areOfficeRows_any _ c l _ h).mono ?_; rw [HG.out]; rintro e w1 ⟨rfl, hb1⟩; obtain ⟨q, rfl⟩ : ∃ q : Since w.heap.size w, w1 = q.val := ⟨⟨w1, hb1⟩, rfl⟩)
  have hbW := (q.below.alloc q.size (.cells #[.int .i64 x.m, .int .i64 x.b, .int .i64 x.s, .int .i64 x.c, .int .i64 x.l] 25))
  have hlW := Lies.new q.val 25 #[.int .i64 x.m, .int .i64 x.b, .int .i64 x.s, .int .i64 x.c, .int .i64 x.l]
  have hgW := q.size
  generalize q.val.alloc (.cells #[.int .i64 x.m, .int .i64 x.b, .int .i64 x.s, .int .i64 x.c, .int .i64 x.l] 25) = W at hbW hlW ⊢
  generalize q.val.heap.size = g at hlW hgW ⊢
  clear c0 c1 c2 c3 c4
  go_loopw [20] (fun i wr => ∃ (k : Nat) (y : Row), k ≤ l.length ∧ i = .int .i64 k ∧ Below w.heap.size w wr ∧ Hid (Lies wr g 25 y.enc) ∧ Hid ((bestFrom y (l.drop k)).m = bestMonth l)) (fun i _ => l.length - (intOf i).toNat)
  case atStart => exact ⟨0, x, Nat.zero_le _, rfl, hbW, hlW, by rw [HX.out]; exact (bestMonth_eq hz).symm⟩
  case round =>
    clear hbW hlW
    obtain ⟨k, y, hk, rfl, hbr, HL, HR⟩ := hrel
    by_cases hlt : k < l.length
    · obtain ⟨c0, c1, c2, c3, c4⟩ := HC.out k hlt
      have HS : Hid (bestFrom y (l.drop k) = bestFrom (betterRow y l[k]) (l.drop (k + 1))) := bestFrom_step hlt _
      obtain ⟨z, hze⟩ : ∃ x, x = l[k] := ⟨_, rfl⟩
      rw [← hze] at c0 c1 c2 c3 c4
      have HZ := Lib.hid hze; clear hze
      obtain ⟨q2, rfl⟩ : ∃ q : Since w.heap.size w, wr = q.val := ⟨⟨wr, hbr⟩, rfl⟩
      have e0 := HL.out.cell 0
      have e1 := HL.out.cell 1
      have e2 := HL.out.cell 2
      have e3 := HL.out.cell 3
      have e4 := HL.out.cell 4
      have f0 := HL.out.frozen 0
      have f1 := HL.out.frozen 1
      have f2 := HL.out.frozen 2
      have f3 := HL.out.frozen 3
      have f4 := HL.out.frozen 4
      have hgl := HL.out.lt
      simp only [Row.enc, List.getElem?_cons_zero, List.getElem?_cons_succ] at e0 e1 e2 e3 e4
      go_wp2
      · have hm : y.c < z.c := by assumption
        go_roundw
        case rel => exact ⟨k + 1, z, by omega, by go_num, by go_grown, (((((HL.out.set 0 _).set 1 _).set 2 _).set 3 _).set 4 _).alloc _, by have h1 := HR.out; rw [HS.out, betterRow, if_pos (by rw [← HZ.out]; exact hm), ← HZ.out] at h1; exact h1⟩
        case measure => simp [intOf]; omega
      · have hm : z.c ≤ y.c := by assumption
        go_roundw
        case rel => exact ⟨k + 1, y, by omega, by go_num, by go_grown, HL.out.alloc _, by have h1 := HR.out; rw [HS.out, betterRow, if_neg (by rw [← HZ.out]; omega)] at h1; exact h1⟩
        case measure => simp [intOf]; omega
    · have e0 := HL.out.cell 0
      simp only [Row.enc, List.getElem?_cons_zero] at e0
      have HE : Hid (y.m = bestMonth l) := by
        have h1 := HR.out; rw [List.drop_eq_nil_of_le (by omega)] at h1; exact h1
      go_wp2
      go_ret2
      exact ⟨by rw [← HE.out]; rfl, hbr⟩

/-- The month, whatever the list. -/
def bestM (l : List Row) : Int := if bestOk l then bestMonth l else 0
theorem specBest_any (A : Option Addr) (c : Nat) (l : List Row) (w : World) (h : RowsR w w.heap.size A l) :
    Calls Try.prog 21 #[.slice A l.length c] w fun e w' => e = .returned (.tuple #[.int .i64 (bestM l), .bool (bestOk l)]) ∧ Below w.heap.size w w' := by
  unfold bestM
  cases hb : bestOk l
  · exact specBest_no A c l w h hb
  · exact specBest_yes A c l w h hb
theorem implBest_any (A : Option Addr) (c : Nat) (l : List Row) (w : World) (h : RowsR w w.heap.size A l) :
    Calls Try.prog 22 #[.slice A l.length c] w fun e w' => e = .returned (.tuple #[.int .i64 (bestM l), .bool (bestOk l)]) ∧ Below w.heap.size w w' := by
  unfold bestM
  cases hb : bestOk l
  · exact implBest_no A c l w h hb
  · exact implBest_yes A c l w h hb
end Go.Proofs.Ytgdjdejfegkjdaa
