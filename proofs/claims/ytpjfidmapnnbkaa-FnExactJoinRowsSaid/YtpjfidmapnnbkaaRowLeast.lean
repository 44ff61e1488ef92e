/- Rows of the office: the least start, in the reference and in the program. -/
import Derived.Test.YtpjfidmapnnbkaaRowGood
namespace Go.Proofs.Ytpjfidmapnnbkaa
open Go.RowKit

theorem inR_iff {n lo hi : Int} : inR n lo hi = true ↔ lo ≤ n ∧ n ≤ hi := by simp [inR]
theorem Row.bounds {r : Row} (h : r.ok = true) : (1 ≤ r.m ∧ r.m ≤ 1200) ∧ (0 ≤ r.b ∧ r.b ≤ 9999) ∧ (0 ≤ r.s ∧ r.s ≤ 9999) ∧ (-1000000 ≤ r.c ∧ r.c ≤ 1000000) ∧ (0 ≤ r.l ∧ r.l ≤ 999) := by
  simp only [Row.ok, Bool.and_eq_true, inR_iff] at h
  exact ⟨h.1.1.1.1, h.1.1.1.2, h.1.1.2, h.1.2, h.2⟩
theorem goodFrom_all : ∀ (l : List Row) (n : Nat) (p : Int), goodFrom n p l = true → n + l.length ≤ 12 ∧ ∀ x ∈ l, x.ok = true
  | [], n, p, h => by simp [goodFrom] at h; simpa using h
  | r :: l, n, p, h => by
    simp only [goodFrom, Bool.and_eq_true] at h
    obtain ⟨h1, h2⟩ := goodFrom_all l _ _ h.2
    refine ⟨by simp; omega, fun x hx => ?_⟩
    rcases List.mem_cons.1 hx with rfl | hx
    · exact h.1.1
    · exact h2 x hx
theorem good_len {l : List Row} (h : goodRows l = true) : l.length ≤ 12 := by have := (goodFrom_all l 0 0 h).1; omega
theorem good_at {l : List Row} (h : goodRows l = true) {i : Nat} (hi : i < l.length) : l[i].ok = true := (goodFrom_all l 0 0 h).2 _ (List.getElem_mem hi)

theorem l1Most_any (a b : Int) (w : World) : Calls Try.prog 39 #[.int .i64 a, .int .i64 b] w fun e w' => e = .returned (.int .i64 (max a b)) ∧ w = w' := by
  have h1 : Hid (b < a → max a b = a) := fun h => by omega
  have h2 : Hid (a ≤ b → max a b = b) := fun h => by omega
  go_enter Try.func39, Try.ntmps39
  go_wp2
  · go_ret
    exact ⟨by rw [h1.out (by assumption)]; rfl, rfl⟩
  · go_ret
    exact ⟨by rw [h2.out (by assumption)]; rfl, rfl⟩

def leastFrom : Int → Int → List Row → Int
  | _, need, [] => need
  | now, need, r :: rest => leastFrom (now + r.b - r.s) (max need (-(now + r.b - r.s))) rest
theorem leastFrom_step {l : List Row} {k : Nat} (h : k < l.length) (a b : Int) : leastFrom a b (l.drop k) = leastFrom (a + l[k].b - l[k].s) (max b (-(a + l[k].b - l[k].s))) (l.drop (k + 1)) := by
  rw [List.drop_eq_getElem_cons h]; rfl
def leastStart (l : List Row) : Int := if goodRows l then leastFrom 0 0 l else 0

set_option maxHeartbeats 1000000 in
theorem specLeast_any (A : Option Addr) (c : Nat) (l : List Row) (w : World) (h : RowsR w w.heap.size A l) :
    Calls Try.prog 15 #[.slice A l.length c] w fun e w' => e = .returned (.tuple #[.int .i64 (leastStart l), .bool (goodRows l)]) ∧ Below w.heap.size w w' := by
  have hl := h.big
  have hrd := h.row
  cases hg : goodRows l
  · have HG := Lib.hid hg; clear hg hrd
    have HF : Hid (leastStart l = 0) := by unfold leastStart; rw [HG.out]; rfl
    go_enter Try.func15, Try.ntmps15
    go_wp2_with (go_at_call 29; refine (l31Good_any A c l _ h).mono ?_; rw [HG.out]; rintro e w1 ⟨rfl, hb1⟩)
    go_ret2
    exact ⟨by rw [HF.out]; rfl, hb1⟩
  · have h12 := good_len hg
    have HA : Hid (∀ i (hi : i < l.length), l[i].ok = true) := fun i hi => good_at hg hi
    have HF : Hid (leastFrom 0 0 (l.drop 0) = leastStart l) := by unfold leastStart; rw [hg]; rfl
    have HG := Lib.hid hg; clear hg
    go_enter Try.func15, Try.ntmps15
    go_wp2_with (go_at_call 29; refine (l31Good_any A c l _ h).mono ?_; rw [HG.out]; rintro e w1 ⟨rfl, hb1⟩; obtain ⟨q, rfl⟩ : ∃ q : Since w.heap.size w, w1 = q.val := ⟨⟨w1, hb1⟩, rfl⟩)
    go_loopw [4, 5, 6] (fun a n i wr => ∃ (k : Nat) (now need : Int), k ≤ l.length ∧ i = .int .i64 k ∧ a = .int .i64 now ∧ n = .int .i64 need ∧ (-(9999 * (k : Int)) ≤ now ∧ now ≤ 9999 * (k : Int)) ∧ (0 ≤ need ∧ need ≤ 9999 * (k : Int)) ∧ (∃ q : Since w.heap.size w, wr = q.val) ∧ Hid (leastFrom now need (l.drop k) = leastStart l)) (fun _ _ i _ => l.length - (intOf i).toNat)
    case atStart => exact ⟨0, 0, 0, Nat.zero_le _, rfl, rfl, rfl, by omega, by omega, ⟨q, rfl⟩, HF⟩
    case round =>
      obtain ⟨k, now, need, hk, rfl, rfl, rfl, hnow, hneed, ⟨q, rfl⟩, HR⟩ := hrel
      by_cases hlt : k < l.length
      · obtain ⟨b, off, rfl, hb, hcell⟩ := hrd (by omega)
        obtain ⟨c0, c1, c2, c3, c4⟩ := hcell k hlt
        obtain ⟨_, hxb, hxs, _, _⟩ := Row.bounds (HA.out k hlt)
        have HS : Hid (leastFrom now need (l.drop k) = leastFrom (now + l[k].b - l[k].s) (max need (-(now + l[k].b - l[k].s))) (l.drop (k + 1))) := leastFrom_step hlt _ _
        obtain ⟨x, hxe⟩ : ∃ x, x = l[k] := ⟨_, rfl⟩
        rw [← hxe] at c0 c1 c2 c3 c4 hxb hxs HS
        have HX := Lib.hid hxe; clear hxe hcell hrd
        obtain ⟨b1, b2⟩ := hxb
        obtain ⟨s1, s2⟩ := hxs
        obtain ⟨n1, n2⟩ := hnow
        obtain ⟨m1, m2⟩ := hneed
        go_wp2
        refine wp_region_since _ (by kernel_rfl) (by kernel_rfl) ?_
        repeat (any_goals (first | go_big_quiet_step ((fail)) | (refine wpQuiet_step (fun K hK => ?_); go_simp; split <;> (refine hK _ ?_; clear hK K))))
        all_goals (refine wpQuiet_nil ?_; rintro _ ⟨q1, rfl⟩)
        go_wp2_with (go_at_call 39; refine (l1Most_any _ _ _).mono ?_; rintro e w2 ⟨rfl, rfl⟩)
        go_roundw
        case rel => exact ⟨k + 1, now + x.b - x.s, max need (-(now + x.b - x.s)), by omega, by go_num, rfl, rfl, by omega, by omega, ⟨q1, rfl⟩, by rw [← HS.out]; exact HR.out⟩
        case measure => simp [intOf]; omega
      · have HE : Hid (need = leastStart l) := by
          have h1 := HR.out; rw [List.drop_eq_nil_of_le (by omega)] at h1; exact h1
        clear hrd
        go_wp2
        go_ret2
        exact ⟨by rw [← HE.out]; rfl, q.below⟩

set_option maxHeartbeats 1000000 in
theorem implLeast_any (A : Option Addr) (c : Nat) (l : List Row) (w : World) (h : RowsR w w.heap.size A l) :
    Calls Try.prog 14 #[.slice A l.length c] w fun e w' => e = .returned (.tuple #[.int .i64 (leastStart l), .bool (goodRows l)]) ∧ Below w.heap.size w w' := by
  have hl := h.big
  have hrd := h.row
  cases hg : goodRows l
  · have HG := Lib.hid hg; clear hg hrd
    have HF : Hid (leastStart l = 0) := by unfold leastStart; rw [HG.out]; rfl
    go_enter Try.func14, Try.ntmps14
    go_wp2_with (go_at_call 31; refine (areOfficeRows_any A c l _ h).mono ?_; rw [HG.out]; rintro e w1 ⟨rfl, hb1⟩)
    go_ret2
    exact ⟨by rw [HF.out]; rfl, hb1⟩
  · have h12 := good_len hg
    have HA : Hid (∀ i (hi : i < l.length), l[i].ok = true) := fun i hi => good_at hg hi
    have HF : Hid (leastFrom 0 0 (l.drop 0) = leastStart l) := by unfold leastStart; rw [hg]; rfl
    have HG := Lib.hid hg; clear hg
    go_enter Try.func14, Try.ntmps14
    go_wp2_with (go_at_call 31; refine (areOfficeRows_any A c l _ h).mono ?_; rw [HG.out]; rintro e w1 ⟨rfl, hb1⟩; obtain ⟨q, rfl⟩ : ∃ q : Since w.heap.size w, w1 = q.val := ⟨⟨w1, hb1⟩, rfl⟩)
    go_loopw [4, 5, 13] (fun n a i wr => ∃ (k : Nat) (now need : Int), k ≤ l.length ∧ i = .int .i64 k ∧ a = .int .i64 now ∧ n = .int .i64 need ∧ (-(9999 * (k : Int)) ≤ now ∧ now ≤ 9999 * (k : Int)) ∧ (0 ≤ need ∧ need ≤ 9999 * (k : Int)) ∧ (∃ q : Since w.heap.size w, wr = q.val) ∧ Hid (leastFrom now need (l.drop k) = leastStart l)) (fun _ _ i _ => l.length - (intOf i).toNat)
    case atStart => exact ⟨0, 0, 0, Nat.zero_le _, rfl, rfl, rfl, by omega, by omega, ⟨q, rfl⟩, HF⟩
    case round =>
      obtain ⟨k, now, need, hk, rfl, rfl, rfl, hnow, hneed, ⟨q, rfl⟩, HR⟩ := hrel
      by_cases hlt : k < l.length
      · obtain ⟨b, off, rfl, hb, hcell⟩ := hrd (by omega)
        obtain ⟨c0, c1, c2, c3, c4⟩ := hcell k hlt
        obtain ⟨_, hxb, hxs, _, _⟩ := Row.bounds (HA.out k hlt)
        have HS : Hid (leastFrom now need (l.drop k) = leastFrom (now + l[k].b - l[k].s) (max need (-(now + l[k].b - l[k].s))) (l.drop (k + 1))) := leastFrom_step hlt _ _
        obtain ⟨x, hxe⟩ : ∃ x, x = l[k] := ⟨_, rfl⟩
        rw [← hxe] at c0 c1 c2 c3 c4 hxb hxs HS
        have HX := Lib.hid hxe; clear hxe hcell hrd
        obtain ⟨b1, b2⟩ := hxb
        obtain ⟨s1, s2⟩ := hxs
        obtain ⟨n1, n2⟩ := hnow
        obtain ⟨m1, m2⟩ := hneed
        go_wp2
        go_roundw
        case rel => exact ⟨k + 1, now + x.b - x.s, max need (-(now + x.b - x.s)), by omega, by go_num, congrArg _ (by omega), congrArg _ (by split <;> omega), by omega, by omega, ⟨⟨_, q.below.alloc q.size _⟩, rfl⟩, by rw [← HS.out]; exact HR.out⟩
        case measure => simp [intOf]; omega
      · have HE : Hid (need = leastStart l) := by
          have h1 := HR.out; rw [List.drop_eq_nil_of_le (by omega)] at h1; exact h1
        clear hrd
        go_wp2
        go_ret2
        exact ⟨by rw [← HE.out]; rfl, q.below⟩
end Go.Proofs.Ytpjfidmapnnbkaa
