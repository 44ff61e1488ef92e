/- Lists of ints that ascend. -/
import Derived.Test.YtjdedcalbcnkmaaInts
namespace Go.Proofs.Ytjdedcalbcnkmaa
open Go.RowKit

def inR (n lo hi : Int) : Bool := decide (lo ≤ n) && decide (n ≤ hi)
theorem inR_iff {n lo hi : Int} : inR n lo hi = true ↔ lo ≤ n ∧ n ≤ hi := by simp [inR]
theorem l1In_any (n lo hi : Int) (w : World) : Calls Try.prog 47 #[.int .i64 n, .int .i64 lo, .int .i64 hi] w fun e w' => e = .returned (.bool (inR n lo hi)) ∧ w = w' := by
  go_enter Try.func47, Try.ntmps47
  go_wp2
  all_goals (go_ret; exact ⟨by simp [inR, *]; try omega, rfl⟩)
theorem inRange_any (n lo hi : Int) (w : World) : Calls Try.prog 48 #[.int .i64 n, .int .i64 lo, .int .i64 hi] w fun e w' => e = .returned (.bool (inR n lo hi)) ∧ w = w' := by
  go_enter Try.func48, Try.ntmps48
  go_wp2
  all_goals (go_ret; exact ⟨by simp [inR, *]; try omega, rfl⟩)

/-- The rest of a list ascends behind the number p. -/
def ascFrom : Int → List Int → Bool
  | _, [] => true
  | p, x :: l => decide (p < x) && ascFrom x l
def asc : List Int → Bool
  | [] => true
  | x :: l => ascFrom x l
def riseFrom (lo hi : Int) : Nat → Int → List Int → Bool
  | _, _, [] => true
  | n, p, x :: l => inR x lo hi && (decide (n = 0) || decide (p < x)) && riseFrom lo hi (n + 1) x l
def rises (lo hi : Int) (l : List Int) : Bool := riseFrom lo hi 0 0 l
theorem riseFrom_eq (lo hi : Int) : ∀ (l : List Int) (n : Nat) (p : Int), riseFrom lo hi (n + 1) p l = (ascFrom p l && l.all fun x => inR x lo hi)
  | [], _, _ => rfl
  | x :: l, n, p => by
    rw [riseFrom, riseFrom_eq lo hi l (n + 1) x, ascFrom, List.all_cons]
    cases inR x lo hi <;> cases decide (p < x) <;> simp
theorem rises_eq (lo hi : Int) : ∀ l : List Int, rises lo hi l = (asc l && l.all fun x => inR x lo hi)
  | [] => rfl
  | x :: l => by
    unfold rises
    rw [riseFrom, riseFrom_eq lo hi l 0 x, asc, List.all_cons]
    cases inR x lo hi <;> simp

set_option maxHeartbeats 1000000 in
theorem l1Rising_any (A : Option Addr) (c : Nat) (l : List Int) (lo hi : Int) (w : World) (h : IntsR w w.heap.size A l) :
    Calls Try.prog 65 #[.slice A l.length c, .int .i64 lo, .int .i64 hi] w fun e w' => e = .returned (.bool (rises lo hi l)) ∧ Below w.heap.size w w' := by
  have hl := h.big
  have hrd := h.ints
  go_enter Try.func65, Try.ntmps65
  go_wp2
  go_loopw [7] (fun i wr => ∃ (k : Nat) (prev : Int), k ≤ l.length ∧ i = .int .i64 k ∧ (∃ q : Since w.heap.size w, wr = q.val) ∧ Hid (riseFrom lo hi k prev (l.drop k) = rises lo hi l) ∧ Hid (∀ (_hk : 0 < k) (h' : k - 1 < l.length), prev = l[k - 1])) (fun i _ => l.length - (intOf i).toNat)
  case atStart => exact ⟨0, 0, Nat.zero_le _, rfl, ⟨Since.start _ _, rfl⟩, rfl, fun h => absurd h (by omega)⟩
  case round =>
    obtain ⟨k, prev, hk, rfl, ⟨q, rfl⟩, HR, HP⟩ := hrel
    by_cases hlt : k < l.length
    · obtain ⟨b, off, rfl, hb, hcell⟩ := hrd (by omega)
      have c0 := hcell k hlt
      have HC : Hid (0 < k → ∀ p : Since w.heap.size w, p.val.cell? ⟨b, off + (k - 1), none⟩ = some (.int .i64 prev)) := fun h p => by
        rw [HP.out h (by omega)]; exact hcell (k - 1) (by omega) p
      obtain ⟨x, hxe⟩ : ∃ x, x = l[k] := ⟨_, rfl⟩
      rw [← hxe] at c0
      have HX := Lib.hid hxe; clear hxe
      clear hcell hrd
      have hstep : Hid (riseFrom lo hi k prev (l.drop k) = (inR x lo hi && (decide (k = 0) || decide (prev < x)) && riseFrom lo hi (k + 1) x (l.drop (k + 1)))) := by
        rw [List.drop_eq_getElem_cons hlt, HX.out]; rfl
      have HN : Hid (∀ (_hk : 0 < k + 1) (h' : k + 1 - 1 < l.length), x = l[k + 1 - 1]) := fun _ h' => by rw [HX.out]; rfl
      obtain ⟨v, hv⟩ : ∃ v, inR x lo hi = v := ⟨_, rfl⟩
      have HV := Lib.hid hv; clear hv
      rcases Nat.eq_zero_or_pos k with h0 | h0
      · have hd : decide (0 < k) = false := decide_eq_false (by omega)
        have H0 := Lib.hid h0; clear h0
        cases v
        all_goals
          go_wp2
          refine wp_region_since _ (by kernel_rfl) (by kernel_rfl) ?_
          repeat (any_goals (first | go_big_quiet_step ((go_at_call 47; refine calls_sameB HV (l1In_any x _ _ _))) | (refine wpQuiet_step (fun K hK => ?_); go_simp; split <;> (refine hK _ ?_; clear hK K))))
          all_goals (refine wpQuiet_nil ?_; rintro _ ⟨q1, rfl⟩)
          all_goals go_wp2
        · go_ret
          refine ⟨?_, q1.below⟩
          rw [← HR.out, hstep.out, HV.out]; rfl
        · go_roundw
          case rel => exact ⟨k + 1, x, by omega, by go_num, ⟨q1, rfl⟩, by have h1 := HR.out; rw [hstep.out, HV.out, decide_eq_true H0.out] at h1; exact h1, HN⟩
          case measure => simp [intOf]; omega
      · have c5 := HC.out h0
        have h0' : (0 : Int) < (k : Int) := by omega
        cases v
        all_goals
          go_wp2
          refine wp_region_since _ (by kernel_rfl) (by kernel_rfl) ?_
          repeat (any_goals (first | go_big_quiet_step ((go_at_call 47; refine calls_sameB HV (l1In_any x _ _ _))) | (refine wpQuiet_step (fun K hK => ?_); go_simp; split <;> (refine hK _ ?_; clear hK K))))
          all_goals (refine wpQuiet_nil ?_; rintro _ ⟨q1, rfl⟩)
          all_goals go_wp2
        · go_ret
          refine ⟨?_, q1.below⟩
          rw [← HR.out, hstep.out, HV.out]; rfl
        · go_ret
          refine ⟨?_, q1.below⟩
          have hm : x ≤ prev := by assumption
          rw [← HR.out, hstep.out, HV.out, decide_eq_false (by omega : ¬ k = 0), decide_eq_false (by omega : ¬ prev < x)]; rfl
        · have hm : prev < x := by assumption
          go_roundw
          case rel => exact ⟨k + 1, x, by omega, by go_num, ⟨q1, rfl⟩, by have h1 := HR.out; rw [hstep.out, HV.out, decide_eq_true hm, Bool.or_true] at h1; exact h1, HN⟩
          case measure => simp [intOf]; omega
    · clear hrd
      go_wp2
      go_ret
      refine ⟨?_, q.below⟩
      rw [← HR.out, List.drop_eq_nil_of_le (by omega)]; rfl

set_option maxHeartbeats 1000000 in
theorem ascending_any (A : Option Addr) (c : Nat) (l : List Int) (w : World) (h : IntsR w w.heap.size A l) :
    Calls Try.prog 66 #[.slice A l.length c] w fun e w' => e = .returned (.bool (asc l)) ∧ Below w.heap.size w w' := by
  have hl := h.big
  have hrd := h.ints
  cases l with
  | nil =>
    go_enter Try.func66, Try.ntmps66
    go_wp2
    refine wp_loop_rounds 1 ?_
    rw [rounds_succ]
    go_wp2
    go_ret
    exact ⟨rfl, Below.refl _ _⟩
  | cons y l =>
    have hF : Hid (ascFrom y ((y :: l).drop 1) = asc (y :: l)) := rfl
    have hy : Hid (∀ h' : 1 - 1 < (y :: l).length, y = (y :: l)[1 - 1]) := fun _ => rfl
    have hpos : 0 < (y :: l).length := by simp
    revert hF hy hpos hl hrd h
    generalize hm : (y :: l) = m
    clear hm
    intro h hl hrd hF hy hpos
    go_enter Try.func66, Try.ntmps66
    go_wp2
    go_loopw [3] (fun i wr => ∃ (k : Nat) (prev : Int), 1 ≤ k ∧ k ≤ m.length ∧ i = .int .i64 k ∧ (∃ q : Since w.heap.size w, wr = q.val) ∧ Hid (ascFrom prev (m.drop k) = asc m) ∧ Hid (∀ h' : k - 1 < m.length, prev = m[k - 1])) (fun i _ => m.length - (intOf i).toNat)
    case atStart => exact ⟨1, y, by omega, hpos, rfl, ⟨Since.start _ _, rfl⟩, hF, hy⟩
    case round =>
      obtain ⟨k, prev, hk1, hk, rfl, ⟨q, rfl⟩, HR, HP⟩ := hrel
      by_cases hlt : k < m.length
      · obtain ⟨b, off, rfl, hb, hcell⟩ := hrd (by omega)
        have c0 := hcell k hlt
        have c5 : ∀ p : Since w.heap.size w, p.val.cell? ⟨b, off + (k - 1), none⟩ = some (.int .i64 prev) := fun p => by
          rw [HP.out (by omega)]; exact hcell (k - 1) (by omega) p
        have hstep : Hid (ascFrom prev (m.drop k) = (decide (prev < m[k]) && ascFrom m[k] (m.drop (k + 1)))) := by
          rw [List.drop_eq_getElem_cons hlt]; rfl
        obtain ⟨x, hxe⟩ : ∃ x, x = m[k] := ⟨_, rfl⟩
        have HN : Hid (∀ h' : k + 1 - 1 < m.length, x = m[k + 1 - 1]) := fun _ => by rw [hxe]; rfl
        rw [← hxe] at c0 hstep
        clear hxe hcell hrd
        by_cases hle : prev < x
        · have HV : Hid (decide (prev < x) = true) := decide_eq_true hle
          go_wp2
          refine wp_region_since _ (by kernel_rfl) (by kernel_rfl) ?_
          repeat (any_goals (first | go_big_quiet_step ((fail)) | (refine wpQuiet_step (fun K hK => ?_); go_simp; split <;> (refine hK _ ?_; clear hK K))))
          all_goals (refine wpQuiet_nil ?_; rintro _ ⟨q1, rfl⟩)
          go_wp2
          go_roundw
          case rel => exact ⟨k + 1, x, by omega, by omega, by go_num, ⟨q1, rfl⟩, by have h1 := HR.out; rw [hstep.out, HV.out] at h1; exact h1, HN⟩
          case measure => simp [intOf]; omega
        · have HV : Hid (decide (prev < x) = false) := decide_eq_false hle
          go_wp2
          refine wp_region_since _ (by kernel_rfl) (by kernel_rfl) ?_
          repeat (any_goals (first | go_big_quiet_step ((fail)) | (refine wpQuiet_step (fun K hK => ?_); go_simp; split <;> (refine hK _ ?_; clear hK K))))
          all_goals (refine wpQuiet_nil ?_; rintro _ ⟨q1, rfl⟩)
          go_wp2
          go_ret
          refine ⟨?_, q1.below⟩
          rw [← HR.out, hstep.out, HV.out]; rfl
      · clear hrd
        go_wp2
        go_ret
        refine ⟨?_, q.below⟩
        rw [← HR.out, List.drop_eq_nil_of_le (by omega)]; rfl
end Go.Proofs.Ytjdedcalbcnkmaa
