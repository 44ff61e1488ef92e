/- Lists of phrases: validity, in the reference and in the program. -/
import Derived.Test.YtjdedcalbcnkmaaPhrs
namespace Go.Proofs.Ytjdedcalbcnkmaa
open Go.RowKit

def goodPhs (l : List Ph) : Bool := decide (l.length ≤ 10) && l.all Ph.ok
theorem ok_ph {x y : Ph} (h : x.ph = y.ph) : x.ok = y.ok := by
  unfold Ph.ph at h; injection h with h1 h2; injection h2 with h2 h3; injection h3 with h3 h4
  unfold Ph.ok; rw [h1, h2, h3, h4]
theorem good_ph : ∀ {a b : List Ph}, a.map Ph.ph = b.map Ph.ph → goodPhs a = goodPhs b := by
  intro a b h
  unfold goodPhs
  rw [len_of_ph h]
  have : a.all Ph.ok = b.all Ph.ok := by
    induction a generalizing b with
    | nil => cases b with
      | nil => rfl
      | cons y b => simp at h
    | cons x a ih => cases b with
      | nil => simp at h
      | cons y b =>
        simp only [List.map_cons, List.cons.injEq] at h
        rw [List.all_cons, List.all_cons, ok_ph h.1, ih h.2]
  rw [this]
theorem good_len {l : List Ph} (h : goodPhs l = true) : l.length ≤ 10 := by
  unfold goodPhs at h; rw [Bool.and_eq_true] at h; exact of_decide_eq_true h.1
theorem good_at {l : List Ph} (h : goodPhs l = true) {i : Nat} (hi : i < l.length) : l[i].ok = true := by
  unfold goodPhs at h; rw [Bool.and_eq_true] at h; exact List.all_eq_true.1 h.2 _ (List.getElem_mem hi)
theorem bad_at {l : List Ph} {i : Nat} (hi : i < l.length) (h : l[i].ok = false) : goodPhs l = false := by
  cases hg : goodPhs l with
  | false => rfl
  | true => rw [good_at hg hi] at h; cases h
theorem bad_len {l : List Ph} (h : 10 < l.length) : goodPhs l = false := by
  cases hg : goodPhs l with
  | false => rfl
  | true => have := good_len hg; omega
theorem good_of {l : List Ph} (h : l.length ≤ 10) (ha : ∀ i (hi : i < l.length), l[i].ok = true) : goodPhs l = true := by
  unfold goodPhs
  rw [Bool.and_eq_true]
  refine ⟨decide_eq_true h, List.all_eq_true.2 fun x hx => ?_⟩
  obtain ⟨i, hi, rfl⟩ := List.getElem_of_mem hx
  exact ha i hi

/-- What a valid phrase keeps to. -/
theorem Ph.bounds {x : Ph} (h : x.ok = true) : (1 ≤ x.s ∧ x.s ≤ 3) ∧ (1 ≤ x.c ∧ x.c ≤ 99) ∧ rises 1 9 x.f = true ∧ (0 ≤ x.p ∧ x.p ≤ 999999) := by
  unfold Ph.ok at h
  simp only [Bool.and_eq_true, inR_iff] at h
  exact ⟨h.1.1.1, h.1.1.2, h.1.2, h.2⟩

set_option maxHeartbeats 1000000 in
theorem l30Good_any (A : Option Addr) (c : Nat) (l : List Ph) (w : World) (h : PhsR w w.heap.size A l) :
    Calls Try.prog 45 #[.slice A l.length c] w fun e w' => e = .returned (.bool (goodPhs l)) ∧ Below w.heap.size w w' := by
  have hl := h.slc.big
  have hrd := h.ph
  have hf : Hid (∀ i (hi : i < l.length), IntsR w w.heap.size l[i].A l[i].f) := fun i hi => h.f hi
  go_enter Try.func45, Try.ntmps45
  go_wp2
  go_loopw [3] (fun i wr => ∃ (k : Nat), k ≤ l.length ∧ k ≤ 11 ∧ i = .int .i64 k ∧ (∃ q : Since w.heap.size w, wr = q.val) ∧ Hid (∀ i (hi : i < l.length), i < k → l[i].ok = true)) (fun i _ => l.length - (intOf i).toNat)
  case atStart => exact ⟨0, Nat.zero_le _, by omega, rfl, ⟨Since.start _ _, rfl⟩, fun i _ h => absurd h (by omega)⟩
  case round =>
    obtain ⟨k, hk, hk11, rfl, ⟨q, rfl⟩, HR⟩ := hrel
    by_cases hlt : k < l.length
    · by_cases h10 : k ≤ 10
      · obtain ⟨b, off, rfl, hb, hcell⟩ := hrd (by omega)
        obtain ⟨c0, c1, c2, c3⟩ := hcell k hlt
        have hx : ∀ p : Since w.heap.size w, IntsR p.val p.val.heap.size l[k].A l[k].f := fun p => SlcR.up (hf.out k hlt) p.below (Nat.le_refl _)
        have hbad : l[k].ok = false → goodPhs l = false := bad_at hlt
        have hgd : Hid (l[k].ok = true → ∀ i (hi : i < l.length), i < k + 1 → l[i].ok = true) := fun ho i hi hik => by
          rcases Nat.lt_or_ge i k with h | h
          · exact HR.out i hi h
          · obtain rfl : i = k := by omega
            exact ho
        have HB := Lib.hid hbad; clear hbad
        obtain ⟨x, hxe⟩ : ∃ x, x = l[k] := ⟨_, rfl⟩
        rw [← hxe] at c0 c1 c2 c3 hx HB hgd
        clear hxe hcell hrd
        obtain ⟨v, hv⟩ : ∃ v, x.ok = v := ⟨_, rfl⟩
        have HV := Lib.hid hv; clear hv
        cases v
        all_goals
          go_wp2_with (go_at_call 42; refine (calls_sinceB HV (Nat.le_refl _) (l30One_any x _ (hx _))).mono ?_; rintro e w1 ⟨rfl, q1, rfl⟩)
        · go_ret
          exact ⟨by rw [HB.out HV.out]; rfl, q1.below⟩
        · go_roundw
          case rel => exact ⟨k + 1, by omega, by omega, by go_num, ⟨q1, rfl⟩, hgd.out HV.out⟩
          case measure => simp [intOf]; omega
      · have HB : Hid (goodPhs l = false) := bad_len (by omega)
        clear hrd
        go_wp2
        go_ret
        exact ⟨by rw [HB.out]; exact congrArg (fun b => Ending.returned (.bool b)) (decide_eq_false (by omega)), q.below⟩
    · have HK : Hid (∀ i (hi : i < l.length), l[i].ok = true) := fun i hi => HR.out i hi (by omega)
      clear hrd
      by_cases h10 : l.length ≤ 10
      · have HB : Hid (goodPhs l = true) := good_of h10 HK.out
        go_wp2
        all_goals
          go_ret
          exact ⟨by rw [HB.out]; exact congrArg (fun b => Ending.returned (.bool b)) (decide_eq_true (by omega)), q.below⟩
      · have HB : Hid (goodPhs l = false) := bad_len (by omega)
        go_wp2
        all_goals
          go_ret
          exact ⟨by rw [HB.out]; exact congrArg (fun b => Ending.returned (.bool b)) (decide_eq_false (by omega)), q.below⟩

theorem notOk_any (x : Ph) (w : World) (h : IntsR w w.heap.size x.A x.f) : Calls Try.prog 70 #[x.val] w fun e w' => e = .returned (.bool (!x.ok)) ∧ Below w.heap.size w w' := by
  have b1 := (Below.refl w.heap.size w).alloc (Nat.le_refl _) (.cells #[.int .i64 x.s, .int .i64 x.c, .slice x.A x.f.length x.cap, .int .i64 x.p] 27)
  have hc := fun W hW => isPhrase_any x W hW
  cases hv : x.ok
  all_goals
    rw [hv] at hc
    clear hv
    go_enter Try.func70, Try.ntmps70
    go_wp2_with fail
    refine (hc _ (SlcR.up h b1 (Nat.le_refl _))).mono ?_
    rintro e w' ⟨rfl, hb⟩
    go_wp2
    go_ret
    exact ⟨rfl, bthen b1 hb⟩

set_option maxHeartbeats 1000000 in
theorem idxBad_any (A : Option Addr) (c : Nat) (l : List Ph) (w : World) (h : PhsR w w.heap.size A l) :
    Calls Try.prog 51 #[.slice A l.length c, .func (.func 70) #[] #[]] w fun e w' => e = .returned (.int .i64 (idxFrom (fun x : Ph => !x.ok) 0 l)) ∧ Below w.heap.size w w' := by
  have hl := h.slc.big
  have hrd := h.ph
  have hf : Hid (∀ i (hi : i < l.length), IntsR w w.heap.size l[i].A l[i].f) := fun i hi => h.f hi
  have HF : Hid (idxFrom (fun x : Ph => !x.ok) 0 (l.drop 0) = idxFrom (fun x : Ph => !x.ok) 0 l) := rfl
  go_enter Try.func51, Try.ntmps51
  go_wp2
  go_loopw [8] (fun i wr => ∃ (k : Nat), k ≤ l.length ∧ i = .int .i64 k ∧ (∃ q : Since w.heap.size w, wr = q.val) ∧ Hid (idxFrom (fun x : Ph => !x.ok) k (l.drop k) = idxFrom (fun x : Ph => !x.ok) 0 l)) (fun i _ => l.length - (intOf i).toNat)
  case atStart => exact ⟨0, Nat.zero_le _, rfl, ⟨Since.start _ _, rfl⟩, HF⟩
  case round =>
    obtain ⟨k, hk, rfl, ⟨q, rfl⟩, HR⟩ := hrel
    by_cases hlt : k < l.length
    · obtain ⟨b, off, rfl, hb, hcell⟩ := hrd (by omega)
      obtain ⟨c0, c1, c2, c3⟩ := hcell k hlt
      have hx : ∀ p : Since w.heap.size w, IntsR p.val p.val.heap.size l[k].A l[k].f := fun p => SlcR.up (hf.out k hlt) p.below (Nat.le_refl _)
      have hy := fun hv => idx_yes (f := fun x : Ph => !x.ok) hlt hv
      have hn := fun hv => idx_no (f := fun x : Ph => !x.ok) hlt hv
      obtain ⟨x, hxe⟩ : ∃ x, x = l[k] := ⟨_, rfl⟩
      rw [← hxe] at c0 c1 c2 c3 hx hy hn
      clear hxe hcell hrd
      have hfx := fun W hW => notOk_any x W hW
      cases hv : !x.ok
      · have HE : Hid (idxFrom (fun x : Ph => !x.ok) (k + 1) (l.drop (k + 1)) = idxFrom (fun x : Ph => !x.ok) 0 l) := by rw [← hn hv]; exact HR.out
        rw [hv] at hfx
        clear hy hn hv
        go_wp2_with (go_at_call 70; refine (hfx _ (hx _)).mono ?_; rintro e w1 ⟨rfl, hb1⟩)
        go_roundw
        case rel => exact ⟨k + 1, by omega, by go_num, ⟨q.go (Nat.le_refl _) hb1, rfl⟩, HE⟩
        case measure => simp [intOf]; omega
      · have HE : Hid ((k : Int) = idxFrom (fun x : Ph => !x.ok) 0 l) := by rw [← hy hv]; exact HR.out
        rw [hv] at hfx
        clear hy hn hv
        go_wp2_with (go_at_call 70; refine (hfx _ (hx _)).mono ?_; rintro e w1 ⟨rfl, hb1⟩)
        go_ret
        exact ⟨by rw [← HE.out]; rfl, (q.go (Nat.le_refl _) hb1).below⟩
    · have HE : Hid (-1 = idxFrom (fun x : Ph => !x.ok) 0 l) := by
        have h1 := HR.out; rw [List.drop_eq_nil_of_le (by omega)] at h1; exact h1
      clear hrd
      go_wp2
      go_ret
      exact ⟨by rw [← HE.out]; rfl, q.below⟩

theorem anyBad_any (A : Option Addr) (c : Nat) (l : List Ph) (w : World) (h : PhsR w w.heap.size A l) :
    Calls Try.prog 69 #[.slice A l.length c, .func (.func 70) #[] #[]] w fun e w' => e = .returned (.bool (l.any fun x => !x.ok)) ∧ Below w.heap.size w w' := by
  have hi := idxBad_any A c l w h
  have HA : Hid (decide (0 ≤ idxFrom (fun x : Ph => !x.ok) 0 l) = l.any fun x => !x.ok) := idxFrom_any _ l 0
  generalize idxFrom (fun x : Ph => !x.ok) 0 l = v at hi HA
  go_enter Try.func69, Try.ntmps69
  go_wp2_with fail
  refine hi.mono ?_
  rintro e w1 ⟨rfl, hb1⟩
  go_wp2
  go_ret
  exact ⟨by rw [← HA.out]; rfl, hb1⟩

theorem any_bad (l : List Ph) : (l.any fun x => !x.ok) = !(l.all Ph.ok) := by
  induction l with
  | nil => rfl
  | cons x l ih => rw [List.any_cons, List.all_cons, ih]; cases x.ok <;> simp

theorem arePhrases_any (A : Option Addr) (c : Nat) (l : List Ph) (w : World) (h : PhsR w w.heap.size A l) :
    Calls Try.prog 46 #[.slice A l.length c] w fun e w' => e = .returned (.bool (goodPhs l)) ∧ Below w.heap.size w w' := by
  have hl := h.slc.big
  by_cases h10 : l.length ≤ 10
  · have hc := anyBad_any A c l w h
    have HR : Hid (goodPhs l = !(l.any fun x => !x.ok)) := by unfold Hid goodPhs; rw [decide_eq_true h10, any_bad]; simp
    generalize (l.any fun x => !x.ok) = v at hc HR
    cases v
    all_goals
      go_enter Try.func46, Try.ntmps46
      go_wp2_with fail
      refine hc.mono ?_
      rintro e w1 ⟨rfl, hb1⟩
      go_wp2
      go_ret
      exact ⟨by rw [HR.out]; rfl, hb1⟩
  · have HR : Hid (goodPhs l = false) := bad_len (by omega)
    go_enter Try.func46, Try.ntmps46
    go_wp2
    go_ret
    exact ⟨by rw [HR.out]; rfl, Below.refl _ _⟩
end Go.Proofs.Ytjdedcalbcnkmaa
