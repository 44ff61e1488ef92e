/- Merging phrases that are alike: the plain law. -/
import Derived.Test.YtjdedcalbcnkmaaPhrGood
import Derived.Test.YtjdedcalbcnkmaaAlike
namespace Go.Proofs.Ytjdedcalbcnkmaa
open Go.RowKit

abbrev PhD := Int × Int × List Int × Int
def alikeD (a b : PhD) : Bool := decide (a.1 = b.1) && decide (a.2.2.1 = b.2.2.1) && decide (a.2.2.2 = b.2.2.2)
theorem Ph.alike_ph (x y : Ph) : Ph.alike x y = alikeD x.ph y.ph := by unfold Ph.alike alikeD Ph.ph sameInts; rfl
theorem alikeD_iff {a b : PhD} : alikeD a b = true ↔ a.1 = b.1 ∧ a.2.2.1 = b.2.2.1 ∧ a.2.2.2 = b.2.2.2 := by unfold alikeD; simp [Bool.and_eq_true, and_assoc]
theorem alikeD_symm (a b : PhD) : alikeD a b = alikeD b a := by
  rw [Bool.eq_iff_iff, alikeD_iff, alikeD_iff]
  constructor <;> (rintro ⟨h1, h2, h3⟩; exact ⟨h1.symm, h2.symm, h3.symm⟩)
theorem alikeD_trans {a b c : PhD} (h : alikeD a b = true) (h' : alikeD a c = true) : alikeD b c = true := by
  rw [alikeD_iff] at *
  exact ⟨h.1.symm.trans h'.1, h.2.1.symm.trans h'.2.1, h.2.2.symm.trans h'.2.2⟩

/-- The copies of the one at place i grow by c. -/
def addAt (c : Int) : Nat → List PhD → List PhD
  | _, [] => []
  | 0, q :: l => (q.1, q.2.1 + c, q.2.2) :: l
  | i + 1, q :: l => q :: addAt c i l
theorem addAt_len (c : Int) : ∀ (i : Nat) (l : List PhD), (addAt c i l).length = l.length
  | _, [] => by cases ‹Nat› <;> rfl
  | 0, _ :: _ => rfl
  | i + 1, _ :: l => by simp [addAt, addAt_len c i l]
/-- Step: p is put to the first one alike, or behind. -/
def putD (out : List PhD) (p : PhD) : List PhD := if idxFrom (alikeD p) 0 out < 0 then out ++ [p] else addAt p.2.1 (idxFrom (alikeD p) 0 out).toNat out
def mergeD (l : List PhD) : List PhD := l.foldl putD []

/-- No two are alike. -/
def Apart (l : List PhD) : Prop := l.Pairwise fun a b => alikeD a b = false
theorem addAt_keys {p : PhD → Prop} (hp : ∀ a b : PhD, alikeD a b = true → (p a ↔ p b)) (c : Int) : ∀ (i : Nat) (l : List PhD), (∀ x ∈ addAt c i l, p x) ↔ ∀ x ∈ l, p x
  | _, [] => by cases ‹Nat› <;> simp [addAt]
  | 0, q :: l => by
    have := hp q (q.1, q.2.1 + c, q.2.2) (alikeD_iff.2 ⟨rfl, rfl, rfl⟩)
    simp [addAt, this]
  | i + 1, q :: l => by
    simp only [addAt, List.mem_cons, forall_eq_or_imp]
    rw [addAt_keys hp c i l]
theorem alikeD_same {a b x : PhD} (h : alikeD a b = true) : alikeD x a = alikeD x b := by
  rw [Bool.eq_iff_iff]
  constructor
  · intro h'; exact alikeD_trans (alikeD_symm x a ▸ h') h
  · intro h'; exact alikeD_trans (alikeD_symm x b ▸ h') (alikeD_symm a b ▸ h)
theorem Apart.add {l : List PhD} (h : Apart l) (c : Int) : ∀ i, Apart (addAt c i l) := by
  induction l with
  | nil => intro i; cases i <;> exact h
  | cons q l ih =>
    unfold Apart at h
    rw [List.pairwise_cons] at h
    intro i
    cases i with
    | zero =>
      unfold Apart addAt
      rw [List.pairwise_cons]
      refine ⟨fun b hb => ?_, h.2⟩
      have := h.1 b hb
      rw [alikeD_symm] at this ⊢
      rw [← this]
      exact (alikeD_same (alikeD_iff.2 ⟨rfl, rfl, rfl⟩)).symm
    | succ i =>
      unfold Apart addAt
      rw [List.pairwise_cons]
      refine ⟨?_, ih h.2 i⟩
      exact (addAt_keys (p := fun b => alikeD q b = false) (fun a b hab => by rw [alikeD_same hab]) c i l).2 h.1
theorem idx_neg {α : Type} {f : α → Bool} : ∀ (l : List α) (k : Nat), idxFrom f k l < 0 → ∀ x ∈ l, f x = false
  | [], _, _, _, hx => by cases hx
  | y :: l, k, h, x, hx => by
    unfold idxFrom at h
    split at h
    · omega
    · rename_i hy
      rcases List.mem_cons.1 hx with rfl | hx'
      · simpa using hy
      · exact idx_neg l (k + 1) h x hx'
theorem Apart.put {l : List PhD} (h : Apart l) (p : PhD) : Apart (putD l p) := by
  unfold putD
  split
  · rename_i hn
    unfold Apart
    rw [List.pairwise_append]
    refine ⟨h, List.pairwise_singleton _ _, fun a ha b hb => ?_⟩
    rw [List.mem_singleton] at hb; subst hb
    rw [alikeD_symm]; exact idx_neg l 0 hn a ha
  · exact h.add _ _

/-- The last one alike among the first k. -/
def lastTo (p : PhD) (out : List PhD) : Nat → Int
  | 0 => -1
  | k + 1 => if h : k < out.length then (if alikeD out[k] p = true then (k : Int) else lastTo p out k) else lastTo p out k
theorem lastTo_bounds (p : PhD) (out : List PhD) : ∀ k, -1 ≤ lastTo p out k ∧ lastTo p out k < k ∧ lastTo p out k < (out.length : Int)
  | 0 => by simp [lastTo]; omega
  | k + 1 => by
    have := lastTo_bounds p out k
    unfold lastTo
    split
    · split <;> omega
    · omega
theorem lastTo_none {p : PhD} {out : List PhD} : ∀ k, (∀ x ∈ out, alikeD p x = false) → lastTo p out k = -1
  | 0, _ => rfl
  | k + 1, h => by
    unfold lastTo
    split
    · rename_i hk
      rw [alikeD_symm, h _ (List.getElem_mem hk)]
      simpa using lastTo_none k h
    · exact lastTo_none k h
theorem idx_spec {α : Type} {f : α → Bool} : ∀ (l : List α) (k : Nat), (idxFrom f k l = -1 ∧ ∀ x ∈ l, f x = false) ∨ ∃ i, ∃ h : i < l.length, idxFrom f k l = ((k + i : Nat) : Int) ∧ f l[i] = true
  | [], k => .inl ⟨rfl, by simp⟩
  | y :: l, k => by
    unfold idxFrom
    split
    · rename_i hy; exact .inr ⟨0, by simp, by simp, by simpa using hy⟩
    · rename_i hy
      rcases idx_spec (f := f) l (k + 1) with ⟨h1, h2⟩ | ⟨i, hi, h1, h2⟩
      · refine .inl ⟨h1, fun x hx => ?_⟩
        rcases List.mem_cons.1 hx with rfl | hx'
        · simpa using hy
        · exact h2 x hx'
      · exact .inr ⟨i + 1, by simpa using hi, by rw [h1]; congr 1; omega, by simpa using h2⟩
theorem lastTo_only {p : PhD} {out : List PhD} (h : Apart out) {i : Nat} (hi : i < out.length) (ha : alikeD p out[i] = true) : ∀ k, i < k → lastTo p out k = i
  | 0, hk => absurd hk (by omega)
  | k + 1, hk => by
    unfold lastTo
    by_cases hki : k = i
    · subst hki; rw [dif_pos hi, alikeD_symm, ha]; simp
    · have ih := lastTo_only h hi ha k (by omega)
      split
      · rename_i hkl
        have hne : alikeD out[k] p = false := by
          rcases hb : alikeD out[k] p with _ | _
          · rfl
          · exfalso
            rw [alikeD_symm] at hb
            have h1 := alikeD_trans ha hb
            have h2 := List.pairwise_iff_getElem.1 h i k hi hkl (by omega)
            rw [h1] at h2; cases h2
        rw [hne]; simpa using ih
      · exact ih
theorem lastTo_idx {p : PhD} {out : List PhD} (h : Apart out) : lastTo p out out.length = idxFrom (alikeD p) 0 out := by
  rcases idx_spec (f := alikeD p) out 0 with ⟨h1, h2⟩ | ⟨i, hi, h1, h2⟩
  · rw [h1]; exact lastTo_none _ h2
  · rw [h1, Nat.zero_add]; exact lastTo_only h hi h2 _ hi

/-- The phrases, and whether they are valid. -/
def okD (a : PhD) : Bool := inR a.1 1 3 && inR a.2.1 1 99 && rises 1 9 a.2.2.1 && inR a.2.2.2 0 999999
theorem ok_okD (x : Ph) : x.ok = okD x.ph := rfl
def goodD (l : List PhD) : Bool := decide (l.length ≤ 10) && l.all okD
theorem good_goodD (l : List Ph) : goodPhs l = goodD (l.map Ph.ph) := by
  unfold goodPhs goodD
  rw [List.length_map, List.all_map]; rfl
/-- What MergeAlike answers. -/
def mergeA (l : List PhD) : List PhD × Bool := if goodD l = true then (if goodD (mergeD l) = true then (mergeD l, true) else ([], false)) else ([], false)

theorem rises_len9 {lo hi : Int} : ∀ {l : List Int} {n : Nat} {p : Int}, riseFrom lo hi (n + 1) p l = true → lo ≤ p → (l.length : Int) ≤ hi - p ∨ l = []
  | [], _, _, _, _ => .inr rfl
  | x :: l, n, p, h, hp => by
    simp only [riseFrom, Bool.and_eq_true, inR_iff, Bool.or_eq_true, decide_eq_true_eq] at h
    obtain ⟨⟨⟨h1, h2⟩, h3⟩, h4⟩ := h
    have h5 : p < x := by omega
    left
    rcases rises_len9 h4 (by omega) with h6 | h6
    · simp only [List.length_cons]; omega
    · rw [h6]; simp; omega
theorem faults9 {l : List Int} (h : rises 1 9 l = true) : l.length ≤ 9 := by
  cases l with
  | nil => simp
  | cons x l =>
    unfold rises at h
    simp only [riseFrom, Bool.and_eq_true, inR_iff] at h
    rcases rises_len9 h.2 (by omega) with h1 | h1
    · simp only [List.length_cons]; omega
    · rw [h1]; simp
/-- Bounds while merging. -/
def Slim (n : Nat) (l : List PhD) : Prop := l.length ≤ n ∧ ∀ q ∈ l, 0 ≤ q.2.1 ∧ q.2.1 ≤ 99 * (n : Int) ∧ q.2.2.1.length ≤ 9
theorem slim_add {c : Int} {b : Int} (hc : 0 ≤ c ∧ c ≤ 99) : ∀ (i : Nat) (l : List PhD), (∀ q ∈ l, 0 ≤ q.2.1 ∧ q.2.1 ≤ b ∧ q.2.2.1.length ≤ 9) → ∀ q ∈ addAt c i l, 0 ≤ q.2.1 ∧ q.2.1 ≤ b + 99 ∧ q.2.2.1.length ≤ 9
  | i, [], _, q, hq => by cases i <;> simp [addAt] at hq
  | 0, x :: l, h, q, hq => by
    simp only [addAt, List.mem_cons] at hq
    rcases hq with rfl | hq
    · have := h x (List.mem_cons_self ..); simp only; omega
    · have := h q (List.mem_cons_of_mem _ hq); omega
  | i + 1, x :: l, h, q, hq => by
    simp only [addAt, List.mem_cons] at hq
    rcases hq with rfl | hq
    · have := h q (List.mem_cons_self ..); omega
    · exact slim_add hc i l (fun y hy => h y (List.mem_cons_of_mem _ hy)) q hq
theorem Slim.put {n : Nat} {l : List PhD} (h : Slim n l) {p : PhD} (hc : 0 ≤ p.2.1 ∧ p.2.1 ≤ 99) (hf : p.2.2.1.length ≤ 9) : Slim (n + 1) (putD l p) := by
  obtain ⟨h1, h2⟩ := h
  unfold putD
  split
  · refine ⟨by simp; omega, fun q hq => ?_⟩
    rcases List.mem_append.1 hq with hq | hq
    · have := h2 q hq; omega
    · rw [List.mem_singleton] at hq; subst hq; omega
  · refine ⟨by rw [addAt_len]; omega, fun q hq => ?_⟩
    have := slim_add hc _ l h2 q hq
    omega
theorem putD_new {out : List PhD} {p : PhD} (h : idxFrom (alikeD p) 0 out < 0) : putD out p = out ++ [p] := by unfold putD; rw [if_pos h]
theorem putD_old {out : List PhD} {p : PhD} {i : Nat} (h : idxFrom (alikeD p) 0 out = i) : putD out p = addAt p.2.1 i out := by unfold putD; rw [if_neg (by omega), h, Int.toNat_natCast]
theorem addAt_split {c : Int} : ∀ (i : Nat) (l : List PhD) (h : i < l.length), addAt c i l = l.take i ++ (l[i].1, l[i].2.1 + c, l[i].2.2) :: l.drop (i + 1)
  | 0, q :: l, _ => by simp [addAt]
  | i + 1, q :: l, h => by simp only [addAt, List.take_succ_cons, List.cons_append, List.getElem_cons_succ, List.drop_succ_cons]; rw [addAt_split i l (by simpa using h)]
theorem fsum_le9 : ∀ m : List Ph, (∀ x ∈ m, x.f.length ≤ 9) → fsum m ≤ 9 * m.length
  | [], _ => by simp [fsum]
  | x :: m, h => by
    have h1 := h x (List.mem_cons_self ..)
    have h2 := fsum_le9 m fun y hy => h y (List.mem_cons_of_mem _ hy)
    simp only [fsum, List.length_cons]; omega
theorem need_goodD {m : List Ph} {R : List PhD} (hm : m.map Ph.ph = R) (h : goodD R = true) : need m ≤ 1048576 := by
  subst hm
  unfold goodD at h
  simp only [Bool.and_eq_true, List.length_map] at h
  have h1 := of_decide_eq_true h.1
  have h2 := fsum_le9 m fun x hx => by
    have := List.all_eq_true.1 h.2 x.ph (List.mem_map.2 ⟨x, hx, rfl⟩)
    unfold okD at this
    simp only [Bool.and_eq_true] at this
    exact faults9 this.1.2
  unfold need; omega
theorem mergeA_good (l : List PhD) : goodD (mergeA l).1 = true := by
  unfold mergeA
  split
  · split
    · assumption
    · rfl
  · rfl
end Go.Proofs.Ytjdedcalbcnkmaa
