/- Joined rows: the plain law (no program's function in sight). -/
import Derived.Test.YtpjfidmapnnbkaaRowLeast
namespace Go.Proofs.Ytpjfidmapnnbkaa
open Go.RowKit

def addR (x y : Row) : Row := ⟨x.m, x.b + y.b, x.s + y.s, x.c + y.c, x.l + y.l⟩
/-- A row put into its place, or added up. -/
def insR (r : Row) : List Row → List Row
  | [] => [r]
  | x :: l => if x.m < r.m then x :: insR r l else if x.m = r.m then addR x r :: l else r :: x :: l
def joinF (a b : List Row) : List Row := b.foldl (fun out r => insR r out) a
/-- Two lists, merged. -/
def mergeR : List Row → List Row → List Row
  | [], b => b
  | x :: a, [] => x :: a
  | x :: a, y :: b => if x.m < y.m then x :: mergeR a (y :: b) else if y.m < x.m then y :: mergeR (x :: a) b else addR x y :: mergeR a b
termination_by a b => a.length + b.length
theorem mergeR_nil (a : List Row) : mergeR a [] = a := by cases a <;> simp [mergeR]
def AscR (l : List Row) : Prop := l.Pairwise fun a b => a.m < b.m
theorem joinF_head (x : Row) : ∀ (b a : List Row), (∀ y ∈ b, x.m < y.m) → joinF (x :: a) b = x :: joinF a b
  | [], a, _ => rfl
  | y :: b, a, h => by
    have hy := h y (by simp)
    show joinF (insR y (x :: a)) b = x :: joinF (insR y a) b
    rw [insR, if_pos hy, joinF_head x b (insR y a) fun z hz => h z (by simp [hz])]
theorem joinF_merge : ∀ (n : Nat) (a b : List Row), a.length + b.length ≤ n → AscR a → AscR b → joinF a b = mergeR a b
  | n, [], b, _, _, hb => by
    rw [mergeR]
    induction b with
    | nil => rfl
    | cons y b ih =>
      obtain ⟨h1, h2⟩ := List.pairwise_cons.1 hb
      show joinF [y] b = y :: b
      rw [joinF_head y b [] h1, ih (by simp at *; omega) h2]
  | n, x :: a, [], _, _, _ => by rw [mergeR_nil]; rfl
  | 0, x :: a, y :: b, h, _, _ => by simp at h
  | n + 1, x :: a, y :: b, h, ha, hb => by
    obtain ⟨ha1, ha2⟩ := List.pairwise_cons.1 ha
    obtain ⟨hb1, hb2⟩ := List.pairwise_cons.1 hb
    rw [mergeR]
    by_cases h1 : x.m < y.m
    · rw [if_pos h1, joinF_head x (y :: b) a (fun z hz => by
        rcases List.mem_cons.1 hz with rfl | hz
        · exact h1
        · have := hb1 z hz; omega)]
      rw [joinF_merge n a (y :: b) (by simp at h ⊢; omega) ha2 hb]
    · rw [if_neg h1]
      by_cases h2 : y.m < x.m
      · rw [if_pos h2]
        show joinF (insR y (x :: a)) b = _
        rw [insR, if_neg h1, if_neg (by omega), joinF_head y b (x :: a) hb1, joinF_merge n (x :: a) b (by simp at h ⊢; omega) ha hb2]
      · rw [if_neg h2]
        show joinF (insR y (x :: a)) b = _
        rw [insR, if_neg h1, if_pos (by omega), joinF_head (addR x y) b a (fun z hz => by have := hb1 z hz; show x.m < z.m; omega), joinF_merge n a b (by simp at h ⊢; omega) ha2 hb2]

theorem goodFrom_asc : ∀ (l : List Row) (n : Nat) (p : Int), goodFrom n p l = true → AscR l ∧ (n ≠ 0 → ∀ r ∈ l, p < r.m)
  | [], _, _, _ => ⟨List.Pairwise.nil, fun _ r hr => by cases hr⟩
  | r :: l, n, p, h => by
    simp only [goodFrom, Bool.and_eq_true, Bool.or_eq_true, decide_eq_true_eq] at h
    obtain ⟨h1, h2⟩ := goodFrom_asc l (n + 1) r.m h.2
    have h3 := h2 (by omega)
    refine ⟨List.pairwise_cons.2 ⟨h3, h1⟩, fun hn q hq => ?_⟩
    have hp : p < r.m := by rcases h.1.2 with h0 | h0; exact absurd h0 hn; exact h0
    rcases List.mem_cons.1 hq with rfl | hq
    · exact hp
    · have := h3 q hq; omega
theorem good_asc {l : List Row} (h : goodRows l = true) : AscR l := (goodFrom_asc l 0 0 h).1

/-! ### Where a row comes -/
def posR (l : List Row) (r : Row) : Nat := (l.takeWhile fun x => decide (x.m < r.m)).length
theorem posR_cons (x : Row) (l : List Row) (r : Row) : posR (x :: l) r = if x.m < r.m then posR l r + 1 else 0 := by
  unfold posR; rw [List.takeWhile_cons]; by_cases h : x.m < r.m <;> simp [h]
theorem posR_le (l : List Row) (r : Row) : posR l r ≤ l.length := by unfold posR; exact (List.takeWhile_prefix _).length_le
theorem posR_lt : ∀ (l : List Row) (r : Row) (i : Nat) (h : i < l.length), i < posR l r → l[i].m < r.m
  | x :: l, r, i, h, hi => by
    rw [posR_cons] at hi
    split at hi
    · cases i with
      | zero => assumption
      | succ i => exact posR_lt l r i (by simpa using h) (by omega)
    · omega
theorem posR_ge : ∀ (l : List Row) (r : Row), AscR l → ∀ (i : Nat) (h : i < l.length), posR l r ≤ i → ¬ l[i].m < r.m
  | x :: l, r, ha, i, h, hi => by
    obtain ⟨h1, h2⟩ := List.pairwise_cons.1 ha
    by_cases hx : x.m < r.m
    · rw [posR_cons, if_pos hx] at hi
      cases i with
      | zero => omega
      | succ i => exact posR_ge l r h2 i (by simpa using h) (by omega)
    · cases i with
      | zero => exact hx
      | succ i =>
        have := h1 (l[i]'(by simpa using h)) (List.getElem_mem _)
        simp only [List.getElem_cons_succ]; omega
theorem insR_new : ∀ (l : List Row) (r : Row), (∀ h : posR l r < l.length, l[posR l r].m ≠ r.m) → insR r l = l.take (posR l r) ++ r :: l.drop (posR l r)
  | [], _, _ => by simp [insR, posR]
  | x :: l, r, h => by
    by_cases hx : x.m < r.m
    · have e : posR (x :: l) r = posR l r + 1 := by rw [posR_cons, if_pos hx]
      simp only [e] at h ⊢
      rw [insR, if_pos hx, insR_new l r (fun h' => by have := h (by simpa using h'); simpa using this), List.take_succ_cons, List.drop_succ_cons, List.cons_append]
    · have e : posR (x :: l) r = 0 := by rw [posR_cons, if_neg hx]
      simp only [e] at h ⊢
      have := h (by simp)
      simp only [List.getElem_cons_zero] at this
      rw [insR, if_neg hx, if_neg this]; rfl
theorem insR_old : ∀ (l : List Row) (r : Row) (h : posR l r < l.length), l[posR l r].m = r.m → insR r l = l.set (posR l r) (addR l[posR l r] r)
  | x :: l, r, h, he => by
    by_cases hx : x.m < r.m
    · have e : posR (x :: l) r = posR l r + 1 := by rw [posR_cons, if_pos hx]
      simp only [e, List.getElem_cons_succ] at h he ⊢
      rw [insR, if_pos hx, insR_old l r (by simpa using h) he, List.set_cons_succ]
    · have e : posR (x :: l) r = 0 := by rw [posR_cons, if_neg hx]
      simp only [e, List.getElem_cons_zero] at h he ⊢
      rw [insR, if_neg hx, if_pos he]; rfl
/-- Bounds of a row behind some additions. -/
def Row.within (M : Int) (r : Row) : Prop := (-M ≤ r.b ∧ r.b ≤ M) ∧ (-M ≤ r.s ∧ r.s ≤ M) ∧ (-M ≤ r.c ∧ r.c ≤ M) ∧ (-M ≤ r.l ∧ r.l ≤ M)
theorem within_ok {r : Row} (h : r.ok = true) : r.within 1000000 := by
  obtain ⟨h0, h1, h2, h3, h4⟩ := Row.bounds h
  exact ⟨by omega, by omega, by omega, by omega⟩
theorem insR_facts {l : List Row} {r : Row} {M : Int} (hM : 0 ≤ M) (ha : AscR l) (hl : ∀ x ∈ l, x.within M) (hr : r.within 1000000) : AscR (insR r l) ∧ (∀ x ∈ insR r l, x.within (M + 1000000)) ∧ (insR r l).length ≤ l.length + 1 ∧ (∀ p : Int, p < r.m → (∀ x ∈ l, p < x.m) → ∀ x ∈ insR r l, p < x.m) := by
  induction l with
  | nil =>
    refine ⟨by simp [insR, AscR], fun x hx => ?_, by simp [insR], fun p hp _ x hx => ?_⟩
    · simp [insR] at hx; subst hx
      obtain ⟨h1, h2, h3, h4⟩ := hr
      exact ⟨by omega, by omega, by omega, by omega⟩
    · simp [insR] at hx; subst hx; exact hp
  | cons y l ih =>
    obtain ⟨ha1, ha2⟩ := List.pairwise_cons.1 ha
    obtain ⟨i1, i2, i3, i4⟩ := ih ha2 fun x hx => hl x (by simp [hx])
    obtain ⟨r1, r2, r3, r4⟩ := hr
    have up : ∀ x : Row, x.within M → x.within (M + 1000000) := fun x ⟨h1, h2, h3, h4⟩ => ⟨by omega, by omega, by omega, by omega⟩
    obtain ⟨y1, y2, y3, y4⟩ := hl y (by simp)
    rw [insR]
    by_cases h1 : y.m < r.m
    · rw [if_pos h1]
      refine ⟨List.pairwise_cons.2 ⟨i4 y.m h1 ha1, i1⟩, fun x hx => ?_, by simp; omega, fun p hp hq x hx => ?_⟩
      · rcases List.mem_cons.1 hx with rfl | hx
        · exact up _ (hl _ (by simp))
        · exact i2 x hx
      · rcases List.mem_cons.1 hx with rfl | hx
        · exact hq _ (by simp)
        · exact i4 p hp (fun z hz => hq z (by simp [hz])) x hx
    · rw [if_neg h1]
      by_cases h2 : y.m = r.m
      · rw [if_pos h2]
        refine ⟨List.pairwise_cons.2 ⟨ha1, ha2⟩, fun x hx => ?_, by simp, fun p hp hq x hx => ?_⟩
        · rcases List.mem_cons.1 hx with rfl | hx
          · exact ⟨by show _ ≤ y.b + r.b ∧ y.b + r.b ≤ _; omega, by show _ ≤ y.s + r.s ∧ y.s + r.s ≤ _; omega, by show _ ≤ y.c + r.c ∧ y.c + r.c ≤ _; omega, by show _ ≤ y.l + r.l ∧ y.l + r.l ≤ _; omega⟩
          · exact up _ (hl _ (by simp [hx]))
        · rcases List.mem_cons.1 hx with rfl | hx
          · exact hq y (by simp)
          · exact hq x (by simp [hx])
      · rw [if_neg h2]
        refine ⟨List.pairwise_cons.2 ⟨fun z hz => ?_, ha⟩, fun x hx => ?_, by simp, fun p hp hq x hx => ?_⟩
        · rcases List.mem_cons.1 hz with rfl | hz
          · omega
          · have := ha1 z hz; omega
        · rcases List.mem_cons.1 hx with rfl | hx
          · exact ⟨by omega, by omega, by omega, by omega⟩
          · exact up _ (hl _ hx)
        · rcases List.mem_cons.1 hx with rfl | hx
          · exact hp
          · exact hq x hx
/-- What JoinRows gives. -/
def joinBoth (a b : List Row) : List Row × Bool := if goodRows a && goodRows b then (if goodRows (mergeR a b) then (mergeR a b, true) else ([], false)) else ([], false)
theorem mergeR_len (a b : List Row) : (mergeR a b).length ≤ a.length + b.length := by
  induction h : a.length + b.length using Nat.strongRecOn generalizing a b with
  | _ n ih =>
    match a, b with
    | [], b => rw [mergeR]; simp at h; omega
    | x :: a, [] => rw [mergeR_nil]; simp at h ⊢; omega
    | x :: a, y :: b =>
      simp only [List.length_cons] at h
      rw [mergeR]
      split
      · have := ih (a.length + (y :: b).length) (by simp; omega) a (y :: b) rfl
        simp at this ⊢; omega
      · split
        · have := ih ((x :: a).length + b.length) (by simp; omega) (x :: a) b rfl
          simp at this ⊢; omega
        · have := ih (a.length + b.length) (by omega) a b rfl
          simp at this ⊢; omega
theorem join_no {a b : List Row} (h : (goodRows a && goodRows b) = false) : joinBoth a b = ([], false) := by unfold joinBoth; rw [h]; rfl
theorem join_bad {a b : List Row} (h : (goodRows a && goodRows b) = true) (h2 : goodRows (mergeR a b) = false) : joinBoth a b = ([], false) := by unfold joinBoth; rw [h, h2]; rfl
theorem join_yes {a b : List Row} (h : (goodRows a && goodRows b) = true) (h2 : goodRows (mergeR a b) = true) : joinBoth a b = (mergeR a b, true) := by unfold joinBoth; rw [h, h2]; rfl
theorem joinBoth_len (a b : List Row) : (joinBoth a b).1.length ≤ 12 := by
  unfold joinBoth; split
  · split
    · rename_i h; exact good_len h
    · simp
  · simp
/-- The first k of b are in. -/
structure Joined (a b : List Row) (k : Nat) (out : List Row) : Prop where
  eq : joinF out (b.drop k) = mergeR a b
  asc : AscR out
  bd : ∀ x ∈ out, x.within (1000000 * (k + 1))
  len : out.length ≤ a.length + k
theorem Joined.start {a b : List Row} (ha : goodRows a = true) (hb : goodRows b = true) : Joined a b 0 a :=
  ⟨joinF_merge _ a b (Nat.le_refl _) (good_asc ha) (good_asc hb), good_asc ha, fun x hx => by
    obtain ⟨i, hi, rfl⟩ := List.getElem_of_mem hx
    simpa using within_ok (good_at ha hi), Nat.le_refl _⟩
theorem Joined.step {a b out : List Row} {k : Nat} (h : Joined a b k out) (hb : goodRows b = true) (hk : k < b.length) : Joined a b (k + 1) (insR b[k] out) := by
  obtain ⟨i1, i2, i3, _⟩ := insR_facts (M := 1000000 * ((k : Int) + 1)) (by omega) h.asc h.bd (within_ok (good_at hb hk))
  refine ⟨?_, i1, fun x hx => ?_, by have := h.len; omega⟩
  · have := h.eq
    rw [List.drop_eq_getElem_cons hk] at this
    exact this
  · have := i2 x hx
    rwa [show 1000000 * ((k : Int) + 1) + 1000000 = 1000000 * (((k + 1 : Nat) : Int) + 1) by omega] at this
theorem Joined.done {a b out : List Row} (h : Joined a b b.length out) : out = mergeR a b := by
  have := h.eq
  rw [List.drop_length] at this; exact this
end Go.Proofs.Ytpjfidmapnnbkaa
