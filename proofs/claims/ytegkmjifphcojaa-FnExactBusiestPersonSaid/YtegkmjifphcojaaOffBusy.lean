/- BusiestPerson: the plain law. -/
import Derived.Test.YtegkmjifphcojaaOffPick
namespace Go.Proofs.Ytegkmjifphcojaa
open Go.RowKit

/-- How many stamps are at a person. -/
def atP (l : List Outing) (p : Int) : Int := outSum (fun o => decide (o.p = p)) l
/-- The best so far: its person and its stamps; the reference goes through the outings. -/
def specBest (l : List Outing) : List Outing → Int × Int → Int × Int
  | [], b => b
  | r :: rest, b => specBest l rest (if b.2 < atP l r.p ∨ atP l r.p = b.2 ∧ r.p < b.1 then (r.p, atP l r.p) else b)
/-- The program goes through all persons from one on. -/
def implBest (l : List Outing) : Nat → Int → Int × Int → Int × Int
  | 0, _, b => b
  | n + 1, p, b => implBest l n (p + 1) (if b.2 < atP l p then (p, atP l p) else b)

theorem outFrom_nonneg (f : Outing → Bool) : ∀ (l : List Outing) (s : Int), (∀ r ∈ l, 1 ≤ r.c) → s ≤ outFrom f s l
  | [], s, _ => Int.le_refl _
  | r :: l, s, h => by
    have h1 := h r (List.mem_cons_self ..)
    have := outFrom_nonneg f l (if f r then s + r.c else s) (fun x hx => h x (List.mem_cons_of_mem _ hx))
    simp only [outFrom]
    cases hf : f r <;> simp only [hf, if_true, if_false, Bool.false_eq_true] at this ⊢ <;> omega
theorem outFrom_pos (f : Outing → Bool) : ∀ (l : List Outing) (s : Int), (∀ r ∈ l, 1 ≤ r.c) → (∃ r ∈ l, f r = true) → s < outFrom f s l
  | [], _, _, ⟨_, h, _⟩ => by cases h
  | r :: l, s, h, ⟨x, hx, hf⟩ => by
    have h1 := h r (List.mem_cons_self ..)
    have hl : ∀ y ∈ l, 1 ≤ y.c := fun y hy => h y (List.mem_cons_of_mem _ hy)
    simp only [outFrom]
    cases hr : f r
    · simp only [Bool.false_eq_true, if_false]
      rcases List.mem_cons.1 hx with rfl | hx
      · rw [hf] at hr; cases hr
      · exact outFrom_pos f l s hl ⟨x, hx, hf⟩
    · simp only [if_true]
      have := outFrom_nonneg f l (s + r.c) hl
      omega
theorem outFrom_none (f : Outing → Bool) : ∀ (l : List Outing) (s : Int), (∀ r ∈ l, f r = false) → outFrom f s l = s
  | [], _, _ => rfl
  | r :: l, s, h => by
    simp only [outFrom]
    rw [h r (List.mem_cons_self ..)]
    exact outFrom_none f l s fun x hx => h x (List.mem_cons_of_mem _ hx)

/-- b is the best among the persons that P tells: its stamps the most, the least person among several; nothing at all: (0, 0). -/
structure Best (l : List Outing) (P : Int → Prop) (b : Int × Int) : Prop where
  top : ∀ p, P p → atP l p ≤ b.2
  is : (b = (0, 0) ∧ ∀ p, P p → atP l p ≤ 0) ∨ (P b.1 ∧ b.2 = atP l b.1 ∧ 0 < b.2 ∧ ∀ p, P p → atP l p = b.2 → b.1 ≤ p)
theorem Best.unique {l : List Outing} {P Q : Int → Prop} {a b : Int × Int} (ha : Best l P a) (hb : Best l Q b) (hpq : ∀ p, 0 < atP l p → (P p ↔ Q p)) : a = b := by
  rcases ha.is with ⟨rfl, ha0⟩ | ⟨ha1, ha2, ha3, ha4⟩
  · rcases hb.is with ⟨rfl, _⟩ | ⟨hb1, hb2, hb3, _⟩
    · rfl
    · have := ha0 b.1 ((hpq b.1 (by omega)).2 hb1); omega
  · rcases hb.is with ⟨rfl, hb0⟩ | ⟨hb1, hb2, hb3, hb4⟩
    · have := hb0 a.1 ((hpq a.1 (by omega)).1 ha1); omega
    · have h1 := ha.top b.1 ((hpq b.1 (by omega)).2 hb1)
      have h2 := hb.top a.1 ((hpq a.1 (by omega)).1 ha1)
      have e2 : a.2 = b.2 := by omega
      have h3 := ha4 b.1 ((hpq b.1 (by omega)).2 hb1) (by omega)
      have h4 := hb4 a.1 ((hpq a.1 (by omega)).1 ha1) (by omega)
      have e1 : a.1 = b.1 := by omega
      cases a; cases b; simp only at e1 e2; rw [e1, e2]
theorem Best.nil (l : List Outing) {P : Int → Prop} (h : ∀ p, ¬ P p) : Best l P (0, 0) := ⟨fun p hp => absurd hp (h p), .inl ⟨rfl, fun p hp => absurd hp (h p)⟩⟩
/-- One person more, wherever it stands (the reference's step). -/
theorem Best.step {l : List Outing} {P : Int → Prop} {b : Int × Int} (h : Best l P b) (q : Int) (hq : 0 < atP l q) :
    Best l (fun p => P p ∨ p = q) (if b.2 < atP l q ∨ atP l q = b.2 ∧ q < b.1 then (q, atP l q) else b) := by
  split
  · rename_i hc
    refine ⟨fun p hp => ?_, .inr ⟨.inr rfl, rfl, hq, fun p hp he => ?_⟩⟩
    · rcases hp with hp | rfl
      · have := h.top p hp; simp only; omega
      · exact Int.le_refl _
    · simp only at he ⊢
      rcases hp with hp | rfl
      · have h1 := h.top p hp
        rcases h.is with ⟨rfl, h0⟩ | ⟨_, _, _, h4⟩
        · have := h0 p hp; omega
        · rcases hc with hc | ⟨hc, hlt⟩
          · omega
          · have := h4 p hp (by omega); omega
      · exact Int.le_refl _
  · rename_i hc
    have hc1 : atP l q ≤ b.2 := by omega
    have hc2 : atP l q = b.2 → b.1 ≤ q := fun e => by omega
    refine ⟨fun p hp => ?_, .inr ?_⟩
    · rcases hp with hp | rfl
      · exact h.top p hp
      · exact hc1
    · rcases h.is with ⟨rfl, _⟩ | ⟨h1, h2, h3, h4⟩
      · simp only at hc1; omega
      · exact ⟨.inl h1, h2, h3, fun p hp he => by
          rcases hp with hp | rfl
          · exact h4 p hp he
          · exact hc2 he⟩
/-- One person more, behind all that came (the program's step). -/
theorem Best.next {l : List Outing} {lo q : Int} {b : Int × Int} (h : Best l (fun p => lo ≤ p ∧ p < q) b) (hlo : lo ≤ q) (h0 : 0 ≤ atP l q) :
    Best l (fun p => lo ≤ p ∧ p < q + 1) (if b.2 < atP l q then (q, atP l q) else b) := by
  have hb0 : 0 ≤ b.2 := by
    rcases h.is with ⟨rfl, _⟩ | ⟨_, _, h3, _⟩
    · exact Int.le_refl _
    · omega
  split
  · rename_i hc
    refine ⟨fun p hp => ?_, .inr ⟨⟨hlo, by simp only; omega⟩, rfl, by simp only; omega, fun p hp he => ?_⟩⟩
    · rcases Int.lt_or_le p q with hlt | hge
      · have := h.top p ⟨hp.1, hlt⟩; simp only; omega
      · obtain rfl : p = q := by omega
        exact Int.le_refl _
    · simp only at he ⊢
      rcases Int.lt_or_le p q with hlt | hge
      · have := h.top p ⟨hp.1, hlt⟩; omega
      · exact hge
  · rename_i hc
    refine ⟨fun p hp => ?_, ?_⟩
    · rcases Int.lt_or_le p q with hlt | hge
      · exact h.top p ⟨hp.1, hlt⟩
      · obtain rfl : p = q := by omega
        omega
    · rcases h.is with ⟨rfl, hz⟩ | ⟨h1, h2, h3, h4⟩
      · refine .inl ⟨rfl, fun p hp => ?_⟩
        rcases Int.lt_or_le p q with hlt | hge
        · exact hz p ⟨hp.1, hlt⟩
        · obtain rfl : p = q := by omega
          simp only at hc; omega
      · refine .inr ⟨⟨h1.1, by omega⟩, h2, h3, fun p hp he => ?_⟩
        rcases Int.lt_or_le p q with hlt | hge
        · exact h4 p ⟨hp.1, hlt⟩ he
        · omega

theorem specBest_is (l : List Outing) (hc : ∀ r ∈ l, 1 ≤ r.c) : ∀ (rest : List Outing) (P : Int → Prop) (b : Int × Int), (∀ r ∈ rest, r ∈ l) → Best l P b → Best l (fun p => P p ∨ ∃ r ∈ rest, r.p = p) (specBest l rest b)
  | [], P, b, _, h => by
    have e : (fun p => P p ∨ ∃ r ∈ ([] : List Outing), r.p = p) = P := by funext p; simp
    rw [e]; exact h
  | r :: rest, P, b, hm, h => by
    have hr : 0 < atP l r.p := outFrom_pos _ l 0 hc ⟨r, hm r (List.mem_cons_self ..), decide_eq_true rfl⟩
    have := specBest_is l hc rest _ _ (fun x hx => hm x (List.mem_cons_of_mem _ hx)) (h.step r.p hr)
    have e : (fun p => P p ∨ ∃ x ∈ r :: rest, x.p = p) = (fun p => (P p ∨ p = r.p) ∨ ∃ x ∈ rest, x.p = p) := by
      funext p
      simp only [List.mem_cons, eq_iff_iff]
      constructor
      · rintro (h | ⟨x, (rfl | hx), rfl⟩)
        · exact .inl (.inl h)
        · exact .inl (.inr rfl)
        · exact .inr ⟨x, hx, rfl⟩
      · rintro ((h | rfl) | ⟨x, hx, rfl⟩)
        · exact .inl h
        · exact .inr ⟨r, .inl rfl, rfl⟩
        · exact .inr ⟨x, .inr hx, rfl⟩
    rw [e]; exact this
theorem implBest_is (l : List Outing) (hc : ∀ r ∈ l, 1 ≤ r.c) (lo : Int) : ∀ (n : Nat) (q : Int) (b : Int × Int), lo ≤ q → Best l (fun p => lo ≤ p ∧ p < q) b → Best l (fun p => lo ≤ p ∧ p < q + n) (implBest l n q b)
  | 0, q, b, _, h => by simpa [implBest] using h
  | n + 1, q, b, hq, h => by
    have h0 : 0 ≤ atP l q := outFrom_nonneg _ l 0 hc
    have := implBest_is l hc lo n (q + 1) _ (by omega) (h.next hq h0)
    have e : q + 1 + (n : Int) = q + ((n + 1 : Nat) : Int) := by omega
    rw [e] at this
    exact this
theorem best_same (l : List Outing) (hc : ∀ r ∈ l, 1 ≤ r.c) (hp : ∀ r ∈ l, 1 ≤ r.p ∧ r.p ≤ 999) : implBest l 999 1 (0, 0) = specBest l l (0, 0) := by
  have h1 := implBest_is l hc 1 999 1 (0, 0) (Int.le_refl _) (Best.nil l fun p h => by omega)
  have h2 := specBest_is l hc l (fun _ => False) (0, 0) (fun _ h => h) (Best.nil l fun p h => h)
  refine Best.unique h1 h2 fun p hpos => ?_
  have hex : ∃ r ∈ l, r.p = p := by
    rcases Classical.em (∃ r ∈ l, r.p = p) with h | h
    · exact h
    · have : atP l p = 0 := outFrom_none _ l 0 fun r hr => decide_eq_false fun e => h ⟨r, hr, e⟩
      omega
  obtain ⟨r, hr, rfl⟩ := hex
  have := hp r hr
  exact ⟨fun _ => .inr ⟨r, hr, rfl⟩, fun _ => ⟨this.1, by omega⟩⟩
end Go.Proofs.Ytegkmjifphcojaa
