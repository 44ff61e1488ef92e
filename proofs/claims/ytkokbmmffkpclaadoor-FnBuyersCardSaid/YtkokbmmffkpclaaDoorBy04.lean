/- By04: the texts LotZ BuyP OwnInts Cmp OwnR OwnRow LotOwn Facts, joined into one file. -/
import Derived.Laws.OwnMore
import Derived.WalkKit
import Derived.Orders
import Derived.Deep.Draws
import Derived.Test.YtkokbmmffkpclaaDoorBy01
import Derived.Test.YtkokbmmffkpclaaDoorBy03

set_option linter.unusedVariables false

/- A step of an auction, kind by kind (no program in sight). -/
namespace Go.Proofs.YtkokbmmffkpclaaDoor
open Go.RowKit

theorem step4_none {l : List Lot} {i b v : Int} (h : openIx l < 0) : stepL l ⟨4, i, b, v⟩ = none := by
  unfold stepL; rw [if_pos (.inl rfl), if_pos h]
theorem step5_none {l : List Lot} {i b v : Int} (h : openIx l < 0) : stepL l ⟨5, i, b, v⟩ = none := by
  unfold stepL; rw [if_pos (.inr rfl), if_pos h]
theorem step4_bid {l : List Lot} {i b v : Int} {j : Nat} (ho : openIx l = j) (hj : j < l.length) : stepL l ⟨4, i, b, v⟩ = (if leastV l[j] ≤ v ∧ b ≠ l[j].b then some (l.set j (bidL l[j] ⟨4, i, b, v⟩)) else none) := by
  unfold stepL
  rw [if_pos (.inl rfl), if_neg (by omega), if_pos rfl, ho, atL_eq rfl hj]
  rfl
theorem step5_knock {l : List Lot} {i b v : Int} {j : Nat} (ho : openIx l = j) (hj : j < l.length) : stepL l ⟨5, i, b, v⟩ = some (l.set j (knockL l[j])) := by
  unfold stepL
  rw [if_pos (.inr rfl), if_neg (by omega), if_neg (show ¬ (5 : Int) = 4 by omega), ho, atL_eq rfl hj]
  rfl
theorem step1_none {l : List Lot} {i b v : Int} (h : 0 ≤ findIx l i) : stepL l ⟨1, i, b, v⟩ = none := by
  unfold stepL; rw [if_neg (by show ¬ ((1 : Int) = 4 ∨ (1 : Int) = 5); omega), if_pos rfl, if_pos h]
theorem step1_add {l : List Lot} {i b v : Int} (h : findIx l i < 0) : stepL l ⟨1, i, b, v⟩ = (if goodLots (insL l i v) then some (insL l i v) else none) := by
  unfold stepL; rw [if_neg (by show ¬ ((1 : Int) = 4 ∨ (1 : Int) = 5); omega), if_pos rfl, if_neg (by show ¬ 0 ≤ findIx l i; omega)]
theorem stepF_none {l : List Lot} {k i b v : Int} (hk : k = 2 ∨ k = 3 ∨ k = 6) (h : findIx l i < 0) : stepL l ⟨k, i, b, v⟩ = none := by
  unfold stepL; rw [if_neg (by show ¬ (k = 4 ∨ k = 5); omega), if_neg (by show ¬ k = 1; omega), if_pos h]
theorem step2_drop {l : List Lot} {i b v : Int} {j : Nat} (hf : findIx l i = j) (hj : j < l.length) : stepL l ⟨2, i, b, v⟩ = (if l[j].s = 0 then some (delL l j) else none) := by
  unfold stepL
  rw [if_neg (by show ¬ ((2 : Int) = 4 ∨ (2 : Int) = 5); omega), if_neg (by show ¬ (2 : Int) = 1; omega), if_neg (by show ¬ findIx l i < 0; omega), if_pos rfl]
  simp only [hf, atL_eq rfl hj]
  rfl
theorem step3_open {l : List Lot} {i b v : Int} {j : Nat} (hf : findIx l i = j) (hj : j < l.length) : stepL l ⟨3, i, b, v⟩ = (if l[j].s = 0 ∧ openIx l < 0 then some (l.set j (openL l[j])) else none) := by
  unfold stepL
  rw [if_neg (by show ¬ ((3 : Int) = 4 ∨ (3 : Int) = 5); omega), if_neg (by show ¬ (3 : Int) = 1; omega), if_neg (by show ¬ findIx l i < 0; omega), if_neg (by show ¬ (3 : Int) = 2; omega), if_pos rfl]
  simp only [hf, atL_eq rfl hj]
  rfl
theorem step6_again {l : List Lot} {i b v : Int} {j : Nat} (hf : findIx l i = j) (hj : j < l.length) : stepL l ⟨6, i, b, v⟩ = (if l[j].s = 3 then some (l.set j (againL l[j])) else none) := by
  unfold stepL
  rw [if_neg (by show ¬ ((6 : Int) = 4 ∨ (6 : Int) = 5); omega), if_neg (by show ¬ (6 : Int) = 1; omega), if_neg (by show ¬ findIx l i < 0; omega), if_neg (by show ¬ (6 : Int) = 2; omega), if_neg (by show ¬ (6 : Int) = 3; omega)]
  simp only [hf, atL_eq rfl hj]
  rfl
theorem open_at {l : List Lot} (h : ¬ openIx l < 0) : ∃ j : Nat, openIx l = j ∧ j < l.length := by
  obtain ⟨hj, _, h3⟩ := idx_at (f := isOpen) h
  exact ⟨_, h3, hj⟩
theorem find_at {l : List Lot} {i : Int} (h : ¬ findIx l i < 0) : ∃ j : Nat, findIx l i = j ∧ j < l.length := by
  obtain ⟨hj, _, h3⟩ := idx_at (f := hasId i) h
  exact ⟨_, h3, hj⟩
theorem kinds {s : ASt} (h : s.ok = true) : s.k = 1 ∨ s.k = 2 ∨ s.k = 3 ∨ s.k = 4 ∨ s.k = 5 ∨ s.k = 6 := by
  unfold ASt.ok at h
  split at h
  · exact .inl (by assumption)
  · split at h
    · rename_i h2; rcases h2 with h2 | h2 | h2 <;> omega
    · split at h
      · omega
      · split at h
        · omega
        · cases h
theorem stepL_good {l : List Lot} {s : ASt} {r : List Lot} (G : GoodL l) (hs : s.ok = true) (h : stepL l s = some r) : GoodL r := by
  obtain ⟨k, i, b, v⟩ := s
  have hk : k = 1 ∨ k = 2 ∨ k = 3 ∨ k = 4 ∨ k = 5 ∨ k = 6 := kinds hs
  rcases hk with rfl | rfl | rfl | rfl | rfl | rfl
  · by_cases hf : findIx l i < 0
    · rw [step1_add hf] at h
      split at h
      · rename_i hg; injection h with h; subst h; exact goodL_iff.1 hg
      · cases h
    · rw [step1_none (by omega)] at h; cases h
  · by_cases hf : findIx l i < 0
    · rw [stepF_none (by omega) hf] at h; cases h
    · obtain ⟨j, hf', hj⟩ := find_at hf
      rw [step2_drop hf' hj] at h
      split at h
      · injection h with h; subst h; exact goodL_iff.1 (good_del G j)
      · cases h
  · by_cases hf : findIx l i < 0
    · rw [stepF_none (by omega) hf] at h; cases h
    · obtain ⟨j, hf', hj⟩ := find_at hf
      rw [step3_open hf' hj] at h
      split at h
      · rename_i hc; injection h with h; subst h; exact goodL_iff.1 (by rw [good_open G hj hc.1]; exact decide_eq_true hc.2)
      · cases h
  · by_cases ho : openIx l < 0
    · rw [step4_none ho] at h; cases h
    · obtain ⟨j, ho', hj⟩ := open_at ho
      rw [step4_bid ho' hj] at h
      split at h
      · injection h with h; subst h
        refine goodL_iff.1 (good_bid G hj ?_ rfl hs)
        obtain ⟨h1, h2, h3⟩ := idx_at (f := isOpen) (l := l) ho
        have e : (idxFrom isOpen 0 l).toNat = j := by have : openIx l = idxFrom isOpen 0 l := rfl; omega
        simp only [e] at h2
        exact eq_of_beq h2
      · cases h
  · by_cases ho : openIx l < 0
    · rw [step5_none ho] at h; cases h
    · obtain ⟨j, ho', hj⟩ := open_at ho
      rw [step5_knock ho' hj] at h
      injection h with h; subst h
      refine goodL_iff.1 (good_knock G hj ?_)
      obtain ⟨h1, h2, h3⟩ := idx_at (f := isOpen) (l := l) ho
      have e : (idxFrom isOpen 0 l).toNat = j := by have : openIx l = idxFrom isOpen 0 l := rfl; omega
      simp only [e] at h2
      exact eq_of_beq h2
  · by_cases hf : findIx l i < 0
    · rw [stepF_none (by omega) hf] at h; cases h
    · obtain ⟨j, hf', hj⟩ := find_at hf
      rw [step6_again hf' hj] at h
      split at h
      · injection h with h; subst h; exact goodL_iff.1 (good_again G hj)
      · cases h
/-- The steps of an auction, those left out that are not possible or not valid. -/
def runL : List ASt → List Lot → Int → List Lot × Int
  | [], l, n => (l, n)
  | s :: t, l, n => if s.ok then (match stepL l s with | some r => runL t r (n + 1) | none => runL t l n) else runL t l n
end Go.Proofs.YtkokbmmffkpclaaDoor

/- Who bought what: the plain law (no program in sight). -/
namespace Go.Proofs.YtkokbmmffkpclaaDoor
open Go.RowKit

abbrev soldTo (b : Int) : Lot → Bool := fun x => x.s == 2 && x.b == b
abbrev soldAny : Lot → Bool := fun x => x.s == 2
abbrev inSt (s : Int) : Lot → Bool := fun x => x.s == s
def idsF (f : Lot → Bool) (l : List Lot) : List Int := (l.filter f).map (·.i)
def sumF (f : Lot → Bool) (l : List Lot) : Int := ((l.filter f).map (·.h)).sum
theorem idsF_cons {f : Lot → Bool} {x : Lot} {l : List Lot} : idsF f (x :: l) = (if f x then [x.i] else []) ++ idsF f l := by
  unfold idsF; rw [List.filter_cons]; split <;> simp
theorem sumF_cons {f : Lot → Bool} {x : Lot} {l : List Lot} : sumF f (x :: l) = (if f x then x.h else 0) + sumF f l := by
  unfold sumF; rw [List.filter_cons]; split <;> simp
theorem idsF_yes {f : Lot → Bool} {l : List Lot} {k : Nat} (h : k < l.length) (hf : f l[k] = true) : idsF f (l.drop k) = [l[k].i] ++ idsF f (l.drop (k + 1)) := by
  rw [List.drop_eq_getElem_cons h, idsF_cons, if_pos hf]
theorem idsF_no {f : Lot → Bool} {l : List Lot} {k : Nat} (h : k < l.length) (hf : f l[k] = false) : idsF f (l.drop k) = idsF f (l.drop (k + 1)) := by
  rw [List.drop_eq_getElem_cons h, idsF_cons, if_neg (by simp [hf])]; rfl
theorem sumF_yes {f : Lot → Bool} {l : List Lot} {k : Nat} (h : k < l.length) (hf : f l[k] = true) : sumF f (l.drop k) = l[k].h + sumF f (l.drop (k + 1)) := by
  rw [List.drop_eq_getElem_cons h, sumF_cons, if_pos hf]
theorem sumF_no {f : Lot → Bool} {l : List Lot} {k : Nat} (h : k < l.length) (hf : f l[k] = false) : sumF f (l.drop k) = sumF f (l.drop (k + 1)) := by
  rw [List.drop_eq_getElem_cons h, sumF_cons, if_neg (by simp [hf])]; omega
theorem idsF_len (f : Lot → Bool) (l : List Lot) : (idsF f l).length ≤ l.length := by
  unfold idsF; rw [List.length_map]; exact List.length_filter_le _ _
def Pos (l : List Lot) : Prop := ∀ x ∈ l, 0 ≤ x.h ∧ x.h ≤ 99999
theorem GoodL.pos {l : List Lot} (G : GoodL l) : Pos l := fun x hx => inR_iff.1 (lot_ok_iff.1 (G.all x hx)).1.2.2.1
theorem sumF_bd {f : Lot → Bool} : ∀ {l : List Lot}, Pos l → 0 ≤ sumF f l ∧ sumF f l ≤ 100000 * l.length
  | [], _ => by simp [sumF]
  | x :: l, h => by
    have h1 := h x List.mem_cons_self
    have h2 := sumF_bd (f := f) (l := l) fun y hy => h y (List.mem_cons_of_mem _ hy)
    rw [sumF_cons, List.length_cons]
    split <;> omega
theorem sumF_le {f g : Lot → Bool} (hfg : ∀ x, f x = true → g x = true) : ∀ {l : List Lot}, Pos l → sumF f l ≤ sumF g l
  | [], _ => by simp [sumF]
  | x :: l, h => by
    have h1 := h x List.mem_cons_self
    have h2 := sumF_le hfg (l := l) fun y hy => h y (List.mem_cons_of_mem _ hy)
    rw [sumF_cons, sumF_cons]
    by_cases hf : f x = true
    · rw [if_pos hf, if_pos (hfg x hf)]; omega
    · rw [if_neg hf]; split <;> omega
/-- A sold lot of a good list. -/
theorem sold_pos {x : Lot} (h : x.ok = true) (hs : x.s = 2) : 1 ≤ x.h ∧ 1 ≤ x.b ∧ x.b ≤ 999 := by
  obtain ⟨⟨h1, h2, h3, h4, h5⟩, h6⟩ := lot_ok_iff.1 h
  have hb := inR_iff.1 h4
  unfold Lot.stOk at h6
  rw [hs] at h6
  simp at h6
  have h7 : ¬ x.h = 0 := by omega
  have h8 : (x.h == 0) = false := by simp [h7]
  rw [h8] at h5
  have h9 : (x.b == 0) = false := by cases hq : (x.b == 0) <;> simp_all
  have : x.b ≠ 0 := by simpa using h9
  omega
theorem sumF_mem {f : Lot → Bool} : ∀ {l : List Lot}, Pos l → ∀ x ∈ l, f x = true → x.h ≤ sumF f l
  | y :: l, h, x, hx, hf => by
    have h1 := h y List.mem_cons_self
    have hp : Pos l := fun z hz => h z (List.mem_cons_of_mem _ hz)
    have h2 := sumF_bd (f := f) (l := l) hp
    rw [sumF_cons]
    rcases List.mem_cons.1 hx with rfl | hx
    · rw [if_pos hf]; omega
    · have := sumF_mem hp x hx hf
      split <;> omega
theorem sumF_pos {f : Lot → Bool} : ∀ {l : List Lot}, 0 < sumF f l → ∃ x ∈ l, f x = true
  | [], h => by simp [sumF] at h
  | y :: l, h => by
    by_cases hf : f y = true
    · exact ⟨y, List.mem_cons_self, hf⟩
    · rw [sumF_cons, if_neg hf] at h
      obtain ⟨x, hx, h1⟩ := sumF_pos (f := f) (l := l) (by omega)
      exact ⟨x, List.mem_cons_of_mem _ hx, h1⟩
/-- The sum of a bidder. -/
abbrev sumB (l : List Lot) (b : Int) : Int := sumF (soldTo b) l
/-- What is best so far among the bidders that P allows. -/
structure BestOf (l : List Lot) (P : Int → Prop) (best most : Int) : Prop where
  none : most = 0 → best = 0
  some : most ≠ 0 → P best ∧ sumB l best = most ∧ 0 < most
  max : ∀ b, P b → sumB l b < most ∨ (sumB l b = most ∧ (most ≠ 0 → best ≤ b))
theorem BestOf.uniq {l : List Lot} {P : Int → Prop} {a b m n : Int} (h : BestOf l P a m) (h' : BestOf l P b n) : a = b ∧ m = n := by
  by_cases hm : m = 0
  · by_cases hn : n = 0
    · exact ⟨by rw [h.none hm, h'.none hn], by omega⟩
    · obtain ⟨p, s, q⟩ := h'.some hn
      have := h.max b p; omega
  · obtain ⟨p, s, q⟩ := h.some hm
    by_cases hn : n = 0
    · have := h'.max a p; omega
    · obtain ⟨p', s', q'⟩ := h'.some hn
      have h1 := h.max b p'
      have h2 := h'.max a p
      omega
theorem BestOf.start (l : List Lot) : BestOf l (fun _ => False) 0 0 := ⟨fun _ => rfl, fun h => absurd rfl h, fun _ h => h.elim⟩
theorem BestOf.weak {l : List Lot} {P Q : Int → Prop} {best most : Int} (h : BestOf l P best most) (hPQ : ∀ b, P b → Q b) (hQ : ∀ b, Q b → P b ∨ sumB l b = 0) (hp : Pos l) : BestOf l Q best most := by
  refine ⟨h.none, fun hm => ⟨hPQ _ (h.some hm).1, (h.some hm).2⟩, fun b hb => ?_⟩
  rcases hQ b hb with h1 | h1
  · exact h.max b h1
  · by_cases hm : most = 0
    · exact .inr ⟨by omega, fun h => absurd hm h⟩
    · have := (h.some hm).2.2; omega
/-- One more bidder. -/
theorem BestOf.add {l : List Lot} {P : Int → Prop} {best most : Int} (h : BestOf l P best most) (hp : Pos l) (b : Int) (hb : 1 ≤ b) : BestOf l (fun c => P c ∨ c = b) (if most < sumB l b ∨ (sumB l b = most ∧ b < best) then b else best) (if most < sumB l b then sumB l b else most) := by
  have h0 := (sumF_bd (f := soldTo b) hp).1
  have hS : 0 ≤ sumB l b := h0
  by_cases hm : most = 0
  · have hb0 := h.none hm
    by_cases hl : most < sumB l b
    · rw [if_pos (.inl hl), if_pos hl]
      refine ⟨fun e => by omega, fun _ => ⟨.inr rfl, rfl, by omega⟩, fun c hc => ?_⟩
      rcases hc with hc | rfl
      · have := h.max c hc; omega
      · exact .inr ⟨rfl, fun _ => Int.le_refl _⟩
    · have hz : sumB l b = 0 := by omega
      rw [if_neg (by omega), if_neg hl]
      refine ⟨fun _ => hb0, fun e => absurd hm e, fun c hc => ?_⟩
      rcases hc with hc | rfl
      · exact h.max c hc
      · exact .inr ⟨by omega, fun e => absurd hm e⟩
  · obtain ⟨p, s, q⟩ := h.some hm
    by_cases hl : most < sumB l b
    · rw [if_pos (.inl hl), if_pos hl]
      refine ⟨fun e => by omega, fun _ => ⟨.inr rfl, rfl, by omega⟩, fun c hc => ?_⟩
      rcases hc with hc | rfl
      · have := h.max c hc; omega
      · exact .inr ⟨rfl, fun _ => Int.le_refl _⟩
    · rw [if_neg hl]
      by_cases he : sumB l b = most ∧ b < best
      · rw [if_pos (.inr he)]
        refine ⟨fun e => absurd e hm, fun _ => ⟨.inr rfl, he.1, q⟩, fun c hc => ?_⟩
        rcases hc with hc | rfl
        · have := h.max c hc; omega
        · exact .inr ⟨he.1, fun _ => Int.le_refl _⟩
      · rw [if_neg (by omega)]
        refine ⟨fun e => absurd e hm, fun _ => ⟨.inl p, s, q⟩, fun c hc => ?_⟩
        rcases hc with hc | rfl
        · exact h.max c hc
        · omega
/-- The program's way: all bidders, one after another. -/
def bestGo (l : List Lot) : Nat → Int × Int
  | 0 => (0, 0)
  | n + 1 => if (bestGo l n).2 < sumB l (n + 1) then ((n : Int) + 1, sumB l (n + 1)) else bestGo l n
theorem bestGo_is {l : List Lot} (hp : Pos l) : ∀ n : Nat, BestOf l (fun b => 1 ≤ b ∧ b ≤ n) (bestGo l n).1 (bestGo l n).2 ∧ (bestGo l n).1 ≤ n ∧ 0 ≤ (bestGo l n).1 ∧ 0 ≤ (bestGo l n).2
  | 0 => by
    refine ⟨⟨fun _ => rfl, fun h => absurd rfl h, fun b hb => ?_⟩, by simp [bestGo], by simp [bestGo], by simp [bestGo]⟩
    have := hb.1; have := hb.2; omega
  | n + 1 => by
    obtain ⟨h1, h2, h3, h4⟩ := bestGo_is hp n
    have h5 := h1.add hp ((n : Int) + 1) (by omega)
    have e : (fun c : Int => (1 ≤ c ∧ c ≤ n) ∨ c = (n : Int) + 1) = fun c => 1 ≤ c ∧ c ≤ ((n + 1 : Nat) : Int) := by
      funext c; apply propext; constructor
      · rintro (h | rfl) <;> omega
      · intro h; omega
    rw [e] at h5
    have hn : ¬ ((n : Int) + 1 < (bestGo l n).1) := by omega
    by_cases hl : (bestGo l n).2 < sumB l ((n : Int) + 1)
    · have e2 : bestGo l (n + 1) = ((n : Int) + 1, sumB l ((n : Int) + 1)) := by unfold bestGo; rw [if_pos hl]
      rw [if_pos (.inl hl), if_pos hl] at h5
      rw [e2]; exact ⟨h5, by simp only; omega, by simp only; omega, by simp only; omega⟩
    · have e2 : bestGo l (n + 1) = bestGo l n := by rw [bestGo, if_neg hl]
      rw [if_neg (by omega), if_neg hl] at h5
      rw [e2]; exact ⟨h5, by omega, h3, h4⟩
/-- The reference's way: the bidders of the sold lots. -/
def bestS (l : List Lot) : List Lot → Int × Int → Int × Int
  | [], p => p
  | x :: r, p => if x.s = 2 then bestS l r (if p.2 < sumB l x.b ∨ (sumB l x.b = p.2 ∧ x.b < p.1) then (x.b, sumB l x.b) else p) else bestS l r p
theorem bestS_is {l : List Lot} (hp : Pos l) : ∀ (r : List Lot) (p : Int × Int) (P : Int → Prop), (∀ x ∈ r, x.ok = true) → BestOf l P p.1 p.2 → BestOf l (fun b => P b ∨ ∃ x ∈ r, x.s = 2 ∧ x.b = b) (bestS l r p).1 (bestS l r p).2
  | [], p, P, _, h => by
    have e : (fun b => P b ∨ ∃ x ∈ ([] : List Lot), x.s = 2 ∧ x.b = b) = P := by funext b; simp
    rw [e]; exact h
  | x :: r, p, P, hr, h => by
    have hr' := fun y hy => hr y (List.mem_cons_of_mem x hy)
    unfold bestS
    by_cases hs : x.s = 2
    · rw [if_pos hs]
      have hb := sold_pos (hr x List.mem_cons_self) hs
      have h1 := h.add hp x.b hb.2.1
      have e3 : BestOf l (fun c => P c ∨ c = x.b) (if p.2 < sumB l x.b ∨ (sumB l x.b = p.2 ∧ x.b < p.1) then (x.b, sumB l x.b) else p).1 (if p.2 < sumB l x.b ∨ (sumB l x.b = p.2 ∧ x.b < p.1) then (x.b, sumB l x.b) else p).2 := by
        by_cases hc : p.2 < sumB l x.b ∨ (sumB l x.b = p.2 ∧ x.b < p.1)
        · rw [if_pos hc] at h1 ⊢
          have e4 : (if p.2 < sumB l x.b then sumB l x.b else p.2) = sumB l x.b := by split <;> omega
          rw [e4] at h1; exact h1
        · rw [if_neg hc] at h1 ⊢
          rw [if_neg (by omega)] at h1; exact h1
      have h2 := bestS_is hp r _ _ hr' e3
      have e : (fun b => (P b ∨ b = x.b) ∨ ∃ y ∈ r, y.s = 2 ∧ y.b = b) = fun b => P b ∨ ∃ y ∈ x :: r, y.s = 2 ∧ y.b = b := by
        funext b; apply propext; constructor
        · rintro ((h | rfl) | ⟨y, hy, h1, h2⟩)
          · exact .inl h
          · exact .inr ⟨x, List.mem_cons_self, hs, rfl⟩
          · exact .inr ⟨y, List.mem_cons_of_mem _ hy, h1, h2⟩
        · rintro (h | ⟨y, hy, q1, q2⟩)
          · exact .inl (.inl h)
          · rcases List.mem_cons.1 hy with e9 | hy
            · subst e9; exact .inl (.inr (Eq.symm q2))
            · exact .inr ⟨y, hy, q1, q2⟩
      rw [e] at h2; exact h2
    · rw [if_neg hs]
      have h2 := bestS_is hp r p P hr' h
      have e : (fun b => P b ∨ ∃ y ∈ r, y.s = 2 ∧ y.b = b) = fun b => P b ∨ ∃ y ∈ x :: r, y.s = 2 ∧ y.b = b := by
        funext b; apply propext; constructor
        · rintro (h | ⟨y, hy, h1, h2⟩)
          · exact .inl h
          · exact .inr ⟨y, List.mem_cons_of_mem _ hy, h1, h2⟩
        · rintro (h | ⟨y, hy, h1, h2⟩)
          · exact .inl h
          · rcases List.mem_cons.1 hy with rfl | hy
            · exact absurd h1 hs
            · exact .inr ⟨y, hy, h1, h2⟩
      rw [e] at h2; exact h2
theorem best_same {l : List Lot} (G : GoodL l) : bestS l l (0, 0) = bestGo l 999 := by
  have hp := G.pos
  obtain ⟨h1, h2, h3, h4⟩ := bestGo_is hp 999
  have h5 := bestS_is hp l (0, 0) (fun _ => False) G.all (BestOf.start l)
  have h6 : BestOf l (fun b => 1 ≤ b ∧ b ≤ ((999 : Nat) : Int)) (bestS l l (0, 0)).1 (bestS l l (0, 0)).2 := by
    refine h5.weak (fun b hb => ?_) (fun b hb => ?_) hp
    · rcases hb with h | ⟨x, hx, hs, rfl⟩
      · exact h.elim
      · have := sold_pos (G.all x hx) hs; omega
    · by_cases hz : sumB l b = 0
      · exact .inr hz
      · have h0 := (sumF_bd (f := soldTo b) hp).1
        obtain ⟨x, hx, hf⟩ := sumF_pos (f := soldTo b) (l := l) (by have : 0 ≤ sumB l b := h0; have : sumB l b = sumF (soldTo b) l := rfl; omega)
        simp only [soldTo, Bool.and_eq_true, beq_iff_eq] at hf
        exact .inl (.inr ⟨x, hx, hf.1, hf.2⟩)
  obtain ⟨e1, e2⟩ := h6.uniq h1
  exact Prod.ext e1 e2
/-- The law's facts. -/
theorem best_facts {l : List Lot} (G : GoodL l) : (0 < (bestGo l 999).1 ↔ 0 < sumF soldAny l) ∧ (∀ b, 1 ≤ b → b ≤ 999 → sumB l b ≤ sumB l (bestGo l 999).1) ∧ (∀ b, sumB l b ≤ sumF soldAny l) ∧ ((bestGo l 999).1 ≤ 999) ∧ 0 ≤ (bestGo l 999).1 := by
  have hp := G.pos
  obtain ⟨h1, h2, h3, h4⟩ := bestGo_is hp 999
  have hle : ∀ b, sumB l b ≤ sumF soldAny l := fun b => sumF_le (fun x hx => by simp only [soldTo, Bool.and_eq_true] at hx; exact hx.1) hp
  have hmx : ∀ b, 1 ≤ b → b ≤ 999 → sumB l b ≤ (bestGo l 999).2 := fun b q1 q2 => by
    rcases h1.max b ⟨q1, q2⟩ with h | h <;> omega
  have hbm : sumB l (bestGo l 999).1 = (bestGo l 999).2 := by
    by_cases hm : (bestGo l 999).2 = 0
    · rw [h1.none hm, hm]
      have hz : ∀ x ∈ l, soldTo 0 x = false := fun x hx => by
        cases hq : soldTo 0 x with
        | false => rfl
        | true =>
          simp only [soldTo, Bool.and_eq_true, beq_iff_eq] at hq
          have := sold_pos (G.all x hx) hq.1; omega
      have : (l.filter (soldTo 0)) = [] := List.filter_eq_nil_iff.2 fun x hx => by rw [hz x hx]; simp
      unfold sumB sumF; rw [this]; rfl
    · exact (h1.some hm).2.1
  refine ⟨⟨fun h => ?_, fun h => ?_⟩, fun b q1 q2 => by rw [hbm]; exact hmx b q1 q2, hle, by have := h2; omega, h3⟩
  · by_cases hm : (bestGo l 999).2 = 0
    · have := h1.none hm; omega
    · have := (h1.some hm).2.2
      have := hle (bestGo l 999).1; omega
  · obtain ⟨x, hx, hf⟩ := sumF_pos h
    have hs : x.s = 2 := by simpa [soldAny] using hf
    have hb := sold_pos (G.all x hx) hs
    have h5 := sumF_mem (f := soldTo x.b) hp x hx (by simp [soldTo, hs])
    have h6 := hmx x.b hb.2.1 hb.2.2
    have h7 : sumB l x.b = sumF (soldTo x.b) l := rfl
    by_cases hm : (bestGo l 999).2 = 0
    · omega
    · have := (h1.some hm).1.1; omega
theorem states_all : ∀ {l : List Lot}, (∀ x ∈ l, x.ok = true) → (idsF (inSt 0) l).length + (idsF (inSt 1) l).length + (idsF (inSt 2) l).length + (idsF (inSt 3) l).length = l.length
  | [], _ => rfl
  | x :: l, h => by
    have h1 := states_all (l := l) fun y hy => h y (List.mem_cons_of_mem _ hy)
    have h2 := (lot_ok_iff.1 (h x List.mem_cons_self)).2
    have hs : x.s = 0 ∨ x.s = 1 ∨ x.s = 2 ∨ x.s = 3 := by
      unfold Lot.stOk at h2
      by_cases a0 : x.s = 0
      · exact .inl a0
      · by_cases a1 : x.s = 1
        · exact .inr (.inl a1)
        · by_cases a2 : x.s = 2
          · exact .inr (.inr (.inl a2))
          · by_cases a3 : x.s = 3
            · exact .inr (.inr (.inr a3))
            · simp [a0, a1, a2, a3] at h2
    rw [idsF_cons, idsF_cons, idsF_cons, idsF_cons]
    rcases hs with e | e | e | e <;> simp [inSt, e] <;> omega
end Go.Proofs.YtkokbmmffkpclaaDoor

/- Copies of slices of ints: the reference's l1Own, the library's slices.Clone. -/
namespace Go.Proofs.YtkokbmmffkpclaaDoor
open Go.RowKit

theorem infoI : (Tryd.prog.info? 3).map (fun i => (i.zero, i.size, i.bytes)) = some (some (.int .i64 0), 1, 8) := by kernel_rfl

/-- The result: a slice of the call's own that holds l. -/
def GivesInts (w : World) (l : List Int) (e : Ending) (w' : World) : Prop := ∃ A c, e = .returned (.slice A l.length c) ∧ OwnS w' w.heap.size 3 1 A l.length (encIs l) ∧ Below w.heap.size w w'
theorem GivesInts.mk {w w' : World} {l : List Int} {v : Value} (h : w'.ownsRow w.heap.size 3 1 v l.length (encIs l)) (hb : Below w.heap.size w w') : GivesInts w l (.returned v) w' := by
  obtain ⟨A, c, rfl⟩ := ownsRow_slice h
  exact ⟨A, c, rfl, OwnS.of h, hb⟩

end Go.Proofs.YtkokbmmffkpclaaDoor

/- cmp.Compare of numbers. -/
namespace Go.Proofs.YtkokbmmffkpclaaDoor
open Go.RowKit

def cmpI (a b : Int) : Int := if a < b then -1 else if b < a then 1 else 0
theorem isNaN_any (a : Int) (w : World) : Calls Tryd.prog 60 #[.int .i64 a] w fun e w' => e = .returned (.bool false) ∧ w = w' := by
  have hv : (a != a) = false := by simp
  go_enter Tryd.func60, Tryd.ntmps60
  go_wp2
  go_ret
  exact ⟨rfl, rfl⟩
theorem compare_any (a b : Int) (w : World) : Calls Tryd.prog 50 #[.int .i64 a, .int .i64 b] w fun e w' => e = .returned (.int .i64 (cmpI a b)) ∧ w = w' := by
  have ha := fun W => isNaN_any a W
  have hb := fun W => isNaN_any b W
  by_cases h1 : a < b
  · have HE : Hid (cmpI a b = -1) := by unfold Hid cmpI; rw [if_pos h1]
    go_enter Tryd.func50, Tryd.ntmps50
    go_wp2_with fail
    refine (ha _).mono ?_
    rintro e w' ⟨rfl, rfl⟩
    go_wp2_with fail
    refine (hb _).mono ?_
    rintro e w' ⟨rfl, rfl⟩
    go_wp2
    go_ret
    exact ⟨by rw [HE.out]; rfl, rfl⟩
  · by_cases h2 : b < a
    · have HE : Hid (cmpI a b = 1) := by unfold Hid cmpI; rw [if_neg h1, if_pos h2]
      go_enter Tryd.func50, Tryd.ntmps50
      go_wp2_with fail
      refine (ha _).mono ?_
      rintro e w' ⟨rfl, rfl⟩
      go_wp2_with fail
      refine (hb _).mono ?_
      rintro e w' ⟨rfl, rfl⟩
      go_wp2
      go_ret
      exact ⟨by rw [HE.out]; rfl, rfl⟩
    · have HE : Hid (cmpI a b = 0) := by unfold Hid cmpI; rw [if_neg h1, if_neg h2]
      go_enter Tryd.func50, Tryd.ntmps50
      go_wp2_with fail
      refine (ha _).mono ?_
      rintro e w' ⟨rfl, rfl⟩
      go_wp2_with fail
      refine (hb _).mono ?_
      rintro e w' ⟨rfl, rfl⟩
      go_wp2
      go_ret
      exact ⟨by rw [HE.out]; rfl, rfl⟩
end Go.Proofs.YtkokbmmffkpclaaDoor

/- Rows of the call's own, and slices that read (no program in sight). -/
namespace Go.Proofs.YtkokbmmffkpclaaDoor
open Go.RowKit

theorem ownsRow_below {w w' : World} {B : Nat} {e : TypeId} {k : Nat} {v : Value} {n : Nat} {xs : List Value} (h : w.ownsRow B e k v n xs) (hb : Below w.heap.size w w') : w'.ownsRow B e k v n xs := by
  obtain ⟨hl, h0 | ⟨g, cap, cur, hv, hg, hh, h1, h2, h3, h4⟩⟩ := h
  · exact ⟨hl, .inl h0⟩
  · have hlt : g < w.heap.size := by
      rcases Nat.lt_or_ge g w.heap.size with hlt | hge
      · exact hlt
      · rw [Array.getElem?_eq_none hge] at hh; cases hh
    exact ⟨hl, .inr ⟨g, cap, cur, hv, hg, (hb.block g hlt).trans hh, h1, h2, h3, h4⟩⟩
/-- Rows of other types lie elsewhere. -/
theorem ownsRow_far {w : World} {B : Nat} {e t : TypeId} {k : Nat} {v : Value} {n : Nat} {xs cs : List Value} (h : w.ownsRow B e k v n xs) {g : Nat} (hg : Lies w g t cs) (hne : e ≠ t) : some g ≠ v.ownBlock := by
  obtain ⟨_, ⟨rfl, _⟩ | ⟨g', cap, cur, rfl, _, hh, _⟩⟩ := h
  · simp [Value.ownBlock]
  · intro he
    simp only [Value.ownBlock, Option.some.injEq] at he
    subst he
    unfold Lies at hg
    rw [hg] at hh
    injection hh with hh; injection hh with _ h2; exact hne h2.symm
theorem ownsRow_lower {w : World} {B B' : Nat} {e : TypeId} {k : Nat} {v : Value} {n : Nat} {xs : List Value} (h : w.ownsRow B e k v n xs) (hB : B' ≤ B) : w.ownsRow B' e k v n xs := by
  obtain ⟨hl, h0 | ⟨g, cap, cur, hv, hg, hh⟩⟩ := h
  · exact ⟨hl, .inl h0⟩
  · exact ⟨hl, .inr ⟨g, cap, cur, hv, Nat.le_trans hB hg, hh⟩⟩
/-- Two rows of the call's own, of different types: one grows, the other stays. -/
theorem ownsRow_two {w w' : World} {B B' : Nat} {e e' : TypeId} {k k' : Nat} {v v' : Value} {n n' : Nat} {xs xs' : List Value} (h : w.ownsRow B e k v n xs) (h' : w.ownsRow B' e' k' v' n' xs') (hne : e' ≠ e) (hg : w.grownBy w' v'.ownBlock) : w'.ownsRow B e k v n xs := by
  refine h.kept hg ?_
  obtain ⟨_, ⟨h1, _⟩ | ⟨g, cap, cur, h1, _, hh, _⟩⟩ := h
  · left; rw [h1]; rfl
  · right
    rw [h1]
    exact ownsRow_far h' (g := g) (t := e) (cs := cur.toList) (Lies.of hh) hne
def lenOf : Value → Nat
  | .slice _ n _ => n
  | _ => 0
end Go.Proofs.YtkokbmmffkpclaaDoor

/- Rows of the call's own: what becomes of them (no program's function in sight). -/
namespace Go.Proofs.YtkokbmmffkpclaaDoor
open Go.RowKit

/-- A cell of a block of another type is written. -/
theorem ownsRow_setOther {w : World} {B : Nat} {e t : TypeId} {k : Nat} {v : Value} {n : Nat} {xs cs : List Value} (h : w.ownsRow B e k v n xs) {g : Nat} (hg : Lies w g t cs) (hne : e ≠ t) (i : Nat) (u : Value) : (w.setCell ⟨g, i, none⟩ u).ownsRow B e k v n xs := by
  have hf := ownsRow_far h hg hne
  obtain ⟨hl, h0 | ⟨g', cap, cur, hv, hg', hh, h1⟩⟩ := h
  · exact ⟨hl, .inl h0⟩
  · refine ⟨hl, .inr ⟨g', cap, cur, hv, hg', (Below.heap_setCell w _ u g' ?_).trans hh, h1⟩⟩
    intro e'
    subst hv
    exact hf (by simp only [Value.ownBlock]; rw [e'])
/-- The row lies in memory. -/
theorem ownsRow_at {w : World} {B : Nat} {e : TypeId} {k : Nat} {v : Value} {n : Nat} {xs : List Value} (h : w.ownsRow B e k v n xs) (hn : 0 < n) : ∃ g cap rest, v = .slice (some ⟨g, 0, none⟩) n cap ∧ B ≤ g ∧ Lies w g e (xs ++ rest) ∧ n ≤ cap := by
  obtain ⟨hl, h0 | ⟨g, cap, cur, hv, hg, hh, h1, h2, h3, h4⟩⟩ := h
  · omega
  · refine ⟨g, cap, cur.toList.drop (n * k), hv, hg, ?_, h1⟩
    have : xs ++ cur.toList.drop (n * k) = cur.toList := by rw [← h4]; exact List.take_append_drop _ _
    rw [this]; exact Lies.of hh
/-- One cell of the row is written. -/
theorem ownsRow_set {w : World} {B g cap : Nat} {e : TypeId} {k n : Nat} {xs : List Value} (h : w.ownsRow B e k (.slice (some ⟨g, 0, none⟩) n cap) n xs) (j : Nat) (u : Value) (hj : j < n * k) : (w.setCell ⟨g, j, none⟩ u).ownsRow B e k (.slice (some ⟨g, 0, none⟩) n cap) n (xs.set j u) := by
  obtain ⟨hl, h0 | ⟨g', cap', cur, hv, hg, hh, h1, h2, h3, h4⟩⟩ := h
  · cases h0.1
  · injection hv with e1 e2 e3
    injection e1 with e1; injection e1 with e1; subst e1; subst e3
    have hL := (Lies.of hh).set j u
    exact ⟨by rw [List.length_set]; exact hl, .inr ⟨g, cap, (cur.toList.set j u).toArray, rfl, hg, hL, h1, h2, by simp [h3], by show List.take _ (cur.toList.set j u) = _; rw [List.take_set, h4]⟩⟩
theorem ownsRow_drew {w : World} {B : Nat} {e : TypeId} {k : Nat} {v : Value} {n : Nat} {xs : List Value} (h : w.ownsRow B e k v n xs) : w.drew.ownsRow B e k v n xs := h
theorem ownsRow_reads {w : World} {B : Nat} {e : TypeId} {k : Nat} {A : Option Addr} {n c : Nat} {xs : List Value} (h : w.ownsRow B e k (.slice A n c) n xs) : SlcR w w.heap.size k A n xs := by
  obtain ⟨hl, h0 | ⟨g, cap, cur, hv, hg, hh, h1, h2, h3, h4⟩⟩ := h
  · exact ⟨hl, by omega, fun hn => by omega⟩
  · injection hv with e1 _ _
    refine ⟨hl, by unfold maxLen at h2; omega, fun hn => ⟨g, 0, e1, (Lies.of hh).lt, fun j u hu => ?_⟩⟩
    rw [Nat.zero_add, (Lies.of hh).cell]
    rw [← h4, List.getElem?_take] at hu
    split at hu
    · exact hu
    · cases hu
/-- A block of another type turns. -/
theorem ownsRow_keptG {w w' : World} {B : Nat} {e t : TypeId} {k : Nat} {v : Value} {n : Nat} {xs cs : List Value} (h : w.ownsRow B e k v n xs) {g : Nat} (hL : Lies w g t cs) (hne : e ≠ t) (hg : w.grownBy w' (some g)) : w'.ownsRow B e k v n xs :=
  h.kept hg (.inr fun e' => ownsRow_far h hL hne e'.symm)
end Go.Proofs.YtkokbmmffkpclaaDoor

/- Rows of lots of the call's own: one field is written. -/
namespace Go.Proofs.YtkokbmmffkpclaaDoor
open Go.RowKit

theorem flat_setF {α : Type} (enc : α → List Value) (k : Nat) (hk : ∀ x, (enc x).length = k) {o : Nat} {u : Value} : ∀ {l : List α} {i : Nat} {y : α} (h : i < l.length), o < k → enc y = (enc l[i]).set o u → (l.flatMap enc).set (i * k + o) u = (l.set i y).flatMap enc
  | x :: l, 0, y, _, ho, he => by
    simp only [List.getElem_cons_zero] at he
    simp only [Nat.zero_mul, Nat.zero_add, List.flatMap_cons, List.set_cons_zero]
    rw [List.set_append_left _ _ (by rw [hk]; exact ho), ← he]
  | x :: l, i + 1, y, h, ho, he => by
    simp only [List.flatMap_cons, List.set_cons_succ]
    have e : (i + 1) * k + o = (enc x).length + (i * k + o) := by rw [hk, Nat.succ_mul]; omega
    rw [e, List.set_append_right _ _ (by omega), Nat.add_sub_cancel_left, flat_setF enc k hk (l := l) (i := i) (by simpa using h) ho (by simpa using he)]
theorem flat_takeL : ∀ (l : List Lot) (i : Nat), (l.take i).flatMap Lot.enc = (l.flatMap Lot.enc).take (i * 5)
  | [], i => by simp
  | x :: l, 0 => by simp
  | x :: l, i + 1 => by
    have e : (i + 1) * 5 = x.enc.length + i * 5 := by rw [Lot.enc_len]; omega
    rw [List.take_succ_cons, List.flatMap_cons, List.flatMap_cons, e, List.take_length_add_append, flat_takeL l i]
theorem flat_dropL : ∀ (l : List Lot) (i : Nat), (l.drop i).flatMap Lot.enc = (l.flatMap Lot.enc).drop (i * 5)
  | [], i => by simp
  | x :: l, 0 => by simp
  | x :: l, i + 1 => by
    have e : (i + 1) * 5 = x.enc.length + i * 5 := by rw [Lot.enc_len]; omega
    rw [List.drop_succ_cons, List.flatMap_cons, e, List.drop_length_add_append, flat_dropL l i]
/-- Lots of the call's own. -/
abbrev OwnL (w : World) (B : Nat) (A : Option Addr) (c : Nat) (l : List Lot) : Prop := w.ownsRow B 41 5 (.slice A l.length c) l.length (l.flatMap Lot.enc)
theorem OwnL.reads {w : World} {B : Nat} {A : Option Addr} {c : Nat} {l : List Lot} (h : OwnL w B A c l) : LotsR w w.heap.size A l := ownsRow_reads h
theorem OwnL.block {w : World} {B : Nat} {A : Option Addr} {c : Nat} {l : List Lot} (h : OwnL w B A c l) (hn : 0 < l.length) : ∃ g, A = some ⟨g, 0, none⟩ ∧ B ≤ g ∧ g < w.heap.size ∧ l.length ≤ c := by
  obtain ⟨g, cap, rest, hv, hB, hL, hc⟩ := ownsRow_at h hn
  injection hv with h1 h2 h3
  subst h3
  exact ⟨g, h1, hB, hL.lt, hc⟩
/-- One field of one lot is written. -/
theorem OwnL.set {w : World} {B g c : Nat} {l : List Lot} (h : OwnL w B (some ⟨g, 0, none⟩) c l) {i : Nat} (hi : i < l.length) (o : Nat) (ho : o < 5) (u : Value) (y : Lot) (hy : y.enc = l[i].enc.set o u) :
    OwnL (w.setCell ⟨g, i * 5 + o, none⟩ u) B (some ⟨g, 0, none⟩) c (l.set i y) ∧ Below B w (w.setCell ⟨g, i * 5 + o, none⟩ u) ∧ w.frozen? ⟨g, i * 5 + o, none⟩ = false ∧ w.cell? ⟨g, i * 5 + o, none⟩ = (l[i].enc)[o]? := by
  have hj : i * 5 + o < l.length * 5 := by omega
  obtain ⟨hB, hlt⟩ := h.lt g rfl
  have ht := ownsRow_set h (i * 5 + o) u hj
  rw [flat_setF Lot.enc 5 Lot.enc_len hi ho hy] at ht
  refine ⟨by unfold OwnL; rw [List.length_set]; exact ht, ?_, h.frozenAt _, ?_⟩
  · exact (Below.refl B w).grown (grown_set (World.grownBy.refl w (some g))) (Nat.le_of_lt (Nat.lt_of_le_of_lt hB hlt)) (by rintro _ ⟨⟩; exact hB)
  · rw [h.cellAt _ hj, flat_at Lot.enc 5 Lot.enc_len l i hi o ho]
theorem OwnL.below {w w' : World} {B : Nat} {A : Option Addr} {c : Nat} {l : List Lot} (h : OwnL w B A c l) (hb : Below w.heap.size w w') : OwnL w' B A c l := ownsRow_below h hb
end Go.Proofs.YtkokbmmffkpclaaDoor

/- A region whose order is drawn, by one fact on each operation: no orders are walked. -/
namespace Go.Proofs.YtkokbmmffkpclaaDoor
open Go.RowKit

section
variable {P : Program} {ops : Array Oper} {Q : Exit → Act → World → Prop} {md : Region.Mode}

/-- The values vs in the temporaries of the operations. -/
def fillOps (vs : Nat → Value) : List Oper → Nat → Act → Act
  | [], _, a => a
  | o :: l, k, a => fillOps vs l (k + 1) (a.put o.dst (vs k))
def dstsApart : List Oper → Bool
  | [] => true
  | o :: l => l.all (fun p => match o.dst with | none => true | some d => p.dst != some d) && dstsApart l
def upd (vs : Nat → Value) (i : Nat) (v : Value) : Nat → Value := fun j => if j = i then v else vs j

theorem fillOps_put (vs : Nat → Value) {d : Option Tmp} {v : Value} : ∀ (l : List Oper) (k : Nat) (a : Act), (∀ p ∈ l, ∀ t, d = some t → p.dst ≠ some t) → (fillOps vs l k a).put d v = fillOps vs l k (a.put d v)
  | [], _, _, _ => rfl
  | o :: l, k, a, h => by
    unfold fillOps
    rw [fillOps_put vs l (k + 1) _ (fun p hp => h p (List.mem_cons_of_mem _ hp))]
    rw [Act.put_comm a (vs k) v (x := o.dst) (y := d) (fun t ht hd => h o (by simp) t hd ht)]
theorem fillOps_congr {vs vs' : Nat → Value} : ∀ (l : List Oper) (k : Nat) (a : Act), (∀ j, k ≤ j → vs j = vs' j) → fillOps vs l k a = fillOps vs' l k a
  | [], _, _, _ => rfl
  | o :: l, k, a, h => by
    unfold fillOps
    rw [h k (Nat.le_refl _), fillOps_congr l (k + 1) _ (fun j hj => h j (by omega))]
theorem Act.put_put (a : Act) (d : Option Tmp) (u v : Value) : (a.put d u).put d v = a.put d v := by
  cases d with
  | none => rfl
  | some d =>
    simp only [Act.put]
    congr 1
    apply Array.ext (by simp)
    intro i h1 h2
    simp
theorem fillOps_upd : ∀ (l : List Oper) (k : Nat) (a : Act) (vs : Nat → Value) (i : Nat) (o : Oper) (v : Value), dstsApart l = true → l[i]? = some o →
    (fillOps vs l k a).put o.dst v = fillOps (upd vs (k + i) v) l k a
  | [], _, _, _, _, _, _, _, h => by simp at h
  | p :: l, k, a, vs, 0, o, v, hd, h => by
    simp only [List.getElem?_cons_zero, Option.some.injEq] at h; subst h
    simp only [dstsApart, Bool.and_eq_true, List.all_eq_true] at hd
    unfold fillOps
    rw [fillOps_put vs l (k + 1) _ (fun q hq t ht => by
      have := hd.1 q hq; rw [ht] at this; simpa using this), Act.put_put]
    rw [fillOps_congr (vs := vs) (vs' := upd vs (k + 0) v) l (k + 1) _ (fun j hj => by unfold upd; rw [if_neg (by omega)])]
    congr 2
    simp [upd]
  | p :: l, k, a, vs, i + 1, o, v, hd, h => by
    simp only [dstsApart, Bool.and_eq_true] at hd
    unfold fillOps
    rw [fillOps_upd l (k + 1) _ vs i o v hd.2 (by simpa using h)]
    have : k + 1 + i = k + (i + 1) := by omega
    rw [this]
    congr 2
    unfold upd; rw [if_neg (by omega)]
theorem Act.put_self (a : Act) (t : Tmp) (u : Value) : a.put (some t) (a.tmps.getD t u) = a := by
  simp only [Act.put]
  obtain ⟨tmps, defers⟩ := a
  congr 1
  apply Array.ext_getElem?
  intro i
  by_cases e : t = i
  · subst e
    by_cases h2 : t < tmps.size
    · simp [h2]
    · simp [h2]
  · rw [Array.getElem?_setIfInBounds_ne e]
theorem fillOps_self (vs : Nat → Value) : ∀ (l : List Oper) (k : Nat) (a : Act), (∀ i o t, l[i]? = some o → o.dst = some t → vs (k + i) = a.tmps.getD t undef) → fillOps vs l k a = a
  | [], _, _, _ => rfl
  | o :: l, k, a, h => by
    unfold fillOps
    have e : a.put o.dst (vs k) = a := by
      cases hd : o.dst with
      | none => rfl
      | some t =>
        have h0 := h 0 o t (by simp) hd
        rw [Nat.add_zero] at h0
        rw [h0, Act.put_self]
    rw [e]
    exact fillOps_self vs l (k + 1) a (fun i o' t h1 h2 => by
      have := h (i + 1) o' t (by simpa using h1) h2
      rwa [show k + (i + 1) = k + 1 + i by omega] at this)

/-- j comes ahead of k, whatever order is drawn. -/
def ahead (md : Region.Mode) (ops : Array Oper) : Nat → Nat → Nat → Bool
  | 0, _, _ => false
  | fuel + 1, k, j => match ops[k]? with
    | none => false
    | some o => o.after.any fun e => Region.binds md e && (e.on == j || ahead md ops fuel e.on j)
def edgesDown (md : Region.Mode) (ops : Array Oper) : Bool :=
  (List.range ops.size).all fun k => match ops[k]? with
    | none => true
    | some o => o.after.all fun e => !Region.binds md e || decide (e.on < k)

def Closed (md : Region.Mode) (ops : Array Oper) (listed : Array Bool) : Prop :=
  ∀ j o, ops[j]? = some o → listed.getD j false = true → ∀ e ∈ o.after, Region.binds md e = true → listed.getD e.on false = true

theorem ahead_listed {listed : Array Bool} (hc : Closed md ops listed) : ∀ (fuel k j : Nat), (∀ o, ops[k]? = some o → ∀ e ∈ o.after, Region.binds md e = true → listed.getD e.on false = true) → ahead md ops fuel k j = true → listed.getD j false = true
  | 0, _, _, _, h => by simp [ahead] at h
  | fuel + 1, k, j, hk, h => by
    unfold ahead at h
    cases ho : ops[k]? with
    | none => simp [ho] at h
    | some o =>
      simp only [ho] at h
      obtain ⟨e, he, hb⟩ := Array.any_eq_true'.1 h
      simp only [Bool.and_eq_true, Bool.or_eq_true, beq_iff_eq] at hb
      have h1 := hk o ho e he hb.1
      rcases hb.2 with h2 | h2
      · rw [← h2]; exact h1
      · exact ahead_listed hc fuel e.on j (fun o' ho' => hc e.on o' ho' h1) h2

/-- The walk: a fact R on each operation's value; the facts of those that come ahead are at hand. -/
def wpFacts (P : Program) (ops : Array Oper) (Q : Exit → Act → World → Prop) (C : World → Prop) (T : World → World → Prop) (fr : (Nat → Value) → Act) : Nat → List Oper → List (Value → World → Prop) → Prop
  | _, [], Rs => ∀ vs w, C w → (∀ (j : Nat) (R : Value → World → Prop), Rs[j]? = some R → R (vs j) w) → Q .normal (fr vs) w
  | k, o :: l, Rs => ∃ R : Value → World → Prop, (∀ v w w', R v w → T w w' → R v w') ∧
    (∀ vs w, C w → (∀ (j : Nat) (R' : Value → World → Prop), ahead .any ops ops.size k j = true → Rs[j]? = some R' → R' (vs j) w) → ∀ K : Act → World → Prop, (∀ a' v w', a' = (fr vs).put o.dst v → R v w' → C w' → T w w' → K a' w') →
      if Region.wanted o (yielded ops (fr vs).tmps) = true then o.wp P (fr vs) w K Q else K ((fr vs).put o.dst undef) w) ∧
    wpFacts P ops Q C T fr (k + 1) l (Rs ++ [R])

/-- What the walk gives: the facts, one for each operation. -/
theorem wpFacts_all {C : World → Prop} {T : World → World → Prop} {fr : (Nat → Value) → Act} : ∀ (l : List Oper) (k : Nat) (Rs : List (Value → World → Prop)), (∀ i, l[i]? = ops[k + i]?) → Rs.length = k →
    (∀ (j : Nat) (R : Value → World → Prop), Rs[j]? = some R → ∀ v w w', R v w → T w w' → R v w') →
    (∀ (j : Nat) (o : Oper) (R : Value → World → Prop), j < k → ops[j]? = some o → Rs[j]? = some R → ∀ vs w, C w → (∀ (j' : Nat) (R' : Value → World → Prop), ahead .any ops ops.size j j' = true → j' < j → Rs[j']? = some R' → R' (vs j') w) → ∀ K : Act → World → Prop, (∀ a' v w', a' = (fr vs).put o.dst v → R v w' → C w' → T w w' → K a' w') →
      if Region.wanted o (yielded ops (fr vs).tmps) = true then o.wp P (fr vs) w K Q else K ((fr vs).put o.dst undef) w) →
    wpFacts P ops Q C T fr k l Rs →
    ∃ Rs' : List (Value → World → Prop), Rs'.length = k + l.length ∧ (∀ (j : Nat) (R : Value → World → Prop), Rs'[j]? = some R → ∀ v w w', R v w → T w w' → R v w') ∧
    (∀ (j : Nat) (o : Oper) (R : Value → World → Prop), ops[j]? = some o → Rs'[j]? = some R → ∀ vs w, C w → (∀ (j' : Nat) (R' : Value → World → Prop), ahead .any ops ops.size j j' = true → j' < j → Rs'[j']? = some R' → R' (vs j') w) → ∀ K : Act → World → Prop, (∀ a' v w', a' = (fr vs).put o.dst v → R v w' → C w' → T w w' → K a' w') →
      if Region.wanted o (yielded ops (fr vs).tmps) = true then o.wp P (fr vs) w K Q else K ((fr vs).put o.dst undef) w) ∧
    (∀ vs w, C w → (∀ (j : Nat) (R : Value → World → Prop), Rs'[j]? = some R → R (vs j) w) → Q .normal (fr vs) w)
  | [], k, Rs, hl, hlen, hst, hop, h => by
    refine ⟨Rs, by simpa using hlen, hst, fun j o R ho hR => hop j o R ?_ ho hR, h⟩
    rw [← hlen]; exact (List.getElem?_eq_some_iff.1 hR).1
  | o :: l, k, Rs, hl, hlen, hst, hop, h => by
    obtain ⟨R, hRs, hRo, hrest⟩ := h
    have ho : ops[k]? = some o := by simpa using (hl 0).symm
    have hold : ∀ j, j < k → (Rs ++ [R])[j]? = Rs[j]? := fun j hj => List.getElem?_append_left (by omega)
    have hnew : (Rs ++ [R])[k]? = some R := by rw [List.getElem?_append_right (by omega), hlen]; simp
    obtain ⟨Rs', h1, h2, h3, h4⟩ := wpFacts_all l (k + 1) (Rs ++ [R]) (fun i => by have := hl (i + 1); simpa [Nat.add_assoc, Nat.add_comm 1 i] using this) (by simp [hlen])
      (fun j R' hR' => by
        rcases Nat.lt_trichotomy j k with hj | hj | hj
        · rw [hold j hj] at hR'; exact hst j R' hR'
        · subst hj; rw [hnew] at hR'; cases hR'; exact hRs
        · rw [List.getElem?_eq_none (by simp [hlen]; omega)] at hR'; cases hR')
      (fun j o' R' hj ho' hR' vs w hC hB K hK => by
        rcases Nat.lt_or_ge j k with hjk | hjk
        · rw [hold j hjk] at hR'
          exact hop j o' R' hjk ho' hR' vs w hC (fun j' R'' ha hlt h'' => hB j' R'' ha hlt (by rw [hold j' (by omega)]; exact h'')) K hK
        · obtain rfl : j = k := by omega
          rw [ho] at ho'; cases ho'
          rw [hnew] at hR'; cases hR'
          refine hRo vs w hC (fun j' R'' ha h'' => ?_) K hK
          have hlt : j' < Rs.length := (List.getElem?_eq_some_iff.1 h'').1
          exact hB j' R'' ha (by omega) (by rw [hold j' (by omega)]; exact h''))
      hrest
    exact ⟨Rs', by rw [h1]; simp; omega, h2, h3, h4⟩

theorem listed_ready {listed : Array Bool} (hdn : edgesDown .any ops = true) (hsz : listed.size = ops.size) (hr : Region.ready .any ops listed = []) : ∀ j, j < ops.size → listed.getD j false = true := by
  intro j
  induction j using Nat.strongRecOn with
  | ind j ih =>
    intro hj
    rcases hb : listed.getD j false with _ | _
    · exfalso
      have hmem : j ∈ Region.ready .any ops listed := by
        rw [mem_ready]
        refine ⟨?_, ops[j], Array.getElem?_eq_getElem hj, fun e he hbd => ?_⟩
        · have : j < listed.size := by omega
          simp only [Array.getD, this, ↓reduceDIte] at hb ⊢
          exact hb
        · have h1 := List.all_eq_true.1 hdn j (List.mem_range.2 hj)
          rw [Array.getElem?_eq_getElem hj] at h1
          have h2 := Array.all_eq_true_iff_forall_mem.1 h1 e he
          simp only [hbd, Bool.not_true, Bool.false_or, decide_eq_true_eq] at h2
          exact ih e.on h2 (by omega)
      rw [hr] at hmem; cases hmem
    · rfl

/-- How many have not come up. -/
def unlisted (n : Nat) (listed : Array Bool) : Nat := ((List.range n).filter fun j => !listed.getD j false).length
theorem unlisted_set {n i : Nat} {listed : Array Bool} (hi : i < n) (hs : listed.size = n) (h : listed.getD i false = false) : unlisted n (listed.setIfInBounds i true) < unlisted n listed := by
  unfold unlisted
  have e : ∀ l : List Nat, (l.filter fun j => !(listed.setIfInBounds i true).getD j false) = (l.filter fun j => !listed.getD j false).filter (fun j => j != i) := by
    intro l
    rw [List.filter_filter]
    apply List.filter_congr
    intro j _
    by_cases hji : j = i
    · subst hji; have : j < listed.size := by omega
      simp [this]
    · rw [getD_set_ne false (Ne.symm hji)]; simp [hji]
  rw [e]
  have hm : i ∈ (List.range n).filter fun j => !listed.getD j false := List.mem_filter.2 ⟨List.mem_range.2 hi, by rw [h]; rfl⟩
  generalize (List.range n).filter (fun j => !listed.getD j false) = l at hm
  clear e
  induction l with
  | nil => cases hm
  | cons x l ih =>
    rw [List.filter_cons]
    split
    · rename_i hx
      rcases List.mem_cons.1 hm with h' | h'
      · simp [h'] at hx
      · simpa using ih h'
    · exact Nat.lt_succ_of_le (List.length_filter_le _ _)

theorem wpAny_facts {C : World → Prop} {T : World → World → Prop} {a₀ : Act} (hap : dstsApart ops.toList = true) (hdn : edgesDown .any ops = true) (Rs : List (Value → World → Prop)) (hlen : Rs.length = ops.size)
    (hst : ∀ (j : Nat) (R : Value → World → Prop), Rs[j]? = some R → ∀ v w w', R v w → T w w' → R v w')
    (hop : ∀ (j : Nat) (o : Oper) (R : Value → World → Prop), ops[j]? = some o → Rs[j]? = some R → ∀ vs w, C w → (∀ (j' : Nat) (R' : Value → World → Prop), ahead .any ops ops.size j j' = true → j' < j → Rs[j']? = some R' → R' (vs j') w) → ∀ K : Act → World → Prop, (∀ a' v w', a' = (fillOps vs ops.toList 0 a₀).put o.dst v → R v w' → C w' → T w w' → K a' w') →
      if Region.wanted o (yielded ops (fillOps vs ops.toList 0 a₀).tmps) = true then o.wp P (fillOps vs ops.toList 0 a₀) w K Q else K ((fillOps vs ops.toList 0 a₀).put o.dst undef) w)
    (hend : ∀ vs w, C w → (∀ (j : Nat) (R : Value → World → Prop), Rs[j]? = some R → R (vs j) w) → Q .normal (fillOps vs ops.toList 0 a₀) w) :
    ∀ (fuel : Nat) (listed : Array Bool) (vs : Nat → Value) (w : World), listed.size = ops.size → unlisted ops.size listed ≤ fuel → Closed .any ops listed → C w → (∀ (j : Nat) (R : Value → World → Prop), listed.getD j false = true → Rs[j]? = some R → R (vs j) w) →
      wpAny P .any ops Q fuel listed (fillOps vs ops.toList 0 a₀) w := by
  have hfin : ∀ (listed : Array Bool) (vs : Nat → Value) (w : World), listed.size = ops.size → C w → (∀ (j : Nat) (R : Value → World → Prop), listed.getD j false = true → Rs[j]? = some R → R (vs j) w) → Region.ready .any ops listed = [] → Q .normal (fillOps vs ops.toList 0 a₀) w :=
    fun listed vs w hs hC hR hr => hend vs w hC fun j R hj => hR j R (listed_ready hdn hs hr j (by rw [← hlen]; exact (List.getElem?_eq_some_iff.1 hj).1)) hj
  intro fuel
  induction fuel with
  | zero =>
    intro listed vs w hs hu hcl hC hR
    have hr : Region.ready .any ops listed = [] := by
      rw [List.eq_nil_iff_forall_not_mem]
      intro j hj
      obtain ⟨h0, o, ho, _⟩ := mem_ready.1 hj
      have hjs : j < ops.size := (Array.getElem?_eq_some_iff.1 ho).1
      have : unlisted ops.size (listed.setIfInBounds j true) < unlisted ops.size listed := unlisted_set hjs hs (by
        have : j < listed.size := by omega
        simp only [Array.getD, this, ↓reduceDIte] at h0 ⊢; exact h0)
      omega
    exact ⟨hr, hfin listed vs w hs hC hR hr⟩
  | succ fuel ih =>
    intro listed vs w hs hu hcl hC hR
    refine ⟨hfin listed vs w hs hC hR, fun i hi => ?_⟩
    obtain ⟨h0, o, ho, hall⟩ := mem_ready.1 hi
    have hisz : i < ops.size := (Array.getElem?_eq_some_iff.1 ho).1
    have hil : i < listed.size := by omega
    have h0' : listed.getD i false = false := by simp only [Array.getD, hil, ↓reduceDIte] at h0 ⊢; exact h0
    obtain ⟨R, hRi⟩ : ∃ R, Rs[i]? = some R := ⟨Rs[i]'(by omega), List.getElem?_eq_getElem (by omega)⟩
    have hstep := hop i o R ho hRi vs w hC (fun j' R' ha _ hR' => hR j' R' (ahead_listed hcl ops.size i j' (fun o' ho' => by rw [ho] at ho'; cases ho'; exact hall) ha) hR')
      (wpAny P .any ops Q fuel (listed.setIfInBounds i true)) (fun a' v w' ha hRv hC' hT => by
        rw [ha, fillOps_upd ops.toList 0 a₀ vs i o v hap (by simpa using ho), Nat.zero_add]
        refine ih _ _ _ (by simpa using hs) ?_ ?_ hC' ?_
        · have := unlisted_set hisz hs h0'; omega
        · intro j oj hoj hj e he hb
          by_cases hji : j = i
          · subst hji; rw [ho] at hoj; cases hoj; exact getD_set_true (hall e he hb)
          · rw [getD_set_ne false (Ne.symm hji)] at hj; exact getD_set_true (hcl j oj hoj hj e he hb)
        · intro j R' hj hR'
          by_cases hji : j = i
          · subst hji; rw [hRi] at hR'; cases hR'; simpa [upd] using hRv
          · rw [getD_set_ne false (Ne.symm hji)] at hj
            have := hst j R' hR' _ _ _ (hR j R' hj hR') hT
            simpa [upd, hji] using this)
    unfold wpOp
    simp only [ho]
    split
    · rename_i hw; rw [if_pos hw] at hstep; exact .inl hstep
    · rename_i hw; rw [if_neg hw] at hstep; exact hstep

/-- The region. -/
theorem wp_region_facts {id : Nat} {a : Act} {w : World} {l : List Oper} (C : World → Prop) (T : World → World → Prop) (hm : P.follows .mixedOrders = true) (hap : dstsApart l = true) (hdn : edgesDown .any l.toArray = true)
    (hC : C w.drew) (h : wpFacts P l.toArray Q C T (fun vs => fillOps vs l 0 a) 0 l []) : (Code.region id l.toArray true).wp P Q a w := by
  refine wp_region_any hm ?_
  obtain ⟨Rs, h1, h2, h3, h4⟩ := wpFacts_all (ops := l.toArray) l 0 [] (by simp) rfl (by simp) (by simp) h
  obtain ⟨vs, hvs⟩ : ∃ vs : Nat → Value, ∀ i o t, l[i]? = some o → o.dst = some t → vs (0 + i) = a.tmps.getD t undef :=
    ⟨fun i => match (l[i]?).bind (·.dst) with | some t => a.tmps.getD t undef | none => undef, fun i o t hi ht => by simp [hi, ht]⟩
  have := wpAny_facts (P := P) (Q := Q) (ops := l.toArray) (C := C) (T := T) (a₀ := a) hap hdn Rs (by simpa using h1) h2 h3 h4 l.toArray.size (Array.replicate l.toArray.size false) vs w.drew (by simp)
    (Nat.le_trans (List.length_filter_le _ _) (by simp)) (fun j o hj hl => by simp [Array.getD] at hl) hC (fun j R hl => by simp [Array.getD] at hl)
  rwa [fillOps_self vs _ 0 a (by simpa using hvs)] at this

theorem wpFacts_nil {C : World → Prop} {T : World → World → Prop} {fr : (Nat → Value) → Act} {k : Nat} {Rs : List (Value → World → Prop)} (h : ∀ vs w, C w → (∀ (j : Nat) (R : Value → World → Prop), Rs[j]? = some R → R (vs j) w) → Q .normal (fr vs) w) : wpFacts P ops Q C T fr k [] Rs := h
/-- An operation with one value. -/
theorem wpFacts_val {C : World → Prop} {T : World → World → Prop} {fr : (Nat → Value) → Act} {k : Nat} {o : Oper} {l : List Oper} {Rs : List (Value → World → Prop)} (V : Value)
    (h1 : ∀ vs w, C w → (∀ (j : Nat) (R' : Value → World → Prop), ahead .any ops ops.size k j = true → Rs[j]? = some R' → R' (vs j) w) → ∀ K : Act → World → Prop, (∀ a' w', a' = (fr vs).put o.dst V → C w' → T w w' → K a' w') →
      if Region.wanted o (yielded ops (fr vs).tmps) = true then o.wp P (fr vs) w K Q else K ((fr vs).put o.dst undef) w)
    (h2 : wpFacts P ops Q C T fr (k + 1) l (Rs ++ [fun v _ => v = V])) : wpFacts P ops Q C T fr k (o :: l) Rs :=
  ⟨fun v _ => v = V, fun _ _ _ h _ => h, fun vs w hC hB K hK => h1 vs w hC hB K fun a' w' ha hC' hT => hK a' V w' ha rfl hC' hT, h2⟩
/-- An operation whose value has a property. -/
theorem wpFacts_some {C : World → Prop} {T : World → World → Prop} {fr : (Nat → Value) → Act} {k : Nat} {o : Oper} {l : List Oper} {Rs : List (Value → World → Prop)} (R : Value → World → Prop) (hR : ∀ v w w', R v w → T w w' → R v w')
    (h1 : ∀ vs w, C w → (∀ (j : Nat) (R' : Value → World → Prop), ahead .any ops ops.size k j = true → Rs[j]? = some R' → R' (vs j) w) → ∀ K : Act → World → Prop, (∀ a' v w', a' = (fr vs).put o.dst v → R v w' → C w' → T w w' → K a' w') →
      if Region.wanted o (yielded ops (fr vs).tmps) = true then o.wp P (fr vs) w K Q else K ((fr vs).put o.dst undef) w)
    (h2 : wpFacts P ops Q C T fr (k + 1) l (Rs ++ [R])) : wpFacts P ops Q C T fr k (o :: l) Rs :=
  ⟨R, hR, h1, h2⟩
end
end Go.Proofs.YtkokbmmffkpclaaDoor
