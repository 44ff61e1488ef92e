/- Rows of the call's own: what becomes of them (no program's function in sight). -/
import Derived.Test.YtpjfidmapnnbkaaOwn
import Derived.Laws.OwnMore
namespace Go.Proofs.Ytpjfidmapnnbkaa
open Go.RowKit

theorem ownsRow_below {w w' : World} {B : Nat} {e : TypeId} {k : Nat} {v : Value} {n : Nat} {xs : List Value} (h : w.ownsRow B e k v n xs) (hb : Below w.heap.size w w') : w'.ownsRow B e k v n xs := by
  obtain ⟨hl, h0 | ⟨g, cap, cur, hv, hg, hh, h1, h2, h3, h4⟩⟩ := h
  · exact ⟨hl, .inl h0⟩
  · have hlt : g < w.heap.size := by
      rcases Nat.lt_or_ge g w.heap.size with hlt | hge
      · exact hlt
      · rw [Array.getElem?_eq_none hge] at hh; cases hh
    exact ⟨hl, .inr ⟨g, cap, cur, hv, hg, (hb.block g hlt).trans hh, h1, h2, h3, h4⟩⟩
theorem ownsRow_far {w : World} {B : Nat} {e t : TypeId} {k : Nat} {v : Value} {n : Nat} {xs cs : List Value} (h : w.ownsRow B e k v n xs) {g : Nat} (hg : Lies w g t cs) (hne : e ≠ t) : some g ≠ v.ownBlock := by
  obtain ⟨_, ⟨rfl, _⟩ | ⟨g', cap, cur, rfl, _, hh, _⟩⟩ := h
  · simp [Value.ownBlock]
  · intro he
    simp only [Value.ownBlock, Option.some.injEq] at he
    subst he
    unfold Lies at hg
    rw [hg] at hh
    injection hh with hh; injection hh with _ h2; exact hne h2.symm
theorem ownsRow_lower {w : World} {B B' : Nat} {e : TypeId} {k : Nat} {v : Value} {n : Nat} {xs : List Value} (h : w.ownsRow B e k v n xs) (hB : B' ≤ B) : w.ownsRow B' e k v n xs := by
  obtain ⟨hl, h0 | ⟨g, cap, cur, hv, hg, hh⟩⟩ := h
  · exact ⟨hl, .inl h0⟩
  · exact ⟨hl, .inr ⟨g, cap, cur, hv, Nat.le_trans hB hg, hh⟩⟩
/-- Two rows of different types: one grows, the other stays. -/
theorem ownsRow_two {w w' : World} {B B' : Nat} {e e' : TypeId} {k k' : Nat} {v v' : Value} {n n' : Nat} {xs xs' : List Value} (h : w.ownsRow B e k v n xs) (h' : w.ownsRow B' e' k' v' n' xs') (hne : e' ≠ e) (hg : w.grownBy w' v'.ownBlock) : w'.ownsRow B e k v n xs := by
  refine h.kept hg ?_
  obtain ⟨_, ⟨h1, _⟩ | ⟨g, cap, cur, h1, _, hh, _⟩⟩ := h
  · left; rw [h1]; rfl
  · right
    rw [h1]
    exact ownsRow_far h' (g := g) (t := e) (cs := cur.toList) (Lies.of hh) hne
/-- A cell of a block of another type is written. -/
theorem ownsRow_setOther {w : World} {B : Nat} {e t : TypeId} {k : Nat} {v : Value} {n : Nat} {xs cs : List Value} (h : w.ownsRow B e k v n xs) {g : Nat} (hg : Lies w g t cs) (hne : e ≠ t) (i : Nat) (u : Value) : (w.setCell ⟨g, i, none⟩ u).ownsRow B e k v n xs := by
  have hf := ownsRow_far h hg hne
  obtain ⟨hl, h0 | ⟨g', cap, cur, hv, hg', hh, h1⟩⟩ := h
  · exact ⟨hl, .inl h0⟩
  · refine ⟨hl, .inr ⟨g', cap, cur, hv, hg', (Below.heap_setCell w _ u g' ?_).trans hh, h1⟩⟩
    intro e'
    subst hv
    exact hf (by simp only [Value.ownBlock]; rw [e'])
/-- The row lies in memory. -/
theorem ownsRow_at {w : World} {B : Nat} {e : TypeId} {k : Nat} {v : Value} {n : Nat} {xs : List Value} (h : w.ownsRow B e k v n xs) (hn : 0 < n) : ∃ g cap rest, v = .slice (some ⟨g, 0, none⟩) n cap ∧ B ≤ g ∧ Lies w g e (xs ++ rest) ∧ n ≤ cap := by
  obtain ⟨hl, h0 | ⟨g, cap, cur, hv, hg, hh, h1, h2, h3, h4⟩⟩ := h
  · omega
  · refine ⟨g, cap, cur.toList.drop (n * k), hv, hg, ?_, h1⟩
    have : xs ++ cur.toList.drop (n * k) = cur.toList := by rw [← h4]; exact List.take_append_drop _ _
    rw [this]; exact Lies.of hh
/-- One cell of the row is written. -/
theorem ownsRow_set {w : World} {B g cap : Nat} {e : TypeId} {k n : Nat} {xs : List Value} (h : w.ownsRow B e k (.slice (some ⟨g, 0, none⟩) n cap) n xs) (j : Nat) (u : Value) (hj : j < n * k) : (w.setCell ⟨g, j, none⟩ u).ownsRow B e k (.slice (some ⟨g, 0, none⟩) n cap) n (xs.set j u) := by
  obtain ⟨hl, h0 | ⟨g', cap', cur, hv, hg, hh, h1, h2, h3, h4⟩⟩ := h
  · cases h0.1
  · injection hv with e1 e2 e3
    injection e1 with e1; injection e1 with e1; subst e1; subst e3
    have hL := (Lies.of hh).set j u
    exact ⟨by rw [List.length_set]; exact hl, .inr ⟨g, cap, (cur.toList.set j u).toArray, rfl, hg, hL, h1, h2, by simp [h3], by show List.take _ (cur.toList.set j u) = _; rw [List.take_set, h4]⟩⟩
theorem ownsRow_drew {w : World} {B : Nat} {e : TypeId} {k : Nat} {v : Value} {n : Nat} {xs : List Value} (h : w.ownsRow B e k v n xs) : w.drew.ownsRow B e k v n xs := h
theorem ownsRow_reads {w : World} {B : Nat} {e : TypeId} {k : Nat} {A : Option Addr} {n c : Nat} {xs : List Value} (h : w.ownsRow B e k (.slice A n c) n xs) : SlcR w w.heap.size k A n xs := by
  obtain ⟨hl, h0 | ⟨g, cap, cur, hv, hg, hh, h1, h2, h3, h4⟩⟩ := h
  · exact ⟨hl, by omega, fun hn => by omega⟩
  · injection hv with e1 _ _
    refine ⟨hl, by unfold maxLen at h2; omega, fun hn => ⟨g, 0, e1, (Lies.of hh).lt, fun j u hu => ?_⟩⟩
    rw [Nat.zero_add, (Lies.of hh).cell]
    rw [← h4, List.getElem?_take] at hu
    split at hu
    · exact hu
    · cases hu
/-- A block of another type turns. -/
theorem ownsRow_keptG {w w' : World} {B : Nat} {e t : TypeId} {k : Nat} {v : Value} {n : Nat} {xs cs : List Value} (h : w.ownsRow B e k v n xs) {g : Nat} (hL : Lies w g t cs) (hne : e ≠ t) (hg : w.grownBy w' (some g)) : w'.ownsRow B e k v n xs :=
  h.kept hg (.inr fun e' => ownsRow_far h hL hne e'.symm)
end Go.Proofs.Ytpjfidmapnnbkaa
