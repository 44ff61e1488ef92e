/- Rows of the call's own, and slices that read (no program in sight). -/
import Derived.Test.YtojceibamgodbaaDoorBase
import Derived.Test.YtojceibamgodbaaDoorOwn
import Derived.Test.YtojceibamgodbaaDoorInts
import Derived.Laws.OwnMore
namespace Go.Proofs.YtojceibamgodbaaDoor
open Go.RowKit

theorem ownsRow_below {w w' : World} {B : Nat} {e : TypeId} {k : Nat} {v : Value} {n : Nat} {xs : List Value} (h : w.ownsRow B e k v n xs) (hb : Below w.heap.size w w') : w'.ownsRow B e k v n xs := by
  obtain ⟨hl, h0 | ⟨g, cap, cur, hv, hg, hh, h1, h2, h3, h4⟩⟩ := h
  · exact ⟨hl, .inl h0⟩
  · have hlt : g < w.heap.size := by
      rcases Nat.lt_or_ge g w.heap.size with hlt | hge
      · exact hlt
      · rw [Array.getElem?_eq_none hge] at hh; cases hh
    exact ⟨hl, .inr ⟨g, cap, cur, hv, hg, (hb.block g hlt).trans hh, h1, h2, h3, h4⟩⟩
/-- Rows of other types lie elsewhere. -/
theorem ownsRow_far {w : World} {B : Nat} {e t : TypeId} {k : Nat} {v : Value} {n : Nat} {xs cs : List Value} (h : w.ownsRow B e k v n xs) {g : Nat} (hg : Lies w g t cs) (hne : e ≠ t) : some g ≠ v.ownBlock := by
  obtain ⟨_, ⟨rfl, _⟩ | ⟨g', cap, cur, rfl, _, hh, _⟩⟩ := h
  · simp [Value.ownBlock]
  · intro he
    simp only [Value.ownBlock, Option.some.injEq] at he
    subst he
    unfold Lies at hg
    rw [hg] at hh
    injection hh with hh; injection hh with _ h2; exact hne h2.symm
theorem ownsRow_lower {w : World} {B B' : Nat} {e : TypeId} {k : Nat} {v : Value} {n : Nat} {xs : List Value} (h : w.ownsRow B e k v n xs) (hB : B' ≤ B) : w.ownsRow B' e k v n xs := by
  obtain ⟨hl, h0 | ⟨g, cap, cur, hv, hg, hh⟩⟩ := h
  · exact ⟨hl, .inl h0⟩
  · exact ⟨hl, .inr ⟨g, cap, cur, hv, Nat.le_trans hB hg, hh⟩⟩
/-- Two rows of the call's own, of different types: one grows, the other stays. -/
theorem ownsRow_two {w w' : World} {B B' : Nat} {e e' : TypeId} {k k' : Nat} {v v' : Value} {n n' : Nat} {xs xs' : List Value} (h : w.ownsRow B e k v n xs) (h' : w.ownsRow B' e' k' v' n' xs') (hne : e' ≠ e) (hg : w.grownBy w' v'.ownBlock) : w'.ownsRow B e k v n xs := by
  refine h.kept hg ?_
  obtain ⟨_, ⟨h1, _⟩ | ⟨g, cap, cur, h1, _, hh, _⟩⟩ := h
  · left; rw [h1]; rfl
  · right
    rw [h1]
    exact ownsRow_far h' (g := g) (t := e) (cs := cur.toList) (Lies.of hh) hne
theorem owns_empty {w : World} {B g : Nat} {e : TypeId} {k : Nat} (h : Lies w g e []) (hB : B ≤ g) : w.ownsRow B e k (.slice (some ⟨g, 0, none⟩) 0 0) 0 [] := h.own hB (by simp) (by unfold maxLen; omega)
def lenOf : Value → Nat
  | .slice _ n _ => n
  | _ => 0
end Go.Proofs.YtojceibamgodbaaDoor
