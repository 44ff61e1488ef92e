/- Rows of the call's own, and slices that read (no program in sight). -/
import Derived.Test.YtgdjdejfegkjdaaDoorBase
import Derived.Test.YtgdjdejfegkjdaaDoorOwn
import Derived.Laws.OwnMore
namespace Go.Proofs.YtgdjdejfegkjdaaDoor
open Go.RowKit

abbrev encI (n : Int) : List Value := [.int .i64 n]
abbrev encIs (l : List Int) : List Value := l.map (Value.int .i64)
theorem encIs_len (l : List Int) : (encIs l).length = l.length * 1 := by simp
/-- A slice of ints reads. -/
abbrev IntsR (w : World) (B : Nat) (A : Option Addr) (l : List Int) : Prop := SlcR w B 1 A l.length (encIs l)
theorem IntsR.ints {w : World} {B : Nat} {A : Option Addr} {l : List Int} (h : IntsR w B A l) (hne : 0 < l.length) : ∃ b off, A = some ⟨b, off, none⟩ ∧ b < B ∧ ∀ i (hi : i < l.length) (p : Since B w), p.val.cell? ⟨b, off + i, none⟩ = some (.int .i64 l[i]) := by
  obtain ⟨b, off, e, hb, hc⟩ := h.at_ hne
  exact ⟨b, off, e, hb, fun i hi p => (p.cell hb).trans (hc i _ (by simp [hi]))⟩

/-- A slice of the call's own, its cells known, with room behind them. -/
def OwnS (w : World) (B : Nat) (t : TypeId) (k : Nat) (A : Option Addr) (n : Nat) (cs : List Value) : Prop :=
  cs.length = n * k ∧ n ≤ 9223372036854775807 ∧ ((A = none ∧ n = 0) ∨ ∃ g rest, A = some ⟨g, 0, none⟩ ∧ B ≤ g ∧ Lies w g t (cs ++ rest))
theorem OwnS.of {w : World} {B : Nat} {t : TypeId} {k : Nat} {A : Option Addr} {n c : Nat} {cs : List Value} (h : w.ownsRow B t k (.slice A n c) n cs) : OwnS w B t k A n cs := by
  obtain ⟨hl, h | ⟨g, cap, cur, hv, hg, hh, h1, h2, h3, h4⟩⟩ := h
  · injection h.1 with e1 e2 e3
    exact ⟨hl, by omega, .inl ⟨e1, e2⟩⟩
  · injection hv with e1 e2 e3
    refine ⟨hl, by unfold maxLen at h2; omega, .inr ⟨g, cur.toList.drop (n * k), e1, hg, ?_⟩⟩
    have : cs ++ cur.toList.drop (n * k) = cur.toList := by rw [← h4]; exact List.take_append_drop _ _
    rw [this]
    exact Lies.of hh
theorem OwnS.reads {w : World} {B : Nat} {t : TypeId} {k : Nat} {A : Option Addr} {n : Nat} {cs : List Value} (h : OwnS w B t k A n cs) : SlcR w w.heap.size k A n cs := by
  obtain ⟨hl, hn, ⟨_, h0⟩ | ⟨g, rest, hA, hg, hh⟩⟩ := h
  · exact ⟨hl, hn, fun h => by omega⟩
  · exact ⟨hl, hn, fun _ => ⟨g, 0, hA, hh.lt, fun j u hu => by
      rw [Nat.zero_add, hh.cell, List.getElem?_append_left (List.getElem?_eq_some_iff.1 hu).1]; exact hu⟩⟩
theorem OwnS.kept {w w' : World} {B : Nat} {t : TypeId} {k : Nat} {A : Option Addr} {n : Nat} {cs : List Value} (h : OwnS w B t k A n cs) {g : Nat} (hg : w.grownBy w' (some g)) (hlt : g < B) : OwnS w' B t k A n cs := by
  obtain ⟨hl, hn, h0 | ⟨g', rest, hA, hg', hh⟩⟩ := h
  · exact ⟨hl, hn, .inl h0⟩
  · exact ⟨hl, hn, .inr ⟨g', rest, hA, hg', hh.kept hg (by intro e; injection e with e; omega)⟩⟩
theorem OwnS.then {w w' : World} {B : Nat} {t : TypeId} {k : Nat} {A : Option Addr} {n : Nat} {cs : List Value} (h : OwnS w B t k A n cs) (hb : Below w.heap.size w w') : OwnS w' B t k A n cs := by
  obtain ⟨hl, hn, h0 | ⟨g', rest, hA, hg', hh⟩⟩ := h
  · exact ⟨hl, hn, .inl h0⟩
  · exact ⟨hl, hn, .inr ⟨g', rest, hA, hg', hh.below hb hh.lt⟩⟩

theorem ownsRow_below {w w' : World} {B : Nat} {e : TypeId} {k : Nat} {v : Value} {n : Nat} {xs : List Value} (h : w.ownsRow B e k v n xs) (hb : Below w.heap.size w w') : w'.ownsRow B e k v n xs := by
  obtain ⟨hl, h0 | ⟨g, cap, cur, hv, hg, hh, h1, h2, h3, h4⟩⟩ := h
  · exact ⟨hl, .inl h0⟩
  · have hlt : g < w.heap.size := by
      rcases Nat.lt_or_ge g w.heap.size with hlt | hge
      · exact hlt
      · rw [Array.getElem?_eq_none hge] at hh; cases hh
    exact ⟨hl, .inr ⟨g, cap, cur, hv, hg, (hb.block g hlt).trans hh, h1, h2, h3, h4⟩⟩
/-- Rows of other types lie elsewhere. -/
theorem ownsRow_far {w : World} {B : Nat} {e t : TypeId} {k : Nat} {v : Value} {n : Nat} {xs cs : List Value} (h : w.ownsRow B e k v n xs) {g : Nat} (hg : Lies w g t cs) (hne : e ≠ t) : some g ≠ v.ownBlock := by
  obtain ⟨_, ⟨rfl, _⟩ | ⟨g', cap, cur, rfl, _, hh, _⟩⟩ := h
  · simp [Value.ownBlock]
  · intro he
    simp only [Value.ownBlock, Option.some.injEq] at he
    subst he
    unfold Lies at hg
    rw [hg] at hh
    injection hh with hh; injection hh with _ h2; exact hne h2.symm
theorem ownsRow_lower {w : World} {B B' : Nat} {e : TypeId} {k : Nat} {v : Value} {n : Nat} {xs : List Value} (h : w.ownsRow B e k v n xs) (hB : B' ≤ B) : w.ownsRow B' e k v n xs := by
  obtain ⟨hl, h0 | ⟨g, cap, cur, hv, hg, hh⟩⟩ := h
  · exact ⟨hl, .inl h0⟩
  · exact ⟨hl, .inr ⟨g, cap, cur, hv, Nat.le_trans hB hg, hh⟩⟩
/-- Two rows of the call's own, of different types: one grows, the other stays. -/
theorem ownsRow_two {w w' : World} {B B' : Nat} {e e' : TypeId} {k k' : Nat} {v v' : Value} {n n' : Nat} {xs xs' : List Value} (h : w.ownsRow B e k v n xs) (h' : w.ownsRow B' e' k' v' n' xs') (hne : e' ≠ e) (hg : w.grownBy w' v'.ownBlock) : w'.ownsRow B e k v n xs := by
  refine h.kept hg ?_
  obtain ⟨_, ⟨h1, _⟩ | ⟨g, cap, cur, h1, _, hh, _⟩⟩ := h
  · left; rw [h1]; rfl
  · right
    rw [h1]
    exact ownsRow_far h' (g := g) (t := e) (cs := cur.toList) (Lies.of hh) hne
theorem grown_cell {a w : World} {row : Option Nat} (h : a.grownBy w row) (p : Addr) (hlt : p.block < a.heap.size) (hne : some p.block ≠ row) : w.cell? p = a.cell? p := World.cell?_of_block (w := a) (h.block p.block hlt hne)
theorem grown_set {a w : World} {g i : Nat} {u : Value} (h : a.grownBy w (some g)) : a.grownBy (w.setCell ⟨g, i, none⟩ u) (some g) :=
  ⟨h.os, h.tape, h.output, by simpa [World.setCell] using h.size, fun k hk hne => (Below.heap_setCell w ⟨g, i, none⟩ u k (fun e => hne (by rw [e]))).trans (h.block k hk hne)⟩
theorem owns_empty {w : World} {B g : Nat} {e : TypeId} {k : Nat} (h : Lies w g e []) (hB : B ≤ g) : w.ownsRow B e k (.slice (some ⟨g, 0, none⟩) 0 0) 0 [] := h.own hB (by simp) (by unfold maxLen; omega)
def lenOf : Value → Nat
  | .slice _ n _ => n
  | _ => 0
end Go.Proofs.YtgdjdejfegkjdaaDoor
