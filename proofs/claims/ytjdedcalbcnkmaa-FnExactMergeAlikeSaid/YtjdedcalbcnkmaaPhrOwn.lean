/- Rows of phrases of the call's own. -/
import Derived.Test.YtjdedcalbcnkmaaPhrCopy
import Derived.Test.YtjdedcalbcnkmaaPhrs
import Derived.Laws.OwnMore
namespace Go.Proofs.Ytjdedcalbcnkmaa
open Go.RowKit

theorem OwnS.big {w : World} {B : Nat} {t : TypeId} {k : Nat} {A : Option Addr} {n : Nat} {cs : List Value} (h : OwnS w B t k A n cs) : n ≤ 9223372036854775807 := h.2.1
theorem OwnS.below' {w w' : World} {B : Nat} {t : TypeId} {k : Nat} {A : Option Addr} {n : Nat} {cs : List Value} (h : OwnS w B t k A n cs) (hb : Below w.heap.size w w') : OwnS w' B t k A n cs := h.then hb
theorem ownsRow_below {w w' : World} {B : Nat} {e : TypeId} {k : Nat} {v : Value} {n : Nat} {xs : List Value} (h : w.ownsRow B e k v n xs) (hb : Below w.heap.size w w') : w'.ownsRow B e k v n xs := by
  obtain ⟨hl, h0 | ⟨g, cap, cur, hv, hg, hh, h1, h2, h3, h4⟩⟩ := h
  · exact ⟨hl, .inl h0⟩
  · have hlt : g < w.heap.size := by
      rcases Nat.lt_or_ge g w.heap.size with hlt | hge
      · exact hlt
      · rw [Array.getElem?_eq_none hge] at hh; cases hh
    exact ⟨hl, .inr ⟨g, cap, cur, hv, hg, (hb.block g hlt).trans hh, h1, h2, h3, h4⟩⟩
/-- Rows of other types lie elsewhere. -/
theorem ownsRow_far {w : World} {B : Nat} {e t : TypeId} {k : Nat} {v : Value} {n : Nat} {xs cs : List Value} (h : w.ownsRow B e k v n xs) {g : Nat} (hg : Lies w g t cs) (hne : e ≠ t) : some g ≠ v.ownBlock := by
  obtain ⟨_, ⟨rfl, _⟩ | ⟨g', cap, cur, rfl, _, hh, _⟩⟩ := h
  · simp [Value.ownBlock]
  · intro he
    simp only [Value.ownBlock, Option.some.injEq] at he
    subst he
    unfold Lies at hg
    rw [hg] at hh
    injection hh with hh; injection hh with _ h2; exact hne h2.symm
theorem OwnS.grown {w w' : World} {B : Nat} {t : TypeId} {k : Nat} {A : Option Addr} {n : Nat} {cs : List Value} (h : OwnS w B t k A n cs) {e : TypeId} {B' k' n' : Nat} {v : Value} {xs : List Value} (ho : w.ownsRow B' e k' v n' xs) (hne : e ≠ t) (hg : w.grownBy w' v.ownBlock) : OwnS w' B t k A n cs := by
  obtain ⟨hl, hn, h0 | ⟨g', rest, hA, hg', hh⟩⟩ := h
  · exact ⟨hl, hn, .inl h0⟩
  · exact ⟨hl, hn, .inr ⟨g', rest, hA, hg', hh.kept hg (ownsRow_far ho hh hne)⟩⟩
theorem OwnS.lt_ {w : World} {B : Nat} {t : TypeId} {k : Nat} {A : Option Addr} {n : Nat} {cs : List Value} (h : OwnS w B t k A n cs) {g : Addr} (hA : A = some g) : B ≤ g.block ∧ g.block < w.heap.size := by
  obtain ⟨_, _, ⟨h0, _⟩ | ⟨g', rest, hA', hg', hh⟩⟩ := h
  · rw [h0] at hA; cases hA
  · rw [hA'] at hA; injection hA with hA; subst hA; exact ⟨hg', hh.lt⟩

/-- A row of phrases of the call's own; the faults of each its own too. -/
structure RowPh (w : World) (B : Nat) (v : Value) (l : List Ph) : Prop where
  row : w.ownsRow B 27 4 v l.length (l.flatMap Ph.enc)
  fs : ∀ x ∈ l, OwnS w B 3 1 x.A x.f.length (encIs x.f)
  nd : l.Pairwise fun x y => x.A = none ∨ x.A ≠ y.A
theorem ne_types : 27 ≠ 3 := by decide
theorem RowPh.nil (w : World) (B : Nat) : RowPh w B (.slice none 0 0) [] := ⟨World.ownsRow_nil _ _ _ _, by simp, List.Pairwise.nil⟩
theorem RowPh.below {w w' : World} {B : Nat} {v : Value} {l : List Ph} (h : RowPh w B v l) (hb : Below w.heap.size w w') : RowPh w' B v l :=
  ⟨ownsRow_below h.row hb, fun x hx => (h.fs x hx).then hb, h.nd⟩
theorem ownsRow_lower {w : World} {B B' : Nat} {e : TypeId} {k : Nat} {v : Value} {n : Nat} {xs : List Value} (h : w.ownsRow B e k v n xs) (hB : B' ≤ B) : w.ownsRow B' e k v n xs := by
  obtain ⟨hl, h0 | ⟨g, cap, cur, hv, hg, hh⟩⟩ := h
  · exact ⟨hl, .inl h0⟩
  · exact ⟨hl, .inr ⟨g, cap, cur, hv, Nat.le_trans hB hg, hh⟩⟩
theorem RowPh.lower {w : World} {B B' : Nat} {v : Value} {l : List Ph} (h : RowPh w B v l) (hB : B' ≤ B) : RowPh w B' v l :=
  ⟨ownsRow_lower h.row hB, fun x hx => (h.fs x hx).lower hB, h.nd⟩
theorem RowPh.reads {w : World} {B : Nat} {A : Option Addr} {c : Nat} {l : List Ph} (h : RowPh w B (.slice A l.length c) l) : PhsR w w.heap.size A l :=
  ⟨(OwnS.of h.row).reads, fun x hx => (h.fs x hx).reads⟩
theorem RowPh.form {w : World} {B : Nat} {v : Value} {l : List Ph} (h : RowPh w B v l) : ∃ A c, v = .slice A l.length c := ownsRow_slice h.row
/-- One more, whose faults are new. -/
theorem RowPh.push {w w0 w' : World} {B : Nat} {v v' : Value} {l : List Ph} {x : Ph} (h : RowPh w B v l) (hb : Below w.heap.size w w0) (hx : OwnS w0 w.heap.size 3 1 x.A x.f.length (encIs x.f)) (hB : B ≤ w.heap.size)
    (ho : w'.ownsRow B 27 4 v' (l.length + 1) (l.flatMap Ph.enc ++ x.enc)) (hg : w0.grownBy w' v.ownBlock) : RowPh w' B v' (l ++ [x]) := by
  have hr := ownsRow_below h.row hb
  refine ⟨by simpa using ho, fun y hy => ?_, ?_⟩
  · rcases List.mem_append.1 hy with hy | hy
    · exact ((h.fs y hy).then hb).grown hr ne_types hg
    · rw [List.mem_singleton] at hy; subst hy
      exact (hx.lower hB).grown hr ne_types hg
  · rw [List.pairwise_append]
    refine ⟨h.nd, List.pairwise_singleton _ _, fun a ha b hb' => ?_⟩
    rw [List.mem_singleton] at hb'; subst hb'
    cases hA : a.A with
    | none => exact .inl rfl
    | some g =>
      refine .inr fun e => ?_
      have h1 := ((h.fs a ha).lt_ hA).2
      have h2 := (hx.lt_ e.symm).1
      omega
/-- The copies of the phrase at place i. -/
def setC (i : Nat) (c : Int) (l : List Ph) : List Ph := l.modify i fun x => { x with c := c }
theorem setC_len (i : Nat) (c : Int) (l : List Ph) : (setC i c l).length = l.length := by simp [setC]
theorem setC_split {i : Nat} {c : Int} {l : List Ph} (h : i < l.length) : setC i c l = l.take i ++ { l[i] with c := c } :: l.drop (i + 1) := by
  unfold setC; rw [List.modify_eq_take_cons_drop h]
theorem flat_set {i : Nat} {c : Int} {l : List Ph} (h : i < l.length) : (l.flatMap Ph.enc).set (i * 4 + 1) (.int .i64 c) = (setC i c l).flatMap Ph.enc := by
  have e1 : l = l.take i ++ l[i] :: l.drop (i + 1) := by rw [List.getElem_cons_drop, List.take_append_drop]
  rw [setC_split h]
  have e2 : l.flatMap Ph.enc = (l.take i).flatMap Ph.enc ++ (l[i].enc ++ (l.drop (i + 1)).flatMap Ph.enc) := by
    rw [show l.flatMap Ph.enc = (l.take i ++ l[i] :: l.drop (i + 1)).flatMap Ph.enc from congrArg _ e1, List.flatMap_append, List.flatMap_cons]
  have e3 : ((l.take i).flatMap Ph.enc).length = i * 4 := by rw [flat_len Ph.enc 4 Ph.enc_len, List.length_take, Nat.min_eq_left (by omega)]
  rw [e2, List.set_append, if_neg (by omega), e3]
  simp [Ph.enc]
theorem RowPh.bump {w : World} {B g cap : Nat} {l : List Ph} {i : Nat} {c : Int} (h : RowPh w B (.slice (some ⟨g, 0, none⟩) l.length cap) l) (hi : i < l.length) : RowPh (w.setCell ⟨g, i * 4 + 1, none⟩ (.int .i64 c)) B (.slice (some ⟨g, 0, none⟩) l.length cap) (setC i c l) := by
  obtain ⟨h1, h2⟩ := h.row.stored (i * 4 + 1) (.int .i64 c)
  have hmem : ∀ {y}, y ∈ setC i c l → ∃ x ∈ l, y.A = x.A ∧ y.f = x.f := by
    intro y hy
    rw [setC_split hi] at hy
    rcases List.mem_append.1 hy with hy | hy
    · exact ⟨y, List.mem_of_mem_take hy, rfl, rfl⟩
    · rcases List.mem_cons.1 hy with rfl | hy
      · exact ⟨l[i], List.getElem_mem hi, rfl, rfl⟩
      · exact ⟨y, List.mem_of_mem_drop hy, rfl, rfl⟩
  refine ⟨by rw [flat_set hi] at h1; rw [setC_len]; exact h1, fun y hy => ?_, ?_⟩
  · obtain ⟨x, hx, e1, e2⟩ := hmem hy
    rw [e1, e2]
    exact (h.fs x hx).grown h.row ne_types h2
  · have e : (setC i c l).map Ph.A = l.map Ph.A := by
      have e1 : l = l.take i ++ l[i] :: l.drop (i + 1) := by rw [List.getElem_cons_drop, List.take_append_drop]
      rw [setC_split hi, show l.map Ph.A = (l.take i ++ l[i] :: l.drop (i + 1)).map Ph.A from congrArg _ e1]
      simp only [List.map_append, List.map_cons]
    have hp : ∀ m : List Ph, (m.Pairwise fun x y => x.A = none ∨ x.A ≠ y.A) ↔ (m.map Ph.A).Pairwise fun a b => a = none ∨ a ≠ b := fun m => by rw [List.pairwise_map]
    rw [hp, e, ← hp]; exact h.nd
theorem setC_ph {i : Nat} {c : Int} {l : List Ph} (h : i < l.length) : (setC i c l).map Ph.ph = (l.map Ph.ph).take i ++ (l[i].s, c, l[i].f, l[i].p) :: (l.map Ph.ph).drop (i + 1) := by
  rw [setC_split h]; simp [Ph.ph, List.map_take, List.map_drop]
end Go.Proofs.Ytjdedcalbcnkmaa
