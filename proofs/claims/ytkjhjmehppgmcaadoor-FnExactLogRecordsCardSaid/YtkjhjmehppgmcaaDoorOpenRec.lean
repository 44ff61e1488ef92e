/- Arguments that came in: records. -/
import Derived.Test.YtkjhjmehppgmcaaDoorOpen
import Derived.Test.YtkjhjmehppgmcaaDoorPlain
namespace Go.Proofs.YtkjhjmehppgmcaaDoor
open Go.ChangeShapes Go.WideShapes Go.ChangeAt Go.RowKit Go.Deep
section
variable {H : Type} {enc : TypeId × Value → H} {P : Program} {w : World} {base : Nat} {spare : Nat → Bool} {held : Bool}
/-- A field that is a text. -/
theorem trod_text {t : TypeId} {n : Nat} {v : Value} {x : DataW H × List MemPlace} (ht : P.underlying t = some .string) (h : DataW.trod enc P w base spare held n t [v] = some x) :
    ∃ s : ByteArray, v = .string s ∧ s.size ≤ 9223372036854775807 := by
  obtain ⟨s, e, _, hs⟩ := DataW.trod_string ht h
  exact ⟨s, by simpa using e, by unfold maxLen at hs; exact hs⟩
end
section
variable {H : Type} {enc : TypeId × Value → H} {w : World} {base : Nat} {spare : Nat → Bool} {held : Bool}
set_option maxRecDepth 20000 in
theorem open_rec {b0 : Nat} {r : Reach} {v : Value} {d : DataW H} {q : List MemPlace} (hv : Value.okWide Tryd.prog w r b0 23 v) (h : DataW.Trod enc Tryd.prog w base spare held 23 v d q) :
    ∃ e : Rec, v = e.val ∧ e.c.size ≤ 9223372036854775807 ∧ e.r.size ≤ 9223372036854775807 := by
  obtain ⟨cs, rfl, _⟩ := okWide_struct Tryd.underlying23 hv
  obtain ⟨n, hn⟩ := h
  obtain ⟨hl, hf⟩ := trod_fields Tryd.underlying23 (by kernel_rfl) (by kernel_rfl) hn
  have hcs : (Value.agg cs).cells.toList = cs.toList := by simp [Value.cells]
  rw [hcs] at hl hf
  obtain ⟨l, rfl⟩ : ∃ l : List Value, cs = l.toArray := ⟨cs.toList, by simp⟩
  simp only at hl hf
  match l, hl with
  | [v0, v1], _ =>
    obtain ⟨u0, _, _, e0, t0⟩ := hf 0 _ rfl
    obtain ⟨u1, _, _, e1, t1⟩ := hf 1 _ rfl
    simp only [List.getElem?_cons_zero, List.getElem?_cons_succ, Option.some.injEq] at e0 e1
    subst e0; subst e1
    obtain ⟨s0, rfl, z0⟩ := trod_text Tryd.underlying9 t0
    obtain ⟨s1, rfl, z1⟩ := trod_text Tryd.underlying9 t1
    exact ⟨⟨s0, s1⟩, rfl, z0, z1⟩
end
end Go.Proofs.YtkjhjmehppgmcaaDoor
