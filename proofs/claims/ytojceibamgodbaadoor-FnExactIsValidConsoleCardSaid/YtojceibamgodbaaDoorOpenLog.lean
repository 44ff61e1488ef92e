/- Arguments that came in: logs, texts, flags. -/
import Derived.Test.YtojceibamgodbaaDoorOpenRec
import Derived.Test.YtojceibamgodbaaDoorLogI
namespace Go.Proofs.YtojceibamgodbaaDoor
open Go.ChangeShapes Go.WideShapes Go.ChangeAt Go.RowKit Go.Deep
section
variable {H : Type} {enc : TypeId × Value → H} {w : World} {base : Nat} {spare : Nat → Bool} {held : Bool}
theorem open_text_of {P : Program} {t : TypeId} {b0 : Nat} {r : Reach} {v : Value} {d : DataW H} {q : List MemPlace} (ht : P.underlying t = some .string) (hv : Value.okWide P w r b0 t v) (h : DataW.Trod enc P w base spare held t v d q) :
    ∃ s : ByteArray, v = .string s ∧ s.size ≤ 9223372036854775807 := by
  obtain ⟨s, rfl⟩ := okWide_string ht hv
  obtain ⟨n, hn⟩ := h
  obtain ⟨s', e, _, hs⟩ := DataW.trod_string ht hn
  simp [Value.cells] at e
  subst e
  exact ⟨s, rfl, by unfold maxLen at hs; exact hs⟩
theorem open_flag_of {P : Program} {t : TypeId} {b0 : Nat} {r : Reach} {v : Value} {d : DataW H} {q : List MemPlace} (ht : P.underlying t = some .bool) (hv : Value.okWide P w r b0 t v) (_ : DataW.Trod enc P w base spare held t v d q) :
    ∃ b : Bool, v = .bool b := by
  obtain ⟨b, rfl⟩ := okWide_bool ht hv
  exact ⟨b, rfl⟩
set_option maxRecDepth 20000 in
theorem open_text {b0 : Nat} {r : Reach} {v : Value} {d : DataW H} {q : List MemPlace} (hv : Value.okWide Tryd.prog w r b0 9 v) (h : DataW.Trod enc Tryd.prog w base spare held 9 v d q) :
    ∃ s : ByteArray, v = .string s ∧ s.size ≤ 9223372036854775807 := open_text_of Tryd.underlying9 hv h
set_option maxRecDepth 20000 in
theorem open_flag {b0 : Nat} {r : Reach} {v : Value} {d : DataW H} {q : List MemPlace} (hv : Value.okWide Tryd.prog w r b0 4 v) (h : DataW.Trod enc Tryd.prog w base spare held 4 v d q) :
    ∃ b : Bool, v = .bool b := open_flag_of Tryd.underlying4 hv h
set_option maxRecDepth 20000 in
theorem open_log {b0 : Nat} {r : Reach} {v : Value} {d : DataW H} {q : List MemPlace} (hv : Value.okWide Tryd.prog w r b0 27 v) (h : DataW.Trod enc Tryd.prog w base spare held 27 v d q) :
    ∃ l : Lg, v = l.val ∧ l.D.size ≤ 9223372036854775807 ∧ l.P.size ≤ 9223372036854775807 ∧ -9223372036854775808 ≤ l.n ∧ l.n ≤ 9223372036854775807 := by
  obtain ⟨cs, rfl, _⟩ := okWide_struct Tryd.underlying27 hv
  obtain ⟨n, hn⟩ := h
  obtain ⟨hl, hf⟩ := trod_fields Tryd.underlying27 (by kernel_rfl) (by kernel_rfl) hn
  have hcs : (Value.agg cs).cells.toList = cs.toList := by simp [Value.cells]
  rw [hcs] at hl hf
  obtain ⟨l, rfl⟩ : ∃ l : List Value, cs = l.toArray := ⟨cs.toList, by simp⟩
  simp only at hl hf
  match l, hl with
  | [v0, v1, v2], _ =>
    obtain ⟨u0, _, _, e0, t0⟩ := hf 0 _ rfl
    obtain ⟨u1, _, _, e1, t1⟩ := hf 1 _ rfl
    obtain ⟨u2, _, _, e2, t2⟩ := hf 2 _ rfl
    simp only [List.getElem?_cons_zero, List.getElem?_cons_succ, Option.some.injEq] at e0 e1 e2
    subst e0; subst e1; subst e2
    obtain ⟨s0, rfl, z0⟩ := trod_text Tryd.underlying9 t0
    obtain ⟨s1, rfl, z1⟩ := trod_text Tryd.underlying9 t1
    obtain ⟨m, rfl, z2, z3⟩ := trod_i64 Tryd.underlying3 t2
    exact ⟨⟨s0, s1, m⟩, rfl, z0, z1, z2, z3⟩
end
end Go.Proofs.YtojceibamgodbaaDoor
