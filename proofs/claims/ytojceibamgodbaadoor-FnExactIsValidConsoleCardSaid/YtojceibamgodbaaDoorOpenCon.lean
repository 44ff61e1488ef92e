/- Arguments that came in: consoles (an office and a log side by side). -/
import Derived.Test.YtojceibamgodbaaDoorOpenOff
import Derived.Test.YtojceibamgodbaaDoorOpenLog
import Derived.Test.YtojceibamgodbaaDoorConTo
namespace Go.Proofs.YtojceibamgodbaaDoor
open Go.ChangeShapes Go.WideShapes Go.ChangeAt Go.RowKit Go.Deep
section
variable {H : Type} {enc : TypeId × Value → H} {w : World} {base : Nat} {spare : Nat → Bool} {held : Bool}
set_option maxRecDepth 20000 in
theorem trod_log {n : Nat} {cs : List Value} {x : DataW H × List MemPlace} (hn : DataW.trod enc Tryd.prog w base spare held n 27 cs = some x) :
    ∃ l : Lg, cs = [.string l.D, .string l.P, .int .i64 l.n] ∧ l.D.size ≤ 9223372036854775807 ∧ l.P.size ≤ 9223372036854775807 ∧ -9223372036854775808 ≤ l.n ∧ l.n ≤ 9223372036854775807 := by
  obtain ⟨hl, hf⟩ := trod_fields Tryd.underlying27 (by kernel_rfl) (by kernel_rfl) hn
  match cs, hl with
  | [v0, v1, v2], _ =>
    obtain ⟨u0, _, _, e0, t0⟩ := hf 0 _ rfl
    obtain ⟨u1, _, _, e1, t1⟩ := hf 1 _ rfl
    obtain ⟨u2, _, _, e2, t2⟩ := hf 2 _ rfl
    simp only [List.getElem?_cons_zero, List.getElem?_cons_succ, Option.some.injEq] at e0 e1 e2
    subst e0; subst e1; subst e2
    obtain ⟨s0, rfl, z0⟩ := trod_text Tryd.underlying9 t0
    obtain ⟨s1, rfl, z1⟩ := trod_text Tryd.underlying9 t1
    obtain ⟨m, rfl, z2, z3⟩ := trod_i64 Tryd.underlying3 t2
    exact ⟨⟨s0, s1, m⟩, rfl, z0, z1, z2, z3⟩
set_option maxRecDepth 20000 in
theorem trod_console {n : Nat} {cs : List Value} {x : DataW H × List MemPlace} (hn : DataW.trod enc Tryd.prog w base spare held n 29 cs = some x) :
    ∃ (p : Off) (l : Lg), cs = p.enc ++ [.string l.D, .string l.P, .int .i64 l.n] ∧ OffR w w.heap.size p ∧ l.D.size ≤ 9223372036854775807 ∧ l.P.size ≤ 9223372036854775807 ∧ -9223372036854775808 ≤ l.n ∧ l.n ≤ 9223372036854775807 := by
  obtain ⟨ys, n', _, _, hlen, hyl, hf⟩ := DataW.trod_struct Tryd.underlying29 hn
  have e0 : Tryd.prog.cellsOf 25 = 5 := by kernel_rfl
  have e1 : Tryd.prog.cellsOf 27 = 3 := by kernel_rfl
  have e2 : Tryd.prog.cellsOf 29 = 8 := by kernel_rfl
  have hyl2 : ys.length = 2 := hyl
  have h0 : DataW.trod enc Tryd.prog w base spare held n' 25 ((cs.drop 0).take (Tryd.prog.cellsOf 25)) = ys[0]? := hf 0 _ rfl
  have h1 : DataW.trod enc Tryd.prog w base spare held n' 27 ((cs.drop 5).take (Tryd.prog.cellsOf 27)) = ys[1]? := hf 1 _ rfl
  rw [e0, List.drop_zero, List.getElem?_eq_getElem (by omega)] at h0
  rw [e1, List.getElem?_eq_getElem (by omega)] at h1
  rw [e2] at hlen
  obtain ⟨p, hp, hr⟩ := trod_office h0
  obtain ⟨l, hL, z0, z1, z2, z3⟩ := trod_log h1
  refine ⟨p, l, ?_, hr, z0, z1, z2, z3⟩
  rw [List.take_of_length_le (by rw [List.length_drop]; omega)] at hL
  rw [← hp, ← hL, List.take_append_drop]
set_option maxRecDepth 100000 in
theorem open_console {b0 : Nat} {r : Reach} {v : Value} {d : DataW H} {q : List MemPlace} (hv : Value.okWide Tryd.prog w r b0 29 v) (h : DataW.Trod enc Tryd.prog w base spare held 29 v d q) :
    ∃ (p : Off) (l : Lg), v = conVal p l ∧ OffR w w.heap.size p ∧ l.D.size ≤ 9223372036854775807 ∧ l.P.size ≤ 9223372036854775807 ∧ -9223372036854775808 ≤ l.n ∧ l.n ≤ 9223372036854775807 := by
  obtain ⟨cs, rfl, _⟩ := okWide_struct Tryd.underlying29 hv
  obtain ⟨n, hn⟩ := h
  obtain ⟨p, l, hp, hr⟩ := trod_console hn
  refine ⟨p, l, ?_, hr⟩
  have hp' : cs.toList = p.enc ++ [.string l.D, .string l.P, .int .i64 l.n] := by simpa [Value.cells] using hp
  unfold conVal
  rw [show cs = cs.toList.toArray from rfl, hp']; rfl
end
end Go.Proofs.YtojceibamgodbaaDoor
