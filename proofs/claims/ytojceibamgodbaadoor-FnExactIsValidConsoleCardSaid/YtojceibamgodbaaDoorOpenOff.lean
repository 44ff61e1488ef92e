/- Arguments that came in: offices. -/
import Derived.Test.YtojceibamgodbaaDoorOpen
import Derived.Test.YtojceibamgodbaaDoorOffP
namespace Go.Proofs.YtojceibamgodbaaDoor
open Go.ChangeShapes Go.WideShapes Go.ChangeAt Go.RowKit Go.Deep
section
variable {H : Type} {enc : TypeId × Value → H} {P : Program} {w : World} {base : Nat} {spare : Nat → Bool} {held : Bool}
theorem trod_int_structs {α : Type} (en : α → List Value) {t e : TypeId} {fs : Array Field} {k n : Nat} {v : Value} {x : DataW H × List MemPlace} (ht : P.underlying t = some (.slice e)) (he : P.underlying e = some (.struct fs)) (hone : oneCellFields P fs = true) (hC : P.cellsOf e = fs.size) (hint : intFields P fs = true) (hk : fs.size = k) (hk0 : 0 < k)
    (hen : ∀ ns : List Int, ns.length = k → ∃ x, ns.map (Value.int .i64) = en x)
    (h : DataW.trod enc P w base spare held n t [v] = some x) : ∃ A c, ∃ l : List α, v = .slice A l.length c ∧ SlcR w w.heap.size k A l.length (l.flatMap en) := by
  obtain ⟨A, len, cap, hv, css, hl, hS, hcs⟩ := trod_slc ht (hC.trans hk) hk0 h
  obtain ⟨l, hfl, hll⟩ := lift_list en css (fun cs hc => by
    obtain ⟨hlen, m, y, hy⟩ := hcs cs hc
    obtain ⟨ns, hn', hc'⟩ := trod_int_cells he hone hC hint hk hy
    obtain ⟨x, hx⟩ := hen ns hn'
    exact ⟨x, by rw [hc', hx]⟩)
  refine ⟨A, cap, l, by rw [hll, hl]; exact hv, ?_⟩
  rw [hll, hl, ← hfl]; exact hS
end
section
variable {H : Type} {enc : TypeId × Value → H} {w : World} {base : Nat} {spare : Nat → Bool} {held : Bool}
theorem trod_office {n : Nat} {cs : List Value} {x : DataW H × List MemPlace} (h : DataW.trod enc Tryd.prog w base spare held n 25 cs = some x) : ∃ p : Off, cs = p.enc ∧ OffR w w.heap.size p := by
  obtain ⟨hl, hf⟩ := trod_fields Tryd.underlying25 (by kernel_rfl) (by kernel_rfl) h
  match cs, hl with
  | [v0, v1, v2, v3, v4], _ =>
    obtain ⟨u0, _, _, e0, t0⟩ := hf 0 _ rfl
    obtain ⟨u1, _, _, e1, t1⟩ := hf 1 _ rfl
    obtain ⟨u2, _, _, e2, t2⟩ := hf 2 _ rfl
    obtain ⟨u3, _, _, e3, t3⟩ := hf 3 _ rfl
    obtain ⟨u4, _, _, e4, t4⟩ := hf 4 _ rfl
    simp only [List.getElem?_cons_zero, List.getElem?_cons_succ, Option.some.injEq] at e0 e1 e2 e3 e4
    subst e0; subst e1; subst e2; subst e3; subst e4
    obtain ⟨TA, tc, t, rfl, ht⟩ := trod_int_structs (k := 2) Tray.enc Tryd.underlying22 Tryd.underlying124 (by kernel_rfl) (by kernel_rfl) (by kernel_rfl) (by kernel_rfl) (by omega) Tray.of_ints_enc t0
    obtain ⟨OA, oc, o, rfl, ho⟩ := trod_int_structs (k := 3) Outing.enc Tryd.underlying23 Tryd.underlying126 (by kernel_rfl) (by kernel_rfl) (by kernel_rfl) (by kernel_rfl) (by omega) Outing.of_ints_enc t1
    obtain ⟨g, rfl, _, _⟩ := trod_i64 Tryd.underlying3 t2
    obtain ⟨s, rfl, _, _⟩ := trod_i64 Tryd.underlying3 t3
    obtain ⟨m, rfl, _, _⟩ := trod_i64 Tryd.underlying3 t4
    exact ⟨⟨TA, t, tc, OA, o, oc, g, s, m⟩, rfl, ht, ho⟩
set_option maxRecDepth 100000 in
theorem open_office {b0 : Nat} {r : Reach} {v : Value} {d : DataW H} {q : List MemPlace} (hv : Value.okWide Tryd.prog w r b0 25 v) (h : DataW.Trod enc Tryd.prog w base spare held 25 v d q) : ∃ p : Off, v = p.val ∧ OffR w w.heap.size p := by
  obtain ⟨cs, rfl, _⟩ := okWide_struct Tryd.underlying25 hv
  obtain ⟨n, hn⟩ := h
  obtain ⟨p, hp, hr⟩ := trod_office hn
  refine ⟨p, ?_, hr⟩
  have hp' : cs.toList = p.enc := by simpa [Value.cells] using hp
  unfold Off.val
  rw [show cs = cs.toList.toArray from rfl, hp']; rfl
end
end Go.Proofs.YtojceibamgodbaaDoor
