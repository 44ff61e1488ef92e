/- Arguments that came in: slices of ints, phrases. -/
import Derived.Test.YtjdedcalbcnkmaaOpen
import Derived.Test.YtjdedcalbcnkmaaPhr
namespace Go.Proofs.Ytjdedcalbcnkmaa
open Go.ChangeShapes Go.WideShapes Go.ChangeAt Go.RowKit Go.Deep
section
variable {H : Type} {enc : TypeId × Value → H} {P : Program} {w : World} {base : Nat} {spare : Nat → Bool} {held : Bool}
theorem flat_ints (l : List Int) : l.flatMap encI = encIs l := by
  induction l with
  | nil => rfl
  | cons x l ih => simp [encI, encIs] at ih ⊢; exact ih
theorem trod_ints {t e : TypeId} {n : Nat} {v : Value} {x : DataW H × List MemPlace} (ht : P.underlying t = some (.slice e)) (he : P.underlying e = some (.int .i64)) (hk : P.cellsOf e = 1)
    (h : DataW.trod enc P w base spare held n t [v] = some x) : ∃ A c, ∃ l : List Int, v = .slice A l.length c ∧ IntsR w w.heap.size A l := by
  obtain ⟨A, len, cap, hv, css, hl, hS, hcs⟩ := trod_slc ht hk (by omega) h
  obtain ⟨l, hfl, hll⟩ := lift_list encI css (fun cs hc => by
    obtain ⟨hlen, m, y, hy⟩ := hcs cs hc
    match cs, hlen with
    | [u], _ =>
      obtain ⟨z, rfl, _, _⟩ := trod_i64 he hy
      exact ⟨z, rfl⟩)
  refine ⟨A, cap, l, by rw [hll, hl]; exact hv, ?_⟩
  unfold IntsR
  rw [hll, hl, ← flat_ints, ← hfl]; exact hS
end
section
variable {H : Type} {enc : TypeId × Value → H} {w : World} {base : Nat} {spare : Nat → Bool} {held : Bool}
theorem trod_phrase {n : Nat} {cs : List Value} {x : DataW H × List MemPlace} (h : DataW.trod enc Try.prog w base spare held n 24 cs = some x) : ∃ p : Ph, cs = p.enc ∧ IntsR w w.heap.size p.A p.f := by
  obtain ⟨hl, hf⟩ := trod_fields Try.underlying24 (by kernel_rfl) (by kernel_rfl) h
  match cs, hl with
  | [v0, v1, v2, v3], _ =>
    obtain ⟨u0, _, _, e0, t0⟩ := hf 0 _ rfl
    obtain ⟨u1, _, _, e1, t1⟩ := hf 1 _ rfl
    obtain ⟨u2, _, _, e2, t2⟩ := hf 2 _ rfl
    obtain ⟨u3, _, _, e3, t3⟩ := hf 3 _ rfl
    simp only [List.getElem?_cons_zero, List.getElem?_cons_succ, Option.some.injEq] at e0 e1 e2 e3
    subst e0; subst e1; subst e2; subst e3
    obtain ⟨s, rfl, _, _⟩ := trod_i64 Try.underlying3 t0
    obtain ⟨c, rfl, _, _⟩ := trod_i64 Try.underlying3 t1
    obtain ⟨p, rfl, _, _⟩ := trod_i64 Try.underlying3 t3
    obtain ⟨A, cap, l, rfl, hr⟩ := trod_ints Try.underlying22 Try.underlying3 (by kernel_rfl) t2
    exact ⟨⟨s, c, A, l, cap, p⟩, rfl, hr⟩
set_option maxRecDepth 20000 in
theorem open_phrase {b0 : Nat} {r : Reach} {v : Value} {d : DataW H} {q : List MemPlace} (hv : Value.okWide Try.prog w r b0 24 v) (h : DataW.Trod enc Try.prog w base spare held 24 v d q) : ∃ p : Ph, v = p.val ∧ IntsR w w.heap.size p.A p.f := by
  obtain ⟨cs, rfl, _⟩ := okWide_struct Try.underlying24 hv
  obtain ⟨n, hn⟩ := h
  obtain ⟨p, hp, hr⟩ := trod_phrase hn
  refine ⟨p, ?_, hr⟩
  have hp' : cs.toList = p.enc := by simpa [Value.cells] using hp
  unfold Ph.val
  rw [show cs = cs.toList.toArray from rfl, hp']; rfl
end
end Go.Proofs.Ytjdedcalbcnkmaa
