/- Arguments that came in: lists of phrases. -/
import Derived.Test.YtjdedcalbcnkmaaOpenPhr
import Derived.Test.YtjdedcalbcnkmaaPhrs
namespace Go.Proofs.Ytjdedcalbcnkmaa
open Go.ChangeShapes Go.WideShapes Go.ChangeAt Go.RowKit Go.Deep

theorem lift_list_p {α : Type} (enc : α → List Value) (p : α → Prop) : ∀ css : List (List Value), (∀ cs ∈ css, ∃ x, cs = enc x ∧ p x) → ∃ l : List α, css.flatten = l.flatMap enc ∧ l.length = css.length ∧ ∀ x ∈ l, p x
  | [], _ => ⟨[], rfl, rfl, fun x h => by cases h⟩
  | cs :: css, h => by
    obtain ⟨x, hx, hp⟩ := h cs (by simp)
    obtain ⟨l, hl, hn, hl'⟩ := lift_list_p enc p css (fun c hc => h c (by simp [hc]))
    refine ⟨x :: l, by simp [hl, hx], by simp [hn], fun y hy => ?_⟩
    rcases List.mem_cons.1 hy with rfl | hy
    · exact hp
    · exact hl' y hy
section
variable {H : Type} {enc : TypeId × Value → H} {w : World} {base : Nat} {spare : Nat → Bool} {held : Bool}
set_option maxRecDepth 20000 in
theorem open_phrases {b0 : Nat} {r : Reach} {v : Value} {d : DataW H} {q : List MemPlace} (hv : Value.okWide Try.prog w r b0 31 v) (h : DataW.Trod enc Try.prog w base spare held 31 v d q) :
    ∃ A c, ∃ l : List Ph, v = .slice A l.length c ∧ PhsR w w.heap.size A l := by
  obtain ⟨A, len, cap, rfl⟩ := okWide_slice Try.underlying31 hv
  obtain ⟨n, hn⟩ := h
  obtain ⟨A', len', cap', e', css, hl, hS, hcs⟩ := trod_slc (k := 4) Try.underlying31 (by kernel_rfl) (by omega) hn
  injection e' with e1 e2 e3
  subst e1; subst e2; subst e3
  obtain ⟨l, hfl, hll, hp⟩ := lift_list_p Ph.enc (fun p => IntsR w w.heap.size p.A p.f) css (fun cs hc => by
    obtain ⟨_, m, y, hy⟩ := hcs cs hc
    exact trod_phrase hy)
  refine ⟨A, cap, l, by rw [hll, hl], ?_, hp⟩
  rw [hll, hl, ← hfl]; exact hS
end
end Go.Proofs.Ytjdedcalbcnkmaa
