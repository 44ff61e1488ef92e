/- Of08: the texts OpenCode, joined into one file. -/
import Derived.Test.YtpjfidmapnnbkaaGreatDoorOf03
import Derived.Test.YtpjfidmapnnbkaaGreatDoorOf07

set_option linter.unusedVariables false

/- Arguments that came in: a slice of bytes. -/
namespace Go.Proofs.YtpjfidmapnnbkaaGreatDoor
open Go.ChangeShapes Go.WideShapes Go.ChangeAt Go.RowKit Go.Deep
section
variable {H : Type} {enc : TypeId × Value → H} {P : Program} {w : World} {base : Nat} {spare : Nat → Bool} {held : Bool}
theorem trod_u8 {t : TypeId} {n : Nat} {v : Value} {x : DataW H × List MemPlace} (ht : P.underlying t = some (.int .u8)) (h : DataW.trod enc P w base spare held n t [v] = some x) :
    ∃ b : UInt8, v = .int .u8 (b.toNat : Int) := by
  obtain ⟨m, e, _, hw⟩ := DataW.trod_int ht h
  have hb : 0 ≤ m ∧ m ≤ 255 := by
    simp [Lit.wf, IntKind.min, IntKind.max, IntKind.signed, IntKind.bits] at hw
    omega
  refine ⟨UInt8.ofNat m.toNat, ?_⟩
  have e' : v = .int .u8 m := by simpa using e
  rw [e']
  congr 1
  have : (UInt8.ofNat m.toNat).toNat = m.toNat := by
    rw [UInt8.toNat_ofNat']; omega
  rw [this]; omega
/-- A slice of bytes. -/
theorem open_bytes {t e : TypeId} {b0 : Nat} {r : Reach} {v : Value} {d : DataW H} {p : List MemPlace} (ht : P.underlying t = some (.slice e)) (he : P.underlying e = some (.int .u8)) (hC : P.cellsOf e = 1)
    (hv : Value.okWide P w r b0 t v) (h : DataW.Trod enc P w base spare held t v d p) : ∃ A c, ∃ l : List UInt8, v = .slice A l.length c ∧ BytesR w w.heap.size A l := by
  obtain ⟨A, len, cap, rfl⟩ := okWide_slice ht hv
  obtain ⟨n, hn⟩ := h
  obtain ⟨A', len', cap', e', css, hl, hS, hcs⟩ := trod_slc ht hC (by omega) hn
  injection e' with e1 e2 e3
  subst e1; subst e2; subst e3
  obtain ⟨l, hfl, hll⟩ := lift_list (fun b : UInt8 => [Value.int .u8 (b.toNat : Int)]) css (fun cs hc => by
    obtain ⟨hlen, m, y, hy⟩ := hcs cs hc
    obtain ⟨u, rfl⟩ : ∃ u, cs = [u] := by match cs, hlen with | [u], _ => exact ⟨u, rfl⟩
    obtain ⟨b, rfl⟩ := trod_u8 he hy
    exact ⟨b, rfl⟩)
  refine ⟨A, cap, l, by rw [hll, hl], ?_⟩
  rw [hfl] at hS
  have key : ∀ l : List UInt8, encBs l = l.flatMap (fun b : UInt8 => [Value.int .u8 (b.toNat : Int)]) := fun l => by
    induction l with
    | nil => rfl
    | cons a l ih => rw [List.flatMap_cons, ← ih]; rfl
  unfold BytesR
  rw [key, hll, hl]
  exact hS
end
end Go.Proofs.YtpjfidmapnnbkaaGreatDoor
