/- Two worlds that differ in some blocks alone; marks in a row; the place of the first (no program's own function in sight). -/
import Derived.Test.YtojceibamgodbaaDoorInts
namespace Go.Proofs.YtojceibamgodbaaDoor
open Go.RowKit

/-- Between two worlds only blocks from lo on and below hi have turned; new ones may lie behind. -/
structure Mid (lo hi : Nat) (w w' : World) : Prop where
  os : w'.os = w.os
  tape : w'.tape = w.tape
  output : w'.output = w.output
  size : w.heap.size ≤ w'.heap.size
  block : ∀ k, k < w.heap.size → (k < lo ∨ hi ≤ k) → w'.heap[k]? = w.heap[k]?
theorem Mid.refl (lo hi : Nat) (w : World) : Mid lo hi w w := ⟨rfl, rfl, rfl, Nat.le_refl _, fun _ _ _ => rfl⟩
theorem Mid.trans {lo hi : Nat} {a b c : World} (h : Mid lo hi a b) (k : Mid lo hi b c) : Mid lo hi a c :=
  ⟨k.os.trans h.os, k.tape.trans h.tape, k.output.trans h.output, Nat.le_trans h.size k.size, fun i hi ho => (k.block i (Nat.lt_of_lt_of_le hi h.size) ho).trans (h.block i hi ho)⟩
theorem Mid.of {lo hi : Nat} {a b : World} {row : Option Nat} (h : a.grownBy b row) (hr : ∀ g, row = some g → lo ≤ g ∧ g < hi) : Mid lo hi a b :=
  ⟨h.os, h.tape, h.output, h.size, fun k hk ho => h.block k hk (fun e => by have := hr k e.symm; omega)⟩
theorem Mid.below {lo hi : Nat} {a b : World} (h : Mid lo hi a b) (hlo : lo ≤ a.heap.size) : Below lo a b :=
  ⟨h.os, h.tape, h.output, h.size, fun k hk => h.block k (by omega) (.inl hk)⟩
theorem Mid.lies {lo hi : Nat} {a b : World} (h : Mid lo hi a b) {g : Nat} {t : TypeId} {cs : List Value} (hL : Lies a g t cs) (ho : g < lo ∨ hi ≤ g) : Lies b g t cs := (h.block g hL.lt ho).trans hL
theorem Mid.own {lo hi : Nat} {a b : World} (h : Mid lo hi a b) {B : Nat} {t : TypeId} {k : Nat} {A : Option Addr} {n : Nat} {cs : List Value} (hO : OwnS a B t k A n cs) (hB : hi ≤ B) : OwnS b B t k A n cs := by
  obtain ⟨hl, hn, h0 | ⟨g', rest, hA, hg', hh⟩⟩ := hO
  · exact ⟨hl, hn, .inl h0⟩
  · exact ⟨hl, hn, .inr ⟨g', rest, hA, hg', h.lies hh (.inr (by omega))⟩⟩

theorem at_behind {α : Type} {a r : List α} {n : Nat} (h : a.length = n) (i : Nat) : (a ++ r)[n + i]? = r[i]? := by
  rw [List.getElem?_append_right (by omega), h, Nat.add_sub_cancel_left]
theorem set_behind {α : Type} {a r : List α} {n : Nat} (h : a.length = n) (i : Nat) (u : α) : (a ++ r).set (n + i) u = a ++ r.set i u := by
  subst h; rw [List.set_append_right _ _ (by omega), Nat.add_sub_cancel_left]

theorem split_2 {α : Type} {l : List α} (h : 2 ≤ l.length) : ∃ a0 a1 r, l = a0 :: a1 :: r := by
  match l, h with
  | a0 :: a1 :: r, _ => exact ⟨a0, a1, r, rfl⟩
theorem split_3 {α : Type} {l : List α} (h : 3 ≤ l.length) : ∃ a0 a1 a2 r, l = a0 :: a1 :: a2 :: r := by
  match l, h with
  | a0 :: a1 :: a2 :: r, _ => exact ⟨a0, a1, a2, r, rfl⟩
theorem split_4 {α : Type} {l : List α} (h : 4 ≤ l.length) : ∃ a0 a1 a2 a3 r, l = a0 :: a1 :: a2 :: a3 :: r := by
  match l, h with
  | a0 :: a1 :: a2 :: a3 :: r, _ => exact ⟨a0, a1, a2, a3, r, rfl⟩
theorem split_5 {α : Type} {l : List α} (h : 5 ≤ l.length) : ∃ a0 a1 a2 a3 a4 r, l = a0 :: a1 :: a2 :: a3 :: a4 :: r := by
  match l, h with
  | a0 :: a1 :: a2 :: a3 :: a4 :: r, _ => exact ⟨a0, a1, a2, a3, a4, r, rfl⟩
theorem enc_ramp_at {k0 : Int} {n i : Nat} (h : i < n) : (encIs (ramp k0 n))[i]? = some (.int .i64 (k0 + i)) := by
  unfold encIs
  rw [List.getElem?_map, List.getElem?_eq_getElem (by rw [ramp_len]; exact h), ramp_at]; rfl

/-- The place of the first that f takes, or -1. -/
def idxFrom {α : Type} (f : α → Bool) : Nat → List α → Int
  | _, [] => -1
  | k, x :: l => if f x then k else idxFrom f (k + 1) l
theorem idxFrom_any {α : Type} (f : α → Bool) : ∀ (l : List α) (k : Nat), decide (0 ≤ idxFrom f k l) = l.any f
  | [], _ => rfl
  | x :: l, k => by
    rw [idxFrom, List.any_cons, ← idxFrom_any f l (k + 1)]
    cases f x <;> simp
theorem idx_yes {α : Type} {f : α → Bool} {l : List α} {k : Nat} (h : k < l.length) (hf : f l[k] = true) : idxFrom f k (l.drop k) = k := by
  rw [List.drop_eq_getElem_cons h, idxFrom, hf]; rfl
theorem idx_no {α : Type} {f : α → Bool} {l : List α} {k : Nat} (h : k < l.length) (hf : f l[k] = false) : idxFrom f k (l.drop k) = idxFrom f (k + 1) (l.drop (k + 1)) := by
  rw [List.drop_eq_getElem_cons h, idxFrom, hf]; rfl
end Go.Proofs.YtojceibamgodbaaDoor
