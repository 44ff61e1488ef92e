/- By13: the texts Draw, joined into one file. -/
import Derived.Deep.DeepCutAuto
import Derived.Test.YtkokbmmffkpclaaDoorBy05
import Derived.Test.YtkokbmmffkpclaaDoorBy12

set_option linter.unusedVariables false

/- Regions of drawing functions, on the facts law: a cursor that goes on, blocks that stay. -/
namespace Go.Proofs.YtkokbmmffkpclaaDoor
open Go.RowKit

/-- How many of the first n operations have been. -/
def cntB (L : Nat → Bool) : Nat → Nat
  | 0 => 0
  | n + 1 => cntB L n + (if L n = true then 1 else 0)
theorem cntB_le (L : Nat → Bool) : ∀ n, cntB L n ≤ n
  | 0 => Nat.le_refl _
  | n + 1 => by have := cntB_le L n; rw [cntB]; split <;> omega
theorem cntB_same {L : Nat → Bool} {k : Nat} : ∀ n, n ≤ k → cntB (Listed.but L k) n = cntB L n
  | 0, _ => rfl
  | n + 1, h => by
    rw [cntB, cntB, cntB_same n (by omega)]
    have : Listed.but L k n = L n := by unfold Listed.but; rw [if_neg (by omega)]
    rw [this]
theorem cntB_but {L : Nat → Bool} {k : Nat} (hL : L k = false) : ∀ n, k < n → cntB (Listed.but L k) n = cntB L n + 1
  | 0, h => absurd h (by omega)
  | n + 1, h => by
    rw [cntB, cntB]
    by_cases e : n = k
    · subst e
      rw [cntB_same n (Nat.le_refl _), hL]
      have : Listed.but L n n = true := by unfold Listed.but; rw [if_pos rfl]
      rw [this]; simp
    · rw [cntB_but hL n (by omega)]
      have : Listed.but L k n = L n := by unfold Listed.but; rw [if_neg e]
      rw [this]; omega
theorem grownAny {w w' : World} (h : Below w.heap.size w w') (row : Option Nat) : w.grownBy w' row := ⟨h.os, h.tape, h.output, h.size, fun k hk _ => h.block k hk⟩
section
variable {w W : World} {g : Nat} {A : Option Addr} {bs : List UInt8} {cap m : Nat}
theorem Env.below {W' : World} (E : Env w W g A bs cap m) (h : Below W.heap.size W W') : Env w W' g A bs cap m :=
  ⟨E.cur.kept (row := none) (grownAny h _) (by simp), E.rd.keep fun p hp => h.cell (by have := E.lt; omega), grown_trans E.gr (grownAny h _)⟩
theorem Env.drew (E : Env w W g A bs cap m) : Env w W.drew g A bs cap m := ⟨E.cur, E.rd.keep fun _ _ => rfl, grown_drew E.gr⟩
/-- What holds of a block until an operation of the region has been. -/
structure Room where
  op : Nat
  blk : Option Nat
  P : World → Prop
  st : ∀ w w' row, w.grownBy w' row → (blk = none ∨ blk ≠ row) → P w → P w'
def Room.lies (k h : Nat) (t : TypeId) (cs : List Value) : Room := ⟨k, some h, fun w => Lies w h t cs, fun _ _ _ hg hb hL => hL.kept hg (hb.resolve_left (by simp))⟩
def Room.row (k B : Nat) (t : TypeId) (sz : Nat) (v : Value) (n : Nat) (xs : List Value) : Room := ⟨k, v.ownBlock, fun w => w.ownsRow B t sz v n xs, fun _ _ _ hg hb hL => hL.kept hg hb⟩
/-- The world in a drawing region: the cursor's, with all blocks as they lay, but those of X. -/
structure Dr (w W : World) (g : Nat) (A : Option Addr) (bs : List UInt8) (cap m K n : Nat) (X : List Nat) (R : List Room) (L : Nat → Bool) (W9 : World) : Prop where
  env : Env w W9 g A bs cap (m + K * cntB L n)
  size : W.heap.size ≤ W9.heap.size
  keep : ∀ k, k < W.heap.size → k ∉ X → W9.heap[k]? = W.heap[k]?
  room : ∀ p ∈ R, p.blk ≠ some g ∧ (L p.op = false → p.P W9)
variable {K n k : Nat} {X : List Nat} {R : List Room} {L : Nat → Bool} {W9 : World}
theorem Dr.start (E : Env w W g A bs cap m) (hr : ∀ p ∈ R, p.blk ≠ some g ∧ p.P W) : Dr w W g A bs cap m K n X R (fun _ => false) W.drew := by
  refine ⟨?_, Nat.le_refl _, fun _ _ _ => rfl, fun p hp => ⟨(hr p hp).1, fun _ => p.st W W.drew none (grown_drew (World.grownBy.refl W none)) (by cases p.blk <;> simp) (hr p hp).2⟩⟩
  have : cntB (fun _ => false) n = 0 := by
    induction n with
    | zero => rfl
    | succ n ih => rw [cntB, ih]; simp
  rw [this]; exact E.drew
theorem Listed.was {L : Nat → Bool} {k j : Nat} (h : Listed.but L k j = false) : L j = false ∧ j ≠ k := by
  unfold Listed.but at h
  split at h
  · cases h
  · exact ⟨h, by assumption⟩
theorem Dr.stay (h : Dr w W g A bs cap m K n X R L W9) (hL : L k = false) (hk : k < n) : Dr w W g A bs cap m K n X R (Listed.but L k) W9 :=
  ⟨h.env.mono (by rw [cntB_but hL n hk, Nat.mul_add]; omega), h.size, h.keep, fun p hp => ⟨(h.room p hp).1, fun hl => (h.room p hp).2 (Listed.was hl).1⟩⟩
theorem Dr.alloc (h : Dr w W g A bs cap m K n X R L W9) (hL : L k = false) (hk : k < n) (o : Obj) : Dr w W g A bs cap m K n X R (Listed.but L k) (W9.alloc o) :=
  ⟨(h.env.alloc o).mono (by rw [cntB_but hL n hk, Nat.mul_add]; omega), Nat.le_trans h.size (by simp), fun k hk' hX => (Below.heap_alloc W9 o k (Nat.lt_of_lt_of_le hk' h.size)).trans (h.keep k hk' hX), fun p hp => ⟨(h.room p hp).1, fun hl => p.st _ _ none (World.grownBy_alloc W9 o none) (by cases p.blk <;> simp) ((h.room p hp).2 (Listed.was hl).1)⟩⟩
theorem Dr.call {W8 : World} {m' : Nat} (h : Dr w W g A bs cap m K n X R L W9) (hL : L k = false) (hk : k < n) (E : Env w W8 g A bs cap m') (hm : m' ≤ m + K * cntB L n + K) (gr : W9.grownBy W8 (some g)) (hX : g ∈ X) : Dr w W g A bs cap m K n X R (Listed.but L k) W8 :=
  ⟨E.mono (by rw [cntB_but hL n hk, Nat.mul_add]; omega), Nat.le_trans h.size gr.size, fun k hk' hX' => (gr.block k (Nat.lt_of_lt_of_le hk' h.size) (by intro e; injection e with e; subst e; exact hX' hX)).trans (h.keep k hk' hX'), fun p hp => ⟨(h.room p hp).1, fun hl => p.st _ _ _ gr (.inr (h.room p hp).1) ((h.room p hp).2 (Listed.was hl).1)⟩⟩
theorem Dr.below {W8 : World} (h : Dr w W g A bs cap m K n X R L W9) (hL : L k = false) (hk : k < n) (hb : Below W9.heap.size W9 W8) : Dr w W g A bs cap m K n X R (Listed.but L k) W8 :=
  ⟨(h.env.below hb).mono (by rw [cntB_but hL n hk, Nat.mul_add]; omega), Nat.le_trans h.size hb.size, fun k hk' hX' => (hb.block k (Nat.lt_of_lt_of_le hk' h.size)).trans (h.keep k hk' hX'), fun p hp => ⟨(h.room p hp).1, fun hl => p.st _ _ none (grownAny hb none) (by cases p.blk <;> simp) ((h.room p hp).2 (Listed.was hl).1)⟩⟩
theorem Dr.wrote {W8 : World} {row : Option Nat} (h : Dr w W g A bs cap m K n X R L W9) (hL : L k = false) (hk : k < n) (gr : W9.grownBy W8 row) (hw : ∀ b, row = some b → w.heap.size ≤ b ∧ g < b ∧ (b ∈ X ∨ W.heap.size ≤ b)) (hr : ∀ p ∈ R, p.blk = row → p.op = k ∨ row = none) : Dr w W g A bs cap m K n X R (Listed.but L k) W8 := by
  have hE : Env w W8 g A bs cap (m + K * cntB L n) := by
    cases row with
    | none => exact ⟨h.env.cur.kept gr (by simp), h.env.rd.keep fun p hp => grown_cell gr p (by have := h.env.lt; omega) (by simp), grown_trans h.env.gr ⟨gr.os, gr.tape, gr.output, gr.size, fun j hj _ => gr.block j hj (by simp)⟩⟩
    | some b => exact h.env.wrote gr (hw b rfl).1 (hw b rfl).2.1
  refine ⟨hE.mono (by rw [cntB_but hL n hk, Nat.mul_add]; omega), Nat.le_trans h.size gr.size, fun k hk' hX' => (gr.block k (Nat.lt_of_lt_of_le hk' h.size) (by intro e; rcases (hw k e.symm).2.2 with h1 | h1; exact hX' h1; omega)).trans (h.keep k hk' hX'), fun p hp => ⟨(h.room p hp).1, fun hl => ?_⟩⟩
  obtain ⟨h1, h2⟩ := Listed.was hl
  refine p.st _ _ row gr ?_ ((h.room p hp).2 h1)
  by_cases e : p.blk = row
  · rcases hr p hp e with h3 | h3
    · exact absurd h3 h2
    · exact .inl (e.trans h3)
  · exact .inr e
theorem Dr.lies {b : Nat} {t : TypeId} {cs : List Value} (h : Dr w W g A bs cap m K n X R L W9) (hL : Lies W b t cs) (hX : b ∉ X) : Lies W9 b t cs := (h.keep b hL.lt hX).trans hL
theorem Dr.le (h : Dr w W g A bs cap m K n X R L W9) : Env w W9 g A bs cap (m + K * n) := h.env.mono (by have := Nat.mul_le_mul_left K (cntB_le L n); omega)
theorem Dr.cnt (_h : Dr w W g A bs cap m K n X R L W9) : m + K * cntB L n ≤ m + K * n := by have := Nat.mul_le_mul_left K (cntB_le L n); omega
theorem Dr.owns {B : Nat} {e : TypeId} {sz n' : Nat} {v : Value} {xs : List Value} (h : Dr w W g A bs cap m K n X R L W9) (ho : W.ownsRow B e sz v n' xs) (hX : ∀ b, v.ownBlock = some b → b ∉ X) : W9.ownsRow B e sz v n' xs := by
  obtain ⟨h1, h2 | ⟨b, c, cur, hv, hB, hh, hr⟩⟩ := ho
  · exact ⟨h1, .inl h2⟩
  · refine ⟨h1, .inr ⟨b, c, cur, hv, hB, ?_, hr⟩⟩
    have hb : b < W.heap.size := by
      rcases Nat.lt_or_ge b W.heap.size with h3 | h3
      · exact h3
      · rw [Array.getElem?_eq_none h3] at hh; cases hh
    rw [h.keep b hb (hX b (by rw [hv]; rfl))]
    exact hh
/-- A row that reads, away from the blocks of X. -/
theorem Dr.reads {k' n' : Nat} {A' : Option Addr} {cs : List Value} (h : Dr w W g A bs cap m K n X R L W9) (hr : SlcR W W.heap.size k' A' n' cs) (hX : 0 < n' → ∀ b, A'.map (·.block) = some b → b ∉ X) : SlcR W9 W9.heap.size k' A' n' cs :=
  ⟨hr.len, hr.big, fun hn => by
    obtain ⟨b, off, e, hb, hc⟩ := hr.at_ hn
    refine ⟨b, off, e, Nat.lt_of_lt_of_le hb h.size, fun j u hu => ?_⟩
    rw [World.cell?_of_block (a := ⟨b, off + j, none⟩) (h.keep b hb (hX hn b (by rw [e]; rfl)))]
    exact hc j u hu⟩
end
/-- What lay below W's end lies as it lay, but for the cursor's block. -/
theorem drawn_gr {w W W2 wx : World} {g : Nat} {A : Option Addr} {bs : List UInt8} {cap m m' K n : Nat} {X : List Nat} {R : List Room} {L : Nat → Bool} (G : W.grownBy W2 (some g)) (h : Dr w W2 g A bs cap m K n X R L wx) (hX : ∀ k ∈ X, k ≠ g → W.heap.size ≤ k) (E0 : Env w W2 g A bs cap m') : W.grownBy wx (some g) :=
  ⟨h.env.gr.os.trans (E0.gr.os.symm.trans G.os), h.env.gr.tape.trans (E0.gr.tape.symm.trans G.tape), h.env.gr.output.trans (E0.gr.output.symm.trans G.output), Nat.le_trans G.size h.size,
   fun k hk hne => (h.keep k (Nat.lt_of_lt_of_le hk G.size) (fun hm => by have := hX k hm (by intro e; subst e; exact hne rfl); omega)).trans (G.block k hk hne)⟩
theorem grown_own {W W' W'' : World} {g b : Nat} (G : W.grownBy W' (some g)) (hg : W'.grownBy W'' (some b)) (hb : W.heap.size ≤ b) : W.grownBy W'' (some g) :=
  ⟨hg.os.trans G.os, hg.tape.trans G.tape, hg.output.trans G.output, Nat.le_trans G.size hg.size, fun k hk hne => (hg.block k (Nat.lt_of_lt_of_le hk G.size) (by intro e; injection e; omega)).trans (G.block k hk hne)⟩
/-- A row that came in stands apart from the cursor and from what was made since. -/
theorem rowsX {W : World} {k n g : Nat} {A : Option Addr} {cs : List Value} {X : List Nat} (hr : SlcR W W.heap.size k A n cs) (hne : ∀ b, A.map (·.block) = some b → b ≠ g) (hX : ∀ k ∈ X, k ≠ g → W.heap.size ≤ k) : 0 < n → ∀ b, A.map (·.block) = some b → b ∉ X := fun hn b hb hm => by
  obtain ⟨b', off, e, hb', _⟩ := hr.at_ hn
  rw [e] at hb
  injection hb with hb
  simp only at hb
  subst hb
  have := hX _ hm (hne _ (by rw [e]; rfl))
  omega
theorem SlcR.gr {W W' : World} {k n g : Nat} {A : Option Addr} {cs : List Value} (hr : SlcR W W.heap.size k A n cs) (hne : ∀ b, A.map (·.block) = some b → b ≠ g) (hg : W.grownBy W' (some g)) : SlcR W' W'.heap.size k A n cs :=
  ⟨hr.len, hr.big, fun hn => by
    obtain ⟨b, off, e, hb, hc⟩ := hr.at_ hn
    refine ⟨b, off, e, Nat.lt_of_lt_of_le hb hg.size, fun j u hu => ?_⟩
    rw [World.cell?_of_block (a := ⟨b, off + j, none⟩) (hg.block b hb (by intro e'; injection e' with e'; exact hne b (by rw [e]; rfl) e'))]
    exact hc j u hu⟩
theorem len2 {l : List Value} (h : l.length = 2) : ∃ a b, l = [a, b] := by match l, h with | [a, b], _ => exact ⟨a, b, rfl⟩
theorem len3 {l : List Value} (h : l.length = 3) : ∃ a b c, l = [a, b, c] := by match l, h with | [a, b, c], _ => exact ⟨a, b, c, rfl⟩
theorem len4 {l : List Value} (h : l.length = 4) : ∃ a b c d, l = [a, b, c, d] := by match l, h with | [a, b, c, d], _ => exact ⟨a, b, c, d, rfl⟩
theorem len5 {l : List Value} (h : l.length = 5) : ∃ a b c d e, l = [a, b, c, d, e] := by match l, h with | [a, b, c, d, e], _ => exact ⟨a, b, c, d, e, rfl⟩
/-- One of a list that lies in a block. -/
theorem among_lies {w W : World} {g : Nat} {A : Option Addr} {bs : List UInt8} {cap m : Nat} (E : Env w W g A bs cap m) (b n : Nat) (l : List Int) (hl : l.length = n) (hL : Lies W b 3 (encIs l)) (hne : b ≠ g) (h0 : 0 < n) (hn : n ≤ 100000) (hm : m ≤ 900000000) :
    Calls Tryd.prog 23 #[.pointer (some ⟨g, 0, none⟩), .slice (some ⟨b, 0, none⟩) n n] W fun e w' => ∃ x : Int, e = .returned (.int .i64 x) ∧ Env w w' g A bs cap (m + 2) ∧ W.grownBy w' (some g) := by
  subst hl
  have hi : IntsR W W.heap.size (some ⟨b, 0, none⟩) l := hL.reads (encIs_len l) (by omega)
  exact (among_any g A _ cap _ m bs l _ h0 hn hm E.cur E.rd hi (by intro e; injection e with e; exact hne e)).mono fun _ _ ⟨x, he, _, hc, hg⟩ => ⟨x, he, E.next hc hg, hg⟩
theorem l1Most_any (a b : Int) (w : World) : Calls Tryd.prog 46 #[.int .i64 a, .int .i64 b] w fun e w' => (∃ z : Int, e = .returned (.int .i64 z)) ∧ Below w.heap.size w w' := by
  go_enter Tryd.func46, Tryd.ntmps46
  go_wp2
  all_goals (go_ret; exact ⟨⟨_, rfl⟩, Below.refl _ _⟩)
end Go.Proofs.YtkokbmmffkpclaaDoor
