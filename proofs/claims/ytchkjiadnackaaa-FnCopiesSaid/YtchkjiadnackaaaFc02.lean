/- Fc02: the texts Draw Rise More AnyI IntsTo Phr PhrTo Phrs PhrGood Own Cat OwnInts PhrCopy, joined into one file. -/
import Derived.Deep.DeepCutAuto
import Derived.OwnWalk
import Derived.Maps.AppendAt
import Derived.Test.YtchkjiadnackaaaFc01

set_option linter.unusedVariables false

/- Regions of drawing functions, on the facts law: a cursor that goes on, blocks that stay. -/
namespace Go.Proofs.Ytchkjiadnackaaa
open Go.RowKit

/-- How many of the first n operations have been. -/
def cntB (L : Nat → Bool) : Nat → Nat
  | 0 => 0
  | n + 1 => cntB L n + (if L n = true then 1 else 0)
theorem cntB_le (L : Nat → Bool) : ∀ n, cntB L n ≤ n
  | 0 => Nat.le_refl _
  | n + 1 => by have := cntB_le L n; rw [cntB]; split <;> omega
theorem cntB_same {L : Nat → Bool} {k : Nat} : ∀ n, n ≤ k → cntB (Listed.but L k) n = cntB L n
  | 0, _ => rfl
  | n + 1, h => by
    rw [cntB, cntB, cntB_same n (by omega)]
    have : Listed.but L k n = L n := by unfold Listed.but; rw [if_neg (by omega)]
    rw [this]
theorem cntB_but {L : Nat → Bool} {k : Nat} (hL : L k = false) : ∀ n, k < n → cntB (Listed.but L k) n = cntB L n + 1
  | 0, h => absurd h (by omega)
  | n + 1, h => by
    rw [cntB, cntB]
    by_cases e : n = k
    · subst e
      rw [cntB_same n (Nat.le_refl _), hL]
      have : Listed.but L n n = true := by unfold Listed.but; rw [if_pos rfl]
      rw [this]; simp
    · rw [cntB_but hL n (by omega)]
      have : Listed.but L k n = L n := by unfold Listed.but; rw [if_neg e]
      rw [this]; omega
theorem grownAny {w w' : World} (h : Below w.heap.size w w') (row : Option Nat) : w.grownBy w' row := ⟨h.os, h.tape, h.output, h.size, fun k hk _ => h.block k hk⟩
section
variable {w W : World} {g : Nat} {A : Option Addr} {bs : List UInt8} {cap m : Nat}
theorem Env.below {W' : World} (E : Env w W g A bs cap m) (h : Below W.heap.size W W') : Env w W' g A bs cap m :=
  ⟨E.cur.kept (row := none) (grownAny h _) (by simp), E.rd.keep fun p hp => h.cell (by have := E.lt; omega), grown_trans E.gr (grownAny h _)⟩
theorem Env.drew (E : Env w W g A bs cap m) : Env w W.drew g A bs cap m := ⟨E.cur, E.rd.keep fun _ _ => rfl, grown_drew E.gr⟩
/-- What holds of a block until an operation of the region has been. -/
structure Room where
  op : Nat
  blk : Option Nat
  P : World → Prop
  st : ∀ w w' row, w.grownBy w' row → (blk = none ∨ blk ≠ row) → P w → P w'
def Room.lies (k h : Nat) (t : TypeId) (cs : List Value) : Room := ⟨k, some h, fun w => Lies w h t cs, fun _ _ _ hg hb hL => hL.kept hg (hb.resolve_left (by simp))⟩
def Room.row (k B : Nat) (t : TypeId) (sz : Nat) (v : Value) (n : Nat) (xs : List Value) : Room := ⟨k, v.ownBlock, fun w => w.ownsRow B t sz v n xs, fun _ _ _ hg hb hL => hL.kept hg hb⟩
/-- The world in a drawing region: the cursor's, with all blocks as they lay, but those of X. -/
structure Dr (w W : World) (g : Nat) (A : Option Addr) (bs : List UInt8) (cap m K n : Nat) (X : List Nat) (R : List Room) (L : Nat → Bool) (W9 : World) : Prop where
  env : Env w W9 g A bs cap (m + K * cntB L n)
  size : W.heap.size ≤ W9.heap.size
  keep : ∀ k, k < W.heap.size → k ∉ X → W9.heap[k]? = W.heap[k]?
  room : ∀ p ∈ R, p.blk ≠ some g ∧ (L p.op = false → p.P W9)
variable {K n k : Nat} {X : List Nat} {R : List Room} {L : Nat → Bool} {W9 : World}
theorem Dr.start (E : Env w W g A bs cap m) (hr : ∀ p ∈ R, p.blk ≠ some g ∧ p.P W) : Dr w W g A bs cap m K n X R (fun _ => false) W.drew := by
  refine ⟨?_, Nat.le_refl _, fun _ _ _ => rfl, fun p hp => ⟨(hr p hp).1, fun _ => p.st W W.drew none (grown_drew (World.grownBy.refl W none)) (by cases p.blk <;> simp) (hr p hp).2⟩⟩
  have : cntB (fun _ => false) n = 0 := by
    induction n with
    | zero => rfl
    | succ n ih => rw [cntB, ih]; simp
  rw [this]; exact E.drew
theorem Listed.was {L : Nat → Bool} {k j : Nat} (h : Listed.but L k j = false) : L j = false ∧ j ≠ k := by
  unfold Listed.but at h
  split at h
  · cases h
  · exact ⟨h, by assumption⟩
theorem Dr.stay (h : Dr w W g A bs cap m K n X R L W9) (hL : L k = false) (hk : k < n) : Dr w W g A bs cap m K n X R (Listed.but L k) W9 :=
  ⟨h.env.mono (by rw [cntB_but hL n hk, Nat.mul_add]; omega), h.size, h.keep, fun p hp => ⟨(h.room p hp).1, fun hl => (h.room p hp).2 (Listed.was hl).1⟩⟩
theorem Dr.alloc (h : Dr w W g A bs cap m K n X R L W9) (hL : L k = false) (hk : k < n) (o : Obj) : Dr w W g A bs cap m K n X R (Listed.but L k) (W9.alloc o) :=
  ⟨(h.env.alloc o).mono (by rw [cntB_but hL n hk, Nat.mul_add]; omega), Nat.le_trans h.size (by simp), fun k hk' hX => (Below.heap_alloc W9 o k (Nat.lt_of_lt_of_le hk' h.size)).trans (h.keep k hk' hX), fun p hp => ⟨(h.room p hp).1, fun hl => p.st _ _ none (World.grownBy_alloc W9 o none) (by cases p.blk <;> simp) ((h.room p hp).2 (Listed.was hl).1)⟩⟩
theorem Dr.call {W8 : World} {m' : Nat} (h : Dr w W g A bs cap m K n X R L W9) (hL : L k = false) (hk : k < n) (E : Env w W8 g A bs cap m') (hm : m' ≤ m + K * cntB L n + K) (gr : W9.grownBy W8 (some g)) (hX : g ∈ X) : Dr w W g A bs cap m K n X R (Listed.but L k) W8 :=
  ⟨E.mono (by rw [cntB_but hL n hk, Nat.mul_add]; omega), Nat.le_trans h.size gr.size, fun k hk' hX' => (gr.block k (Nat.lt_of_lt_of_le hk' h.size) (by intro e; injection e with e; subst e; exact hX' hX)).trans (h.keep k hk' hX'), fun p hp => ⟨(h.room p hp).1, fun hl => p.st _ _ _ gr (.inr (h.room p hp).1) ((h.room p hp).2 (Listed.was hl).1)⟩⟩
theorem Dr.below {W8 : World} (h : Dr w W g A bs cap m K n X R L W9) (hL : L k = false) (hk : k < n) (hb : Below W9.heap.size W9 W8) : Dr w W g A bs cap m K n X R (Listed.but L k) W8 :=
  ⟨(h.env.below hb).mono (by rw [cntB_but hL n hk, Nat.mul_add]; omega), Nat.le_trans h.size hb.size, fun k hk' hX' => (hb.block k (Nat.lt_of_lt_of_le hk' h.size)).trans (h.keep k hk' hX'), fun p hp => ⟨(h.room p hp).1, fun hl => p.st _ _ none (grownAny hb none) (by cases p.blk <;> simp) ((h.room p hp).2 (Listed.was hl).1)⟩⟩
theorem Dr.wrote {W8 : World} {row : Option Nat} (h : Dr w W g A bs cap m K n X R L W9) (hL : L k = false) (hk : k < n) (gr : W9.grownBy W8 row) (hw : ∀ b, row = some b → w.heap.size ≤ b ∧ g < b ∧ (b ∈ X ∨ W.heap.size ≤ b)) (hr : ∀ p ∈ R, p.blk = row → p.op = k ∨ row = none) : Dr w W g A bs cap m K n X R (Listed.but L k) W8 := by
  have hE : Env w W8 g A bs cap (m + K * cntB L n) := by
    cases row with
    | none => exact ⟨h.env.cur.kept gr (by simp), h.env.rd.keep fun p hp => grown_cell gr p (by have := h.env.lt; omega) (by simp), grown_trans h.env.gr ⟨gr.os, gr.tape, gr.output, gr.size, fun j hj _ => gr.block j hj (by simp)⟩⟩
    | some b => exact h.env.wrote gr (hw b rfl).1 (hw b rfl).2.1
  refine ⟨hE.mono (by rw [cntB_but hL n hk, Nat.mul_add]; omega), Nat.le_trans h.size gr.size, fun k hk' hX' => (gr.block k (Nat.lt_of_lt_of_le hk' h.size) (by intro e; rcases (hw k e.symm).2.2 with h1 | h1; exact hX' h1; omega)).trans (h.keep k hk' hX'), fun p hp => ⟨(h.room p hp).1, fun hl => ?_⟩⟩
  obtain ⟨h1, h2⟩ := Listed.was hl
  refine p.st _ _ row gr ?_ ((h.room p hp).2 h1)
  by_cases e : p.blk = row
  · rcases hr p hp e with h3 | h3
    · exact absurd h3 h2
    · exact .inl (e.trans h3)
  · exact .inr e
theorem Dr.lies {b : Nat} {t : TypeId} {cs : List Value} (h : Dr w W g A bs cap m K n X R L W9) (hL : Lies W b t cs) (hX : b ∉ X) : Lies W9 b t cs := (h.keep b hL.lt hX).trans hL
theorem Dr.le (h : Dr w W g A bs cap m K n X R L W9) : Env w W9 g A bs cap (m + K * n) := h.env.mono (by have := Nat.mul_le_mul_left K (cntB_le L n); omega)
theorem Dr.cnt (_h : Dr w W g A bs cap m K n X R L W9) : m + K * cntB L n ≤ m + K * n := by have := Nat.mul_le_mul_left K (cntB_le L n); omega
theorem Dr.owns {B : Nat} {e : TypeId} {sz n' : Nat} {v : Value} {xs : List Value} (h : Dr w W g A bs cap m K n X R L W9) (ho : W.ownsRow B e sz v n' xs) (hX : ∀ b, v.ownBlock = some b → b ∉ X) : W9.ownsRow B e sz v n' xs := by
  obtain ⟨h1, h2 | ⟨b, c, cur, hv, hB, hh, hr⟩⟩ := ho
  · exact ⟨h1, .inl h2⟩
  · refine ⟨h1, .inr ⟨b, c, cur, hv, hB, ?_, hr⟩⟩
    have hb : b < W.heap.size := by
      rcases Nat.lt_or_ge b W.heap.size with h3 | h3
      · exact h3
      · rw [Array.getElem?_eq_none h3] at hh; cases hh
    rw [h.keep b hb (hX b (by rw [hv]; rfl))]
    exact hh
/-- A row that reads, away from the blocks of X. -/
theorem Dr.reads {k' n' : Nat} {A' : Option Addr} {cs : List Value} (h : Dr w W g A bs cap m K n X R L W9) (hr : SlcR W W.heap.size k' A' n' cs) (hX : 0 < n' → ∀ b, A'.map (·.block) = some b → b ∉ X) : SlcR W9 W9.heap.size k' A' n' cs :=
  ⟨hr.len, hr.big, fun hn => by
    obtain ⟨b, off, e, hb, hc⟩ := hr.at_ hn
    refine ⟨b, off, e, Nat.lt_of_lt_of_le hb h.size, fun j u hu => ?_⟩
    rw [World.cell?_of_block (a := ⟨b, off + j, none⟩) (h.keep b hb (hX hn b (by rw [e]; rfl)))]
    exact hc j u hu⟩
end
/-- What lay below W's end lies as it lay, but for the cursor's block. -/
theorem drawn_gr {w W W2 wx : World} {g : Nat} {A : Option Addr} {bs : List UInt8} {cap m m' K n : Nat} {X : List Nat} {R : List Room} {L : Nat → Bool} (G : W.grownBy W2 (some g)) (h : Dr w W2 g A bs cap m K n X R L wx) (hX : ∀ k ∈ X, k ≠ g → W.heap.size ≤ k) (E0 : Env w W2 g A bs cap m') : W.grownBy wx (some g) :=
  ⟨h.env.gr.os.trans (E0.gr.os.symm.trans G.os), h.env.gr.tape.trans (E0.gr.tape.symm.trans G.tape), h.env.gr.output.trans (E0.gr.output.symm.trans G.output), Nat.le_trans G.size h.size,
   fun k hk hne => (h.keep k (Nat.lt_of_lt_of_le hk G.size) (fun hm => by have := hX k hm (by intro e; subst e; exact hne rfl); omega)).trans (G.block k hk hne)⟩
theorem grown_own {W W' W'' : World} {g b : Nat} (G : W.grownBy W' (some g)) (hg : W'.grownBy W'' (some b)) (hb : W.heap.size ≤ b) : W.grownBy W'' (some g) :=
  ⟨hg.os.trans G.os, hg.tape.trans G.tape, hg.output.trans G.output, Nat.le_trans G.size hg.size, fun k hk hne => (hg.block k (Nat.lt_of_lt_of_le hk G.size) (by intro e; injection e; omega)).trans (G.block k hk hne)⟩
/-- A row that came in stands apart from the cursor and from what was made since. -/
theorem rowsX {W : World} {k n g : Nat} {A : Option Addr} {cs : List Value} {X : List Nat} (hr : SlcR W W.heap.size k A n cs) (hne : ∀ b, A.map (·.block) = some b → b ≠ g) (hX : ∀ k ∈ X, k ≠ g → W.heap.size ≤ k) : 0 < n → ∀ b, A.map (·.block) = some b → b ∉ X := fun hn b hb hm => by
  obtain ⟨b', off, e, hb', _⟩ := hr.at_ hn
  rw [e] at hb
  injection hb with hb
  simp only at hb
  subst hb
  have := hX _ hm (hne _ (by rw [e]; rfl))
  omega
theorem SlcR.gr {W W' : World} {k n g : Nat} {A : Option Addr} {cs : List Value} (hr : SlcR W W.heap.size k A n cs) (hne : ∀ b, A.map (·.block) = some b → b ≠ g) (hg : W.grownBy W' (some g)) : SlcR W' W'.heap.size k A n cs :=
  ⟨hr.len, hr.big, fun hn => by
    obtain ⟨b, off, e, hb, hc⟩ := hr.at_ hn
    refine ⟨b, off, e, Nat.lt_of_lt_of_le hb hg.size, fun j u hu => ?_⟩
    rw [World.cell?_of_block (a := ⟨b, off + j, none⟩) (hg.block b hb (by intro e'; injection e' with e'; exact hne b (by rw [e]; rfl) e'))]
    exact hc j u hu⟩
theorem len2 {l : List Value} (h : l.length = 2) : ∃ a b, l = [a, b] := by match l, h with | [a, b], _ => exact ⟨a, b, rfl⟩
theorem len3 {l : List Value} (h : l.length = 3) : ∃ a b c, l = [a, b, c] := by match l, h with | [a, b, c], _ => exact ⟨a, b, c, rfl⟩
theorem len4 {l : List Value} (h : l.length = 4) : ∃ a b c d, l = [a, b, c, d] := by match l, h with | [a, b, c, d], _ => exact ⟨a, b, c, d, rfl⟩
theorem len5 {l : List Value} (h : l.length = 5) : ∃ a b c d e, l = [a, b, c, d, e] := by match l, h with | [a, b, c, d, e], _ => exact ⟨a, b, c, d, e, rfl⟩
/-- One of a list that lies in a block. -/
theorem among_lies {w W : World} {g : Nat} {A : Option Addr} {bs : List UInt8} {cap m : Nat} (E : Env w W g A bs cap m) (b n : Nat) (l : List Int) (hl : l.length = n) (hL : Lies W b 3 (encIs l)) (hne : b ≠ g) (h0 : 0 < n) (hn : n ≤ 100000) (hm : m ≤ 900000000) :
    Calls Try.prog 49 #[.pointer (some ⟨g, 0, none⟩), .slice (some ⟨b, 0, none⟩) n n] W fun e w' => ∃ x : Int, e = .returned (.int .i64 x) ∧ Env w w' g A bs cap (m + 2) ∧ W.grownBy w' (some g) := by
  subst hl
  have hi : IntsR W W.heap.size (some ⟨b, 0, none⟩) l := hL.reads (encIs_len l) (by omega)
  exact (among_any g A _ cap _ m bs l _ h0 hn hm E.cur E.rd hi (by intro e; injection e with e; exact hne e)).mono fun _ _ ⟨x, he, _, hc, hg⟩ => ⟨x, he, E.next hc hg, hg⟩
end Go.Proofs.Ytchkjiadnackaaa

/- Lists of ints that ascend. -/
namespace Go.Proofs.Ytchkjiadnackaaa
open Go.RowKit

def inR (n lo hi : Int) : Bool := decide (lo ≤ n) && decide (n ≤ hi)
theorem inR_iff {n lo hi : Int} : inR n lo hi = true ↔ lo ≤ n ∧ n ≤ hi := by simp [inR]
theorem l1In_any (n lo hi : Int) (w : World) : Calls Try.prog 51 #[.int .i64 n, .int .i64 lo, .int .i64 hi] w fun e w' => e = .returned (.bool (inR n lo hi)) ∧ w = w' := by
  go_enter Try.func51, Try.ntmps51
  go_wp2
  all_goals (go_ret; exact ⟨by simp [inR, *]; try omega, rfl⟩)
theorem inRange_any (n lo hi : Int) (w : World) : Calls Try.prog 47 #[.int .i64 n, .int .i64 lo, .int .i64 hi] w fun e w' => e = .returned (.bool (inR n lo hi)) ∧ w = w' := by
  go_enter Try.func47, Try.ntmps47
  go_wp2
  all_goals (go_ret; exact ⟨by simp [inR, *]; try omega, rfl⟩)

/-- The rest of a list ascends behind the number p. -/
def ascFrom : Int → List Int → Bool
  | _, [] => true
  | p, x :: l => decide (p < x) && ascFrom x l
def asc : List Int → Bool
  | [] => true
  | x :: l => ascFrom x l
def riseFrom (lo hi : Int) : Nat → Int → List Int → Bool
  | _, _, [] => true
  | n, p, x :: l => inR x lo hi && (decide (n = 0) || decide (p < x)) && riseFrom lo hi (n + 1) x l
def rises (lo hi : Int) (l : List Int) : Bool := riseFrom lo hi 0 0 l
theorem riseFrom_eq (lo hi : Int) : ∀ (l : List Int) (n : Nat) (p : Int), riseFrom lo hi (n + 1) p l = (ascFrom p l && l.all fun x => inR x lo hi)
  | [], _, _ => rfl
  | x :: l, n, p => by
    rw [riseFrom, riseFrom_eq lo hi l (n + 1) x, ascFrom, List.all_cons]
    cases inR x lo hi <;> cases decide (p < x) <;> simp
theorem rises_eq (lo hi : Int) : ∀ l : List Int, rises lo hi l = (asc l && l.all fun x => inR x lo hi)
  | [] => rfl
  | x :: l => by
    unfold rises
    rw [riseFrom, riseFrom_eq lo hi l 0 x, asc, List.all_cons]
    cases inR x lo hi <;> simp

set_option maxHeartbeats 1000000 in
theorem l1Rising_any (A : Option Addr) (c : Nat) (l : List Int) (lo hi : Int) (w : World) (h : IntsR w w.heap.size A l) :
    Calls Try.prog 66 #[.slice A l.length c, .int .i64 lo, .int .i64 hi] w fun e w' => e = .returned (.bool (rises lo hi l)) ∧ Below w.heap.size w w' := by
  have hl := h.big
  have hrd := h.ints
  go_enter Try.func66, Try.ntmps66
  go_wp2
  go_loopw [7] (fun i wr => ∃ (k : Nat) (prev : Int), k ≤ l.length ∧ i = .int .i64 k ∧ (∃ q : Since w.heap.size w, wr = q.val) ∧ Hid (riseFrom lo hi k prev (l.drop k) = rises lo hi l) ∧ Hid (∀ (_hk : 0 < k) (h' : k - 1 < l.length), prev = l[k - 1])) (fun i _ => l.length - (intOf i).toNat)
  case atStart => exact ⟨0, 0, Nat.zero_le _, rfl, ⟨Since.start _ _, rfl⟩, rfl, fun h => absurd h (by omega)⟩
  case round =>
    obtain ⟨k, prev, hk, rfl, ⟨q, rfl⟩, HR, HP⟩ := hrel
    by_cases hlt : k < l.length
    · obtain ⟨b, off, rfl, hb, hcell⟩ := hrd (by omega)
      have c0 := hcell k hlt
      have HC : Hid (0 < k → ∀ p : Since w.heap.size w, p.val.cell? ⟨b, off + (k - 1), none⟩ = some (.int .i64 prev)) := fun h p => by
        rw [HP.out h (by omega)]; exact hcell (k - 1) (by omega) p
      obtain ⟨x, hxe⟩ : ∃ x, x = l[k] := ⟨_, rfl⟩
      rw [← hxe] at c0
      have HX := Lib.hid hxe; clear hxe
      clear hcell hrd
      have hstep : Hid (riseFrom lo hi k prev (l.drop k) = (inR x lo hi && (decide (k = 0) || decide (prev < x)) && riseFrom lo hi (k + 1) x (l.drop (k + 1)))) := by
        rw [List.drop_eq_getElem_cons hlt, HX.out]; rfl
      have HN : Hid (∀ (_hk : 0 < k + 1) (h' : k + 1 - 1 < l.length), x = l[k + 1 - 1]) := fun _ h' => by rw [HX.out]; rfl
      obtain ⟨v, hv⟩ : ∃ v, inR x lo hi = v := ⟨_, rfl⟩
      have HV := Lib.hid hv; clear hv
      rcases Nat.eq_zero_or_pos k with h0 | h0
      · have hd : decide (0 < k) = false := decide_eq_false (by omega)
        have H0 := Lib.hid h0; clear h0
        cases v
        all_goals
          go_wp2
          refine wp_region_since _ (by kernel_rfl) (by kernel_rfl) ?_
          repeat (any_goals (first | go_big_quiet_step ((go_at_call 51; refine calls_sameB HV (l1In_any x _ _ _))) | (refine wpQuiet_step (fun K hK => ?_); go_simp; split <;> (refine hK _ ?_; clear hK K))))
          all_goals (refine wpQuiet_nil ?_; rintro _ ⟨q1, rfl⟩)
          all_goals go_wp2
        · go_ret
          refine ⟨?_, q1.below⟩
          rw [← HR.out, hstep.out, HV.out]; rfl
        · go_roundw
          case rel => exact ⟨k + 1, x, by omega, by go_num, ⟨q1, rfl⟩, by have h1 := HR.out; rw [hstep.out, HV.out, decide_eq_true H0.out] at h1; exact h1, HN⟩
          case measure => simp [intOf]; omega
      · have c5 := HC.out h0
        have h0' : (0 : Int) < (k : Int) := by omega
        cases v
        all_goals
          go_wp2
          refine wp_region_since _ (by kernel_rfl) (by kernel_rfl) ?_
          repeat (any_goals (first | go_big_quiet_step ((go_at_call 51; refine calls_sameB HV (l1In_any x _ _ _))) | (refine wpQuiet_step (fun K hK => ?_); go_simp; split <;> (refine hK _ ?_; clear hK K))))
          all_goals (refine wpQuiet_nil ?_; rintro _ ⟨q1, rfl⟩)
          all_goals go_wp2
        · go_ret
          refine ⟨?_, q1.below⟩
          rw [← HR.out, hstep.out, HV.out]; rfl
        · go_ret
          refine ⟨?_, q1.below⟩
          have hm : x ≤ prev := by assumption
          rw [← HR.out, hstep.out, HV.out, decide_eq_false (by omega : ¬ k = 0), decide_eq_false (by omega : ¬ prev < x)]; rfl
        · have hm : prev < x := by assumption
          go_roundw
          case rel => exact ⟨k + 1, x, by omega, by go_num, ⟨q1, rfl⟩, by have h1 := HR.out; rw [hstep.out, HV.out, decide_eq_true hm, Bool.or_true] at h1; exact h1, HN⟩
          case measure => simp [intOf]; omega
    · clear hrd
      go_wp2
      go_ret
      refine ⟨?_, q.below⟩
      rw [← HR.out, List.drop_eq_nil_of_le (by omega)]; rfl

set_option maxHeartbeats 1000000 in
theorem ascending_any (A : Option Addr) (c : Nat) (l : List Int) (w : World) (h : IntsR w w.heap.size A l) :
    Calls Try.prog 67 #[.slice A l.length c] w fun e w' => e = .returned (.bool (asc l)) ∧ Below w.heap.size w w' := by
  have hl := h.big
  have hrd := h.ints
  cases l with
  | nil =>
    go_enter Try.func67, Try.ntmps67
    go_wp2
    refine wp_loop_rounds 1 ?_
    rw [rounds_succ]
    go_wp2
    go_ret
    exact ⟨rfl, Below.refl _ _⟩
  | cons y l =>
    have hF : Hid (ascFrom y ((y :: l).drop 1) = asc (y :: l)) := rfl
    have hy : Hid (∀ h' : 1 - 1 < (y :: l).length, y = (y :: l)[1 - 1]) := fun _ => rfl
    have hpos : 0 < (y :: l).length := by simp
    revert hF hy hpos hl hrd h
    generalize hm : (y :: l) = m
    clear hm
    intro h hl hrd hF hy hpos
    go_enter Try.func67, Try.ntmps67
    go_wp2
    go_loopw [3] (fun i wr => ∃ (k : Nat) (prev : Int), 1 ≤ k ∧ k ≤ m.length ∧ i = .int .i64 k ∧ (∃ q : Since w.heap.size w, wr = q.val) ∧ Hid (ascFrom prev (m.drop k) = asc m) ∧ Hid (∀ h' : k - 1 < m.length, prev = m[k - 1])) (fun i _ => m.length - (intOf i).toNat)
    case atStart => exact ⟨1, y, by omega, hpos, rfl, ⟨Since.start _ _, rfl⟩, hF, hy⟩
    case round =>
      obtain ⟨k, prev, hk1, hk, rfl, ⟨q, rfl⟩, HR, HP⟩ := hrel
      by_cases hlt : k < m.length
      · obtain ⟨b, off, rfl, hb, hcell⟩ := hrd (by omega)
        have c0 := hcell k hlt
        have c5 : ∀ p : Since w.heap.size w, p.val.cell? ⟨b, off + (k - 1), none⟩ = some (.int .i64 prev) := fun p => by
          rw [HP.out (by omega)]; exact hcell (k - 1) (by omega) p
        have hstep : Hid (ascFrom prev (m.drop k) = (decide (prev < m[k]) && ascFrom m[k] (m.drop (k + 1)))) := by
          rw [List.drop_eq_getElem_cons hlt]; rfl
        obtain ⟨x, hxe⟩ : ∃ x, x = m[k] := ⟨_, rfl⟩
        have HN : Hid (∀ h' : k + 1 - 1 < m.length, x = m[k + 1 - 1]) := fun _ => by rw [hxe]; rfl
        rw [← hxe] at c0 hstep
        clear hxe hcell hrd
        by_cases hle : prev < x
        · have HV : Hid (decide (prev < x) = true) := decide_eq_true hle
          go_wp2
          refine wp_region_since _ (by kernel_rfl) (by kernel_rfl) ?_
          repeat (any_goals (first | go_big_quiet_step ((fail)) | (refine wpQuiet_step (fun K hK => ?_); go_simp; split <;> (refine hK _ ?_; clear hK K))))
          all_goals (refine wpQuiet_nil ?_; rintro _ ⟨q1, rfl⟩)
          go_wp2
          go_roundw
          case rel => exact ⟨k + 1, x, by omega, by omega, by go_num, ⟨q1, rfl⟩, by have h1 := HR.out; rw [hstep.out, HV.out] at h1; exact h1, HN⟩
          case measure => simp [intOf]; omega
        · have HV : Hid (decide (prev < x) = false) := decide_eq_false hle
          go_wp2
          refine wp_region_since _ (by kernel_rfl) (by kernel_rfl) ?_
          repeat (any_goals (first | go_big_quiet_step ((fail)) | (refine wpQuiet_step (fun K hK => ?_); go_simp; split <;> (refine hK _ ?_; clear hK K))))
          all_goals (refine wpQuiet_nil ?_; rintro _ ⟨q1, rfl⟩)
          go_wp2
          go_ret
          refine ⟨?_, q1.below⟩
          rw [← HR.out, hstep.out, HV.out]; rfl
      · clear hrd
        go_wp2
        go_ret
        refine ⟨?_, q.below⟩
        rw [← HR.out, List.drop_eq_nil_of_le (by omega)]; rfl
end Go.Proofs.Ytchkjiadnackaaa

/- Two worlds that differ in some blocks alone; marks in a row; the place of the first (no program's own function in sight). -/
namespace Go.Proofs.Ytchkjiadnackaaa
open Go.RowKit

/-- Between two worlds only blocks from lo on and below hi have turned; new ones may lie behind. -/
structure Mid (lo hi : Nat) (w w' : World) : Prop where
  os : w'.os = w.os
  tape : w'.tape = w.tape
  output : w'.output = w.output
  size : w.heap.size ≤ w'.heap.size
  block : ∀ k, k < w.heap.size → (k < lo ∨ hi ≤ k) → w'.heap[k]? = w.heap[k]?
theorem Mid.refl (lo hi : Nat) (w : World) : Mid lo hi w w := ⟨rfl, rfl, rfl, Nat.le_refl _, fun _ _ _ => rfl⟩
theorem Mid.trans {lo hi : Nat} {a b c : World} (h : Mid lo hi a b) (k : Mid lo hi b c) : Mid lo hi a c :=
  ⟨k.os.trans h.os, k.tape.trans h.tape, k.output.trans h.output, Nat.le_trans h.size k.size, fun i hi ho => (k.block i (Nat.lt_of_lt_of_le hi h.size) ho).trans (h.block i hi ho)⟩
theorem Mid.of {lo hi : Nat} {a b : World} {row : Option Nat} (h : a.grownBy b row) (hr : ∀ g, row = some g → lo ≤ g ∧ g < hi) : Mid lo hi a b :=
  ⟨h.os, h.tape, h.output, h.size, fun k hk ho => h.block k hk (fun e => by have := hr k e.symm; omega)⟩
theorem Mid.below {lo hi : Nat} {a b : World} (h : Mid lo hi a b) (hlo : lo ≤ a.heap.size) : Below lo a b :=
  ⟨h.os, h.tape, h.output, h.size, fun k hk => h.block k (by omega) (.inl hk)⟩
theorem Mid.lies {lo hi : Nat} {a b : World} (h : Mid lo hi a b) {g : Nat} {t : TypeId} {cs : List Value} (hL : Lies a g t cs) (ho : g < lo ∨ hi ≤ g) : Lies b g t cs := (h.block g hL.lt ho).trans hL
theorem Mid.own {lo hi : Nat} {a b : World} (h : Mid lo hi a b) {B : Nat} {t : TypeId} {k : Nat} {A : Option Addr} {n : Nat} {cs : List Value} (hO : OwnS a B t k A n cs) (hB : hi ≤ B) : OwnS b B t k A n cs := by
  obtain ⟨hl, hn, h0 | ⟨g', rest, hA, hg', hh⟩⟩ := hO
  · exact ⟨hl, hn, .inl h0⟩
  · exact ⟨hl, hn, .inr ⟨g', rest, hA, hg', h.lies hh (.inr (by omega))⟩⟩

theorem at_behind {α : Type} {a r : List α} {n : Nat} (h : a.length = n) (i : Nat) : (a ++ r)[n + i]? = r[i]? := by
  rw [List.getElem?_append_right (by omega), h, Nat.add_sub_cancel_left]
theorem set_behind {α : Type} {a r : List α} {n : Nat} (h : a.length = n) (i : Nat) (u : α) : (a ++ r).set (n + i) u = a ++ r.set i u := by
  subst h; rw [List.set_append_right _ _ (by omega), Nat.add_sub_cancel_left]

theorem split_2 {α : Type} {l : List α} (h : 2 ≤ l.length) : ∃ a0 a1 r, l = a0 :: a1 :: r := by
  match l, h with
  | a0 :: a1 :: r, _ => exact ⟨a0, a1, r, rfl⟩
theorem split_3 {α : Type} {l : List α} (h : 3 ≤ l.length) : ∃ a0 a1 a2 r, l = a0 :: a1 :: a2 :: r := by
  match l, h with
  | a0 :: a1 :: a2 :: r, _ => exact ⟨a0, a1, a2, r, rfl⟩
theorem split_4 {α : Type} {l : List α} (h : 4 ≤ l.length) : ∃ a0 a1 a2 a3 r, l = a0 :: a1 :: a2 :: a3 :: r := by
  match l, h with
  | a0 :: a1 :: a2 :: a3 :: r, _ => exact ⟨a0, a1, a2, a3, r, rfl⟩
theorem split_5 {α : Type} {l : List α} (h : 5 ≤ l.length) : ∃ a0 a1 a2 a3 a4 r, l = a0 :: a1 :: a2 :: a3 :: a4 :: r := by
  match l, h with
  | a0 :: a1 :: a2 :: a3 :: a4 :: r, _ => exact ⟨a0, a1, a2, a3, a4, r, rfl⟩
theorem enc_ramp_at {k0 : Int} {n i : Nat} (h : i < n) : (encIs (ramp k0 n))[i]? = some (.int .i64 (k0 + i)) := by
  unfold encIs
  rw [List.getElem?_map, List.getElem?_eq_getElem (by rw [ramp_len]; exact h), ramp_at]; rfl

/-- The place of the first that f takes, or -1. -/
def idxFrom {α : Type} (f : α → Bool) : Nat → List α → Int
  | _, [] => -1
  | k, x :: l => if f x then k else idxFrom f (k + 1) l
theorem idxFrom_any {α : Type} (f : α → Bool) : ∀ (l : List α) (k : Nat), decide (0 ≤ idxFrom f k l) = l.any f
  | [], _ => rfl
  | x :: l, k => by
    rw [idxFrom, List.any_cons, ← idxFrom_any f l (k + 1)]
    cases f x <;> simp
theorem idx_yes {α : Type} {f : α → Bool} {l : List α} {k : Nat} (h : k < l.length) (hf : f l[k] = true) : idxFrom f k (l.drop k) = k := by
  rw [List.drop_eq_getElem_cons h, idxFrom, hf]; rfl
theorem idx_no {α : Type} {f : α → Bool} {l : List α} {k : Nat} (h : k < l.length) (hf : f l[k] = false) : idxFrom f k (l.drop k) = idxFrom f (k + 1) (l.drop (k + 1)) := by
  rw [List.drop_eq_getElem_cons h, idxFrom, hf]; rfl
end Go.Proofs.Ytchkjiadnackaaa

/- slices.ContainsFunc over ints. -/
namespace Go.Proofs.Ytchkjiadnackaaa
open Go.RowKit

set_option maxHeartbeats 1000000 in
theorem idxI_any (f : Int → Bool) (hf : ∀ x W, Calls Try.prog 69 #[.int .i64 x] W fun e w' => e = .returned (.bool (f x)) ∧ Below W.heap.size W w') (A : Option Addr) (c : Nat) (l : List Int) (w : World) (h : IntsR w w.heap.size A l) :
    Calls Try.prog 73 #[.slice A l.length c, .func (.func 69) #[] #[]] w fun e w' => e = .returned (.int .i64 (idxFrom f 0 l)) ∧ Below w.heap.size w w' := by
  have hl := h.big
  have hrd := h.ints
  have HF : Hid (idxFrom f 0 (l.drop 0) = idxFrom f 0 l) := rfl
  go_enter Try.func73, Try.ntmps73
  go_wp2
  go_loopw [8] (fun i wr => ∃ (k : Nat), k ≤ l.length ∧ i = .int .i64 k ∧ (∃ q : Since w.heap.size w, wr = q.val) ∧ Hid (idxFrom f k (l.drop k) = idxFrom f 0 l)) (fun i _ => l.length - (intOf i).toNat)
  case atStart => exact ⟨0, Nat.zero_le _, rfl, ⟨Since.start _ _, rfl⟩, HF⟩
  case round =>
    obtain ⟨k, hk, rfl, ⟨q, rfl⟩, HR⟩ := hrel
    by_cases hlt : k < l.length
    · obtain ⟨b, off, rfl, hb, hcell⟩ := hrd (by omega)
      have c0 := hcell k hlt
      have hy := fun hv => idx_yes (f := f) hlt hv
      have hn := fun hv => idx_no (f := f) hlt hv
      obtain ⟨x, hxe⟩ : ∃ x, x = l[k] := ⟨_, rfl⟩
      rw [← hxe] at c0 hy hn
      clear hxe hcell hrd
      have hfx := fun W => hf x W
      cases hv : f x
      · have HE : Hid (idxFrom f (k + 1) (l.drop (k + 1)) = idxFrom f 0 l) := by rw [← hn hv]; exact HR.out
        rw [hv] at hfx
        clear hy hn hv hf
        go_wp2_with (go_at_call 69; refine (hfx _).mono ?_; rintro e w1 ⟨rfl, hb1⟩)
        go_roundw
        case rel => exact ⟨k + 1, by omega, by go_num, ⟨q.go (Nat.le_refl _) hb1, rfl⟩, HE⟩
        case measure => simp [intOf]; omega
      · have HE : Hid ((k : Int) = idxFrom f 0 l) := by rw [← hy hv]; exact HR.out
        rw [hv] at hfx
        clear hy hn hv hf
        go_wp2_with (go_at_call 69; refine (hfx _).mono ?_; rintro e w1 ⟨rfl, hb1⟩)
        go_ret
        exact ⟨by rw [← HE.out]; rfl, (q.go (Nat.le_refl _) hb1).below⟩
    · have HE : Hid (-1 = idxFrom f 0 l) := by
        have h1 := HR.out; rw [List.drop_eq_nil_of_le (by omega)] at h1; exact h1
      clear hrd
      go_wp2
      go_ret
      exact ⟨by rw [← HE.out]; rfl, q.below⟩

theorem anyI_any (f : Int → Bool) (hf : ∀ x W, Calls Try.prog 69 #[.int .i64 x] W fun e w' => e = .returned (.bool (f x)) ∧ Below W.heap.size W w') (A : Option Addr) (c : Nat) (l : List Int) (w : World) (h : IntsR w w.heap.size A l) :
    Calls Try.prog 68 #[.slice A l.length c, .func (.func 69) #[] #[]] w fun e w' => e = .returned (.bool (l.any f)) ∧ Below w.heap.size w w' := by
  have hi := idxI_any f hf A c l w h
  have HA : Hid (decide (0 ≤ idxFrom f 0 l) = l.any f) := idxFrom_any f l 0
  generalize idxFrom f 0 l = v at hi HA
  go_enter Try.func68, Try.ntmps68
  go_wp2_with fail
  refine hi.mono ?_
  rintro e w1 ⟨rfl, hb1⟩
  go_wp2
  go_ret
  exact ⟨by rw [← HA.out]; rfl, hb1⟩
end Go.Proofs.Ytchkjiadnackaaa

/- Slices of ints: copies and sizes. -/
namespace Go.Proofs.Ytchkjiadnackaaa
open Go.RowKit

def lessen (k : Int) (n : Nat) : Int := if (n : Int) ≤ k then k - n else -1
theorem szIntS_any (A : Option Addr) (n c : Nat) (k : Int) (w : World) (hn : n ≤ 9223372036854775807) (_hk : 0 ≤ k) (_hk' : k ≤ 1048576) :
    Calls Try.prog 52 #[.slice A n c, .int .i64 k] w fun e w' => e = .returned (.int .i64 (lessen k n)) ∧ w = w' := by
  go_enter Try.func52, Try.ntmps52
  go_wp2
  all_goals (go_ret; refine ⟨?_, rfl⟩; unfold lessen; first | (rw [if_neg (by omega)]; rfl) | (rw [if_pos (by omega)]; rfl))

theorem infoInt : (Try.prog.info? 3).map (fun i => (i.zero, i.size, i.bytes)) = some (some (.int .i64 0), 1, 8) := by kernel_rfl

set_option maxHeartbeats 1000000 in
theorem toIntS_any (A : Option Addr) (c : Nat) (l : List Int) (w : World) (h : IntsR w w.heap.size A l) (hn : l.length ≤ 1048576) :
    Calls Try.prog 54 #[.slice A l.length c] w fun e w' => ∃ g, e = .returned (.slice (some ⟨g, 0, none⟩) l.length l.length) ∧ w.heap.size ≤ g ∧ Lies w' g 3 (encIs l) ∧ Below w.heap.size w w' := by
  have hmk := fun W => run_make_all (P := Try.prog) 36 3 _ 1 8 Try.underlying36 infoInt l.length (by omega) (by omega) W
  have hrd := h.ints
  go_enter Try.func54, Try.ntmps54
  go_wp2
  go_loopw [4] (fun i wr => ∃ (k : Nat) (rest : List Value), k ≤ l.length ∧ i = .int .i64 k ∧ Below w.heap.size w wr ∧ Hid (Lies wr w.heap.size 3 (encIs (l.take k) ++ rest) ∧ rest.length = l.length - k)) (fun i _ => l.length - (intOf i).toNat)
  case atStart =>
    refine ⟨0, _, Nat.zero_le _, rfl, (Below.refl _ _).alloc (Nat.le_refl _) _, ⟨by simpa using Lies.new w _ _, by simp [size_madeCells]⟩⟩
  case round =>
    obtain ⟨k, rest, hk, rfl, hbel, HR⟩ := hrel
    obtain ⟨q, rfl⟩ : ∃ q : Since w.heap.size w, wr = q.val := ⟨⟨wr, hbel⟩, rfl⟩
    by_cases hlt : k < l.length
    · obtain ⟨b, off, rfl, hb, hcell⟩ := hrd (by omega)
      obtain ⟨u, rest', rfl⟩ : ∃ u r, rest = u :: r := by
        cases rest with
        | nil => have := HR.out.2; simp at this; omega
        | cons u m => exact ⟨u, m, rfl⟩
      have c0 := hcell k hlt
      have HS : Hid (encIs (l.take (k + 1)) = encIs (l.take k) ++ [.int .i64 l[k]]) := by
        unfold Hid encIs; rw [List.take_succ_eq_append_getElem hlt, List.map_append]; rfl
      obtain ⟨x, hxe⟩ : ∃ x, x = l[k] := ⟨_, rfl⟩
      rw [← hxe] at c0 HS
      clear hxe hcell hrd
      have f0 : q.val.cell? ⟨w.heap.size, k, none⟩ = some u := by
        rw [HR.out.1.cell, List.getElem?_append_right (by simp [Nat.min_eq_left hk])]; simp [Nat.min_eq_left hk]
      have f1 : q.val.frozen? ⟨w.heap.size, k, none⟩ = false := HR.out.1.frozen k
      go_wp2
      go_roundw
      case rel =>
        refine ⟨k + 1, rest', by omega, by go_num, q.below.grown (grown_set (World.grownBy.refl _ _)) q.size (by rintro _ ⟨⟩; exact Nat.le_refl _), ?_, by have := HR.out.2; simp at this; omega⟩
        have h1 := HR.out.1.set k (.int .i64 x)
        have h2 := set_mid (encIs (l.take k)) rest' u (.int .i64 x)
        rw [encIs_len, List.length_take, Nat.min_eq_left hk, Nat.mul_one] at h2
        rw [h2] at h1
        rw [HS.out]; simpa using h1
      case measure => simp [intOf]; omega
    · have HK : Hid (k = l.length) := by unfold Hid; omega
      go_wp2
      go_ret
      refine ⟨w.heap.size, rfl, Nat.le_refl _, ?_, q.below⟩
      have h0 : rest = [] := List.eq_nil_of_length_eq_zero (by have := HR.out.2; have := HK.out; omega)
      have h1 := HR.out.1
      rw [h0, List.take_of_length_le (by have := HK.out; omega), List.append_nil] at h1
      exact h1
end Go.Proofs.Ytchkjiadnackaaa

/- Phrases: the struct, validity of one. -/
namespace Go.Proofs.Ytchkjiadnackaaa
open Go.RowKit

structure Ph where
  s : Int
  c : Int
  A : Option Addr
  f : List Int
  cap : Nat
  p : Int
def Ph.enc (x : Ph) : List Value := [.int .i64 x.s, .int .i64 x.c, .slice x.A x.f.length x.cap, .int .i64 x.p]
abbrev Ph.val (x : Ph) : Value := .agg #[.int .i64 x.s, .int .i64 x.c, .slice x.A x.f.length x.cap, .int .i64 x.p]
theorem Ph.enc_len (x : Ph) : x.enc.length = 4 := rfl
def Ph.ok (x : Ph) : Bool := inR x.s 1 3 && inR x.c 1 99 && rises 1 9 x.f && inR x.p 0 999999
theorem any_not (l : List Int) : (l.any fun y => !inR y 1 9) = !(l.all fun y => inR y 1 9) := by
  induction l with
  | nil => rfl
  | cons x l ih => rw [List.any_cons, List.all_cons, ih]; cases inR x 1 9 <;> simp

theorem notIn_any (x : Int) (w : World) : Calls Try.prog 69 #[.int .i64 x] w fun e w' => e = .returned (.bool (!inR x 1 9)) ∧ Below w.heap.size w w' := by
  have hc := fun W => inRange_any x 1 9 W
  cases hv : inR x 1 9
  all_goals
    rw [hv] at hc
    clear hv
    go_enter Try.func69, Try.ntmps69
    go_wp2_with fail
    refine (hc _).mono ?_
    rintro e w' ⟨rfl, rfl⟩
    go_wp2
    go_ret
    exact ⟨rfl, Below.refl _ _⟩

theorem l30One_any (x : Ph) (w : World) (h : IntsR w w.heap.size x.A x.f) : Calls Try.prog 53 #[x.val] w fun e w' => e = .returned (.bool x.ok) ∧ Below w.heap.size w w' := by
  have hb0 := (Below.refl w.heap.size w).alloc (Nat.le_refl _) (.cells #[.int .i64 x.s, .int .i64 x.c, .slice x.A x.f.length x.cap, .int .i64 x.p] 42)
  have h1 : IntsR (w.alloc (.cells #[.int .i64 x.s, .int .i64 x.c, .slice x.A x.f.length x.cap, .int .i64 x.p] 42)) (w.alloc (.cells #[.int .i64 x.s, .int .i64 x.c, .slice x.A x.f.length x.cap, .int .i64 x.p] 42)).heap.size x.A x.f := SlcR.up h hb0 (Nat.le_refl _)
  have hL := Lies.new w 42 #[.int .i64 x.s, .int .i64 x.c, .slice x.A x.f.length x.cap, .int .i64 x.p]
  go_enter Try.func53, Try.ntmps53
  go_wp2_with (first
    | (go_at_call 51; refine (l1In_any _ _ _ _).mono ?_; rintro e w' ⟨rfl, rfl⟩)
    | (go_at_call 66; refine (l1Rising_any x.A x.cap x.f 1 9 _ h1).mono ?_; rintro e w1 ⟨rfl, hb1⟩; have k3 := (hb1.cell hL.lt).trans (hL.cell 3); simp only [List.getElem?_cons_zero, List.getElem?_cons_succ] at k3))
  all_goals (go_ret; exact ⟨by simp [Ph.ok, *], by first | exact bthen hb0 hb1 | exact hb0⟩)

theorem isPhrase_any (x : Ph) (w : World) (h : IntsR w w.heap.size x.A x.f) : Calls Try.prog 57 #[x.val] w fun e w' => e = .returned (.bool x.ok) ∧ Below w.heap.size w w' := by
  have hb0 := (Below.refl w.heap.size w).alloc (Nat.le_refl _) (.cells #[.int .i64 x.s, .int .i64 x.c, .slice x.A x.f.length x.cap, .int .i64 x.p] 42)
  have h1 : IntsR (w.alloc (.cells #[.int .i64 x.s, .int .i64 x.c, .slice x.A x.f.length x.cap, .int .i64 x.p] 42)) (w.alloc (.cells #[.int .i64 x.s, .int .i64 x.c, .slice x.A x.f.length x.cap, .int .i64 x.p] 42)).heap.size x.A x.f := SlcR.up h hb0 (Nat.le_refl _)
  have hL := Lies.new w 42 #[.int .i64 x.s, .int .i64 x.c, .slice x.A x.f.length x.cap, .int .i64 x.p]
  have HR : Hid (rises 1 9 x.f = (asc x.f && !(x.f.any fun y => !inR y 1 9))) := by
    unfold Hid; rw [rises_eq, any_not, Bool.not_not]
  go_enter Try.func57, Try.ntmps57
  go_wp2_with (first
    | (go_at_call 47; refine (inRange_any _ _ _ _).mono ?_; rintro e w' ⟨rfl, rfl⟩)
    | (go_at_call 67; refine (ascending_any x.A x.cap x.f _ h1).mono ?_; rintro e w1 ⟨rfl, hb1⟩; have k2 := (hb1.cell hL.lt).trans (hL.cell 2); simp only [List.getElem?_cons_zero, List.getElem?_cons_succ] at k2)
    | (go_at_call 68; refine (anyI_any (fun y => !inR y 1 9) notIn_any x.A x.cap x.f _ (h1.then hb1)).mono ?_; rintro e w2 ⟨rfl, hb2⟩; have k3 := ((bthen hb1 hb2).cell hL.lt).trans (hL.cell 3); simp only [List.getElem?_cons_zero, List.getElem?_cons_succ] at k3))
  all_goals (go_ret; exact ⟨by rw [Ph.ok, HR.out]; simp [*], by first | exact bthen hb0 (bthen hb1 hb2) | exact bthen hb0 hb1 | exact hb0⟩)
end Go.Proofs.Ytchkjiadnackaaa

/- Phrases: size, copy, equality; the law FnExactIsPhrase. -/
namespace Go.Proofs.Ytchkjiadnackaaa
open Go.RowKit

theorem szPhrase_any (x : Ph) (k : Int) (w : World) (hn : x.f.length ≤ 9223372036854775807) (hk : 0 ≤ k) (hk' : k ≤ 1048576) :
    Calls Try.prog 27 #[x.val, .int .i64 k] w fun e w' => e = .returned (.int .i64 (lessen k x.f.length)) ∧ Below w.heap.size w w' := by
  have hc := fun W => szIntS_any x.A x.f.length x.cap k W hn hk hk'
  have hb0 := (Below.refl w.heap.size w).alloc (Nat.le_refl _) (.cells #[.int .i64 x.s, .int .i64 x.c, .slice x.A x.f.length x.cap, .int .i64 x.p] 46)
  by_cases hle : (x.f.length : Int) ≤ k
  · have he : lessen k x.f.length = k - x.f.length := by unfold lessen; rw [if_pos hle]
    rw [he] at hc ⊢
    go_enter Try.func27, Try.ntmps27
    go_wp2_with fail
    refine (hc _).mono ?_
    rintro e w1 ⟨rfl, rfl⟩
    go_wp2
    go_ret
    exact ⟨rfl, hb0⟩
  · have he : lessen k x.f.length = -1 := by unfold lessen; rw [if_neg hle]
    rw [he] at hc ⊢
    go_enter Try.func27, Try.ntmps27
    go_wp2_with fail
    refine (hc _).mono ?_
    rintro e w1 ⟨rfl, rfl⟩
    go_wp2
    go_ret
    exact ⟨rfl, hb0⟩

theorem Lies.new1 (w : World) (o : Obj) (t : TypeId) (cs : Array Value) : Lies ((w.alloc o).alloc (.cells cs t)) (w.heap.size + 1) t cs.toList := by
  have h := Lies.new (w.alloc o) t cs
  rwa [show (w.alloc o).heap.size = w.heap.size + 1 from Array.size_push _] at h
theorem Lies.new2 (w : World) (o o' : Obj) (t : TypeId) (cs : Array Value) : Lies (((w.alloc o).alloc o').alloc (.cells cs t)) (w.heap.size + 1 + 1) t cs.toList := by
  have h := Lies.new1 (w.alloc o) o' t cs
  rwa [show (w.alloc o).heap.size = w.heap.size + 1 from Array.size_push _] at h

set_option maxHeartbeats 1000000 in
theorem toPhrase_any (x : Ph) (w : World) (h : IntsR w w.heap.size x.A x.f) (hn : x.f.length ≤ 1048576) :
    Calls Try.prog 31 #[x.val] w fun e w' => ∃ g, e = .returned (Ph.val { x with A := some ⟨g, 0, none⟩, cap := x.f.length }) ∧ w.heap.size ≤ g ∧ Lies w' g 3 (encIs x.f) ∧ Below w.heap.size w w' := by
  have L1 := ((Lies.new w 46 #[.int .i64 x.s, .int .i64 x.c, .slice x.A x.f.length x.cap, .int .i64 x.p]).alloc (.cells #[.int .i64 0, .int .i64 0, .slice none 0 0, .int .i64 0] 42)).alloc (.cells #[.int .i64 x.s, .int .i64 x.c, .slice none 0 0, .int .i64 0] 42)
  have L2 := (Lies.new1 w (.cells #[.int .i64 x.s, .int .i64 x.c, .slice x.A x.f.length x.cap, .int .i64 x.p] 46) 42 #[.int .i64 0, .int .i64 0, .slice none 0 0, .int .i64 0]).alloc (.cells #[.int .i64 x.s, .int .i64 x.c, .slice none 0 0, .int .i64 0] 42)
  have L3 := Lies.new2 w (.cells #[.int .i64 x.s, .int .i64 x.c, .slice x.A x.f.length x.cap, .int .i64 x.p] 46) (.cells #[.int .i64 0, .int .i64 0, .slice none 0 0, .int .i64 0] 42) 42 #[.int .i64 x.s, .int .i64 x.c, .slice none 0 0, .int .i64 0]
  have b1 := (Below.refl w.heap.size w).alloc (Nat.le_refl _) (.cells #[.int .i64 x.s, .int .i64 x.c, .slice x.A x.f.length x.cap, .int .i64 x.p] 46)
  have b2 := b1.alloc b1.size (.cells #[.int .i64 0, .int .i64 0, .slice none 0 0, .int .i64 0] 42)
  have b3 := b2.alloc b2.size (.cells #[.int .i64 x.s, .int .i64 x.c, .slice none 0 0, .int .i64 0] 42)
  clear b1 b2
  go_enter Try.func31, Try.ntmps31
  go_wp2_with fail
  generalize (((w.alloc (.cells #[.int .i64 x.s, .int .i64 x.c, .slice x.A x.f.length x.cap, .int .i64 x.p] 46)).alloc (.cells #[.int .i64 0, .int .i64 0, .slice none 0 0, .int .i64 0] 42)).alloc (.cells #[.int .i64 x.s, .int .i64 x.c, .slice none 0 0, .int .i64 0] 42)) = W3 at L1 L2 L3 b3 ⊢
  refine (toIntS_any x.A x.cap x.f W3 (SlcR.up h b3 (Nat.le_refl _)) hn).mono ?_
  rintro e W4 ⟨g, rfl, hg, hL4, hb4⟩
  have hg1 := L1.lt
  have hg2 := L2.lt
  have hg3 := L3.lt
  have b4 := b3.trans (hb4.mono b3.size)
  have c3 := (L1.below hb4 L1.lt).cell 3
  have M2 := L2.below hb4 L2.lt
  have M3 := L3.below hb4 L3.lt
  have d0 := M3.cell 0
  have d1 := M3.cell 1
  have d2 := M3.cell 2
  have d3 := M3.cell 3
  have e0 := M2.cell 0
  have e1 := M2.cell 1
  have e2 := M2.cell 2
  have e3 := M2.cell 3
  have f2 := M3.frozen 2
  have f3 := M3.frozen 3
  have g0 := M2.frozen 0
  have g1 := M2.frozen 1
  have g2 := M2.frozen 2
  have g3 := M2.frozen 3
  simp only [List.getElem?_cons_zero, List.getElem?_cons_succ] at c3 d0 d1 d2 d3 e0 e1 e2 e3
  clear L1 L2 L3 h
  go_wp2
  refine bodyPost_ret (v := Ph.val { x with A := some ⟨g, 0, none⟩, cap := x.f.length }) (by simp [results, Try.results31, go_sem, *]) rfl ⟨g, rfl, Nat.le_trans b3.size hg, ?_, ?_⟩
  · exact (((((hL4.other (by simp only; omega) _).other (by simp only; omega) _).other (by simp only; omega) _).other (by simp only; omega) _).other (by simp only; omega) _).other (by simp only; omega) _
  · exact (b4.grown (grown_set (grown_set (World.grownBy.refl W4 (some (w.heap.size + 1 + 1))))) b4.size (by rintro _ ⟨⟩; omega)).grown (grown_set (grown_set (grown_set (grown_set (World.grownBy.refl _ (some (w.heap.size + 1))))))) (by simpa using b4.size) (by rintro _ ⟨⟩; omega)

def Ph.same (x y : Ph) : Bool := decide (x.s = y.s) && decide (x.c = y.c) && sameInts x.f y.f && decide (x.p = y.p)
theorem Ph.same_self (x : Ph) (A : Option Addr) (c : Nat) : Ph.same x { x with A := A, cap := c } = true := by simp [Ph.same, sameInts]

set_option maxHeartbeats 1000000 in
theorem eqPhrase_any (x y : Ph) (w : World) (hx : IntsR w w.heap.size x.A x.f) (hy : IntsR w w.heap.size y.A y.f) :
    Calls Try.prog 38 #[x.val, y.val] w fun e w' => e = .returned (.bool (Ph.same x y)) ∧ Below w.heap.size w w' := by
  have L1 := (Lies.new w 42 #[.int .i64 x.s, .int .i64 x.c, .slice x.A x.f.length x.cap, .int .i64 x.p]).alloc (.cells #[.int .i64 y.s, .int .i64 y.c, .slice y.A y.f.length y.cap, .int .i64 y.p] 42)
  have L2 := Lies.new1 w (.cells #[.int .i64 x.s, .int .i64 x.c, .slice x.A x.f.length x.cap, .int .i64 x.p] 42) 42 #[.int .i64 y.s, .int .i64 y.c, .slice y.A y.f.length y.cap, .int .i64 y.p]
  have b1 := (Below.refl w.heap.size w).alloc (Nat.le_refl _) (.cells #[.int .i64 x.s, .int .i64 x.c, .slice x.A x.f.length x.cap, .int .i64 x.p] 42)
  have b2 := b1.alloc b1.size (.cells #[.int .i64 y.s, .int .i64 y.c, .slice y.A y.f.length y.cap, .int .i64 y.p] 42)
  clear b1
  have HS : Hid (Ph.same x y = (decide (x.s = y.s) && decide (x.c = y.c) && sameInts x.f y.f && decide (x.p = y.p))) := rfl
  have hc := fun W hA hB => eqIntS_any x.A y.A x.cap y.cap x.f y.f W hA hB
  generalize sameInts x.f y.f = v at HS hc
  cases v
  all_goals
    by_cases h1 : x.s = y.s
    · have n1 : (x.s != y.s) = false := by simp [h1]
      have D1 := Lib.hid (decide_eq_true h1); clear h1
      by_cases h2 : x.c = y.c
      · have n2 : (x.c != y.c) = false := by simp [h2]
        have D2 := Lib.hid (decide_eq_true h2); clear h2
        by_cases h3 : x.p = y.p
        · have n3 : (x.p != y.p) = false := by simp [h3]
          have D3 := Lib.hid (decide_eq_true h3); clear h3
          go_enter Try.func38, Try.ntmps38
          go_wp2_with fail
          refine (hc _ (SlcR.up hx b2 (Nat.le_refl _)) (SlcR.up hy b2 (Nat.le_refl _))).mono ?_
          rintro e w1 ⟨rfl, hb⟩
          have k1 := (L1.below hb L1.lt).cell 3
          have k2 := (L2.below hb L2.lt).cell 3
          simp only [List.getElem?_cons_zero, List.getElem?_cons_succ] at k1 k2
          go_wp2
          go_ret
          exact ⟨by rw [HS.out, D1.out, D2.out, D3.out]; rfl, bthen b2 hb⟩
        · have n3 : (x.p != y.p) = true := by simp [h3]
          have D3 := Lib.hid (decide_eq_false h3); clear h3
          go_enter Try.func38, Try.ntmps38
          go_wp2_with fail
          refine (hc _ (SlcR.up hx b2 (Nat.le_refl _)) (SlcR.up hy b2 (Nat.le_refl _))).mono ?_
          rintro e w1 ⟨rfl, hb⟩
          have k1 := (L1.below hb L1.lt).cell 3
          have k2 := (L2.below hb L2.lt).cell 3
          simp only [List.getElem?_cons_zero, List.getElem?_cons_succ] at k1 k2
          go_wp2
          go_ret
          exact ⟨by rw [HS.out, D1.out, D2.out, D3.out]; rfl, bthen b2 hb⟩
      · have n2 : (x.c != y.c) = true := by simp [h2]
        have D2 := Lib.hid (decide_eq_false h2); clear h2
        go_enter Try.func38, Try.ntmps38
        go_wp2
        go_ret
        exact ⟨by rw [HS.out, D1.out, D2.out]; rfl, b2⟩
    · have n1 : (x.s != y.s) = true := by simp [h1]
      have D1 := Lib.hid (decide_eq_false h1); clear h1
      go_enter Try.func38, Try.ntmps38
      go_wp2
      go_ret
      exact ⟨by rw [HS.out, D1.out]; rfl, b2⟩
end Go.Proofs.Ytchkjiadnackaaa

/- Lists of phrases: how they read; size, copy, equality. -/
namespace Go.Proofs.Ytchkjiadnackaaa
open Go.RowKit

/-- A phrase lies at a place, in every world since. -/
structure PhS (B : Nat) (w : World) (b o : Nat) (x : Ph) : Prop where
  c0 : ∀ p : Since B w, p.val.cell? ⟨b, o, none⟩ = some (.int .i64 x.s)
  c1 : ∀ p : Since B w, p.val.cell? ⟨b, o + 1, none⟩ = some (.int .i64 x.c)
  c2 : ∀ p : Since B w, p.val.cell? ⟨b, o + 2, none⟩ = some (.slice x.A x.f.length x.cap)
  c3 : ∀ p : Since B w, p.val.cell? ⟨b, o + 3, none⟩ = some (.int .i64 x.p)
theorem PhS.of {W : World} {g : Nat} {t : TypeId} {x : Ph} (h : Lies W g t x.enc) : PhS W.heap.size W g 0 x :=
  ⟨fun p => (p.cell h.lt).trans (h.cell 0), fun p => (p.cell h.lt).trans (h.cell 1), fun p => (p.cell h.lt).trans (h.cell 2), fun p => (p.cell h.lt).trans (h.cell 3)⟩
/-- A slice of phrases reads, and so do their faults. -/
structure PhsR (w : World) (B : Nat) (A : Option Addr) (l : List Ph) : Prop where
  slc : SlcR w B 4 A l.length (l.flatMap Ph.enc)
  fs : ∀ x ∈ l, IntsR w B x.A x.f
section
variable {w w' : World} {B : Nat} {A : Option Addr} {l : List Ph}
theorem PhsR.keep (h : PhsR w B A l) (hk : ∀ p : Addr, p.block < B → w'.cell? p = w.cell? p) : PhsR w' B A l := ⟨h.slc.keep hk, fun x hx => (h.fs x hx).keep hk⟩
theorem PhsR.mono {B' : Nat} (h : PhsR w B A l) (hB : B ≤ B') : PhsR w B' A l := ⟨h.slc.mono hB, fun x hx => (h.fs x hx).mono hB⟩
theorem PhsR.below (h : PhsR w B A l) (hb : Below B w w') : PhsR w' B A l := h.keep fun _ hp => hb.cell hp
theorem PhsR.then (h : PhsR w w.heap.size A l) (hb : Below w.heap.size w w') : PhsR w' w'.heap.size A l := (h.below hb).mono hb.size
theorem PhsR.ph (h : PhsR w B A l) (hne : 0 < l.length) : ∃ b off, A = some ⟨b, off, none⟩ ∧ b < B ∧ ∀ i (hi : i < l.length), PhS B w b (off + i * 4) l[i] := by
  obtain ⟨b, off, e, hb, hc⟩ := h.slc.at_ hne
  refine ⟨b, off, e, hb, fun i hi => ?_⟩
  have key : ∀ j, j < 4 → ∀ u, (l[i].enc)[j]? = some u → ∀ p : Since B w, p.val.cell? ⟨b, off + i * 4 + j, none⟩ = some u := fun j hj u hu p => by
    rw [p.cell hb, Nat.add_assoc]
    exact hc _ u (by rw [flat_at Ph.enc 4 Ph.enc_len l i hi j hj]; exact hu)
  exact ⟨key 0 (by omega) _ rfl, key 1 (by omega) _ rfl, key 2 (by omega) _ rfl, key 3 (by omega) _ rfl⟩
theorem PhsR.f (h : PhsR w B A l) {i : Nat} (hi : i < l.length) : IntsR w B l[i].A l[i].f := h.fs _ (List.getElem_mem hi)
end

/-- What a phrase holds. -/
def Ph.ph (x : Ph) : Int × Int × List Int × Int := (x.s, x.c, x.f, x.p)
theorem Ph.same_ph (x y : Ph) : Ph.same x y = decide (x.ph = y.ph) := by
  unfold Ph.same Ph.ph sameInts
  simp only [Prod.mk.injEq, Bool.decide_and]
  cases decide (x.s = y.s) <;> cases decide (x.c = y.c) <;> cases decide (x.f = y.f) <;> simp
def samePhs (a b : List Ph) : Bool := decide (a.map Ph.ph = b.map Ph.ph)
def samePhsFrom : List Ph → List Ph → Bool
  | [], [] => true
  | x :: a, y :: b => Ph.same x y && samePhsFrom a b
  | _, _ => false
theorem samePhsFrom_eq : ∀ a b : List Ph, samePhsFrom a b = samePhs a b
  | [], [] => by simp [samePhsFrom, samePhs]
  | [], _ :: _ => by simp [samePhsFrom, samePhs]
  | _ :: _, [] => by simp [samePhsFrom, samePhs]
  | x :: a, y :: b => by simp [samePhsFrom, samePhs, samePhsFrom_eq a b, Ph.same_ph, Bool.decide_and]

/-! ### Sizes -/
def fsum : List Ph → Nat
  | [] => 0
  | x :: l => x.f.length + fsum l
def need (l : List Ph) : Nat := l.length + fsum l
theorem fsum_step {l : List Ph} {k : Nat} (h : k < l.length) : fsum (l.drop k) = l[k].f.length + fsum (l.drop (k + 1)) := by
  rw [List.drop_eq_getElem_cons h]; rfl
theorem lessen_no {k : Int} {a b : Nat} (h : k < a) : lessen k (a + b) = -1 := by unfold lessen; rw [if_neg (by omega)]
theorem lessen_yes {k : Int} {a b : Nat} (_h : (a : Int) ≤ k) : lessen k (a + b) = lessen (k - a) b := by
  unfold lessen
  by_cases h : ((a + b : Nat) : Int) ≤ k
  · rw [if_pos h, if_pos (by omega)]; omega
  · rw [if_neg h, if_neg (by omega)]

set_option maxHeartbeats 1000000 in
theorem szPhraseS_any (A : Option Addr) (c : Nat) (l : List Ph) (k0 : Int) (w : World) (hk : 0 ≤ k0) (hk' : k0 ≤ 1048576) (h : PhsR w w.heap.size A l) :
    Calls Try.prog 5 #[.slice A l.length c, .int .i64 k0] w fun e w' => e = .returned (.int .i64 (lessen k0 (need l))) ∧ Below w.heap.size w w' := by
  have hl := h.slc.big
  have hrd := h.ph
  have hfb : Hid (∀ i (hi : i < l.length), l[i].f.length ≤ 9223372036854775807) := fun i hi => (h.f hi).big
  by_cases hle : (l.length : Int) ≤ k0
  · have HF : Hid (lessen (k0 - l.length) (fsum (l.drop 0)) = lessen k0 (need l)) := (lessen_yes hle).symm
    go_enter Try.func5, Try.ntmps5
    go_wp2
    go_loopw [1, 5] (fun m i wr => ∃ (k : Nat) (left : Int), k ≤ l.length ∧ i = .int .i64 k ∧ m = .int .i64 left ∧ 0 ≤ left ∧ left ≤ 1048576 ∧ Below w.heap.size w wr ∧ Hid (lessen left (fsum (l.drop k)) = lessen k0 (need l))) (fun _ i _ => l.length - (intOf i).toNat)
    case atStart => exact ⟨0, _, Nat.zero_le _, rfl, rfl, by omega, by omega, Below.refl _ _, HF⟩
    case round =>
      obtain ⟨k, left, hk1, rfl, rfl, l0, l1, hbr, HR⟩ := hrel
      obtain ⟨q, rfl⟩ : ∃ q : Since w.heap.size w, wr = q.val := ⟨⟨wr, hbr⟩, rfl⟩
      by_cases hlt : k < l.length
      · obtain ⟨b, off, rfl, hb, hcell⟩ := hrd (by omega)
        obtain ⟨c0, c1, c2, c3⟩ := hcell k hlt
        have hxl := hfb.out k hlt
        have hs := fsum_step hlt
        obtain ⟨x, hxe⟩ : ∃ x, x = l[k] := ⟨_, rfl⟩
        rw [← hxe] at c0 c1 c2 c3 hxl hs
        have HS := Lib.hid hs
        clear hxe hcell hrd hs
        have hsz := fun W => szPhrase_any x left W hxl l0 l1
        by_cases hle2 : (x.f.length : Int) ≤ left
        · have hv : lessen left x.f.length = left - x.f.length := by unfold lessen; rw [if_pos hle2]
          have HE : Hid (lessen (left - x.f.length) (fsum (l.drop (k + 1))) = lessen k0 (need l)) := by
            have h1 := HR.out; rw [HS.out, lessen_yes hle2] at h1; exact h1
          rw [hv] at hsz
          clear hv
          go_wp2_with (go_at_call 27; refine (hsz _).mono ?_; rintro e w1 ⟨rfl, hb1⟩)
          go_roundw
          case rel => exact ⟨k + 1, left - x.f.length, by omega, by go_num, rfl, by omega, by omega, q.below.trans (hb1.mono q.size), HE⟩
          case measure => simp [intOf]; omega
        · have hv : lessen left x.f.length = -1 := by unfold lessen; rw [if_neg hle2]
          have HE : Hid (-1 = lessen k0 (need l)) := by
            have h1 := HR.out; rw [HS.out, lessen_no (by omega)] at h1; exact h1
          rw [hv] at hsz
          clear hv
          go_wp2_with (go_at_call 27; refine (hsz _).mono ?_; rintro e w1 ⟨rfl, hb1⟩)
          go_ret
          exact ⟨by rw [← HE.out]; rfl, q.below.trans (hb1.mono q.size)⟩
      · have HE : Hid (left = lessen k0 (need l)) := by
          have h1 := HR.out; rw [List.drop_eq_nil_of_le (by omega)] at h1
          have h2 : lessen left (fsum []) = left := by unfold lessen fsum; rw [if_pos (by omega)]; omega
          rw [h2] at h1; exact h1
        clear hrd
        go_wp2
        go_ret
        exact ⟨by rw [← HE.out]; rfl, q.below⟩
  · have HF : Hid (lessen k0 (need l) = -1) := lessen_no (by omega)
    have hk0 : k0 - (l.length : Int) < 0 := by omega
    have hk1 : -9223372036854775808 ≤ k0 - (l.length : Int) := by omega
    go_enter Try.func5, Try.ntmps5
    go_wp2
    go_ret
    exact ⟨by rw [HF.out]; rfl, Below.refl _ _⟩

theorem splice_end (a rest vs : List Value) : splice (a ++ rest) a.length vs = a ++ vs ++ rest.drop vs.length := by
  unfold splice
  rw [List.take_left, List.drop_append, List.drop_eq_nil_of_le (by omega), List.nil_append, Nat.add_sub_cancel_left]

theorem infoPh : (Try.prog.info? 42).map (fun i => (i.zero, i.size, i.bytes)) = some (some (.agg #[.int .i64 0, .int .i64 0, .slice none 0 0, .int .i64 0]), 4, 48) := by kernel_rfl

/-- Phrases of the call's own at block G, whose faults lie in blocks of their own behind it, in ascending order. -/
structure OwnPhs (w : World) (G : Nat) (l : List Ph) (rest : List Value) : Prop where
  lies : Lies w G 42 (l.flatMap Ph.enc ++ rest)
  fs : ∀ x ∈ l, ∃ g, x.A = some ⟨g, 0, none⟩ ∧ G < g ∧ Lies w g 3 (encIs x.f)
  nd : l.Pairwise fun x y => x.A ≠ y.A
theorem OwnPhs.reads {w : World} {G : Nat} {l : List Ph} {rest : List Value} (h : OwnPhs w G l rest) (hn : l.length ≤ 9223372036854775807) (hf : ∀ x ∈ l, x.f.length ≤ 9223372036854775807) : PhsR w w.heap.size (some ⟨G, 0, none⟩) l :=
  ⟨⟨flat_len Ph.enc 4 Ph.enc_len l, hn, fun _ => ⟨G, 0, rfl, h.lies.lt, fun j u hu => by
      rw [Nat.zero_add, h.lies.cell, List.getElem?_append_left (List.getElem?_eq_some_iff.1 hu).1]; exact hu⟩⟩,
   fun x hx => by
    obtain ⟨g, hA, _, hL⟩ := h.fs x hx
    rw [hA]; exact hL.reads (encIs_len _) (hf x hx)⟩
theorem OwnPhs.below {w w' : World} {G : Nat} {l : List Ph} {rest : List Value} (h : OwnPhs w G l rest) (hb : Below w.heap.size w w') : OwnPhs w' G l rest :=
  ⟨h.lies.below hb h.lies.lt, fun x hx => by
    obtain ⟨g, hA, hG, hL⟩ := h.fs x hx
    exact ⟨g, hA, hG, hL.below hb hL.lt⟩, h.nd⟩

set_option maxHeartbeats 2000000 in
theorem toPhraseS_any (A : Option Addr) (c : Nat) (l : List Ph) (w : World) (h : PhsR w w.heap.size A l) (hn : need l ≤ 1048576) :
    Calls Try.prog 7 #[.slice A l.length c] w fun e w' => ∃ G, ∃ m : List Ph, e = .returned (.slice (some ⟨G, 0, none⟩) m.length m.length) ∧ w.heap.size ≤ G ∧ m.map Ph.ph = l.map Ph.ph ∧ OwnPhs w' G m [] ∧ Below w.heap.size w w' := by
  have hlen : l.length ≤ 1048576 := by unfold need at hn; omega
  have hmk := fun W => run_make_all (P := Try.prog) 24 42 _ 4 48 Try.underlying24 infoPh l.length (by omega) (by omega) W
  have hrd := h.ph
  have hfl : ∀ (l : List Ph) (i : Nat) (hi : i < l.length), l[i].f.length ≤ fsum l := by
    intro l
    induction l with
    | nil => intro i hi; simp at hi
    | cons x l ih =>
      intro i hi
      cases i with
      | zero => simp [fsum]
      | succ i => have := ih i (by simpa using hi); simp only [List.getElem_cons_succ, fsum]; omega
  have HFL : Hid (∀ i (hi : i < l.length), l[i].f.length ≤ 1048576) := fun i hi => by have := hfl l i hi; unfold need at hn; omega
  clear hfl
  go_enter Try.func7, Try.ntmps7
  go_wp2
  go_loopw [4] (fun i wr => ∃ (k : Nat) (m : List Ph) (rest : List Value), k ≤ l.length ∧ i = .int .i64 k ∧ Below w.heap.size w wr ∧ Hid (m.length = k ∧ m.map Ph.ph = (l.take k).map Ph.ph ∧ OwnPhs wr w.heap.size m rest ∧ rest.length = (l.length - k) * 4)) (fun i _ => l.length - (intOf i).toNat)
  case atStart =>
    refine ⟨0, [], _, Nat.zero_le _, rfl, (Below.refl _ _).alloc (Nat.le_refl _) _, ⟨rfl, rfl, ⟨by simpa using Lies.new w _ _, by simp, List.Pairwise.nil⟩, by simp [size_madeCells]⟩⟩
  case round =>
    obtain ⟨k, m, rest, hk, rfl, hbel, HR⟩ := hrel
    obtain ⟨q, rfl⟩ : ∃ q : Since w.heap.size w, wr = q.val := ⟨⟨wr, hbel⟩, rfl⟩
    by_cases hlt : k < l.length
    · obtain ⟨b, off, rfl, hb, hcell⟩ := hrd (by omega)
      obtain ⟨c0, c1, c2, c3⟩ := hcell k hlt
      have hfx : IntsR q.val q.val.heap.size l[k].A l[k].f := ((h.f hlt).below q.below).mono q.size
      have hxl := HFL.out k hlt
      have HT : Hid ((l.take (k + 1)).map Ph.ph = (l.take k).map Ph.ph ++ [l[k].ph]) := by
        unfold Hid; rw [List.take_succ_eq_append_getElem hlt, List.map_append]; rfl
      obtain ⟨x, hxe⟩ : ∃ x, x = l[k] := ⟨_, rfl⟩
      rw [← hxe] at c0 c1 c2 c3 hfx hxl HT
      clear hxe hcell hrd
      go_wp2_with (first
        | (go_at_call 31; refine (toPhrase_any x _ hfx hxl).mono ?_; rintro e w1 ⟨g, rfl, hg, hLg, hb1⟩)
        | (with_reducible refine wpList_store_row (op := ⟨none, .store 42 (.tmp 21) (.tmp 20), _, _, _, _⟩) rfl _ _ _ rfl w.heap.size (k * 4) 42 (Ph.enc { x with A := some ⟨g, 0, none⟩, cap := x.f.length }).toArray ?c1 ?c2 (m.flatMap Ph.enc ++ rest) ?c3 ?c4 ?c5 ?c6 ?_; rotate_right; intro w2 hl2 hg2))
      case c1 => rfl
      case c2 => rfl
      case c3 => exact HR.out.2.2.1.lies.below hb1 HR.out.2.2.1.lies.lt
      case c4 => have h1 := HR.out.2.2.2; have h2 := HR.out.1; simp [flat_len Ph.enc 4 Ph.enc_len, Ph.enc, h2, h1]; omega
      case c5 => kernel_rfl
      case c6 => simp [Ph.enc, Value.oneCell']
      have hL2 := Lib.hid hl2; clear hl2
      go_wp2
      go_roundw
      case rel =>
        refine ⟨k + 1, m ++ [{ x with A := some ⟨g, 0, none⟩, cap := x.f.length }], rest.drop 4, by omega, by go_num, (q.below.trans (hb1.mono q.size)).grown hg2 (Nat.le_trans q.size hb1.size) (by rintro _ ⟨⟩; exact Nat.le_refl _), ⟨by simp [HR.out.1], by rw [HT.out, List.map_append, HR.out.2.1]; rfl, ⟨?_, ?_, ?_⟩, by have h1 := HR.out.2.2.2; rw [List.length_drop, h1]; omega⟩⟩
        · have h3 := hL2.out
          have h2 : (m.flatMap Ph.enc).length = k * 4 := by rw [flat_len Ph.enc 4 Ph.enc_len, HR.out.1]
          rw [← h2] at h3
          rw [splice_end] at h3
          simpa [Ph.enc] using h3
        · intro y hy
          rcases List.mem_append.1 hy with hy | hy
          · obtain ⟨g0, hA, hG, hL⟩ := HR.out.2.2.1.fs y hy
            exact ⟨g0, hA, hG, (hL.below hb1 hL.lt).kept hg2 (by intro e; injection e; omega)⟩
          · obtain rfl := List.mem_singleton.1 hy
            exact ⟨g, rfl, Nat.lt_of_lt_of_le HR.out.2.2.1.lies.lt hg, hLg.kept hg2 (by intro e; injection e with e; have := HR.out.2.2.1.lies.lt; omega)⟩
        · refine List.pairwise_append.2 ⟨HR.out.2.2.1.nd, List.pairwise_singleton _ _, fun y hy z hz => ?_⟩
          obtain rfl := List.mem_singleton.1 hz
          obtain ⟨g0, hA, _, hL⟩ := HR.out.2.2.1.fs y hy
          rw [hA]
          intro e; injection e with e; injection e with e; have := hL.lt; omega
      case measure => simp [intOf]; omega
    · have HK : Hid (k = l.length) := by unfold Hid; omega
      clear hrd
      go_wp2
      go_ret
      have h0 : rest = [] := List.eq_nil_of_length_eq_zero (by have := HR.out.2.2.2; have := HK.out; omega)
      have h1 := HR.out
      rw [h0, List.take_of_length_le (by have := HK.out; omega)] at h1
      exact ⟨w.heap.size, m, by rw [h1.1, HK.out]; rfl, Nat.le_refl _, h1.2.1, h1.2.2.1, q.below⟩

theorem len_of_ph {a b : List Ph} (h : a.map Ph.ph = b.map Ph.ph) : a.length = b.length := by simpa using congrArg List.length h

set_option maxHeartbeats 1000000 in
theorem eqPhraseS_any (A B : Option Addr) (c d : Nat) (l m : List Ph) (w : World) (hA : PhsR w w.heap.size A l) (hB : PhsR w w.heap.size B m) :
    Calls Try.prog 9 #[.slice A l.length c, .slice B m.length d] w fun e w' => e = .returned (.bool (samePhs l m)) ∧ Below w.heap.size w w' := by
  have hlA := hA.slc.big
  have hlB := hB.slc.big
  have hrA := hA.ph
  have hrB := hB.ph
  have hfA : Hid (∀ i (hi : i < l.length), IntsR w w.heap.size l[i].A l[i].f) := fun i hi => hA.f hi
  have hfB : Hid (∀ i (hi : i < m.length), IntsR w w.heap.size m[i].A m[i].f) := fun i hi => hB.f hi
  by_cases hne : l.length = m.length
  · have hF : Hid (samePhsFrom l m = samePhs l m) := samePhsFrom_eq l m
    have hbn : ((l.length : Int) != (m.length : Int)) = false := by simp [hne]
    have HE := Lib.hid hne; clear hne
    go_enter Try.func9, Try.ntmps9
    go_wp2
    go_loopw [5] (fun i wr => ∃ k : Nat, k ≤ l.length ∧ i = .int .i64 k ∧ (∃ q : Since w.heap.size w, wr = q.val) ∧ Hid (samePhsFrom (l.drop k) (m.drop k) = samePhs l m)) (fun i _ => l.length - (intOf i).toNat)
    case atStart => exact ⟨0, Nat.zero_le _, rfl, ⟨Since.start _ _, rfl⟩, hF⟩
    case round =>
      obtain ⟨k, hk, rfl, ⟨q, rfl⟩, HR⟩ := hrel
      by_cases hlt : k < l.length
      · have hlt' : k < m.length := by have := HE.out; omega
        obtain ⟨b, off, rfl, hb, hcell⟩ := hrA (by omega)
        obtain ⟨b', off', rfl, hb', hcell'⟩ := hrB (by omega)
        obtain ⟨c0, c1, c2, c3⟩ := hcell k hlt
        obtain ⟨d0, d1, d2, d3⟩ := hcell' k hlt'
        have hx : ∀ p : Since w.heap.size w, IntsR p.val p.val.heap.size l[k].A l[k].f := fun p => SlcR.up (hfA.out k hlt) p.below (Nat.le_refl _)
        have hy : ∀ p : Since w.heap.size w, IntsR p.val p.val.heap.size m[k].A m[k].f := fun p => SlcR.up (hfB.out k hlt') p.below (Nat.le_refl _)
        have hstep : Hid (samePhsFrom (l.drop k) (m.drop k) = (Ph.same l[k] m[k] && samePhsFrom (l.drop (k + 1)) (m.drop (k + 1)))) := by
          rw [List.drop_eq_getElem_cons hlt, List.drop_eq_getElem_cons hlt']; rfl
        obtain ⟨x, hxe⟩ : ∃ x, x = l[k] := ⟨_, rfl⟩
        obtain ⟨y, hye⟩ : ∃ x, x = m[k] := ⟨_, rfl⟩
        rw [← hxe] at c0 c1 c2 c3 hx hstep
        rw [← hye] at d0 d1 d2 d3 hy hstep
        clear hxe hye hcell hcell' hrA hrB
        obtain ⟨v, hv⟩ : ∃ v, Ph.same x y = v := ⟨_, rfl⟩
        have HV := Lib.hid hv; clear hv
        cases v
        all_goals
          go_wp2
          refine wp_region_since _ (by kernel_rfl) (by kernel_rfl) ?_
          repeat (any_goals (first | go_big_quiet_step ((go_at_call 38; refine calls_sinceB HV (Nat.le_refl _) (eqPhrase_any x y _ (hx _) (hy _)))) | (refine wpQuiet_step (fun K hK => ?_); go_simp; split <;> (refine hK _ ?_; clear hK K))))
          all_goals (refine wpQuiet_nil ?_; rintro _ ⟨q1, rfl⟩)
          all_goals go_wp2
        · go_ret
          refine ⟨?_, q1.below⟩
          rw [← HR.out, hstep.out, HV.out]; rfl
        · go_roundw
          case rel => exact ⟨k + 1, by omega, by go_num, ⟨q1, rfl⟩, by have h1 := HR.out; rw [hstep.out, HV.out] at h1; exact h1⟩
          case measure => simp [intOf]; omega
      · have HK : Hid (samePhs l m = true) := by
          have h1 := HR.out
          rw [List.drop_eq_nil_of_le (by omega), List.drop_eq_nil_of_le (by have := HE.out; omega)] at h1; exact h1.symm
        clear hrA hrB
        go_wp2
        go_ret
        exact ⟨by rw [HK.out]; rfl, q.below⟩
  · have hbn : ((l.length : Int) != (m.length : Int)) = true := by rw [bne_iff_ne]; omega
    have hF : Hid (samePhs l m = false) := by
      unfold samePhs; show decide _ = false; rw [decide_eq_false_iff_not]; intro h; exact hne (len_of_ph h)
    go_enter Try.func9, Try.ntmps9
    go_wp2
    go_ret
    exact ⟨by rw [hF.out]; rfl, Below.refl _ _⟩
end Go.Proofs.Ytchkjiadnackaaa

/- Lists of phrases: validity, in the reference and in the program. -/
namespace Go.Proofs.Ytchkjiadnackaaa
open Go.RowKit

def goodPhs (l : List Ph) : Bool := decide (l.length ≤ 10) && l.all Ph.ok
theorem ok_ph {x y : Ph} (h : x.ph = y.ph) : x.ok = y.ok := by
  unfold Ph.ph at h; injection h with h1 h2; injection h2 with h2 h3; injection h3 with h3 h4
  unfold Ph.ok; rw [h1, h2, h3, h4]
theorem good_ph : ∀ {a b : List Ph}, a.map Ph.ph = b.map Ph.ph → goodPhs a = goodPhs b := by
  intro a b h
  unfold goodPhs
  rw [len_of_ph h]
  have : a.all Ph.ok = b.all Ph.ok := by
    induction a generalizing b with
    | nil => cases b with
      | nil => rfl
      | cons y b => simp at h
    | cons x a ih => cases b with
      | nil => simp at h
      | cons y b =>
        simp only [List.map_cons, List.cons.injEq] at h
        rw [List.all_cons, List.all_cons, ok_ph h.1, ih h.2]
  rw [this]
theorem good_len {l : List Ph} (h : goodPhs l = true) : l.length ≤ 10 := by
  unfold goodPhs at h; rw [Bool.and_eq_true] at h; exact of_decide_eq_true h.1
theorem good_at {l : List Ph} (h : goodPhs l = true) {i : Nat} (hi : i < l.length) : l[i].ok = true := by
  unfold goodPhs at h; rw [Bool.and_eq_true] at h; exact List.all_eq_true.1 h.2 _ (List.getElem_mem hi)
theorem bad_at {l : List Ph} {i : Nat} (hi : i < l.length) (h : l[i].ok = false) : goodPhs l = false := by
  cases hg : goodPhs l with
  | false => rfl
  | true => rw [good_at hg hi] at h; cases h
theorem bad_len {l : List Ph} (h : 10 < l.length) : goodPhs l = false := by
  cases hg : goodPhs l with
  | false => rfl
  | true => have := good_len hg; omega
theorem good_of {l : List Ph} (h : l.length ≤ 10) (ha : ∀ i (hi : i < l.length), l[i].ok = true) : goodPhs l = true := by
  unfold goodPhs
  rw [Bool.and_eq_true]
  refine ⟨decide_eq_true h, List.all_eq_true.2 fun x hx => ?_⟩
  obtain ⟨i, hi, rfl⟩ := List.getElem_of_mem hx
  exact ha i hi

/-- What a valid phrase keeps to. -/
theorem Ph.bounds {x : Ph} (h : x.ok = true) : (1 ≤ x.s ∧ x.s ≤ 3) ∧ (1 ≤ x.c ∧ x.c ≤ 99) ∧ rises 1 9 x.f = true ∧ (0 ≤ x.p ∧ x.p ≤ 999999) := by
  unfold Ph.ok at h
  simp only [Bool.and_eq_true, inR_iff] at h
  exact ⟨h.1.1.1, h.1.1.2, h.1.2, h.2⟩

set_option maxHeartbeats 1000000 in
theorem l30Good_any (A : Option Addr) (c : Nat) (l : List Ph) (w : World) (h : PhsR w w.heap.size A l) :
    Calls Try.prog 28 #[.slice A l.length c] w fun e w' => e = .returned (.bool (goodPhs l)) ∧ Below w.heap.size w w' := by
  have hl := h.slc.big
  have hrd := h.ph
  have hf : Hid (∀ i (hi : i < l.length), IntsR w w.heap.size l[i].A l[i].f) := fun i hi => h.f hi
  go_enter Try.func28, Try.ntmps28
  go_wp2
  go_loopw [3] (fun i wr => ∃ (k : Nat), k ≤ l.length ∧ k ≤ 11 ∧ i = .int .i64 k ∧ (∃ q : Since w.heap.size w, wr = q.val) ∧ Hid (∀ i (hi : i < l.length), i < k → l[i].ok = true)) (fun i _ => l.length - (intOf i).toNat)
  case atStart => exact ⟨0, Nat.zero_le _, by omega, rfl, ⟨Since.start _ _, rfl⟩, fun i _ h => absurd h (by omega)⟩
  case round =>
    obtain ⟨k, hk, hk11, rfl, ⟨q, rfl⟩, HR⟩ := hrel
    by_cases hlt : k < l.length
    · by_cases h10 : k ≤ 10
      · obtain ⟨b, off, rfl, hb, hcell⟩ := hrd (by omega)
        obtain ⟨c0, c1, c2, c3⟩ := hcell k hlt
        have hx : ∀ p : Since w.heap.size w, IntsR p.val p.val.heap.size l[k].A l[k].f := fun p => SlcR.up (hf.out k hlt) p.below (Nat.le_refl _)
        have hbad : l[k].ok = false → goodPhs l = false := bad_at hlt
        have hgd : Hid (l[k].ok = true → ∀ i (hi : i < l.length), i < k + 1 → l[i].ok = true) := fun ho i hi hik => by
          rcases Nat.lt_or_ge i k with h | h
          · exact HR.out i hi h
          · obtain rfl : i = k := by omega
            exact ho
        have HB := Lib.hid hbad; clear hbad
        obtain ⟨x, hxe⟩ : ∃ x, x = l[k] := ⟨_, rfl⟩
        rw [← hxe] at c0 c1 c2 c3 hx HB hgd
        clear hxe hcell hrd
        obtain ⟨v, hv⟩ : ∃ v, x.ok = v := ⟨_, rfl⟩
        have HV := Lib.hid hv; clear hv
        cases v
        all_goals
          go_wp2_with (go_at_call 53; refine (calls_sinceB HV (Nat.le_refl _) (l30One_any x _ (hx _))).mono ?_; rintro e w1 ⟨rfl, q1, rfl⟩)
        · go_ret
          exact ⟨by rw [HB.out HV.out]; rfl, q1.below⟩
        · go_roundw
          case rel => exact ⟨k + 1, by omega, by omega, by go_num, ⟨q1, rfl⟩, hgd.out HV.out⟩
          case measure => simp [intOf]; omega
      · have HB : Hid (goodPhs l = false) := bad_len (by omega)
        clear hrd
        go_wp2
        go_ret
        exact ⟨by rw [HB.out]; exact congrArg (fun b => Ending.returned (.bool b)) (decide_eq_false (by omega)), q.below⟩
    · have HK : Hid (∀ i (hi : i < l.length), l[i].ok = true) := fun i hi => HR.out i hi (by omega)
      clear hrd
      by_cases h10 : l.length ≤ 10
      · have HB : Hid (goodPhs l = true) := good_of h10 HK.out
        go_wp2
        all_goals
          go_ret
          exact ⟨by rw [HB.out]; exact congrArg (fun b => Ending.returned (.bool b)) (decide_eq_true (by omega)), q.below⟩
      · have HB : Hid (goodPhs l = false) := bad_len (by omega)
        go_wp2
        all_goals
          go_ret
          exact ⟨by rw [HB.out]; exact congrArg (fun b => Ending.returned (.bool b)) (decide_eq_false (by omega)), q.below⟩

theorem notOk_any (x : Ph) (w : World) (h : IntsR w w.heap.size x.A x.f) : Calls Try.prog 56 #[x.val] w fun e w' => e = .returned (.bool (!x.ok)) ∧ Below w.heap.size w w' := by
  have b1 := (Below.refl w.heap.size w).alloc (Nat.le_refl _) (.cells #[.int .i64 x.s, .int .i64 x.c, .slice x.A x.f.length x.cap, .int .i64 x.p] 42)
  have hc := fun W hW => isPhrase_any x W hW
  cases hv : x.ok
  all_goals
    rw [hv] at hc
    clear hv
    go_enter Try.func56, Try.ntmps56
    go_wp2_with fail
    refine (hc _ (SlcR.up h b1 (Nat.le_refl _))).mono ?_
    rintro e w' ⟨rfl, hb⟩
    go_wp2
    go_ret
    exact ⟨rfl, bthen b1 hb⟩

set_option maxHeartbeats 1000000 in
theorem idxBad_any (A : Option Addr) (c : Nat) (l : List Ph) (w : World) (h : PhsR w w.heap.size A l) :
    Calls Try.prog 42 #[.slice A l.length c, .func (.func 56) #[] #[]] w fun e w' => e = .returned (.int .i64 (idxFrom (fun x : Ph => !x.ok) 0 l)) ∧ Below w.heap.size w w' := by
  have hl := h.slc.big
  have hrd := h.ph
  have hf : Hid (∀ i (hi : i < l.length), IntsR w w.heap.size l[i].A l[i].f) := fun i hi => h.f hi
  have HF : Hid (idxFrom (fun x : Ph => !x.ok) 0 (l.drop 0) = idxFrom (fun x : Ph => !x.ok) 0 l) := rfl
  go_enter Try.func42, Try.ntmps42
  go_wp2
  go_loopw [8] (fun i wr => ∃ (k : Nat), k ≤ l.length ∧ i = .int .i64 k ∧ (∃ q : Since w.heap.size w, wr = q.val) ∧ Hid (idxFrom (fun x : Ph => !x.ok) k (l.drop k) = idxFrom (fun x : Ph => !x.ok) 0 l)) (fun i _ => l.length - (intOf i).toNat)
  case atStart => exact ⟨0, Nat.zero_le _, rfl, ⟨Since.start _ _, rfl⟩, HF⟩
  case round =>
    obtain ⟨k, hk, rfl, ⟨q, rfl⟩, HR⟩ := hrel
    by_cases hlt : k < l.length
    · obtain ⟨b, off, rfl, hb, hcell⟩ := hrd (by omega)
      obtain ⟨c0, c1, c2, c3⟩ := hcell k hlt
      have hx : ∀ p : Since w.heap.size w, IntsR p.val p.val.heap.size l[k].A l[k].f := fun p => SlcR.up (hf.out k hlt) p.below (Nat.le_refl _)
      have hy := fun hv => idx_yes (f := fun x : Ph => !x.ok) hlt hv
      have hn := fun hv => idx_no (f := fun x : Ph => !x.ok) hlt hv
      obtain ⟨x, hxe⟩ : ∃ x, x = l[k] := ⟨_, rfl⟩
      rw [← hxe] at c0 c1 c2 c3 hx hy hn
      clear hxe hcell hrd
      have hfx := fun W hW => notOk_any x W hW
      cases hv : !x.ok
      · have HE : Hid (idxFrom (fun x : Ph => !x.ok) (k + 1) (l.drop (k + 1)) = idxFrom (fun x : Ph => !x.ok) 0 l) := by rw [← hn hv]; exact HR.out
        rw [hv] at hfx
        clear hy hn hv
        go_wp2_with (go_at_call 56; refine (hfx _ (hx _)).mono ?_; rintro e w1 ⟨rfl, hb1⟩)
        go_roundw
        case rel => exact ⟨k + 1, by omega, by go_num, ⟨q.go (Nat.le_refl _) hb1, rfl⟩, HE⟩
        case measure => simp [intOf]; omega
      · have HE : Hid ((k : Int) = idxFrom (fun x : Ph => !x.ok) 0 l) := by rw [← hy hv]; exact HR.out
        rw [hv] at hfx
        clear hy hn hv
        go_wp2_with (go_at_call 56; refine (hfx _ (hx _)).mono ?_; rintro e w1 ⟨rfl, hb1⟩)
        go_ret
        exact ⟨by rw [← HE.out]; rfl, (q.go (Nat.le_refl _) hb1).below⟩
    · have HE : Hid (-1 = idxFrom (fun x : Ph => !x.ok) 0 l) := by
        have h1 := HR.out; rw [List.drop_eq_nil_of_le (by omega)] at h1; exact h1
      clear hrd
      go_wp2
      go_ret
      exact ⟨by rw [← HE.out]; rfl, q.below⟩

theorem anyBad_any (A : Option Addr) (c : Nat) (l : List Ph) (w : World) (h : PhsR w w.heap.size A l) :
    Calls Try.prog 55 #[.slice A l.length c, .func (.func 56) #[] #[]] w fun e w' => e = .returned (.bool (l.any fun x => !x.ok)) ∧ Below w.heap.size w w' := by
  have hi := idxBad_any A c l w h
  have HA : Hid (decide (0 ≤ idxFrom (fun x : Ph => !x.ok) 0 l) = l.any fun x => !x.ok) := idxFrom_any _ l 0
  generalize idxFrom (fun x : Ph => !x.ok) 0 l = v at hi HA
  go_enter Try.func55, Try.ntmps55
  go_wp2_with fail
  refine hi.mono ?_
  rintro e w1 ⟨rfl, hb1⟩
  go_wp2
  go_ret
  exact ⟨by rw [← HA.out]; rfl, hb1⟩

theorem any_bad (l : List Ph) : (l.any fun x => !x.ok) = !(l.all Ph.ok) := by
  induction l with
  | nil => rfl
  | cons x l ih => rw [List.any_cons, List.all_cons, ih]; cases x.ok <;> simp

theorem arePhrases_any (A : Option Addr) (c : Nat) (l : List Ph) (w : World) (h : PhsR w w.heap.size A l) :
    Calls Try.prog 32 #[.slice A l.length c] w fun e w' => e = .returned (.bool (goodPhs l)) ∧ Below w.heap.size w w' := by
  have hl := h.slc.big
  by_cases h10 : l.length ≤ 10
  · have hc := anyBad_any A c l w h
    have HR : Hid (goodPhs l = !(l.any fun x => !x.ok)) := by unfold Hid goodPhs; rw [decide_eq_true h10, any_bad]; simp
    generalize (l.any fun x => !x.ok) = v at hc HR
    cases v
    all_goals
      go_enter Try.func32, Try.ntmps32
      go_wp2_with fail
      refine hc.mono ?_
      rintro e w1 ⟨rfl, hb1⟩
      go_wp2
      go_ret
      exact ⟨by rw [HR.out]; rfl, hb1⟩
  · have HR : Hid (goodPhs l = false) := bad_len (by omega)
    go_enter Try.func32, Try.ntmps32
    go_wp2
    go_ret
    exact ⟨by rw [HR.out]; rfl, Below.refl _ _⟩
end Go.Proofs.Ytchkjiadnackaaa

/- Own slices that grow by one element (no program in sight). -/
namespace Go.Proofs.Ytchkjiadnackaaa
open Go.RowKit

theorem cells_new (w : World) (vs : Array Value) (t : TypeId) : ∀ j u, vs.toList[j]? = some u → (w.alloc (.cells vs t)).cell? ((⟨w.heap.size, 0, none⟩ : Addr).add j) = some u := by
  intro j u hj
  have e : ((⟨w.heap.size, 0, none⟩ : Addr).add j) = ⟨w.heap.size, j, none⟩ := by unfold Addr.add; by_cases h : j = 0 <;> simp [h]
  rw [e, (Lies.new w t vs).cell]; exact hj

theorem ownsRow_heap {w w' : World} {B : Nat} {e : TypeId} {k : Nat} {v : Value} {n : Nat} {xs : List Value} (h : w'.heap = w.heap) (ho : w.ownsRow B e k v n xs) : w'.ownsRow B e k v n xs := by
  unfold World.ownsRow at *; rw [h]; exact ho

/-- 'append(s, x)': s the call's own, x one element of k cells. -/
theorem wpList_push {P : Program} {ops : Array Oper} {rest : List Oper} {o : Oper} {a : Act} {w0 wA : World} {Q : Exit → Act → World → Prop} (hgd : o.guard = none) (s x : Operand) (t : TypeId)
    (ho : o.op = .call { callee := .builtin .append, args := #[s, x], argTypes := #[t, t] })
    (e : TypeId) (z : Value) (k bytes : Nat) (ht : P.underlying t = some (.slice e)) (hinfo : (P.info? e).map (fun i => (i.zero, i.size, i.bytes)) = some (some z, k, bytes)) (hzs : z.cells.size = k) (hsz : 0 < k) (hby : bytes ≤ 1000)
    (B : Nat) (v : Value) (n : Nat) (xs : List Value) (hs : a.eval s = v) (hown : Hid (w0.ownsRow B e k v n xs))
    (vs : Array Value) (c g : Nat) (hx : a.eval x = .slice (some ⟨g, 0, none⟩) 1 c) (hg : w0.heap.size = g) (hvs : vs.size = k) (h1 : vs.all (·.oneCell') = true) (hn : n < 1000000000) (hbase : B ≤ w0.heap.size)
    (hheap : wA.heap = (w0.alloc (.cells vs e)).heap) (hos : wA.os = w0.os) (htape : wA.tape = w0.tape) (hout : wA.output = w0.output)
    (h : ∀ v' w', Hid (w'.ownsRow B e k v' (n + 1) (xs ++ vs.toList)) → w0.grownBy w' v.ownBlock → Below B w0 w' → wpList P ops Q rest (a.put o.dst v') w') : wpList P ops Q (o :: rest) a wA := by
  subst hg
  obtain ⟨i, hi, hz, hs', hb⟩ := info_parts hinfo
  have hown' := hown.out
  have hsize : wA.heap.size = w0.heap.size + 1 := by rw [hheap]; exact Array.size_push _
  have hblock : ∀ j, j < w0.heap.size → wA.heap[j]? = w0.heap[j]? := fun j hj => by rw [hheap]; exact Below.heap_alloc w0 _ j hj
  have h4 : w0.grownBy wA v.ownBlock := ⟨hos, htape, hout, by omega, fun j hj _ => hblock j hj⟩
  refine wpList_append_own (w := wA) hgd s x t ho B e i z k bytes ht hi hz hs' hb hzs hsz v n xs hs (ownsRow_heap hheap (hown'.alloc _)) ⟨w0.heap.size, 0, none⟩ 1 c vs.toList hx (by simp [hvs]) ?_ (fun u hu => (Array.all_eq_true_iff_forall_mem.1 h1) u (by simpa using hu)) (by unfold maxLen; omega) ?_ (by omega) fun v' w' h2 h3 _ => h v' w' h2 ?_ ?_
  · intro j u hj
    have := cells_new w0 vs e j u hj
    rw [← this]; exact World.cell?_of_block (by rw [hheap])
  · have := Nat.mul_le_mul (show n + 1 ≤ 1000000000 by omega) hby
    omega
  · exact ⟨h3.os.trans h4.os, h3.tape.trans h4.tape, h3.output.trans h4.output, Nat.le_trans h4.size h3.size, fun j hj hne => (h3.block j (Nat.lt_of_lt_of_le hj h4.size) hne).trans (h4.block j hj hne)⟩
  · exact ((Below.refl B w0).grown h4 hbase (fun j hj => (hown'.lt j hj).1)).grown h3 (by omega) (fun j hj => (hown'.lt j hj).1)

theorem ownsRow_slice {w : World} {B : Nat} {e : TypeId} {k : Nat} {v : Value} {n : Nat} {xs : List Value} (h : w.ownsRow B e k v n xs) : ∃ A c, v = .slice A n c := by
  obtain ⟨_, ⟨rfl, rfl⟩ | ⟨g, cap, _, rfl, _⟩⟩ := h
  · exact ⟨_, _, rfl⟩
  · exact ⟨_, _, rfl⟩
end Go.Proofs.Ytchkjiadnackaaa

/- 'append(s, xs...)' onto a row of the call's own, the source nil, empty or not (no program in sight). -/
namespace Go.Proofs.Ytchkjiadnackaaa
open Go.RowKit

/-- Nothing is appended: the nil slice. -/
theorem run_cat_nil {P : Program} (w : World) (base : Nat) (t ty e : TypeId) (i : TypeInfo) (size : Nat) (ht : P.underlying t = some (.slice e)) (hi : P.info? e = some i)
    (v : Value) (n : Nat) (xs : List Value) (hown : w.ownsRow base e size v n xs) (c : Nat) : (Builtin.append_ #[t, t] ty #[v, .slice none 0 c]).run P w = .ok v w := by
  obtain ⟨_, ⟨rfl, rfl⟩ | ⟨g, cap, cur, rfl, _, _, hcap, _⟩⟩ := hown
  · simp [Builtin.append_, run_underlying ht, sizeOf, typeInfo, hi, Builtin.lenOf, Builtin.firstCells]
  · simp [Builtin.append_, run_underlying ht, sizeOf, typeInfo, hi, Builtin.lenOf, Builtin.firstCells, hcap, storeCells]

theorem addr_add (b o j : Nat) : ((⟨b, o, none⟩ : Addr).add j) = ⟨b, o + j, none⟩ := by unfold Addr.add; by_cases h : j = 0 <;> simp [h]

theorem wp_cat {P : Program} {o : Oper} {a : Act} {w : World} {K : Act → World → Prop} {Q : Exit → Act → World → Prop} (s x : Operand) (t : TypeId)
    (ho : o.op = .call { callee := .builtin .append, args := #[s, x], argTypes := #[t, t] })
    (e : TypeId) (z : Value) (k bytes : Nat) (ht : P.underlying t = some (.slice e)) (hinfo : (P.info? e).map (fun i => (i.zero, i.size, i.bytes)) = some (some z, k, bytes)) (hzs : z.cells.size = k) (hsz : 0 < k) (hby : bytes ≤ 1000)
    (B : Nat) (v : Value) (n : Nat) (xs : List Value) (hs : a.eval s = v) (hown : Hid (w.ownsRow B e k v n xs))
    (S : Nat) (A : Option Addr) (m c : Nat) (cs : List Value) (hx : a.eval x = .slice A m c) (hr : Hid (SlcR w S k A m cs)) (h1 : ∀ u ∈ cs, u.oneCell' = true)
    (hn : n + m ≤ 1000000000) (hbase : B ≤ w.heap.size)
    (h : ∀ v' w', Hid (w'.ownsRow B e k v' (n + m) (xs ++ cs)) → w.grownBy w' v.ownBlock → Below B w w' → (v'.ownBlock = v.ownBlock ∨ v'.ownBlock = some w.heap.size) → K (a.put o.dst v') w') : o.wp P a w K Q := by
  obtain ⟨i, hi, hz, hs', hb⟩ := info_parts hinfo
  have hbytes : (n + m) * bytes ≤ 140737488355328 := by have := Nat.mul_le_mul hn hby; omega
  have fin : ∀ v' w', (Builtin.append_ #[t, t] o.type #[v, .slice A m c]).run P w = .ok v' w' → w'.ownsRow B e k v' (n + m) (xs ++ cs) → w.grownBy w' v.ownBlock → (v'.ownBlock = v.ownBlock ∨ v'.ownBlock = some w.heap.size) → o.wp P a w K Q := by
    intro v' w' hrun h2 h3 h4
    unfold Oper.wp execOp
    simp only [ho, resolve, invoke, builtin, Sem.run_bind, Sem.run_pure, Result.andThen_ok, List.map_toArray, List.map_cons, List.map_nil, hs, hx, hrun]
    exact h v' w' h2 h3 ((Below.refl B w).grown h3 hbase (fun j hj => (hown.out.lt j hj).1)) h4
  rcases Nat.eq_zero_or_pos m with h0 | h0
  · subst h0
    have hc0 : cs = [] := List.eq_nil_of_length_eq_zero (by simpa using hr.out.len)
    subst hc0
    rcases A with _ | ad
    · exact fin v w (run_cat_nil w B t o.type e i k ht hi v n xs hown.out c) (by simpa using hown.out) (World.grownBy.refl w _) (.inl rfl)
    · obtain ⟨v', w', hrun, h2, h3, _, h5⟩ := run_append_own_at (P := P) w B t o.type e i z k bytes ht hi hz hs' hb hzs hsz v n xs hown.out ad 0 c [] (by simp) (by simp) (by simp) (by unfold maxLen; omega) hbytes hbase
      exact fin v' w' hrun h2 h3 h5
  · obtain ⟨b, off, rfl, hlt, hcell⟩ := hr.out.at_ h0
    obtain ⟨v', w', hrun, h2, h3, _, h5⟩ := run_append_own_at (P := P) w B t o.type e i z k bytes ht hi hz hs' hb hzs hsz v n xs hown.out ⟨b, off, none⟩ m c cs hr.out.len (fun j u hu => by rw [addr_add]; exact hcell j u hu) h1 (by unfold maxLen; omega) hbytes hbase
    exact fin v' w' hrun h2 h3 h5

theorem wpList_cat {P : Program} {ops : Array Oper} {rest : List Oper} {o : Oper} {a : Act} {w : World} {Q : Exit → Act → World → Prop} (hgd : o.guard = none) (s x : Operand) (t : TypeId)
    (ho : o.op = .call { callee := .builtin .append, args := #[s, x], argTypes := #[t, t] })
    (e : TypeId) (z : Value) (k bytes : Nat) (ht : P.underlying t = some (.slice e)) (hinfo : (P.info? e).map (fun i => (i.zero, i.size, i.bytes)) = some (some z, k, bytes)) (hzs : z.cells.size = k) (hsz : 0 < k) (hby : bytes ≤ 1000)
    (B : Nat) (v : Value) (n : Nat) (xs : List Value) (hs : a.eval s = v) (hown : Hid (w.ownsRow B e k v n xs))
    (S : Nat) (A : Option Addr) (m c : Nat) (cs : List Value) (hx : a.eval x = .slice A m c) (hr : Hid (SlcR w S k A m cs)) (h1 : ∀ u ∈ cs, u.oneCell' = true)
    (hn : n + m ≤ 1000000000) (hbase : B ≤ w.heap.size)
    (h : ∀ v' w', Hid (w'.ownsRow B e k v' (n + m) (xs ++ cs)) → w.grownBy w' v.ownBlock → Below B w w' → (v'.ownBlock = v.ownBlock ∨ v'.ownBlock = some w.heap.size) → wpList P ops Q rest (a.put o.dst v') w') : wpList P ops Q (o :: rest) a w :=
  wpList_plain hgd fun _ hK => wp_cat s x t ho e z k bytes ht hinfo hzs hsz hby B v n xs hs hown S A m c cs hx hr h1 hn hbase fun v' w' h2 h3 h4 h5 => hK _ _ (h v' w' h2 h3 h4 h5)

/-- A slice made by the text itself, of no element. -/
theorem owns_empty {w : World} {B g : Nat} {e : TypeId} {k : Nat} (h : Lies w g e []) (hB : B ≤ g) : w.ownsRow B e k (.slice (some ⟨g, 0, none⟩) 0 0) 0 [] := h.own hB (by simp) (by unfold maxLen; omega)
theorem ints_one {l : List Int} : ∀ u ∈ (l.map (Value.int .i64)), u.oneCell' = true := by
  intro u hu; obtain ⟨n, _, rfl⟩ := List.mem_map.1 hu; rfl
end Go.Proofs.Ytchkjiadnackaaa

/- Copies of slices of ints: the reference's l1Own, the library's slices.Clone. -/
namespace Go.Proofs.Ytchkjiadnackaaa
open Go.RowKit

theorem infoI : (Try.prog.info? 3).map (fun i => (i.zero, i.size, i.bytes)) = some (some (.int .i64 0), 1, 8) := by kernel_rfl

/-- The result: a slice of the call's own that holds l. -/
def GivesInts (w : World) (l : List Int) (e : Ending) (w' : World) : Prop := ∃ A c, e = .returned (.slice A l.length c) ∧ OwnS w' w.heap.size 3 1 A l.length (encIs l) ∧ Below w.heap.size w w'
theorem GivesInts.mk {w w' : World} {l : List Int} {v : Value} (h : w'.ownsRow w.heap.size 3 1 v l.length (encIs l)) (hb : Below w.heap.size w w') : GivesInts w l (.returned v) w' := by
  obtain ⟨A, c, rfl⟩ := ownsRow_slice h
  exact ⟨A, c, rfl, OwnS.of h, hb⟩

theorem l1Own_any (A : Option Addr) (c : Nat) (l : List Int) (w : World) (h : IntsR w w.heap.size A l) (hn : l.length ≤ 1000000) :
    Calls Try.prog 29 #[.slice A l.length c] w (GivesInts w l) := by
  have HO : Hid ((w.alloc (.cells #[] 3)).ownsRow w.heap.size 3 1 (.slice (some ⟨w.heap.size, 0, none⟩) 0 0) 0 []) := owns_empty (Lies.new w 3 #[]) (Nat.le_refl _)
  have b1 := (Below.refl w.heap.size w).alloc (Nat.le_refl _) (.cells #[] 3)
  have HR := Lib.hid (SlcR.below h b1)
  go_enter Try.func29, Try.ntmps29
  go_wp2_with (at_builtin; refine wpList_cat rfl _ _ 36 rfl 3 (.int .i64 0) 1 8 Try.underlying36 infoI rfl (by omega) (by omega) w.heap.size _ 0 [] rfl HO w.heap.size A l.length c (encIs l) rfl HR ints_one (by omega) b1.size ?_; intro v' w1 hown _ hb2 _)
  go_ret
  exact GivesInts.mk (by simpa using hown.out) (b1.trans hb2)

theorem clone_any (A : Option Addr) (c : Nat) (l : List Int) (w : World) (h : IntsR w w.heap.size A l) (hn : l.length ≤ 1000000) :
    Calls Try.prog 58 #[.slice A l.length c] w (GivesInts w l) := by
  rcases A with _ | ad
  · have h0 : l.length = 0 := by
      rcases Nat.eq_zero_or_pos l.length with h0 | h0
      · exact h0
      · obtain ⟨_, _, h1, _⟩ := h.at_ h0; cases h1
    obtain rfl : l = [] := List.eq_nil_of_length_eq_zero h0
    have hq := fun W => Lib.run_eql_slice_nil (P := Try.prog) W 36 3 none 0 c 0 0 Try.underlying36
    go_enter Try.func58, Try.ntmps58
    go_wp2_with fail
    go_ret
    exact ⟨none, 0, rfl, ⟨by simp, by simp, .inl ⟨rfl, rfl⟩⟩, Below.refl _ _⟩
  · have HO : Hid ((w.alloc (.cells #[] 3)).ownsRow w.heap.size 3 1 (.slice (some ⟨w.heap.size, 0, none⟩) 0 0) 0 []) := owns_empty (Lies.new w 3 #[]) (Nat.le_refl _)
    have b1 := (Below.refl w.heap.size w).alloc (Nat.le_refl _) (.cells #[] 3)
    have HR := Lib.hid (SlcR.below h b1)
    have hq := fun W => Lib.run_eql_slice_nil (P := Try.prog) W 36 3 (some ad) l.length c 0 0 Try.underlying36
    go_enter Try.func58, Try.ntmps58
    go_wp2_with (at_builtin; refine wpList_cat rfl _ _ 36 rfl 3 (.int .i64 0) 1 8 Try.underlying36 infoI rfl (by omega) (by omega) w.heap.size _ 0 [] rfl HO w.heap.size (some ad) l.length c (encIs l) rfl HR ints_one (by omega) b1.size ?_; intro v' w1 hown _ hb2 _)
    go_ret
    exact GivesInts.mk (by simpa using hown.out) (b1.trans hb2)
end Go.Proofs.Ytchkjiadnackaaa

/- copyPhrase: a phrase with its own faults. -/
namespace Go.Proofs.Ytchkjiadnackaaa
open Go.RowKit

theorem OwnS.lower {w : World} {B B' : Nat} {t : TypeId} {k : Nat} {A : Option Addr} {n : Nat} {cs : List Value} (h : OwnS w B t k A n cs) (hB : B' ≤ B) : OwnS w B' t k A n cs := by
  obtain ⟨hl, hn, h0 | ⟨g, rest, hA, hg, hh⟩⟩ := h
  · exact ⟨hl, hn, .inl h0⟩
  · exact ⟨hl, hn, .inr ⟨g, rest, hA, Nat.le_trans hB hg, hh⟩⟩

/-- A phrase like x whose faults are the call's own. -/
def GivesPh (w : World) (x : Ph) (e : Ending) (w' : World) : Prop := ∃ A c, e = .returned (Ph.val { x with A := A, cap := c }) ∧ OwnS w' w.heap.size 3 1 A x.f.length (encIs x.f) ∧ Below w.heap.size w w'

set_option maxHeartbeats 1000000 in
theorem copyPhrase_any (x : Ph) (w : World) (h : IntsR w w.heap.size x.A x.f) (hn : x.f.length ≤ 1000000) :
    Calls Try.prog 33 #[x.val] w (GivesPh w x) := by
  have L1 := (Lies.new w 42 #[.int .i64 x.s, .int .i64 x.c, .slice x.A x.f.length x.cap, .int .i64 x.p]).alloc (.cells #[.int .i64 0, .int .i64 0, .slice none 0 0, .int .i64 0] 42)
  have L2 := Lies.new1 w (.cells #[.int .i64 x.s, .int .i64 x.c, .slice x.A x.f.length x.cap, .int .i64 x.p] 42) 42 #[.int .i64 0, .int .i64 0, .slice none 0 0, .int .i64 0]
  have b1 := (Below.refl w.heap.size w).alloc (Nat.le_refl _) (.cells #[.int .i64 x.s, .int .i64 x.c, .slice x.A x.f.length x.cap, .int .i64 x.p] 42)
  have b2 := b1.alloc b1.size (.cells #[.int .i64 0, .int .i64 0, .slice none 0 0, .int .i64 0] 42)
  clear b1
  go_enter Try.func33, Try.ntmps33
  go_wp2_with fail
  generalize ((w.alloc (.cells #[.int .i64 x.s, .int .i64 x.c, .slice x.A x.f.length x.cap, .int .i64 x.p] 42)).alloc (.cells #[.int .i64 0, .int .i64 0, .slice none 0 0, .int .i64 0] 42)) = W3 at L1 L2 b2 ⊢
  refine (clone_any x.A x.cap x.f W3 (SlcR.up h b2 (Nat.le_refl _)) hn).mono ?_
  rintro e W4 ⟨A', c', rfl, hO, hb4⟩
  have b4 := b2.trans (hb4.mono b2.size)
  have M1 := L1.below hb4 L1.lt
  have M2 := L2.below hb4 L2.lt
  have hne1 := M1.lt
  have hne2 := M2.lt
  have d0 := M1.cell 0
  have d1 := M1.cell 1
  have d2 := M1.cell 2
  have d3 := M1.cell 3
  have e0 := M2.cell 0
  have e1 := M2.cell 1
  have e2 := M2.cell 2
  have e3 := M2.cell 3
  have f2 := M1.frozen 2
  have g0 := M2.frozen 0
  have g1 := M2.frozen 1
  have g2 := M2.frozen 2
  have g3 := M2.frozen 3
  have hg1 := L1.lt
  have hg2 := L2.lt
  have HO := Lib.hid hO; clear hO
  simp only [List.getElem?_cons_zero, List.getElem?_cons_succ] at d0 d1 d2 d3 e0 e1 e2 e3
  clear L1 L2 h M1 M2
  go_wp2
  refine bodyPost_ret (v := Ph.val { x with A := A', cap := c' }) (by simp [results, Try.results33, go_sem, *]) rfl ⟨A', c', rfl, ?_, ?_⟩
  · exact (((HO.out.kept (grown_set (World.grownBy.refl W4 (some w.heap.size))) (by omega)).kept (grown_set (grown_set (grown_set (grown_set (World.grownBy.refl _ (some (w.heap.size + 1))))))) (by omega)).lower b2.size)
  · exact (b4.grown (grown_set (World.grownBy.refl W4 (some w.heap.size))) b4.size (by rintro _ ⟨⟩; omega)).grown (grown_set (grown_set (grown_set (grown_set (World.grownBy.refl _ (some (w.heap.size + 1))))))) (by simpa using b4.size) (by rintro _ ⟨⟩; omega)
end Go.Proofs.Ytchkjiadnackaaa
