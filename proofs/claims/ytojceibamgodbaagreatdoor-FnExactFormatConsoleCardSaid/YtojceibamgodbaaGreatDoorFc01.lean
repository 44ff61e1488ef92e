/- Fc01: the texts Base In Ints More Tray Outing OffP OffTo OffSpec OffSpec2 OffSpec3, joined into one file. -/
import Derived.WalkKit
import Derived.WalkLawsBesides
import Derived.WalkSpells
import Derived.BigQuiet
import Derived.Deep.QuietTactic
import Derived.Deep.Draws
import Derived.Deep.MidRow
import Derived.Laws.CopyRow
import Derived.Outline
import Derived.Lib.Hide
import Derived.Handy
import Derived.Test.YtojceibamgodbaaGreatDoorProg

set_option linter.unusedVariables false

/- Plain words on memory, no program in sight: worlds since a point; slices that read as lists of cells; blocks that are known whole. -/
namespace Go.Proofs.YtojceibamgodbaaGreatDoor
open Go.RowKit

/-- A world in which all that lay below block B of w still lies as it lay. -/
structure Since (B : Nat) (w : World) where
  val : World
  below : Below B w val

theorem Since.cell {B : Nat} {w : World} (p : Since B w) {a : Addr} (h : a.block < B) : p.val.cell? a = w.cell? a := p.below.cell h
theorem Since.size {B : Nat} {w : World} (p : Since B w) : w.heap.size ≤ p.val.heap.size := p.below.size
def Since.start (B : Nat) (w : World) : Since B w := ⟨w, Below.refl B w⟩
instance Since.any (B : Nat) (w : World) : Inhabited (Since B w) := ⟨Since.start B w⟩
def Since.go {B : Nat} {w : World} (p : Since B w) {w' : World} (hB : B ≤ w.heap.size) (h : Below p.val.heap.size p.val w') : Since B w :=
  ⟨w', p.below.trans (h.mono (Nat.le_trans hB p.size))⟩
def Since.go' {B : Nat} {w : World} (p : Since B w) {w' : World} (h : Below B p.val w') : Since B w := ⟨w', p.below.trans h⟩

/-- A region that draws its order, whose operations read and whose calls leave alone what lay below block B. -/
theorem wp_region_since {P : Program} {id : Nat} {Q : Exit → Act → World → Prop} {a : Act} {B : Nat} {w : World} {l : List Oper} (p : Since B w) (hm : P.follows .mixedOrders = true) (hB : Region.lexB .any l.toArray = true)
    (h : wpQuiet P l.toArray (fun w' => ∃ q : Since B w, w' = q.val) (fun a' => ∀ w', (∃ q : Since B w, w' = q.val) → Q .normal a' w') l a) : (Code.region id l.toArray true).wp P Q a p.val :=
  wp_region_quiet (C := fun w' => ∃ q : Since B w, w' = q.val) hm hB ⟨⟨_, p.below.drew⟩, rfl⟩ (by simpa using h)
/-- The same, from the world w itself. -/
theorem wp_region_since0 {P : Program} {id : Nat} {Q : Exit → Act → World → Prop} {a : Act} {w : World} {l : List Oper} (hm : P.follows .mixedOrders = true) (hB : Region.lexB .any l.toArray = true)
    (h : wpQuiet P l.toArray (fun w' => ∃ q : Since w.heap.size w, w' = q.val) (fun a' => ∀ w', (∃ q : Since w.heap.size w, w' = q.val) → Q .normal a' w') l a) : (Code.region id l.toArray true).wp P Q a w :=
  wp_region_since (Since.start w.heap.size w) hm hB h

/-- A callee's contract in a world since w. -/
theorem calls_since {P : Program} {f : FuncId} {args : Array Value} {B : Nat} {w : World} {q : Since B w} {v : Value} (hB : B ≤ w.heap.size)
    (h : Calls P f args q.val fun e w' => e = .returned v ∧ Below q.val.heap.size q.val w') : Calls P f args q.val fun e w' => e = .returned v ∧ ∃ q' : Since B w, w' = q'.val :=
  h.mono fun _ _ ⟨he, hb⟩ => ⟨he, q.go hB hb, rfl⟩
theorem calls_sinceB {P : Program} {f : FuncId} {args : Array Value} {B : Nat} {w : World} {q : Since B w} {b b' : Bool} (hb : Hid (b = b')) (hB : B ≤ w.heap.size)
    (h : Calls P f args q.val fun e w' => e = .returned (.bool b) ∧ Below q.val.heap.size q.val w') : Calls P f args q.val fun e w' => e = .returned (.bool b') ∧ ∃ q' : Since B w, w' = q'.val := by
  have := hb.out; subst this; exact calls_since hB h
theorem calls_same {P : Program} {f : FuncId} {args : Array Value} {B : Nat} {w : World} {q : Since B w} {v : Value}
    (h : Calls P f args q.val fun e w' => e = .returned v ∧ q.val = w') : Calls P f args q.val fun e w' => e = .returned v ∧ ∃ q' : Since B w, w' = q'.val :=
  h.mono fun _ _ ⟨he, hb⟩ => ⟨he, q, hb.symm⟩
theorem calls_sameB {P : Program} {f : FuncId} {args : Array Value} {B : Nat} {w : World} {q : Since B w} {b b' : Bool} (hb : Hid (b = b'))
    (h : Calls P f args q.val fun e w' => e = .returned (.bool b) ∧ q.val = w') : Calls P f args q.val fun e w' => e = .returned (.bool b') ∧ ∃ q' : Since B w, w' = q'.val := by
  have := hb.out; subst this; exact calls_same h

/-- Four results in slots. -/
theorem results_four {fn : Func} {t u v x : Tmp} (h : fn.results = #[.tmp t, .tmp u, .tmp v, .tmp x]) (tmps : Array Value) (P : Program) (w : World) :
    (results fn tmps).run P w = .ok (.tuple #[tmps.getD t undef, tmps.getD u undef, tmps.getD v undef, tmps.getD x undef]) w := by simp [results, h]

/-- One call behind another. -/
theorem bthen {a b c : World} (h : Below a.heap.size a b) (k : Below b.heap.size b c) : Below a.heap.size a c := h.trans (k.mono h.size)

/-- The first call from a world: it leaves one since. -/
theorem calls_since0 {P : Program} {f : FuncId} {args : Array Value} {W : World} {v : Value}
    (h : Calls P f args W fun e w' => e = .returned v ∧ Below W.heap.size W w') : Calls P f args W fun e w' => e = .returned v ∧ ∃ q' : Since W.heap.size W, w' = q'.val :=
  h.mono fun _ _ ⟨he, hb⟩ => ⟨he, ⟨_, hb⟩, rfl⟩

/-! ### Slices that read as lists of cells -/
/-- The slice with address A and n elements of k cells each reads as the cells cs, below block B. -/
structure SlcR (w : World) (B k : Nat) (A : Option Addr) (n : Nat) (cs : List Value) : Prop where
  len : cs.length = n * k
  big : n ≤ 9223372036854775807
  at_ : 0 < n → ∃ b off, A = some ⟨b, off, none⟩ ∧ b < B ∧ ∀ j u, cs[j]? = some u → w.cell? ⟨b, off + j, none⟩ = some u

theorem SlcR.keep {w w' : World} {B k n : Nat} {A : Option Addr} {cs : List Value} (h : SlcR w B k A n cs) (hk : ∀ p : Addr, p.block < B → w'.cell? p = w.cell? p) : SlcR w' B k A n cs :=
  ⟨h.len, h.big, fun hn => by
    obtain ⟨b, off, e, hb, hc⟩ := h.at_ hn
    exact ⟨b, off, e, hb, fun j u hu => (hk _ hb).trans (hc j u hu)⟩⟩
theorem SlcR.below {w w' : World} {B k n : Nat} {A : Option Addr} {cs : List Value} (h : SlcR w B k A n cs) (hb : Below B w w') : SlcR w' B k A n cs := h.keep fun _ hp => hb.cell hp
theorem SlcR.mono {w : World} {B B' k n : Nat} {A : Option Addr} {cs : List Value} (h : SlcR w B k A n cs) (hB : B ≤ B') : SlcR w B' k A n cs :=
  ⟨h.len, h.big, fun hn => by
    obtain ⟨b, off, e, hb, hc⟩ := h.at_ hn
    exact ⟨b, off, e, by omega, hc⟩⟩
theorem SlcR.up {w w' : World} {B k n : Nat} {A : Option Addr} {cs : List Value} (h : SlcR w B k A n cs) (hb : Below B w w') (hB : B ≤ w.heap.size) : SlcR w' w'.heap.size k A n cs :=
  (h.below hb).mono (Nat.le_trans hB hb.size)
theorem SlcR.then {w w' : World} {k n : Nat} {A : Option Addr} {cs : List Value} (h : SlcR w w.heap.size k A n cs) (hb : Below w.heap.size w w') : SlcR w' w'.heap.size k A n cs := (h.below hb).mono hb.size
theorem SlcR.nil (w : World) (B k : Nat) (A : Option Addr) : SlcR w B k A 0 [] := ⟨by simp, by omega, fun h => absurd h (by omega)⟩

/-- Place j of element i, in a list of elements of k cells. -/
theorem flat_at {α : Type} (enc : α → List Value) (k : Nat) (hk : ∀ x, (enc x).length = k) : ∀ (l : List α) (i : Nat) (h : i < l.length) (j : Nat), j < k → (l.flatMap enc)[i * k + j]? = (enc l[i])[j]?
  | x :: l, 0, _, j, hj => by
    simp only [List.flatMap_cons, Nat.zero_mul, Nat.zero_add, List.getElem_cons_zero]
    rw [List.getElem?_append_left (by rw [hk]; exact hj)]
  | x :: l, i + 1, h, j, hj => by
    have e : (i + 1) * k + j = (enc x).length + (i * k + j) := by rw [hk, Nat.succ_mul]; omega
    simp only [List.flatMap_cons, List.getElem_cons_succ]
    rw [e, List.getElem?_append_right (by omega), Nat.add_sub_cancel_left]
    exact flat_at enc k hk l i (by simpa using h) j hj
theorem flat_len {α : Type} (enc : α → List Value) (k : Nat) (hk : ∀ x, (enc x).length = k) : ∀ l : List α, (l.flatMap enc).length = l.length * k
  | [] => by simp
  | x :: l => by simp only [List.flatMap_cons, List.length_append, flat_len enc k hk l, hk, List.length_cons, Nat.succ_mul]; omega

/-! ### Blocks that are known whole -/
def Lies (w : World) (g : Nat) (t : TypeId) (cs : List Value) : Prop := w.heap[g]? = some (.cells cs.toArray t (0, 0))
section
variable {w w' : World} {g : Nat} {t : TypeId} {cs : List Value}
theorem Lies.lt (h : Lies w g t cs) : g < w.heap.size := by
  rcases Nat.lt_or_ge g w.heap.size with hlt | hge
  · exact hlt
  · unfold Lies at h; rw [Array.getElem?_eq_none hge] at h; cases h
theorem Lies.cell (h : Lies w g t cs) (i : Nat) : w.cell? ⟨g, i, none⟩ = cs[i]? := by rw [cell_of_row w g i _ t (0, 0) h]; simp
theorem Lies.frozen (h : Lies w g t cs) (i : Nat) : w.frozen? ⟨g, i, none⟩ = false := frozen_of_row w g i _ t h
theorem Lies.below {B : Nat} (h : Lies w g t cs) (hb : Below B w w') (hg : g < B) : Lies w' g t cs := (hb.block g hg).trans h
theorem Lies.kept {row : Option Nat} (h : Lies w g t cs) (hb : w.grownBy w' row) (hg : some g ≠ row) : Lies w' g t cs := (hb.block g h.lt hg).trans h
theorem Lies.alloc (h : Lies w g t cs) (o : Obj) : Lies (w.alloc o) g t cs := (Below.heap_alloc w o g h.lt).trans h
theorem Lies.set (h : Lies w g t cs) (i : Nat) (u : Value) : Lies (w.setCell ⟨g, i, none⟩ u) g t (cs.set i u) := by
  have := heap_setCell_same w g i cs.toArray t u h
  unfold Lies; rw [this]; simp
theorem Lies.other (h : Lies w g t cs) {p : Addr} (hp : g ≠ p.block) (u : Value) : Lies (w.setCell p u) g t cs := (Below.heap_setCell w p u g hp).trans h
theorem Lies.reads {k n : Nat} (h : Lies w g t cs) (hl : cs.length = n * k) (hn : n ≤ 9223372036854775807) : SlcR w w.heap.size k (some ⟨g, 0, none⟩) n cs :=
  ⟨hl, hn, fun _ => ⟨g, 0, rfl, h.lt, fun j u hu => by rw [Nat.zero_add, h.cell]; exact hu⟩⟩
end
theorem Lies.new (w : World) (t : TypeId) (cs : Array Value) : Lies (w.alloc (.cells cs t)) w.heap.size t cs.toList := heap_alloc_new w _
theorem Lies.of {w : World} {g : Nat} {t : TypeId} {cs : Array Value} (h : w.heap[g]? = some (.cells cs t (0, 0))) : Lies w g t cs.toList := h
theorem Lies.own {w : World} {g : Nat} {t : TypeId} {cs : List Value} (h : Lies w g t cs) {B k n : Nat} (hB : B ≤ g) (hl : cs.length = n * k) (hn : n ≤ maxLen) : w.ownsRow B t k (.slice (some ⟨g, 0, none⟩) n n) n cs := by
  refine ⟨hl, Or.inr ⟨g, n, _, rfl, hB, h, Nat.le_refl _, hn, by simpa using hl, ?_⟩⟩
  simp only
  exact List.take_of_length_le (by omega)

def splice (cs : List Value) (i : Nat) (vs : List Value) : List Value := cs.take i ++ vs ++ cs.drop (i + vs.length)

/-- A struct is stored into a block that is known whole. -/
theorem wpList_store_row {P : Program} {ops : Array Oper} {rest : List Oper} {op : Oper} {a : Act} {w : World} {Q : Exit → Act → World → Prop} (hgd : op.guard = none) (ty : TypeId) (x y : Operand) (ho : op.op = .store ty x y)
    (g o : Nat) (t : TypeId) (vs : Array Value) (hx : a.eval x = .pointer (some ⟨g, o, none⟩)) (hy : a.eval y = .agg vs)
    (cs : List Value) (hl : Lies w g t cs) (hfit : o + vs.size ≤ cs.length) (hi : (P.info? ty).map (·.size) = some vs.size) (h1 : vs.all (·.oneCell') = true)
    (h : ∀ w', Lies w' g t (splice cs o vs.toList) → w.grownBy w' (some g) → wpList P ops Q rest (a.put op.dst undef) w') : wpList P ops Q (op :: rest) a w := by
  refine wpList_plain hgd fun K hK => ?_
  have hrun := run_storeCells_at (P := P) g o t vs.toList 0 cs.toArray w hl (by simpa using hfit) (fun v hv => (Array.all_eq_true_iff_forall_mem.1 h1) v (by simpa using hv))
  cases hq : P.info? ty with
  | none => simp [hq] at hi
  | some i =>
    have hs : vs.size = i.size := by simp [hq] at hi; omega
    unfold Oper.wp execOp
    simp only [ho, hx, hy, Instr.storeAt, Instr.sureAddr, Sem.run_bind, Sem.run_pure, Result.andThen_ok]
    simp only [Nat.add_zero] at hrun
    simp [storeVar, sizeOf, typeInfo, hq, Value.cells, ← hs, hrun, Oper.upon]
    refine hK _ _ (h _ ?_ ?_)
    · have := setRow_heap w g cs.toArray (cs.take o ++ vs.toList ++ cs.drop (o + vs.size)).toArray t _ hl
      unfold Lies splice
      simpa using this
    · refine ⟨rfl, rfl, rfl, by simp [World.setRow], fun k hk hne => ?_⟩
      simp only [World.setRow, Array.getElem?_modify]
      rw [if_neg (fun e => hne (by rw [e]))]

/-- Splicing the next row in. -/
theorem splice_next {α : Type} (enc : α → List Value) (k : Nat) (hk : ∀ x, (enc x).length = k) (l : List α) (i : Nat) (hi : i < l.length) (rest : List Value) (hr : rest.length = (l.length - i) * k) :
    ∃ rest', splice ((l.take i).flatMap enc ++ rest) (i * k) (enc l[i]) = (l.take (i + 1)).flatMap enc ++ rest' ∧ rest'.length = (l.length - (i + 1)) * k := by
  refine ⟨rest.drop k, ?_, ?_⟩
  · have e1 : ((l.take i).flatMap enc).length = i * k := by rw [flat_len enc k hk, List.length_take, Nat.min_eq_left (by omega)]
    unfold splice
    rw [List.take_append_of_le_length (by omega), List.take_of_length_le (by omega), List.drop_append, List.drop_eq_nil_of_le (by rw [e1, hk]; omega), e1, hk, List.nil_append]
    rw [List.take_succ_eq_append_getElem hi, List.flatMap_append, List.flatMap_cons, List.flatMap_nil, List.append_nil, Nat.add_sub_cancel_left]
  · rw [List.length_drop, hr]
    obtain ⟨d, hd⟩ : ∃ d, l.length - i = d + 1 := ⟨l.length - i - 1, by omega⟩
    have hd' : l.length - (i + 1) = d := by omega
    rw [hd, hd', Nat.succ_mul, Nat.add_sub_cancel]

/-- The store of element k, in a loop that fills a made slice. -/
theorem wpList_store_next {P : Program} {ops : Array Oper} {rest : List Oper} {op : Oper} {a : Act} {w : World} {Q : Exit → Act → World → Prop} (hgd : op.guard = none) (ty : TypeId) (x y : Operand) (ho : op.op = .store ty x y)
    {α : Type} (enc : α → List Value) (ksz : Nat) (hk : ∀ x, (enc x).length = ksz) (l : List α) (k : Nat) (hlt : k < l.length) (old : List Value) (hold : Hid (old.length = (l.length - k) * ksz))
    (g : Nat) (t : TypeId) (vs : Array Value) (hx : a.eval x = .pointer (some ⟨g, k * ksz, none⟩)) (hy : a.eval y = .agg vs) (hv : Hid (vs.toList = enc l[k]))
    (hi : (P.info? ty).map (·.size) = some ksz) (h1 : vs.all (·.oneCell') = true) (hl : Lies w g t ((l.take k).flatMap enc ++ old))
    (h : ∀ w' old', Hid (Lies w' g t ((l.take (k + 1)).flatMap enc ++ old')) → Hid (old'.length = (l.length - (k + 1)) * ksz) → w.grownBy w' (some g) → wpList P ops Q rest (a.put op.dst undef) w') : wpList P ops Q (op :: rest) a w := by
  have hv' := hv.out
  have hold' := hold.out
  have hsz : vs.size = ksz := by have := congrArg List.length hv'; simpa [hk] using this
  obtain ⟨old', he, hl'⟩ := splice_next enc ksz hk l k hlt old hold'
  refine wpList_store_row hgd ty x y ho g (k * ksz) t vs hx hy _ hl ?_ (by rw [hi, hsz]) h1 fun w' h2 h3 => h w' old' ?_ hl' h3
  · rw [hsz, List.length_append, flat_len enc ksz hk, List.length_take, Nat.min_eq_left (by omega), hold']
    have : l.length - k = l.length - k - 1 + 1 := by omega
    rw [this, Nat.succ_mul]; omega
  · rw [hv', he] at h2; exact h2

/-- 'make([]T, n)', T a struct or not. -/
theorem run_make_all {P : Program} (t e : TypeId) (z : Value) (size bytes : Nat) (ht : P.underlying t = some (.slice e)) (hinfo : (P.info? e).map (fun i => (i.zero, i.size, i.bytes)) = some (some z, size, bytes))
    (n : Nat) (hbytes : bytes * n ≤ 140737488355328) (h63 : n ≤ 9223372036854775807) (w : World) :
    (Instr.makeSlice t (.int .i64 (n : Int)) (.int .i64 (n : Int))).run P w = .ok (.slice (some ⟨w.heap.size, 0, none⟩) n n) (w.alloc (.cells (madeCells z.cells (n * size)) e)) := by
  obtain ⟨i, hi, hz, hs, hb⟩ := info_parts hinfo
  have hb' : (i.bytes : Int) * (n : Int) ≤ 281474976710656 := by
    have h : ((i.bytes * n : Nat) : Int) ≤ 281474976710656 := by rw [hb]; omega
    rwa [Int.natCast_mul] at h
  have hr := run_make (P := P) w t e i z ht hi hz .i64 .i64 n n (by omega) (by omega) hb' (by omega)
  simp only [Int.toNat_natCast] at hr
  rw [← hs]
  exact hr

end Go.Proofs.YtojceibamgodbaaGreatDoor

/- In-range tests; what is left of a bound. -/
namespace Go.Proofs.YtojceibamgodbaaGreatDoor
open Go.RowKit

def inR (n lo hi : Int) : Bool := decide (lo ≤ n) && decide (n ≤ hi)
theorem inR_iff {n lo hi : Int} : inR n lo hi = true ↔ lo ≤ n ∧ n ≤ hi := by simp [inR]
theorem inR_no {n lo hi : Int} : inR n lo hi = false ↔ n < lo ∨ hi < n := by
  cases h : inR n lo hi with
  | true => rw [inR_iff] at h; simp; omega
  | false =>
    simp only [true_iff]
    by_cases h' : lo ≤ n ∧ n ≤ hi
    · rw [← inR_iff, h] at h'; cases h'
    · omega
theorem l1In_any (n lo hi : Int) (w : World) : Calls Tryz.prog 54 #[.int .i64 n, .int .i64 lo, .int .i64 hi] w fun e w' => e = .returned (.bool (inR n lo hi)) ∧ w = w' := by
  go_enter Tryz.func54, Tryz.ntmps54
  go_wp2
  all_goals (go_ret; exact ⟨by simp [inR, *]; try omega, rfl⟩)
theorem inRange_any (n lo hi : Int) (w : World) : Calls Tryz.prog 42 #[.int .i64 n, .int .i64 lo, .int .i64 hi] w fun e w' => e = .returned (.bool (inR n lo hi)) ∧ w = w' := by
  go_enter Tryz.func42, Tryz.ntmps42
  go_wp2
  all_goals (go_ret; exact ⟨by simp [inR, *]; try omega, rfl⟩)
def lessen (k : Int) (n : Nat) : Int := if (n : Int) ≤ k then k - n else -1
theorem lessen_no {k : Int} {a b : Nat} (h : k < a) : lessen k (a + b) = -1 := by unfold lessen; rw [if_neg (by omega)]
theorem lessen_yes {k : Int} {a b : Nat} (_h : (a : Int) ≤ k) : lessen k (a + b) = lessen (k - a) b := by
  unfold lessen
  by_cases h : ((a + b : Nat) : Int) ≤ k
  · rw [if_pos h, if_pos (by omega)]; omega
  · rw [if_neg h, if_neg (by omega)]
end Go.Proofs.YtojceibamgodbaaGreatDoor

/- Slices of ints: equality, marks, held marks. -/
namespace Go.Proofs.YtojceibamgodbaaGreatDoor
open Go.RowKit

abbrev encI (n : Int) : List Value := [.int .i64 n]
abbrev encIs (l : List Int) : List Value := l.map (Value.int .i64)
theorem encIs_len (l : List Int) : (encIs l).length = l.length * 1 := by simp
/-- A slice of ints reads. -/
abbrev IntsR (w : World) (B : Nat) (A : Option Addr) (l : List Int) : Prop := SlcR w B 1 A l.length (encIs l)
theorem IntsR.ints {w : World} {B : Nat} {A : Option Addr} {l : List Int} (h : IntsR w B A l) (hne : 0 < l.length) : ∃ b off, A = some ⟨b, off, none⟩ ∧ b < B ∧ ∀ i (hi : i < l.length) (p : Since B w), p.val.cell? ⟨b, off + i, none⟩ = some (.int .i64 l[i]) := by
  obtain ⟨b, off, e, hb, hc⟩ := h.at_ hne
  exact ⟨b, off, e, hb, fun i hi p => (p.cell hb).trans (hc i _ (by simp [hi]))⟩

/-- A slice of the call's own, its cells known, with room behind them. -/
def OwnS (w : World) (B : Nat) (t : TypeId) (k : Nat) (A : Option Addr) (n : Nat) (cs : List Value) : Prop :=
  cs.length = n * k ∧ n ≤ 9223372036854775807 ∧ ((A = none ∧ n = 0) ∨ ∃ g rest, A = some ⟨g, 0, none⟩ ∧ B ≤ g ∧ Lies w g t (cs ++ rest))
theorem OwnS.of {w : World} {B : Nat} {t : TypeId} {k : Nat} {A : Option Addr} {n c : Nat} {cs : List Value} (h : w.ownsRow B t k (.slice A n c) n cs) : OwnS w B t k A n cs := by
  obtain ⟨hl, h | ⟨g, cap, cur, hv, hg, hh, h1, h2, h3, h4⟩⟩ := h
  · injection h.1 with e1 e2 e3
    exact ⟨hl, by omega, .inl ⟨e1, e2⟩⟩
  · injection hv with e1 e2 e3
    refine ⟨hl, by unfold maxLen at h2; omega, .inr ⟨g, cur.toList.drop (n * k), e1, hg, ?_⟩⟩
    have : cs ++ cur.toList.drop (n * k) = cur.toList := by rw [← h4]; exact List.take_append_drop _ _
    rw [this]
    exact Lies.of hh
theorem OwnS.reads {w : World} {B : Nat} {t : TypeId} {k : Nat} {A : Option Addr} {n : Nat} {cs : List Value} (h : OwnS w B t k A n cs) : SlcR w w.heap.size k A n cs := by
  obtain ⟨hl, hn, ⟨_, h0⟩ | ⟨g, rest, hA, hg, hh⟩⟩ := h
  · exact ⟨hl, hn, fun h => by omega⟩
  · exact ⟨hl, hn, fun _ => ⟨g, 0, hA, hh.lt, fun j u hu => by
      rw [Nat.zero_add, hh.cell, List.getElem?_append_left (List.getElem?_eq_some_iff.1 hu).1]; exact hu⟩⟩
theorem OwnS.kept {w w' : World} {B : Nat} {t : TypeId} {k : Nat} {A : Option Addr} {n : Nat} {cs : List Value} (h : OwnS w B t k A n cs) {g : Nat} (hg : w.grownBy w' (some g)) (hlt : g < B) : OwnS w' B t k A n cs := by
  obtain ⟨hl, hn, h0 | ⟨g', rest, hA, hg', hh⟩⟩ := h
  · exact ⟨hl, hn, .inl h0⟩
  · exact ⟨hl, hn, .inr ⟨g', rest, hA, hg', hh.kept hg (by intro e; injection e with e; omega)⟩⟩
theorem OwnS.then {w w' : World} {B : Nat} {t : TypeId} {k : Nat} {A : Option Addr} {n : Nat} {cs : List Value} (h : OwnS w B t k A n cs) (hb : Below w.heap.size w w') : OwnS w' B t k A n cs := by
  obtain ⟨hl, hn, h0 | ⟨g', rest, hA, hg', hh⟩⟩ := h
  · exact ⟨hl, hn, .inl h0⟩
  · exact ⟨hl, hn, .inr ⟨g', rest, hA, hg', hh.below hb hh.lt⟩⟩

def sameInts (a b : List Int) : Bool := decide (a = b)
def sameIntsFrom : List Int → List Int → Bool
  | [], [] => true
  | x :: a, y :: b => decide (x = y) && sameIntsFrom a b
  | _, _ => false
theorem sameIntsFrom_eq : ∀ a b : List Int, sameIntsFrom a b = sameInts a b
  | [], [] => by simp [sameIntsFrom, sameInts]
  | [], _ :: _ => by simp [sameIntsFrom, sameInts]
  | _ :: _, [] => by simp [sameIntsFrom, sameInts]
  | x :: a, y :: b => by simp [sameIntsFrom, sameInts, sameIntsFrom_eq a b, Bool.decide_and]

/-- k, k + 1, .., n numbers. -/
def ramp : Int → Nat → List Int
  | _, 0 => []
  | k, n + 1 => k :: ramp (k + 1) n
theorem ramp_len : ∀ (k : Int) (n : Nat), (ramp k n).length = n
  | _, 0 => rfl
  | k, n + 1 => by simp [ramp, ramp_len (k + 1) n]
theorem ramp_at : ∀ (k : Int) (n i : Nat) (h : i < (ramp k n).length), (ramp k n)[i] = k + i
  | k, n + 1, 0, _ => by simp [ramp]
  | k, n + 1, i + 1, h => by
    simp only [ramp, List.getElem_cons_succ]
    rw [ramp_at (k + 1) n i (by simpa [ramp] using h)]
    omega
theorem ramp_snoc : ∀ (k : Int) (n : Nat), ramp k (n + 1) = ramp k n ++ [k + n]
  | k, 0 => by simp [ramp]
  | k, n + 1 => by
    rw [ramp, ramp_snoc (k + 1) n, ramp, List.cons_append]
    congr 3
    omega

theorem grown_cell {a w : World} {row : Option Nat} (h : a.grownBy w row) (p : Addr) (hlt : p.block < a.heap.size) (hne : some p.block ≠ row) : w.cell? p = a.cell? p := World.cell?_of_block (w := a) (h.block p.block hlt hne)
theorem OwnS.at_ge {w : World} {B : Nat} {t : TypeId} {k : Nat} {A : Option Addr} {n : Nat} {cs : List Value} (h : OwnS w B t k A n cs) (g : Nat) (hg : A.map (·.block) = some g) : B ≤ g := by
  obtain ⟨_, _, ⟨rfl, _⟩ | ⟨g', _, rfl, hB, _⟩⟩ := h
  · cases hg
  · injection hg with e; simp only at e; omega
theorem OwnS.held {w : World} {B : Nat} {t : TypeId} {A : Option Addr} {k0 : Int} {n : Nat} (h : OwnS w B t 1 A n (encIs (ramp k0 n))) : IntsR w w.heap.size A (Go.Proofs.YtojceibamgodbaaGreatDoor.ramp k0 n) := by
  have := h.reads
  unfold IntsR; rw [ramp_len]; exact this

theorem grown_set {a w : World} {g i : Nat} {u : Value} (h : a.grownBy w (some g)) : a.grownBy (w.setCell ⟨g, i, none⟩ u) (some g) :=
  ⟨h.os, h.tape, h.output, by simpa [World.setCell] using h.size, fun k hk hne => (Below.heap_setCell w ⟨g, i, none⟩ u k (fun e => hne (by rw [e]))).trans (h.block k hk hne)⟩
theorem set_mid {α : Type} (a b : List α) (x u : α) : (a ++ x :: b).set a.length u = a ++ u :: b := by
  induction a with
  | nil => rfl
  | cons y a ih => simp [ih]

end Go.Proofs.YtojceibamgodbaaGreatDoor

/- Two worlds that differ in some blocks alone; marks in a row; the place of the first (no program's own function in sight). -/
namespace Go.Proofs.YtojceibamgodbaaGreatDoor
open Go.RowKit

/-- Between two worlds only blocks from lo on and below hi have turned; new ones may lie behind. -/
structure Mid (lo hi : Nat) (w w' : World) : Prop where
  os : w'.os = w.os
  tape : w'.tape = w.tape
  output : w'.output = w.output
  size : w.heap.size ≤ w'.heap.size
  block : ∀ k, k < w.heap.size → (k < lo ∨ hi ≤ k) → w'.heap[k]? = w.heap[k]?
theorem Mid.refl (lo hi : Nat) (w : World) : Mid lo hi w w := ⟨rfl, rfl, rfl, Nat.le_refl _, fun _ _ _ => rfl⟩
theorem Mid.trans {lo hi : Nat} {a b c : World} (h : Mid lo hi a b) (k : Mid lo hi b c) : Mid lo hi a c :=
  ⟨k.os.trans h.os, k.tape.trans h.tape, k.output.trans h.output, Nat.le_trans h.size k.size, fun i hi ho => (k.block i (Nat.lt_of_lt_of_le hi h.size) ho).trans (h.block i hi ho)⟩
theorem Mid.of {lo hi : Nat} {a b : World} {row : Option Nat} (h : a.grownBy b row) (hr : ∀ g, row = some g → lo ≤ g ∧ g < hi) : Mid lo hi a b :=
  ⟨h.os, h.tape, h.output, h.size, fun k hk ho => h.block k hk (fun e => by have := hr k e.symm; omega)⟩
theorem Mid.below {lo hi : Nat} {a b : World} (h : Mid lo hi a b) (hlo : lo ≤ a.heap.size) : Below lo a b :=
  ⟨h.os, h.tape, h.output, h.size, fun k hk => h.block k (by omega) (.inl hk)⟩
theorem Mid.lies {lo hi : Nat} {a b : World} (h : Mid lo hi a b) {g : Nat} {t : TypeId} {cs : List Value} (hL : Lies a g t cs) (ho : g < lo ∨ hi ≤ g) : Lies b g t cs := (h.block g hL.lt ho).trans hL
theorem Mid.own {lo hi : Nat} {a b : World} (h : Mid lo hi a b) {B : Nat} {t : TypeId} {k : Nat} {A : Option Addr} {n : Nat} {cs : List Value} (hO : OwnS a B t k A n cs) (hB : hi ≤ B) : OwnS b B t k A n cs := by
  obtain ⟨hl, hn, h0 | ⟨g', rest, hA, hg', hh⟩⟩ := hO
  · exact ⟨hl, hn, .inl h0⟩
  · exact ⟨hl, hn, .inr ⟨g', rest, hA, hg', h.lies hh (.inr (by omega))⟩⟩

theorem at_behind {α : Type} {a r : List α} {n : Nat} (h : a.length = n) (i : Nat) : (a ++ r)[n + i]? = r[i]? := by
  rw [List.getElem?_append_right (by omega), h, Nat.add_sub_cancel_left]
theorem set_behind {α : Type} {a r : List α} {n : Nat} (h : a.length = n) (i : Nat) (u : α) : (a ++ r).set (n + i) u = a ++ r.set i u := by
  subst h; rw [List.set_append_right _ _ (by omega), Nat.add_sub_cancel_left]

theorem split_2 {α : Type} {l : List α} (h : 2 ≤ l.length) : ∃ a0 a1 r, l = a0 :: a1 :: r := by
  match l, h with
  | a0 :: a1 :: r, _ => exact ⟨a0, a1, r, rfl⟩
theorem split_3 {α : Type} {l : List α} (h : 3 ≤ l.length) : ∃ a0 a1 a2 r, l = a0 :: a1 :: a2 :: r := by
  match l, h with
  | a0 :: a1 :: a2 :: r, _ => exact ⟨a0, a1, a2, r, rfl⟩
theorem split_4 {α : Type} {l : List α} (h : 4 ≤ l.length) : ∃ a0 a1 a2 a3 r, l = a0 :: a1 :: a2 :: a3 :: r := by
  match l, h with
  | a0 :: a1 :: a2 :: a3 :: r, _ => exact ⟨a0, a1, a2, a3, r, rfl⟩
theorem split_5 {α : Type} {l : List α} (h : 5 ≤ l.length) : ∃ a0 a1 a2 a3 a4 r, l = a0 :: a1 :: a2 :: a3 :: a4 :: r := by
  match l, h with
  | a0 :: a1 :: a2 :: a3 :: a4 :: r, _ => exact ⟨a0, a1, a2, a3, a4, r, rfl⟩
theorem enc_ramp_at {k0 : Int} {n i : Nat} (h : i < n) : (encIs (ramp k0 n))[i]? = some (.int .i64 (k0 + i)) := by
  unfold encIs
  rw [List.getElem?_map, List.getElem?_eq_getElem (by rw [ramp_len]; exact h), ramp_at]; rfl

/-- The place of the first that f takes, or -1. -/
def idxFrom {α : Type} (f : α → Bool) : Nat → List α → Int
  | _, [] => -1
  | k, x :: l => if f x then k else idxFrom f (k + 1) l
theorem idxFrom_any {α : Type} (f : α → Bool) : ∀ (l : List α) (k : Nat), decide (0 ≤ idxFrom f k l) = l.any f
  | [], _ => rfl
  | x :: l, k => by
    rw [idxFrom, List.any_cons, ← idxFrom_any f l (k + 1)]
    cases f x <;> simp
theorem idx_yes {α : Type} {f : α → Bool} {l : List α} {k : Nat} (h : k < l.length) (hf : f l[k] = true) : idxFrom f k (l.drop k) = k := by
  rw [List.drop_eq_getElem_cons h, idxFrom, hf]; rfl
theorem idx_no {α : Type} {f : α → Bool} {l : List α} {k : Nat} (h : k < l.length) (hf : f l[k] = false) : idxFrom f k (l.drop k) = idxFrom f (k + 1) (l.drop (k + 1)) := by
  rw [List.drop_eq_getElem_cons h, idxFrom, hf]; rfl
end Go.Proofs.YtojceibamgodbaaGreatDoor

/- Trays: a struct of two ints; its helpers. (Printed by gen_struct.py) -/
namespace Go.Proofs.YtojceibamgodbaaGreatDoor
open Go.RowKit

structure Tray where
  k : Int
  c : Int
  deriving DecidableEq, Inhabited
def Tray.enc (r : Tray) : List Value := [.int .i64 r.k, .int .i64 r.c]
abbrev Tray.val (r : Tray) : Value := .agg #[.int .i64 r.k, .int .i64 r.c]
theorem Tray.enc_len (r : Tray) : r.enc.length = 2 := rfl
theorem Tray.of_ints_enc (ns : List Int) (h : ns.length = 2) : ∃ r : Tray, ns.map (Value.int .i64) = r.enc := by
  match ns, h with
  | [v0, v1], _ => exact ⟨⟨v0, v1⟩, rfl⟩
theorem Tray.of_ints (ns : List Int) (h : ns.length = 2) : ∃ r : Tray, Value.agg (ns.map (Value.int .i64)).toArray = r.val := by
  match ns, h with
  | [v0, v1], _ => exact ⟨⟨v0, v1⟩, rfl⟩
/-- It lies at a place, in every world since. -/
structure TrayS (B : Nat) (w : World) (b o : Nat) (r : Tray) : Prop where
  c0 : ∀ p : Since B w, p.val.cell? ⟨b, o, none⟩ = some (.int .i64 r.k)
  c1 : ∀ p : Since B w, p.val.cell? ⟨b, o + 1, none⟩ = some (.int .i64 r.c)
theorem TrayS.up {B B' : Nat} {w W : World} {b o : Nat} {r : Tray} (h : TrayS B w b o r) (hb : Below B w W) (hB : B ≤ B') : TrayS B' W b o r :=
  ⟨fun p => h.c0 ⟨p.val, hb.trans (p.below.mono hB)⟩, fun p => h.c1 ⟨p.val, hb.trans (p.below.mono hB)⟩⟩
theorem TrayS.of {W : World} {g : Nat} {t : TypeId} {r : Tray} (h : Lies W g t r.enc) : TrayS W.heap.size W g 0 r :=
  ⟨fun p => (p.cell h.lt).trans (h.cell 0), fun p => (p.cell h.lt).trans (h.cell 1)⟩
/-- A slice of them. -/
abbrev TraysR (w : World) (B : Nat) (A : Option Addr) (l : List Tray) : Prop := SlcR w B 2 A l.length (l.flatMap Tray.enc)
theorem TraysR.el {w : World} {B : Nat} {A : Option Addr} {l : List Tray} (h : TraysR w B A l) (hne : 0 < l.length) : ∃ b off, A = some ⟨b, off, none⟩ ∧ b < B ∧ ∀ i (hi : i < l.length), TrayS B w b (off + i * 2) l[i] := by
  obtain ⟨b, off, e, hb, hc⟩ := h.at_ hne
  refine ⟨b, off, e, hb, fun i hi => ?_⟩
  have key : ∀ j, j < 2 → ∀ u, (l[i].enc)[j]? = some u → ∀ p : Since B w, p.val.cell? ⟨b, off + i * 2 + j, none⟩ = some u := fun j hj u hu p => by
    rw [p.cell hb, Nat.add_assoc]
    exact hc _ u (by rw [flat_at Tray.enc 2 Tray.enc_len l i hi j hj]; exact hu)
  exact ⟨key 0 (by omega) _ rfl, key 1 (by omega) _ rfl⟩
theorem lies_trays {W : World} {g : Nat} {t : TypeId} {l : List Tray} (h : Lies W g t (l.flatMap Tray.enc)) (hn : l.length ≤ 9223372036854775807) : TraysR W W.heap.size (some ⟨g, 0, none⟩) l :=
  Lies.reads h (flat_len Tray.enc 2 Tray.enc_len l) hn
theorem infoTray : (Tryz.prog.info? 48).map (fun i => (i.zero, i.size, i.bytes)) = some (some (.agg #[.int .i64 0, .int .i64 0]), 2, 16) := by kernel_rfl

theorem toTray_any (r : Tray) (w : World) : Calls Tryz.prog 40 #[r.val] w fun e w' => e = .returned r.val ∧ Below w.heap.size w w' := by
  go_enter Tryz.func40, Tryz.ntmps40
  go_wp2
  refine bodyPost_ret (v := r.val) (by simp [results, Tryz.results40, go_sem]) rfl ⟨rfl, ?_⟩
  go_grown
theorem eqTray_any (r r' : Tray) (w : World) : Calls Tryz.prog 52 #[r.val, r'.val] w fun e w' => e = .returned (.bool (decide (r = r'))) ∧ Below w.heap.size w w' := by
  obtain ⟨v0, v1⟩ := r
  obtain ⟨u0, u1⟩ := r'
  go_enter Tryz.func52, Tryz.ntmps52
  go_wp2
  all_goals (go_ret; refine ⟨by simp_all, ?_⟩; go_grown)

theorem szTrays_any (A : Option Addr) (n c : Nat) (k : Int) (w : World) (hn : n ≤ 9223372036854775807) (_hk : 0 ≤ k) (_hk' : k ≤ 1048576) :
    Calls Tryz.prog 21 #[.slice A n c, .int .i64 k] w fun e w' => e = .returned (.int .i64 (lessen k n)) ∧ w = w' := by
  go_enter Tryz.func21, Tryz.ntmps21
  go_wp2
  all_goals (go_ret; refine ⟨?_, rfl⟩; unfold lessen; first | (rw [if_neg (by omega)]; rfl) | (rw [if_pos (by omega)]; rfl))

set_option maxHeartbeats 1000000 in
theorem toTrays_any (A : Option Addr) (c : Nat) (l : List Tray) (w : World) (h : TraysR w w.heap.size A l) (hn : l.length ≤ 1048576) :
    Calls Tryz.prog 25 #[.slice A l.length c] w fun e w' => ∃ g, e = .returned (.slice (some ⟨g, 0, none⟩) l.length l.length) ∧ w.heap.size ≤ g ∧ Lies w' g 48 (l.flatMap Tray.enc) ∧ Below w.heap.size w w' := by
  have hmk := fun W => run_make_all (P := Tryz.prog) 33 48 _ 2 16 Tryz.underlying33 infoTray l.length (by omega) (by omega) W
  have hrd := h.el
  go_enter Tryz.func25, Tryz.ntmps25
  go_wp2
  go_loopw [4] (fun i wr => ∃ (k : Nat) (rest : List Value), k ≤ l.length ∧ i = .int .i64 k ∧ Below w.heap.size w wr ∧ Lies wr w.heap.size 48 ((l.take k).flatMap Tray.enc ++ rest) ∧ rest.length = (l.length - k) * 2) (fun i _ => l.length - (intOf i).toNat)
  case atStart =>
    refine ⟨0, _, Nat.zero_le _, rfl, (Below.refl _ _).alloc (Nat.le_refl _) _, by simpa using Lies.new w _ _, by simp [size_madeCells]⟩
  case round =>
    obtain ⟨k, rest, hk, rfl, hbel, hl, hlen⟩ := hrel
    by_cases hlt : k < l.length
    · obtain ⟨b, off, rfl, hb, hcell⟩ := hrd (by omega)
      have HL := Lib.hid hl; clear hl
      have HN := Lib.hid hlen; clear hlen
      obtain ⟨x, hxe⟩ : ∃ x, x = l[k] := ⟨_, rfl⟩
      obtain ⟨c0, c1⟩ := hcell k hlt
      obtain ⟨q, rfl⟩ : ∃ q : Since w.heap.size w, wr = q.val := ⟨⟨wr, hbel⟩, rfl⟩
      rw [← hxe] at c0 c1
      have HX := Lib.hid hxe; clear hxe
      clear hcell hrd hbel
      go_wp2_with (first
        | (go_at_call 40; refine (toTray_any x _).mono ?_; rintro e w1 ⟨rfl, hb1⟩)
        | (with_reducible refine wpList_store_next (op := ⟨none, .store 48 (.tmp 21) (.tmp 20), _, _, _, _⟩) rfl _ _ _ rfl Tray.enc 2 Tray.enc_len l k hlt rest HN w.heap.size 48 x.enc.toArray ?c1 ?c2 ?c3 ?c4 ?c5 ?c6 ?_; rotate_right; intro w2 old2 hl2 hn2 hg2))
      case c1 => rfl
      case c2 => rfl
      case c3 => rw [HX.out]; rfl
      case c4 => kernel_rfl
      case c5 => simp [Tray.enc, Value.oneCell']
      case c6 => exact HL.out.below hb1 HL.out.lt
      go_wp2
      go_roundw
      case rel => exact ⟨k + 1, old2, by omega, by go_num, (q.below.trans (hb1.mono q.size)).grown hg2 (Nat.le_trans q.size hb1.size) (by rintro _ ⟨⟩; exact Nat.le_refl _), hl2, hn2⟩
      case measure => simp [intOf]; omega
    · have hk' : k = l.length := by omega
      subst hk'
      go_wp2
      go_ret
      refine ⟨w.heap.size, rfl, Nat.le_refl _, ?_, hbel⟩
      have h0 : rest = [] := List.eq_nil_of_length_eq_zero (by omega)
      rw [h0, List.take_of_length_le (Nat.le_refl _), List.append_nil] at hl
      exact hl

def sameTrays (a b : List Tray) : Bool := decide (a = b)
def sameTrayFrom : List Tray → List Tray → Bool
  | [], [] => true
  | x :: a, y :: b => decide (x = y) && sameTrayFrom a b
  | _, _ => false
theorem sameTrayFrom_eq : ∀ a b : List Tray, sameTrayFrom a b = sameTrays a b
  | [], [] => by simp [sameTrayFrom, sameTrays]
  | [], _ :: _ => by simp [sameTrayFrom, sameTrays]
  | _ :: _, [] => by simp [sameTrayFrom, sameTrays]
  | x :: a, y :: b => by simp [sameTrayFrom, sameTrays, sameTrayFrom_eq a b, Bool.decide_and]

set_option maxHeartbeats 1000000 in
theorem eqTrays_any (A B : Option Addr) (c d : Nat) (l m : List Tray) (w : World) (hA : TraysR w w.heap.size A l) (hB : TraysR w w.heap.size B m) :
    Calls Tryz.prog 33 #[.slice A l.length c, .slice B m.length d] w fun e w' => e = .returned (.bool (sameTrays l m)) ∧ Below w.heap.size w w' := by
  have hlA := hA.big
  have hlB := hB.big
  have hrA := hA.el
  have hrB := hB.el
  by_cases hne : l.length = m.length
  · have hF : Hid (sameTrayFrom l m = sameTrays l m) := sameTrayFrom_eq l m
    have hbn : ((l.length : Int) != (m.length : Int)) = false := by simp [hne]
    have HE := Lib.hid hne; clear hne
    go_enter Tryz.func33, Tryz.ntmps33
    go_wp2
    go_loopw [5] (fun i wr => ∃ k : Nat, k ≤ l.length ∧ i = .int .i64 k ∧ (∃ q : Since w.heap.size w, wr = q.val) ∧ Hid (sameTrayFrom (l.drop k) (m.drop k) = sameTrays l m)) (fun i _ => l.length - (intOf i).toNat)
    case atStart => exact ⟨0, Nat.zero_le _, rfl, ⟨Since.start _ _, rfl⟩, hF⟩
    case round =>
      obtain ⟨k, hk, rfl, ⟨q, rfl⟩, HR⟩ := hrel
      by_cases hlt : k < l.length
      · have hlt' : k < m.length := by have := HE.out; omega
        obtain ⟨b, off, rfl, hb, hcell⟩ := hrA (by omega)
        obtain ⟨b', off', rfl, hb', hcell'⟩ := hrB (by omega)
        obtain ⟨c0, c1⟩ := hcell k hlt
        obtain ⟨d0, d1⟩ := hcell' k hlt'
        obtain ⟨x, hxe⟩ : ∃ x, x = l[k] := ⟨_, rfl⟩
        obtain ⟨y, hye⟩ : ∃ x, x = m[k] := ⟨_, rfl⟩
        rw [← hxe] at c0 c1
        rw [← hye] at d0 d1
        have HX := Lib.hid hxe; clear hxe
        have HY := Lib.hid hye; clear hye
        clear hcell hcell' hrA hrB
        have hstep : Hid (sameTrayFrom (l.drop k) (m.drop k) = (decide (x = y) && sameTrayFrom (l.drop (k + 1)) (m.drop (k + 1)))) := by
          rw [List.drop_eq_getElem_cons hlt, List.drop_eq_getElem_cons hlt', HX.out, HY.out]; rfl
        obtain ⟨v, hv⟩ : ∃ v, decide (x = y) = v := ⟨_, rfl⟩
        have HV := Lib.hid hv; clear hv
        cases v
        all_goals
          go_wp2
          refine wp_region_since _ (by kernel_rfl) (by kernel_rfl) ?_
          repeat (any_goals (first | go_big_quiet_step ((go_at_call 52; refine calls_sinceB HV (Nat.le_refl _) (eqTray_any x y _))) | (refine wpQuiet_step (fun K hK => ?_); go_simp; split <;> (refine hK _ ?_; clear hK K))))
          all_goals (refine wpQuiet_nil ?_; rintro _ ⟨q1, rfl⟩)
          all_goals go_wp2
        · go_ret
          refine ⟨?_, q1.below⟩
          rw [← HR.out, hstep.out, HV.out]; rfl
        · go_roundw
          case rel => exact ⟨k + 1, by omega, by go_num, ⟨q1, rfl⟩, by have h1 := HR.out; rw [hstep.out, HV.out] at h1; exact h1⟩
          case measure => simp [intOf]; omega
      · have hk' : k = l.length := by omega
        go_wp2
        go_ret
        refine ⟨?_, q.below⟩
        rw [← HR.out, List.drop_eq_nil_of_le (by omega), List.drop_eq_nil_of_le (by have := HE.out; omega)]; rfl
  · have hbn : ((l.length : Int) != (m.length : Int)) = true := by rw [bne_iff_ne]; omega
    have hF : Hid (sameTrays l m = false) := by
      unfold sameTrays; rw [decide_eq_false_iff_not]; intro h; exact hne (by rw [h])
    go_enter Tryz.func33, Tryz.ntmps33
    go_wp2
    go_ret
    exact ⟨by rw [hF.out]; rfl, Below.refl _ _⟩

end Go.Proofs.YtojceibamgodbaaGreatDoor

/- Outings: a struct of three ints; its helpers. (Printed by gen_struct.py) -/
namespace Go.Proofs.YtojceibamgodbaaGreatDoor
open Go.RowKit

structure Outing where
  k : Int
  p : Int
  c : Int
  deriving DecidableEq, Inhabited
def Outing.enc (r : Outing) : List Value := [.int .i64 r.k, .int .i64 r.p, .int .i64 r.c]
abbrev Outing.val (r : Outing) : Value := .agg #[.int .i64 r.k, .int .i64 r.p, .int .i64 r.c]
theorem Outing.enc_len (r : Outing) : r.enc.length = 3 := rfl
theorem Outing.of_ints_enc (ns : List Int) (h : ns.length = 3) : ∃ r : Outing, ns.map (Value.int .i64) = r.enc := by
  match ns, h with
  | [v0, v1, v2], _ => exact ⟨⟨v0, v1, v2⟩, rfl⟩
theorem Outing.of_ints (ns : List Int) (h : ns.length = 3) : ∃ r : Outing, Value.agg (ns.map (Value.int .i64)).toArray = r.val := by
  match ns, h with
  | [v0, v1, v2], _ => exact ⟨⟨v0, v1, v2⟩, rfl⟩
/-- It lies at a place, in every world since. -/
structure OutingS (B : Nat) (w : World) (b o : Nat) (r : Outing) : Prop where
  c0 : ∀ p : Since B w, p.val.cell? ⟨b, o, none⟩ = some (.int .i64 r.k)
  c1 : ∀ p : Since B w, p.val.cell? ⟨b, o + 1, none⟩ = some (.int .i64 r.p)
  c2 : ∀ p : Since B w, p.val.cell? ⟨b, o + 2, none⟩ = some (.int .i64 r.c)
theorem OutingS.up {B B' : Nat} {w W : World} {b o : Nat} {r : Outing} (h : OutingS B w b o r) (hb : Below B w W) (hB : B ≤ B') : OutingS B' W b o r :=
  ⟨fun p => h.c0 ⟨p.val, hb.trans (p.below.mono hB)⟩, fun p => h.c1 ⟨p.val, hb.trans (p.below.mono hB)⟩, fun p => h.c2 ⟨p.val, hb.trans (p.below.mono hB)⟩⟩
theorem OutingS.of {W : World} {g : Nat} {t : TypeId} {r : Outing} (h : Lies W g t r.enc) : OutingS W.heap.size W g 0 r :=
  ⟨fun p => (p.cell h.lt).trans (h.cell 0), fun p => (p.cell h.lt).trans (h.cell 1), fun p => (p.cell h.lt).trans (h.cell 2)⟩
/-- A slice of them. -/
abbrev OutingsR (w : World) (B : Nat) (A : Option Addr) (l : List Outing) : Prop := SlcR w B 3 A l.length (l.flatMap Outing.enc)
theorem OutingsR.el {w : World} {B : Nat} {A : Option Addr} {l : List Outing} (h : OutingsR w B A l) (hne : 0 < l.length) : ∃ b off, A = some ⟨b, off, none⟩ ∧ b < B ∧ ∀ i (hi : i < l.length), OutingS B w b (off + i * 3) l[i] := by
  obtain ⟨b, off, e, hb, hc⟩ := h.at_ hne
  refine ⟨b, off, e, hb, fun i hi => ?_⟩
  have key : ∀ j, j < 3 → ∀ u, (l[i].enc)[j]? = some u → ∀ p : Since B w, p.val.cell? ⟨b, off + i * 3 + j, none⟩ = some u := fun j hj u hu p => by
    rw [p.cell hb, Nat.add_assoc]
    exact hc _ u (by rw [flat_at Outing.enc 3 Outing.enc_len l i hi j hj]; exact hu)
  exact ⟨key 0 (by omega) _ rfl, key 1 (by omega) _ rfl, key 2 (by omega) _ rfl⟩
theorem lies_outings {W : World} {g : Nat} {t : TypeId} {l : List Outing} (h : Lies W g t (l.flatMap Outing.enc)) (hn : l.length ≤ 9223372036854775807) : OutingsR W W.heap.size (some ⟨g, 0, none⟩) l :=
  Lies.reads h (flat_len Outing.enc 3 Outing.enc_len l) hn
theorem infoOuting : (Tryz.prog.info? 60).map (fun i => (i.zero, i.size, i.bytes)) = some (some (.agg #[.int .i64 0, .int .i64 0, .int .i64 0]), 3, 24) := by kernel_rfl

theorem toOuting_any (r : Outing) (w : World) : Calls Tryz.prog 41 #[r.val] w fun e w' => e = .returned r.val ∧ Below w.heap.size w w' := by
  go_enter Tryz.func41, Tryz.ntmps41
  go_wp2
  refine bodyPost_ret (v := r.val) (by simp [results, Tryz.results41, go_sem]) rfl ⟨rfl, ?_⟩
  go_grown
theorem eqOuting_any (r r' : Outing) (w : World) : Calls Tryz.prog 53 #[r.val, r'.val] w fun e w' => e = .returned (.bool (decide (r = r'))) ∧ Below w.heap.size w w' := by
  obtain ⟨v0, v1, v2⟩ := r
  obtain ⟨u0, u1, u2⟩ := r'
  go_enter Tryz.func53, Tryz.ntmps53
  go_wp2
  all_goals (go_ret; refine ⟨by simp_all, ?_⟩; go_grown)

theorem szOutings_any (A : Option Addr) (n c : Nat) (k : Int) (w : World) (hn : n ≤ 9223372036854775807) (_hk : 0 ≤ k) (_hk' : k ≤ 1048576) :
    Calls Tryz.prog 22 #[.slice A n c, .int .i64 k] w fun e w' => e = .returned (.int .i64 (lessen k n)) ∧ w = w' := by
  go_enter Tryz.func22, Tryz.ntmps22
  go_wp2
  all_goals (go_ret; refine ⟨?_, rfl⟩; unfold lessen; first | (rw [if_neg (by omega)]; rfl) | (rw [if_pos (by omega)]; rfl))

set_option maxHeartbeats 1000000 in
theorem toOutings_any (A : Option Addr) (c : Nat) (l : List Outing) (w : World) (h : OutingsR w w.heap.size A l) (hn : l.length ≤ 1048576) :
    Calls Tryz.prog 26 #[.slice A l.length c] w fun e w' => ∃ g, e = .returned (.slice (some ⟨g, 0, none⟩) l.length l.length) ∧ w.heap.size ≤ g ∧ Lies w' g 60 (l.flatMap Outing.enc) ∧ Below w.heap.size w w' := by
  have hmk := fun W => run_make_all (P := Tryz.prog) 34 60 _ 3 24 Tryz.underlying34 infoOuting l.length (by omega) (by omega) W
  have hrd := h.el
  go_enter Tryz.func26, Tryz.ntmps26
  go_wp2
  go_loopw [4] (fun i wr => ∃ (k : Nat) (rest : List Value), k ≤ l.length ∧ i = .int .i64 k ∧ Below w.heap.size w wr ∧ Lies wr w.heap.size 60 ((l.take k).flatMap Outing.enc ++ rest) ∧ rest.length = (l.length - k) * 3) (fun i _ => l.length - (intOf i).toNat)
  case atStart =>
    refine ⟨0, _, Nat.zero_le _, rfl, (Below.refl _ _).alloc (Nat.le_refl _) _, by simpa using Lies.new w _ _, by simp [size_madeCells]⟩
  case round =>
    obtain ⟨k, rest, hk, rfl, hbel, hl, hlen⟩ := hrel
    by_cases hlt : k < l.length
    · obtain ⟨b, off, rfl, hb, hcell⟩ := hrd (by omega)
      have HL := Lib.hid hl; clear hl
      have HN := Lib.hid hlen; clear hlen
      obtain ⟨x, hxe⟩ : ∃ x, x = l[k] := ⟨_, rfl⟩
      obtain ⟨c0, c1, c2⟩ := hcell k hlt
      obtain ⟨q, rfl⟩ : ∃ q : Since w.heap.size w, wr = q.val := ⟨⟨wr, hbel⟩, rfl⟩
      rw [← hxe] at c0 c1 c2
      have HX := Lib.hid hxe; clear hxe
      clear hcell hrd hbel
      go_wp2_with (first
        | (go_at_call 41; refine (toOuting_any x _).mono ?_; rintro e w1 ⟨rfl, hb1⟩)
        | (with_reducible refine wpList_store_next (op := ⟨none, .store 60 (.tmp 21) (.tmp 20), _, _, _, _⟩) rfl _ _ _ rfl Outing.enc 3 Outing.enc_len l k hlt rest HN w.heap.size 60 x.enc.toArray ?c1 ?c2 ?c3 ?c4 ?c5 ?c6 ?_; rotate_right; intro w2 old2 hl2 hn2 hg2))
      case c1 => rfl
      case c2 => rfl
      case c3 => rw [HX.out]; rfl
      case c4 => kernel_rfl
      case c5 => simp [Outing.enc, Value.oneCell']
      case c6 => exact HL.out.below hb1 HL.out.lt
      go_wp2
      go_roundw
      case rel => exact ⟨k + 1, old2, by omega, by go_num, (q.below.trans (hb1.mono q.size)).grown hg2 (Nat.le_trans q.size hb1.size) (by rintro _ ⟨⟩; exact Nat.le_refl _), hl2, hn2⟩
      case measure => simp [intOf]; omega
    · have hk' : k = l.length := by omega
      subst hk'
      go_wp2
      go_ret
      refine ⟨w.heap.size, rfl, Nat.le_refl _, ?_, hbel⟩
      have h0 : rest = [] := List.eq_nil_of_length_eq_zero (by omega)
      rw [h0, List.take_of_length_le (Nat.le_refl _), List.append_nil] at hl
      exact hl

def sameOutings (a b : List Outing) : Bool := decide (a = b)
def sameOutingFrom : List Outing → List Outing → Bool
  | [], [] => true
  | x :: a, y :: b => decide (x = y) && sameOutingFrom a b
  | _, _ => false
theorem sameOutingFrom_eq : ∀ a b : List Outing, sameOutingFrom a b = sameOutings a b
  | [], [] => by simp [sameOutingFrom, sameOutings]
  | [], _ :: _ => by simp [sameOutingFrom, sameOutings]
  | _ :: _, [] => by simp [sameOutingFrom, sameOutings]
  | x :: a, y :: b => by simp [sameOutingFrom, sameOutings, sameOutingFrom_eq a b, Bool.decide_and]

set_option maxHeartbeats 1000000 in
theorem eqOutings_any (A B : Option Addr) (c d : Nat) (l m : List Outing) (w : World) (hA : OutingsR w w.heap.size A l) (hB : OutingsR w w.heap.size B m) :
    Calls Tryz.prog 34 #[.slice A l.length c, .slice B m.length d] w fun e w' => e = .returned (.bool (sameOutings l m)) ∧ Below w.heap.size w w' := by
  have hlA := hA.big
  have hlB := hB.big
  have hrA := hA.el
  have hrB := hB.el
  by_cases hne : l.length = m.length
  · have hF : Hid (sameOutingFrom l m = sameOutings l m) := sameOutingFrom_eq l m
    have hbn : ((l.length : Int) != (m.length : Int)) = false := by simp [hne]
    have HE := Lib.hid hne; clear hne
    go_enter Tryz.func34, Tryz.ntmps34
    go_wp2
    go_loopw [5] (fun i wr => ∃ k : Nat, k ≤ l.length ∧ i = .int .i64 k ∧ (∃ q : Since w.heap.size w, wr = q.val) ∧ Hid (sameOutingFrom (l.drop k) (m.drop k) = sameOutings l m)) (fun i _ => l.length - (intOf i).toNat)
    case atStart => exact ⟨0, Nat.zero_le _, rfl, ⟨Since.start _ _, rfl⟩, hF⟩
    case round =>
      obtain ⟨k, hk, rfl, ⟨q, rfl⟩, HR⟩ := hrel
      by_cases hlt : k < l.length
      · have hlt' : k < m.length := by have := HE.out; omega
        obtain ⟨b, off, rfl, hb, hcell⟩ := hrA (by omega)
        obtain ⟨b', off', rfl, hb', hcell'⟩ := hrB (by omega)
        obtain ⟨c0, c1, c2⟩ := hcell k hlt
        obtain ⟨d0, d1, d2⟩ := hcell' k hlt'
        obtain ⟨x, hxe⟩ : ∃ x, x = l[k] := ⟨_, rfl⟩
        obtain ⟨y, hye⟩ : ∃ x, x = m[k] := ⟨_, rfl⟩
        rw [← hxe] at c0 c1 c2
        rw [← hye] at d0 d1 d2
        have HX := Lib.hid hxe; clear hxe
        have HY := Lib.hid hye; clear hye
        clear hcell hcell' hrA hrB
        have hstep : Hid (sameOutingFrom (l.drop k) (m.drop k) = (decide (x = y) && sameOutingFrom (l.drop (k + 1)) (m.drop (k + 1)))) := by
          rw [List.drop_eq_getElem_cons hlt, List.drop_eq_getElem_cons hlt', HX.out, HY.out]; rfl
        obtain ⟨v, hv⟩ : ∃ v, decide (x = y) = v := ⟨_, rfl⟩
        have HV := Lib.hid hv; clear hv
        cases v
        all_goals
          go_wp2
          refine wp_region_since _ (by kernel_rfl) (by kernel_rfl) ?_
          repeat (any_goals (first | go_big_quiet_step ((go_at_call 53; refine calls_sinceB HV (Nat.le_refl _) (eqOuting_any x y _))) | (refine wpQuiet_step (fun K hK => ?_); go_simp; split <;> (refine hK _ ?_; clear hK K))))
          all_goals (refine wpQuiet_nil ?_; rintro _ ⟨q1, rfl⟩)
          all_goals go_wp2
        · go_ret
          refine ⟨?_, q1.below⟩
          rw [← HR.out, hstep.out, HV.out]; rfl
        · go_roundw
          case rel => exact ⟨k + 1, by omega, by go_num, ⟨q1, rfl⟩, by have h1 := HR.out; rw [hstep.out, HV.out] at h1; exact h1⟩
          case measure => simp [intOf]; omega
      · have hk' : k = l.length := by omega
        go_wp2
        go_ret
        refine ⟨?_, q.below⟩
        rw [← HR.out, List.drop_eq_nil_of_le (by omega), List.drop_eq_nil_of_le (by have := HE.out; omega)]; rfl
  · have hbn : ((l.length : Int) != (m.length : Int)) = true := by rw [bne_iff_ne]; omega
    have hF : Hid (sameOutings l m = false) := by
      unfold sameOutings; rw [decide_eq_false_iff_not]; intro h; exact hne (by rw [h])
    go_enter Tryz.func34, Tryz.ntmps34
    go_wp2
    go_ret
    exact ⟨by rw [hF.out]; rfl, Below.refl _ _⟩

end Go.Proofs.YtojceibamgodbaaGreatDoor

/- Offices: what they hold, when they are valid, sums (no program's function in sight). -/
namespace Go.Proofs.YtojceibamgodbaaGreatDoor
open Go.RowKit

structure Off where
  TA : Option Addr
  t : List Tray
  tc : Nat
  OA : Option Addr
  o : List Outing
  oc : Nat
  got : Int
  sold : Int
  missed : Int
def Off.enc (x : Off) : List Value := [.slice x.TA x.t.length x.tc, .slice x.OA x.o.length x.oc, .int .i64 x.got, .int .i64 x.sold, .int .i64 x.missed]
abbrev Off.val (x : Off) : Value := .agg #[.slice x.TA x.t.length x.tc, .slice x.OA x.o.length x.oc, .int .i64 x.got, .int .i64 x.sold, .int .i64 x.missed]
theorem Off.enc_len (x : Off) : x.enc.length = 5 := rfl
/-- Its slices read. -/
structure OffR (w : World) (B : Nat) (x : Off) : Prop where
  ts : TraysR w B x.TA x.t
  os : OutingsR w B x.OA x.o
section
variable {w w' : World} {B : Nat} {x : Off}
theorem OffR.below (h : OffR w B x) (hb : Below B w w') : OffR w' B x := ⟨SlcR.below h.ts hb, SlcR.below h.os hb⟩
theorem OffR.mono {B' : Nat} (h : OffR w B x) (hB : B ≤ B') : OffR w B' x := ⟨SlcR.mono h.ts hB, SlcR.mono h.os hB⟩
theorem OffR.up (h : OffR w B x) (hb : Below B w w') (hB : B ≤ w.heap.size) : OffR w' w'.heap.size x := ⟨SlcR.up h.ts hb hB, SlcR.up h.os hb hB⟩
theorem OffR.then (h : OffR w w.heap.size x) (hb : Below w.heap.size w w') : OffR w' w'.heap.size x := h.up hb (Nat.le_refl _)
end

def Tray.ok (r : Tray) : Bool := inR r.k 1 99 && inR r.c 0 9999
theorem Tray.bounds {r : Tray} (h : r.ok = true) : (1 ≤ r.k ∧ r.k ≤ 99) ∧ 0 ≤ r.c ∧ r.c ≤ 9999 := by
  unfold Tray.ok at h; rw [Bool.and_eq_true, inR_iff, inR_iff] at h; exact h
/-- Trays from place n on, behind one of the kind p. -/
def traysFrom : Nat → Int → List Tray → Bool
  | _, _, [] => true
  | n, p, r :: l => r.ok && (decide (n = 0) || decide (p < r.k)) && traysFrom (n + 1) r.k l
def traysOk (l : List Tray) : Bool := traysFrom 0 0 l
theorem traysFrom_all : ∀ (l : List Tray) (n : Nat) (p : Int), traysFrom n p l = true → ∀ i (h : i < l.length), l[i].ok = true
  | r :: l, n, p, hg, i, hi => by
    simp only [traysFrom, Bool.and_eq_true] at hg
    cases i with
    | zero => exact hg.1.1
    | succ i => exact traysFrom_all l (n + 1) r.k hg.2 i (by simpa using hi)

/-- Whether there is a tray of a kind. -/
def hasTray (ts : List Tray) (k : Int) : Bool := ts.any fun t => decide (t.k = k)
def trayIx (ts : List Tray) (k : Int) : Int := idxFrom (fun t : Tray => decide (t.k = k)) 0 ts
theorem trayIx_has (ts : List Tray) (k : Int) : decide (0 ≤ trayIx ts k) = hasTray ts k := idxFrom_any _ ts 0
def Outing.ok (ts : List Tray) (r : Outing) : Bool := hasTray ts r.k && inR r.p 1 999 && inR r.c 1 9999
theorem Outing.bounds {ts : List Tray} {r : Outing} (h : r.ok ts = true) : hasTray ts r.k = true ∧ (1 ≤ r.p ∧ r.p ≤ 999) ∧ 1 ≤ r.c ∧ r.c ≤ 9999 := by
  unfold Outing.ok at h; rw [Bool.and_eq_true, Bool.and_eq_true, inR_iff, inR_iff] at h; exact ⟨h.1.1, h.1.2, h.2⟩
/-- One outing comes before another one. -/
def before (a b : Outing) : Bool := decide (a.k < b.k) || decide (a.k = b.k) && decide (a.p < b.p)
/-- Outings, behind the one p if there is one. -/
def outsFrom (ts : List Tray) : Option Outing → List Outing → Bool
  | _, [] => true
  | p, r :: l => r.ok ts && (match p with | none => true | some q => before q r) && outsFrom ts (some r) l
def outsOk (ts : List Tray) (l : List Outing) : Bool := outsFrom ts none l
theorem outsFrom_all (ts : List Tray) : ∀ (l : List Outing) (p : Option Outing), outsFrom ts p l = true → ∀ i (h : i < l.length), l[i].ok ts = true
  | r :: l, p, hg, i, hi => by
    simp only [outsFrom, Bool.and_eq_true] at hg
    cases i with
    | zero => exact hg.1.1
    | succ i => exact outsFrom_all ts l (some r) hg.2 i (by simpa using hi)
theorem hasTray_bounds {ts : List Tray} {k : Int} (hall : ∀ i (h : i < ts.length), ts[i].ok = true) (h : hasTray ts k = true) : 1 ≤ k ∧ k ≤ 99 := by
  unfold hasTray at h
  rw [List.any_eq_true] at h
  obtain ⟨t, ht, hk⟩ := h
  obtain ⟨i, hi, rfl⟩ := List.getElem_of_mem ht
  have := (Tray.bounds (hall i hi)).1
  have e := of_decide_eq_true hk
  omega
/-- The reference's key puts valid outings in the same order. -/
theorem before_key {a b : Outing} (ha : 1 ≤ a.p ∧ a.p ≤ 999) (hb : 1 ≤ b.p ∧ b.p ≤ 999) : before a b = decide (1000 * a.k + a.p < 1000 * b.k + b.p) := by
  unfold before
  by_cases h1 : a.k < b.k
  · rw [decide_eq_true h1, Bool.true_or]; exact (decide_eq_true (by omega)).symm
  · rw [decide_eq_false h1, Bool.false_or]
    by_cases h2 : a.k = b.k
    · rw [decide_eq_true h2, Bool.true_and]
      by_cases h3 : a.p < b.p
      · rw [decide_eq_true h3]; exact (decide_eq_true (by omega)).symm
      · rw [decide_eq_false h3]; exact (decide_eq_false (by omega)).symm
    · rw [decide_eq_false h2, Bool.false_and]; exact (decide_eq_false (by omega)).symm

def inFrom : Int → List Tray → Int
  | s, [] => s
  | s, r :: l => inFrom (s + r.c) l
def outFrom (f : Outing → Bool) : Int → List Outing → Int
  | s, [] => s
  | s, r :: l => outFrom f (if f r then s + r.c else s) l
def inSum (l : List Tray) : Int := inFrom 0 l
def outSum (f : Outing → Bool) (l : List Outing) : Int := outFrom f 0 l
abbrev every : Outing → Bool := fun _ => true
theorem in_step {l : List Tray} {k : Nat} (h : k < l.length) (s : Int) : inFrom s (l.drop k) = inFrom (s + l[k].c) (l.drop (k + 1)) := by
  rw [List.drop_eq_getElem_cons h]; rfl
theorem out_step {f : Outing → Bool} {l : List Outing} {k : Nat} (h : k < l.length) (s : Int) : outFrom f s (l.drop k) = outFrom f (if f l[k] then s + l[k].c else s) (l.drop (k + 1)) := by
  rw [List.drop_eq_getElem_cons h]; rfl
theorem inFrom_bd : ∀ (l : List Tray) (s : Int), (∀ i (h : i < l.length), l[i].ok = true) → s ≤ inFrom s l ∧ inFrom s l ≤ s + 9999 * l.length
  | [], s, _ => by simp [inFrom]
  | r :: l, s, h => by
    have hr := (Tray.bounds (h 0 (by simp))).2
    simp only [List.getElem_cons_zero] at hr
    have := inFrom_bd l (s + r.c) (fun i hi => by have := h (i + 1) (by simpa using hi); simpa using this)
    simp only [inFrom, List.length_cons]
    omega
theorem outFrom_bd (f : Outing → Bool) (ts : List Tray) : ∀ (l : List Outing) (s : Int), (∀ i (h : i < l.length), l[i].ok ts = true) → s ≤ outFrom f s l ∧ outFrom f s l ≤ s + 9999 * l.length
  | [], s, _ => by simp [outFrom]
  | r :: l, s, h => by
    have hr := (Outing.bounds (h 0 (by simp))).2.2
    simp only [List.getElem_cons_zero] at hr
    have := outFrom_bd f ts l (if f r then s + r.c else s) (fun i hi => by have := h (i + 1) (by simpa using hi); simpa using this)
    simp only [outFrom, List.length_cons]
    cases hf : f r <;> simp only [hf, if_true, if_false, Bool.false_eq_true] at this ⊢ <;> omega

def sizesOk (x : Off) : Bool := decide (x.t.length ≤ 8) && decide (x.o.length ≤ 8)
def numsOk (x : Off) : Bool := inR x.got 0 99999 && inR x.sold 0 99999 && inR x.missed 0 99999
def sumOk (x : Off) : Bool := decide (x.got = inSum x.t + outSum every x.o + x.sold + x.missed)
def goodOff (x : Off) : Bool := sizesOk x && numsOk x && traysOk x.t && outsOk x.t x.o && sumOk x
structure Good (x : Off) : Prop where
  tl : x.t.length ≤ 8
  ol : x.o.length ≤ 8
  g : 0 ≤ x.got ∧ x.got ≤ 99999
  s : 0 ≤ x.sold ∧ x.sold ≤ 99999
  m : 0 ≤ x.missed ∧ x.missed ≤ 99999
  ts : traysOk x.t = true
  os : outsOk x.t x.o = true
  sum : x.got = inSum x.t + outSum every x.o + x.sold + x.missed
theorem good_iff {x : Off} : goodOff x = true ↔ Good x := by
  unfold goodOff sizesOk numsOk sumOk
  simp only [Bool.and_eq_true, inR_iff, decide_eq_true_eq]
  constructor
  · rintro ⟨⟨⟨⟨⟨h1, h2⟩, ⟨h3, h4⟩, h5⟩, h6⟩, h7⟩, h8⟩
    exact ⟨h1, h2, h3, h4, h5, h6, h7, h8⟩
  · rintro ⟨h1, h2, h3, h4, h5, h6, h7, h8⟩
    exact ⟨⟨⟨⟨⟨h1, h2⟩, ⟨h3, h4⟩, h5⟩, h6⟩, h7⟩, h8⟩
theorem Good.tall {x : Off} (h : Good x) : ∀ i (hi : i < x.t.length), x.t[i].ok = true := traysFrom_all _ _ _ h.ts
theorem Good.oall {x : Off} (h : Good x) : ∀ i (hi : i < x.o.length), x.o[i].ok x.t = true := outsFrom_all _ _ _ h.os
end Go.Proofs.YtojceibamgodbaaGreatDoor

/- Offices: size, copy, equality. -/
namespace Go.Proofs.YtojceibamgodbaaGreatDoor
open Go.RowKit

/-- It lies at the head of a block, in every world since. -/
structure OffS (B : Nat) (w : World) (b : Nat) (x : Off) : Prop where
  c0 : ∀ p : Since B w, p.val.cell? ⟨b, 0, none⟩ = some (.slice x.TA x.t.length x.tc)
  c1 : ∀ p : Since B w, p.val.cell? ⟨b, 1, none⟩ = some (.slice x.OA x.o.length x.oc)
  c2 : ∀ p : Since B w, p.val.cell? ⟨b, 2, none⟩ = some (.int .i64 x.got)
  c3 : ∀ p : Since B w, p.val.cell? ⟨b, 3, none⟩ = some (.int .i64 x.sold)
  c4 : ∀ p : Since B w, p.val.cell? ⟨b, 4, none⟩ = some (.int .i64 x.missed)
theorem OffS.of {W : World} {g : Nat} {t : TypeId} {x : Off} (h : Lies W g t x.enc) : OffS W.heap.size W g x :=
  ⟨fun p => (p.cell h.lt).trans (h.cell 0), fun p => (p.cell h.lt).trans (h.cell 1), fun p => (p.cell h.lt).trans (h.cell 2), fun p => (p.cell h.lt).trans (h.cell 3), fun p => (p.cell h.lt).trans (h.cell 4)⟩
theorem OffR.at {W : World} {x : Off} (h : OffR W W.heap.size x) (q : Since W.heap.size W) : OffR q.val q.val.heap.size x := h.then q.below

theorem szOffice_any (x : Off) (k : Int) (w : World) (hn : x.t.length ≤ 9223372036854775807) (hm : x.o.length ≤ 9223372036854775807) (hk : 0 ≤ k) (hk' : k ≤ 1048576) :
    Calls Tryz.prog 9 #[x.val, .int .i64 k] w fun e w' => e = .returned (.int .i64 (lessen k (x.t.length + x.o.length))) ∧ Below w.heap.size w w' := by
  have hb0 := (Below.refl w.heap.size w).alloc (Nat.le_refl _) (.cells #[.slice x.TA x.t.length x.tc, .slice x.OA x.o.length x.oc, .int .i64 x.got, .int .i64 x.sold, .int .i64 x.missed] 25)
  have hc := fun W => szTrays_any x.TA x.t.length x.tc k W hn hk hk'
  by_cases hle : (x.t.length : Int) ≤ k
  · have he : lessen k x.t.length = k - x.t.length := by unfold lessen; rw [if_pos hle]
    have HE := Lib.hid (lessen_yes (b := x.o.length) hle)
    have hd := fun W => szOutings_any x.OA x.o.length x.oc (k - x.t.length) W hm (by omega) (by omega)
    rw [he] at hc
    by_cases hle2 : (x.o.length : Int) ≤ k - x.t.length
    · have he2 : lessen (k - x.t.length) x.o.length = k - x.t.length - x.o.length := by unfold lessen; rw [if_pos hle2]
      rw [he2] at hd
      have HE2 := Lib.hid he2
      clear he he2
      go_enter Tryz.func9, Tryz.ntmps9
      go_wp2_with fail
      refine (hc _).mono ?_
      rintro e w1 ⟨rfl, rfl⟩
      go_wp2_with fail
      refine (hd _).mono ?_
      rintro e w1 ⟨rfl, rfl⟩
      go_wp2
      go_ret
      exact ⟨by rw [HE.out, HE2.out]; rfl, hb0⟩
    · have he2 : lessen (k - x.t.length) x.o.length = -1 := by unfold lessen; rw [if_neg hle2]
      rw [he2] at hd
      have HE2 := Lib.hid he2
      clear he he2
      go_enter Tryz.func9, Tryz.ntmps9
      go_wp2_with fail
      refine (hc _).mono ?_
      rintro e w1 ⟨rfl, rfl⟩
      go_wp2_with fail
      refine (hd _).mono ?_
      rintro e w1 ⟨rfl, rfl⟩
      go_wp2
      go_ret
      exact ⟨by rw [HE.out, HE2.out]; rfl, hb0⟩
  · have he : lessen k x.t.length = -1 := by unfold lessen; rw [if_neg hle]
    have HE : Hid (lessen k (x.t.length + x.o.length) = -1) := lessen_no (by omega)
    rw [he] at hc
    clear he
    go_enter Tryz.func9, Tryz.ntmps9
    go_wp2_with fail
    refine (hc _).mono ?_
    rintro e w1 ⟨rfl, rfl⟩
    go_wp2
    go_ret
    exact ⟨by rw [HE.out]; rfl, hb0⟩

theorem Lies.new1 (w : World) (o : Obj) (t : TypeId) (cs : Array Value) : Lies ((w.alloc o).alloc (.cells cs t)) (w.heap.size + 1) t cs.toList := by
  have h := Lies.new (w.alloc o) t cs
  rwa [show (w.alloc o).heap.size = w.heap.size + 1 from Array.size_push _] at h
theorem Lies.new2 (w : World) (o o' : Obj) (t : TypeId) (cs : Array Value) : Lies (((w.alloc o).alloc o').alloc (.cells cs t)) (w.heap.size + 1 + 1) t cs.toList := by
  have h := Lies.new1 (w.alloc o) o' t cs
  rwa [show (w.alloc o).heap.size = w.heap.size + 1 from Array.size_push _] at h

set_option maxHeartbeats 1000000 in
theorem toOffice_any (x : Off) (w : World) (h : OffR w w.heap.size x) (hn : x.t.length ≤ 1048576) (hm : x.o.length ≤ 1048576) :
    Calls Tryz.prog 14 #[x.val] w fun e w' => ∃ g1 g2, e = .returned (Off.val { x with TA := some ⟨g1, 0, none⟩, tc := x.t.length, OA := some ⟨g2, 0, none⟩, oc := x.o.length }) ∧ w.heap.size ≤ g1 ∧ g1 < g2 ∧ Lies w' g1 48 (x.t.flatMap Tray.enc) ∧ Lies w' g2 60 (x.o.flatMap Outing.enc) ∧ Below w.heap.size w w' := by
  have L1 := ((Lies.new w 25 #[.slice x.TA x.t.length x.tc, .slice x.OA x.o.length x.oc, .int .i64 x.got, .int .i64 x.sold, .int .i64 x.missed]).alloc (.cells #[.slice none 0 0, .slice none 0 0, .int .i64 0, .int .i64 0, .int .i64 0] 36)).alloc (.cells #[.slice none 0 0, .slice none 0 0, .int .i64 0, .int .i64 0, .int .i64 0] 36)
  have L2 := (Lies.new1 w (.cells #[.slice x.TA x.t.length x.tc, .slice x.OA x.o.length x.oc, .int .i64 x.got, .int .i64 x.sold, .int .i64 x.missed] 25) 36 #[.slice none 0 0, .slice none 0 0, .int .i64 0, .int .i64 0, .int .i64 0]).alloc (.cells #[.slice none 0 0, .slice none 0 0, .int .i64 0, .int .i64 0, .int .i64 0] 36)
  have L3 := Lies.new2 w (.cells #[.slice x.TA x.t.length x.tc, .slice x.OA x.o.length x.oc, .int .i64 x.got, .int .i64 x.sold, .int .i64 x.missed] 25) (.cells #[.slice none 0 0, .slice none 0 0, .int .i64 0, .int .i64 0, .int .i64 0] 36) 36 #[.slice none 0 0, .slice none 0 0, .int .i64 0, .int .i64 0, .int .i64 0]
  have b1 := (Below.refl w.heap.size w).alloc (Nat.le_refl _) (.cells #[.slice x.TA x.t.length x.tc, .slice x.OA x.o.length x.oc, .int .i64 x.got, .int .i64 x.sold, .int .i64 x.missed] 25)
  have b2 := b1.alloc b1.size (.cells #[.slice none 0 0, .slice none 0 0, .int .i64 0, .int .i64 0, .int .i64 0] 36)
  have b3 := b2.alloc b2.size (.cells #[.slice none 0 0, .slice none 0 0, .int .i64 0, .int .i64 0, .int .i64 0] 36)
  clear b1 b2
  go_enter Tryz.func14, Tryz.ntmps14
  go_wp2_with fail
  generalize (((w.alloc (.cells #[.slice x.TA x.t.length x.tc, .slice x.OA x.o.length x.oc, .int .i64 x.got, .int .i64 x.sold, .int .i64 x.missed] 25)).alloc (.cells #[.slice none 0 0, .slice none 0 0, .int .i64 0, .int .i64 0, .int .i64 0] 36)).alloc (.cells #[.slice none 0 0, .slice none 0 0, .int .i64 0, .int .i64 0, .int .i64 0] 36)) = W3 at L1 L2 L3 b3 ⊢
  refine (toTrays_any x.TA x.tc x.t W3 (h.up b3 (Nat.le_refl _)).ts hn).mono ?_
  rintro e W4 ⟨g1, rfl, hg1, hL4, hb4⟩
  have hs1 := L1.lt
  have hs2 := L2.lt
  have hs3 := L3.lt
  have b4 := b3.trans (hb4.mono b3.size)
  have c1 := (L1.below hb4 L1.lt).cell 1
  have d0 := (L3.below hb4 L3.lt).cell 0
  have f0 := (L3.below hb4 L3.lt).frozen 0
  simp only [List.getElem?_cons_zero, List.getElem?_cons_succ] at c1 d0
  have M1 := (L1.below hb4 L1.lt).other (p := ⟨w.heap.size + 1 + 1, 0, none⟩) (by simp only; omega) (.slice (some ⟨g1, 0, none⟩) x.t.length x.t.length)
  have M2 := (L2.below hb4 L2.lt).other (p := ⟨w.heap.size + 1 + 1, 0, none⟩) (by simp only; omega) (.slice (some ⟨g1, 0, none⟩) x.t.length x.t.length)
  have M3 := (L3.below hb4 L3.lt).set 0 (.slice (some ⟨g1, 0, none⟩) x.t.length x.t.length)
  have M4 := hL4.other (p := ⟨w.heap.size + 1 + 1, 0, none⟩) (by simp only; omega) (.slice (some ⟨g1, 0, none⟩) x.t.length x.t.length)
  have b5 : Below w.heap.size w (W4.setCell ⟨w.heap.size + 1 + 1, 0, none⟩ (.slice (some ⟨g1, 0, none⟩) x.t.length x.t.length)) := b4.grown (grown_set (World.grownBy.refl W4 (some (w.heap.size + 1 + 1)))) b4.size (by rintro _ ⟨⟩; omega)
  have z5 : W4.heap.size ≤ (W4.setCell ⟨w.heap.size + 1 + 1, 0, none⟩ (.slice (some ⟨g1, 0, none⟩) x.t.length x.t.length)).heap.size := by simp [World.setCell]
  go_wp2_with fail
  clear c1 d0 f0
  generalize W4.setCell ⟨w.heap.size + 1 + 1, 0, none⟩ (.slice (some ⟨g1, 0, none⟩) x.t.length x.t.length) = W5 at M1 M2 M3 M4 b5 z5 ⊢
  refine (toOutings_any x.OA x.oc x.o W5 (h.up b5 (Nat.le_refl _)).os hm).mono ?_
  rintro e W6 ⟨g2, rfl, hg2, hL6, hb6⟩
  have b6 := b5.trans (hb6.mono b5.size)
  have t1 := M1.lt
  have t2 := M2.lt
  have t3 := M3.lt
  have t4 := M4.lt
  have N1 := M1.below hb6 M1.lt
  have N2 := M2.below hb6 M2.lt
  have N3 := M3.below hb6 M3.lt
  have N4 := M4.below hb6 M4.lt
  clear L1 L2 L3 M1 M2 M3 M4 hL4 h
  have c2 := N1.cell 2
  have c3 := N1.cell 3
  have c4 := N1.cell 4
  have d0 := N3.cell 0
  have d1 := N3.cell 1
  have d2 := N3.cell 2
  have d3 := N3.cell 3
  have d4 := N3.cell 4
  have e0 := N2.cell 0
  have e1 := N2.cell 1
  have e2 := N2.cell 2
  have e3 := N2.cell 3
  have e4 := N2.cell 4
  have f1 := N3.frozen 1
  have f2 := N3.frozen 2
  have f3 := N3.frozen 3
  have f4 := N3.frozen 4
  have k0 := N2.frozen 0
  have k1 := N2.frozen 1
  have k2 := N2.frozen 2
  have k3 := N2.frozen 3
  have k4 := N2.frozen 4
  simp only [List.set_cons_zero, List.getElem?_cons_zero, List.getElem?_cons_succ] at c2 c3 c4 d0 d1 d2 d3 d4 e0 e1 e2 e3 e4
  go_wp2
  refine bodyPost_ret (v := Off.val { x with TA := some ⟨g1, 0, none⟩, tc := x.t.length, OA := some ⟨g2, 0, none⟩, oc := x.o.length }) (by simp [results, Tryz.results14, go_sem, *]) rfl ⟨g1, g2, rfl, Nat.le_trans b3.size hg1, by omega, ?_, ?_, ?_⟩
  · exact ((((((((N4.other (by simp only; omega) _).other (by simp only; omega) _).other (by simp only; omega) _).other (by simp only; omega) _).other (by simp only; omega) _).other (by simp only; omega) _).other (by simp only; omega) _).other (by simp only; omega) _).other (by simp only; omega) _
  · exact ((((((((hL6.other (by simp only; omega) _).other (by simp only; omega) _).other (by simp only; omega) _).other (by simp only; omega) _).other (by simp only; omega) _).other (by simp only; omega) _).other (by simp only; omega) _).other (by simp only; omega) _).other (by simp only; omega) _
  · exact (b6.grown (grown_set (grown_set (grown_set (grown_set (World.grownBy.refl W6 (some (w.heap.size + 1 + 1))))))) b6.size (by rintro _ ⟨⟩; omega)).grown (grown_set (grown_set (grown_set (grown_set (grown_set (World.grownBy.refl _ (some (w.heap.size + 1)))))))) (by simpa using b6.size) (by rintro _ ⟨⟩; omega)

def Off.same (x y : Off) : Bool := sameTrays x.t y.t && sameOutings x.o y.o && decide (x.got = y.got) && decide (x.sold = y.sold) && decide (x.missed = y.missed)

set_option maxHeartbeats 1000000 in
theorem eqOffice_yes (x y : Off) (w : World) (hx : OffR w w.heap.size x) (hy : OffR w w.heap.size y) (ht : sameTrays x.t y.t = true) (ho : sameOutings x.o y.o = true) (hg : x.got = y.got) (hs : x.sold = y.sold) (hm : x.missed = y.missed) :
    Calls Tryz.prog 19 #[x.val, y.val] w fun e w' => e = .returned (.bool true) ∧ Below w.heap.size w w' := by
  have b1 := (Below.refl w.heap.size w).alloc (Nat.le_refl _) (.cells #[.slice x.TA x.t.length x.tc, .slice x.OA x.o.length x.oc, .int .i64 x.got, .int .i64 x.sold, .int .i64 x.missed] 36)
  have b2 := b1.alloc b1.size (.cells #[.slice y.TA y.t.length y.tc, .slice y.OA y.o.length y.oc, .int .i64 y.got, .int .i64 y.sold, .int .i64 y.missed] 36)
  have L1 := (Lies.new w 36 #[.slice x.TA x.t.length x.tc, .slice x.OA x.o.length x.oc, .int .i64 x.got, .int .i64 x.sold, .int .i64 x.missed]).alloc (.cells #[.slice y.TA y.t.length y.tc, .slice y.OA y.o.length y.oc, .int .i64 y.got, .int .i64 y.sold, .int .i64 y.missed] 36)
  have L2 := Lies.new1 w (.cells #[.slice x.TA x.t.length x.tc, .slice x.OA x.o.length x.oc, .int .i64 x.got, .int .i64 x.sold, .int .i64 x.missed] 36) 36 #[.slice y.TA y.t.length y.tc, .slice y.OA y.o.length y.oc, .int .i64 y.got, .int .i64 y.sold, .int .i64 y.missed]
  clear b1
  have n1 : (x.got != y.got) = false := by simp [hg]
  have n2 : (x.sold != y.sold) = false := by simp [hs]
  have n3 : (x.missed != y.missed) = false := by simp [hm]
  have HT := Lib.hid ht
  have HO := Lib.hid ho
  clear hg hs hm ht ho
  go_enter Tryz.func19, Tryz.ntmps19
  go_wp2_with fail
  generalize ((w.alloc (.cells #[.slice x.TA x.t.length x.tc, .slice x.OA x.o.length x.oc, .int .i64 x.got, .int .i64 x.sold, .int .i64 x.missed] 36)).alloc (.cells #[.slice y.TA y.t.length y.tc, .slice y.OA y.o.length y.oc, .int .i64 y.got, .int .i64 y.sold, .int .i64 y.missed] 36)) = W at b2 L1 L2 ⊢
  have hX := hx.up b2 (Nat.le_refl _)
  have hY := hy.up b2 (Nat.le_refl _)
  refine (eqTrays_any x.TA y.TA x.tc y.tc x.t y.t W hX.ts hY.ts).mono ?_
  rw [HT.out]
  rintro e w1 ⟨rfl, hb1⟩
  have c1 := (L1.below hb1 L1.lt).cell 1
  have d1 := (L2.below hb1 L2.lt).cell 1
  simp only [List.getElem?_cons_zero, List.getElem?_cons_succ] at c1 d1
  go_wp2_with fail
  refine (eqOutings_any x.OA y.OA x.oc y.oc x.o y.o _ (hX.then hb1).os (hY.then hb1).os).mono ?_
  rw [HO.out]
  rintro e w2 ⟨rfl, hb2⟩
  have k := bthen hb1 hb2
  clear c1 d1
  have c2 := (L1.below k L1.lt).cell 2
  have c3 := (L1.below k L1.lt).cell 3
  have c4 := (L1.below k L1.lt).cell 4
  have d2 := (L2.below k L2.lt).cell 2
  have d3 := (L2.below k L2.lt).cell 3
  have d4 := (L2.below k L2.lt).cell 4
  simp only [List.getElem?_cons_zero, List.getElem?_cons_succ] at c2 c3 c4 d2 d3 d4
  go_wp2
  go_ret
  exact ⟨rfl, bthen b2 k⟩
end Go.Proofs.YtojceibamgodbaaGreatDoor

/- Validity of an office, in the reference. -/
namespace Go.Proofs.YtojceibamgodbaaGreatDoor
open Go.RowKit

theorem trays_step {n : Nat} {p : Int} {l : List Tray} {k : Nat} (h : k < l.length) : traysFrom n p (l.drop k) = (l[k].ok && (decide (n = 0) || decide (p < l[k].k)) && traysFrom (n + 1) l[k].k (l.drop (k + 1))) := by
  rw [List.drop_eq_getElem_cons h]; rfl

set_option maxHeartbeats 2000000 in
theorem l32Trays_any (x : Off) (w : World) (h : OffR w w.heap.size x) :
    Calls Tryz.prog 35 #[x.val] w fun e w' => e = .returned (.bool (traysOk x.t && decide (x.t.length ≤ 8))) ∧ Below w.heap.size w w' := by
  have hl := h.ts.big
  go_enter Tryz.func35, Tryz.ntmps35
  go_wp2
  have hb0 := (Below.refl w.heap.size w).alloc (Nat.le_refl _) (.cells #[.slice x.TA x.t.length x.tc, .slice x.OA x.o.length x.oc, .int .i64 x.got, .int .i64 x.sold, .int .i64 x.missed] 36)
  have hS := OffS.of (x := x) (Lies.new w 36 #[.slice x.TA x.t.length x.tc, .slice x.OA x.o.length x.oc, .int .i64 x.got, .int .i64 x.sold, .int .i64 x.missed])
  have hR := h.up hb0 (Nat.le_refl _)
  generalize w.alloc (.cells #[.slice x.TA x.t.length x.tc, .slice x.OA x.o.length x.oc, .int .i64 x.got, .int .i64 x.sold, .int .i64 x.missed] 36) = W at hb0 hS hR ⊢
  have c0 := hS.c0
  have hrd := hR.ts.el
  go_loopw [3] (fun i wr => ∃ (k : Nat) (prev : Int), k ≤ x.t.length ∧ i = .int .i64 k ∧ (∃ q : Since W.heap.size W, wr = q.val) ∧ Hid (traysFrom k prev (x.t.drop k) = traysOk x.t) ∧ Hid (∀ (_hk : 0 < k) (h' : k - 1 < x.t.length), prev = x.t[k - 1].k)) (fun i _ => x.t.length - (intOf i).toNat)
  case atStart => exact ⟨0, 0, Nat.zero_le _, rfl, ⟨Since.start _ _, rfl⟩, rfl, fun h => absurd h (by omega)⟩
  case round =>
    obtain ⟨k, prev, hk, rfl, ⟨q, rfl⟩, HR, HP⟩ := hrel
    by_cases hlt : k < x.t.length
    · obtain ⟨b, off, hA, hb, hcell⟩ := hrd (by omega)
      obtain ⟨e0, e1⟩ := hcell k hlt
      have HC : Hid (0 < k → ∀ p : Since W.heap.size W, p.val.cell? ⟨b, off + (k - 1) * 2, none⟩ = some (.int .i64 prev)) := fun h p => by
        rw [HP.out h (by omega)]; exact (hcell (k - 1) (by omega)).c0 p
      have HS := Lib.hid (trays_step (n := k) (p := prev) hlt)
      obtain ⟨r, hre⟩ : ∃ r, r = x.t[k] := ⟨_, rfl⟩
      have HN : Hid (∀ (_hk : 0 < k + 1) (h' : k + 1 - 1 < x.t.length), r.k = x.t[k + 1 - 1].k) := fun _ h' => by rw [hre]; rfl
      rw [← hre] at e0 e1 HS
      simp only [hA] at c0
      clear hre hcell hrd hA
      go_wp2
      have hbV := q.below.alloc q.size (.cells #[.int .i64 r.k, .int .i64 r.c] 48)
      have hlV := Lies.new q.val 48 #[.int .i64 r.k, .int .i64 r.c]
      generalize q.val.alloc (.cells #[.int .i64 r.k, .int .i64 r.c] 48) = V at hbV hlV ⊢
      generalize q.val.heap.size = gv at hlV ⊢
      obtain ⟨d0, d1⟩ := TrayS.of (r := r) hlV
      have c0' : ∀ p : Since V.heap.size V, p.val.cell? ⟨w.heap.size, 0, none⟩ = some (.slice (some ⟨b, off, none⟩) x.t.length x.tc) := fun p => c0 ⟨p.val, hbV.trans (p.below.mono hbV.size)⟩
      have HOK : Hid (r.ok = (inR r.k 1 99 && inR r.c 0 9999)) := rfl
      clear e0 e1 c0
      obtain ⟨v1, hv1⟩ : ∃ v, inR r.k 1 99 = v := ⟨_, rfl⟩
      obtain ⟨v2, hv2⟩ : ∃ v, inR r.c 0 9999 = v := ⟨_, rfl⟩
      rw [hv1, hv2] at HOK
      have HV1 := Lib.hid hv1; clear hv1
      have HV2 := Lib.hid hv2; clear hv2
      rcases Nat.eq_zero_or_pos k with h0 | h0
      · have hd : decide (0 < k) = false := decide_eq_false (by omega)
        have H0 := Lib.hid h0; clear h0
        cases v1
        · refine wp_region_since0 (by kernel_rfl) (by kernel_rfl) ?_
          repeat (any_goals (first | go_big_quiet_step ((go_at_call 54; with_reducible refine calls_sameB HV1 (l1In_any r.k 1 99 _))) | (refine wpQuiet_step (fun K hK => ?_); go_simp; split <;> (refine hK _ ?_; clear hK K))))
          all_goals (refine wpQuiet_nil ?_; rintro _ ⟨q1, rfl⟩)
          all_goals have hb1 := hb0.trans ((hbV.trans (q1.below.mono hbV.size)).mono hb0.size)
          all_goals go_wp2
          go_ret
          refine ⟨?_, hb1⟩
          rw [← HR.out, HS.out, HOK.out]; rfl
        · cases v2
          all_goals
            refine wp_region_since0 (by kernel_rfl) (by kernel_rfl) ?_
            repeat (any_goals (first | go_big_quiet_step ((first | (go_at_call 54; with_reducible refine calls_sameB HV1 (l1In_any r.k 1 99 _)) | (go_at_call 54; with_reducible refine calls_sameB HV2 (l1In_any r.c 0 9999 _)))) | (refine wpQuiet_step (fun K hK => ?_); go_simp; split <;> (refine hK _ ?_; clear hK K))))
            all_goals (refine wpQuiet_nil ?_; rintro _ ⟨q1, rfl⟩)
            all_goals have hb1 := hb0.trans ((hbV.trans (q1.below.mono hbV.size)).mono hb0.size)
            all_goals go_wp2
          · go_ret
            refine ⟨?_, hb1⟩
            rw [← HR.out, HS.out, HOK.out]; rfl
          · go_roundw
            case rel => exact ⟨k + 1, r.k, by omega, by go_num, ⟨⟨_, hbV.trans (q1.below.mono hbV.size)⟩, rfl⟩, by have h1 := HR.out; rw [HS.out, HOK.out, decide_eq_true H0.out] at h1; exact h1, HN⟩
            case measure => simp [intOf]; omega
      · have c5 : ∀ p : Since V.heap.size V, p.val.cell? ⟨b, off + (k - 1) * 2, none⟩ = some (.int .i64 prev) := fun p => HC.out h0 ⟨p.val, hbV.trans (p.below.mono hbV.size)⟩
        have h0' : (0 : Int) < (k : Int) := by omega
        cases v1
        · refine wp_region_since0 (by kernel_rfl) (by kernel_rfl) ?_
          repeat (any_goals (first | go_big_quiet_step ((go_at_call 54; with_reducible refine calls_sameB HV1 (l1In_any r.k 1 99 _))) | (refine wpQuiet_step (fun K hK => ?_); go_simp; split <;> (refine hK _ ?_; clear hK K))))
          all_goals (refine wpQuiet_nil ?_; rintro _ ⟨q1, rfl⟩)
          all_goals have hb1 := hb0.trans ((hbV.trans (q1.below.mono hbV.size)).mono hb0.size)
          all_goals go_wp2
          go_ret
          refine ⟨?_, hb1⟩
          rw [← HR.out, HS.out, HOK.out]; rfl
        · cases v2
          all_goals
            refine wp_region_since0 (by kernel_rfl) (by kernel_rfl) ?_
            repeat (any_goals (first | go_big_quiet_step ((first | (go_at_call 54; with_reducible refine calls_sameB HV1 (l1In_any r.k 1 99 _)) | (go_at_call 54; with_reducible refine calls_sameB HV2 (l1In_any r.c 0 9999 _)))) | (refine wpQuiet_step (fun K hK => ?_); go_simp; split <;> (refine hK _ ?_; clear hK K))))
            all_goals (refine wpQuiet_nil ?_; rintro _ ⟨q1, rfl⟩)
            all_goals have hb1 := hb0.trans ((hbV.trans (q1.below.mono hbV.size)).mono hb0.size)
            all_goals go_wp2
          · go_ret
            refine ⟨?_, hb1⟩
            rw [← HR.out, HS.out, HOK.out]; rfl
          · go_ret
            refine ⟨?_, hb1⟩
            have hm : r.k ≤ prev := by assumption
            rw [← HR.out, HS.out, HOK.out, decide_eq_false (by omega : ¬ k = 0), decide_eq_false (by omega : ¬ prev < r.k)]; rfl
          · have hm : prev < r.k := by assumption
            go_roundw
            case rel => exact ⟨k + 1, r.k, by omega, by go_num, ⟨⟨_, hbV.trans (q1.below.mono hbV.size)⟩, rfl⟩, by have h1 := HR.out; rw [HS.out, HOK.out, decide_eq_true hm, Bool.or_true] at h1; exact h1, HN⟩
            case measure => simp [intOf]; omega
    · have HK : Hid (traysOk x.t = true) := by
        have h1 := HR.out
        rw [List.drop_eq_nil_of_le (by omega)] at h1; exact h1.symm
      clear hrd
      go_wp2
      go_ret
      refine ⟨?_, hb0.trans (q.below.mono hb0.size)⟩
      rw [HK.out, Bool.true_and]
      exact congrArg (fun b => Ending.returned (.bool b)) (decide_eq_decide.2 (by omega))
end Go.Proofs.YtojceibamgodbaaGreatDoor

/- Validity of an office, in the reference: the outings. -/
namespace Go.Proofs.YtojceibamgodbaaGreatDoor
open Go.RowKit

theorem calls_sinceE {P : Program} {f : FuncId} {args : Array Value} {B : Nat} {w : World} {q : Since B w} {v v' : Value} (hv : Hid (v = v')) (hB : B ≤ w.heap.size)
    (h : Calls P f args q.val fun e w' => e = .returned v ∧ Below q.val.heap.size q.val w') : Calls P f args q.val fun e w' => e = .returned v' ∧ ∃ q' : Since B w, w' = q'.val := by
  have := hv.out; subst this; exact calls_since hB h

set_option maxHeartbeats 1000000 in
theorem l32Tray_any (x : Off) (kd : Int) (w : World) (h : OffR w w.heap.size x) :
    Calls Tryz.prog 55 #[x.val, .int .i64 kd] w fun e w' => e = .returned (.int .i64 (trayIx x.t kd)) ∧ Below w.heap.size w w' := by
  have hl := h.ts.big
  have HF : Hid (idxFrom (fun t : Tray => decide (t.k = kd)) 0 (x.t.drop 0) = trayIx x.t kd) := rfl
  go_enter Tryz.func55, Tryz.ntmps55
  go_wp2
  have hb0 := (Below.refl w.heap.size w).alloc (Nat.le_refl _) (.cells #[.slice x.TA x.t.length x.tc, .slice x.OA x.o.length x.oc, .int .i64 x.got, .int .i64 x.sold, .int .i64 x.missed] 36)
  have hS := OffS.of (x := x) (Lies.new w 36 #[.slice x.TA x.t.length x.tc, .slice x.OA x.o.length x.oc, .int .i64 x.got, .int .i64 x.sold, .int .i64 x.missed])
  have hR := h.up hb0 (Nat.le_refl _)
  generalize w.alloc (.cells #[.slice x.TA x.t.length x.tc, .slice x.OA x.o.length x.oc, .int .i64 x.got, .int .i64 x.sold, .int .i64 x.missed] 36) = W at hb0 hS hR ⊢
  have c0 := hS.c0
  have hrd := hR.ts.el
  go_loopw [5] (fun i wr => ∃ (k : Nat), k ≤ x.t.length ∧ i = .int .i64 k ∧ (∃ q : Since W.heap.size W, wr = q.val) ∧ Hid (idxFrom (fun t : Tray => decide (t.k = kd)) k (x.t.drop k) = trayIx x.t kd)) (fun i _ => x.t.length - (intOf i).toNat)
  case atStart => exact ⟨0, Nat.zero_le _, rfl, ⟨Since.start _ _, rfl⟩, HF⟩
  case round =>
    obtain ⟨k, hk, rfl, ⟨q, rfl⟩, HR⟩ := hrel
    by_cases hlt : k < x.t.length
    · obtain ⟨b, off, hA, hb, hcell⟩ := hrd (by omega)
      obtain ⟨e0, e1⟩ := hcell k hlt
      have hy := fun hv => idx_yes (f := fun t : Tray => decide (t.k = kd)) hlt hv
      have hn := fun hv => idx_no (f := fun t : Tray => decide (t.k = kd)) hlt hv
      obtain ⟨r, hre⟩ : ∃ r, r = x.t[k] := ⟨_, rfl⟩
      rw [← hre] at e0 e1 hy hn
      simp only [hA] at c0
      clear hre hcell hrd hA
      by_cases hz : r.k = kd
      · have HE : Hid ((k : Int) = trayIx x.t kd) := by rw [← hy (decide_eq_true hz)]; exact HR.out
        have hv : (r.k == kd) = true := by simp [hz]
        clear hy hn hz
        go_wp2
        go_ret
        exact ⟨by rw [← HE.out]; rfl, hb0.trans (q.below.mono hb0.size)⟩
      · have HE : Hid (idxFrom (fun t : Tray => decide (t.k = kd)) (k + 1) (x.t.drop (k + 1)) = trayIx x.t kd) := by rw [← hn (decide_eq_false hz)]; exact HR.out
        have hv : (r.k == kd) = false := by simp [hz]
        clear hy hn hz
        go_wp2
        go_roundw
        case rel => exact ⟨k + 1, by omega, by go_num, ⟨q, rfl⟩, HE⟩
        case measure => simp [intOf]; omega
    · have HE : Hid (-1 = trayIx x.t kd) := by
        have h1 := HR.out; rw [List.drop_eq_nil_of_le (by omega)] at h1; exact h1
      clear hrd
      go_wp2
      go_ret
      exact ⟨by rw [← HE.out]; rfl, hb0.trans (q.below.mono hb0.size)⟩

theorem l32Key_any (r : Outing) (w : World) (h1 : 1 ≤ r.k ∧ r.k ≤ 99) (h2 : 1 ≤ r.p ∧ r.p ≤ 999) :
    Calls Tryz.prog 56 #[r.val] w fun e w' => e = .returned (.int .i64 (1000 * r.k + r.p)) ∧ Below w.heap.size w w' := by
  obtain ⟨a1, a2⟩ := h1
  obtain ⟨b1, b2⟩ := h2
  have m : IntKind.i64.wrap (1000 * r.k) = 1000 * r.k := IntWalk.i64_in _ (by omega)
  have s : IntKind.i64.wrap (1000 * r.k + r.p) = 1000 * r.k + r.p := IntWalk.i64_in _ (by omega)
  go_enter Tryz.func56, Tryz.ntmps56
  go_wp2
  first
    | (go_ret; exact ⟨rfl, (Below.refl _ _).alloc (Nat.le_refl _) _⟩)
    | (go_quiet (fail); go_wp2; go_ret; exact ⟨rfl, by go_grown⟩)

theorem outs_step {ts : List Tray} {p : Option Outing} {l : List Outing} {k : Nat} (h : k < l.length) : outsFrom ts p (l.drop k) = (l[k].ok ts && (match p with | none => true | some q => before q l[k]) && outsFrom ts (some l[k]) (l.drop (k + 1))) := by
  rw [List.drop_eq_getElem_cons h]; rfl
end Go.Proofs.YtojceibamgodbaaGreatDoor

/- Validity of an office, in the reference: all outings. -/
namespace Go.Proofs.YtojceibamgodbaaGreatDoor
open Go.RowKit

set_option maxHeartbeats 2000000 in
theorem l32Outs_any (x : Off) (w : World) (h : OffR w w.heap.size x) (hall : ∀ i (hi : i < x.t.length), x.t[i].ok = true) :
    Calls Tryz.prog 36 #[x.val] w fun e w' => e = .returned (.bool (outsOk x.t x.o && decide (x.o.length ≤ 8))) ∧ Below w.heap.size w w' := by
  have hl := h.os.big
  have HALL := Lib.hid hall; clear hall
  go_enter Tryz.func36, Tryz.ntmps36
  go_wp2
  have hb0 := (Below.refl w.heap.size w).alloc (Nat.le_refl _) (.cells #[.slice x.TA x.t.length x.tc, .slice x.OA x.o.length x.oc, .int .i64 x.got, .int .i64 x.sold, .int .i64 x.missed] 36)
  have hS := OffS.of (x := x) (Lies.new w 36 #[.slice x.TA x.t.length x.tc, .slice x.OA x.o.length x.oc, .int .i64 x.got, .int .i64 x.sold, .int .i64 x.missed])
  have hR := h.up hb0 (Nat.le_refl _)
  generalize w.alloc (.cells #[.slice x.TA x.t.length x.tc, .slice x.OA x.o.length x.oc, .int .i64 x.got, .int .i64 x.sold, .int .i64 x.missed] 36) = W at hb0 hS hR ⊢
  have hrd := hR.os.el
  go_loopw [3] (fun i wr => ∃ (k : Nat) (prev : Option Outing), k ≤ x.o.length ∧ i = .int .i64 k ∧ (∃ q : Since W.heap.size W, wr = q.val) ∧ Hid (outsFrom x.t prev (x.o.drop k) = outsOk x.t x.o) ∧ Hid ((k = 0 → prev = none) ∧ ∀ (_hk : 0 < k) (h' : k - 1 < x.o.length), prev = some x.o[k - 1] ∧ x.o[k - 1].ok x.t = true)) (fun i _ => x.o.length - (intOf i).toNat)
  case atStart => exact ⟨0, none, Nat.zero_le _, rfl, ⟨Since.start _ _, rfl⟩, rfl, fun _ => rfl, fun h => absurd h (by omega)⟩
  case round =>
    obtain ⟨k, prev, hk, rfl, ⟨q, rfl⟩, HR, HP⟩ := hrel
    obtain ⟨s0, s1, s2, s3, s4⟩ := hS
    by_cases hlt : k < x.o.length
    · obtain ⟨b, off, hA, hb, hcell⟩ := hrd (by omega)
      obtain ⟨e0, e1, e2⟩ := hcell k hlt
      have HS := Lib.hid (outs_step (ts := x.t) (p := prev) hlt)
      obtain ⟨r, hre⟩ : ∃ r, r = x.o[k] := ⟨_, rfl⟩
      have HN : Hid (r.ok x.t = true → (k + 1 = 0 → some r = none) ∧ ∀ (_hk : 0 < k + 1) (h' : k + 1 - 1 < x.o.length), some r = some x.o[k + 1 - 1] ∧ x.o[k + 1 - 1].ok x.t = true) := fun ho => ⟨fun h => by omega, fun _ h' => ⟨by rw [hre]; rfl, by rw [hre] at ho; exact ho⟩⟩
      have HC : Hid (∀ _ : 0 < k, ∃ u : Outing, prev = some u ∧ u.ok x.t = true ∧ OutingS W.heap.size W b (off + (k - 1) * 3) u) := fun h => ⟨x.o[k - 1], (HP.out.2 h (by omega)).1, (HP.out.2 h (by omega)).2, hcell (k - 1) (by omega)⟩
      rw [← hre] at e0 e1 e2 HS
      simp only [hA] at s1
      clear hre hcell hrd
      go_wp2
      have hbV := q.below.alloc q.size (.cells #[.int .i64 r.k, .int .i64 r.p, .int .i64 r.c] 60)
      have hlV := Lies.new q.val 60 #[.int .i64 r.k, .int .i64 r.p, .int .i64 r.c]
      generalize q.val.alloc (.cells #[.int .i64 r.k, .int .i64 r.p, .int .i64 r.c] 60) = V at hbV hlV ⊢
      generalize q.val.heap.size = gv at hlV ⊢
      obtain ⟨d0, d1, d2⟩ := OutingS.of (r := r) hlV
      have up : ∀ {a : Addr} {u : Value}, (∀ p : Since W.heap.size W, p.val.cell? a = some u) → ∀ p : Since V.heap.size V, p.val.cell? a = some u := fun h p => h ⟨p.val, hbV.trans (p.below.mono hbV.size)⟩
      have s0 := up s0
      have s1 := up s1
      have s2 := up s2
      have s3 := up s3
      have s4 := up s4
      have hxe : ({ x with OA := some ⟨b, off, none⟩ } : Off) = x := by rw [← hA]
      have hRV : ∀ p : Since V.heap.size V, OffR p.val p.val.heap.size { x with OA := some ⟨b, off, none⟩ } := fun p => by rw [hxe]; exact hR.at ⟨p.val, hbV.trans (p.below.mono hbV.size)⟩
      clear hxe hA
      have HOK : Hid (r.ok x.t = (hasTray x.t r.k && inR r.p 1 999 && inR r.c 1 9999)) := rfl
      clear e0 e1 e2
      obtain ⟨X, hX⟩ : ∃ X, trayIx x.t r.k = X := ⟨_, rfl⟩
      have HX : Hid (Value.int .i64 (trayIx x.t r.k) = .int .i64 X) := by rw [hX]; rfl
      have HH : Hid (hasTray x.t r.k = decide (0 ≤ X)) := by rw [← hX]; exact (trayIx_has _ _).symm
      obtain ⟨v2, hv2⟩ : ∃ v, inR r.p 1 999 = v := ⟨_, rfl⟩
      obtain ⟨v3, hv3⟩ : ∃ v, inR r.c 1 9999 = v := ⟨_, rfl⟩
      rw [hv2, hv3] at HOK
      have HV2 := Lib.hid hv2; clear hv2
      have HV3 := Lib.hid hv3; clear hv3
      clear hX
      by_cases hX0 : 0 ≤ X
      · have hd0 : decide (X < 0) = false := decide_eq_false (by omega)
        have HXT : Hid (decide (0 ≤ X) = true) := decide_eq_true hX0
        cases v2
        · rcases Nat.eq_zero_or_pos k with h0 | h0
          · have hd : decide (0 < k) = false := decide_eq_false (by omega)
            clear h0
            refine wp_region_since0 (by kernel_rfl) (by kernel_rfl) ?_
            repeat (any_goals (first | go_big_quiet_step ((first | (go_at_call 55; with_reducible refine calls_sinceE HX (Nat.le_refl _) (l32Tray_any { x with OA := some ⟨b, off, none⟩ } r.k _ (hRV _))) | (go_at_call 54; with_reducible refine calls_sameB HV2 (l1In_any r.p 1 999 _)))) | (refine wpQuiet_step (fun K hK => ?_); go_simp; split <;> (refine hK _ ?_; clear hK K))))
            all_goals (refine wpQuiet_nil ?_; rintro _ ⟨q1, rfl⟩)
            all_goals have hb1 := hb0.trans ((hbV.trans (q1.below.mono hbV.size)).mono hb0.size)
            all_goals go_wp2
            go_ret
            refine ⟨?_, hb1⟩
            rw [← HR.out, HS.out, HOK.out, Bool.and_false]; rfl
          · have h0' : (0 : Int) < (k : Int) := by omega
            refine wp_region_since0 (by kernel_rfl) (by kernel_rfl) ?_
            repeat (any_goals (first | go_big_quiet_step ((first | (go_at_call 55; with_reducible refine calls_sinceE HX (Nat.le_refl _) (l32Tray_any { x with OA := some ⟨b, off, none⟩ } r.k _ (hRV _))) | (go_at_call 54; with_reducible refine calls_sameB HV2 (l1In_any r.p 1 999 _)))) | (refine wpQuiet_step (fun K hK => ?_); go_simp; split <;> (refine hK _ ?_; clear hK K))))
            all_goals (refine wpQuiet_nil ?_; rintro _ ⟨q1, rfl⟩)
            all_goals have hb1 := hb0.trans ((hbV.trans (q1.below.mono hbV.size)).mono hb0.size)
            all_goals go_wp2
            go_ret
            refine ⟨?_, hb1⟩
            rw [← HR.out, HS.out, HOK.out, Bool.and_false]; rfl
        · cases v3
          · rcases Nat.eq_zero_or_pos k with h0 | h0
            · have hd : decide (0 < k) = false := decide_eq_false (by omega)
              clear h0
              refine wp_region_since0 (by kernel_rfl) (by kernel_rfl) ?_
              repeat (any_goals (first | go_big_quiet_step ((first | (go_at_call 55; with_reducible refine calls_sinceE HX (Nat.le_refl _) (l32Tray_any { x with OA := some ⟨b, off, none⟩ } r.k _ (hRV _))) | (go_at_call 54; with_reducible refine calls_sameB HV2 (l1In_any r.p 1 999 _)) | (go_at_call 54; with_reducible refine calls_sameB HV3 (l1In_any r.c 1 9999 _)))) | (refine wpQuiet_step (fun K hK => ?_); go_simp; split <;> (refine hK _ ?_; clear hK K))))
              all_goals (refine wpQuiet_nil ?_; rintro _ ⟨q1, rfl⟩)
              all_goals have hb1 := hb0.trans ((hbV.trans (q1.below.mono hbV.size)).mono hb0.size)
              all_goals go_wp2
              go_ret
              refine ⟨?_, hb1⟩
              rw [← HR.out, HS.out, HOK.out, Bool.and_false]; rfl
            · have h0' : (0 : Int) < (k : Int) := by omega
              refine wp_region_since0 (by kernel_rfl) (by kernel_rfl) ?_
              repeat (any_goals (first | go_big_quiet_step ((first | (go_at_call 55; with_reducible refine calls_sinceE HX (Nat.le_refl _) (l32Tray_any { x with OA := some ⟨b, off, none⟩ } r.k _ (hRV _))) | (go_at_call 54; with_reducible refine calls_sameB HV2 (l1In_any r.p 1 999 _)) | (go_at_call 54; with_reducible refine calls_sameB HV3 (l1In_any r.c 1 9999 _)))) | (refine wpQuiet_step (fun K hK => ?_); go_simp; split <;> (refine hK _ ?_; clear hK K))))
              all_goals (refine wpQuiet_nil ?_; rintro _ ⟨q1, rfl⟩)
              all_goals have hb1 := hb0.trans ((hbV.trans (q1.below.mono hbV.size)).mono hb0.size)
              all_goals go_wp2
              go_ret
              refine ⟨?_, hb1⟩
              rw [← HR.out, HS.out, HOK.out, Bool.and_false]; rfl
          · have HRO : Hid (r.ok x.t = true) := by unfold Hid; rw [HOK.out, HH.out, HXT.out]; rfl
            rcases Nat.eq_zero_or_pos k with h0 | h0
            · have hd : decide (0 < k) = false := decide_eq_false (by omega)
              have HP0 : Hid (prev = none) := HP.out.1 h0
              clear h0
              refine wp_region_since0 (by kernel_rfl) (by kernel_rfl) ?_
              repeat (any_goals (first | go_big_quiet_step ((first | (go_at_call 55; with_reducible refine calls_sinceE HX (Nat.le_refl _) (l32Tray_any { x with OA := some ⟨b, off, none⟩ } r.k _ (hRV _))) | (go_at_call 54; with_reducible refine calls_sameB HV2 (l1In_any r.p 1 999 _)) | (go_at_call 54; with_reducible refine calls_sameB HV3 (l1In_any r.c 1 9999 _)))) | (refine wpQuiet_step (fun K hK => ?_); go_simp; split <;> (refine hK _ ?_; clear hK K))))
              all_goals (refine wpQuiet_nil ?_; rintro _ ⟨q1, rfl⟩)
              all_goals have hb1 := hb0.trans ((hbV.trans (q1.below.mono hbV.size)).mono hb0.size)
              all_goals go_wp2
              go_roundw
              case rel => exact ⟨k + 1, some r, by omega, by go_num, ⟨⟨_, hbV.trans (q1.below.mono hbV.size)⟩, rfl⟩, by have h1 := HR.out; rw [HS.out, HRO.out, HP0.out] at h1; exact h1, HN.out HRO.out⟩
              case measure => simp [intOf]; omega
            · have h0' : (0 : Int) < (k : Int) := by omega
              obtain ⟨u, hpu, huo, ⟨t0, t1, t2⟩⟩ := HC.out h0
              have t0 := up t0
              have t1 := up t1
              have t2 := up t2
              subst hpu
              have HS2 : Hid (outsFrom x.t (some u) (x.o.drop k) = (r.ok x.t && before u r && outsFrom x.t (some r) (x.o.drop (k + 1)))) := HS.out
              obtain ⟨hh1, hp1, _⟩ := Outing.bounds huo
              obtain ⟨hh2, hp2, _⟩ := Outing.bounds HRO.out
              have HKU := Lib.hid (And.intro (hasTray_bounds HALL.out hh1) hp1)
              have HKR := Lib.hid (And.intro (hasTray_bounds HALL.out hh2) hp2)
              have HB : Hid (before u r = decide (1000 * u.k + u.p < 1000 * r.k + r.p)) := before_key hp1 hp2
              clear huo hh1 hp1 hh2 hp2 up
              obtain ⟨K1, hK1⟩ : ∃ K, 1000 * u.k + u.p = K := ⟨_, rfl⟩
              obtain ⟨K2, hK2⟩ : ∃ K, 1000 * r.k + r.p = K := ⟨_, rfl⟩
              rw [hK1, hK2] at HB
              have HK1 : Hid (Value.int .i64 (1000 * u.k + u.p) = .int .i64 K1) := by rw [hK1]; rfl
              have HK2 : Hid (Value.int .i64 (1000 * r.k + r.p) = .int .i64 K2) := by rw [hK2]; rfl
              clear hK1 hK2
              refine wp_region_since0 (by kernel_rfl) (by kernel_rfl) ?_
              repeat (any_goals (first | go_big_quiet_step ((first | (go_at_call 55; with_reducible refine calls_sinceE HX (Nat.le_refl _) (l32Tray_any { x with OA := some ⟨b, off, none⟩ } r.k _ (hRV _))) | (go_at_call 54; with_reducible refine calls_sameB HV2 (l1In_any r.p 1 999 _)) | (go_at_call 54; with_reducible refine calls_sameB HV3 (l1In_any r.c 1 9999 _)) | (go_at_call 56; with_reducible refine calls_sinceE HK1 (Nat.le_refl _) (l32Key_any u _ HKU.out.1 HKU.out.2)) | (go_at_call 56; with_reducible refine calls_sinceE HK2 (Nat.le_refl _) (l32Key_any r _ HKR.out.1 HKR.out.2)))) | (refine wpQuiet_step (fun K hK => ?_); go_simp; split <;> (refine hK _ ?_; clear hK K))))
              all_goals (refine wpQuiet_nil ?_; rintro _ ⟨q1, rfl⟩)
              all_goals have hb1 := hb0.trans ((hbV.trans (q1.below.mono hbV.size)).mono hb0.size)
              all_goals go_wp2
              · go_ret
                refine ⟨?_, hb1⟩
                have hm : K2 ≤ K1 := by assumption
                rw [← HR.out, HS2.out, HRO.out, HB.out, decide_eq_false (by omega)]; rfl
              · have hm : K1 < K2 := by assumption
                go_roundw
                case rel => exact ⟨k + 1, some r, by omega, by go_num, ⟨⟨_, hbV.trans (q1.below.mono hbV.size)⟩, rfl⟩, by have h1 := HR.out; rw [HS2.out, HRO.out, HB.out, decide_eq_true hm] at h1; exact h1, HN.out HRO.out⟩
                case measure => simp [intOf]; omega
      · have hd0 : decide (X < 0) = true := decide_eq_true (by omega)
        have HXT : Hid (decide (0 ≤ X) = false) := decide_eq_false hX0
        rcases Nat.eq_zero_or_pos k with h0 | h0
        · have hd : decide (0 < k) = false := decide_eq_false (by omega)
          clear h0
          refine wp_region_since0 (by kernel_rfl) (by kernel_rfl) ?_
          repeat (any_goals (first | go_big_quiet_step ((go_at_call 55; with_reducible refine calls_sinceE HX (Nat.le_refl _) (l32Tray_any { x with OA := some ⟨b, off, none⟩ } r.k _ (hRV _)))) | (refine wpQuiet_step (fun K hK => ?_); go_simp; split <;> (refine hK _ ?_; clear hK K))))
          all_goals (refine wpQuiet_nil ?_; rintro _ ⟨q1, rfl⟩)
          all_goals have hb1 := hb0.trans ((hbV.trans (q1.below.mono hbV.size)).mono hb0.size)
          all_goals go_wp2
          go_ret
          refine ⟨?_, hb1⟩
          rw [← HR.out, HS.out, HOK.out, HH.out, HXT.out]; rfl
        · have h0' : (0 : Int) < (k : Int) := by omega
          refine wp_region_since0 (by kernel_rfl) (by kernel_rfl) ?_
          repeat (any_goals (first | go_big_quiet_step ((go_at_call 55; with_reducible refine calls_sinceE HX (Nat.le_refl _) (l32Tray_any { x with OA := some ⟨b, off, none⟩ } r.k _ (hRV _)))) | (refine wpQuiet_step (fun K hK => ?_); go_simp; split <;> (refine hK _ ?_; clear hK K))))
          all_goals (refine wpQuiet_nil ?_; rintro _ ⟨q1, rfl⟩)
          all_goals have hb1 := hb0.trans ((hbV.trans (q1.below.mono hbV.size)).mono hb0.size)
          all_goals go_wp2
          go_ret
          refine ⟨?_, hb1⟩
          rw [← HR.out, HS.out, HOK.out, HH.out, HXT.out]; rfl
    · have HK : Hid (outsOk x.t x.o = true) := by
        have h1 := HR.out
        rw [List.drop_eq_nil_of_le (by omega)] at h1; exact h1.symm
      clear hrd
      go_wp2
      go_ret
      refine ⟨?_, hb0.trans (q.below.mono hb0.size)⟩
      rw [HK.out, Bool.true_and]
      exact congrArg (fun b => Ending.returned (.bool b)) (decide_eq_decide.2 (by omega))
end Go.Proofs.YtojceibamgodbaaGreatDoor
