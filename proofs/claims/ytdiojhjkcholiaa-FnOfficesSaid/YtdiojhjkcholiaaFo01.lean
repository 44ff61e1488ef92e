/- Fo01: the texts Base In Ints More Tray Outing OffP StepP, joined into one file. -/
import Derived.WalkKit
import Derived.WalkLawsBesides
import Derived.WalkSpells
import Derived.BigQuiet
import Derived.Deep.QuietTactic
import Derived.Deep.Draws
import Derived.Deep.MidRow
import Derived.Laws.CopyRow
import Derived.Outline
import Derived.Lib.Hide
import Derived.Handy
import Derived.Test.YtdiojhjkcholiaaProg

/- Plain words on memory, no program in sight: worlds since a point; slices that read as lists of cells; blocks that are known whole. -/
namespace Go.Proofs.Ytdiojhjkcholiaa
open Go.RowKit

/-- A world in which all that lay below block B of w still lies as it lay. -/
structure Since (B : Nat) (w : World) where
  val : World
  below : Below B w val

theorem Since.cell {B : Nat} {w : World} (p : Since B w) {a : Addr} (h : a.block < B) : p.val.cell? a = w.cell? a := p.below.cell h
theorem Since.size {B : Nat} {w : World} (p : Since B w) : w.heap.size ≤ p.val.heap.size := p.below.size
def Since.start (B : Nat) (w : World) : Since B w := ⟨w, Below.refl B w⟩
instance Since.any (B : Nat) (w : World) : Inhabited (Since B w) := ⟨Since.start B w⟩
def Since.go {B : Nat} {w : World} (p : Since B w) {w' : World} (hB : B ≤ w.heap.size) (h : Below p.val.heap.size p.val w') : Since B w :=
  ⟨w', p.below.trans (h.mono (Nat.le_trans hB p.size))⟩
def Since.go' {B : Nat} {w : World} (p : Since B w) {w' : World} (h : Below B p.val w') : Since B w := ⟨w', p.below.trans h⟩

/-- A region that draws its order, whose operations read and whose calls leave alone what lay below block B. -/
theorem wp_region_since {P : Program} {id : Nat} {Q : Exit → Act → World → Prop} {a : Act} {B : Nat} {w : World} {l : List Oper} (p : Since B w) (hm : P.follows .mixedOrders = true) (hB : Region.lexB .any l.toArray = true)
    (h : wpQuiet P l.toArray (fun w' => ∃ q : Since B w, w' = q.val) (fun a' => ∀ w', (∃ q : Since B w, w' = q.val) → Q .normal a' w') l a) : (Code.region id l.toArray true).wp P Q a p.val :=
  wp_region_quiet (C := fun w' => ∃ q : Since B w, w' = q.val) hm hB ⟨⟨_, p.below.drew⟩, rfl⟩ (by simpa using h)
/-- The same, from the world w itself. -/
theorem wp_region_since0 {P : Program} {id : Nat} {Q : Exit → Act → World → Prop} {a : Act} {w : World} {l : List Oper} (hm : P.follows .mixedOrders = true) (hB : Region.lexB .any l.toArray = true)
    (h : wpQuiet P l.toArray (fun w' => ∃ q : Since w.heap.size w, w' = q.val) (fun a' => ∀ w', (∃ q : Since w.heap.size w, w' = q.val) → Q .normal a' w') l a) : (Code.region id l.toArray true).wp P Q a w :=
  wp_region_since (Since.start w.heap.size w) hm hB h

/-- A callee's contract in a world since w. -/
theorem calls_since {P : Program} {f : FuncId} {args : Array Value} {B : Nat} {w : World} {q : Since B w} {v : Value} (hB : B ≤ w.heap.size)
    (h : Calls P f args q.val fun e w' => e = .returned v ∧ Below q.val.heap.size q.val w') : Calls P f args q.val fun e w' => e = .returned v ∧ ∃ q' : Since B w, w' = q'.val :=
  h.mono fun _ _ ⟨he, hb⟩ => ⟨he, q.go hB hb, rfl⟩
theorem calls_sinceB {P : Program} {f : FuncId} {args : Array Value} {B : Nat} {w : World} {q : Since B w} {b b' : Bool} (hb : Hid (b = b')) (hB : B ≤ w.heap.size)
    (h : Calls P f args q.val fun e w' => e = .returned (.bool b) ∧ Below q.val.heap.size q.val w') : Calls P f args q.val fun e w' => e = .returned (.bool b') ∧ ∃ q' : Since B w, w' = q'.val := by
  have := hb.out; subst this; exact calls_since hB h
theorem calls_same {P : Program} {f : FuncId} {args : Array Value} {B : Nat} {w : World} {q : Since B w} {v : Value}
    (h : Calls P f args q.val fun e w' => e = .returned v ∧ q.val = w') : Calls P f args q.val fun e w' => e = .returned v ∧ ∃ q' : Since B w, w' = q'.val :=
  h.mono fun _ _ ⟨he, hb⟩ => ⟨he, q, hb.symm⟩
theorem calls_sameB {P : Program} {f : FuncId} {args : Array Value} {B : Nat} {w : World} {q : Since B w} {b b' : Bool} (hb : Hid (b = b'))
    (h : Calls P f args q.val fun e w' => e = .returned (.bool b) ∧ q.val = w') : Calls P f args q.val fun e w' => e = .returned (.bool b') ∧ ∃ q' : Since B w, w' = q'.val := by
  have := hb.out; subst this; exact calls_same h

/-- Four results in slots. -/
theorem results_four {fn : Func} {t u v x : Tmp} (h : fn.results = #[.tmp t, .tmp u, .tmp v, .tmp x]) (tmps : Array Value) (P : Program) (w : World) :
    (results fn tmps).run P w = .ok (.tuple #[tmps.getD t undef, tmps.getD u undef, tmps.getD v undef, tmps.getD x undef]) w := by simp [results, h]

/-- One call behind another. -/
theorem bthen {a b c : World} (h : Below a.heap.size a b) (k : Below b.heap.size b c) : Below a.heap.size a c := h.trans (k.mono h.size)

/-- The first call from a world: it leaves one since. -/
theorem calls_since0 {P : Program} {f : FuncId} {args : Array Value} {W : World} {v : Value}
    (h : Calls P f args W fun e w' => e = .returned v ∧ Below W.heap.size W w') : Calls P f args W fun e w' => e = .returned v ∧ ∃ q' : Since W.heap.size W, w' = q'.val :=
  h.mono fun _ _ ⟨he, hb⟩ => ⟨he, ⟨_, hb⟩, rfl⟩

/-! ### Slices that read as lists of cells -/
/-- The slice with address A and n elements of k cells each reads as the cells cs, below block B. -/
structure SlcR (w : World) (B k : Nat) (A : Option Addr) (n : Nat) (cs : List Value) : Prop where
  len : cs.length = n * k
  big : n ≤ 9223372036854775807
  at_ : 0 < n → ∃ b off, A = some ⟨b, off, none⟩ ∧ b < B ∧ ∀ j u, cs[j]? = some u → w.cell? ⟨b, off + j, none⟩ = some u

theorem SlcR.keep {w w' : World} {B k n : Nat} {A : Option Addr} {cs : List Value} (h : SlcR w B k A n cs) (hk : ∀ p : Addr, p.block < B → w'.cell? p = w.cell? p) : SlcR w' B k A n cs :=
  ⟨h.len, h.big, fun hn => by
    obtain ⟨b, off, e, hb, hc⟩ := h.at_ hn
    exact ⟨b, off, e, hb, fun j u hu => (hk _ hb).trans (hc j u hu)⟩⟩
theorem SlcR.below {w w' : World} {B k n : Nat} {A : Option Addr} {cs : List Value} (h : SlcR w B k A n cs) (hb : Below B w w') : SlcR w' B k A n cs := h.keep fun _ hp => hb.cell hp
theorem SlcR.mono {w : World} {B B' k n : Nat} {A : Option Addr} {cs : List Value} (h : SlcR w B k A n cs) (hB : B ≤ B') : SlcR w B' k A n cs :=
  ⟨h.len, h.big, fun hn => by
    obtain ⟨b, off, e, hb, hc⟩ := h.at_ hn
    exact ⟨b, off, e, by omega, hc⟩⟩
theorem SlcR.up {w w' : World} {B k n : Nat} {A : Option Addr} {cs : List Value} (h : SlcR w B k A n cs) (hb : Below B w w') (hB : B ≤ w.heap.size) : SlcR w' w'.heap.size k A n cs :=
  (h.below hb).mono (Nat.le_trans hB hb.size)
theorem SlcR.then {w w' : World} {k n : Nat} {A : Option Addr} {cs : List Value} (h : SlcR w w.heap.size k A n cs) (hb : Below w.heap.size w w') : SlcR w' w'.heap.size k A n cs := (h.below hb).mono hb.size
theorem SlcR.nil (w : World) (B k : Nat) (A : Option Addr) : SlcR w B k A 0 [] := ⟨by simp, by omega, fun h => absurd h (by omega)⟩

/-- Place j of element i, in a list of elements of k cells. -/
theorem flat_at {α : Type} (enc : α → List Value) (k : Nat) (hk : ∀ x, (enc x).length = k) : ∀ (l : List α) (i : Nat) (h : i < l.length) (j : Nat), j < k → (l.flatMap enc)[i * k + j]? = (enc l[i])[j]?
  | x :: l, 0, _, j, hj => by
    simp only [List.flatMap_cons, Nat.zero_mul, Nat.zero_add, List.getElem_cons_zero]
    rw [List.getElem?_append_left (by rw [hk]; exact hj)]
  | x :: l, i + 1, h, j, hj => by
    have e : (i + 1) * k + j = (enc x).length + (i * k + j) := by rw [hk, Nat.succ_mul]; omega
    simp only [List.flatMap_cons, List.getElem_cons_succ]
    rw [e, List.getElem?_append_right (by omega), Nat.add_sub_cancel_left]
    exact flat_at enc k hk l i (by simpa using h) j hj
theorem flat_len {α : Type} (enc : α → List Value) (k : Nat) (hk : ∀ x, (enc x).length = k) : ∀ l : List α, (l.flatMap enc).length = l.length * k
  | [] => by simp
  | x :: l => by simp only [List.flatMap_cons, List.length_append, flat_len enc k hk l, hk, List.length_cons, Nat.succ_mul]; omega

/-! ### Blocks that are known whole -/
def Lies (w : World) (g : Nat) (t : TypeId) (cs : List Value) : Prop := w.heap[g]? = some (.cells cs.toArray t (0, 0))
section
variable {w w' : World} {g : Nat} {t : TypeId} {cs : List Value}
theorem Lies.lt (h : Lies w g t cs) : g < w.heap.size := by
  rcases Nat.lt_or_ge g w.heap.size with hlt | hge
  · exact hlt
  · unfold Lies at h; rw [Array.getElem?_eq_none hge] at h; cases h
theorem Lies.cell (h : Lies w g t cs) (i : Nat) : w.cell? ⟨g, i, none⟩ = cs[i]? := by rw [cell_of_row w g i _ t (0, 0) h]; simp
theorem Lies.frozen (h : Lies w g t cs) (i : Nat) : w.frozen? ⟨g, i, none⟩ = false := frozen_of_row w g i _ t h
theorem Lies.below {B : Nat} (h : Lies w g t cs) (hb : Below B w w') (hg : g < B) : Lies w' g t cs := (hb.block g hg).trans h
theorem Lies.kept {row : Option Nat} (h : Lies w g t cs) (hb : w.grownBy w' row) (hg : some g ≠ row) : Lies w' g t cs := (hb.block g h.lt hg).trans h
theorem Lies.alloc (h : Lies w g t cs) (o : Obj) : Lies (w.alloc o) g t cs := (Below.heap_alloc w o g h.lt).trans h
theorem Lies.set (h : Lies w g t cs) (i : Nat) (u : Value) : Lies (w.setCell ⟨g, i, none⟩ u) g t (cs.set i u) := by
  have := heap_setCell_same w g i cs.toArray t u h
  unfold Lies; rw [this]; simp
theorem Lies.other (h : Lies w g t cs) {p : Addr} (hp : g ≠ p.block) (u : Value) : Lies (w.setCell p u) g t cs := (Below.heap_setCell w p u g hp).trans h
theorem Lies.reads {k n : Nat} (h : Lies w g t cs) (hl : cs.length = n * k) (hn : n ≤ 9223372036854775807) : SlcR w w.heap.size k (some ⟨g, 0, none⟩) n cs :=
  ⟨hl, hn, fun _ => ⟨g, 0, rfl, h.lt, fun j u hu => by rw [Nat.zero_add, h.cell]; exact hu⟩⟩
end
theorem Lies.new (w : World) (t : TypeId) (cs : Array Value) : Lies (w.alloc (.cells cs t)) w.heap.size t cs.toList := heap_alloc_new w _
theorem Lies.of {w : World} {g : Nat} {t : TypeId} {cs : Array Value} (h : w.heap[g]? = some (.cells cs t (0, 0))) : Lies w g t cs.toList := h
theorem Lies.own {w : World} {g : Nat} {t : TypeId} {cs : List Value} (h : Lies w g t cs) {B k n : Nat} (hB : B ≤ g) (hl : cs.length = n * k) (hn : n ≤ maxLen) : w.ownsRow B t k (.slice (some ⟨g, 0, none⟩) n n) n cs := by
  refine ⟨hl, Or.inr ⟨g, n, _, rfl, hB, h, Nat.le_refl _, hn, by simpa using hl, ?_⟩⟩
  simp only
  exact List.take_of_length_le (by omega)

def splice (cs : List Value) (i : Nat) (vs : List Value) : List Value := cs.take i ++ vs ++ cs.drop (i + vs.length)

/-- A struct is stored into a block that is known whole. -/
theorem wpList_store_row {P : Program} {ops : Array Oper} {rest : List Oper} {op : Oper} {a : Act} {w : World} {Q : Exit → Act → World → Prop} (hgd : op.guard = none) (ty : TypeId) (x y : Operand) (ho : op.op = .store ty x y)
    (g o : Nat) (t : TypeId) (vs : Array Value) (hx : a.eval x = .pointer (some ⟨g, o, none⟩)) (hy : a.eval y = .agg vs)
    (cs : List Value) (hl : Lies w g t cs) (hfit : o + vs.size ≤ cs.length) (hi : (P.info? ty).map (·.size) = some vs.size) (h1 : vs.all (·.oneCell') = true)
    (h : ∀ w', Lies w' g t (splice cs o vs.toList) → w.grownBy w' (some g) → wpList P ops Q rest (a.put op.dst undef) w') : wpList P ops Q (op :: rest) a w := by
  refine wpList_plain hgd fun K hK => ?_
  have hrun := run_storeCells_at (P := P) g o t vs.toList 0 cs.toArray w hl (by simpa using hfit) (fun v hv => (Array.all_eq_true_iff_forall_mem.1 h1) v (by simpa using hv))
  cases hq : P.info? ty with
  | none => simp [hq] at hi
  | some i =>
    have hs : vs.size = i.size := by simp [hq] at hi; omega
    unfold Oper.wp execOp
    simp only [ho, hx, hy, Instr.storeAt, Instr.sureAddr, Sem.run_bind, Sem.run_pure, Result.andThen_ok]
    simp only [Nat.add_zero] at hrun
    simp [storeVar, sizeOf, typeInfo, hq, Value.cells, ← hs, hrun, Oper.upon]
    refine hK _ _ (h _ ?_ ?_)
    · have := setRow_heap w g cs.toArray (cs.take o ++ vs.toList ++ cs.drop (o + vs.size)).toArray t _ hl
      unfold Lies splice
      simpa using this
    · refine ⟨rfl, rfl, rfl, by simp [World.setRow], fun k hk hne => ?_⟩
      simp only [World.setRow, Array.getElem?_modify]
      rw [if_neg (fun e => hne (by rw [e]))]

/-- Splicing the next row in. -/
theorem splice_next {α : Type} (enc : α → List Value) (k : Nat) (hk : ∀ x, (enc x).length = k) (l : List α) (i : Nat) (hi : i < l.length) (rest : List Value) (hr : rest.length = (l.length - i) * k) :
    ∃ rest', splice ((l.take i).flatMap enc ++ rest) (i * k) (enc l[i]) = (l.take (i + 1)).flatMap enc ++ rest' ∧ rest'.length = (l.length - (i + 1)) * k := by
  refine ⟨rest.drop k, ?_, ?_⟩
  · have e1 : ((l.take i).flatMap enc).length = i * k := by rw [flat_len enc k hk, List.length_take, Nat.min_eq_left (by omega)]
    unfold splice
    rw [List.take_append_of_le_length (by omega), List.take_of_length_le (by omega), List.drop_append, List.drop_eq_nil_of_le (by rw [e1, hk]; omega), e1, hk, List.nil_append]
    rw [List.take_succ_eq_append_getElem hi, List.flatMap_append, List.flatMap_cons, List.flatMap_nil, List.append_nil, Nat.add_sub_cancel_left]
  · rw [List.length_drop, hr]
    obtain ⟨d, hd⟩ : ∃ d, l.length - i = d + 1 := ⟨l.length - i - 1, by omega⟩
    have hd' : l.length - (i + 1) = d := by omega
    rw [hd, hd', Nat.succ_mul, Nat.add_sub_cancel]

/-- The store of element k, in a loop that fills a made slice. -/
theorem wpList_store_next {P : Program} {ops : Array Oper} {rest : List Oper} {op : Oper} {a : Act} {w : World} {Q : Exit → Act → World → Prop} (hgd : op.guard = none) (ty : TypeId) (x y : Operand) (ho : op.op = .store ty x y)
    {α : Type} (enc : α → List Value) (ksz : Nat) (hk : ∀ x, (enc x).length = ksz) (l : List α) (k : Nat) (hlt : k < l.length) (old : List Value) (hold : Hid (old.length = (l.length - k) * ksz))
    (g : Nat) (t : TypeId) (vs : Array Value) (hx : a.eval x = .pointer (some ⟨g, k * ksz, none⟩)) (hy : a.eval y = .agg vs) (hv : Hid (vs.toList = enc l[k]))
    (hi : (P.info? ty).map (·.size) = some ksz) (h1 : vs.all (·.oneCell') = true) (hl : Lies w g t ((l.take k).flatMap enc ++ old))
    (h : ∀ w' old', Hid (Lies w' g t ((l.take (k + 1)).flatMap enc ++ old')) → Hid (old'.length = (l.length - (k + 1)) * ksz) → w.grownBy w' (some g) → wpList P ops Q rest (a.put op.dst undef) w') : wpList P ops Q (op :: rest) a w := by
  have hv' := hv.out
  have hold' := hold.out
  have hsz : vs.size = ksz := by have := congrArg List.length hv'; simpa [hk] using this
  obtain ⟨old', he, hl'⟩ := splice_next enc ksz hk l k hlt old hold'
  refine wpList_store_row hgd ty x y ho g (k * ksz) t vs hx hy _ hl ?_ (by rw [hi, hsz]) h1 fun w' h2 h3 => h w' old' ?_ hl' h3
  · rw [hsz, List.length_append, flat_len enc ksz hk, List.length_take, Nat.min_eq_left (by omega), hold']
    have : l.length - k = l.length - k - 1 + 1 := by omega
    rw [this, Nat.succ_mul]; omega
  · rw [hv', he] at h2; exact h2

/-- 'make([]T, n)', T a struct or not. -/
theorem run_make_all {P : Program} (t e : TypeId) (z : Value) (size bytes : Nat) (ht : P.underlying t = some (.slice e)) (hinfo : (P.info? e).map (fun i => (i.zero, i.size, i.bytes)) = some (some z, size, bytes))
    (n : Nat) (hbytes : bytes * n ≤ 140737488355328) (h63 : n ≤ 9223372036854775807) (w : World) :
    (Instr.makeSlice t (.int .i64 (n : Int)) (.int .i64 (n : Int))).run P w = .ok (.slice (some ⟨w.heap.size, 0, none⟩) n n) (w.alloc (.cells (madeCells z.cells (n * size)) e)) := by
  obtain ⟨i, hi, hz, hs, hb⟩ := info_parts hinfo
  have hb' : (i.bytes : Int) * (n : Int) ≤ 281474976710656 := by
    have h : ((i.bytes * n : Nat) : Int) ≤ 281474976710656 := by rw [hb]; omega
    rwa [Int.natCast_mul] at h
  have hr := run_make (P := P) w t e i z ht hi hz .i64 .i64 n n (by omega) (by omega) hb' (by omega)
  simp only [Int.toNat_natCast] at hr
  rw [← hs]
  exact hr

end Go.Proofs.Ytdiojhjkcholiaa

/- In-range tests; what is left of a bound. -/
namespace Go.Proofs.Ytdiojhjkcholiaa
open Go.RowKit

def inR (n lo hi : Int) : Bool := decide (lo ≤ n) && decide (n ≤ hi)
theorem inR_iff {n lo hi : Int} : inR n lo hi = true ↔ lo ≤ n ∧ n ≤ hi := by simp [inR]
theorem inR_no {n lo hi : Int} : inR n lo hi = false ↔ n < lo ∨ hi < n := by
  cases h : inR n lo hi with
  | true => rw [inR_iff] at h; simp; omega
  | false =>
    simp only [true_iff]
    by_cases h' : lo ≤ n ∧ n ≤ hi
    · rw [← inR_iff, h] at h'; cases h'
    · omega
theorem l1In_any (n lo hi : Int) (w : World) : Calls Try.prog 71 #[.int .i64 n, .int .i64 lo, .int .i64 hi] w fun e w' => e = .returned (.bool (inR n lo hi)) ∧ w = w' := by
  go_enter Try.func71, Try.ntmps71
  go_wp2
  all_goals (go_ret; exact ⟨by simp [inR, *]; try omega, rfl⟩)
theorem inRange_any (n lo hi : Int) (w : World) : Calls Try.prog 36 #[.int .i64 n, .int .i64 lo, .int .i64 hi] w fun e w' => e = .returned (.bool (inR n lo hi)) ∧ w = w' := by
  go_enter Try.func36, Try.ntmps36
  go_wp2
  all_goals (go_ret; exact ⟨by simp [inR, *]; try omega, rfl⟩)
def lessen (k : Int) (n : Nat) : Int := if (n : Int) ≤ k then k - n else -1
theorem lessen_no {k : Int} {a b : Nat} (h : k < a) : lessen k (a + b) = -1 := by unfold lessen; rw [if_neg (by omega)]
theorem lessen_yes {k : Int} {a b : Nat} (_h : (a : Int) ≤ k) : lessen k (a + b) = lessen (k - a) b := by
  unfold lessen
  by_cases h : ((a + b : Nat) : Int) ≤ k
  · rw [if_pos h, if_pos (by omega)]; omega
  · rw [if_neg h, if_neg (by omega)]
end Go.Proofs.Ytdiojhjkcholiaa

/- Slices of ints: equality, marks, held marks. -/
namespace Go.Proofs.Ytdiojhjkcholiaa
open Go.RowKit

abbrev encI (n : Int) : List Value := [.int .i64 n]
abbrev encIs (l : List Int) : List Value := l.map (Value.int .i64)
theorem encIs_len (l : List Int) : (encIs l).length = l.length * 1 := by simp
/-- A slice of ints reads. -/
abbrev IntsR (w : World) (B : Nat) (A : Option Addr) (l : List Int) : Prop := SlcR w B 1 A l.length (encIs l)
theorem IntsR.ints {w : World} {B : Nat} {A : Option Addr} {l : List Int} (h : IntsR w B A l) (hne : 0 < l.length) : ∃ b off, A = some ⟨b, off, none⟩ ∧ b < B ∧ ∀ i (hi : i < l.length) (p : Since B w), p.val.cell? ⟨b, off + i, none⟩ = some (.int .i64 l[i]) := by
  obtain ⟨b, off, e, hb, hc⟩ := h.at_ hne
  exact ⟨b, off, e, hb, fun i hi p => (p.cell hb).trans (hc i _ (by simp [hi]))⟩

/-- A slice of the call's own, its cells known, with room behind them. -/
def OwnS (w : World) (B : Nat) (t : TypeId) (k : Nat) (A : Option Addr) (n : Nat) (cs : List Value) : Prop :=
  cs.length = n * k ∧ n ≤ 9223372036854775807 ∧ ((A = none ∧ n = 0) ∨ ∃ g rest, A = some ⟨g, 0, none⟩ ∧ B ≤ g ∧ Lies w g t (cs ++ rest))
theorem OwnS.of {w : World} {B : Nat} {t : TypeId} {k : Nat} {A : Option Addr} {n c : Nat} {cs : List Value} (h : w.ownsRow B t k (.slice A n c) n cs) : OwnS w B t k A n cs := by
  obtain ⟨hl, h | ⟨g, cap, cur, hv, hg, hh, h1, h2, h3, h4⟩⟩ := h
  · injection h.1 with e1 e2 e3
    exact ⟨hl, by omega, .inl ⟨e1, e2⟩⟩
  · injection hv with e1 e2 e3
    refine ⟨hl, by unfold maxLen at h2; omega, .inr ⟨g, cur.toList.drop (n * k), e1, hg, ?_⟩⟩
    have : cs ++ cur.toList.drop (n * k) = cur.toList := by rw [← h4]; exact List.take_append_drop _ _
    rw [this]
    exact Lies.of hh
theorem OwnS.reads {w : World} {B : Nat} {t : TypeId} {k : Nat} {A : Option Addr} {n : Nat} {cs : List Value} (h : OwnS w B t k A n cs) : SlcR w w.heap.size k A n cs := by
  obtain ⟨hl, hn, ⟨_, h0⟩ | ⟨g, rest, hA, hg, hh⟩⟩ := h
  · exact ⟨hl, hn, fun h => by omega⟩
  · exact ⟨hl, hn, fun _ => ⟨g, 0, hA, hh.lt, fun j u hu => by
      rw [Nat.zero_add, hh.cell, List.getElem?_append_left (List.getElem?_eq_some_iff.1 hu).1]; exact hu⟩⟩
theorem OwnS.kept {w w' : World} {B : Nat} {t : TypeId} {k : Nat} {A : Option Addr} {n : Nat} {cs : List Value} (h : OwnS w B t k A n cs) {g : Nat} (hg : w.grownBy w' (some g)) (hlt : g < B) : OwnS w' B t k A n cs := by
  obtain ⟨hl, hn, h0 | ⟨g', rest, hA, hg', hh⟩⟩ := h
  · exact ⟨hl, hn, .inl h0⟩
  · exact ⟨hl, hn, .inr ⟨g', rest, hA, hg', hh.kept hg (by intro e; injection e with e; omega)⟩⟩
theorem OwnS.then {w w' : World} {B : Nat} {t : TypeId} {k : Nat} {A : Option Addr} {n : Nat} {cs : List Value} (h : OwnS w B t k A n cs) (hb : Below w.heap.size w w') : OwnS w' B t k A n cs := by
  obtain ⟨hl, hn, h0 | ⟨g', rest, hA, hg', hh⟩⟩ := h
  · exact ⟨hl, hn, .inl h0⟩
  · exact ⟨hl, hn, .inr ⟨g', rest, hA, hg', hh.below hb hh.lt⟩⟩

def sameInts (a b : List Int) : Bool := decide (a = b)
def sameIntsFrom : List Int → List Int → Bool
  | [], [] => true
  | x :: a, y :: b => decide (x = y) && sameIntsFrom a b
  | _, _ => false
theorem sameIntsFrom_eq : ∀ a b : List Int, sameIntsFrom a b = sameInts a b
  | [], [] => by simp [sameIntsFrom, sameInts]
  | [], _ :: _ => by simp [sameIntsFrom, sameInts]
  | _ :: _, [] => by simp [sameIntsFrom, sameInts]
  | x :: a, y :: b => by simp [sameIntsFrom, sameInts, sameIntsFrom_eq a b, Bool.decide_and]

/-- k, k + 1, .., n numbers. -/
def ramp : Int → Nat → List Int
  | _, 0 => []
  | k, n + 1 => k :: ramp (k + 1) n
theorem ramp_len : ∀ (k : Int) (n : Nat), (ramp k n).length = n
  | _, 0 => rfl
  | k, n + 1 => by simp [ramp, ramp_len (k + 1) n]
theorem ramp_at : ∀ (k : Int) (n i : Nat) (h : i < (ramp k n).length), (ramp k n)[i] = k + i
  | k, n + 1, 0, _ => by simp [ramp]
  | k, n + 1, i + 1, h => by
    simp only [ramp, List.getElem_cons_succ]
    rw [ramp_at (k + 1) n i (by simpa [ramp] using h)]
    omega
theorem ramp_snoc : ∀ (k : Int) (n : Nat), ramp k (n + 1) = ramp k n ++ [k + n]
  | k, 0 => by simp [ramp]
  | k, n + 1 => by
    rw [ramp, ramp_snoc (k + 1) n, ramp, List.cons_append]
    congr 3
    omega

theorem grown_cell {a w : World} {row : Option Nat} (h : a.grownBy w row) (p : Addr) (hlt : p.block < a.heap.size) (hne : some p.block ≠ row) : w.cell? p = a.cell? p := World.cell?_of_block (w := a) (h.block p.block hlt hne)
theorem OwnS.at_ge {w : World} {B : Nat} {t : TypeId} {k : Nat} {A : Option Addr} {n : Nat} {cs : List Value} (h : OwnS w B t k A n cs) (g : Nat) (hg : A.map (·.block) = some g) : B ≤ g := by
  obtain ⟨_, _, ⟨rfl, _⟩ | ⟨g', _, rfl, hB, _⟩⟩ := h
  · cases hg
  · injection hg with e; simp only at e; omega
theorem OwnS.held {w : World} {B : Nat} {t : TypeId} {A : Option Addr} {k0 : Int} {n : Nat} (h : OwnS w B t 1 A n (encIs (ramp k0 n))) : IntsR w w.heap.size A (Go.Proofs.Ytdiojhjkcholiaa.ramp k0 n) := by
  have := h.reads
  unfold IntsR; rw [ramp_len]; exact this

theorem grown_set {a w : World} {g i : Nat} {u : Value} (h : a.grownBy w (some g)) : a.grownBy (w.setCell ⟨g, i, none⟩ u) (some g) :=
  ⟨h.os, h.tape, h.output, by simpa [World.setCell] using h.size, fun k hk hne => (Below.heap_setCell w ⟨g, i, none⟩ u k (fun e => hne (by rw [e]))).trans (h.block k hk hne)⟩
theorem set_mid {α : Type} (a b : List α) (x u : α) : (a ++ x :: b).set a.length u = a ++ u :: b := by
  induction a with
  | nil => rfl
  | cons y a ih => simp [ih]

end Go.Proofs.Ytdiojhjkcholiaa

/- Two worlds that differ in some blocks alone; marks in a row; the place of the first (no program's own function in sight). -/
namespace Go.Proofs.Ytdiojhjkcholiaa
open Go.RowKit

/-- Between two worlds only blocks from lo on and below hi have turned; new ones may lie behind. -/
structure Mid (lo hi : Nat) (w w' : World) : Prop where
  os : w'.os = w.os
  tape : w'.tape = w.tape
  output : w'.output = w.output
  size : w.heap.size ≤ w'.heap.size
  block : ∀ k, k < w.heap.size → (k < lo ∨ hi ≤ k) → w'.heap[k]? = w.heap[k]?
theorem Mid.refl (lo hi : Nat) (w : World) : Mid lo hi w w := ⟨rfl, rfl, rfl, Nat.le_refl _, fun _ _ _ => rfl⟩
theorem Mid.trans {lo hi : Nat} {a b c : World} (h : Mid lo hi a b) (k : Mid lo hi b c) : Mid lo hi a c :=
  ⟨k.os.trans h.os, k.tape.trans h.tape, k.output.trans h.output, Nat.le_trans h.size k.size, fun i hi ho => (k.block i (Nat.lt_of_lt_of_le hi h.size) ho).trans (h.block i hi ho)⟩
theorem Mid.of {lo hi : Nat} {a b : World} {row : Option Nat} (h : a.grownBy b row) (hr : ∀ g, row = some g → lo ≤ g ∧ g < hi) : Mid lo hi a b :=
  ⟨h.os, h.tape, h.output, h.size, fun k hk ho => h.block k hk (fun e => by have := hr k e.symm; omega)⟩
theorem Mid.below {lo hi : Nat} {a b : World} (h : Mid lo hi a b) (hlo : lo ≤ a.heap.size) : Below lo a b :=
  ⟨h.os, h.tape, h.output, h.size, fun k hk => h.block k (by omega) (.inl hk)⟩
theorem Mid.lies {lo hi : Nat} {a b : World} (h : Mid lo hi a b) {g : Nat} {t : TypeId} {cs : List Value} (hL : Lies a g t cs) (ho : g < lo ∨ hi ≤ g) : Lies b g t cs := (h.block g hL.lt ho).trans hL
theorem Mid.own {lo hi : Nat} {a b : World} (h : Mid lo hi a b) {B : Nat} {t : TypeId} {k : Nat} {A : Option Addr} {n : Nat} {cs : List Value} (hO : OwnS a B t k A n cs) (hB : hi ≤ B) : OwnS b B t k A n cs := by
  obtain ⟨hl, hn, h0 | ⟨g', rest, hA, hg', hh⟩⟩ := hO
  · exact ⟨hl, hn, .inl h0⟩
  · exact ⟨hl, hn, .inr ⟨g', rest, hA, hg', h.lies hh (.inr (by omega))⟩⟩

theorem at_behind {α : Type} {a r : List α} {n : Nat} (h : a.length = n) (i : Nat) : (a ++ r)[n + i]? = r[i]? := by
  rw [List.getElem?_append_right (by omega), h, Nat.add_sub_cancel_left]
theorem set_behind {α : Type} {a r : List α} {n : Nat} (h : a.length = n) (i : Nat) (u : α) : (a ++ r).set (n + i) u = a ++ r.set i u := by
  subst h; rw [List.set_append_right _ _ (by omega), Nat.add_sub_cancel_left]

theorem split_2 {α : Type} {l : List α} (h : 2 ≤ l.length) : ∃ a0 a1 r, l = a0 :: a1 :: r := by
  match l, h with
  | a0 :: a1 :: r, _ => exact ⟨a0, a1, r, rfl⟩
theorem split_3 {α : Type} {l : List α} (h : 3 ≤ l.length) : ∃ a0 a1 a2 r, l = a0 :: a1 :: a2 :: r := by
  match l, h with
  | a0 :: a1 :: a2 :: r, _ => exact ⟨a0, a1, a2, r, rfl⟩
theorem split_4 {α : Type} {l : List α} (h : 4 ≤ l.length) : ∃ a0 a1 a2 a3 r, l = a0 :: a1 :: a2 :: a3 :: r := by
  match l, h with
  | a0 :: a1 :: a2 :: a3 :: r, _ => exact ⟨a0, a1, a2, a3, r, rfl⟩
theorem split_5 {α : Type} {l : List α} (h : 5 ≤ l.length) : ∃ a0 a1 a2 a3 a4 r, l = a0 :: a1 :: a2 :: a3 :: a4 :: r := by
  match l, h with
  | a0 :: a1 :: a2 :: a3 :: a4 :: r, _ => exact ⟨a0, a1, a2, a3, a4, r, rfl⟩
theorem enc_ramp_at {k0 : Int} {n i : Nat} (h : i < n) : (encIs (ramp k0 n))[i]? = some (.int .i64 (k0 + i)) := by
  unfold encIs
  rw [List.getElem?_map, List.getElem?_eq_getElem (by rw [ramp_len]; exact h), ramp_at]; rfl

/-- The place of the first that f takes, or -1. -/
def idxFrom {α : Type} (f : α → Bool) : Nat → List α → Int
  | _, [] => -1
  | k, x :: l => if f x then k else idxFrom f (k + 1) l
theorem idxFrom_any {α : Type} (f : α → Bool) : ∀ (l : List α) (k : Nat), decide (0 ≤ idxFrom f k l) = l.any f
  | [], _ => rfl
  | x :: l, k => by
    rw [idxFrom, List.any_cons, ← idxFrom_any f l (k + 1)]
    cases f x <;> simp
theorem idx_yes {α : Type} {f : α → Bool} {l : List α} {k : Nat} (h : k < l.length) (hf : f l[k] = true) : idxFrom f k (l.drop k) = k := by
  rw [List.drop_eq_getElem_cons h, idxFrom, hf]; rfl
theorem idx_no {α : Type} {f : α → Bool} {l : List α} {k : Nat} (h : k < l.length) (hf : f l[k] = false) : idxFrom f k (l.drop k) = idxFrom f (k + 1) (l.drop (k + 1)) := by
  rw [List.drop_eq_getElem_cons h, idxFrom, hf]; rfl
end Go.Proofs.Ytdiojhjkcholiaa

/- Trays: a struct of two ints; its helpers. (Printed by gen_struct.py) -/
namespace Go.Proofs.Ytdiojhjkcholiaa
open Go.RowKit

structure Tray where
  k : Int
  c : Int
  deriving DecidableEq, Inhabited
def Tray.enc (r : Tray) : List Value := [.int .i64 r.k, .int .i64 r.c]
abbrev Tray.val (r : Tray) : Value := .agg #[.int .i64 r.k, .int .i64 r.c]
theorem Tray.enc_len (r : Tray) : r.enc.length = 2 := rfl
theorem Tray.of_ints_enc (ns : List Int) (h : ns.length = 2) : ∃ r : Tray, ns.map (Value.int .i64) = r.enc := by
  match ns, h with
  | [v0, v1], _ => exact ⟨⟨v0, v1⟩, rfl⟩
theorem Tray.of_ints (ns : List Int) (h : ns.length = 2) : ∃ r : Tray, Value.agg (ns.map (Value.int .i64)).toArray = r.val := by
  match ns, h with
  | [v0, v1], _ => exact ⟨⟨v0, v1⟩, rfl⟩
/-- It lies at a place, in every world since. -/
structure TrayS (B : Nat) (w : World) (b o : Nat) (r : Tray) : Prop where
  c0 : ∀ p : Since B w, p.val.cell? ⟨b, o, none⟩ = some (.int .i64 r.k)
  c1 : ∀ p : Since B w, p.val.cell? ⟨b, o + 1, none⟩ = some (.int .i64 r.c)
theorem TrayS.up {B B' : Nat} {w W : World} {b o : Nat} {r : Tray} (h : TrayS B w b o r) (hb : Below B w W) (hB : B ≤ B') : TrayS B' W b o r :=
  ⟨fun p => h.c0 ⟨p.val, hb.trans (p.below.mono hB)⟩, fun p => h.c1 ⟨p.val, hb.trans (p.below.mono hB)⟩⟩
theorem TrayS.of {W : World} {g : Nat} {t : TypeId} {r : Tray} (h : Lies W g t r.enc) : TrayS W.heap.size W g 0 r :=
  ⟨fun p => (p.cell h.lt).trans (h.cell 0), fun p => (p.cell h.lt).trans (h.cell 1)⟩
/-- A slice of them. -/
abbrev TraysR (w : World) (B : Nat) (A : Option Addr) (l : List Tray) : Prop := SlcR w B 2 A l.length (l.flatMap Tray.enc)
theorem TraysR.el {w : World} {B : Nat} {A : Option Addr} {l : List Tray} (h : TraysR w B A l) (hne : 0 < l.length) : ∃ b off, A = some ⟨b, off, none⟩ ∧ b < B ∧ ∀ i (hi : i < l.length), TrayS B w b (off + i * 2) l[i] := by
  obtain ⟨b, off, e, hb, hc⟩ := h.at_ hne
  refine ⟨b, off, e, hb, fun i hi => ?_⟩
  have key : ∀ j, j < 2 → ∀ u, (l[i].enc)[j]? = some u → ∀ p : Since B w, p.val.cell? ⟨b, off + i * 2 + j, none⟩ = some u := fun j hj u hu p => by
    rw [p.cell hb, Nat.add_assoc]
    exact hc _ u (by rw [flat_at Tray.enc 2 Tray.enc_len l i hi j hj]; exact hu)
  exact ⟨key 0 (by omega) _ rfl, key 1 (by omega) _ rfl⟩
theorem lies_trays {W : World} {g : Nat} {t : TypeId} {l : List Tray} (h : Lies W g t (l.flatMap Tray.enc)) (hn : l.length ≤ 9223372036854775807) : TraysR W W.heap.size (some ⟨g, 0, none⟩) l :=
  Lies.reads h (flat_len Tray.enc 2 Tray.enc_len l) hn
theorem infoTray : (Try.prog.info? 74).map (fun i => (i.zero, i.size, i.bytes)) = some (some (.agg #[.int .i64 0, .int .i64 0]), 2, 16) := by kernel_rfl

theorem toTray_any (r : Tray) (w : World) : Calls Try.prog 75 #[r.val] w fun e w' => e = .returned r.val ∧ Below w.heap.size w w' := by
  go_enter Try.func75, Try.ntmps75
  go_wp2
  refine bodyPost_ret (v := r.val) (by simp [results, Try.results75, go_sem]) rfl ⟨rfl, ?_⟩
  go_grown
theorem eqTray_any (r r' : Tray) (w : World) : Calls Try.prog 86 #[r.val, r'.val] w fun e w' => e = .returned (.bool (decide (r = r'))) ∧ Below w.heap.size w w' := by
  obtain ⟨v0, v1⟩ := r
  obtain ⟨u0, u1⟩ := r'
  go_enter Try.func86, Try.ntmps86
  go_wp2
  all_goals (go_ret; refine ⟨by simp_all, ?_⟩; go_grown)

theorem szTrays_any (A : Option Addr) (n c : Nat) (k : Int) (w : World) (hn : n ≤ 9223372036854775807) (_hk : 0 ≤ k) (_hk' : k ≤ 1048576) :
    Calls Try.prog 38 #[.slice A n c, .int .i64 k] w fun e w' => e = .returned (.int .i64 (lessen k n)) ∧ w = w' := by
  go_enter Try.func38, Try.ntmps38
  go_wp2
  all_goals (go_ret; refine ⟨?_, rfl⟩; unfold lessen; first | (rw [if_neg (by omega)]; rfl) | (rw [if_pos (by omega)]; rfl))

set_option maxHeartbeats 1000000 in
theorem toTrays_any (A : Option Addr) (c : Nat) (l : List Tray) (w : World) (h : TraysR w w.heap.size A l) (hn : l.length ≤ 1048576) :
    Calls Try.prog 43 #[.slice A l.length c] w fun e w' => ∃ g, e = .returned (.slice (some ⟨g, 0, none⟩) l.length l.length) ∧ w.heap.size ≤ g ∧ Lies w' g 74 (l.flatMap Tray.enc) ∧ Below w.heap.size w w' := by
  have hmk := fun W => run_make_all (P := Try.prog) 22 74 _ 2 16 Try.underlying22 infoTray l.length (by omega) (by omega) W
  have hrd := h.el
  go_enter Try.func43, Try.ntmps43
  go_wp2
  go_loopw [4] (fun i wr => ∃ (k : Nat) (rest : List Value), k ≤ l.length ∧ i = .int .i64 k ∧ Below w.heap.size w wr ∧ Lies wr w.heap.size 74 ((l.take k).flatMap Tray.enc ++ rest) ∧ rest.length = (l.length - k) * 2) (fun i _ => l.length - (intOf i).toNat)
  case atStart =>
    refine ⟨0, _, Nat.zero_le _, rfl, (Below.refl _ _).alloc (Nat.le_refl _) _, by simpa using Lies.new w _ _, by simp [size_madeCells]⟩
  case round =>
    obtain ⟨k, rest, hk, rfl, hbel, hl, hlen⟩ := hrel
    by_cases hlt : k < l.length
    · obtain ⟨b, off, rfl, hb, hcell⟩ := hrd (by omega)
      have HL := Lib.hid hl; clear hl
      have HN := Lib.hid hlen; clear hlen
      obtain ⟨x, hxe⟩ : ∃ x, x = l[k] := ⟨_, rfl⟩
      obtain ⟨c0, c1⟩ := hcell k hlt
      obtain ⟨q, rfl⟩ : ∃ q : Since w.heap.size w, wr = q.val := ⟨⟨wr, hbel⟩, rfl⟩
      rw [← hxe] at c0 c1
      have HX := Lib.hid hxe; clear hxe
      clear hcell hrd hbel
      go_wp2_with (first
        | (go_at_call 75; refine (toTray_any x _).mono ?_; rintro e w1 ⟨rfl, hb1⟩)
        | (with_reducible refine wpList_store_next (op := ⟨none, .store 74 (.tmp 21) (.tmp 20), _, _, _, _⟩) rfl _ _ _ rfl Tray.enc 2 Tray.enc_len l k hlt rest HN w.heap.size 74 x.enc.toArray ?c1 ?c2 ?c3 ?c4 ?c5 ?c6 ?_; rotate_right; intro w2 old2 hl2 hn2 hg2))
      case c1 => rfl
      case c2 => rfl
      case c3 => rw [HX.out]; rfl
      case c4 => kernel_rfl
      case c5 => simp [Tray.enc, Value.oneCell']
      case c6 => exact HL.out.below hb1 HL.out.lt
      go_wp2
      go_roundw
      case rel => exact ⟨k + 1, old2, by omega, by go_num, (q.below.trans (hb1.mono q.size)).grown hg2 (Nat.le_trans q.size hb1.size) (by rintro _ ⟨⟩; exact Nat.le_refl _), hl2, hn2⟩
      case measure => simp [intOf]; omega
    · have hk' : k = l.length := by omega
      subst hk'
      go_wp2
      go_ret
      refine ⟨w.heap.size, rfl, Nat.le_refl _, ?_, hbel⟩
      have h0 : rest = [] := List.eq_nil_of_length_eq_zero (by omega)
      rw [h0, List.take_of_length_le (Nat.le_refl _), List.append_nil] at hl
      exact hl

def sameTrays (a b : List Tray) : Bool := decide (a = b)
def sameTrayFrom : List Tray → List Tray → Bool
  | [], [] => true
  | x :: a, y :: b => decide (x = y) && sameTrayFrom a b
  | _, _ => false
theorem sameTrayFrom_eq : ∀ a b : List Tray, sameTrayFrom a b = sameTrays a b
  | [], [] => by simp [sameTrayFrom, sameTrays]
  | [], _ :: _ => by simp [sameTrayFrom, sameTrays]
  | _ :: _, [] => by simp [sameTrayFrom, sameTrays]
  | x :: a, y :: b => by simp [sameTrayFrom, sameTrays, sameTrayFrom_eq a b, Bool.decide_and]

set_option maxHeartbeats 1000000 in
theorem eqTrays_any (A B : Option Addr) (c d : Nat) (l m : List Tray) (w : World) (hA : TraysR w w.heap.size A l) (hB : TraysR w w.heap.size B m) :
    Calls Try.prog 48 #[.slice A l.length c, .slice B m.length d] w fun e w' => e = .returned (.bool (sameTrays l m)) ∧ Below w.heap.size w w' := by
  have hlA := hA.big
  have hlB := hB.big
  have hrA := hA.el
  have hrB := hB.el
  by_cases hne : l.length = m.length
  · have hF : Hid (sameTrayFrom l m = sameTrays l m) := sameTrayFrom_eq l m
    have hbn : ((l.length : Int) != (m.length : Int)) = false := by simp [hne]
    have HE := Lib.hid hne; clear hne
    go_enter Try.func48, Try.ntmps48
    go_wp2
    go_loopw [5] (fun i wr => ∃ k : Nat, k ≤ l.length ∧ i = .int .i64 k ∧ (∃ q : Since w.heap.size w, wr = q.val) ∧ Hid (sameTrayFrom (l.drop k) (m.drop k) = sameTrays l m)) (fun i _ => l.length - (intOf i).toNat)
    case atStart => exact ⟨0, Nat.zero_le _, rfl, ⟨Since.start _ _, rfl⟩, hF⟩
    case round =>
      obtain ⟨k, hk, rfl, ⟨q, rfl⟩, HR⟩ := hrel
      by_cases hlt : k < l.length
      · have hlt' : k < m.length := by have := HE.out; omega
        obtain ⟨b, off, rfl, hb, hcell⟩ := hrA (by omega)
        obtain ⟨b', off', rfl, hb', hcell'⟩ := hrB (by omega)
        obtain ⟨c0, c1⟩ := hcell k hlt
        obtain ⟨d0, d1⟩ := hcell' k hlt'
        obtain ⟨x, hxe⟩ : ∃ x, x = l[k] := ⟨_, rfl⟩
        obtain ⟨y, hye⟩ : ∃ x, x = m[k] := ⟨_, rfl⟩
        rw [← hxe] at c0 c1
        rw [← hye] at d0 d1
        have HX := Lib.hid hxe; clear hxe
        have HY := Lib.hid hye; clear hye
        clear hcell hcell' hrA hrB
        have hstep : Hid (sameTrayFrom (l.drop k) (m.drop k) = (decide (x = y) && sameTrayFrom (l.drop (k + 1)) (m.drop (k + 1)))) := by
          rw [List.drop_eq_getElem_cons hlt, List.drop_eq_getElem_cons hlt', HX.out, HY.out]; rfl
        obtain ⟨v, hv⟩ : ∃ v, decide (x = y) = v := ⟨_, rfl⟩
        have HV := Lib.hid hv; clear hv
        cases v
        all_goals
          go_wp2
          refine wp_region_since _ (by kernel_rfl) (by kernel_rfl) ?_
          repeat (any_goals (first | go_big_quiet_step ((go_at_call 86; refine calls_sinceB HV (Nat.le_refl _) (eqTray_any x y _))) | (refine wpQuiet_step (fun K hK => ?_); go_simp; split <;> (refine hK _ ?_; clear hK K))))
          all_goals (refine wpQuiet_nil ?_; rintro _ ⟨q1, rfl⟩)
          all_goals go_wp2
        · go_ret
          refine ⟨?_, q1.below⟩
          rw [← HR.out, hstep.out, HV.out]; rfl
        · go_roundw
          case rel => exact ⟨k + 1, by omega, by go_num, ⟨q1, rfl⟩, by have h1 := HR.out; rw [hstep.out, HV.out] at h1; exact h1⟩
          case measure => simp [intOf]; omega
      · have hk' : k = l.length := by omega
        go_wp2
        go_ret
        refine ⟨?_, q.below⟩
        rw [← HR.out, List.drop_eq_nil_of_le (by omega), List.drop_eq_nil_of_le (by have := HE.out; omega)]; rfl
  · have hbn : ((l.length : Int) != (m.length : Int)) = true := by rw [bne_iff_ne]; omega
    have hF : Hid (sameTrays l m = false) := by
      unfold sameTrays; rw [decide_eq_false_iff_not]; intro h; exact hne (by rw [h])
    go_enter Try.func48, Try.ntmps48
    go_wp2
    go_ret
    exact ⟨by rw [hF.out]; rfl, Below.refl _ _⟩

set_option maxHeartbeats 1000000 in
theorem markTrays_any (A : Option Addr) (c n B : Nat) (k0 : Int) (cs : List Value) (w : World) (hk : -1000000000 ≤ k0) (hk' : k0 ≤ 1000000000) (hn : n ≤ 100000000) (h : OwnS w B 74 2 A n cs) :
    Calls Try.prog 50 #[.slice A n c, .int .i64 k0] w fun e w' => e = .returned (.int .i64 (k0 + 2 * n)) ∧ OwnS w' B 74 2 A n (encIs (ramp k0 (n * 2))) ∧ w.grownBy w' (A.map (·.block)) := by
  obtain ⟨hl, hn', h0 | ⟨g, rest, rfl, hg, hh⟩⟩ := h
  · obtain ⟨rfl, rfl⟩ := h0
    go_enter Try.func50, Try.ntmps50
    go_wp2
    refine wp_loop_rounds 1 ?_
    rw [rounds_succ]
    go_wp2
    go_ret
    exact ⟨by simp, ⟨by simp [ramp], by omega, .inl ⟨rfl, rfl⟩⟩, World.grownBy.refl w _⟩
  · have HF : Hid (Lies w g 74 (encIs (ramp k0 (0 * 2)) ++ (cs ++ rest)) ∧ n * 2 ≤ (cs ++ rest).length) := ⟨by simpa [ramp] using hh, by simp; omega⟩
    clear hh hl
    go_enter Try.func50, Try.ntmps50
    go_wp2
    go_loopw [1, 5] (fun kk i wr => ∃ (j : Nat) (more : List Value), j ≤ n ∧ i = .int .i64 j ∧ kk = .int .i64 (k0 + 2 * j) ∧ Hid (Lies wr g 74 (encIs (ramp k0 (j * 2)) ++ more) ∧ n * 2 ≤ j * 2 + more.length) ∧ w.grownBy wr (some g)) (fun _ i _ => n - (intOf i).toNat)
    case atStart => exact ⟨0, cs ++ rest, Nat.zero_le _, rfl, congrArg _ (by simp), ⟨HF.out.1, by have := HF.out.2; omega⟩, World.grownBy.refl w _⟩
    case round =>
      obtain ⟨j, more, hj, rfl, rfl, HR, hgr⟩ := hrel
      by_cases hlt : j < n
      · obtain ⟨u0, u1, more', rfl⟩ : ∃ u0 u1 more', more = u0 :: u1 :: more' := by
          have h2 := HR.out.2
          have hle : 2 ≤ more.length := by omega
          clear HR HF
          exact split_2 hle
        have HE : Hid ((encIs (ramp k0 (j * 2))).length = j * 2) := by unfold Hid encIs; rw [List.length_map, ramp_len]
        have c0 : wr.cell? ⟨g, j * 2, none⟩ = some u0 := (HR.out.1.cell _).trans (at_behind HE.out 0)
        have f0 : wr.frozen? ⟨g, j * 2, none⟩ = false := HR.out.1.frozen _
        have c1 : wr.cell? ⟨g, j * 2 + 1, none⟩ = some u1 := (HR.out.1.cell _).trans (at_behind HE.out 1)
        have f1 : wr.frozen? ⟨g, j * 2 + 1, none⟩ = false := HR.out.1.frozen _
        go_wp2
        go_roundw
        case rel =>
          refine ⟨j + 1, more', by omega, by go_num, congrArg _ (by omega), ⟨?_, by have := HR.out.2; simp only [List.length_cons] at this; omega⟩, grown_set (grown_set (hgr))⟩
          have h1 := HR.out.1
          have h1 := h1.set (j * 2) (.int .i64 (k0 + 2 * (j : Int)))
          have e0 := fun r u => set_behind (r := r) HE.out 0 (u : Value)
          rw [Nat.add_zero] at e0
          rw [e0] at h1
          have h1 := h1.set (j * 2 + 1) (.int .i64 (k0 + 2 * (j : Int) + 1))
          rw [set_behind HE.out 1] at h1
          have e : ramp k0 ((j + 1) * 2) = ramp k0 (j * 2) ++ [k0 + 2 * (j : Int), k0 + 2 * (j : Int) + 1] := by
            rw [show (j + 1) * 2 = j * 2 + 2 by omega]
            simp only [ramp_snoc, List.append_assoc, List.cons_append, List.nil_append]
            simp
            omega
          rw [e]
          unfold encIs at h1 ⊢
          rw [List.map_append, List.append_assoc]
          exact h1
        case measure => simp [intOf]; omega
      · have HJ : Hid (j = n) := by unfold Hid; omega
        go_wp2
        go_ret
        refine ⟨by rw [← HJ.out]; rfl, ⟨by rw [encIs_len, ramp_len, Nat.mul_one], hn', .inr ⟨g, more, rfl, hg, by rw [← HJ.out]; exact HR.out.1⟩⟩, hgr⟩

set_option maxHeartbeats 1000000 in
theorem heldTrays_any (A : Option Addr) (c n : Nat) (k0 : Int) (w : World) (hk : -1000000000 ≤ k0) (hk' : k0 ≤ 1000000000) (hn : n ≤ 100000000) (h : SlcR w w.heap.size 2 A n (encIs (ramp k0 (n * 2)))) :
    Calls Try.prog 52 #[.slice A n c, .int .i64 k0] w fun e w' => e = .returned (.int .i64 (k0 + 2 * n)) ∧ Below w.heap.size w w' := by
  have hrd := h.at_
  go_enter Try.func52, Try.ntmps52
  go_wp2
  go_loopw [1, 5] (fun kk i wr => ∃ j : Nat, j ≤ n ∧ i = .int .i64 j ∧ kk = .int .i64 (k0 + 2 * j) ∧ Below w.heap.size w wr) (fun _ i _ => n - (intOf i).toNat)
  case atStart => exact ⟨0, Nat.zero_le _, rfl, congrArg _ (by simp), Below.refl _ _⟩
  case round =>
    obtain ⟨j, hj, rfl, rfl, hbr⟩ := hrel
    by_cases hlt : j < n
    · obtain ⟨b, off, rfl, hb, hcell⟩ := hrd (by omega)
      obtain ⟨q, rfl⟩ : ∃ q : Since w.heap.size w, wr = q.val := ⟨⟨wr, hbr⟩, rfl⟩
      have key : ∀ (i : Nat), i < 2 → ∀ p : Since w.heap.size w, p.val.cell? ⟨b, off + j * 2 + i, none⟩ = some (.int .i64 (k0 + 2 * (j : Int) + i)) := fun i hi p => by
        rw [p.cell hb, Nat.add_assoc, hcell (j * 2 + i) _ (enc_ramp_at (by omega))]
        congr 2
        omega
      have c0 : ∀ p : Since w.heap.size w, p.val.cell? ⟨b, off + j * 2, none⟩ = some (.int .i64 (k0 + 2 * (j : Int))) := fun p => by
        have := key 0 (by omega) p
        simpa using this
      have c1 : ∀ p : Since w.heap.size w, p.val.cell? ⟨b, off + j * 2 + 1, none⟩ = some (.int .i64 (k0 + 2 * (j : Int) + 1)) := fun p => by
        have := key 1 (by omega) p
        rw [this]; congr 2 <;> omega
      clear key hcell hrd
      go_wp2
      go_roundw
      case rel => exact ⟨j + 1, by omega, by go_num, congrArg _ (by omega), q.below⟩
      case measure => simp [intOf]; omega
    · have HJ : Hid (j = n) := by unfold Hid; omega
      clear hrd
      go_wp2
      go_ret
      exact ⟨by rw [← HJ.out]; rfl, hbr⟩

end Go.Proofs.Ytdiojhjkcholiaa

/- Outings: a struct of three ints; its helpers. (Printed by gen_struct.py) -/
namespace Go.Proofs.Ytdiojhjkcholiaa
open Go.RowKit

structure Outing where
  k : Int
  p : Int
  c : Int
  deriving DecidableEq, Inhabited
def Outing.enc (r : Outing) : List Value := [.int .i64 r.k, .int .i64 r.p, .int .i64 r.c]
abbrev Outing.val (r : Outing) : Value := .agg #[.int .i64 r.k, .int .i64 r.p, .int .i64 r.c]
theorem Outing.enc_len (r : Outing) : r.enc.length = 3 := rfl
theorem Outing.of_ints_enc (ns : List Int) (h : ns.length = 3) : ∃ r : Outing, ns.map (Value.int .i64) = r.enc := by
  match ns, h with
  | [v0, v1, v2], _ => exact ⟨⟨v0, v1, v2⟩, rfl⟩
theorem Outing.of_ints (ns : List Int) (h : ns.length = 3) : ∃ r : Outing, Value.agg (ns.map (Value.int .i64)).toArray = r.val := by
  match ns, h with
  | [v0, v1, v2], _ => exact ⟨⟨v0, v1, v2⟩, rfl⟩
/-- It lies at a place, in every world since. -/
structure OutingS (B : Nat) (w : World) (b o : Nat) (r : Outing) : Prop where
  c0 : ∀ p : Since B w, p.val.cell? ⟨b, o, none⟩ = some (.int .i64 r.k)
  c1 : ∀ p : Since B w, p.val.cell? ⟨b, o + 1, none⟩ = some (.int .i64 r.p)
  c2 : ∀ p : Since B w, p.val.cell? ⟨b, o + 2, none⟩ = some (.int .i64 r.c)
theorem OutingS.up {B B' : Nat} {w W : World} {b o : Nat} {r : Outing} (h : OutingS B w b o r) (hb : Below B w W) (hB : B ≤ B') : OutingS B' W b o r :=
  ⟨fun p => h.c0 ⟨p.val, hb.trans (p.below.mono hB)⟩, fun p => h.c1 ⟨p.val, hb.trans (p.below.mono hB)⟩, fun p => h.c2 ⟨p.val, hb.trans (p.below.mono hB)⟩⟩
theorem OutingS.of {W : World} {g : Nat} {t : TypeId} {r : Outing} (h : Lies W g t r.enc) : OutingS W.heap.size W g 0 r :=
  ⟨fun p => (p.cell h.lt).trans (h.cell 0), fun p => (p.cell h.lt).trans (h.cell 1), fun p => (p.cell h.lt).trans (h.cell 2)⟩
/-- A slice of them. -/
abbrev OutingsR (w : World) (B : Nat) (A : Option Addr) (l : List Outing) : Prop := SlcR w B 3 A l.length (l.flatMap Outing.enc)
theorem OutingsR.el {w : World} {B : Nat} {A : Option Addr} {l : List Outing} (h : OutingsR w B A l) (hne : 0 < l.length) : ∃ b off, A = some ⟨b, off, none⟩ ∧ b < B ∧ ∀ i (hi : i < l.length), OutingS B w b (off + i * 3) l[i] := by
  obtain ⟨b, off, e, hb, hc⟩ := h.at_ hne
  refine ⟨b, off, e, hb, fun i hi => ?_⟩
  have key : ∀ j, j < 3 → ∀ u, (l[i].enc)[j]? = some u → ∀ p : Since B w, p.val.cell? ⟨b, off + i * 3 + j, none⟩ = some u := fun j hj u hu p => by
    rw [p.cell hb, Nat.add_assoc]
    exact hc _ u (by rw [flat_at Outing.enc 3 Outing.enc_len l i hi j hj]; exact hu)
  exact ⟨key 0 (by omega) _ rfl, key 1 (by omega) _ rfl, key 2 (by omega) _ rfl⟩
theorem lies_outings {W : World} {g : Nat} {t : TypeId} {l : List Outing} (h : Lies W g t (l.flatMap Outing.enc)) (hn : l.length ≤ 9223372036854775807) : OutingsR W W.heap.size (some ⟨g, 0, none⟩) l :=
  Lies.reads h (flat_len Outing.enc 3 Outing.enc_len l) hn
theorem infoOuting : (Try.prog.info? 100).map (fun i => (i.zero, i.size, i.bytes)) = some (some (.agg #[.int .i64 0, .int .i64 0, .int .i64 0]), 3, 24) := by kernel_rfl

theorem toOuting_any (r : Outing) (w : World) : Calls Try.prog 76 #[r.val] w fun e w' => e = .returned r.val ∧ Below w.heap.size w w' := by
  go_enter Try.func76, Try.ntmps76
  go_wp2
  refine bodyPost_ret (v := r.val) (by simp [results, Try.results76, go_sem]) rfl ⟨rfl, ?_⟩
  go_grown
theorem eqOuting_any (r r' : Outing) (w : World) : Calls Try.prog 87 #[r.val, r'.val] w fun e w' => e = .returned (.bool (decide (r = r'))) ∧ Below w.heap.size w w' := by
  obtain ⟨v0, v1, v2⟩ := r
  obtain ⟨u0, u1, u2⟩ := r'
  go_enter Try.func87, Try.ntmps87
  go_wp2
  all_goals (go_ret; refine ⟨by simp_all, ?_⟩; go_grown)

theorem szOutings_any (A : Option Addr) (n c : Nat) (k : Int) (w : World) (hn : n ≤ 9223372036854775807) (_hk : 0 ≤ k) (_hk' : k ≤ 1048576) :
    Calls Try.prog 39 #[.slice A n c, .int .i64 k] w fun e w' => e = .returned (.int .i64 (lessen k n)) ∧ w = w' := by
  go_enter Try.func39, Try.ntmps39
  go_wp2
  all_goals (go_ret; refine ⟨?_, rfl⟩; unfold lessen; first | (rw [if_neg (by omega)]; rfl) | (rw [if_pos (by omega)]; rfl))

set_option maxHeartbeats 1000000 in
theorem toOutings_any (A : Option Addr) (c : Nat) (l : List Outing) (w : World) (h : OutingsR w w.heap.size A l) (hn : l.length ≤ 1048576) :
    Calls Try.prog 44 #[.slice A l.length c] w fun e w' => ∃ g, e = .returned (.slice (some ⟨g, 0, none⟩) l.length l.length) ∧ w.heap.size ≤ g ∧ Lies w' g 100 (l.flatMap Outing.enc) ∧ Below w.heap.size w w' := by
  have hmk := fun W => run_make_all (P := Try.prog) 23 100 _ 3 24 Try.underlying23 infoOuting l.length (by omega) (by omega) W
  have hrd := h.el
  go_enter Try.func44, Try.ntmps44
  go_wp2
  go_loopw [4] (fun i wr => ∃ (k : Nat) (rest : List Value), k ≤ l.length ∧ i = .int .i64 k ∧ Below w.heap.size w wr ∧ Lies wr w.heap.size 100 ((l.take k).flatMap Outing.enc ++ rest) ∧ rest.length = (l.length - k) * 3) (fun i _ => l.length - (intOf i).toNat)
  case atStart =>
    refine ⟨0, _, Nat.zero_le _, rfl, (Below.refl _ _).alloc (Nat.le_refl _) _, by simpa using Lies.new w _ _, by simp [size_madeCells]⟩
  case round =>
    obtain ⟨k, rest, hk, rfl, hbel, hl, hlen⟩ := hrel
    by_cases hlt : k < l.length
    · obtain ⟨b, off, rfl, hb, hcell⟩ := hrd (by omega)
      have HL := Lib.hid hl; clear hl
      have HN := Lib.hid hlen; clear hlen
      obtain ⟨x, hxe⟩ : ∃ x, x = l[k] := ⟨_, rfl⟩
      obtain ⟨c0, c1, c2⟩ := hcell k hlt
      obtain ⟨q, rfl⟩ : ∃ q : Since w.heap.size w, wr = q.val := ⟨⟨wr, hbel⟩, rfl⟩
      rw [← hxe] at c0 c1 c2
      have HX := Lib.hid hxe; clear hxe
      clear hcell hrd hbel
      go_wp2_with (first
        | (go_at_call 76; refine (toOuting_any x _).mono ?_; rintro e w1 ⟨rfl, hb1⟩)
        | (with_reducible refine wpList_store_next (op := ⟨none, .store 100 (.tmp 21) (.tmp 20), _, _, _, _⟩) rfl _ _ _ rfl Outing.enc 3 Outing.enc_len l k hlt rest HN w.heap.size 100 x.enc.toArray ?c1 ?c2 ?c3 ?c4 ?c5 ?c6 ?_; rotate_right; intro w2 old2 hl2 hn2 hg2))
      case c1 => rfl
      case c2 => rfl
      case c3 => rw [HX.out]; rfl
      case c4 => kernel_rfl
      case c5 => simp [Outing.enc, Value.oneCell']
      case c6 => exact HL.out.below hb1 HL.out.lt
      go_wp2
      go_roundw
      case rel => exact ⟨k + 1, old2, by omega, by go_num, (q.below.trans (hb1.mono q.size)).grown hg2 (Nat.le_trans q.size hb1.size) (by rintro _ ⟨⟩; exact Nat.le_refl _), hl2, hn2⟩
      case measure => simp [intOf]; omega
    · have hk' : k = l.length := by omega
      subst hk'
      go_wp2
      go_ret
      refine ⟨w.heap.size, rfl, Nat.le_refl _, ?_, hbel⟩
      have h0 : rest = [] := List.eq_nil_of_length_eq_zero (by omega)
      rw [h0, List.take_of_length_le (Nat.le_refl _), List.append_nil] at hl
      exact hl

def sameOutings (a b : List Outing) : Bool := decide (a = b)
def sameOutingFrom : List Outing → List Outing → Bool
  | [], [] => true
  | x :: a, y :: b => decide (x = y) && sameOutingFrom a b
  | _, _ => false
theorem sameOutingFrom_eq : ∀ a b : List Outing, sameOutingFrom a b = sameOutings a b
  | [], [] => by simp [sameOutingFrom, sameOutings]
  | [], _ :: _ => by simp [sameOutingFrom, sameOutings]
  | _ :: _, [] => by simp [sameOutingFrom, sameOutings]
  | x :: a, y :: b => by simp [sameOutingFrom, sameOutings, sameOutingFrom_eq a b, Bool.decide_and]

set_option maxHeartbeats 1000000 in
theorem eqOutings_any (A B : Option Addr) (c d : Nat) (l m : List Outing) (w : World) (hA : OutingsR w w.heap.size A l) (hB : OutingsR w w.heap.size B m) :
    Calls Try.prog 49 #[.slice A l.length c, .slice B m.length d] w fun e w' => e = .returned (.bool (sameOutings l m)) ∧ Below w.heap.size w w' := by
  have hlA := hA.big
  have hlB := hB.big
  have hrA := hA.el
  have hrB := hB.el
  by_cases hne : l.length = m.length
  · have hF : Hid (sameOutingFrom l m = sameOutings l m) := sameOutingFrom_eq l m
    have hbn : ((l.length : Int) != (m.length : Int)) = false := by simp [hne]
    have HE := Lib.hid hne; clear hne
    go_enter Try.func49, Try.ntmps49
    go_wp2
    go_loopw [5] (fun i wr => ∃ k : Nat, k ≤ l.length ∧ i = .int .i64 k ∧ (∃ q : Since w.heap.size w, wr = q.val) ∧ Hid (sameOutingFrom (l.drop k) (m.drop k) = sameOutings l m)) (fun i _ => l.length - (intOf i).toNat)
    case atStart => exact ⟨0, Nat.zero_le _, rfl, ⟨Since.start _ _, rfl⟩, hF⟩
    case round =>
      obtain ⟨k, hk, rfl, ⟨q, rfl⟩, HR⟩ := hrel
      by_cases hlt : k < l.length
      · have hlt' : k < m.length := by have := HE.out; omega
        obtain ⟨b, off, rfl, hb, hcell⟩ := hrA (by omega)
        obtain ⟨b', off', rfl, hb', hcell'⟩ := hrB (by omega)
        obtain ⟨c0, c1, c2⟩ := hcell k hlt
        obtain ⟨d0, d1, d2⟩ := hcell' k hlt'
        obtain ⟨x, hxe⟩ : ∃ x, x = l[k] := ⟨_, rfl⟩
        obtain ⟨y, hye⟩ : ∃ x, x = m[k] := ⟨_, rfl⟩
        rw [← hxe] at c0 c1 c2
        rw [← hye] at d0 d1 d2
        have HX := Lib.hid hxe; clear hxe
        have HY := Lib.hid hye; clear hye
        clear hcell hcell' hrA hrB
        have hstep : Hid (sameOutingFrom (l.drop k) (m.drop k) = (decide (x = y) && sameOutingFrom (l.drop (k + 1)) (m.drop (k + 1)))) := by
          rw [List.drop_eq_getElem_cons hlt, List.drop_eq_getElem_cons hlt', HX.out, HY.out]; rfl
        obtain ⟨v, hv⟩ : ∃ v, decide (x = y) = v := ⟨_, rfl⟩
        have HV := Lib.hid hv; clear hv
        cases v
        all_goals
          go_wp2
          refine wp_region_since _ (by kernel_rfl) (by kernel_rfl) ?_
          repeat (any_goals (first | go_big_quiet_step ((go_at_call 87; refine calls_sinceB HV (Nat.le_refl _) (eqOuting_any x y _))) | (refine wpQuiet_step (fun K hK => ?_); go_simp; split <;> (refine hK _ ?_; clear hK K))))
          all_goals (refine wpQuiet_nil ?_; rintro _ ⟨q1, rfl⟩)
          all_goals go_wp2
        · go_ret
          refine ⟨?_, q1.below⟩
          rw [← HR.out, hstep.out, HV.out]; rfl
        · go_roundw
          case rel => exact ⟨k + 1, by omega, by go_num, ⟨q1, rfl⟩, by have h1 := HR.out; rw [hstep.out, HV.out] at h1; exact h1⟩
          case measure => simp [intOf]; omega
      · have hk' : k = l.length := by omega
        go_wp2
        go_ret
        refine ⟨?_, q.below⟩
        rw [← HR.out, List.drop_eq_nil_of_le (by omega), List.drop_eq_nil_of_le (by have := HE.out; omega)]; rfl
  · have hbn : ((l.length : Int) != (m.length : Int)) = true := by rw [bne_iff_ne]; omega
    have hF : Hid (sameOutings l m = false) := by
      unfold sameOutings; rw [decide_eq_false_iff_not]; intro h; exact hne (by rw [h])
    go_enter Try.func49, Try.ntmps49
    go_wp2
    go_ret
    exact ⟨by rw [hF.out]; rfl, Below.refl _ _⟩

set_option maxHeartbeats 1000000 in
theorem markOutings_any (A : Option Addr) (c n B : Nat) (k0 : Int) (cs : List Value) (w : World) (hk : -1000000000 ≤ k0) (hk' : k0 ≤ 1000000000) (hn : n ≤ 100000000) (h : OwnS w B 100 3 A n cs) :
    Calls Try.prog 51 #[.slice A n c, .int .i64 k0] w fun e w' => e = .returned (.int .i64 (k0 + 3 * n)) ∧ OwnS w' B 100 3 A n (encIs (ramp k0 (n * 3))) ∧ w.grownBy w' (A.map (·.block)) := by
  obtain ⟨hl, hn', h0 | ⟨g, rest, rfl, hg, hh⟩⟩ := h
  · obtain ⟨rfl, rfl⟩ := h0
    go_enter Try.func51, Try.ntmps51
    go_wp2
    refine wp_loop_rounds 1 ?_
    rw [rounds_succ]
    go_wp2
    go_ret
    exact ⟨by simp, ⟨by simp [ramp], by omega, .inl ⟨rfl, rfl⟩⟩, World.grownBy.refl w _⟩
  · have HF : Hid (Lies w g 100 (encIs (ramp k0 (0 * 3)) ++ (cs ++ rest)) ∧ n * 3 ≤ (cs ++ rest).length) := ⟨by simpa [ramp] using hh, by simp; omega⟩
    clear hh hl
    go_enter Try.func51, Try.ntmps51
    go_wp2
    go_loopw [1, 5] (fun kk i wr => ∃ (j : Nat) (more : List Value), j ≤ n ∧ i = .int .i64 j ∧ kk = .int .i64 (k0 + 3 * j) ∧ Hid (Lies wr g 100 (encIs (ramp k0 (j * 3)) ++ more) ∧ n * 3 ≤ j * 3 + more.length) ∧ w.grownBy wr (some g)) (fun _ i _ => n - (intOf i).toNat)
    case atStart => exact ⟨0, cs ++ rest, Nat.zero_le _, rfl, congrArg _ (by simp), ⟨HF.out.1, by have := HF.out.2; omega⟩, World.grownBy.refl w _⟩
    case round =>
      obtain ⟨j, more, hj, rfl, rfl, HR, hgr⟩ := hrel
      by_cases hlt : j < n
      · obtain ⟨u0, u1, u2, more', rfl⟩ : ∃ u0 u1 u2 more', more = u0 :: u1 :: u2 :: more' := by
          have h2 := HR.out.2
          have hle : 3 ≤ more.length := by omega
          clear HR HF
          exact split_3 hle
        have HE : Hid ((encIs (ramp k0 (j * 3))).length = j * 3) := by unfold Hid encIs; rw [List.length_map, ramp_len]
        have c0 : wr.cell? ⟨g, j * 3, none⟩ = some u0 := (HR.out.1.cell _).trans (at_behind HE.out 0)
        have f0 : wr.frozen? ⟨g, j * 3, none⟩ = false := HR.out.1.frozen _
        have c1 : wr.cell? ⟨g, j * 3 + 1, none⟩ = some u1 := (HR.out.1.cell _).trans (at_behind HE.out 1)
        have f1 : wr.frozen? ⟨g, j * 3 + 1, none⟩ = false := HR.out.1.frozen _
        have c2 : wr.cell? ⟨g, j * 3 + 2, none⟩ = some u2 := (HR.out.1.cell _).trans (at_behind HE.out 2)
        have f2 : wr.frozen? ⟨g, j * 3 + 2, none⟩ = false := HR.out.1.frozen _
        go_wp2
        go_roundw
        case rel =>
          refine ⟨j + 1, more', by omega, by go_num, congrArg _ (by omega), ⟨?_, by have := HR.out.2; simp only [List.length_cons] at this; omega⟩, grown_set (grown_set (grown_set (hgr)))⟩
          have h1 := HR.out.1
          have h1 := h1.set (j * 3) (.int .i64 (k0 + 3 * (j : Int)))
          have e0 := fun r u => set_behind (r := r) HE.out 0 (u : Value)
          rw [Nat.add_zero] at e0
          rw [e0] at h1
          have h1 := h1.set (j * 3 + 1) (.int .i64 (k0 + 3 * (j : Int) + 1))
          rw [set_behind HE.out 1] at h1
          have h1 := h1.set (j * 3 + 2) (.int .i64 (k0 + 3 * (j : Int) + 1 + 1))
          rw [set_behind HE.out 2] at h1
          have e : ramp k0 ((j + 1) * 3) = ramp k0 (j * 3) ++ [k0 + 3 * (j : Int), k0 + 3 * (j : Int) + 1, k0 + 3 * (j : Int) + 1 + 1] := by
            rw [show (j + 1) * 3 = j * 3 + 3 by omega]
            simp only [ramp_snoc, List.append_assoc, List.cons_append, List.nil_append]
            simp
            omega
          rw [e]
          unfold encIs at h1 ⊢
          rw [List.map_append, List.append_assoc]
          exact h1
        case measure => simp [intOf]; omega
      · have HJ : Hid (j = n) := by unfold Hid; omega
        go_wp2
        go_ret
        refine ⟨by rw [← HJ.out]; rfl, ⟨by rw [encIs_len, ramp_len, Nat.mul_one], hn', .inr ⟨g, more, rfl, hg, by rw [← HJ.out]; exact HR.out.1⟩⟩, hgr⟩

set_option maxHeartbeats 1000000 in
theorem heldOutings_any (A : Option Addr) (c n : Nat) (k0 : Int) (w : World) (hk : -1000000000 ≤ k0) (hk' : k0 ≤ 1000000000) (hn : n ≤ 100000000) (h : SlcR w w.heap.size 3 A n (encIs (ramp k0 (n * 3)))) :
    Calls Try.prog 53 #[.slice A n c, .int .i64 k0] w fun e w' => e = .returned (.int .i64 (k0 + 3 * n)) ∧ Below w.heap.size w w' := by
  have hrd := h.at_
  go_enter Try.func53, Try.ntmps53
  go_wp2
  go_loopw [1, 5] (fun kk i wr => ∃ j : Nat, j ≤ n ∧ i = .int .i64 j ∧ kk = .int .i64 (k0 + 3 * j) ∧ Below w.heap.size w wr) (fun _ i _ => n - (intOf i).toNat)
  case atStart => exact ⟨0, Nat.zero_le _, rfl, congrArg _ (by simp), Below.refl _ _⟩
  case round =>
    obtain ⟨j, hj, rfl, rfl, hbr⟩ := hrel
    by_cases hlt : j < n
    · obtain ⟨b, off, rfl, hb, hcell⟩ := hrd (by omega)
      obtain ⟨q, rfl⟩ : ∃ q : Since w.heap.size w, wr = q.val := ⟨⟨wr, hbr⟩, rfl⟩
      have key : ∀ (i : Nat), i < 3 → ∀ p : Since w.heap.size w, p.val.cell? ⟨b, off + j * 3 + i, none⟩ = some (.int .i64 (k0 + 3 * (j : Int) + i)) := fun i hi p => by
        rw [p.cell hb, Nat.add_assoc, hcell (j * 3 + i) _ (enc_ramp_at (by omega))]
        congr 2
        omega
      have c0 : ∀ p : Since w.heap.size w, p.val.cell? ⟨b, off + j * 3, none⟩ = some (.int .i64 (k0 + 3 * (j : Int))) := fun p => by
        have := key 0 (by omega) p
        simpa using this
      have c1 : ∀ p : Since w.heap.size w, p.val.cell? ⟨b, off + j * 3 + 1, none⟩ = some (.int .i64 (k0 + 3 * (j : Int) + 1)) := fun p => by
        have := key 1 (by omega) p
        rw [this]; congr 2 <;> omega
      have c2 : ∀ p : Since w.heap.size w, p.val.cell? ⟨b, off + j * 3 + 2, none⟩ = some (.int .i64 (k0 + 3 * (j : Int) + 1 + 1)) := fun p => by
        have := key 2 (by omega) p
        rw [this]; congr 2 <;> omega
      clear key hcell hrd
      go_wp2
      go_roundw
      case rel => exact ⟨j + 1, by omega, by go_num, congrArg _ (by omega), q.below⟩
      case measure => simp [intOf]; omega
    · have HJ : Hid (j = n) := by unfold Hid; omega
      clear hrd
      go_wp2
      go_ret
      exact ⟨by rw [← HJ.out]; rfl, hbr⟩

end Go.Proofs.Ytdiojhjkcholiaa

/- Offices: what they hold, when they are valid, sums (no program's function in sight). -/
namespace Go.Proofs.Ytdiojhjkcholiaa
open Go.RowKit

structure Off where
  TA : Option Addr
  t : List Tray
  tc : Nat
  OA : Option Addr
  o : List Outing
  oc : Nat
  got : Int
  sold : Int
  missed : Int
def Off.enc (x : Off) : List Value := [.slice x.TA x.t.length x.tc, .slice x.OA x.o.length x.oc, .int .i64 x.got, .int .i64 x.sold, .int .i64 x.missed]
abbrev Off.val (x : Off) : Value := .agg #[.slice x.TA x.t.length x.tc, .slice x.OA x.o.length x.oc, .int .i64 x.got, .int .i64 x.sold, .int .i64 x.missed]
theorem Off.enc_len (x : Off) : x.enc.length = 5 := rfl
/-- Its slices read. -/
structure OffR (w : World) (B : Nat) (x : Off) : Prop where
  ts : TraysR w B x.TA x.t
  os : OutingsR w B x.OA x.o
section
variable {w w' : World} {B : Nat} {x : Off}
theorem OffR.below (h : OffR w B x) (hb : Below B w w') : OffR w' B x := ⟨SlcR.below h.ts hb, SlcR.below h.os hb⟩
theorem OffR.mono {B' : Nat} (h : OffR w B x) (hB : B ≤ B') : OffR w B' x := ⟨SlcR.mono h.ts hB, SlcR.mono h.os hB⟩
theorem OffR.up (h : OffR w B x) (hb : Below B w w') (hB : B ≤ w.heap.size) : OffR w' w'.heap.size x := ⟨SlcR.up h.ts hb hB, SlcR.up h.os hb hB⟩
theorem OffR.then (h : OffR w w.heap.size x) (hb : Below w.heap.size w w') : OffR w' w'.heap.size x := h.up hb (Nat.le_refl _)
end

def Tray.ok (r : Tray) : Bool := inR r.k 1 99 && inR r.c 0 9999
theorem Tray.bounds {r : Tray} (h : r.ok = true) : (1 ≤ r.k ∧ r.k ≤ 99) ∧ 0 ≤ r.c ∧ r.c ≤ 9999 := by
  unfold Tray.ok at h; rw [Bool.and_eq_true, inR_iff, inR_iff] at h; exact h
/-- Trays from place n on, behind one of the kind p. -/
def traysFrom : Nat → Int → List Tray → Bool
  | _, _, [] => true
  | n, p, r :: l => r.ok && (decide (n = 0) || decide (p < r.k)) && traysFrom (n + 1) r.k l
def traysOk (l : List Tray) : Bool := traysFrom 0 0 l
theorem traysFrom_all : ∀ (l : List Tray) (n : Nat) (p : Int), traysFrom n p l = true → ∀ i (h : i < l.length), l[i].ok = true
  | r :: l, n, p, hg, i, hi => by
    simp only [traysFrom, Bool.and_eq_true] at hg
    cases i with
    | zero => exact hg.1.1
    | succ i => exact traysFrom_all l (n + 1) r.k hg.2 i (by simpa using hi)

/-- Whether there is a tray of a kind. -/
def hasTray (ts : List Tray) (k : Int) : Bool := ts.any fun t => decide (t.k = k)
def trayIx (ts : List Tray) (k : Int) : Int := idxFrom (fun t : Tray => decide (t.k = k)) 0 ts
theorem trayIx_has (ts : List Tray) (k : Int) : decide (0 ≤ trayIx ts k) = hasTray ts k := idxFrom_any _ ts 0
def Outing.ok (ts : List Tray) (r : Outing) : Bool := hasTray ts r.k && inR r.p 1 999 && inR r.c 1 9999
theorem Outing.bounds {ts : List Tray} {r : Outing} (h : r.ok ts = true) : hasTray ts r.k = true ∧ (1 ≤ r.p ∧ r.p ≤ 999) ∧ 1 ≤ r.c ∧ r.c ≤ 9999 := by
  unfold Outing.ok at h; rw [Bool.and_eq_true, Bool.and_eq_true, inR_iff, inR_iff] at h; exact ⟨h.1.1, h.1.2, h.2⟩
/-- One outing comes before another one. -/
def before (a b : Outing) : Bool := decide (a.k < b.k) || decide (a.k = b.k) && decide (a.p < b.p)
/-- Outings, behind the one p if there is one. -/
def outsFrom (ts : List Tray) : Option Outing → List Outing → Bool
  | _, [] => true
  | p, r :: l => r.ok ts && (match p with | none => true | some q => before q r) && outsFrom ts (some r) l
def outsOk (ts : List Tray) (l : List Outing) : Bool := outsFrom ts none l
theorem outsFrom_all (ts : List Tray) : ∀ (l : List Outing) (p : Option Outing), outsFrom ts p l = true → ∀ i (h : i < l.length), l[i].ok ts = true
  | r :: l, p, hg, i, hi => by
    simp only [outsFrom, Bool.and_eq_true] at hg
    cases i with
    | zero => exact hg.1.1
    | succ i => exact outsFrom_all ts l (some r) hg.2 i (by simpa using hi)
theorem hasTray_bounds {ts : List Tray} {k : Int} (hall : ∀ i (h : i < ts.length), ts[i].ok = true) (h : hasTray ts k = true) : 1 ≤ k ∧ k ≤ 99 := by
  unfold hasTray at h
  rw [List.any_eq_true] at h
  obtain ⟨t, ht, hk⟩ := h
  obtain ⟨i, hi, rfl⟩ := List.getElem_of_mem ht
  have := (Tray.bounds (hall i hi)).1
  have e := of_decide_eq_true hk
  omega
/-- The reference's key puts valid outings in the same order. -/
theorem before_key {a b : Outing} (ha : 1 ≤ a.p ∧ a.p ≤ 999) (hb : 1 ≤ b.p ∧ b.p ≤ 999) : before a b = decide (1000 * a.k + a.p < 1000 * b.k + b.p) := by
  unfold before
  by_cases h1 : a.k < b.k
  · rw [decide_eq_true h1, Bool.true_or]; exact (decide_eq_true (by omega)).symm
  · rw [decide_eq_false h1, Bool.false_or]
    by_cases h2 : a.k = b.k
    · rw [decide_eq_true h2, Bool.true_and]
      by_cases h3 : a.p < b.p
      · rw [decide_eq_true h3]; exact (decide_eq_true (by omega)).symm
      · rw [decide_eq_false h3]; exact (decide_eq_false (by omega)).symm
    · rw [decide_eq_false h2, Bool.false_and]; exact (decide_eq_false (by omega)).symm

def inFrom : Int → List Tray → Int
  | s, [] => s
  | s, r :: l => inFrom (s + r.c) l
def outFrom (f : Outing → Bool) : Int → List Outing → Int
  | s, [] => s
  | s, r :: l => outFrom f (if f r then s + r.c else s) l
def inSum (l : List Tray) : Int := inFrom 0 l
def outSum (f : Outing → Bool) (l : List Outing) : Int := outFrom f 0 l
abbrev every : Outing → Bool := fun _ => true
theorem in_step {l : List Tray} {k : Nat} (h : k < l.length) (s : Int) : inFrom s (l.drop k) = inFrom (s + l[k].c) (l.drop (k + 1)) := by
  rw [List.drop_eq_getElem_cons h]; rfl
theorem out_step {f : Outing → Bool} {l : List Outing} {k : Nat} (h : k < l.length) (s : Int) : outFrom f s (l.drop k) = outFrom f (if f l[k] then s + l[k].c else s) (l.drop (k + 1)) := by
  rw [List.drop_eq_getElem_cons h]; rfl
theorem inFrom_bd : ∀ (l : List Tray) (s : Int), (∀ i (h : i < l.length), l[i].ok = true) → s ≤ inFrom s l ∧ inFrom s l ≤ s + 9999 * l.length
  | [], s, _ => by simp [inFrom]
  | r :: l, s, h => by
    have hr := (Tray.bounds (h 0 (by simp))).2
    simp only [List.getElem_cons_zero] at hr
    have := inFrom_bd l (s + r.c) (fun i hi => by have := h (i + 1) (by simpa using hi); simpa using this)
    simp only [inFrom, List.length_cons]
    omega
theorem outFrom_bd (f : Outing → Bool) (ts : List Tray) : ∀ (l : List Outing) (s : Int), (∀ i (h : i < l.length), l[i].ok ts = true) → s ≤ outFrom f s l ∧ outFrom f s l ≤ s + 9999 * l.length
  | [], s, _ => by simp [outFrom]
  | r :: l, s, h => by
    have hr := (Outing.bounds (h 0 (by simp))).2.2
    simp only [List.getElem_cons_zero] at hr
    have := outFrom_bd f ts l (if f r then s + r.c else s) (fun i hi => by have := h (i + 1) (by simpa using hi); simpa using this)
    simp only [outFrom, List.length_cons]
    cases hf : f r <;> simp only [hf, if_true, if_false, Bool.false_eq_true] at this ⊢ <;> omega

def sizesOk (x : Off) : Bool := decide (x.t.length ≤ 8) && decide (x.o.length ≤ 8)
def numsOk (x : Off) : Bool := inR x.got 0 99999 && inR x.sold 0 99999 && inR x.missed 0 99999
def sumOk (x : Off) : Bool := decide (x.got = inSum x.t + outSum every x.o + x.sold + x.missed)
def goodOff (x : Off) : Bool := sizesOk x && numsOk x && traysOk x.t && outsOk x.t x.o && sumOk x
structure Good (x : Off) : Prop where
  tl : x.t.length ≤ 8
  ol : x.o.length ≤ 8
  g : 0 ≤ x.got ∧ x.got ≤ 99999
  s : 0 ≤ x.sold ∧ x.sold ≤ 99999
  m : 0 ≤ x.missed ∧ x.missed ≤ 99999
  ts : traysOk x.t = true
  os : outsOk x.t x.o = true
  sum : x.got = inSum x.t + outSum every x.o + x.sold + x.missed
theorem good_iff {x : Off} : goodOff x = true ↔ Good x := by
  unfold goodOff sizesOk numsOk sumOk
  simp only [Bool.and_eq_true, inR_iff, decide_eq_true_eq]
  constructor
  · rintro ⟨⟨⟨⟨⟨h1, h2⟩, ⟨h3, h4⟩, h5⟩, h6⟩, h7⟩, h8⟩
    exact ⟨h1, h2, h3, h4, h5, h6, h7, h8⟩
  · rintro ⟨h1, h2, h3, h4, h5, h6, h7, h8⟩
    exact ⟨⟨⟨⟨⟨h1, h2⟩, ⟨h3, h4⟩, h5⟩, h6⟩, h7⟩, h8⟩
theorem Good.tall {x : Off} (h : Good x) : ∀ i (hi : i < x.t.length), x.t[i].ok = true := traysFrom_all _ _ _ h.ts
theorem Good.oall {x : Off} (h : Good x) : ∀ i (hi : i < x.o.length), x.o[i].ok x.t = true := outsFrom_all _ _ _ h.os
end Go.Proofs.Ytdiojhjkcholiaa

/- Steps of an office: the plain law (no program's function in sight). -/
namespace Go.Proofs.Ytdiojhjkcholiaa
open Go.RowKit

/-- What an office holds, its memory aside. -/
structure Oc where
  t : List Tray
  o : List Outing
  got : Int
  sold : Int
  missed : Int
  deriving DecidableEq, Inhabited
def Off.c (x : Off) : Oc := ⟨x.t, x.o, x.got, x.sold, x.missed⟩
def Oc.at (y : Oc) (TA : Option Addr) (tc : Nat) (OA : Option Addr) (oc : Nat) : Off := ⟨TA, y.t, tc, OA, y.o, oc, y.got, y.sold, y.missed⟩
def Oc.good (y : Oc) : Bool := goodOff (y.at none 0 none 0)
theorem Oc.good_at (y : Oc) (TA : Option Addr) (tc : Nat) (OA : Option Addr) (oc : Nat) : goodOff (y.at TA tc OA oc) = y.good := rfl
theorem Off.good_c (x : Off) : x.c.good = goodOff x := rfl

structure Stp where
  kind : Int
  stamp : Int
  person : Int
  value : Int
  deriving DecidableEq, Inhabited
def Stp.enc (s : Stp) : List Value := [.int .i64 s.kind, .int .i64 s.stamp, .int .i64 s.person, .int .i64 s.value]
abbrev Stp.val (s : Stp) : Value := .agg #[.int .i64 s.kind, .int .i64 s.stamp, .int .i64 s.person, .int .i64 s.value]
theorem Stp.enc_len (s : Stp) : s.enc.length = 4 := rfl

/-- The reference's test of a step. -/
def Stp.okS (s : Stp) : Bool :=
  (if s.kind = 1 then decide (s.person = 0) && inR s.value 1 9999
   else if s.kind = 2 ∨ s.kind = 3 then inR s.person 1 999 && inR s.value 1 9999
   else if s.kind = 4 then (inR s.person 1 999 || decide (s.person = 0)) && inR s.value 1 9999
   else if s.kind = 5 then inR s.person 1 999 && decide (s.value = 0)
   else if s.kind = 6 then inR s.person 1 999 && inR s.value 1 999
   else false) && inR s.stamp 1 99
/-- The program's test of a step. -/
def Stp.ok (s : Stp) : Bool :=
  inR s.stamp 1 99 &&
  (if s.kind = 1 then decide (s.person = 0) && inR s.value 1 9999
   else if s.kind = 2 ∨ s.kind = 3 then inR s.person 1 999 && inR s.value 1 9999
   else if s.kind = 4 then inR s.person 0 999 && inR s.value 1 9999
   else if s.kind = 5 then inR s.person 1 999 && decide (s.value = 0)
   else if s.kind = 6 then inR s.person 1 999 && inR s.value 1 999 && decide (s.value ≠ s.person)
   else false)
/-- What a valid step is, in words of its numbers. -/
inductive Stp.Is (s : Stp) : Prop
  | get (hk : s.kind = 1) (hp : s.person = 0) (hv : 1 ≤ s.value ∧ s.value ≤ 9999)
  | show_ (hk : s.kind = 2) (hp : 1 ≤ s.person ∧ s.person ≤ 999) (hv : 1 ≤ s.value ∧ s.value ≤ 9999)
  | back (hk : s.kind = 3) (hp : 1 ≤ s.person ∧ s.person ≤ 999) (hv : 1 ≤ s.value ∧ s.value ≤ 9999)
  | sell0 (hk : s.kind = 4) (hp : s.person = 0) (hv : 1 ≤ s.value ∧ s.value ≤ 9999)
  | sell (hk : s.kind = 4) (hp : 1 ≤ s.person ∧ s.person ≤ 999) (hv : 1 ≤ s.value ∧ s.value ≤ 9999)
  | miss (hk : s.kind = 5) (hp : 1 ≤ s.person ∧ s.person ≤ 999) (hv : s.value = 0)
  | move (hk : s.kind = 6) (hp : 1 ≤ s.person ∧ s.person ≤ 999) (hv : 1 ≤ s.value ∧ s.value ≤ 999)
theorem Stp.okS_is {s : Stp} (h : s.okS = true) : (1 ≤ s.stamp ∧ s.stamp ≤ 99) ∧ s.Is := by
  unfold Stp.okS at h
  rw [Bool.and_eq_true, inR_iff] at h
  refine ⟨h.2, ?_⟩
  have h := h.1
  split at h
  · rename_i hk; simp only [Bool.and_eq_true, inR_iff, decide_eq_true_eq] at h; exact .get hk h.1 h.2
  · split at h
    · rename_i hk; simp only [Bool.and_eq_true, inR_iff] at h
      rcases hk with hk | hk
      · exact .show_ hk h.1 h.2
      · exact .back hk h.1 h.2
    · split at h
      · rename_i hk; simp only [Bool.and_eq_true, Bool.or_eq_true, inR_iff, decide_eq_true_eq] at h
        rcases h.1 with hp | hp
        · exact .sell hk hp h.2
        · exact .sell0 hk hp h.2
      · split at h
        · rename_i hk; simp only [Bool.and_eq_true, inR_iff, decide_eq_true_eq] at h; exact .miss hk h.1 h.2
        · split at h
          · rename_i hk; simp only [Bool.and_eq_true, inR_iff] at h; exact .move hk h.1 h.2
          · cases h
/-- The program's test is the reference's, but for a move to the same person. -/
theorem Stp.ok_okS (s : Stp) : s.ok = (s.okS && !(decide (s.kind = 6) && decide (s.value = s.person))) := by
  unfold Stp.ok Stp.okS
  generalize hst : inR s.stamp 1 99 = st
  by_cases h1 : s.kind = 1
  · have e : decide (s.kind = 6) = false := decide_eq_false (by omega)
    rw [if_pos h1, if_pos h1, e]; cases st <;> simp
  · rw [if_neg h1, if_neg h1]
    by_cases h2 : s.kind = 2 ∨ s.kind = 3
    · have e : decide (s.kind = 6) = false := decide_eq_false (by omega)
      rw [if_pos h2, if_pos h2, e]; cases st <;> simp
    · rw [if_neg h2, if_neg h2]
      by_cases h4 : s.kind = 4
      · have e : decide (s.kind = 6) = false := decide_eq_false (by omega)
        have e2 : inR s.person 0 999 = (inR s.person 1 999 || decide (s.person = 0)) := by
          rw [Bool.eq_iff_iff, Bool.or_eq_true, inR_iff, inR_iff, decide_eq_true_eq]; omega
        rw [if_pos h4, if_pos h4, e, e2]; cases st <;> simp
      · rw [if_neg h4, if_neg h4]
        by_cases h5 : s.kind = 5
        · have e : decide (s.kind = 6) = false := decide_eq_false (by omega)
          rw [if_pos h5, if_pos h5, e]; cases st <;> simp
        · rw [if_neg h5, if_neg h5]
          by_cases h6 : s.kind = 6
          · rw [if_pos h6, if_pos h6, decide_eq_true h6]
            by_cases h7 : s.value = s.person
            · simp [h7]
            · simp [h7]; cases st <;> simp
          · rw [if_neg h6, if_neg h6]; cases st <;> rfl

/-! ### Trays -/
def posT (ts : List Tray) (kd : Int) : Nat := (ts.takeWhile fun t => decide (t.k < kd)).length
theorem posT_le (ts : List Tray) (kd : Int) : posT ts kd ≤ ts.length := by
  unfold posT; exact (List.takeWhile_prefix _).length_le
theorem posT_cons (t : Tray) (ts : List Tray) (kd : Int) : posT (t :: ts) kd = if t.k < kd then posT ts kd + 1 else 0 := by
  unfold posT; rw [List.takeWhile_cons]; by_cases h : t.k < kd <;> simp [h]
theorem posT_lt : ∀ (ts : List Tray) (kd : Int) (i : Nat) (h : i < ts.length), i < posT ts kd → ts[i].k < kd
  | t :: ts, kd, i, h, hi => by
    rw [posT_cons] at hi
    split at hi
    · cases i with
      | zero => assumption
      | succ i => exact posT_lt ts kd i (by simpa using h) (by omega)
    · omega
theorem posT_at : ∀ (ts : List Tray) (kd : Int) (h : posT ts kd < ts.length), ¬ ts[posT ts kd].k < kd
  | t :: ts, kd, h => by
    by_cases hk : t.k < kd
    · have e : posT (t :: ts) kd = posT ts kd + 1 := by rw [posT_cons, if_pos hk]
      simp only [e, List.getElem_cons_succ]
      exact posT_at ts kd (by simpa [e] using h)
    · have e : posT (t :: ts) kd = 0 := by rw [posT_cons, if_neg hk]
      simp only [e, List.getElem_cons_zero]; exact hk
/-- Trays ascend. -/
def Asc (ts : List Tray) : Prop := ts.Pairwise fun a b => a.k < b.k
theorem traysFrom_asc : ∀ (ts : List Tray) (n : Nat) (p : Int), traysFrom n p ts = true → Asc ts ∧ (n ≠ 0 → ∀ t ∈ ts, p < t.k)
  | [], _, _, _ => ⟨List.Pairwise.nil, fun _ t ht => by cases ht⟩
  | r :: l, n, p, h => by
    simp only [traysFrom, Bool.and_eq_true, Bool.or_eq_true, decide_eq_true_eq] at h
    obtain ⟨h1, h2⟩ := traysFrom_asc l (n + 1) r.k h.2
    have h3 := h2 (by omega)
    refine ⟨List.pairwise_cons.2 ⟨h3, h1⟩, fun hn t ht => ?_⟩
    have hp : p < r.k := by rcases h.1.2 with h0 | h0; exact absurd h0 hn; exact h0
    rcases List.mem_cons.1 ht with rfl | ht
    · exact hp
    · have := h3 t ht; omega
theorem posT_ge (ts : List Tray) (kd : Int) (ha : Asc ts) (i : Nat) (h : i < ts.length) (hi : posT ts kd ≤ i) : ¬ ts[i].k < kd := by
  have h0 := posT_at ts kd (by omega)
  rcases Nat.lt_or_ge (posT ts kd) i with hlt | hge
  · have := List.pairwise_iff_getElem.1 ha (posT ts kd) i (by omega) h hlt
    omega
  · have e : posT ts kd = i := by omega
    simp only [e] at h0; exact h0

/-- The trays with n more stamps of a kind. -/
def inTrays (ts : List Tray) (kd n : Int) : List Tray :=
  if 0 ≤ trayIx ts kd then ts.set (trayIx ts kd).toNat ⟨(ts.getD (trayIx ts kd).toNat default).k, (ts.getD (trayIx ts kd).toNat default).c + n⟩
  else ts.take (posT ts kd) ++ ⟨kd, n⟩ :: ts.drop (posT ts kd)
/-- The trays with an empty one of a kind more. -/
def newTray (ts : List Tray) (kd : Int) : List Tray := ts.take (posT ts kd) ++ ⟨kd, 0⟩ :: ts.drop (posT ts kd)
theorem idxFrom_none {α : Type} (f : α → Bool) : ∀ (l : List α) (k : Nat), (∀ x ∈ l, f x = false) → idxFrom f k l = -1
  | [], _, _ => rfl
  | x :: l, k, h => by rw [idxFrom, h x (by simp)]; exact idxFrom_none f l (k + 1) fun y hy => h y (by simp [hy])
theorem idxFrom_behind {α : Type} (f : α → Bool) (y : α) (r : List α) (hy : f y = true) : ∀ (l : List α) (k : Nat), (∀ x ∈ l, f x = false) → idxFrom f k (l ++ y :: r) = (k + l.length : Nat)
  | [], k, _ => by simp [idxFrom, hy]
  | x :: l, k, h => by
    rw [List.cons_append, idxFrom, h x (by simp)]
    rw [if_neg (by simp), idxFrom_behind f y r hy l (k + 1) fun y hy => h y (by simp [hy])]
    simp; omega
theorem idxFrom_lt {α : Type} (f : α → Bool) : ∀ (l : List α) (k : Nat), idxFrom f k l < k + l.length
  | [], _ => by simp [idxFrom]; omega
  | x :: l, k => by
    rw [idxFrom]; split
    · simp; omega
    · have := idxFrom_lt f l (k + 1); simp only [List.length_cons]; omega
theorem trayIx_lt {ts : List Tray} {kd : Int} (h : 0 ≤ trayIx ts kd) : (trayIx ts kd).toNat < ts.length := by
  have := idxFrom_lt (fun t : Tray => decide (t.k = kd)) ts 0
  change trayIx ts kd < _ at this; omega
theorem trayIx_none {ts : List Tray} {kd : Int} (h : ¬ 0 ≤ trayIx ts kd) : ∀ t ∈ ts, t.k ≠ kd := by
  have h1 := trayIx_has ts kd
  rw [decide_eq_false h] at h1
  intro t ht e
  have : hasTray ts kd = true := by unfold hasTray; rw [List.any_eq_true]; exact ⟨t, ht, decide_eq_true e⟩
  rw [this] at h1; cases h1
theorem trayIx_new {ts : List Tray} {kd : Int} (h : ¬ 0 ≤ trayIx ts kd) : trayIx (newTray ts kd) kd = posT ts kd := by
  have h0 := trayIx_none h
  unfold trayIx newTray
  rw [idxFrom_behind _ _ _ (by simp) _ 0 fun t ht => by simpa using h0 t (List.mem_of_mem_take ht)]
  simp [List.length_take, Nat.min_eq_left (posT_le ts kd)]
/-- An empty tray, then n stamps into it. -/
theorem inTrays_new {ts : List Tray} {kd : Int} (n : Int) (h : ¬ 0 ≤ trayIx ts kd) :
    inTrays ts kd n = (newTray ts kd).set (posT ts kd) ⟨((newTray ts kd).getD (posT ts kd) default).k, ((newTray ts kd).getD (posT ts kd) default).c + n⟩ := by
  unfold inTrays
  rw [if_neg h]
  have hl : (ts.take (posT ts kd)).length = posT ts kd := by rw [List.length_take, Nat.min_eq_left (posT_le ts kd)]
  have e : (newTray ts kd).getD (posT ts kd) default = ⟨kd, 0⟩ := by
    unfold newTray
    rw [List.getD_eq_getElem?_getD, List.getElem?_append_right (by omega), hl, Nat.sub_self]; rfl
  rw [e]
  unfold newTray
  rw [List.set_append_right _ _ (by omega), hl, Nat.sub_self, List.set_cons_zero, Int.zero_add]

/-! ### Outings -/
theorem before_iff {a b : Outing} : before a b = true ↔ a.k < b.k ∨ a.k = b.k ∧ a.p < b.p := by
  unfold before; simp
theorem before_no {a b : Outing} : before a b = false ↔ ¬ (a.k < b.k ∨ a.k = b.k ∧ a.p < b.p) := by
  rw [← before_iff]; simp
/-- Outings ascend. -/
def AscO (os : List Outing) : Prop := os.Pairwise fun a b => before a b = true
theorem outsFrom_asc (ts : List Tray) : ∀ (os : List Outing) (p : Option Outing), outsFrom ts p os = true → AscO os ∧ ∀ q, p = some q → ∀ o ∈ os, before q o = true
  | [], _, _ => ⟨List.Pairwise.nil, fun _ _ o ho => by cases ho⟩
  | r :: l, p, h => by
    simp only [outsFrom, Bool.and_eq_true] at h
    obtain ⟨h1, h2⟩ := outsFrom_asc ts l (some r) h.2
    have h3 := h2 r rfl
    refine ⟨List.pairwise_cons.2 ⟨h3, h1⟩, ?_⟩
    rintro q rfl o ho
    have hq : before q r = true := h.1.2
    rcases List.mem_cons.1 ho with rfl | ho
    · exact hq
    · have := h3 o ho
      rw [before_iff] at this hq ⊢; omega

def isAt (k p : Int) (o : Outing) : Bool := decide (o.k = k) && decide (o.p = p)
theorem isAt_iff {k p : Int} {o : Outing} : isAt k p o = true ↔ o.k = k ∧ o.p = p := by unfold isAt; simp
/-- How many stamps of a kind are at a person. -/
def outAt (k p : Int) : List Outing → Int
  | [] => 0
  | o :: l => if isAt k p o then o.c else outAt k p l
/-- The outings with another count for one. -/
def atO (k p : Int) : Int → List Outing → List Outing
  | c, [] => if c ≠ 0 then [⟨k, p, c⟩] else []
  | c, o :: l =>
    if before ⟨k, p, 0⟩ o = true ∧ c ≠ 0 then ⟨k, p, c⟩ :: (if isAt k p o then atO k p 0 l else o :: atO k p 0 l)
    else if isAt k p o then atO k p c l else o :: atO k p c l
theorem atO_zero {k p : Int} : ∀ l : List Outing, (∀ o ∈ l, isAt k p o = false) → atO k p 0 l = l
  | [], _ => by simp [atO]
  | o :: l, h => by
    rw [atO, if_neg (by simp), h o (by simp), if_neg (by simp), atO_zero l fun q hq => h q (by simp [hq])]
theorem isAt_no {k p : Int} {o : Outing} (h : before ⟨k, p, 0⟩ o = true) : isAt k p o = false := by
  rw [before_iff] at h; simp only at h
  rw [Bool.eq_false_iff]; intro e; rw [isAt_iff] at e; omega
theorem atO_ahead {k p c : Int} (hc : c ≠ 0) : ∀ l : List Outing, (∀ o ∈ l, before ⟨k, p, 0⟩ o = true) → atO k p c l = ⟨k, p, c⟩ :: l
  | [], _ => by simp [atO, hc]
  | o :: l, h => by
    have ho := h o (by simp)
    rw [atO, if_pos ⟨ho, hc⟩, isAt_no ho, if_neg (by simp), atO_zero l fun q hq => isAt_no (h q (by simp [hq]))]

/-- What the program makes of the outings: by more for one, which may be new or go. -/
def chgO (k p by_ : Int) : List Outing → List Outing
  | [] => [⟨k, p, by_⟩]
  | o :: l => if before o ⟨k, p, 0⟩ then o :: chgO k p by_ l else if isAt k p o then (if o.c + by_ = 0 then l else ⟨o.k, o.p, o.c + by_⟩ :: l) else ⟨k, p, by_⟩ :: o :: l
theorem chgO_atO {k p by_ : Int} : ∀ l : List Outing, AscO l → (outAt k p l = 0 → by_ ≠ 0) → chgO k p by_ l = atO k p (outAt k p l + by_) l
  | [], _, h => by
    have hb : by_ ≠ 0 := h rfl
    simp [chgO, atO, outAt, hb]
  | o :: l, ha, h => by
    obtain ⟨h1, h2⟩ := List.pairwise_cons.1 ha
    rw [chgO]
    by_cases hb : before o ⟨k, p, 0⟩ = true
    · have hn : isAt k p o = false := by
        rw [before_iff] at hb; simp only at hb
        rw [Bool.eq_false_iff]; intro e; rw [isAt_iff] at e; omega
      have hr : ¬ before ⟨k, p, 0⟩ o = true := by rw [before_iff] at hb ⊢; simp only at hb ⊢; omega
      have eo : outAt k p (o :: l) = outAt k p l := by rw [outAt, hn, if_neg (by simp)]
      rw [eo] at h ⊢
      rw [if_pos hb, chgO_atO l h2 h, atO, if_neg (fun e => hr e.1), hn, if_neg (by simp)]
    · rw [if_neg hb]
      by_cases hi : isAt k p o = true
      · have hi' := isAt_iff.1 hi
        have eo : outAt k p (o :: l) = o.c := by rw [outAt, if_pos hi]
        have hr : ¬ before ⟨k, p, 0⟩ o = true := by rw [before_iff]; simp only; omega
        have hl : ∀ q ∈ l, before ⟨k, p, 0⟩ q = true := fun q hq => by
          have := h1 q hq; rw [before_iff] at this ⊢; simp only at this ⊢; omega
        have eA : atO k p (o.c + by_) (o :: l) = atO k p (o.c + by_) l := by rw [atO, if_neg (fun e => hr e.1), if_pos hi]
        rw [eo, if_pos hi, eA]
        by_cases hz : o.c + by_ = 0
        · rw [if_pos hz, hz, atO_zero l fun q hq => isAt_no (hl q hq)]
        · rw [if_neg hz, atO_ahead hz l hl, hi'.1, hi'.2]
      · have hi0 : isAt k p o = false := Bool.eq_false_iff.2 hi
        have hr : before ⟨k, p, 0⟩ o = true := by
          rw [before_iff] at hb ⊢; simp only at hb ⊢
          rw [isAt_iff] at hi; omega
        have hl : ∀ q ∈ l, before ⟨k, p, 0⟩ q = true := fun q hq => by
          have := h1 q hq; rw [before_iff] at this hr ⊢; simp only at this hr ⊢; omega
        have hall : ∀ q ∈ l, isAt k p q = false := fun q hq => isAt_no (hl q hq)
        have e0 : outAt k p (o :: l) = 0 := by
          have : ∀ m : List Outing, (∀ q ∈ m, isAt k p q = false) → outAt k p m = 0 := by
            intro m; induction m with
            | nil => intro _; rfl
            | cons q m ih => intro hm; rw [outAt, hm q (by simp), if_neg (by simp)]; exact ih fun r hr => hm r (by simp [hr])
          exact this _ (by intro q hq; rcases List.mem_cons.1 hq with rfl | hq; exact hi0; exact hall q hq)
        have hb0 := h e0
        rw [if_neg hi, e0, Int.zero_add, atO_ahead hb0 (o :: l) (by intro q hq; rcases List.mem_cons.1 hq with rfl | hq; exact hr; exact hl q hq)]
/-- Each outing of the changed list is of the old one, or that one. -/
theorem atO_mem {k p : Int} : ∀ (l : List Outing) (c : Int) (o : Outing), o ∈ atO k p c l → o ∈ l ∨ o = ⟨k, p, c⟩
  | [], c, o, h => by
    rw [atO] at h; split at h
    · simp at h; exact .inr h
    · cases h
  | q :: l, c, o, h => by
    have up0 : ∀ o, o ∈ (if isAt k p q = true then atO k p 0 l else q :: atO k p 0 l) → o ∈ q :: l := by
      intro o ho
      have hz : ∀ m : List Outing, ∀ o ∈ atO k p 0 m, o ∈ m := by
        intro m; induction m with
        | nil => intro o ho; simp [atO] at ho
        | cons r m ih =>
          intro o ho
          rw [atO, if_neg (by simp)] at ho
          split at ho
          · exact List.mem_cons_of_mem _ (ih o ho)
          · rcases List.mem_cons.1 ho with rfl | ho
            · simp
            · exact List.mem_cons_of_mem _ (ih o ho)
      split at ho
      · exact List.mem_cons_of_mem _ (hz l o ho)
      · rcases List.mem_cons.1 ho with rfl | ho
        · simp
        · exact List.mem_cons_of_mem _ (hz l o ho)
    rw [atO] at h
    split at h
    · rcases List.mem_cons.1 h with rfl | h
      · exact .inr rfl
      · exact .inl (up0 o h)
    · split at h
      · rcases atO_mem l c o h with h | h
        · exact .inl (List.mem_cons_of_mem _ h)
        · exact .inr h
      · rcases List.mem_cons.1 h with rfl | h
        · exact .inl (by simp)
        · rcases atO_mem l c o h with h | h
          · exact .inl (List.mem_cons_of_mem _ h)
          · exact .inr h
theorem atO_zero_sub {k p : Int} : ∀ l : List Outing, (atO k p 0 l).Sublist l
  | [] => by simp [atO]
  | o :: l => by
    rw [atO, if_neg (by simp)]
    split
    · exact (atO_zero_sub l).cons o
    · exact (atO_zero_sub l).cons_cons o
theorem outAt_mem {k p : Int} : ∀ l : List Outing, outAt k p l = 0 ∨ ∃ o ∈ l, isAt k p o = true ∧ o.c = outAt k p l
  | [] => .inl rfl
  | o :: l => by
    rw [outAt]; split
    · rename_i h; exact .inr ⟨o, by simp, h, rfl⟩
    · rcases outAt_mem (k := k) (p := p) l with h | ⟨q, hq, h⟩
      · exact .inl h
      · exact .inr ⟨q, by simp [hq], h⟩
theorem outAt_none {k p : Int} : ∀ l : List Outing, (∀ o ∈ l, isAt k p o = false) → outAt k p l = 0
  | [], _ => rfl
  | o :: l, h => by rw [outAt, h o (by simp), if_neg (by simp)]; exact outAt_none l fun q hq => h q (by simp [hq])
/-- The sum at a person is the one count, where the outings ascend. -/
theorem outSum_at {k p : Int} : ∀ (l : List Outing) (s : Int), AscO l → outFrom (isAt k p) s l = s + outAt k p l
  | [], s, _ => by simp [outFrom, outAt]
  | o :: l, s, ha => by
    obtain ⟨h1, h2⟩ := List.pairwise_cons.1 ha
    rw [outFrom, outAt]
    by_cases hi : isAt k p o = true
    · rw [if_pos hi, if_pos hi, outSum_at l _ h2, outAt_none l, Int.add_zero]
      intro q hq
      have := h1 q hq
      rw [before_iff] at this
      have hi' := isAt_iff.1 hi
      rw [Bool.eq_false_iff]; intro e; rw [isAt_iff] at e; omega
    · rw [if_neg hi, if_neg hi]; exact outSum_at l s h2
end Go.Proofs.Ytdiojhjkcholiaa
