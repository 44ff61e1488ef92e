/- Of01: the texts Base Row RowGood RowLeast JoinP Ints Own Cat Splice, joined into one file. -/
import Derived.WalkKit
import Derived.WalkLawsBesides
import Derived.WalkSpells
import Derived.BigQuiet
import Derived.Deep.QuietTactic
import Derived.Deep.Draws
import Derived.Deep.MidRow
import Derived.Laws.CopyRow
import Derived.Outline
import Derived.Lib.Hide
import Derived.Handy
import Derived.Test.YtpjfidmapnnbkaaGreatDoorProg
import Derived.OwnWalk
import Derived.Maps.AppendAt
import Derived.Lib.Overlaps
import Derived.Lib.SliceRun
import Derived.Laws.IdiomCopy
import Derived.Deep.RegionLaw
import Derived.Laws.Externs
import Derived.Lib.AppendZerosOnto

set_option linter.unusedVariables false

/- Plain words on memory, no program in sight: worlds since a point; slices that read as lists of cells; blocks that are known whole. -/
namespace Go.Proofs.YtpjfidmapnnbkaaGreatDoor
open Go.RowKit

/-- A world in which all that lay below block B of w still lies as it lay. -/
structure Since (B : Nat) (w : World) where
  val : World
  below : Below B w val

theorem Since.cell {B : Nat} {w : World} (p : Since B w) {a : Addr} (h : a.block < B) : p.val.cell? a = w.cell? a := p.below.cell h
theorem Since.size {B : Nat} {w : World} (p : Since B w) : w.heap.size ≤ p.val.heap.size := p.below.size
def Since.start (B : Nat) (w : World) : Since B w := ⟨w, Below.refl B w⟩
instance Since.any (B : Nat) (w : World) : Inhabited (Since B w) := ⟨Since.start B w⟩
def Since.go {B : Nat} {w : World} (p : Since B w) {w' : World} (hB : B ≤ w.heap.size) (h : Below p.val.heap.size p.val w') : Since B w :=
  ⟨w', p.below.trans (h.mono (Nat.le_trans hB p.size))⟩
def Since.go' {B : Nat} {w : World} (p : Since B w) {w' : World} (h : Below B p.val w') : Since B w := ⟨w', p.below.trans h⟩

/-- A region that draws its order, whose operations read and whose calls leave alone what lay below block B. -/
theorem wp_region_since {P : Program} {id : Nat} {Q : Exit → Act → World → Prop} {a : Act} {B : Nat} {w : World} {l : List Oper} (p : Since B w) (hm : P.follows .mixedOrders = true) (hB : Region.lexB .any l.toArray = true)
    (h : wpQuiet P l.toArray (fun w' => ∃ q : Since B w, w' = q.val) (fun a' => ∀ w', (∃ q : Since B w, w' = q.val) → Q .normal a' w') l a) : (Code.region id l.toArray true).wp P Q a p.val :=
  wp_region_quiet (C := fun w' => ∃ q : Since B w, w' = q.val) hm hB ⟨⟨_, p.below.drew⟩, rfl⟩ (by simpa using h)
/-- The same, from the world w itself. -/
theorem wp_region_since0 {P : Program} {id : Nat} {Q : Exit → Act → World → Prop} {a : Act} {w : World} {l : List Oper} (hm : P.follows .mixedOrders = true) (hB : Region.lexB .any l.toArray = true)
    (h : wpQuiet P l.toArray (fun w' => ∃ q : Since w.heap.size w, w' = q.val) (fun a' => ∀ w', (∃ q : Since w.heap.size w, w' = q.val) → Q .normal a' w') l a) : (Code.region id l.toArray true).wp P Q a w :=
  wp_region_since (Since.start w.heap.size w) hm hB h

/-- A callee's contract in a world since w. -/
theorem calls_since {P : Program} {f : FuncId} {args : Array Value} {B : Nat} {w : World} {q : Since B w} {v : Value} (hB : B ≤ w.heap.size)
    (h : Calls P f args q.val fun e w' => e = .returned v ∧ Below q.val.heap.size q.val w') : Calls P f args q.val fun e w' => e = .returned v ∧ ∃ q' : Since B w, w' = q'.val :=
  h.mono fun _ _ ⟨he, hb⟩ => ⟨he, q.go hB hb, rfl⟩
theorem calls_sinceB {P : Program} {f : FuncId} {args : Array Value} {B : Nat} {w : World} {q : Since B w} {b b' : Bool} (hb : Hid (b = b')) (hB : B ≤ w.heap.size)
    (h : Calls P f args q.val fun e w' => e = .returned (.bool b) ∧ Below q.val.heap.size q.val w') : Calls P f args q.val fun e w' => e = .returned (.bool b') ∧ ∃ q' : Since B w, w' = q'.val := by
  have := hb.out; subst this; exact calls_since hB h
theorem calls_same {P : Program} {f : FuncId} {args : Array Value} {B : Nat} {w : World} {q : Since B w} {v : Value}
    (h : Calls P f args q.val fun e w' => e = .returned v ∧ q.val = w') : Calls P f args q.val fun e w' => e = .returned v ∧ ∃ q' : Since B w, w' = q'.val :=
  h.mono fun _ _ ⟨he, hb⟩ => ⟨he, q, hb.symm⟩
theorem calls_sameB {P : Program} {f : FuncId} {args : Array Value} {B : Nat} {w : World} {q : Since B w} {b b' : Bool} (hb : Hid (b = b'))
    (h : Calls P f args q.val fun e w' => e = .returned (.bool b) ∧ q.val = w') : Calls P f args q.val fun e w' => e = .returned (.bool b') ∧ ∃ q' : Since B w, w' = q'.val := by
  have := hb.out; subst this; exact calls_same h

/-- Four results in slots. -/
theorem results_four {fn : Func} {t u v x : Tmp} (h : fn.results = #[.tmp t, .tmp u, .tmp v, .tmp x]) (tmps : Array Value) (P : Program) (w : World) :
    (results fn tmps).run P w = .ok (.tuple #[tmps.getD t undef, tmps.getD u undef, tmps.getD v undef, tmps.getD x undef]) w := by simp [results, h]

/-- One call behind another. -/
theorem bthen {a b c : World} (h : Below a.heap.size a b) (k : Below b.heap.size b c) : Below a.heap.size a c := h.trans (k.mono h.size)

/-- The first call from a world: it leaves one since. -/
theorem calls_since0 {P : Program} {f : FuncId} {args : Array Value} {W : World} {v : Value}
    (h : Calls P f args W fun e w' => e = .returned v ∧ Below W.heap.size W w') : Calls P f args W fun e w' => e = .returned v ∧ ∃ q' : Since W.heap.size W, w' = q'.val :=
  h.mono fun _ _ ⟨he, hb⟩ => ⟨he, ⟨_, hb⟩, rfl⟩

/-! ### Slices that read as lists of cells -/
/-- The slice with address A and n elements of k cells each reads as the cells cs, below block B. -/
structure SlcR (w : World) (B k : Nat) (A : Option Addr) (n : Nat) (cs : List Value) : Prop where
  len : cs.length = n * k
  big : n ≤ 9223372036854775807
  at_ : 0 < n → ∃ b off, A = some ⟨b, off, none⟩ ∧ b < B ∧ ∀ j u, cs[j]? = some u → w.cell? ⟨b, off + j, none⟩ = some u

theorem SlcR.keep {w w' : World} {B k n : Nat} {A : Option Addr} {cs : List Value} (h : SlcR w B k A n cs) (hk : ∀ p : Addr, p.block < B → w'.cell? p = w.cell? p) : SlcR w' B k A n cs :=
  ⟨h.len, h.big, fun hn => by
    obtain ⟨b, off, e, hb, hc⟩ := h.at_ hn
    exact ⟨b, off, e, hb, fun j u hu => (hk _ hb).trans (hc j u hu)⟩⟩
theorem SlcR.below {w w' : World} {B k n : Nat} {A : Option Addr} {cs : List Value} (h : SlcR w B k A n cs) (hb : Below B w w') : SlcR w' B k A n cs := h.keep fun _ hp => hb.cell hp
theorem SlcR.mono {w : World} {B B' k n : Nat} {A : Option Addr} {cs : List Value} (h : SlcR w B k A n cs) (hB : B ≤ B') : SlcR w B' k A n cs :=
  ⟨h.len, h.big, fun hn => by
    obtain ⟨b, off, e, hb, hc⟩ := h.at_ hn
    exact ⟨b, off, e, by omega, hc⟩⟩
theorem SlcR.up {w w' : World} {B k n : Nat} {A : Option Addr} {cs : List Value} (h : SlcR w B k A n cs) (hb : Below B w w') (hB : B ≤ w.heap.size) : SlcR w' w'.heap.size k A n cs :=
  (h.below hb).mono (Nat.le_trans hB hb.size)
theorem SlcR.then {w w' : World} {k n : Nat} {A : Option Addr} {cs : List Value} (h : SlcR w w.heap.size k A n cs) (hb : Below w.heap.size w w') : SlcR w' w'.heap.size k A n cs := (h.below hb).mono hb.size
theorem SlcR.nil (w : World) (B k : Nat) (A : Option Addr) : SlcR w B k A 0 [] := ⟨by simp, by omega, fun h => absurd h (by omega)⟩

/-- Place j of element i, in a list of elements of k cells. -/
theorem flat_at {α : Type} (enc : α → List Value) (k : Nat) (hk : ∀ x, (enc x).length = k) : ∀ (l : List α) (i : Nat) (h : i < l.length) (j : Nat), j < k → (l.flatMap enc)[i * k + j]? = (enc l[i])[j]?
  | x :: l, 0, _, j, hj => by
    simp only [List.flatMap_cons, Nat.zero_mul, Nat.zero_add, List.getElem_cons_zero]
    rw [List.getElem?_append_left (by rw [hk]; exact hj)]
  | x :: l, i + 1, h, j, hj => by
    have e : (i + 1) * k + j = (enc x).length + (i * k + j) := by rw [hk, Nat.succ_mul]; omega
    simp only [List.flatMap_cons, List.getElem_cons_succ]
    rw [e, List.getElem?_append_right (by omega), Nat.add_sub_cancel_left]
    exact flat_at enc k hk l i (by simpa using h) j hj
theorem flat_len {α : Type} (enc : α → List Value) (k : Nat) (hk : ∀ x, (enc x).length = k) : ∀ l : List α, (l.flatMap enc).length = l.length * k
  | [] => by simp
  | x :: l => by simp only [List.flatMap_cons, List.length_append, flat_len enc k hk l, hk, List.length_cons, Nat.succ_mul]; omega

/-! ### Blocks that are known whole -/
def Lies (w : World) (g : Nat) (t : TypeId) (cs : List Value) : Prop := w.heap[g]? = some (.cells cs.toArray t (0, 0))
section
variable {w w' : World} {g : Nat} {t : TypeId} {cs : List Value}
theorem Lies.lt (h : Lies w g t cs) : g < w.heap.size := by
  rcases Nat.lt_or_ge g w.heap.size with hlt | hge
  · exact hlt
  · unfold Lies at h; rw [Array.getElem?_eq_none hge] at h; cases h
theorem Lies.cell (h : Lies w g t cs) (i : Nat) : w.cell? ⟨g, i, none⟩ = cs[i]? := by rw [cell_of_row w g i _ t (0, 0) h]; simp
theorem Lies.frozen (h : Lies w g t cs) (i : Nat) : w.frozen? ⟨g, i, none⟩ = false := frozen_of_row w g i _ t h
theorem Lies.below {B : Nat} (h : Lies w g t cs) (hb : Below B w w') (hg : g < B) : Lies w' g t cs := (hb.block g hg).trans h
theorem Lies.kept {row : Option Nat} (h : Lies w g t cs) (hb : w.grownBy w' row) (hg : some g ≠ row) : Lies w' g t cs := (hb.block g h.lt hg).trans h
theorem Lies.alloc (h : Lies w g t cs) (o : Obj) : Lies (w.alloc o) g t cs := (Below.heap_alloc w o g h.lt).trans h
theorem Lies.set (h : Lies w g t cs) (i : Nat) (u : Value) : Lies (w.setCell ⟨g, i, none⟩ u) g t (cs.set i u) := by
  have := heap_setCell_same w g i cs.toArray t u h
  unfold Lies; rw [this]; simp
theorem Lies.other (h : Lies w g t cs) {p : Addr} (hp : g ≠ p.block) (u : Value) : Lies (w.setCell p u) g t cs := (Below.heap_setCell w p u g hp).trans h
theorem Lies.reads {k n : Nat} (h : Lies w g t cs) (hl : cs.length = n * k) (hn : n ≤ 9223372036854775807) : SlcR w w.heap.size k (some ⟨g, 0, none⟩) n cs :=
  ⟨hl, hn, fun _ => ⟨g, 0, rfl, h.lt, fun j u hu => by rw [Nat.zero_add, h.cell]; exact hu⟩⟩
end
theorem Lies.new (w : World) (t : TypeId) (cs : Array Value) : Lies (w.alloc (.cells cs t)) w.heap.size t cs.toList := heap_alloc_new w _
theorem Lies.of {w : World} {g : Nat} {t : TypeId} {cs : Array Value} (h : w.heap[g]? = some (.cells cs t (0, 0))) : Lies w g t cs.toList := h
theorem Lies.own {w : World} {g : Nat} {t : TypeId} {cs : List Value} (h : Lies w g t cs) {B k n : Nat} (hB : B ≤ g) (hl : cs.length = n * k) (hn : n ≤ maxLen) : w.ownsRow B t k (.slice (some ⟨g, 0, none⟩) n n) n cs := by
  refine ⟨hl, Or.inr ⟨g, n, _, rfl, hB, h, Nat.le_refl _, hn, by simpa using hl, ?_⟩⟩
  simp only
  exact List.take_of_length_le (by omega)

def splice (cs : List Value) (i : Nat) (vs : List Value) : List Value := cs.take i ++ vs ++ cs.drop (i + vs.length)

/-- A struct is stored into a block that is known whole. -/
theorem wpList_store_row {P : Program} {ops : Array Oper} {rest : List Oper} {op : Oper} {a : Act} {w : World} {Q : Exit → Act → World → Prop} (hgd : op.guard = none) (ty : TypeId) (x y : Operand) (ho : op.op = .store ty x y)
    (g o : Nat) (t : TypeId) (vs : Array Value) (hx : a.eval x = .pointer (some ⟨g, o, none⟩)) (hy : a.eval y = .agg vs)
    (cs : List Value) (hl : Lies w g t cs) (hfit : o + vs.size ≤ cs.length) (hi : (P.info? ty).map (·.size) = some vs.size) (h1 : vs.all (·.oneCell') = true)
    (h : ∀ w', Lies w' g t (splice cs o vs.toList) → w.grownBy w' (some g) → wpList P ops Q rest (a.put op.dst undef) w') : wpList P ops Q (op :: rest) a w := by
  refine wpList_plain hgd fun K hK => ?_
  have hrun := run_storeCells_at (P := P) g o t vs.toList 0 cs.toArray w hl (by simpa using hfit) (fun v hv => (Array.all_eq_true_iff_forall_mem.1 h1) v (by simpa using hv))
  cases hq : P.info? ty with
  | none => simp [hq] at hi
  | some i =>
    have hs : vs.size = i.size := by simp [hq] at hi; omega
    unfold Oper.wp execOp
    simp only [ho, hx, hy, Instr.storeAt, Instr.sureAddr, Sem.run_bind, Sem.run_pure, Result.andThen_ok]
    simp only [Nat.add_zero] at hrun
    simp [storeVar, sizeOf, typeInfo, hq, Value.cells, ← hs, hrun, Oper.upon]
    refine hK _ _ (h _ ?_ ?_)
    · have := setRow_heap w g cs.toArray (cs.take o ++ vs.toList ++ cs.drop (o + vs.size)).toArray t _ hl
      unfold Lies splice
      simpa using this
    · refine ⟨rfl, rfl, rfl, by simp [World.setRow], fun k hk hne => ?_⟩
      simp only [World.setRow, Array.getElem?_modify]
      rw [if_neg (fun e => hne (by rw [e]))]

/-- Splicing the next row in. -/
theorem splice_next {α : Type} (enc : α → List Value) (k : Nat) (hk : ∀ x, (enc x).length = k) (l : List α) (i : Nat) (hi : i < l.length) (rest : List Value) (hr : rest.length = (l.length - i) * k) :
    ∃ rest', splice ((l.take i).flatMap enc ++ rest) (i * k) (enc l[i]) = (l.take (i + 1)).flatMap enc ++ rest' ∧ rest'.length = (l.length - (i + 1)) * k := by
  refine ⟨rest.drop k, ?_, ?_⟩
  · have e1 : ((l.take i).flatMap enc).length = i * k := by rw [flat_len enc k hk, List.length_take, Nat.min_eq_left (by omega)]
    unfold splice
    rw [List.take_append_of_le_length (by omega), List.take_of_length_le (by omega), List.drop_append, List.drop_eq_nil_of_le (by rw [e1, hk]; omega), e1, hk, List.nil_append]
    rw [List.take_succ_eq_append_getElem hi, List.flatMap_append, List.flatMap_cons, List.flatMap_nil, List.append_nil, Nat.add_sub_cancel_left]
  · rw [List.length_drop, hr]
    obtain ⟨d, hd⟩ : ∃ d, l.length - i = d + 1 := ⟨l.length - i - 1, by omega⟩
    have hd' : l.length - (i + 1) = d := by omega
    rw [hd, hd', Nat.succ_mul, Nat.add_sub_cancel]

/-- The store of element k, in a loop that fills a made slice. -/
theorem wpList_store_next {P : Program} {ops : Array Oper} {rest : List Oper} {op : Oper} {a : Act} {w : World} {Q : Exit → Act → World → Prop} (hgd : op.guard = none) (ty : TypeId) (x y : Operand) (ho : op.op = .store ty x y)
    {α : Type} (enc : α → List Value) (ksz : Nat) (hk : ∀ x, (enc x).length = ksz) (l : List α) (k : Nat) (hlt : k < l.length) (old : List Value) (hold : Hid (old.length = (l.length - k) * ksz))
    (g : Nat) (t : TypeId) (vs : Array Value) (hx : a.eval x = .pointer (some ⟨g, k * ksz, none⟩)) (hy : a.eval y = .agg vs) (hv : Hid (vs.toList = enc l[k]))
    (hi : (P.info? ty).map (·.size) = some ksz) (h1 : vs.all (·.oneCell') = true) (hl : Lies w g t ((l.take k).flatMap enc ++ old))
    (h : ∀ w' old', Hid (Lies w' g t ((l.take (k + 1)).flatMap enc ++ old')) → Hid (old'.length = (l.length - (k + 1)) * ksz) → w.grownBy w' (some g) → wpList P ops Q rest (a.put op.dst undef) w') : wpList P ops Q (op :: rest) a w := by
  have hv' := hv.out
  have hold' := hold.out
  have hsz : vs.size = ksz := by have := congrArg List.length hv'; simpa [hk] using this
  obtain ⟨old', he, hl'⟩ := splice_next enc ksz hk l k hlt old hold'
  refine wpList_store_row hgd ty x y ho g (k * ksz) t vs hx hy _ hl ?_ (by rw [hi, hsz]) h1 fun w' h2 h3 => h w' old' ?_ hl' h3
  · rw [hsz, List.length_append, flat_len enc ksz hk, List.length_take, Nat.min_eq_left (by omega), hold']
    have : l.length - k = l.length - k - 1 + 1 := by omega
    rw [this, Nat.succ_mul]; omega
  · rw [hv', he] at h2; exact h2

/-- 'make([]T, n)', T a struct or not. -/
theorem run_make_all {P : Program} (t e : TypeId) (z : Value) (size bytes : Nat) (ht : P.underlying t = some (.slice e)) (hinfo : (P.info? e).map (fun i => (i.zero, i.size, i.bytes)) = some (some z, size, bytes))
    (n : Nat) (hbytes : bytes * n ≤ 140737488355328) (h63 : n ≤ 9223372036854775807) (w : World) :
    (Instr.makeSlice t (.int .i64 (n : Int)) (.int .i64 (n : Int))).run P w = .ok (.slice (some ⟨w.heap.size, 0, none⟩) n n) (w.alloc (.cells (madeCells z.cells (n * size)) e)) := by
  obtain ⟨i, hi, hz, hs, hb⟩ := info_parts hinfo
  have hb' : (i.bytes : Int) * (n : Int) ≤ 281474976710656 := by
    have h : ((i.bytes * n : Nat) : Int) ≤ 281474976710656 := by rw [hb]; omega
    rwa [Int.natCast_mul] at h
  have hr := run_make (P := P) w t e i z ht hi hz .i64 .i64 n n (by omega) (by omega) hb' (by omega)
  simp only [Int.toNat_natCast] at hr
  rw [← hs]
  exact hr

end Go.Proofs.YtpjfidmapnnbkaaGreatDoor

/- Rows of the office: the struct of five ints, its laws' helpers to, sz, eq; in-range tests; validity of one row. -/
namespace Go.Proofs.YtpjfidmapnnbkaaGreatDoor
open Go.RowKit

def inR (n lo hi : Int) : Bool := decide (lo ≤ n) && decide (n ≤ hi)

theorem l1In_any (n lo hi : Int) (w : World) : Calls Tryz.prog 54 #[.int .i64 n, .int .i64 lo, .int .i64 hi] w fun e w' => e = .returned (.bool (inR n lo hi)) ∧ w = w' := by
  go_enter Tryz.func54, Tryz.ntmps54
  go_wp2
  all_goals (go_ret; exact ⟨by simp [inR, *]; try omega, rfl⟩)
theorem inRange_any (n lo hi : Int) (w : World) : Calls Tryz.prog 52 #[.int .i64 n, .int .i64 lo, .int .i64 hi] w fun e w' => e = .returned (.bool (inR n lo hi)) ∧ w = w' := by
  go_enter Tryz.func52, Tryz.ntmps52
  go_wp2
  all_goals (go_ret; exact ⟨by simp [inR, *]; try omega, rfl⟩)

structure Row where
  m : Int
  b : Int
  s : Int
  c : Int
  l : Int
  deriving DecidableEq, Inhabited
def Row.enc (r : Row) : List Value := [.int .i64 r.m, .int .i64 r.b, .int .i64 r.s, .int .i64 r.c, .int .i64 r.l]
abbrev Row.val (r : Row) : Value := .agg #[.int .i64 r.m, .int .i64 r.b, .int .i64 r.s, .int .i64 r.c, .int .i64 r.l]
theorem Row.enc_len (r : Row) : r.enc.length = 5 := rfl
def Row.ok (r : Row) : Bool := inR r.m 1 1200 && inR r.b 0 9999 && inR r.s 0 9999 && inR r.c (-1000000) 1000000 && inR r.l 0 999
theorem Row.of_ints_enc (ns : List Int) (h : ns.length = 5) : ∃ r : Row, ns.map (Value.int .i64) = r.enc := by
  match ns, h with
  | [m, b, s, c, l], _ => exact ⟨⟨m, b, s, c, l⟩, rfl⟩
theorem Row.of_ints (ns : List Int) (h : ns.length = 5) : ∃ r : Row, Value.agg (ns.map (Value.int .i64)).toArray = r.val := by
  match ns, h with
  | [m, b, s, c, l], _ => exact ⟨⟨m, b, s, c, l⟩, rfl⟩
/-- A row lies at a place, in every world since. -/
structure RowS (B : Nat) (w : World) (b o : Nat) (r : Row) : Prop where
  c0 : ∀ p : Since B w, p.val.cell? ⟨b, o, none⟩ = some (.int .i64 r.m)
  c1 : ∀ p : Since B w, p.val.cell? ⟨b, o + 1, none⟩ = some (.int .i64 r.b)
  c2 : ∀ p : Since B w, p.val.cell? ⟨b, o + 2, none⟩ = some (.int .i64 r.s)
  c3 : ∀ p : Since B w, p.val.cell? ⟨b, o + 3, none⟩ = some (.int .i64 r.c)
  c4 : ∀ p : Since B w, p.val.cell? ⟨b, o + 4, none⟩ = some (.int .i64 r.l)
theorem RowS.up {B B' : Nat} {w W : World} {b o : Nat} {r : Row} (h : RowS B w b o r) (hb : Below B w W) (hB : B ≤ B') : RowS B' W b o r :=
  ⟨fun p => h.c0 ⟨p.val, hb.trans (p.below.mono hB)⟩, fun p => h.c1 ⟨p.val, hb.trans (p.below.mono hB)⟩, fun p => h.c2 ⟨p.val, hb.trans (p.below.mono hB)⟩, fun p => h.c3 ⟨p.val, hb.trans (p.below.mono hB)⟩, fun p => h.c4 ⟨p.val, hb.trans (p.below.mono hB)⟩⟩
theorem RowS.of {W : World} {g : Nat} {t : TypeId} {r : Row} (h : Lies W g t r.enc) : RowS W.heap.size W g 0 r :=
  ⟨fun p => (p.cell h.lt).trans (h.cell 0), fun p => (p.cell h.lt).trans (h.cell 1), fun p => (p.cell h.lt).trans (h.cell 2), fun p => (p.cell h.lt).trans (h.cell 3), fun p => (p.cell h.lt).trans (h.cell 4)⟩
/-- A slice of rows. -/
abbrev RowsR (w : World) (B : Nat) (A : Option Addr) (l : List Row) : Prop := SlcR w B 5 A l.length (l.flatMap Row.enc)
theorem RowsR.row {w : World} {B : Nat} {A : Option Addr} {l : List Row} (h : RowsR w B A l) (hne : 0 < l.length) : ∃ b off, A = some ⟨b, off, none⟩ ∧ b < B ∧ ∀ i (hi : i < l.length), RowS B w b (off + i * 5) l[i] := by
  obtain ⟨b, off, e, hb, hc⟩ := h.at_ hne
  refine ⟨b, off, e, hb, fun i hi => ?_⟩
  have key : ∀ j, j < 5 → ∀ u, (l[i].enc)[j]? = some u → ∀ p : Since B w, p.val.cell? ⟨b, off + i * 5 + j, none⟩ = some u := fun j hj u hu p => by
    rw [p.cell hb, Nat.add_assoc]
    exact hc _ u (by rw [flat_at Row.enc 5 Row.enc_len l i hi j hj]; exact hu)
  exact ⟨key 0 (by omega) _ rfl, key 1 (by omega) _ rfl, key 2 (by omega) _ rfl, key 3 (by omega) _ rfl, key 4 (by omega) _ rfl⟩

theorem l31One_any (r : Row) (w : World) : Calls Tryz.prog 25 #[r.val] w fun e w' => e = .returned (.bool r.ok) ∧ Below w.heap.size w w' := by
  go_enter Tryz.func25, Tryz.ntmps25
  go_wp2_with (go_at_call 54; refine (l1In_any _ _ _ _).mono ?_; rintro e w' ⟨rfl, rfl⟩)
  all_goals (go_ret; exact ⟨by simp [Row.ok, *], (Below.refl _ _).alloc (Nat.le_refl _) _⟩)
theorem isOfficeRow_any (r : Row) (w : World) : Calls Tryz.prog 23 #[r.val] w fun e w' => e = .returned (.bool r.ok) ∧ Below w.heap.size w w' := by
  go_enter Tryz.func23, Tryz.ntmps23
  go_wp2_with (go_at_call 52; refine (inRange_any _ _ _ _).mono ?_; rintro e w' ⟨rfl, rfl⟩)
  all_goals (go_ret; exact ⟨by simp [Row.ok, *], (Below.refl _ _).alloc (Nat.le_refl _) _⟩)
def lessen (k : Int) (n : Nat) : Int := if (n : Int) ≤ k then k - n else -1
theorem infoRow : (Tryz.prog.info? 25).map (fun i => (i.zero, i.size, i.bytes)) = some (some (.agg #[.int .i64 0, .int .i64 0, .int .i64 0, .int .i64 0, .int .i64 0]), 5, 40) := by kernel_rfl

end Go.Proofs.YtpjfidmapnnbkaaGreatDoor

/- Rows of the office: equality of slices, validity of a list, in the reference and in the program. -/
namespace Go.Proofs.YtpjfidmapnnbkaaGreatDoor
open Go.RowKit

/-- Two lists of rows are the same. -/
def sameRows (a b : List Row) : Bool := decide (a = b)
def sameFrom : List Row → List Row → Bool
  | [], [] => true
  | x :: a, y :: b => decide (x = y) && sameFrom a b
  | _, _ => false
theorem sameFrom_eq : ∀ a b : List Row, sameFrom a b = sameRows a b
  | [], [] => by simp [sameFrom, sameRows]
  | [], _ :: _ => by simp [sameFrom, sameRows]
  | _ :: _, [] => by simp [sameFrom, sameRows]
  | x :: a, y :: b => by simp [sameFrom, sameRows, sameFrom_eq a b, Bool.decide_and]

/-- Validity of a list: the rest of it, from place n on, behind a row of the month prev. -/
def goodFrom : Nat → Int → List Row → Bool
  | n, _, [] => decide (n ≤ 12)
  | n, prev, r :: rest => r.ok && (decide (n = 0) || decide (prev < r.m)) && goodFrom (n + 1) r.m rest
def goodRows (l : List Row) : Bool := goodFrom 0 0 l

set_option maxHeartbeats 1000000 in
theorem l31Good_any (A : Option Addr) (c : Nat) (l : List Row) (w : World) (h : RowsR w w.heap.size A l) :
    Calls Tryz.prog 47 #[.slice A l.length c] w fun e w' => e = .returned (.bool (goodRows l)) ∧ Below w.heap.size w w' := by
  have hl := h.big
  have hrd := h.row
  go_enter Tryz.func47, Tryz.ntmps47
  go_wp2
  go_loopw [3] (fun i wr => ∃ (k : Nat) (prev : Int), k ≤ l.length ∧ i = .int .i64 k ∧ (∃ q : Since w.heap.size w, wr = q.val) ∧ Hid (goodFrom k prev (l.drop k) = goodRows l) ∧ Hid (∀ (_hk : 0 < k) (h' : k - 1 < l.length), prev = l[k - 1].m)) (fun i _ => l.length - (intOf i).toNat)
  case atStart => exact ⟨0, 0, Nat.zero_le _, rfl, ⟨Since.start _ _, rfl⟩, rfl, fun h => absurd h (by omega)⟩
  case round =>
    obtain ⟨k, prev, hk, rfl, ⟨q, rfl⟩, HR, HP⟩ := hrel
    by_cases hlt : k < l.length
    · obtain ⟨b, off, rfl, hb, hcell⟩ := hrd (by omega)
      obtain ⟨c0, c1, c2, c3, c4⟩ := hcell k hlt
      have HC : Hid (0 < k → ∀ p : Since w.heap.size w, p.val.cell? ⟨b, off + (k - 1) * 5, none⟩ = some (.int .i64 prev)) := fun h p => by
        rw [HP.out h (by omega)]; exact (hcell (k - 1) (by omega)).c0 p
      obtain ⟨x, hxe⟩ : ∃ x, x = l[k] := ⟨_, rfl⟩
      rw [← hxe] at c0 c1 c2 c3 c4
      have HX := Lib.hid hxe; clear hxe
      clear hcell hrd
      have hstep : Hid (goodFrom k prev (l.drop k) = (x.ok && (decide (k = 0) || decide (prev < x.m)) && goodFrom (k + 1) x.m (l.drop (k + 1)))) := by
        rw [List.drop_eq_getElem_cons hlt, HX.out]; rfl
      have HN : Hid (∀ (_hk : 0 < k + 1) (h' : k + 1 - 1 < l.length), x.m = l[k + 1 - 1].m) := fun _ h' => by rw [HX.out]; rfl
      obtain ⟨v, hv⟩ : ∃ v, x.ok = v := ⟨_, rfl⟩
      have HV := Lib.hid hv; clear hv
      rcases Nat.eq_zero_or_pos k with h0 | h0
      · have hd : decide (0 < k) = false := decide_eq_false (by omega)
        have H0 := Lib.hid h0; clear h0
        cases v
        all_goals
          go_wp2
          refine wp_region_since _ (by kernel_rfl) (by kernel_rfl) ?_
          repeat (any_goals (first | go_big_quiet_step ((go_at_call 25; refine calls_sinceB HV (Nat.le_refl _) (l31One_any x _))) | (refine wpQuiet_step (fun K hK => ?_); go_simp; split <;> (refine hK _ ?_; clear hK K))))
          all_goals (refine wpQuiet_nil ?_; rintro _ ⟨q1, rfl⟩)
          all_goals go_wp2
        · go_ret
          refine ⟨?_, q1.below⟩
          rw [← HR.out, hstep.out, HV.out]; rfl
        · go_roundw
          case rel => exact ⟨k + 1, x.m, by omega, by go_num, ⟨q1, rfl⟩, by have h1 := HR.out; rw [hstep.out, HV.out, decide_eq_true H0.out] at h1; exact h1, HN⟩
          case measure => simp [intOf]; omega
      · have c5 := HC.out h0
        have h0' : (0 : Int) < (k : Int) := by omega
        cases v
        all_goals
          go_wp2
          refine wp_region_since _ (by kernel_rfl) (by kernel_rfl) ?_
          repeat (any_goals (first | go_big_quiet_step ((go_at_call 25; refine calls_sinceB HV (Nat.le_refl _) (l31One_any x _))) | (refine wpQuiet_step (fun K hK => ?_); go_simp; split <;> (refine hK _ ?_; clear hK K))))
          all_goals (refine wpQuiet_nil ?_; rintro _ ⟨q1, rfl⟩)
          all_goals go_wp2
        · go_ret
          refine ⟨?_, q1.below⟩
          rw [← HR.out, hstep.out, HV.out]; rfl
        · go_ret
          refine ⟨?_, q1.below⟩
          have hm : x.m ≤ prev := by assumption
          rw [← HR.out, hstep.out, HV.out, decide_eq_false (by omega : ¬ k = 0), decide_eq_false (by omega : ¬ prev < x.m)]; rfl
        · have hm : prev < x.m := by assumption
          go_roundw
          case rel => exact ⟨k + 1, x.m, by omega, by go_num, ⟨q1, rfl⟩, by have h1 := HR.out; rw [hstep.out, HV.out, decide_eq_true hm, Bool.or_true] at h1; exact h1, HN⟩
          case measure => simp [intOf]; omega
    · have HK : Hid (k = l.length) := by unfold Hid; omega
      clear hrd
      go_wp2
      all_goals
        go_ret
        refine ⟨?_, q.below⟩
        rw [← HR.out, List.drop_eq_nil_of_le (by omega), HK.out]
        show _ = Ending.returned (.bool (decide (l.length ≤ 12)))
        simp; omega

set_option maxHeartbeats 1000000 in
theorem areOfficeRows_any (A : Option Addr) (c : Nat) (l : List Row) (w : World) (h : RowsR w w.heap.size A l) :
    Calls Tryz.prog 41 #[.slice A l.length c] w fun e w' => e = .returned (.bool (goodRows l)) ∧ Below w.heap.size w w' := by
  have hl := h.big
  have hrd := h.row
  go_enter Tryz.func41, Tryz.ntmps41
  go_wp2
  go_loopw [7] (fun i wr => ∃ (k : Nat) (prev : Int), k ≤ l.length ∧ i = .int .i64 k ∧ (∃ q : Since w.heap.size w, wr = q.val) ∧ Hid (goodFrom k prev (l.drop k) = goodRows l) ∧ Hid (∀ (_hk : 0 < k) (h' : k - 1 < l.length), prev = l[k - 1].m)) (fun i _ => l.length - (intOf i).toNat)
  case atStart => exact ⟨0, 0, Nat.zero_le _, rfl, ⟨Since.start _ _, rfl⟩, rfl, fun h => absurd h (by omega)⟩
  case round =>
    obtain ⟨k, prev, hk, rfl, ⟨q, rfl⟩, HR, HP⟩ := hrel
    by_cases hlt : k < l.length
    · obtain ⟨b, off, rfl, hb, hcell⟩ := hrd (by omega)
      obtain ⟨x, hxe⟩ : ∃ x, x = l[k] := ⟨_, rfl⟩
      obtain ⟨c0, c1, c2, c3, c4⟩ := hcell k hlt
      rw [← hxe] at c0 c1 c2 c3 c4
      have HC : Hid (0 < k → ∀ p : Since w.heap.size w, p.val.cell? ⟨b, off + (k - 1) * 5, none⟩ = some (.int .i64 prev)) := fun h p => by
        rw [HP.out h (by omega)]; exact (hcell (k - 1) (by omega)).c0 p
      have HX := Lib.hid hxe; clear hxe
      clear hcell hrd
      have hstep : Hid (goodFrom k prev (l.drop k) = (x.ok && (decide (k = 0) || decide (prev < x.m)) && goodFrom (k + 1) x.m (l.drop (k + 1)))) := by
        rw [List.drop_eq_getElem_cons hlt, HX.out]; rfl
      have HN : Hid (∀ (_hk : 0 < k + 1) (h' : k + 1 - 1 < l.length), x.m = l[k + 1 - 1].m) := fun _ h' => by rw [HX.out]; rfl
      obtain ⟨v, hv⟩ : ∃ v, x.ok = v := ⟨_, rfl⟩
      have HV := Lib.hid hv; clear hv
      go_wp2
      have hbW := (q.below.alloc q.size (.cells #[.int .i64 x.m, .int .i64 x.b, .int .i64 x.s, .int .i64 x.c, .int .i64 x.l] 25))
      have hlW := Lies.new q.val 25 #[.int .i64 x.m, .int .i64 x.b, .int .i64 x.s, .int .i64 x.c, .int .i64 x.l]
      generalize q.val.alloc (.cells #[.int .i64 x.m, .int .i64 x.b, .int .i64 x.s, .int .i64 x.c, .int .i64 x.l] 25) = W at hbW hlW ⊢
      generalize q.val.heap.size = g at hlW ⊢
      obtain ⟨d0, d1, d2, d3, d4⟩ := RowS.of (r := x) hlW
      clear c0 c1 c2 c3 c4
      rcases Nat.eq_zero_or_pos k with h0 | h0
      · have hd : decide (0 < k) = false := decide_eq_false (by omega)
        have H0 := Lib.hid h0; clear h0
        cases v
        all_goals
          refine wp_region_since0 (by kernel_rfl) (by kernel_rfl) ?_
          repeat (any_goals (first | go_big_quiet_step ((go_at_call 23; refine calls_sinceB HV (Nat.le_refl _) (isOfficeRow_any x _))) | (refine wpQuiet_step (fun K hK => ?_); go_simp; split <;> (refine hK _ ?_; clear hK K))))
          all_goals (refine wpQuiet_nil ?_; rintro _ ⟨q1, rfl⟩)
          all_goals have hb1 := hbW.trans (q1.below.mono hbW.size)
          all_goals go_wp2
        · go_ret
          refine ⟨?_, hb1⟩
          rw [← HR.out, hstep.out, HV.out]; rfl
        · go_roundw
          case rel => exact ⟨k + 1, x.m, by omega, by go_num, ⟨⟨_, hb1⟩, rfl⟩, by have h1 := HR.out; rw [hstep.out, HV.out, decide_eq_true H0.out] at h1; exact h1, HN⟩
          case measure => simp [intOf]; omega
      · have c5 : ∀ p : Since W.heap.size W, p.val.cell? ⟨b, off + (k - 1) * 5, none⟩ = some (.int .i64 prev) := fun p => HC.out h0 ⟨p.val, hbW.trans (p.below.mono hbW.size)⟩
        have h0' : (0 : Int) < (k : Int) := by omega
        cases v
        all_goals
          refine wp_region_since0 (by kernel_rfl) (by kernel_rfl) ?_
          repeat (any_goals (first | go_big_quiet_step ((go_at_call 23; refine calls_sinceB HV (Nat.le_refl _) (isOfficeRow_any x _))) | (refine wpQuiet_step (fun K hK => ?_); go_simp; split <;> (refine hK _ ?_; clear hK K))))
          all_goals (refine wpQuiet_nil ?_; rintro _ ⟨q1, rfl⟩)
          all_goals have hb1 := hbW.trans (q1.below.mono hbW.size)
          all_goals go_wp2
        · go_ret
          refine ⟨?_, hb1⟩
          rw [← HR.out, hstep.out, HV.out]; rfl
        · go_ret
          refine ⟨?_, hb1⟩
          have hm : x.m ≤ prev := by assumption
          rw [← HR.out, hstep.out, HV.out, decide_eq_false (by omega : ¬ k = 0), decide_eq_false (by omega : ¬ prev < x.m)]; rfl
        · have hm : prev < x.m := by assumption
          go_roundw
          case rel => exact ⟨k + 1, x.m, by omega, by go_num, ⟨⟨_, hb1⟩, rfl⟩, by have h1 := HR.out; rw [hstep.out, HV.out, decide_eq_true hm, Bool.or_true] at h1; exact h1, HN⟩
          case measure => simp [intOf]; omega
    · have HK : Hid (k = l.length) := by unfold Hid; omega
      clear hrd
      go_wp2
      all_goals
        go_ret
        refine ⟨?_, q.below⟩
        rw [← HR.out, List.drop_eq_nil_of_le (by omega), HK.out]
        show _ = Ending.returned (.bool (decide (l.length ≤ 12)))
        simp; omega

/-- What a call lays on top of one block of our own. -/
theorem below_alloc {w w1 : World} {o : Obj} (h : Below (w.alloc o).heap.size (w.alloc o) w1) : Below w.heap.size w w1 :=
  ((Below.refl _ _).alloc (Nat.le_refl _) o).trans (h.mono (by simp))

theorem implIsOfficeRow_any (r : Row) (w : World) : Calls Tryz.prog 8 #[r.val] w fun e w' => e = .returned (.bool r.ok) ∧ Below w.heap.size w w' := by
  go_enter Tryz.func8, Tryz.ntmps8
  go_wp2_with (go_at_call 23; refine (isOfficeRow_any r _).mono ?_; rintro e w1 ⟨rfl, hb1⟩)
  go_ret
  exact ⟨rfl, below_alloc hb1⟩
theorem specAreOfficeRows_any (A : Option Addr) (c : Nat) (l : List Row) (w : World) (h : RowsR w w.heap.size A l) :
    Calls Tryz.prog 21 #[.slice A l.length c] w fun e w' => e = .returned (.bool (goodRows l)) ∧ Below w.heap.size w w' := by
  go_enter Tryz.func21, Tryz.ntmps21
  go_wp2_with (go_at_call 47; refine (l31Good_any A c l _ h).mono ?_; rintro e w1 ⟨rfl, hb1⟩)
  go_ret
  exact ⟨rfl, hb1⟩
theorem implAreOfficeRows_any (A : Option Addr) (c : Nat) (l : List Row) (w : World) (h : RowsR w w.heap.size A l) :
    Calls Tryz.prog 20 #[.slice A l.length c] w fun e w' => e = .returned (.bool (goodRows l)) ∧ Below w.heap.size w w' := by
  go_enter Tryz.func20, Tryz.ntmps20
  go_wp2_with (go_at_call 41; refine (areOfficeRows_any A c l _ h).mono ?_; rintro e w1 ⟨rfl, hb1⟩)
  go_ret
  exact ⟨rfl, hb1⟩
end Go.Proofs.YtpjfidmapnnbkaaGreatDoor

/- Rows of the office: the least start, in the reference and in the program. -/
namespace Go.Proofs.YtpjfidmapnnbkaaGreatDoor
open Go.RowKit

theorem inR_iff {n lo hi : Int} : inR n lo hi = true ↔ lo ≤ n ∧ n ≤ hi := by simp [inR]
theorem Row.bounds {r : Row} (h : r.ok = true) : (1 ≤ r.m ∧ r.m ≤ 1200) ∧ (0 ≤ r.b ∧ r.b ≤ 9999) ∧ (0 ≤ r.s ∧ r.s ≤ 9999) ∧ (-1000000 ≤ r.c ∧ r.c ≤ 1000000) ∧ (0 ≤ r.l ∧ r.l ≤ 999) := by
  simp only [Row.ok, Bool.and_eq_true, inR_iff] at h
  exact ⟨h.1.1.1.1, h.1.1.1.2, h.1.1.2, h.1.2, h.2⟩
theorem goodFrom_all : ∀ (l : List Row) (n : Nat) (p : Int), goodFrom n p l = true → n + l.length ≤ 12 ∧ ∀ x ∈ l, x.ok = true
  | [], n, p, h => by simp [goodFrom] at h; simpa using h
  | r :: l, n, p, h => by
    simp only [goodFrom, Bool.and_eq_true] at h
    obtain ⟨h1, h2⟩ := goodFrom_all l _ _ h.2
    refine ⟨by simp; omega, fun x hx => ?_⟩
    rcases List.mem_cons.1 hx with rfl | hx
    · exact h.1.1
    · exact h2 x hx
theorem good_len {l : List Row} (h : goodRows l = true) : l.length ≤ 12 := by have := (goodFrom_all l 0 0 h).1; omega
theorem good_at {l : List Row} (h : goodRows l = true) {i : Nat} (hi : i < l.length) : l[i].ok = true := (goodFrom_all l 0 0 h).2 _ (List.getElem_mem hi)

def leastFrom : Int → Int → List Row → Int
  | _, need, [] => need
  | now, need, r :: rest => leastFrom (now + r.b - r.s) (max need (-(now + r.b - r.s))) rest
theorem leastFrom_step {l : List Row} {k : Nat} (h : k < l.length) (a b : Int) : leastFrom a b (l.drop k) = leastFrom (a + l[k].b - l[k].s) (max b (-(a + l[k].b - l[k].s))) (l.drop (k + 1)) := by
  rw [List.drop_eq_getElem_cons h]; rfl
def leastStart (l : List Row) : Int := if goodRows l then leastFrom 0 0 l else 0

end Go.Proofs.YtpjfidmapnnbkaaGreatDoor

/- Joined rows: the plain law (no program's function in sight). -/
namespace Go.Proofs.YtpjfidmapnnbkaaGreatDoor
open Go.RowKit

def addR (x y : Row) : Row := ⟨x.m, x.b + y.b, x.s + y.s, x.c + y.c, x.l + y.l⟩
/-- A row put into its place, or added up. -/
def insR (r : Row) : List Row → List Row
  | [] => [r]
  | x :: l => if x.m < r.m then x :: insR r l else if x.m = r.m then addR x r :: l else r :: x :: l
def joinF (a b : List Row) : List Row := b.foldl (fun out r => insR r out) a
/-- Two lists, merged. -/
def mergeR : List Row → List Row → List Row
  | [], b => b
  | x :: a, [] => x :: a
  | x :: a, y :: b => if x.m < y.m then x :: mergeR a (y :: b) else if y.m < x.m then y :: mergeR (x :: a) b else addR x y :: mergeR a b
termination_by a b => a.length + b.length
theorem mergeR_nil (a : List Row) : mergeR a [] = a := by cases a <;> simp [mergeR]
def AscR (l : List Row) : Prop := l.Pairwise fun a b => a.m < b.m
theorem joinF_head (x : Row) : ∀ (b a : List Row), (∀ y ∈ b, x.m < y.m) → joinF (x :: a) b = x :: joinF a b
  | [], a, _ => rfl
  | y :: b, a, h => by
    have hy := h y (by simp)
    show joinF (insR y (x :: a)) b = x :: joinF (insR y a) b
    rw [insR, if_pos hy, joinF_head x b (insR y a) fun z hz => h z (by simp [hz])]
theorem joinF_merge : ∀ (n : Nat) (a b : List Row), a.length + b.length ≤ n → AscR a → AscR b → joinF a b = mergeR a b
  | n, [], b, _, _, hb => by
    rw [mergeR]
    induction b with
    | nil => rfl
    | cons y b ih =>
      obtain ⟨h1, h2⟩ := List.pairwise_cons.1 hb
      show joinF [y] b = y :: b
      rw [joinF_head y b [] h1, ih (by simp at *; omega) h2]
  | n, x :: a, [], _, _, _ => by rw [mergeR_nil]; rfl
  | 0, x :: a, y :: b, h, _, _ => by simp at h
  | n + 1, x :: a, y :: b, h, ha, hb => by
    obtain ⟨ha1, ha2⟩ := List.pairwise_cons.1 ha
    obtain ⟨hb1, hb2⟩ := List.pairwise_cons.1 hb
    rw [mergeR]
    by_cases h1 : x.m < y.m
    · rw [if_pos h1, joinF_head x (y :: b) a (fun z hz => by
        rcases List.mem_cons.1 hz with rfl | hz
        · exact h1
        · have := hb1 z hz; omega)]
      rw [joinF_merge n a (y :: b) (by simp at h ⊢; omega) ha2 hb]
    · rw [if_neg h1]
      by_cases h2 : y.m < x.m
      · rw [if_pos h2]
        show joinF (insR y (x :: a)) b = _
        rw [insR, if_neg h1, if_neg (by omega), joinF_head y b (x :: a) hb1, joinF_merge n (x :: a) b (by simp at h ⊢; omega) ha hb2]
      · rw [if_neg h2]
        show joinF (insR y (x :: a)) b = _
        rw [insR, if_neg h1, if_pos (by omega), joinF_head (addR x y) b a (fun z hz => by have := hb1 z hz; show x.m < z.m; omega), joinF_merge n a b (by simp at h ⊢; omega) ha2 hb2]

theorem goodFrom_asc : ∀ (l : List Row) (n : Nat) (p : Int), goodFrom n p l = true → AscR l ∧ (n ≠ 0 → ∀ r ∈ l, p < r.m)
  | [], _, _, _ => ⟨List.Pairwise.nil, fun _ r hr => by cases hr⟩
  | r :: l, n, p, h => by
    simp only [goodFrom, Bool.and_eq_true, Bool.or_eq_true, decide_eq_true_eq] at h
    obtain ⟨h1, h2⟩ := goodFrom_asc l (n + 1) r.m h.2
    have h3 := h2 (by omega)
    refine ⟨List.pairwise_cons.2 ⟨h3, h1⟩, fun hn q hq => ?_⟩
    have hp : p < r.m := by rcases h.1.2 with h0 | h0; exact absurd h0 hn; exact h0
    rcases List.mem_cons.1 hq with rfl | hq
    · exact hp
    · have := h3 q hq; omega
theorem good_asc {l : List Row} (h : goodRows l = true) : AscR l := (goodFrom_asc l 0 0 h).1

/-! ### Where a row comes -/
def posR (l : List Row) (r : Row) : Nat := (l.takeWhile fun x => decide (x.m < r.m)).length
theorem posR_cons (x : Row) (l : List Row) (r : Row) : posR (x :: l) r = if x.m < r.m then posR l r + 1 else 0 := by
  unfold posR; rw [List.takeWhile_cons]; by_cases h : x.m < r.m <;> simp [h]
theorem posR_le (l : List Row) (r : Row) : posR l r ≤ l.length := by unfold posR; exact (List.takeWhile_prefix _).length_le
theorem posR_lt : ∀ (l : List Row) (r : Row) (i : Nat) (h : i < l.length), i < posR l r → l[i].m < r.m
  | x :: l, r, i, h, hi => by
    rw [posR_cons] at hi
    split at hi
    · cases i with
      | zero => assumption
      | succ i => exact posR_lt l r i (by simpa using h) (by omega)
    · omega
theorem posR_ge : ∀ (l : List Row) (r : Row), AscR l → ∀ (i : Nat) (h : i < l.length), posR l r ≤ i → ¬ l[i].m < r.m
  | x :: l, r, ha, i, h, hi => by
    obtain ⟨h1, h2⟩ := List.pairwise_cons.1 ha
    by_cases hx : x.m < r.m
    · rw [posR_cons, if_pos hx] at hi
      cases i with
      | zero => omega
      | succ i => exact posR_ge l r h2 i (by simpa using h) (by omega)
    · cases i with
      | zero => exact hx
      | succ i =>
        have := h1 (l[i]'(by simpa using h)) (List.getElem_mem _)
        simp only [List.getElem_cons_succ]; omega
theorem insR_new : ∀ (l : List Row) (r : Row), (∀ h : posR l r < l.length, l[posR l r].m ≠ r.m) → insR r l = l.take (posR l r) ++ r :: l.drop (posR l r)
  | [], _, _ => by simp [insR, posR]
  | x :: l, r, h => by
    by_cases hx : x.m < r.m
    · have e : posR (x :: l) r = posR l r + 1 := by rw [posR_cons, if_pos hx]
      simp only [e] at h ⊢
      rw [insR, if_pos hx, insR_new l r (fun h' => by have := h (by simpa using h'); simpa using this), List.take_succ_cons, List.drop_succ_cons, List.cons_append]
    · have e : posR (x :: l) r = 0 := by rw [posR_cons, if_neg hx]
      simp only [e] at h ⊢
      have := h (by simp)
      simp only [List.getElem_cons_zero] at this
      rw [insR, if_neg hx, if_neg this]; rfl
theorem insR_old : ∀ (l : List Row) (r : Row) (h : posR l r < l.length), l[posR l r].m = r.m → insR r l = l.set (posR l r) (addR l[posR l r] r)
  | x :: l, r, h, he => by
    by_cases hx : x.m < r.m
    · have e : posR (x :: l) r = posR l r + 1 := by rw [posR_cons, if_pos hx]
      simp only [e, List.getElem_cons_succ] at h he ⊢
      rw [insR, if_pos hx, insR_old l r (by simpa using h) he, List.set_cons_succ]
    · have e : posR (x :: l) r = 0 := by rw [posR_cons, if_neg hx]
      simp only [e, List.getElem_cons_zero] at h he ⊢
      rw [insR, if_neg hx, if_pos he]; rfl
/-- Bounds of a row behind some additions. -/
def Row.within (M : Int) (r : Row) : Prop := (-M ≤ r.b ∧ r.b ≤ M) ∧ (-M ≤ r.s ∧ r.s ≤ M) ∧ (-M ≤ r.c ∧ r.c ≤ M) ∧ (-M ≤ r.l ∧ r.l ≤ M)
theorem within_ok {r : Row} (h : r.ok = true) : r.within 1000000 := by
  obtain ⟨h0, h1, h2, h3, h4⟩ := Row.bounds h
  exact ⟨by omega, by omega, by omega, by omega⟩
theorem insR_facts {l : List Row} {r : Row} {M : Int} (hM : 0 ≤ M) (ha : AscR l) (hl : ∀ x ∈ l, x.within M) (hr : r.within 1000000) : AscR (insR r l) ∧ (∀ x ∈ insR r l, x.within (M + 1000000)) ∧ (insR r l).length ≤ l.length + 1 ∧ (∀ p : Int, p < r.m → (∀ x ∈ l, p < x.m) → ∀ x ∈ insR r l, p < x.m) := by
  induction l with
  | nil =>
    refine ⟨by simp [insR, AscR], fun x hx => ?_, by simp [insR], fun p hp _ x hx => ?_⟩
    · simp [insR] at hx; subst hx
      obtain ⟨h1, h2, h3, h4⟩ := hr
      exact ⟨by omega, by omega, by omega, by omega⟩
    · simp [insR] at hx; subst hx; exact hp
  | cons y l ih =>
    obtain ⟨ha1, ha2⟩ := List.pairwise_cons.1 ha
    obtain ⟨i1, i2, i3, i4⟩ := ih ha2 fun x hx => hl x (by simp [hx])
    obtain ⟨r1, r2, r3, r4⟩ := hr
    have up : ∀ x : Row, x.within M → x.within (M + 1000000) := fun x ⟨h1, h2, h3, h4⟩ => ⟨by omega, by omega, by omega, by omega⟩
    obtain ⟨y1, y2, y3, y4⟩ := hl y (by simp)
    rw [insR]
    by_cases h1 : y.m < r.m
    · rw [if_pos h1]
      refine ⟨List.pairwise_cons.2 ⟨i4 y.m h1 ha1, i1⟩, fun x hx => ?_, by simp; omega, fun p hp hq x hx => ?_⟩
      · rcases List.mem_cons.1 hx with rfl | hx
        · exact up _ (hl _ (by simp))
        · exact i2 x hx
      · rcases List.mem_cons.1 hx with rfl | hx
        · exact hq _ (by simp)
        · exact i4 p hp (fun z hz => hq z (by simp [hz])) x hx
    · rw [if_neg h1]
      by_cases h2 : y.m = r.m
      · rw [if_pos h2]
        refine ⟨List.pairwise_cons.2 ⟨ha1, ha2⟩, fun x hx => ?_, by simp, fun p hp hq x hx => ?_⟩
        · rcases List.mem_cons.1 hx with rfl | hx
          · exact ⟨by show _ ≤ y.b + r.b ∧ y.b + r.b ≤ _; omega, by show _ ≤ y.s + r.s ∧ y.s + r.s ≤ _; omega, by show _ ≤ y.c + r.c ∧ y.c + r.c ≤ _; omega, by show _ ≤ y.l + r.l ∧ y.l + r.l ≤ _; omega⟩
          · exact up _ (hl _ (by simp [hx]))
        · rcases List.mem_cons.1 hx with rfl | hx
          · exact hq y (by simp)
          · exact hq x (by simp [hx])
      · rw [if_neg h2]
        refine ⟨List.pairwise_cons.2 ⟨fun z hz => ?_, ha⟩, fun x hx => ?_, by simp, fun p hp hq x hx => ?_⟩
        · rcases List.mem_cons.1 hz with rfl | hz
          · omega
          · have := ha1 z hz; omega
        · rcases List.mem_cons.1 hx with rfl | hx
          · exact ⟨by omega, by omega, by omega, by omega⟩
          · exact up _ (hl _ hx)
        · rcases List.mem_cons.1 hx with rfl | hx
          · exact hp
          · exact hq x hx
/-- What JoinRows gives. -/
def joinBoth (a b : List Row) : List Row × Bool := if goodRows a && goodRows b then (if goodRows (mergeR a b) then (mergeR a b, true) else ([], false)) else ([], false)
theorem mergeR_len (a b : List Row) : (mergeR a b).length ≤ a.length + b.length := by
  induction h : a.length + b.length using Nat.strongRecOn generalizing a b with
  | _ n ih =>
    match a, b with
    | [], b => rw [mergeR]; simp at h; omega
    | x :: a, [] => rw [mergeR_nil]; simp at h ⊢; omega
    | x :: a, y :: b =>
      simp only [List.length_cons] at h
      rw [mergeR]
      split
      · have := ih (a.length + (y :: b).length) (by simp; omega) a (y :: b) rfl
        simp at this ⊢; omega
      · split
        · have := ih ((x :: a).length + b.length) (by simp; omega) (x :: a) b rfl
          simp at this ⊢; omega
        · have := ih (a.length + b.length) (by omega) a b rfl
          simp at this ⊢; omega
theorem join_no {a b : List Row} (h : (goodRows a && goodRows b) = false) : joinBoth a b = ([], false) := by unfold joinBoth; rw [h]; rfl
theorem join_bad {a b : List Row} (h : (goodRows a && goodRows b) = true) (h2 : goodRows (mergeR a b) = false) : joinBoth a b = ([], false) := by unfold joinBoth; rw [h, h2]; rfl
theorem join_yes {a b : List Row} (h : (goodRows a && goodRows b) = true) (h2 : goodRows (mergeR a b) = true) : joinBoth a b = (mergeR a b, true) := by unfold joinBoth; rw [h, h2]; rfl
theorem joinBoth_len (a b : List Row) : (joinBoth a b).1.length ≤ 12 := by
  unfold joinBoth; split
  · split
    · rename_i h; exact good_len h
    · simp
  · simp
/-- The first k of b are in. -/
structure Joined (a b : List Row) (k : Nat) (out : List Row) : Prop where
  eq : joinF out (b.drop k) = mergeR a b
  asc : AscR out
  bd : ∀ x ∈ out, x.within (1000000 * (k + 1))
  len : out.length ≤ a.length + k
theorem Joined.start {a b : List Row} (ha : goodRows a = true) (hb : goodRows b = true) : Joined a b 0 a :=
  ⟨joinF_merge _ a b (Nat.le_refl _) (good_asc ha) (good_asc hb), good_asc ha, fun x hx => by
    obtain ⟨i, hi, rfl⟩ := List.getElem_of_mem hx
    simpa using within_ok (good_at ha hi), Nat.le_refl _⟩
theorem Joined.step {a b out : List Row} {k : Nat} (h : Joined a b k out) (hb : goodRows b = true) (hk : k < b.length) : Joined a b (k + 1) (insR b[k] out) := by
  obtain ⟨i1, i2, i3, _⟩ := insR_facts (M := 1000000 * ((k : Int) + 1)) (by omega) h.asc h.bd (within_ok (good_at hb hk))
  refine ⟨?_, i1, fun x hx => ?_, by have := h.len; omega⟩
  · have := h.eq
    rw [List.drop_eq_getElem_cons hk] at this
    exact this
  · have := i2 x hx
    rwa [show 1000000 * ((k : Int) + 1) + 1000000 = 1000000 * (((k + 1 : Nat) : Int) + 1) by omega] at this
theorem Joined.done {a b out : List Row} (h : Joined a b b.length out) : out = mergeR a b := by
  have := h.eq
  rw [List.drop_length] at this; exact this
end Go.Proofs.YtpjfidmapnnbkaaGreatDoor

/- Slices of ints: equality, marks, held marks. -/
namespace Go.Proofs.YtpjfidmapnnbkaaGreatDoor
open Go.RowKit

abbrev encI (n : Int) : List Value := [.int .i64 n]
abbrev encIs (l : List Int) : List Value := l.map (Value.int .i64)
theorem encIs_len (l : List Int) : (encIs l).length = l.length * 1 := by simp
/-- A slice of ints reads. -/
abbrev IntsR (w : World) (B : Nat) (A : Option Addr) (l : List Int) : Prop := SlcR w B 1 A l.length (encIs l)
theorem IntsR.ints {w : World} {B : Nat} {A : Option Addr} {l : List Int} (h : IntsR w B A l) (hne : 0 < l.length) : ∃ b off, A = some ⟨b, off, none⟩ ∧ b < B ∧ ∀ i (hi : i < l.length) (p : Since B w), p.val.cell? ⟨b, off + i, none⟩ = some (.int .i64 l[i]) := by
  obtain ⟨b, off, e, hb, hc⟩ := h.at_ hne
  exact ⟨b, off, e, hb, fun i hi p => (p.cell hb).trans (hc i _ (by simp [hi]))⟩

/-- A slice of the call's own, its cells known, with room behind them. -/
def OwnS (w : World) (B : Nat) (t : TypeId) (k : Nat) (A : Option Addr) (n : Nat) (cs : List Value) : Prop :=
  cs.length = n * k ∧ n ≤ 9223372036854775807 ∧ ((A = none ∧ n = 0) ∨ ∃ g rest, A = some ⟨g, 0, none⟩ ∧ B ≤ g ∧ Lies w g t (cs ++ rest))
theorem OwnS.of {w : World} {B : Nat} {t : TypeId} {k : Nat} {A : Option Addr} {n c : Nat} {cs : List Value} (h : w.ownsRow B t k (.slice A n c) n cs) : OwnS w B t k A n cs := by
  obtain ⟨hl, h | ⟨g, cap, cur, hv, hg, hh, h1, h2, h3, h4⟩⟩ := h
  · injection h.1 with e1 e2 e3
    exact ⟨hl, by omega, .inl ⟨e1, e2⟩⟩
  · injection hv with e1 e2 e3
    refine ⟨hl, by unfold maxLen at h2; omega, .inr ⟨g, cur.toList.drop (n * k), e1, hg, ?_⟩⟩
    have : cs ++ cur.toList.drop (n * k) = cur.toList := by rw [← h4]; exact List.take_append_drop _ _
    rw [this]
    exact Lies.of hh
theorem OwnS.reads {w : World} {B : Nat} {t : TypeId} {k : Nat} {A : Option Addr} {n : Nat} {cs : List Value} (h : OwnS w B t k A n cs) : SlcR w w.heap.size k A n cs := by
  obtain ⟨hl, hn, ⟨_, h0⟩ | ⟨g, rest, hA, hg, hh⟩⟩ := h
  · exact ⟨hl, hn, fun h => by omega⟩
  · exact ⟨hl, hn, fun _ => ⟨g, 0, hA, hh.lt, fun j u hu => by
      rw [Nat.zero_add, hh.cell, List.getElem?_append_left (List.getElem?_eq_some_iff.1 hu).1]; exact hu⟩⟩
theorem OwnS.kept {w w' : World} {B : Nat} {t : TypeId} {k : Nat} {A : Option Addr} {n : Nat} {cs : List Value} (h : OwnS w B t k A n cs) {g : Nat} (hg : w.grownBy w' (some g)) (hlt : g < B) : OwnS w' B t k A n cs := by
  obtain ⟨hl, hn, h0 | ⟨g', rest, hA, hg', hh⟩⟩ := h
  · exact ⟨hl, hn, .inl h0⟩
  · exact ⟨hl, hn, .inr ⟨g', rest, hA, hg', hh.kept hg (by intro e; injection e with e; omega)⟩⟩
theorem OwnS.then {w w' : World} {B : Nat} {t : TypeId} {k : Nat} {A : Option Addr} {n : Nat} {cs : List Value} (h : OwnS w B t k A n cs) (hb : Below w.heap.size w w') : OwnS w' B t k A n cs := by
  obtain ⟨hl, hn, h0 | ⟨g', rest, hA, hg', hh⟩⟩ := h
  · exact ⟨hl, hn, .inl h0⟩
  · exact ⟨hl, hn, .inr ⟨g', rest, hA, hg', hh.below hb hh.lt⟩⟩

def sameInts (a b : List Int) : Bool := decide (a = b)
def sameIntsFrom : List Int → List Int → Bool
  | [], [] => true
  | x :: a, y :: b => decide (x = y) && sameIntsFrom a b
  | _, _ => false
theorem sameIntsFrom_eq : ∀ a b : List Int, sameIntsFrom a b = sameInts a b
  | [], [] => by simp [sameIntsFrom, sameInts]
  | [], _ :: _ => by simp [sameIntsFrom, sameInts]
  | _ :: _, [] => by simp [sameIntsFrom, sameInts]
  | x :: a, y :: b => by simp [sameIntsFrom, sameInts, sameIntsFrom_eq a b, Bool.decide_and]

/-- k, k + 1, .., n numbers. -/
def ramp : Int → Nat → List Int
  | _, 0 => []
  | k, n + 1 => k :: ramp (k + 1) n
theorem ramp_len : ∀ (k : Int) (n : Nat), (ramp k n).length = n
  | _, 0 => rfl
  | k, n + 1 => by simp [ramp, ramp_len (k + 1) n]
theorem ramp_at : ∀ (k : Int) (n i : Nat) (h : i < (ramp k n).length), (ramp k n)[i] = k + i
  | k, n + 1, 0, _ => by simp [ramp]
  | k, n + 1, i + 1, h => by
    simp only [ramp, List.getElem_cons_succ]
    rw [ramp_at (k + 1) n i (by simpa [ramp] using h)]
    omega
theorem ramp_snoc : ∀ (k : Int) (n : Nat), ramp k (n + 1) = ramp k n ++ [k + n]
  | k, 0 => by simp [ramp]
  | k, n + 1 => by
    rw [ramp, ramp_snoc (k + 1) n, ramp, List.cons_append]
    congr 3
    omega

theorem grown_cell {a w : World} {row : Option Nat} (h : a.grownBy w row) (p : Addr) (hlt : p.block < a.heap.size) (hne : some p.block ≠ row) : w.cell? p = a.cell? p := World.cell?_of_block (w := a) (h.block p.block hlt hne)
theorem OwnS.at_ge {w : World} {B : Nat} {t : TypeId} {k : Nat} {A : Option Addr} {n : Nat} {cs : List Value} (h : OwnS w B t k A n cs) (g : Nat) (hg : A.map (·.block) = some g) : B ≤ g := by
  obtain ⟨_, _, ⟨rfl, _⟩ | ⟨g', _, rfl, hB, _⟩⟩ := h
  · cases hg
  · injection hg with e; simp only at e; omega
theorem OwnS.held {w : World} {B : Nat} {t : TypeId} {A : Option Addr} {k0 : Int} {n : Nat} (h : OwnS w B t 1 A n (encIs (ramp k0 n))) : IntsR w w.heap.size A (Go.Proofs.YtpjfidmapnnbkaaGreatDoor.ramp k0 n) := by
  have := h.reads
  unfold IntsR; rw [ramp_len]; exact this

theorem grown_set {a w : World} {g i : Nat} {u : Value} (h : a.grownBy w (some g)) : a.grownBy (w.setCell ⟨g, i, none⟩ u) (some g) :=
  ⟨h.os, h.tape, h.output, by simpa [World.setCell] using h.size, fun k hk hne => (Below.heap_setCell w ⟨g, i, none⟩ u k (fun e => hne (by rw [e]))).trans (h.block k hk hne)⟩
theorem set_mid {α : Type} (a b : List α) (x u : α) : (a ++ x :: b).set a.length u = a ++ u :: b := by
  induction a with
  | nil => rfl
  | cons y a ih => simp [ih]

end Go.Proofs.YtpjfidmapnnbkaaGreatDoor

/- Own slices that grow by one element (no program in sight). -/
namespace Go.Proofs.YtpjfidmapnnbkaaGreatDoor
open Go.RowKit

theorem cells_new (w : World) (vs : Array Value) (t : TypeId) : ∀ j u, vs.toList[j]? = some u → (w.alloc (.cells vs t)).cell? ((⟨w.heap.size, 0, none⟩ : Addr).add j) = some u := by
  intro j u hj
  have e : ((⟨w.heap.size, 0, none⟩ : Addr).add j) = ⟨w.heap.size, j, none⟩ := by unfold Addr.add; by_cases h : j = 0 <;> simp [h]
  rw [e, (Lies.new w t vs).cell]; exact hj

theorem ownsRow_heap {w w' : World} {B : Nat} {e : TypeId} {k : Nat} {v : Value} {n : Nat} {xs : List Value} (h : w'.heap = w.heap) (ho : w.ownsRow B e k v n xs) : w'.ownsRow B e k v n xs := by
  unfold World.ownsRow at *; rw [h]; exact ho

/-- 'append(s, x)': s the call's own, x one element of k cells. -/
theorem wpList_push {P : Program} {ops : Array Oper} {rest : List Oper} {o : Oper} {a : Act} {w0 wA : World} {Q : Exit → Act → World → Prop} (hgd : o.guard = none) (s x : Operand) (t : TypeId)
    (ho : o.op = .call { callee := .builtin .append, args := #[s, x], argTypes := #[t, t] })
    (e : TypeId) (z : Value) (k bytes : Nat) (ht : P.underlying t = some (.slice e)) (hinfo : (P.info? e).map (fun i => (i.zero, i.size, i.bytes)) = some (some z, k, bytes)) (hzs : z.cells.size = k) (hsz : 0 < k) (hby : bytes ≤ 1000)
    (B : Nat) (v : Value) (n : Nat) (xs : List Value) (hs : a.eval s = v) (hown : Hid (w0.ownsRow B e k v n xs))
    (vs : Array Value) (c g : Nat) (hx : a.eval x = .slice (some ⟨g, 0, none⟩) 1 c) (hg : w0.heap.size = g) (hvs : vs.size = k) (h1 : vs.all (·.oneCell') = true) (hn : n < 1000000000) (hbase : B ≤ w0.heap.size)
    (hheap : wA.heap = (w0.alloc (.cells vs e)).heap) (hos : wA.os = w0.os) (htape : wA.tape = w0.tape) (hout : wA.output = w0.output)
    (h : ∀ v' w', Hid (w'.ownsRow B e k v' (n + 1) (xs ++ vs.toList)) → w0.grownBy w' v.ownBlock → Below B w0 w' → wpList P ops Q rest (a.put o.dst v') w') : wpList P ops Q (o :: rest) a wA := by
  subst hg
  obtain ⟨i, hi, hz, hs', hb⟩ := info_parts hinfo
  have hown' := hown.out
  have hsize : wA.heap.size = w0.heap.size + 1 := by rw [hheap]; exact Array.size_push _
  have hblock : ∀ j, j < w0.heap.size → wA.heap[j]? = w0.heap[j]? := fun j hj => by rw [hheap]; exact Below.heap_alloc w0 _ j hj
  have h4 : w0.grownBy wA v.ownBlock := ⟨hos, htape, hout, by omega, fun j hj _ => hblock j hj⟩
  refine wpList_append_own (w := wA) hgd s x t ho B e i z k bytes ht hi hz hs' hb hzs hsz v n xs hs (ownsRow_heap hheap (hown'.alloc _)) ⟨w0.heap.size, 0, none⟩ 1 c vs.toList hx (by simp [hvs]) ?_ (fun u hu => (Array.all_eq_true_iff_forall_mem.1 h1) u (by simpa using hu)) (by unfold maxLen; omega) ?_ (by omega) fun v' w' h2 h3 _ => h v' w' h2 ?_ ?_
  · intro j u hj
    have := cells_new w0 vs e j u hj
    rw [← this]; exact World.cell?_of_block (by rw [hheap])
  · have := Nat.mul_le_mul (show n + 1 ≤ 1000000000 by omega) hby
    omega
  · exact ⟨h3.os.trans h4.os, h3.tape.trans h4.tape, h3.output.trans h4.output, Nat.le_trans h4.size h3.size, fun j hj hne => (h3.block j (Nat.lt_of_lt_of_le hj h4.size) hne).trans (h4.block j hj hne)⟩
  · exact ((Below.refl B w0).grown h4 hbase (fun j hj => (hown'.lt j hj).1)).grown h3 (by omega) (fun j hj => (hown'.lt j hj).1)

theorem ownsRow_slice {w : World} {B : Nat} {e : TypeId} {k : Nat} {v : Value} {n : Nat} {xs : List Value} (h : w.ownsRow B e k v n xs) : ∃ A c, v = .slice A n c := by
  obtain ⟨_, ⟨rfl, rfl⟩ | ⟨g, cap, _, rfl, _⟩⟩ := h
  · exact ⟨_, _, rfl⟩
  · exact ⟨_, _, rfl⟩
end Go.Proofs.YtpjfidmapnnbkaaGreatDoor

/- 'append(s, xs...)' onto a row of the call's own, the source nil, empty or not (no program in sight). -/
namespace Go.Proofs.YtpjfidmapnnbkaaGreatDoor
open Go.RowKit

/-- Nothing is appended: the nil slice. -/
theorem run_cat_nil {P : Program} (w : World) (base : Nat) (t ty e : TypeId) (i : TypeInfo) (size : Nat) (ht : P.underlying t = some (.slice e)) (hi : P.info? e = some i)
    (v : Value) (n : Nat) (xs : List Value) (hown : w.ownsRow base e size v n xs) (c : Nat) : (Builtin.append_ #[t, t] ty #[v, .slice none 0 c]).run P w = .ok v w := by
  obtain ⟨_, ⟨rfl, rfl⟩ | ⟨g, cap, cur, rfl, _, _, hcap, _⟩⟩ := hown
  · simp [Builtin.append_, run_underlying ht, sizeOf, typeInfo, hi, Builtin.lenOf, Builtin.firstCells]
  · simp [Builtin.append_, run_underlying ht, sizeOf, typeInfo, hi, Builtin.lenOf, Builtin.firstCells, hcap, storeCells]

theorem addr_add (b o j : Nat) : ((⟨b, o, none⟩ : Addr).add j) = ⟨b, o + j, none⟩ := by unfold Addr.add; by_cases h : j = 0 <;> simp [h]

theorem wp_cat {P : Program} {o : Oper} {a : Act} {w : World} {K : Act → World → Prop} {Q : Exit → Act → World → Prop} (s x : Operand) (t : TypeId)
    (ho : o.op = .call { callee := .builtin .append, args := #[s, x], argTypes := #[t, t] })
    (e : TypeId) (z : Value) (k bytes : Nat) (ht : P.underlying t = some (.slice e)) (hinfo : (P.info? e).map (fun i => (i.zero, i.size, i.bytes)) = some (some z, k, bytes)) (hzs : z.cells.size = k) (hsz : 0 < k) (hby : bytes ≤ 1000)
    (B : Nat) (v : Value) (n : Nat) (xs : List Value) (hs : a.eval s = v) (hown : Hid (w.ownsRow B e k v n xs))
    (S : Nat) (A : Option Addr) (m c : Nat) (cs : List Value) (hx : a.eval x = .slice A m c) (hr : Hid (SlcR w S k A m cs)) (h1 : ∀ u ∈ cs, u.oneCell' = true)
    (hn : n + m ≤ 1000000000) (hbase : B ≤ w.heap.size)
    (h : ∀ v' w', Hid (w'.ownsRow B e k v' (n + m) (xs ++ cs)) → w.grownBy w' v.ownBlock → Below B w w' → (v'.ownBlock = v.ownBlock ∨ v'.ownBlock = some w.heap.size) → K (a.put o.dst v') w') : o.wp P a w K Q := by
  obtain ⟨i, hi, hz, hs', hb⟩ := info_parts hinfo
  have hbytes : (n + m) * bytes ≤ 140737488355328 := by have := Nat.mul_le_mul hn hby; omega
  have fin : ∀ v' w', (Builtin.append_ #[t, t] o.type #[v, .slice A m c]).run P w = .ok v' w' → w'.ownsRow B e k v' (n + m) (xs ++ cs) → w.grownBy w' v.ownBlock → (v'.ownBlock = v.ownBlock ∨ v'.ownBlock = some w.heap.size) → o.wp P a w K Q := by
    intro v' w' hrun h2 h3 h4
    unfold Oper.wp execOp
    simp only [ho, resolve, invoke, builtin, Sem.run_bind, Sem.run_pure, Result.andThen_ok, List.map_toArray, List.map_cons, List.map_nil, hs, hx, hrun]
    exact h v' w' h2 h3 ((Below.refl B w).grown h3 hbase (fun j hj => (hown.out.lt j hj).1)) h4
  rcases Nat.eq_zero_or_pos m with h0 | h0
  · subst h0
    have hc0 : cs = [] := List.eq_nil_of_length_eq_zero (by simpa using hr.out.len)
    subst hc0
    rcases A with _ | ad
    · exact fin v w (run_cat_nil w B t o.type e i k ht hi v n xs hown.out c) (by simpa using hown.out) (World.grownBy.refl w _) (.inl rfl)
    · obtain ⟨v', w', hrun, h2, h3, _, h5⟩ := run_append_own_at (P := P) w B t o.type e i z k bytes ht hi hz hs' hb hzs hsz v n xs hown.out ad 0 c [] (by simp) (by simp) (by simp) (by unfold maxLen; omega) hbytes hbase
      exact fin v' w' hrun h2 h3 h5
  · obtain ⟨b, off, rfl, hlt, hcell⟩ := hr.out.at_ h0
    obtain ⟨v', w', hrun, h2, h3, _, h5⟩ := run_append_own_at (P := P) w B t o.type e i z k bytes ht hi hz hs' hb hzs hsz v n xs hown.out ⟨b, off, none⟩ m c cs hr.out.len (fun j u hu => by rw [addr_add]; exact hcell j u hu) h1 (by unfold maxLen; omega) hbytes hbase
    exact fin v' w' hrun h2 h3 h5

theorem wpList_cat {P : Program} {ops : Array Oper} {rest : List Oper} {o : Oper} {a : Act} {w : World} {Q : Exit → Act → World → Prop} (hgd : o.guard = none) (s x : Operand) (t : TypeId)
    (ho : o.op = .call { callee := .builtin .append, args := #[s, x], argTypes := #[t, t] })
    (e : TypeId) (z : Value) (k bytes : Nat) (ht : P.underlying t = some (.slice e)) (hinfo : (P.info? e).map (fun i => (i.zero, i.size, i.bytes)) = some (some z, k, bytes)) (hzs : z.cells.size = k) (hsz : 0 < k) (hby : bytes ≤ 1000)
    (B : Nat) (v : Value) (n : Nat) (xs : List Value) (hs : a.eval s = v) (hown : Hid (w.ownsRow B e k v n xs))
    (S : Nat) (A : Option Addr) (m c : Nat) (cs : List Value) (hx : a.eval x = .slice A m c) (hr : Hid (SlcR w S k A m cs)) (h1 : ∀ u ∈ cs, u.oneCell' = true)
    (hn : n + m ≤ 1000000000) (hbase : B ≤ w.heap.size)
    (h : ∀ v' w', Hid (w'.ownsRow B e k v' (n + m) (xs ++ cs)) → w.grownBy w' v.ownBlock → Below B w w' → (v'.ownBlock = v.ownBlock ∨ v'.ownBlock = some w.heap.size) → wpList P ops Q rest (a.put o.dst v') w') : wpList P ops Q (o :: rest) a w :=
  wpList_plain hgd fun _ hK => wp_cat s x t ho e z k bytes ht hinfo hzs hsz hby B v n xs hs hown S A m c cs hx hr h1 hn hbase fun v' w' h2 h3 h4 h5 => hK _ _ (h v' w' h2 h3 h4 h5)

/-- A slice made by the text itself, of no element. -/
theorem owns_empty {w : World} {B g : Nat} {e : TypeId} {k : Nat} (h : Lies w g e []) (hB : B ≤ g) : w.ownsRow B e k (.slice (some ⟨g, 0, none⟩) 0 0) 0 [] := h.own hB (by simp) (by unfold maxLen; omega)
theorem ints_one {l : List Int} : ∀ u ∈ (l.map (Value.int .i64)), u.oneCell' = true := by
  intro u hu; obtain ⟨n, _, rfl⟩ := List.mem_map.1 hu; rfl
end Go.Proofs.YtpjfidmapnnbkaaGreatDoor

/- Rows that are spliced: copy, clear, append in place, at elements of k cells (no program in sight). -/
namespace Go.Proofs.YtpjfidmapnnbkaaGreatDoor
open Go.RowKit

theorem Lies.setCells {g : Nat} {t : TypeId} : ∀ (vs : List Value) (o : Nat) (w : World) (cs : List Value), Lies w g t cs → o + vs.length ≤ cs.length → Lies (w.setCells g o vs) g t (splice cs o vs)
  | [], o, w, cs, h, _ => by simpa [World.setCells, splice] using h
  | v :: r, o, w, cs, h, hl => by
    rw [World.setCells]
    have h2 := Lies.setCells r (o + 1) (w.setCell ⟨g, o, none⟩ v) (cs.set o v) (h.set o v) (by simp at hl ⊢; omega)
    have e : splice (cs.set o v) (o + 1) r = splice cs o (v :: r) := by
      unfold splice
      have hlt : o < cs.length := by simp at hl; omega
      have e1 : (cs.set o v).take (o + 1) = cs.take o ++ [v] := by
        rw [List.take_set, List.take_succ_eq_append_getElem hlt, List.set_append_right _ _ (by rw [List.length_take]; omega)]
        rw [List.length_take, Nat.min_eq_left (by omega), Nat.sub_self]; rfl
      have e2 : (cs.set o v).drop (o + 1 + r.length) = cs.drop (o + (v :: r).length) := by
        rw [List.drop_set_of_lt (by omega)]; congr 1; simp; omega
      rw [e1, e2]; simp
    rw [e] at h2; exact h2
theorem grown_setCells {a : World} {g : Nat} : ∀ (vs : List Value) (o : Nat) (w : World), a.grownBy w (some g) → a.grownBy (w.setCells g o vs) (some g)
  | [], _, _, h => h
  | v :: r, o, w, h => by
    rw [World.setCells]
    have hs : a.grownBy (w.setCell ⟨g, o, none⟩ v) (some g) :=
      ⟨h.os, h.tape, h.output, by have := h.size; simpa [World.setCell] using this, fun k hk hne => (Below.heap_setCell w ⟨g, o, none⟩ v k (fun e => hne (by rw [e]))).trans (h.block k hk hne)⟩
    exact grown_setCells r (o + 1) _ hs
theorem Lies.drew {w : World} {g : Nat} {t : TypeId} {cs : List Value} (h : Lies w g t cs) : Lies w.drew g t cs := h

/-- copy at elements of k cells. -/
theorem run_copy_k {P : Program} (w : World) (dT sT ty elem : TypeId) (k b o dLen dCap : Nat) (a : Addr) (sLen sCap : Nat) (cs : List Value)
    (hu : P.underlying dT = some (.slice elem)) (hs : (P.info? elem).map (·.size) = some k) (hn : cs.length = Nat.min sLen dLen * k)
    (hsrc : ∀ j v, cs[j]? = some v → w.cell? (a.add j) = some v) (hc : ∀ j, j < cs.length → (w.cell? ⟨b, o + j, none⟩).isSome = true) (hf : ∀ j, j < cs.length → w.frozen? ⟨b, o + j, none⟩ = false) (h1 : ∀ v ∈ cs, v.oneCell' = true) :
    (Builtin.copy_ #[dT, sT] ty #[.slice (some ⟨b, o, none⟩) dLen dCap, .slice (some a) sLen sCap]).run P w = .ok (goInt (Nat.min sLen dLen)) (w.setCells b o cs) := by
  have hst := run_storeCells_cells (P := P) b o cs 0 w (by simpa using hc) (by simpa using hf) h1
  cases hq : P.info? elem with
  | none => simp [hq] at hs
  | some i =>
    have hi : i.size = k := by simpa [hq] using hs
    have hfc := run_firstCells_some (P := P) w k (Nat.min sLen dLen) a sLen sCap cs hn hsrc
    simp [Builtin.copy_, run_underlying hu, Builtin.lenOf, sizeOf, typeInfo, hq, hi, hfc, hst]
/-- copy into a block that is known whole. -/
theorem run_copy_own {P : Program} (w : World) (dT sT ty elem e : TypeId) (k b o dLen dCap : Nat) (a : Addr) (sLen sCap m : Nat) (cs cur : List Value)
    (hu : P.underlying dT = some (.slice elem)) (hs : (P.info? elem).map (·.size) = some k) (hm : Nat.min sLen dLen = m) (hn : cs.length = m * k)
    (hL : Lies w b e cur) (hfit : o + cs.length ≤ cur.length) (hsrc : ∀ j v, cs[j]? = some v → w.cell? (a.add j) = some v) (h1 : ∀ v ∈ cs, v.oneCell' = true) :
    (Builtin.copy_ #[dT, sT] ty #[.slice (some ⟨b, o, none⟩) dLen dCap, .slice (some a) sLen sCap]).run P w = .ok (goInt m) (w.setCells b o cs) := by
  subst hm
  exact run_copy_k w dT sT ty elem k b o dLen dCap a sLen sCap cs hu hs hn hsrc (fun j hj => by rw [hL.cell, List.getElem?_eq_getElem (by omega)]; rfl) (fun j hj => hL.frozen _) h1
/-- clear at elements of k cells. -/
theorem run_clear_k {P : Program} (w : World) (t e ty : TypeId) (z : Value) (zs : List Value) (ht : P.underlying t = some (.slice e)) (hv : ∀ w, (zeroValue e).run P w = .ok z w) (b o n c : Nat) (hn : 0 < n) (hz : (Builtin.zeroCells z.cells n).toList = zs) (h1 : ∀ v ∈ zs, v.oneCell' = true)
    (hc : ∀ j, j < zs.length → (w.cell? ⟨b, o + j, none⟩).isSome = true) (hf : ∀ j, j < zs.length → w.frozen? ⟨b, o + j, none⟩ = false) :
    (Builtin.clear_ #[t] ty #[.slice (some ⟨b, o, none⟩) n c]).run P w = .ok (.tuple #[]) (w.setCells b o zs) := by
  have hst := run_storeCells_cells (P := P) b o zs 0 w (by simpa using hc) (by simpa using hf) h1
  simp only [Nat.add_zero] at hst
  obtain ⟨m, rfl⟩ : ∃ m, n = m + 1 := ⟨n - 1, by omega⟩
  simp [Builtin.clear_, run_underlying ht, hv, hz, hst]

/-- What an insertion in place leaves. -/
theorem splice_insert (cur xs x : List Value) (i k n : Nat) (hx : x.length = k) (hxs : xs.length = n * k) (hi : i ≤ n) (hcur : cur.take (n * k) = xs) (hroom : (n + 1) * k ≤ cur.length) :
    (splice (splice cur (i * k + k) (xs.drop (i * k))) (i * k) x).take ((n + 1) * k) = xs.take (i * k) ++ x ++ xs.drop (i * k) := by
  have hik : i * k ≤ n * k := Nat.mul_le_mul_right k hi
  have hn1 : (n + 1) * k = n * k + k := Nat.succ_mul n k
  rw [hn1] at hroom ⊢
  have hl0 : n * k ≤ cur.length := by omega
  have et : (cur.take (i * k)) = xs.take (i * k) := by rw [← hcur, List.take_take, Nat.min_eq_left hik]
  have hd : (xs.drop (i * k)).length = n * k - i * k := by rw [List.length_drop, hxs]
  have e1 : splice cur (i * k + k) (xs.drop (i * k)) = cur.take (i * k + k) ++ xs.drop (i * k) ++ cur.drop (n * k + k) := by
    unfold splice; rw [hd]; congr 2; omega
  have l1 : (cur.take (i * k + k)).length = i * k + k := by rw [List.length_take]; omega
  rw [e1]
  unfold splice
  have e2 : (cur.take (i * k + k) ++ xs.drop (i * k) ++ cur.drop (n * k + k)).take (i * k) = xs.take (i * k) := by
    rw [List.append_assoc, List.take_append_of_le_length (by omega), List.take_take, Nat.min_eq_left (by omega), et]
  have e3 : (cur.take (i * k + k) ++ xs.drop (i * k) ++ cur.drop (n * k + k)).drop (i * k + x.length) = xs.drop (i * k) ++ cur.drop (n * k + k) := by
    rw [hx, List.append_assoc, List.drop_append_of_le_length (by omega), List.drop_of_length_le (by omega), List.nil_append]
  rw [e2, e3, ← List.append_assoc]
  have l2 : (xs.take (i * k) ++ x ++ xs.drop (i * k)).length = n * k + k := by
    rw [List.length_append, List.length_append, List.length_take, hd, hxs, hx]; omega
  rw [List.take_append_of_le_length (by omega), List.take_of_length_le (by omega)]
theorem splice_len (cs vs : List Value) (o : Nat) (h : o + vs.length ≤ cs.length) : (splice cs o vs).length = cs.length := by
  unfold splice; simp; omega
/-- What a deletion leaves. -/
theorem splice_delete (cur xs zs : List Value) (i k n : Nat) (hz : zs.length = k) (hxs : xs.length = n * k) (hi : i < n) (hcur : cur.take (n * k) = xs) (hl : n * k ≤ cur.length) :
    (splice (splice cur (i * k) (xs.drop (i * k + k))) ((n - 1) * k) zs).take ((n - 1) * k) = xs.take (i * k) ++ xs.drop (i * k + k) := by
  have hik : i * k + k ≤ n * k := by rw [← Nat.succ_mul]; exact Nat.mul_le_mul_right k hi
  have hn1 : (n - 1) * k + k = n * k := by rw [← Nat.succ_mul]; congr 1; omega
  have et : (cur.take (i * k)) = xs.take (i * k) := by rw [← hcur, List.take_take, Nat.min_eq_left (by omega)]
  have hd : (xs.drop (i * k + k)).length = n * k - (i * k + k) := by rw [List.length_drop, hxs]
  have l1 : (xs.take (i * k) ++ xs.drop (i * k + k)).length = (n - 1) * k := by rw [List.length_append, List.length_take, hd, hxs]; omega
  have e1 : (splice cur (i * k) (xs.drop (i * k + k))).take ((n - 1) * k) = xs.take (i * k) ++ xs.drop (i * k + k) := by
    unfold splice; rw [et, List.take_append_of_le_length (by omega), List.take_of_length_le (by omega)]
  have l2 : (splice cur (i * k) (xs.drop (i * k + k))).length = cur.length := splice_len _ _ _ (by rw [hd]; omega)
  have e2 : (splice (splice cur (i * k) (xs.drop (i * k + k))) ((n - 1) * k) zs) = (splice cur (i * k) (xs.drop (i * k + k))).take ((n - 1) * k) ++ (zs ++ (splice cur (i * k) (xs.drop (i * k + k))).drop ((n - 1) * k + zs.length)) := by
    rw [splice, List.append_assoc]
  rw [e2, List.take_append_of_le_length (by rw [List.length_take]; omega), List.take_take, Nat.min_self, e1]
/-- What an insertion into a new row leaves. -/
theorem splice_grow (xs x Z : List Value) (i k n : Nat) (hx : x.length = k) (hxs : xs.length = n * k) (hi : i ≤ n) (hZ : (n + 1) * k ≤ i * k + Z.length) :
    (splice (splice (xs.take (i * k) ++ Z) (i * k) x) ((i + 1) * k) (xs.drop (i * k))).take ((n + 1) * k) = xs.take (i * k) ++ x ++ xs.drop (i * k) := by
  have hik : i * k ≤ n * k := Nat.mul_le_mul_right k hi
  have hn1 : (n + 1) * k = n * k + k := Nat.succ_mul n k
  have hi1 : (i + 1) * k = i * k + k := Nat.succ_mul i k
  rw [hn1] at hZ ⊢
  rw [hi1]
  have lt : (xs.take (i * k)).length = i * k := by rw [List.length_take]; omega
  have ld : (xs.drop (i * k)).length = n * k - i * k := by rw [List.length_drop, hxs]
  have e1 : splice (xs.take (i * k) ++ Z) (i * k) x = xs.take (i * k) ++ x ++ Z.drop k := by
    unfold splice
    rw [List.take_append_of_le_length (by omega), List.take_of_length_le (by omega), List.drop_append, List.drop_eq_nil_of_le (by omega), lt, hx, List.nil_append]
    congr 2; omega
  have l1 : (xs.take (i * k) ++ x).length = i * k + k := by rw [List.length_append, lt, hx]
  rw [e1]
  unfold splice
  have e2 : (xs.take (i * k) ++ x ++ Z.drop k).take (i * k + k) = xs.take (i * k) ++ x := by
    rw [List.take_append_of_le_length (by omega), List.take_of_length_le (by omega)]
  rw [e2]
  have l2 : (xs.take (i * k) ++ x ++ xs.drop (i * k)).length = n * k + k := by rw [List.length_append, l1, ld]; omega
  rw [List.take_append_of_le_length (by omega), List.take_of_length_le (by omega)]
theorem Lies.shape {w : World} {g : Nat} {t : TypeId} {cs : List Value} (h : Lies w g t cs) : w.shape? g = some (t, cs.length) := by
  unfold Lies at h; simp [World.shape?, h]
/-- Two blocks of their own do not overlap. -/
theorem run_overlaps_own {P : Program} (w : World) (f : FuncId) (fn : Func) (tS tR e : TypeId) (hf : P.funcs[f]? = some fn) (hname : (fn.name == "runtime.NumGoroutine") = false) (hb : fn.body.isNone = true) (hnx : Extern.findNext fn = none) (he : Extern.find fn = some (Extern.SlicesOverlaps.overlaps #[tS, tS] #[tR]))
    (ht : P.underlying tS = some (.slice e)) (size : Nat) (hz : ∀ w, (Go.sizeOf e).run P w = .ok size w) (ga gb : Nat) (oa ob la ca lb cb : Nat) (hne : ga ≠ gb) (ta tb : TypeId) (xa xb : List Value) (hLa : Lies w ga ta xa) (hLb : Lies w gb tb xb) (hxb : xb.length ≠ 0) :
    (callFunc f #[.slice (some ⟨ga, oa, none⟩) la ca, .slice (some ⟨gb, ob, none⟩) lb cb]).run P w = .ok (.value (.bool false)) w := by
  rw [run_callFunc_extern hf hname hb hnx he, Lib.run_overlaps_apart w tS tR e ht size hz ⟨ga, oa, none⟩ ⟨gb, ob, none⟩ la ca lb cb hne ta tb _ _ hLa.shape hLb.shape hxb (hLa.frozen _) (hLa.frozen _)]
  rfl

/-- The operation copy, where its run is known. -/
theorem wp_copy_known {P : Program} (w : World) {o : Oper} {a : Act} {K : Act → World → Prop} {Q : Exit → Act → World → Prop} (d s : Operand) (t t' : TypeId)
    (ho : o.op = .call { callee := .builtin .copy, args := #[d, s], argTypes := #[t, t'] }) (v u : Value) (hd : a.eval d = v) (hs : a.eval s = u) {v' : Value} {w' : World}
    (hr : (Builtin.copy_ #[t, t'] o.type #[v, u]).run P w = .ok v' w') (h : K (a.put o.dst v') w') : o.wp P a w K Q := by
  unfold Oper.wp execOp
  simp only [ho, resolve, invoke, builtin, Sem.run_bind, Sem.run_pure, Result.andThen_ok, List.map_toArray, List.map_cons, List.map_nil, hd, hs, hr]
  exact h
theorem wp_copy_own {P : Program} {w : World} {o : Oper} {a : Act} {K : Act → World → Prop} {Q : Exit → Act → World → Prop} (d s : Operand) (t : TypeId)
    (ho : o.op = .call { callee := .builtin .copy, args := #[d, s], argTypes := #[t, t] }) (e elem : TypeId) (k b ofs dLen dCap : Nat) (A : Addr) (sLen sCap m : Nat) (cs cur : List Value)
    (hd : a.eval d = .slice (some ⟨b, ofs, none⟩) dLen dCap) (hs : a.eval s = .slice (some A) sLen sCap)
    (hu : P.underlying t = some (.slice elem)) (hi : (P.info? elem).map (·.size) = some k) (hm : Nat.min sLen dLen = m) (hn : cs.length = m * k)
    (hL : Hid (Lies w b e cur)) (hfit : Hid (ofs + cs.length ≤ cur.length)) (hsrc : Hid (∀ j v, cs[j]? = some v → w.cell? (A.add j) = some v)) (h1 : Hid (∀ v ∈ cs, v.oneCell' = true))
    (h : ∀ w', Hid (Lies w' b e (splice cur ofs cs)) → w.grownBy w' (some b) → K (a.put o.dst (goInt m)) w') : o.wp P a w K Q :=
  wp_copy_known w d s t t ho _ _ hd hs (run_copy_own w t t o.type elem e k b ofs dLen dCap A sLen sCap m cs cur hu hi hm hn hL.out hfit.out hsrc.out h1.out) (h _ (Lies.setCells cs ofs w cur hL.out hfit.out) (grown_setCells cs ofs w (World.grownBy.refl w _)))
theorem wpList_copy_own {P : Program} {w : World} {ops : Array Oper} {rest : List Oper} {o : Oper} {a : Act} {Q : Exit → Act → World → Prop} (hgd : o.guard = none) (d s : Operand) (t : TypeId)
    (ho : o.op = .call { callee := .builtin .copy, args := #[d, s], argTypes := #[t, t] }) (e elem : TypeId) (k b ofs dLen dCap : Nat) (A : Addr) (sLen sCap m : Nat) (cs cur : List Value)
    (hd : a.eval d = .slice (some ⟨b, ofs, none⟩) dLen dCap) (hs : a.eval s = .slice (some A) sLen sCap)
    (hu : P.underlying t = some (.slice elem)) (hi : (P.info? elem).map (·.size) = some k) (hm : Nat.min sLen dLen = m) (hn : cs.length = m * k)
    (hL : Hid (Lies w b e cur)) (hfit : Hid (ofs + cs.length ≤ cur.length)) (hsrc : Hid (∀ j v, cs[j]? = some v → w.cell? (A.add j) = some v)) (h1 : Hid (∀ v ∈ cs, v.oneCell' = true))
    (h : ∀ w', Hid (Lies w' b e (splice cur ofs cs)) → w.grownBy w' (some b) → wpList P ops Q rest (a.put o.dst (goInt m)) w') : wpList P ops Q (o :: rest) a w :=
  wpList_plain hgd fun _ hK => wp_copy_own d s t ho e elem k b ofs dLen dCap A sLen sCap m cs cur hd hs hu hi hm hn hL hfit hsrc h1 fun w' h2 h3 => hK _ _ (h w' h2 h3)
theorem step_copy_own {P : Program} {w : World} {ops : Array Oper} {o : Oper} {a : Act} {K : Act → World → Prop} {Q : Exit → Act → World → Prop} {E : Prop} (hgd : o.guard = none) (d s : Operand) (t : TypeId)
    (ho : o.op = .call { callee := .builtin .copy, args := #[d, s], argTypes := #[t, t] }) (e elem : TypeId) (k b ofs dLen dCap : Nat) (A : Addr) (sLen sCap m : Nat) (cs cur : List Value)
    (hd : a.eval d = .slice (some ⟨b, ofs, none⟩) dLen dCap) (hs : a.eval s = .slice (some A) sLen sCap)
    (hu : P.underlying t = some (.slice elem)) (hi : (P.info? elem).map (·.size) = some k) (hm : Nat.min sLen dLen = m) (hn : cs.length = m * k)
    (hL : Hid (Lies w b e cur)) (hfit : Hid (ofs + cs.length ≤ cur.length)) (hsrc : Hid (∀ j v, cs[j]? = some v → w.cell? (A.add j) = some v)) (h1 : Hid (∀ v ∈ cs, v.oneCell' = true))
    (h : ∀ w', Hid (Lies w' b e (splice cur ofs cs)) → w.grownBy w' (some b) → K (a.put o.dst (goInt m)) w') :
    if Region.wanted o (yielded ops a.tmps) = true then Oper.wp P o a w K Q else E := by
  have hw : Region.wanted o (yielded ops a.tmps) = true := by simp [Region.wanted, hgd]
  rw [if_pos hw]
  exact wp_copy_own d s t ho e elem k b ofs dLen dCap A sLen sCap m cs cur hd hs hu hi hm hn hL hfit hsrc h1 h
/-- The operation clear, into a block that is known whole. -/
theorem wpList_clear_own {P : Program} {w : World} {ops : Array Oper} {rest : List Oper} {o : Oper} {a : Act} {Q : Exit → Act → World → Prop} (hgd : o.guard = none) (d : Operand) (t : TypeId)
    (ho : o.op = .call { callee := .builtin .clear, args := #[d], argTypes := #[t] }) (e el : TypeId) (z : Value) (zs : List Value) (b ofs n c : Nat) (cur : List Value) (hd : a.eval d = .slice (some ⟨b, ofs, none⟩) n c)
    (ht : P.underlying t = some (.slice e)) (hv : ∀ w, (zeroValue e).run P w = .ok z w) (hn : 0 < n) (hz : (Builtin.zeroCells z.cells n).toList = zs) (h1 : ∀ v ∈ zs, v.oneCell' = true)
    (hL : Hid (Lies w b el cur)) (hfit : Hid (ofs + zs.length ≤ cur.length))
    (h : ∀ w', Hid (Lies w' b el (splice cur ofs zs)) → w.grownBy w' (some b) → wpList P ops Q rest (a.put o.dst (.tuple #[])) w') : wpList P ops Q (o :: rest) a w := by
  have hr := run_clear_k (P := P) w t e o.type z zs ht hv b ofs n c hn hz h1 (fun j hj => by rw [hL.out.cell, List.getElem?_eq_getElem (by have := hfit.out; omega)]; rfl) (fun j hj => hL.out.frozen _)
  refine wpList_plain hgd fun K hK => ?_
  unfold Oper.wp execOp
  simp only [ho, resolve, invoke, builtin, Sem.run_bind, Sem.run_pure, Result.andThen_ok, List.map_toArray, List.map_cons, List.map_nil, hd, hr]
  exact hK _ _ (h _ (Lies.setCells zs ofs w cur hL.out hfit.out) (grown_setCells zs ofs w (World.grownBy.refl w _)))
end Go.Proofs.YtpjfidmapnnbkaaGreatDoor
