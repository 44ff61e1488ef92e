/- Plain words on memory, no program in sight: worlds since a point; slices that read as lists of cells; blocks that are known whole. -/
import Derived.WalkKit
import Derived.WalkLawsBesides
import Derived.WalkSpells
import Derived.BigQuiet
import Derived.Deep.QuietTactic
import Derived.Deep.Draws
import Derived.Deep.MidRow
import Derived.Laws.CopyRow
import Derived.Outline
import Derived.Lib.Hide
import Derived.Handy
namespace Go.Proofs.YtojceibamgodbaaDoor
open Go.RowKit

/-- A world in which all that lay below block B of w still lies as it lay. -/
structure Since (B : Nat) (w : World) where
  val : World
  below : Below B w val

theorem Since.cell {B : Nat} {w : World} (p : Since B w) {a : Addr} (h : a.block < B) : p.val.cell? a = w.cell? a := p.below.cell h
theorem Since.size {B : Nat} {w : World} (p : Since B w) : w.heap.size ≤ p.val.heap.size := p.below.size
def Since.start (B : Nat) (w : World) : Since B w := ⟨w, Below.refl B w⟩
instance Since.any (B : Nat) (w : World) : Inhabited (Since B w) := ⟨Since.start B w⟩
def Since.go {B : Nat} {w : World} (p : Since B w) {w' : World} (hB : B ≤ w.heap.size) (h : Below p.val.heap.size p.val w') : Since B w :=
  ⟨w', p.below.trans (h.mono (Nat.le_trans hB p.size))⟩
def Since.go' {B : Nat} {w : World} (p : Since B w) {w' : World} (h : Below B p.val w') : Since B w := ⟨w', p.below.trans h⟩

/-- A region that draws its order, whose operations read and whose calls leave alone what lay below block B. -/
theorem wp_region_since {P : Program} {id : Nat} {Q : Exit → Act → World → Prop} {a : Act} {B : Nat} {w : World} {l : List Oper} (p : Since B w) (hm : P.follows .mixedOrders = true) (hB : Region.lexB .any l.toArray = true)
    (h : wpQuiet P l.toArray (fun w' => ∃ q : Since B w, w' = q.val) (fun a' => ∀ w', (∃ q : Since B w, w' = q.val) → Q .normal a' w') l a) : (Code.region id l.toArray true).wp P Q a p.val :=
  wp_region_quiet (C := fun w' => ∃ q : Since B w, w' = q.val) hm hB ⟨⟨_, p.below.drew⟩, rfl⟩ (by simpa using h)
/-- The same, from the world w itself. -/
theorem wp_region_since0 {P : Program} {id : Nat} {Q : Exit → Act → World → Prop} {a : Act} {w : World} {l : List Oper} (hm : P.follows .mixedOrders = true) (hB : Region.lexB .any l.toArray = true)
    (h : wpQuiet P l.toArray (fun w' => ∃ q : Since w.heap.size w, w' = q.val) (fun a' => ∀ w', (∃ q : Since w.heap.size w, w' = q.val) → Q .normal a' w') l a) : (Code.region id l.toArray true).wp P Q a w :=
  wp_region_since (Since.start w.heap.size w) hm hB h

/-- A callee's contract in a world since w. -/
theorem calls_since {P : Program} {f : FuncId} {args : Array Value} {B : Nat} {w : World} {q : Since B w} {v : Value} (hB : B ≤ w.heap.size)
    (h : Calls P f args q.val fun e w' => e = .returned v ∧ Below q.val.heap.size q.val w') : Calls P f args q.val fun e w' => e = .returned v ∧ ∃ q' : Since B w, w' = q'.val :=
  h.mono fun _ _ ⟨he, hb⟩ => ⟨he, q.go hB hb, rfl⟩
theorem calls_sinceB {P : Program} {f : FuncId} {args : Array Value} {B : Nat} {w : World} {q : Since B w} {b b' : Bool} (hb : Hid (b = b')) (hB : B ≤ w.heap.size)
    (h : Calls P f args q.val fun e w' => e = .returned (.bool b) ∧ Below q.val.heap.size q.val w') : Calls P f args q.val fun e w' => e = .returned (.bool b') ∧ ∃ q' : Since B w, w' = q'.val := by
  have := hb.out; subst this; exact calls_since hB h
theorem calls_same {P : Program} {f : FuncId} {args : Array Value} {B : Nat} {w : World} {q : Since B w} {v : Value}
    (h : Calls P f args q.val fun e w' => e = .returned v ∧ q.val = w') : Calls P f args q.val fun e w' => e = .returned v ∧ ∃ q' : Since B w, w' = q'.val :=
  h.mono fun _ _ ⟨he, hb⟩ => ⟨he, q, hb.symm⟩
theorem calls_sameB {P : Program} {f : FuncId} {args : Array Value} {B : Nat} {w : World} {q : Since B w} {b b' : Bool} (hb : Hid (b = b'))
    (h : Calls P f args q.val fun e w' => e = .returned (.bool b) ∧ q.val = w') : Calls P f args q.val fun e w' => e = .returned (.bool b') ∧ ∃ q' : Since B w, w' = q'.val := by
  have := hb.out; subst this; exact calls_same h

/-- Four results in slots. -/
theorem results_four {fn : Func} {t u v x : Tmp} (h : fn.results = #[.tmp t, .tmp u, .tmp v, .tmp x]) (tmps : Array Value) (P : Program) (w : World) :
    (results fn tmps).run P w = .ok (.tuple #[tmps.getD t undef, tmps.getD u undef, tmps.getD v undef, tmps.getD x undef]) w := by simp [results, h]

/-- One call behind another. -/
theorem bthen {a b c : World} (h : Below a.heap.size a b) (k : Below b.heap.size b c) : Below a.heap.size a c := h.trans (k.mono h.size)

/-- The first call from a world: it leaves one since. -/
theorem calls_since0 {P : Program} {f : FuncId} {args : Array Value} {W : World} {v : Value}
    (h : Calls P f args W fun e w' => e = .returned v ∧ Below W.heap.size W w') : Calls P f args W fun e w' => e = .returned v ∧ ∃ q' : Since W.heap.size W, w' = q'.val :=
  h.mono fun _ _ ⟨he, hb⟩ => ⟨he, ⟨_, hb⟩, rfl⟩

/-! ### Slices that read as lists of cells -/
/-- The slice with address A and n elements of k cells each reads as the cells cs, below block B. -/
structure SlcR (w : World) (B k : Nat) (A : Option Addr) (n : Nat) (cs : List Value) : Prop where
  len : cs.length = n * k
  big : n ≤ 9223372036854775807
  at_ : 0 < n → ∃ b off, A = some ⟨b, off, none⟩ ∧ b < B ∧ ∀ j u, cs[j]? = some u → w.cell? ⟨b, off + j, none⟩ = some u

theorem SlcR.keep {w w' : World} {B k n : Nat} {A : Option Addr} {cs : List Value} (h : SlcR w B k A n cs) (hk : ∀ p : Addr, p.block < B → w'.cell? p = w.cell? p) : SlcR w' B k A n cs :=
  ⟨h.len, h.big, fun hn => by
    obtain ⟨b, off, e, hb, hc⟩ := h.at_ hn
    exact ⟨b, off, e, hb, fun j u hu => (hk _ hb).trans (hc j u hu)⟩⟩
theorem SlcR.below {w w' : World} {B k n : Nat} {A : Option Addr} {cs : List Value} (h : SlcR w B k A n cs) (hb : Below B w w') : SlcR w' B k A n cs := h.keep fun _ hp => hb.cell hp
theorem SlcR.mono {w : World} {B B' k n : Nat} {A : Option Addr} {cs : List Value} (h : SlcR w B k A n cs) (hB : B ≤ B') : SlcR w B' k A n cs :=
  ⟨h.len, h.big, fun hn => by
    obtain ⟨b, off, e, hb, hc⟩ := h.at_ hn
    exact ⟨b, off, e, by omega, hc⟩⟩
theorem SlcR.up {w w' : World} {B k n : Nat} {A : Option Addr} {cs : List Value} (h : SlcR w B k A n cs) (hb : Below B w w') (hB : B ≤ w.heap.size) : SlcR w' w'.heap.size k A n cs :=
  (h.below hb).mono (Nat.le_trans hB hb.size)
theorem SlcR.then {w w' : World} {k n : Nat} {A : Option Addr} {cs : List Value} (h : SlcR w w.heap.size k A n cs) (hb : Below w.heap.size w w') : SlcR w' w'.heap.size k A n cs := (h.below hb).mono hb.size
theorem SlcR.nil (w : World) (B k : Nat) (A : Option Addr) : SlcR w B k A 0 [] := ⟨by simp, by omega, fun h => absurd h (by omega)⟩

/-- Place j of element i, in a list of elements of k cells. -/
theorem flat_at {α : Type} (enc : α → List Value) (k : Nat) (hk : ∀ x, (enc x).length = k) : ∀ (l : List α) (i : Nat) (h : i < l.length) (j : Nat), j < k → (l.flatMap enc)[i * k + j]? = (enc l[i])[j]?
  | x :: l, 0, _, j, hj => by
    simp only [List.flatMap_cons, Nat.zero_mul, Nat.zero_add, List.getElem_cons_zero]
    rw [List.getElem?_append_left (by rw [hk]; exact hj)]
  | x :: l, i + 1, h, j, hj => by
    have e : (i + 1) * k + j = (enc x).length + (i * k + j) := by rw [hk, Nat.succ_mul]; omega
    simp only [List.flatMap_cons, List.getElem_cons_succ]
    rw [e, List.getElem?_append_right (by omega), Nat.add_sub_cancel_left]
    exact flat_at enc k hk l i (by simpa using h) j hj
theorem flat_len {α : Type} (enc : α → List Value) (k : Nat) (hk : ∀ x, (enc x).length = k) : ∀ l : List α, (l.flatMap enc).length = l.length * k
  | [] => by simp
  | x :: l => by simp only [List.flatMap_cons, List.length_append, flat_len enc k hk l, hk, List.length_cons, Nat.succ_mul]; omega

/-! ### Blocks that are known whole -/
def Lies (w : World) (g : Nat) (t : TypeId) (cs : List Value) : Prop := w.heap[g]? = some (.cells cs.toArray t (0, 0))
section
variable {w w' : World} {g : Nat} {t : TypeId} {cs : List Value}
theorem Lies.lt (h : Lies w g t cs) : g < w.heap.size := by
  rcases Nat.lt_or_ge g w.heap.size with hlt | hge
  · exact hlt
  · unfold Lies at h; rw [Array.getElem?_eq_none hge] at h; cases h
theorem Lies.cell (h : Lies w g t cs) (i : Nat) : w.cell? ⟨g, i, none⟩ = cs[i]? := by rw [cell_of_row w g i _ t (0, 0) h]; simp
theorem Lies.frozen (h : Lies w g t cs) (i : Nat) : w.frozen? ⟨g, i, none⟩ = false := frozen_of_row w g i _ t h
theorem Lies.below {B : Nat} (h : Lies w g t cs) (hb : Below B w w') (hg : g < B) : Lies w' g t cs := (hb.block g hg).trans h
theorem Lies.kept {row : Option Nat} (h : Lies w g t cs) (hb : w.grownBy w' row) (hg : some g ≠ row) : Lies w' g t cs := (hb.block g h.lt hg).trans h
theorem Lies.alloc (h : Lies w g t cs) (o : Obj) : Lies (w.alloc o) g t cs := (Below.heap_alloc w o g h.lt).trans h
theorem Lies.set (h : Lies w g t cs) (i : Nat) (u : Value) : Lies (w.setCell ⟨g, i, none⟩ u) g t (cs.set i u) := by
  have := heap_setCell_same w g i cs.toArray t u h
  unfold Lies; rw [this]; simp
theorem Lies.other (h : Lies w g t cs) {p : Addr} (hp : g ≠ p.block) (u : Value) : Lies (w.setCell p u) g t cs := (Below.heap_setCell w p u g hp).trans h
theorem Lies.reads {k n : Nat} (h : Lies w g t cs) (hl : cs.length = n * k) (hn : n ≤ 9223372036854775807) : SlcR w w.heap.size k (some ⟨g, 0, none⟩) n cs :=
  ⟨hl, hn, fun _ => ⟨g, 0, rfl, h.lt, fun j u hu => by rw [Nat.zero_add, h.cell]; exact hu⟩⟩
end
theorem Lies.new (w : World) (t : TypeId) (cs : Array Value) : Lies (w.alloc (.cells cs t)) w.heap.size t cs.toList := heap_alloc_new w _
theorem Lies.of {w : World} {g : Nat} {t : TypeId} {cs : Array Value} (h : w.heap[g]? = some (.cells cs t (0, 0))) : Lies w g t cs.toList := h
theorem Lies.own {w : World} {g : Nat} {t : TypeId} {cs : List Value} (h : Lies w g t cs) {B k n : Nat} (hB : B ≤ g) (hl : cs.length = n * k) (hn : n ≤ maxLen) : w.ownsRow B t k (.slice (some ⟨g, 0, none⟩) n n) n cs := by
  refine ⟨hl, Or.inr ⟨g, n, _, rfl, hB, h, Nat.le_refl _, hn, by simpa using hl, ?_⟩⟩
  simp only
  exact List.take_of_length_le (by omega)

def splice (cs : List Value) (i : Nat) (vs : List Value) : List Value := cs.take i ++ vs ++ cs.drop (i + vs.length)

/-- A struct is stored into a block that is known whole. -/
theorem wpList_store_row {P : Program} {ops : Array Oper} {rest : List Oper} {op : Oper} {a : Act} {w : World} {Q : Exit → Act → World → Prop} (hgd : op.guard = none) (ty : TypeId) (x y : Operand) (ho : op.op = .store ty x y)
    (g o : Nat) (t : TypeId) (vs : Array Value) (hx : a.eval x = .pointer (some ⟨g, o, none⟩)) (hy : a.eval y = .agg vs)
    (cs : List Value) (hl : Lies w g t cs) (hfit : o + vs.size ≤ cs.length) (hi : (P.info? ty).map (·.size) = some vs.size) (h1 : vs.all (·.oneCell') = true)
    (h : ∀ w', Lies w' g t (splice cs o vs.toList) → w.grownBy w' (some g) → wpList P ops Q rest (a.put op.dst undef) w') : wpList P ops Q (op :: rest) a w := by
  refine wpList_plain hgd fun K hK => ?_
  have hrun := run_storeCells_at (P := P) g o t vs.toList 0 cs.toArray w hl (by simpa using hfit) (fun v hv => (Array.all_eq_true_iff_forall_mem.1 h1) v (by simpa using hv))
  cases hq : P.info? ty with
  | none => simp [hq] at hi
  | some i =>
    have hs : vs.size = i.size := by simp [hq] at hi; omega
    unfold Oper.wp execOp
    simp only [ho, hx, hy, Instr.storeAt, Instr.sureAddr, Sem.run_bind, Sem.run_pure, Result.andThen_ok]
    simp only [Nat.add_zero] at hrun
    simp [storeVar, sizeOf, typeInfo, hq, Value.cells, ← hs, hrun, Oper.upon]
    refine hK _ _ (h _ ?_ ?_)
    · have := setRow_heap w g cs.toArray (cs.take o ++ vs.toList ++ cs.drop (o + vs.size)).toArray t _ hl
      unfold Lies splice
      simpa using this
    · refine ⟨rfl, rfl, rfl, by simp [World.setRow], fun k hk hne => ?_⟩
      simp only [World.setRow, Array.getElem?_modify]
      rw [if_neg (fun e => hne (by rw [e]))]

/-- Splicing the next row in. -/
theorem splice_next {α : Type} (enc : α → List Value) (k : Nat) (hk : ∀ x, (enc x).length = k) (l : List α) (i : Nat) (hi : i < l.length) (rest : List Value) (hr : rest.length = (l.length - i) * k) :
    ∃ rest', splice ((l.take i).flatMap enc ++ rest) (i * k) (enc l[i]) = (l.take (i + 1)).flatMap enc ++ rest' ∧ rest'.length = (l.length - (i + 1)) * k := by
  refine ⟨rest.drop k, ?_, ?_⟩
  · have e1 : ((l.take i).flatMap enc).length = i * k := by rw [flat_len enc k hk, List.length_take, Nat.min_eq_left (by omega)]
    unfold splice
    rw [List.take_append_of_le_length (by omega), List.take_of_length_le (by omega), List.drop_append, List.drop_eq_nil_of_le (by rw [e1, hk]; omega), e1, hk, List.nil_append]
    rw [List.take_succ_eq_append_getElem hi, List.flatMap_append, List.flatMap_cons, List.flatMap_nil, List.append_nil, Nat.add_sub_cancel_left]
  · rw [List.length_drop, hr]
    obtain ⟨d, hd⟩ : ∃ d, l.length - i = d + 1 := ⟨l.length - i - 1, by omega⟩
    have hd' : l.length - (i + 1) = d := by omega
    rw [hd, hd', Nat.succ_mul, Nat.add_sub_cancel]

/-- The store of element k, in a loop that fills a made slice. -/
theorem wpList_store_next {P : Program} {ops : Array Oper} {rest : List Oper} {op : Oper} {a : Act} {w : World} {Q : Exit → Act → World → Prop} (hgd : op.guard = none) (ty : TypeId) (x y : Operand) (ho : op.op = .store ty x y)
    {α : Type} (enc : α → List Value) (ksz : Nat) (hk : ∀ x, (enc x).length = ksz) (l : List α) (k : Nat) (hlt : k < l.length) (old : List Value) (hold : Hid (old.length = (l.length - k) * ksz))
    (g : Nat) (t : TypeId) (vs : Array Value) (hx : a.eval x = .pointer (some ⟨g, k * ksz, none⟩)) (hy : a.eval y = .agg vs) (hv : Hid (vs.toList = enc l[k]))
    (hi : (P.info? ty).map (·.size) = some ksz) (h1 : vs.all (·.oneCell') = true) (hl : Lies w g t ((l.take k).flatMap enc ++ old))
    (h : ∀ w' old', Hid (Lies w' g t ((l.take (k + 1)).flatMap enc ++ old')) → Hid (old'.length = (l.length - (k + 1)) * ksz) → w.grownBy w' (some g) → wpList P ops Q rest (a.put op.dst undef) w') : wpList P ops Q (op :: rest) a w := by
  have hv' := hv.out
  have hold' := hold.out
  have hsz : vs.size = ksz := by have := congrArg List.length hv'; simpa [hk] using this
  obtain ⟨old', he, hl'⟩ := splice_next enc ksz hk l k hlt old hold'
  refine wpList_store_row hgd ty x y ho g (k * ksz) t vs hx hy _ hl ?_ (by rw [hi, hsz]) h1 fun w' h2 h3 => h w' old' ?_ hl' h3
  · rw [hsz, List.length_append, flat_len enc ksz hk, List.length_take, Nat.min_eq_left (by omega), hold']
    have : l.length - k = l.length - k - 1 + 1 := by omega
    rw [this, Nat.succ_mul]; omega
  · rw [hv', he] at h2; exact h2

/-- 'make([]T, n)', T a struct or not. -/
theorem run_make_all {P : Program} (t e : TypeId) (z : Value) (size bytes : Nat) (ht : P.underlying t = some (.slice e)) (hinfo : (P.info? e).map (fun i => (i.zero, i.size, i.bytes)) = some (some z, size, bytes))
    (n : Nat) (hbytes : bytes * n ≤ 140737488355328) (h63 : n ≤ 9223372036854775807) (w : World) :
    (Instr.makeSlice t (.int .i64 (n : Int)) (.int .i64 (n : Int))).run P w = .ok (.slice (some ⟨w.heap.size, 0, none⟩) n n) (w.alloc (.cells (madeCells z.cells (n * size)) e)) := by
  obtain ⟨i, hi, hz, hs, hb⟩ := info_parts hinfo
  have hb' : (i.bytes : Int) * (n : Int) ≤ 281474976710656 := by
    have h : ((i.bytes * n : Nat) : Int) ≤ 281474976710656 := by rw [hb]; omega
    rwa [Int.natCast_mul] at h
  have hr := run_make (P := P) w t e i z ht hi hz .i64 .i64 n n (by omega) (by omega) hb' (by omega)
  simp only [Int.toNat_natCast] at hr
  rw [← hs]
  exact hr

end Go.Proofs.YtojceibamgodbaaDoor
