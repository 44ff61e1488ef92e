/- Po01: the texts Base Num Itoab Itoa LibW LogM Bl AtoiW NumF Row NumW, joined into one file. -/
import Derived.WalkKit
import Derived.WalkLawsBesides
import Derived.WalkSpells
import Derived.BigQuiet
import Derived.Deep.QuietTactic
import Derived.Deep.Draws
import Derived.Deep.MidRow
import Derived.Laws.CopyRow
import Derived.Outline
import Derived.Lib.Hide
import Derived.Handy
import Derived.Test.YtpjfidmapnnbkaaDoorProg
import Derived.Lib.ItoaNum
import Derived.Lib.ItoaLen
import Derived.Shelf.LaysM
import Derived.Shelf.LaysC
import Derived.Shelf.Strconv.Itoa3
import Derived.Shelf.Strconv.AtoiAll
import Derived.Shelf.Strings.Search3
import Derived.Shelf.Strings.Prefix
import Derived.Shelf.Strings.Split
import Derived.Shelf.Strings.Replace
import Derived.WalkSmall
import Derived.Lib.AppendIntMem
import Derived.Lib.IndexLaws
import Derived.Lib.LastIndexLaws
import Derived.Lib.IndexMore
import Derived.Lib.AtoiErrMem
import Derived.Lib.AtoiTie

set_option linter.unusedVariables false

/- Plain words on memory, no program in sight: worlds since a point; slices that read as lists of cells; blocks that are known whole. -/
namespace Go.Proofs.YtpjfidmapnnbkaaDoor
open Go.RowKit

/-- A world in which all that lay below block B of w still lies as it lay. -/
structure Since (B : Nat) (w : World) where
  val : World
  below : Below B w val

theorem Since.cell {B : Nat} {w : World} (p : Since B w) {a : Addr} (h : a.block < B) : p.val.cell? a = w.cell? a := p.below.cell h
theorem Since.size {B : Nat} {w : World} (p : Since B w) : w.heap.size ≤ p.val.heap.size := p.below.size
def Since.start (B : Nat) (w : World) : Since B w := ⟨w, Below.refl B w⟩
instance Since.any (B : Nat) (w : World) : Inhabited (Since B w) := ⟨Since.start B w⟩
def Since.go {B : Nat} {w : World} (p : Since B w) {w' : World} (hB : B ≤ w.heap.size) (h : Below p.val.heap.size p.val w') : Since B w :=
  ⟨w', p.below.trans (h.mono (Nat.le_trans hB p.size))⟩
def Since.go' {B : Nat} {w : World} (p : Since B w) {w' : World} (h : Below B p.val w') : Since B w := ⟨w', p.below.trans h⟩

/-- A region that draws its order, whose operations read and whose calls leave alone what lay below block B. -/
theorem wp_region_since {P : Program} {id : Nat} {Q : Exit → Act → World → Prop} {a : Act} {B : Nat} {w : World} {l : List Oper} (p : Since B w) (hm : P.follows .mixedOrders = true) (hB : Region.lexB .any l.toArray = true)
    (h : wpQuiet P l.toArray (fun w' => ∃ q : Since B w, w' = q.val) (fun a' => ∀ w', (∃ q : Since B w, w' = q.val) → Q .normal a' w') l a) : (Code.region id l.toArray true).wp P Q a p.val :=
  wp_region_quiet (C := fun w' => ∃ q : Since B w, w' = q.val) hm hB ⟨⟨_, p.below.drew⟩, rfl⟩ (by simpa using h)
/-- The same, from the world w itself. -/
theorem wp_region_since0 {P : Program} {id : Nat} {Q : Exit → Act → World → Prop} {a : Act} {w : World} {l : List Oper} (hm : P.follows .mixedOrders = true) (hB : Region.lexB .any l.toArray = true)
    (h : wpQuiet P l.toArray (fun w' => ∃ q : Since w.heap.size w, w' = q.val) (fun a' => ∀ w', (∃ q : Since w.heap.size w, w' = q.val) → Q .normal a' w') l a) : (Code.region id l.toArray true).wp P Q a w :=
  wp_region_since (Since.start w.heap.size w) hm hB h

/-- A callee's contract in a world since w. -/
theorem calls_since {P : Program} {f : FuncId} {args : Array Value} {B : Nat} {w : World} {q : Since B w} {v : Value} (hB : B ≤ w.heap.size)
    (h : Calls P f args q.val fun e w' => e = .returned v ∧ Below q.val.heap.size q.val w') : Calls P f args q.val fun e w' => e = .returned v ∧ ∃ q' : Since B w, w' = q'.val :=
  h.mono fun _ _ ⟨he, hb⟩ => ⟨he, q.go hB hb, rfl⟩
theorem calls_sinceB {P : Program} {f : FuncId} {args : Array Value} {B : Nat} {w : World} {q : Since B w} {b b' : Bool} (hb : Hid (b = b')) (hB : B ≤ w.heap.size)
    (h : Calls P f args q.val fun e w' => e = .returned (.bool b) ∧ Below q.val.heap.size q.val w') : Calls P f args q.val fun e w' => e = .returned (.bool b') ∧ ∃ q' : Since B w, w' = q'.val := by
  have := hb.out; subst this; exact calls_since hB h
theorem calls_same {P : Program} {f : FuncId} {args : Array Value} {B : Nat} {w : World} {q : Since B w} {v : Value}
    (h : Calls P f args q.val fun e w' => e = .returned v ∧ q.val = w') : Calls P f args q.val fun e w' => e = .returned v ∧ ∃ q' : Since B w, w' = q'.val :=
  h.mono fun _ _ ⟨he, hb⟩ => ⟨he, q, hb.symm⟩
theorem calls_sameB {P : Program} {f : FuncId} {args : Array Value} {B : Nat} {w : World} {q : Since B w} {b b' : Bool} (hb : Hid (b = b'))
    (h : Calls P f args q.val fun e w' => e = .returned (.bool b) ∧ q.val = w') : Calls P f args q.val fun e w' => e = .returned (.bool b') ∧ ∃ q' : Since B w, w' = q'.val := by
  have := hb.out; subst this; exact calls_same h

/-- Four results in slots. -/
theorem results_four {fn : Func} {t u v x : Tmp} (h : fn.results = #[.tmp t, .tmp u, .tmp v, .tmp x]) (tmps : Array Value) (P : Program) (w : World) :
    (results fn tmps).run P w = .ok (.tuple #[tmps.getD t undef, tmps.getD u undef, tmps.getD v undef, tmps.getD x undef]) w := by simp [results, h]

/-- One call behind another. -/
theorem bthen {a b c : World} (h : Below a.heap.size a b) (k : Below b.heap.size b c) : Below a.heap.size a c := h.trans (k.mono h.size)

/-- The first call from a world: it leaves one since. -/
theorem calls_since0 {P : Program} {f : FuncId} {args : Array Value} {W : World} {v : Value}
    (h : Calls P f args W fun e w' => e = .returned v ∧ Below W.heap.size W w') : Calls P f args W fun e w' => e = .returned v ∧ ∃ q' : Since W.heap.size W, w' = q'.val :=
  h.mono fun _ _ ⟨he, hb⟩ => ⟨he, ⟨_, hb⟩, rfl⟩

/-! ### Slices that read as lists of cells -/
/-- The slice with address A and n elements of k cells each reads as the cells cs, below block B. -/
structure SlcR (w : World) (B k : Nat) (A : Option Addr) (n : Nat) (cs : List Value) : Prop where
  len : cs.length = n * k
  big : n ≤ 9223372036854775807
  at_ : 0 < n → ∃ b off, A = some ⟨b, off, none⟩ ∧ b < B ∧ ∀ j u, cs[j]? = some u → w.cell? ⟨b, off + j, none⟩ = some u

theorem SlcR.keep {w w' : World} {B k n : Nat} {A : Option Addr} {cs : List Value} (h : SlcR w B k A n cs) (hk : ∀ p : Addr, p.block < B → w'.cell? p = w.cell? p) : SlcR w' B k A n cs :=
  ⟨h.len, h.big, fun hn => by
    obtain ⟨b, off, e, hb, hc⟩ := h.at_ hn
    exact ⟨b, off, e, hb, fun j u hu => (hk _ hb).trans (hc j u hu)⟩⟩
theorem SlcR.below {w w' : World} {B k n : Nat} {A : Option Addr} {cs : List Value} (h : SlcR w B k A n cs) (hb : Below B w w') : SlcR w' B k A n cs := h.keep fun _ hp => hb.cell hp
theorem SlcR.mono {w : World} {B B' k n : Nat} {A : Option Addr} {cs : List Value} (h : SlcR w B k A n cs) (hB : B ≤ B') : SlcR w B' k A n cs :=
  ⟨h.len, h.big, fun hn => by
    obtain ⟨b, off, e, hb, hc⟩ := h.at_ hn
    exact ⟨b, off, e, by omega, hc⟩⟩
theorem SlcR.up {w w' : World} {B k n : Nat} {A : Option Addr} {cs : List Value} (h : SlcR w B k A n cs) (hb : Below B w w') (hB : B ≤ w.heap.size) : SlcR w' w'.heap.size k A n cs :=
  (h.below hb).mono (Nat.le_trans hB hb.size)
theorem SlcR.then {w w' : World} {k n : Nat} {A : Option Addr} {cs : List Value} (h : SlcR w w.heap.size k A n cs) (hb : Below w.heap.size w w') : SlcR w' w'.heap.size k A n cs := (h.below hb).mono hb.size
theorem SlcR.nil (w : World) (B k : Nat) (A : Option Addr) : SlcR w B k A 0 [] := ⟨by simp, by omega, fun h => absurd h (by omega)⟩

/-- Place j of element i, in a list of elements of k cells. -/
theorem flat_at {α : Type} (enc : α → List Value) (k : Nat) (hk : ∀ x, (enc x).length = k) : ∀ (l : List α) (i : Nat) (h : i < l.length) (j : Nat), j < k → (l.flatMap enc)[i * k + j]? = (enc l[i])[j]?
  | x :: l, 0, _, j, hj => by
    simp only [List.flatMap_cons, Nat.zero_mul, Nat.zero_add, List.getElem_cons_zero]
    rw [List.getElem?_append_left (by rw [hk]; exact hj)]
  | x :: l, i + 1, h, j, hj => by
    have e : (i + 1) * k + j = (enc x).length + (i * k + j) := by rw [hk, Nat.succ_mul]; omega
    simp only [List.flatMap_cons, List.getElem_cons_succ]
    rw [e, List.getElem?_append_right (by omega), Nat.add_sub_cancel_left]
    exact flat_at enc k hk l i (by simpa using h) j hj
theorem flat_len {α : Type} (enc : α → List Value) (k : Nat) (hk : ∀ x, (enc x).length = k) : ∀ l : List α, (l.flatMap enc).length = l.length * k
  | [] => by simp
  | x :: l => by simp only [List.flatMap_cons, List.length_append, flat_len enc k hk l, hk, List.length_cons, Nat.succ_mul]; omega

/-! ### Blocks that are known whole -/
def Lies (w : World) (g : Nat) (t : TypeId) (cs : List Value) : Prop := w.heap[g]? = some (.cells cs.toArray t (0, 0))
section
variable {w w' : World} {g : Nat} {t : TypeId} {cs : List Value}
theorem Lies.lt (h : Lies w g t cs) : g < w.heap.size := by
  rcases Nat.lt_or_ge g w.heap.size with hlt | hge
  · exact hlt
  · unfold Lies at h; rw [Array.getElem?_eq_none hge] at h; cases h
theorem Lies.cell (h : Lies w g t cs) (i : Nat) : w.cell? ⟨g, i, none⟩ = cs[i]? := by rw [cell_of_row w g i _ t (0, 0) h]; simp
theorem Lies.frozen (h : Lies w g t cs) (i : Nat) : w.frozen? ⟨g, i, none⟩ = false := frozen_of_row w g i _ t h
theorem Lies.below {B : Nat} (h : Lies w g t cs) (hb : Below B w w') (hg : g < B) : Lies w' g t cs := (hb.block g hg).trans h
theorem Lies.kept {row : Option Nat} (h : Lies w g t cs) (hb : w.grownBy w' row) (hg : some g ≠ row) : Lies w' g t cs := (hb.block g h.lt hg).trans h
theorem Lies.alloc (h : Lies w g t cs) (o : Obj) : Lies (w.alloc o) g t cs := (Below.heap_alloc w o g h.lt).trans h
theorem Lies.set (h : Lies w g t cs) (i : Nat) (u : Value) : Lies (w.setCell ⟨g, i, none⟩ u) g t (cs.set i u) := by
  have := heap_setCell_same w g i cs.toArray t u h
  unfold Lies; rw [this]; simp
theorem Lies.other (h : Lies w g t cs) {p : Addr} (hp : g ≠ p.block) (u : Value) : Lies (w.setCell p u) g t cs := (Below.heap_setCell w p u g hp).trans h
theorem Lies.reads {k n : Nat} (h : Lies w g t cs) (hl : cs.length = n * k) (hn : n ≤ 9223372036854775807) : SlcR w w.heap.size k (some ⟨g, 0, none⟩) n cs :=
  ⟨hl, hn, fun _ => ⟨g, 0, rfl, h.lt, fun j u hu => by rw [Nat.zero_add, h.cell]; exact hu⟩⟩
end
theorem Lies.new (w : World) (t : TypeId) (cs : Array Value) : Lies (w.alloc (.cells cs t)) w.heap.size t cs.toList := heap_alloc_new w _
theorem Lies.of {w : World} {g : Nat} {t : TypeId} {cs : Array Value} (h : w.heap[g]? = some (.cells cs t (0, 0))) : Lies w g t cs.toList := h
theorem Lies.own {w : World} {g : Nat} {t : TypeId} {cs : List Value} (h : Lies w g t cs) {B k n : Nat} (hB : B ≤ g) (hl : cs.length = n * k) (hn : n ≤ maxLen) : w.ownsRow B t k (.slice (some ⟨g, 0, none⟩) n n) n cs := by
  refine ⟨hl, Or.inr ⟨g, n, _, rfl, hB, h, Nat.le_refl _, hn, by simpa using hl, ?_⟩⟩
  simp only
  exact List.take_of_length_le (by omega)

def splice (cs : List Value) (i : Nat) (vs : List Value) : List Value := cs.take i ++ vs ++ cs.drop (i + vs.length)

/-- A struct is stored into a block that is known whole. -/
theorem wpList_store_row {P : Program} {ops : Array Oper} {rest : List Oper} {op : Oper} {a : Act} {w : World} {Q : Exit → Act → World → Prop} (hgd : op.guard = none) (ty : TypeId) (x y : Operand) (ho : op.op = .store ty x y)
    (g o : Nat) (t : TypeId) (vs : Array Value) (hx : a.eval x = .pointer (some ⟨g, o, none⟩)) (hy : a.eval y = .agg vs)
    (cs : List Value) (hl : Lies w g t cs) (hfit : o + vs.size ≤ cs.length) (hi : (P.info? ty).map (·.size) = some vs.size) (h1 : vs.all (·.oneCell') = true)
    (h : ∀ w', Lies w' g t (splice cs o vs.toList) → w.grownBy w' (some g) → wpList P ops Q rest (a.put op.dst undef) w') : wpList P ops Q (op :: rest) a w := by
  refine wpList_plain hgd fun K hK => ?_
  have hrun := run_storeCells_at (P := P) g o t vs.toList 0 cs.toArray w hl (by simpa using hfit) (fun v hv => (Array.all_eq_true_iff_forall_mem.1 h1) v (by simpa using hv))
  cases hq : P.info? ty with
  | none => simp [hq] at hi
  | some i =>
    have hs : vs.size = i.size := by simp [hq] at hi; omega
    unfold Oper.wp execOp
    simp only [ho, hx, hy, Instr.storeAt, Instr.sureAddr, Sem.run_bind, Sem.run_pure, Result.andThen_ok]
    simp only [Nat.add_zero] at hrun
    simp [storeVar, sizeOf, typeInfo, hq, Value.cells, ← hs, hrun, Oper.upon]
    refine hK _ _ (h _ ?_ ?_)
    · have := setRow_heap w g cs.toArray (cs.take o ++ vs.toList ++ cs.drop (o + vs.size)).toArray t _ hl
      unfold Lies splice
      simpa using this
    · refine ⟨rfl, rfl, rfl, by simp [World.setRow], fun k hk hne => ?_⟩
      simp only [World.setRow, Array.getElem?_modify]
      rw [if_neg (fun e => hne (by rw [e]))]

/-- Splicing the next row in. -/
theorem splice_next {α : Type} (enc : α → List Value) (k : Nat) (hk : ∀ x, (enc x).length = k) (l : List α) (i : Nat) (hi : i < l.length) (rest : List Value) (hr : rest.length = (l.length - i) * k) :
    ∃ rest', splice ((l.take i).flatMap enc ++ rest) (i * k) (enc l[i]) = (l.take (i + 1)).flatMap enc ++ rest' ∧ rest'.length = (l.length - (i + 1)) * k := by
  refine ⟨rest.drop k, ?_, ?_⟩
  · have e1 : ((l.take i).flatMap enc).length = i * k := by rw [flat_len enc k hk, List.length_take, Nat.min_eq_left (by omega)]
    unfold splice
    rw [List.take_append_of_le_length (by omega), List.take_of_length_le (by omega), List.drop_append, List.drop_eq_nil_of_le (by rw [e1, hk]; omega), e1, hk, List.nil_append]
    rw [List.take_succ_eq_append_getElem hi, List.flatMap_append, List.flatMap_cons, List.flatMap_nil, List.append_nil, Nat.add_sub_cancel_left]
  · rw [List.length_drop, hr]
    obtain ⟨d, hd⟩ : ∃ d, l.length - i = d + 1 := ⟨l.length - i - 1, by omega⟩
    have hd' : l.length - (i + 1) = d := by omega
    rw [hd, hd', Nat.succ_mul, Nat.add_sub_cancel]

/-- The store of element k, in a loop that fills a made slice. -/
theorem wpList_store_next {P : Program} {ops : Array Oper} {rest : List Oper} {op : Oper} {a : Act} {w : World} {Q : Exit → Act → World → Prop} (hgd : op.guard = none) (ty : TypeId) (x y : Operand) (ho : op.op = .store ty x y)
    {α : Type} (enc : α → List Value) (ksz : Nat) (hk : ∀ x, (enc x).length = ksz) (l : List α) (k : Nat) (hlt : k < l.length) (old : List Value) (hold : Hid (old.length = (l.length - k) * ksz))
    (g : Nat) (t : TypeId) (vs : Array Value) (hx : a.eval x = .pointer (some ⟨g, k * ksz, none⟩)) (hy : a.eval y = .agg vs) (hv : Hid (vs.toList = enc l[k]))
    (hi : (P.info? ty).map (·.size) = some ksz) (h1 : vs.all (·.oneCell') = true) (hl : Lies w g t ((l.take k).flatMap enc ++ old))
    (h : ∀ w' old', Hid (Lies w' g t ((l.take (k + 1)).flatMap enc ++ old')) → Hid (old'.length = (l.length - (k + 1)) * ksz) → w.grownBy w' (some g) → wpList P ops Q rest (a.put op.dst undef) w') : wpList P ops Q (op :: rest) a w := by
  have hv' := hv.out
  have hold' := hold.out
  have hsz : vs.size = ksz := by have := congrArg List.length hv'; simpa [hk] using this
  obtain ⟨old', he, hl'⟩ := splice_next enc ksz hk l k hlt old hold'
  refine wpList_store_row hgd ty x y ho g (k * ksz) t vs hx hy _ hl ?_ (by rw [hi, hsz]) h1 fun w' h2 h3 => h w' old' ?_ hl' h3
  · rw [hsz, List.length_append, flat_len enc ksz hk, List.length_take, Nat.min_eq_left (by omega), hold']
    have : l.length - k = l.length - k - 1 + 1 := by omega
    rw [this, Nat.succ_mul]; omega
  · rw [hv', he] at h2; exact h2

/-- 'make([]T, n)', T a struct or not. -/
theorem run_make_all {P : Program} (t e : TypeId) (z : Value) (size bytes : Nat) (ht : P.underlying t = some (.slice e)) (hinfo : (P.info? e).map (fun i => (i.zero, i.size, i.bytes)) = some (some z, size, bytes))
    (n : Nat) (hbytes : bytes * n ≤ 140737488355328) (h63 : n ≤ 9223372036854775807) (w : World) :
    (Instr.makeSlice t (.int .i64 (n : Int)) (.int .i64 (n : Int))).run P w = .ok (.slice (some ⟨w.heap.size, 0, none⟩) n n) (w.alloc (.cells (madeCells z.cells (n * size)) e)) := by
  obtain ⟨i, hi, hz, hs, hb⟩ := info_parts hinfo
  have hb' : (i.bytes : Int) * (n : Int) ≤ 281474976710656 := by
    have h : ((i.bytes * n : Nat) : Int) ≤ 281474976710656 := by rw [hb]; omega
    rwa [Int.natCast_mul] at h
  have hr := run_make (P := P) w t e i z ht hi hz .i64 .i64 n n (by omega) (by omega) hb' (by omega)
  simp only [Int.toNat_natCast] at hr
  rw [← hs]
  exact hr

end Go.Proofs.YtpjfidmapnnbkaaDoor

/- The text of a number, in the reference (l1Num). -/
namespace Go.Proofs.YtpjfidmapnnbkaaDoor
open Go.RowKit

theorem dec_small {n : Nat} (h : n < 10) : Lib.decDigits n = [UInt8.ofNat (48 + n)] := by rw [Lib.decDigits, dif_pos h]
theorem dec_big {n : Nat} (h : ¬ n < 10) : Lib.decDigits n = Lib.decDigits (n / 10) ++ [UInt8.ofNat (48 + n % 10)] := by rw [Lib.decDigits, dif_neg h]

theorem digit_at : ∀ {n : Nat}, n < 10 → (⟨#[48, 49, 50, 51, 52, 53, 54, 55, 56, 57]⟩ : ByteArray).extract n (n + 1) = ⟨[UInt8.ofNat (48 + n)].toArray⟩
  | 0, _ => by decide | 1, _ => by decide | 2, _ => by decide | 3, _ => by decide | 4, _ => by decide
  | 5, _ => by decide | 6, _ => by decide | 7, _ => by decide | 8, _ => by decide | 9, _ => by decide

theorem dec_len {n : Nat} (h : n ≤ 1000000000) : (⟨(Lib.decDigits n).toArray⟩ : ByteArray).size ≤ 100 := by
  show (Lib.decDigits n).toArray.size ≤ 100
  rw [List.size_toArray, Lib.decDigits_length]
  have := Lib.nDigits_le20 n (by omega)
  omega

set_option maxHeartbeats 1000000 in
theorem l1Num_nat (k : Nat) : ∀ (n : Nat) (w : World), n < 10 ^ k → n ≤ 1000000000 →
    Calls Tryd.prog 21 #[.int .i64 (n : Int)] w fun e w' => e = .returned (.string ⟨(Lib.decDigits n).toArray⟩) ∧ Below w.heap.size w w' := by
  induction k with
  | zero =>
    intro n w hn _
    have h0 : n = 0 := by simpa using hn
    subst h0
    have HD := Lib.hid (dec_small (n := 0) (by omega))
    have HE := Lib.hid (digit_at (n := 0) (by omega))
    go_enter Tryd.func21, Tryd.ntmps21
    go_wp2
    go_ret
    exact ⟨by rw [HD.out, ← HE.out]; rfl, Below.refl _ _⟩
  | succ k ih =>
    intro n w hn hb
    by_cases h10 : n < 10
    · have HD := Lib.hid (dec_small h10)
      have HE := Lib.hid (digit_at h10)
      go_enter Tryd.func21, Tryd.ntmps21
      go_wp2
      go_ret
      exact ⟨by rw [HD.out, ← HE.out]; rfl, Below.refl _ _⟩
    · have HD := Lib.hid (dec_big h10)
      have hr : n % 10 < 10 := Nat.mod_lt _ (by omega)
      have HE := Lib.hid (digit_at hr)
      have hk : n / 10 < 10 ^ k := Nat.div_lt_of_lt_mul (by rw [Nat.mul_comm, ← Nat.pow_succ]; exact hn)
      obtain ⟨sv, hsv⟩ : ∃ s : ByteArray, s = ⟨(Lib.decDigits (n / 10)).toArray⟩ := ⟨_, rfl⟩
      obtain ⟨dv, hdv⟩ : ∃ s : ByteArray, s = (⟨#[48, 49, 50, 51, 52, 53, 54, 55, 56, 57]⟩ : ByteArray).extract (n % 10) (n % 10 + 1) := ⟨_, rfl⟩
      have hss : sv.size ≤ 100 := by rw [hsv]; exact dec_len (by omega)
      have hds : dv.size ≤ 10 := by rw [hdv, HE.out]; exact (by decide : (1 : Nat) ≤ 10)
      have ih' : ∀ W : World, Calls Tryd.prog 21 #[.int .i64 ((n : Int) / 10)] W fun e w' => e = .returned (.string sv) ∧ Below W.heap.size W w' := fun W => by
        have := ih (n / 10) W hk (by omega)
        rw [Int.natCast_ediv] at this; rw [hsv]; exact this
      have IH := Lib.hid ih'; clear ih' ih
      have hex := hdv.symm
      have HSV := Lib.hid hsv; clear hsv
      have HDV := Lib.hid hdv; clear hdv
      have e1 : (n : Int).tdiv 10 = (n : Int) / 10 := Int.tdiv_eq_ediv_of_nonneg (by omega)
      have e2 : (n : Int).tmod 10 = (n : Int) % 10 := Int.tmod_eq_emod_of_nonneg (by omega)
      go_enter Tryd.func21, Tryd.ntmps21
      go_wp2_with fail
      refine wp_region_since0 (by kernel_rfl) (by kernel_rfl) ?_
      repeat (any_goals (first | go_big_quiet_step ((go_at_call 21; refine calls_since (Nat.le_refl _) (IH.out _))) | (refine wpQuiet_step (fun K hK => ?_); go_simp; split <;> (refine hK _ ?_; clear hK K))))
      all_goals (refine wpQuiet_nil ?_; rintro _ ⟨q1, rfl⟩)
      go_wp2
      go_ret
      exact ⟨by rw [HD.out, HSV.out, HDV.out, HE.out, ByteArray.mk_append_mk]; rfl, q1.below⟩
/-- Every number up to a thousand millions. -/
theorem l1Num_any (n : Int) (w : World) (h0 : 0 ≤ n) (h1 : n ≤ 1000000000) :
    Calls Tryd.prog 21 #[.int .i64 n] w fun e w' => e = .returned (.string ⟨(Lib.itoa n).toArray⟩) ∧ Below w.heap.size w w' := by
  obtain ⟨m, rfl⟩ := Int.eq_ofNat_of_zero_le h0
  have e : Lib.itoa (m : Int) = Lib.decDigits m := by unfold Lib.itoa; rw [if_neg (by omega), Int.toNat_natCast]
  have e' : Lib.itoa (Int.ofNat m) = Lib.decDigits m := e
  first | rw [e] | rw [e']
  exact l1Num_nat 10 m w (by omega) (by omega)
theorem itoa_len {n : Int} (h0 : 0 ≤ n) (h1 : n ≤ 1000000000) : (⟨(Lib.itoa n).toArray⟩ : ByteArray).size ≤ 100 := by
  unfold Lib.itoa
  rw [if_neg (by omega)]
  exact dec_len (by omega)
end Go.Proofs.YtpjfidmapnnbkaaDoor

/- Contracts of the library at this dump, as the kit's own tool lays them (plain), the few that are wanted here. -/
namespace Go.Proofs
open Go.Shelf
def Tryd.laysM171_ren : Go.Shelf.Ren := ⟨fun | 171 => 24 | 243 => 37 | 246 => 51 | 283 => 61 | 284 => 62 | 285 => 63 | 286 => 64 | 129 => 70 | 317 => 69 | 318 => 71 | 319 => 72 | 320 => 73 | 337 => 74 | 338 => 75 | n => n, fun | 3 => 3 | 9 => 9 | 2 => 2 | 4 => 4 | 171 => 82 | 0 => 0 | 53 => 66 | 37 => 48 | 5 => 5 | 173 => 85 | 212 => 95 | 51 => 91 | 20 => 20 | 213 => 96 | 46 => 69 | 232 => 100 | 233 => 101 | n => n, fun | 17 => 5 | 18 => 6 | 19 => 7 | n => n⟩
theorem Tryd.laysM171 : Go.Proofs.LaysM.n171 Tryd.prog Tryd.laysM171_ren := {
  mixed := by kernel_rfl
  f129 := Tryd.func70.trans (congrArg some (by kernel_rfl))
  f171 := Tryd.func24.trans (congrArg some (by kernel_rfl))
  f243 := Tryd.func37.trans (congrArg some (by kernel_rfl))
  f246 := Tryd.func51.trans (congrArg some (by kernel_rfl))
  f283 := Tryd.func61.trans (congrArg some (by kernel_rfl))
  f284 := Tryd.func62.trans (congrArg some (by kernel_rfl))
  f285 := Tryd.func63.trans (congrArg some (by kernel_rfl))
  f286 := Tryd.func64.trans (congrArg some (by kernel_rfl))
  f317 := Tryd.func69.trans (congrArg some (by kernel_rfl))
  f318 := Tryd.func71.trans (congrArg some (by kernel_rfl))
  f319 := Tryd.func72.trans (congrArg some (by kernel_rfl))
  f320 := Tryd.func73.trans (congrArg some (by kernel_rfl))
  f337 := Tryd.func74.trans (congrArg some (by kernel_rfl))
  f338 := Tryd.func75.trans (congrArg some (by kernel_rfl))
  t0 := Tryd.underlying0
  a0 := Tryd.isAgg0
  z0 := Tryd.sizeOf0
  v0 := Tryd.zeroValue0
  t2 := Tryd.underlying2
  a2 := Tryd.isAgg2
  z2 := Tryd.sizeOf2
  v2 := Tryd.zeroValue2
  t3 := Tryd.underlying3
  a3 := Tryd.isAgg3
  z3 := Tryd.sizeOf3
  v3 := Tryd.zeroValue3
  t4 := Tryd.underlying4
  a4 := Tryd.isAgg4
  z4 := Tryd.sizeOf4
  v4 := Tryd.zeroValue4
  t5 := Tryd.underlying5
  a5 := Tryd.isAgg5
  z5 := Tryd.sizeOf5
  v5 := Tryd.zeroValue5
  t9 := Tryd.underlying9
  a9 := Tryd.isAgg9
  z9 := Tryd.sizeOf9
  v9 := Tryd.zeroValue9
  t20 := Tryd.underlying20
  a20 := Tryd.isAgg20
  z20 := Tryd.sizeOf20
  v20 := Tryd.zeroValue20
  t37 := Tryd.underlying48
  a37 := Tryd.isAgg48
  z37 := Tryd.sizeOf48
  v37 := Tryd.zeroValue48
  t46 := Tryd.underlying69
  a46 := Tryd.isAgg69
  z46 := Tryd.sizeOf69
  v46 := Tryd.zeroValue69
  t51 := Tryd.underlying91
  a51 := Tryd.isAgg91
  z51 := Tryd.sizeOf91
  v51 := Tryd.zeroValue91
  t53 := Tryd.underlying66
  a53 := Tryd.isAgg66
  z53 := Tryd.sizeOf66
  v53 := Tryd.zeroValue66
  t171 := Tryd.underlying82
  a171 := Tryd.isAgg82
  z171 := Tryd.sizeOf82
  v171 := Tryd.zeroValue82
  t173 := Tryd.underlying85
  a173 := Tryd.isAgg85
  z173 := Tryd.sizeOf85
  v173 := Tryd.zeroValue85
  t212 := Tryd.underlying95
  a212 := Tryd.isAgg95
  z212 := Tryd.sizeOf95
  v212 := Tryd.zeroValue95
  t213 := Tryd.underlying96
  a213 := Tryd.isAgg96
  z213 := Tryd.sizeOf96
  t232 := Tryd.underlying100
  a232 := Tryd.isAgg100
  z232 := Tryd.sizeOf100
  v232 := Tryd.zeroValue100
  t233 := Tryd.underlying101
  a233 := Tryd.isAgg101
  z233 := Tryd.sizeOf101
  v233 := Tryd.zeroValue101
  g17 := by kernel_rfl
  g18 := by kernel_rfl
  g19 := by kernel_rfl
  i0 := by kernel_rfl
  i2 := by kernel_rfl
  i3 := by kernel_rfl
  i4 := by kernel_rfl
  i5 := by kernel_rfl
  i9 := by kernel_rfl
  i20 := by kernel_rfl
  i37 := by kernel_rfl
  i46 := by kernel_rfl
  i51 := by kernel_rfl
  i53 := by kernel_rfl
  i171 := by kernel_rfl
  i173 := by kernel_rfl
  i212 := by kernel_rfl
  i232 := by kernel_rfl
  i233 := by kernel_rfl
  m17 := by kernel_rfl
  m18 := by kernel_rfl
  m19 := by kernel_rfl }
open Go.RowKit Go.Sort Go.Lib in
theorem Tryd.strconv_Itoa (n : Int) (h0 : -9223372036854775808 ≤ n) (h1 : n ≤ 9223372036854775807) (w : World) (htab : Lib.TabIs Tryd.prog w "internal/strconv.uint64pow10" .u64 Lib.pow10Tab) :
    Calls Tryd.prog 24 #[.int .i64 n] w fun e w' => e = .returned (.string ⟨(Lib.itoa n).toArray⟩) ∧ ∃ k os, w' = grow (w.drewN k) os := Any.strconv_Itoa Tryd.laysM171 n h0 h1 w htab
def Tryd.laysC172_ren : Go.Shelf.Ren := ⟨fun | 172 => 16 | 244 => 27 | 245 => 28 | 247 => 40 | 279 => 41 | 280 => 42 | 281 => 43 | 282 => 44 | 287 => 52 | 316 => 53 | 171 => 24 | 205 => 54 | 321 => 65 | 322 => 66 | 243 => 37 | 246 => 51 | 283 => 61 | 284 => 62 | 285 => 63 | 286 => 64 | 129 => 70 | 317 => 69 | 318 => 71 | 319 => 72 | 320 => 73 | 337 => 74 | 338 => 75 | n => n, fun | 9 => 9 | 3 => 3 | 75 => 38 | 76 => 39 | 4 => 4 | 5 => 5 | 167 => 57 | 37 => 48 | 0 => 0 | 85 => 58 | 2 => 2 | 168 => 60 | 53 => 66 | 175 => 67 | 46 => 69 | 210 => 72 | 127 => 64 | 145 => 90 | 143 => 88 | 21 => 21 | 171 => 82 | 173 => 85 | 212 => 95 | 51 => 91 | 20 => 20 | 213 => 96 | 232 => 100 | 233 => 101 | 80 => 54 | n => n, fun | 15 => 0 | 16 => 1 | 17 => 5 | 18 => 6 | 19 => 7 | n => n⟩
theorem Tryd.laysC172 : Go.Proofs.LaysC.n172 Tryd.prog Tryd.laysC172_ren := {
  mixed := by kernel_rfl
  f129 := Tryd.func70.trans (congrArg some (by kernel_rfl))
  f171 := Tryd.func24.trans (congrArg some (by kernel_rfl))
  f172 := Tryd.func16.trans (congrArg some (by kernel_rfl))
  f205 := Tryd.func54.trans (congrArg some (by kernel_rfl))
  f243 := Tryd.func37.trans (congrArg some (by kernel_rfl))
  f244 := Tryd.func27.trans (congrArg some (by kernel_rfl))
  f245 := Tryd.func28.trans (congrArg some (by kernel_rfl))
  f246 := Tryd.func51.trans (congrArg some (by kernel_rfl))
  f247 := Tryd.func40.trans (congrArg some (by kernel_rfl))
  f279 := Tryd.func41.trans (congrArg some (by kernel_rfl))
  f280 := Tryd.func42.trans (congrArg some (by kernel_rfl))
  f281 := Tryd.func43.trans (congrArg some (by kernel_rfl))
  f282 := Tryd.func44.trans (congrArg some (by kernel_rfl))
  f283 := Tryd.func61.trans (congrArg some (by kernel_rfl))
  f284 := Tryd.func62.trans (congrArg some (by kernel_rfl))
  f285 := Tryd.func63.trans (congrArg some (by kernel_rfl))
  f286 := Tryd.func64.trans (congrArg some (by kernel_rfl))
  f287 := Tryd.func52.trans (congrArg some (by kernel_rfl))
  f316 := Tryd.func53.trans (congrArg some (by kernel_rfl))
  f317 := Tryd.func69.trans (congrArg some (by kernel_rfl))
  f318 := Tryd.func71.trans (congrArg some (by kernel_rfl))
  f319 := Tryd.func72.trans (congrArg some (by kernel_rfl))
  f320 := Tryd.func73.trans (congrArg some (by kernel_rfl))
  f321 := Tryd.func65.trans (congrArg some (by kernel_rfl))
  f322 := Tryd.func66.trans (congrArg some (by kernel_rfl))
  f337 := Tryd.func74.trans (congrArg some (by kernel_rfl))
  f338 := Tryd.func75.trans (congrArg some (by kernel_rfl))
  t0 := Tryd.underlying0
  a0 := Tryd.isAgg0
  z0 := Tryd.sizeOf0
  v0 := Tryd.zeroValue0
  t2 := Tryd.underlying2
  a2 := Tryd.isAgg2
  z2 := Tryd.sizeOf2
  v2 := Tryd.zeroValue2
  t3 := Tryd.underlying3
  a3 := Tryd.isAgg3
  z3 := Tryd.sizeOf3
  v3 := Tryd.zeroValue3
  t4 := Tryd.underlying4
  a4 := Tryd.isAgg4
  z4 := Tryd.sizeOf4
  v4 := Tryd.zeroValue4
  t5 := Tryd.underlying5
  a5 := Tryd.isAgg5
  z5 := Tryd.sizeOf5
  v5 := Tryd.zeroValue5
  t9 := Tryd.underlying9
  a9 := Tryd.isAgg9
  z9 := Tryd.sizeOf9
  v9 := Tryd.zeroValue9
  t20 := Tryd.underlying20
  a20 := Tryd.isAgg20
  z20 := Tryd.sizeOf20
  v20 := Tryd.zeroValue20
  t21 := Tryd.underlying21
  a21 := Tryd.isAgg21
  z21 := Tryd.sizeOf21
  v21 := Tryd.zeroValue21
  t37 := Tryd.underlying48
  a37 := Tryd.isAgg48
  z37 := Tryd.sizeOf48
  v37 := Tryd.zeroValue48
  t46 := Tryd.underlying69
  a46 := Tryd.isAgg69
  z46 := Tryd.sizeOf69
  v46 := Tryd.zeroValue69
  t51 := Tryd.underlying91
  a51 := Tryd.isAgg91
  z51 := Tryd.sizeOf91
  v51 := Tryd.zeroValue91
  t53 := Tryd.underlying66
  a53 := Tryd.isAgg66
  z53 := Tryd.sizeOf66
  v53 := Tryd.zeroValue66
  t75 := Tryd.underlying38
  a75 := Tryd.isAgg38
  z75 := Tryd.sizeOf38
  v75 := Tryd.zeroValue38
  t76 := Tryd.underlying39
  a76 := Tryd.isAgg39
  z76 := Tryd.sizeOf39
  v76 := Tryd.zeroValue39
  t85 := Tryd.underlying58
  a85 := Tryd.isAgg58
  z85 := Tryd.sizeOf58
  v85 := Tryd.zeroValue58
  t127 := Tryd.underlying64
  a127 := Tryd.isAgg64
  z127 := Tryd.sizeOf64
  v127 := Tryd.zeroValue64
  t143 := Tryd.underlying88
  a143 := Tryd.isAgg88
  z143 := Tryd.sizeOf88
  v143 := Tryd.zeroValue88
  t145 := Tryd.underlying90
  a145 := Tryd.isAgg90
  z145 := Tryd.sizeOf90
  v145 := Tryd.zeroValue90
  t167 := Tryd.underlying57
  a167 := Tryd.isAgg57
  z167 := Tryd.sizeOf57
  v167 := Tryd.zeroValue57
  t168 := Tryd.underlying60
  a168 := Tryd.isAgg60
  z168 := Tryd.sizeOf60
  v168 := Tryd.zeroValue60
  t171 := Tryd.underlying82
  a171 := Tryd.isAgg82
  z171 := Tryd.sizeOf82
  v171 := Tryd.zeroValue82
  t173 := Tryd.underlying85
  a173 := Tryd.isAgg85
  z173 := Tryd.sizeOf85
  v173 := Tryd.zeroValue85
  t175 := Tryd.underlying67
  a175 := Tryd.isAgg67
  z175 := Tryd.sizeOf67
  v175 := Tryd.zeroValue67
  t210 := Tryd.underlying72
  a210 := Tryd.isAgg72
  z210 := Tryd.sizeOf72
  v210 := Tryd.zeroValue72
  t212 := Tryd.underlying95
  a212 := Tryd.isAgg95
  z212 := Tryd.sizeOf95
  v212 := Tryd.zeroValue95
  t213 := Tryd.underlying96
  a213 := Tryd.isAgg96
  z213 := Tryd.sizeOf96
  t232 := Tryd.underlying100
  a232 := Tryd.isAgg100
  z232 := Tryd.sizeOf100
  v232 := Tryd.zeroValue100
  t233 := Tryd.underlying101
  a233 := Tryd.isAgg101
  z233 := Tryd.sizeOf101
  v233 := Tryd.zeroValue101
  g15 := by kernel_rfl
  g16 := by kernel_rfl
  g17 := by kernel_rfl
  g18 := by kernel_rfl
  g19 := by kernel_rfl
  t80 := Tryd.underlying54
  a80 := Tryd.isAgg54
  z80 := Tryd.sizeOf54
  v80 := Tryd.zeroValue54
  i0 := by kernel_rfl
  i2 := by kernel_rfl
  i3 := by kernel_rfl
  i4 := by kernel_rfl
  i5 := by kernel_rfl
  i9 := by kernel_rfl
  i20 := by kernel_rfl
  i21 := by kernel_rfl
  i37 := by kernel_rfl
  i46 := by kernel_rfl
  i51 := by kernel_rfl
  i53 := by kernel_rfl
  i75 := by kernel_rfl
  i76 := by kernel_rfl
  i80 := by kernel_rfl
  i85 := by kernel_rfl
  i127 := by kernel_rfl
  i143 := by kernel_rfl
  i145 := by kernel_rfl
  i167 := by kernel_rfl
  i168 := by kernel_rfl
  i171 := by kernel_rfl
  i173 := by kernel_rfl
  i175 := by kernel_rfl
  i210 := by kernel_rfl
  i212 := by kernel_rfl
  i232 := by kernel_rfl
  i233 := by kernel_rfl
  m15 := by kernel_rfl
  m16 := by kernel_rfl
  m17 := by kernel_rfl
  m18 := by kernel_rfl
  m19 := by kernel_rfl
  c0 := by kernel_rfl
  c2 := by kernel_rfl
  c3 := by kernel_rfl
  c4 := by kernel_rfl
  c5 := by kernel_rfl
  c9 := by kernel_rfl
  c20 := by kernel_rfl
  c21 := by kernel_rfl
  c37 := by kernel_rfl
  c46 := by kernel_rfl
  c51 := by kernel_rfl
  c53 := by kernel_rfl
  c75 := by kernel_rfl
  c76 := by kernel_rfl
  c80 := by kernel_rfl
  c85 := by kernel_rfl
  c127 := by kernel_rfl
  c143 := by kernel_rfl
  c145 := by kernel_rfl
  c167 := by kernel_rfl
  c168 := by kernel_rfl
  c171 := by kernel_rfl
  c173 := by kernel_rfl
  c175 := by kernel_rfl
  c210 := by kernel_rfl
  c212 := by kernel_rfl
  c213 := by kernel_rfl
  c232 := by kernel_rfl
  c233 := by kernel_rfl }
open Go.RowKit in
theorem Tryd.strconv_Atoi_ok (s : ByteArray) (hmax : s.size ≤ 9223372036854775806) (v : Int) (h : Lib.atoiAll s.data.toList = .ok v) (w : World) :
    Calls Tryd.prog 16 #[.string s] w fun e w' => e = .returned (.tuple #[.int .i64 v, .nilIface]) ∧ (w' = w ∨ ∃ t, w' = Lib.bytesWorld w 5 t) := Any.strconv_Atoi_ok Tryd.laysC172 s hmax v h w
open Go.RowKit in
theorem Tryd.strconv_Atoi_syntax (s : ByteArray) (hlim : s.size ≤ 281474976710656) (h : Lib.atoiAll s.data.toList = Lib.atoiAll []) (ev : Value) (w : World) (hv : w.cell? ⟨0, 0, none⟩ = some ev) (hev : ev = .nilIface ∨ ∃ te pe, ev = .iface te pe) :
    Calls Tryd.prog 16 #[.string s] w fun e w' => ∃ N, e = .returned (.tuple #[.int .i64 (0), .iface 60 (.pointer (some ⟨N, 0, none⟩))]) ∧ w.heap.size ≤ N ∧ w'.heap[N]? = some (.cells #[.string ⟨#[65, 116, 111, 105]⟩, .string s, ev] 72 (0, 0)) ∧ Below w.heap.size w w' := Any.strconv_Atoi_syntax Tryd.laysC172 s hlim (h.trans rfl) ev w hv hev
open Go.RowKit in
theorem Tryd.strconv_Atoi_range (s : ByteArray) (hlim : s.size ≤ 281474976710656) (h : Lib.atoiAll s.data.toList = .range) (ev : Value) (w : World) (hv : w.cell? ⟨1, 0, none⟩ = some ev) (hev : ev = .nilIface ∨ ∃ te pe, ev = .iface te pe) :
    Calls Tryd.prog 16 #[.string s] w fun e w' => ∃ N, e = .returned (.tuple #[.int .i64 (Lib.atoiSat s.data.toList), .iface 60 (.pointer (some ⟨N, 0, none⟩))]) ∧ w.heap.size ≤ N ∧ w'.heap[N]? = some (.cells #[.string ⟨#[65, 116, 111, 105]⟩, .string s, ev] 72 (0, 0)) ∧ Below w.heap.size w w' := Any.strconv_Atoi_range Tryd.laysC172 s hlim h ev w hv hev
def Tryd.lays219_ren : Go.Shelf.Ren := ⟨fun | 219 => 49 | 217 => 57 | 225 => 58 | 224 => 59 | 267 => 60 | 266 => 67 | 314 => 68 | n => n, fun | 9 => 9 | 3 => 3 | 4 => 4 | 5 => 5 | 46 => 69 | 146 => 92 | 51 => 91 | n => n, fun | 1 => 2 | n => n⟩
theorem Tryd.lays219 : Go.Proofs.Lays.n219 Tryd.prog Tryd.lays219_ren := {
  mixed := by kernel_rfl
  f217 := Tryd.func57.trans (congrArg some (by kernel_rfl))
  f219 := Tryd.func49.trans (congrArg some (by kernel_rfl))
  f224 := Tryd.func59.trans (congrArg some (by kernel_rfl))
  f225 := Tryd.func58.trans (congrArg some (by kernel_rfl))
  f266 := Tryd.func67.trans (congrArg some (by kernel_rfl))
  f267 := Tryd.func60.trans (congrArg some (by kernel_rfl))
  f314 := Tryd.func68.trans (congrArg some (by kernel_rfl))
  t3 := Tryd.underlying3
  a3 := Tryd.isAgg3
  z3 := Tryd.sizeOf3
  v3 := Tryd.zeroValue3
  t4 := Tryd.underlying4
  a4 := Tryd.isAgg4
  z4 := Tryd.sizeOf4
  v4 := Tryd.zeroValue4
  t5 := Tryd.underlying5
  a5 := Tryd.isAgg5
  z5 := Tryd.sizeOf5
  v5 := Tryd.zeroValue5
  t9 := Tryd.underlying9
  a9 := Tryd.isAgg9
  z9 := Tryd.sizeOf9
  v9 := Tryd.zeroValue9
  t46 := Tryd.underlying69
  a46 := Tryd.isAgg69
  z46 := Tryd.sizeOf69
  v46 := Tryd.zeroValue69
  t51 := Tryd.underlying91
  a51 := Tryd.isAgg91
  z51 := Tryd.sizeOf91
  v51 := Tryd.zeroValue91
  t146 := Tryd.underlying92
  a146 := Tryd.isAgg92
  z146 := Tryd.sizeOf92
  v146 := Tryd.zeroValue92
  g1 := by kernel_rfl }
open Go.RowKit Go.Lib in
theorem Tryd.stringslite_Index_one (s : ByteArray) (c : UInt8) (w : World) :
    Calls Tryd.prog 49 #[.string s, .string ⟨#[c]⟩] w fun e w' => e = .returned (.int .i64 (Lib.indexByte s.data.toList c)) ∧ w' = w := Any.stringslite_Index_one Tryd.lays219 s c w
def Tryd.lays101_ren : Go.Shelf.Ren := ⟨fun | 101 => 14 | 208 => 25 | 206 => 38 | n => n, fun | 9 => 9 | 4 => 4 | 3 => 3 | n => n, fun | n => n⟩
theorem Tryd.lays101 : Go.Proofs.Lays.n101 Tryd.prog Tryd.lays101_ren := {
  mixed := by kernel_rfl
  f101 := Tryd.func14.trans (congrArg some (by kernel_rfl))
  f206 := Tryd.func38.trans (congrArg some (by kernel_rfl))
  f208 := Tryd.func25.trans (congrArg some (by kernel_rfl))
  t3 := Tryd.underlying3
  a3 := Tryd.isAgg3
  z3 := Tryd.sizeOf3
  v3 := Tryd.zeroValue3
  t4 := Tryd.underlying4
  a4 := Tryd.isAgg4
  z4 := Tryd.sizeOf4
  v4 := Tryd.zeroValue4
  t9 := Tryd.underlying9
  a9 := Tryd.isAgg9
  z9 := Tryd.sizeOf9
  v9 := Tryd.zeroValue9 }
open Go.RowKit Go.Lib in
theorem Tryd.strings_TrimPrefix (s p : ByteArray) (w : World) :
    Calls Tryd.prog 14 #[.string s, .string p] w fun e w' => e = .returned (.string ⟨(Lib.trimPrefix s.data.toList p.data.toList).toArray⟩) ∧ w' = w := Any.strings_TrimPrefix Tryd.lays101 s p w
def Tryd.lays102_ren : Go.Shelf.Ren := ⟨fun | 102 => 15 | 209 => 26 | 207 => 39 | n => n, fun | 9 => 9 | 4 => 4 | 3 => 3 | n => n, fun | n => n⟩
theorem Tryd.lays102 : Go.Proofs.Lays.n102 Tryd.prog Tryd.lays102_ren := {
  mixed := by kernel_rfl
  f102 := Tryd.func15.trans (congrArg some (by kernel_rfl))
  f207 := Tryd.func39.trans (congrArg some (by kernel_rfl))
  f209 := Tryd.func26.trans (congrArg some (by kernel_rfl))
  t3 := Tryd.underlying3
  a3 := Tryd.isAgg3
  z3 := Tryd.sizeOf3
  v3 := Tryd.zeroValue3
  t4 := Tryd.underlying4
  a4 := Tryd.isAgg4
  z4 := Tryd.sizeOf4
  v4 := Tryd.zeroValue4
  t9 := Tryd.underlying9
  a9 := Tryd.isAgg9
  z9 := Tryd.sizeOf9
  v9 := Tryd.zeroValue9 }
open Go.RowKit Go.Lib in
theorem Tryd.strings_TrimSuffix (s p : ByteArray) (w : World) (hs : s.size ≤ 9223372036854775807) :
    Calls Tryd.prog 15 #[.string s, .string p] w fun e w' => e = .returned (.string ⟨(Lib.trimSuffix s.data.toList p.data.toList).toArray⟩) ∧ w' = w := Any.strings_TrimSuffix Tryd.lays102 s p w hs
def Tryd.lays146_ren : Go.Shelf.Ren := ⟨fun | 146 => 12 | 221 => 22 | 268 => 36 | 138 => 29 | 143 => 31 | 195 => 45 | 197 => 33 | 218 => 46 | 219 => 49 | 260 => 50 | 217 => 57 | 225 => 58 | 224 => 59 | 267 => 60 | 266 => 67 | 314 => 68 | n => n, fun | 9 => 9 | 31 => 28 | 3 => 3 | 4 => 4 | 0 => 0 | 105 => 52 | 21 => 21 | 5 => 5 | 46 => 69 | 119 => 78 | 139 => 81 | 138 => 80 | 146 => 92 | 51 => 91 | n => n, fun | 1 => 2 | 3 => 3 | 4 => 4 | n => n⟩
theorem Tryd.lays146 : Go.Proofs.Lays.n146 Tryd.prog Tryd.lays146_ren := {
  mixed := by kernel_rfl
  f138 := Tryd.func29.trans (congrArg some (by kernel_rfl))
  f143 := Tryd.func31.trans (congrArg some (by kernel_rfl))
  f146 := Tryd.func12.trans (congrArg some (by kernel_rfl))
  f195 := Tryd.func45.trans (congrArg some (by kernel_rfl))
  f197 := Tryd.func33.trans (congrArg some (by kernel_rfl))
  f217 := Tryd.func57.trans (congrArg some (by kernel_rfl))
  f218 := Tryd.func46.trans (congrArg some (by kernel_rfl))
  f219 := Tryd.func49.trans (congrArg some (by kernel_rfl))
  f221 := Tryd.func22.trans (congrArg some (by kernel_rfl))
  f224 := Tryd.func59.trans (congrArg some (by kernel_rfl))
  f225 := Tryd.func58.trans (congrArg some (by kernel_rfl))
  f260 := Tryd.func50.trans (congrArg some (by kernel_rfl))
  f266 := Tryd.func67.trans (congrArg some (by kernel_rfl))
  f267 := Tryd.func60.trans (congrArg some (by kernel_rfl))
  f268 := Tryd.func36.trans (congrArg some (by kernel_rfl))
  f314 := Tryd.func68.trans (congrArg some (by kernel_rfl))
  t0 := Tryd.underlying0
  a0 := Tryd.isAgg0
  z0 := Tryd.sizeOf0
  v0 := Tryd.zeroValue0
  t3 := Tryd.underlying3
  a3 := Tryd.isAgg3
  z3 := Tryd.sizeOf3
  v3 := Tryd.zeroValue3
  t4 := Tryd.underlying4
  a4 := Tryd.isAgg4
  z4 := Tryd.sizeOf4
  v4 := Tryd.zeroValue4
  t5 := Tryd.underlying5
  a5 := Tryd.isAgg5
  z5 := Tryd.sizeOf5
  v5 := Tryd.zeroValue5
  t9 := Tryd.underlying9
  a9 := Tryd.isAgg9
  z9 := Tryd.sizeOf9
  v9 := Tryd.zeroValue9
  t21 := Tryd.underlying21
  a21 := Tryd.isAgg21
  z21 := Tryd.sizeOf21
  v21 := Tryd.zeroValue21
  t31 := Tryd.underlying28
  a31 := Tryd.isAgg28
  z31 := Tryd.sizeOf28
  v31 := Tryd.zeroValue28
  t46 := Tryd.underlying69
  a46 := Tryd.isAgg69
  z46 := Tryd.sizeOf69
  v46 := Tryd.zeroValue69
  t51 := Tryd.underlying91
  a51 := Tryd.isAgg91
  z51 := Tryd.sizeOf91
  v51 := Tryd.zeroValue91
  t105 := Tryd.underlying52
  a105 := Tryd.isAgg52
  z105 := Tryd.sizeOf52
  v105 := Tryd.zeroValue52
  t119 := Tryd.underlying78
  a119 := Tryd.isAgg78
  z119 := Tryd.sizeOf78
  t138 := Tryd.underlying80
  a138 := Tryd.isAgg80
  z138 := Tryd.sizeOf80
  v138 := Tryd.zeroValue80
  t139 := Tryd.underlying81
  a139 := Tryd.isAgg81
  z139 := Tryd.sizeOf81
  v139 := Tryd.zeroValue81
  t146 := Tryd.underlying92
  a146 := Tryd.isAgg92
  z146 := Tryd.sizeOf92
  v146 := Tryd.zeroValue92
  g1 := by kernel_rfl
  g3 := by kernel_rfl
  g4 := by kernel_rfl }
open Go.RowKit Go.Lib in
theorem Tryd.strings_Split (s sep : ByteArray) (m : Int) (w : World) (hs : s.size < 4294967281) (hm : w.cell? ⟨2, 0, none⟩ = some (.int .i64 m)) (h1 : 1 ≤ sep.size) :
    Calls Tryd.prog 12 #[.string s, .string sep] w fun e w' =>
      e = .returned (.slice (some ⟨w.heap.size, 0, none⟩) (Lib.countB s sep + 1) (Lib.countB s sep + 1)) ∧ w' = w.alloc (.cells ((Lib.splitB sep 0 (Lib.countB s sep) s).map Value.string).toArray 9) := Any.strings_Split Tryd.lays146 (by kernel_rfl) s sep m w hs hm h1
def Tryd.lays154_ren : Go.Shelf.Ren := ⟨fun | 154 => 17 | 138 => 29 | 165 => 30 | 143 => 31 | 166 => 32 | 197 => 33 | 169 => 34 | 195 => 45 | 218 => 46 | 240 => 47 | 241 => 48 | 219 => 49 | 260 => 50 | 276 => 55 | 277 => 56 | 217 => 57 | 225 => 58 | 224 => 59 | 267 => 60 | 266 => 67 | 314 => 68 | n => n, fun | 9 => 9 | 3 => 3 | 4 => 4 | 72 => 50 | 0 => 0 | 76 => 39 | 105 => 52 | 21 => 21 | 5 => 5 | 70 => 47 | 20 => 20 | 37 => 48 | 75 => 38 | 127 => 64 | 164 => 74 | 46 => 69 | 119 => 78 | 139 => 81 | 138 => 80 | 146 => 92 | 51 => 91 | 80 => 54 | n => n, fun | 1 => 2 | 3 => 3 | 4 => 4 | n => n⟩
theorem Tryd.lays154 : Go.Proofs.Lays.n154 Tryd.prog Tryd.lays154_ren := {
  mixed := by kernel_rfl
  f138 := Tryd.func29.trans (congrArg some (by kernel_rfl))
  f143 := Tryd.func31.trans (congrArg some (by kernel_rfl))
  f154 := Tryd.func17.trans (congrArg some (by kernel_rfl))
  f165 := Tryd.func30.trans (congrArg some (by kernel_rfl))
  f166 := Tryd.func32.trans (congrArg some (by kernel_rfl))
  f169 := Tryd.func34.trans (congrArg some (by kernel_rfl))
  f195 := Tryd.func45.trans (congrArg some (by kernel_rfl))
  f197 := Tryd.func33.trans (congrArg some (by kernel_rfl))
  f217 := Tryd.func57.trans (congrArg some (by kernel_rfl))
  f218 := Tryd.func46.trans (congrArg some (by kernel_rfl))
  f219 := Tryd.func49.trans (congrArg some (by kernel_rfl))
  f224 := Tryd.func59.trans (congrArg some (by kernel_rfl))
  f225 := Tryd.func58.trans (congrArg some (by kernel_rfl))
  f240 := Tryd.func47.trans (congrArg some (by kernel_rfl))
  f241 := Tryd.func48.trans (congrArg some (by kernel_rfl))
  f260 := Tryd.func50.trans (congrArg some (by kernel_rfl))
  f266 := Tryd.func67.trans (congrArg some (by kernel_rfl))
  f267 := Tryd.func60.trans (congrArg some (by kernel_rfl))
  f276 := Tryd.func55.trans (congrArg some (by kernel_rfl))
  f277 := Tryd.func56.trans (congrArg some (by kernel_rfl))
  f314 := Tryd.func68.trans (congrArg some (by kernel_rfl))
  t0 := Tryd.underlying0
  a0 := Tryd.isAgg0
  z0 := Tryd.sizeOf0
  v0 := Tryd.zeroValue0
  t3 := Tryd.underlying3
  a3 := Tryd.isAgg3
  z3 := Tryd.sizeOf3
  v3 := Tryd.zeroValue3
  t4 := Tryd.underlying4
  a4 := Tryd.isAgg4
  z4 := Tryd.sizeOf4
  v4 := Tryd.zeroValue4
  t5 := Tryd.underlying5
  a5 := Tryd.isAgg5
  z5 := Tryd.sizeOf5
  v5 := Tryd.zeroValue5
  t9 := Tryd.underlying9
  a9 := Tryd.isAgg9
  z9 := Tryd.sizeOf9
  v9 := Tryd.zeroValue9
  t20 := Tryd.underlying20
  a20 := Tryd.isAgg20
  z20 := Tryd.sizeOf20
  v20 := Tryd.zeroValue20
  t21 := Tryd.underlying21
  a21 := Tryd.isAgg21
  z21 := Tryd.sizeOf21
  v21 := Tryd.zeroValue21
  t37 := Tryd.underlying48
  a37 := Tryd.isAgg48
  z37 := Tryd.sizeOf48
  v37 := Tryd.zeroValue48
  t46 := Tryd.underlying69
  a46 := Tryd.isAgg69
  z46 := Tryd.sizeOf69
  v46 := Tryd.zeroValue69
  t51 := Tryd.underlying91
  a51 := Tryd.isAgg91
  z51 := Tryd.sizeOf91
  v51 := Tryd.zeroValue91
  t70 := Tryd.underlying47
  a70 := Tryd.isAgg47
  z70 := Tryd.sizeOf47
  v70 := Tryd.zeroValue47
  t72 := Tryd.underlying50
  a72 := Tryd.isAgg50
  z72 := Tryd.sizeOf50
  v72 := Tryd.zeroValue50
  t75 := Tryd.underlying38
  a75 := Tryd.isAgg38
  z75 := Tryd.sizeOf38
  v75 := Tryd.zeroValue38
  t76 := Tryd.underlying39
  a76 := Tryd.isAgg39
  z76 := Tryd.sizeOf39
  v76 := Tryd.zeroValue39
  t105 := Tryd.underlying52
  a105 := Tryd.isAgg52
  z105 := Tryd.sizeOf52
  v105 := Tryd.zeroValue52
  t119 := Tryd.underlying78
  a119 := Tryd.isAgg78
  z119 := Tryd.sizeOf78
  t127 := Tryd.underlying64
  a127 := Tryd.isAgg64
  z127 := Tryd.sizeOf64
  v127 := Tryd.zeroValue64
  t138 := Tryd.underlying80
  a138 := Tryd.isAgg80
  z138 := Tryd.sizeOf80
  v138 := Tryd.zeroValue80
  t139 := Tryd.underlying81
  a139 := Tryd.isAgg81
  z139 := Tryd.sizeOf81
  v139 := Tryd.zeroValue81
  t146 := Tryd.underlying92
  a146 := Tryd.isAgg92
  z146 := Tryd.sizeOf92
  v146 := Tryd.zeroValue92
  t164 := Tryd.underlying74
  a164 := Tryd.isAgg74
  z164 := Tryd.sizeOf74
  v164 := Tryd.zeroValue74
  g1 := by kernel_rfl
  g3 := by kernel_rfl
  g4 := by kernel_rfl }
theorem Tryd.Builder_Extra_154 : Builder.Extra Tryd.prog Tryd.lays154_ren := {
  sizeBuilder := by kernel_rfl
  liesBuilder := by kernel_rfl
  t5 := Tryd.underlying5
  a5 := Tryd.isAgg5
  z5 := Tryd.sizeOf5
  v5 := Tryd.zeroValue5
  infoByte := by kernel_rfl
  cellsByte := by kernel_rfl
  sizeByte := by kernel_rfl
  neB5 := by decide }
open Go.RowKit Go.Lib in
theorem Tryd.strings_Replace (s old new : ByteArray) (n : Int) (m : Int) (w : World) (hs : s.size < 4294967281) (hm : w.cell? ⟨2, 0, none⟩ = some (.int .i64 m)) (h1 : 1 ≤ old.size) (hlen : s.size + Lib.countB s old * new.size ≤ 140737488355328) :
    Calls Tryd.prog 17 #[.string s, .string old, .string new, .int .i64 n] w fun e w' =>
      e = .returned (.string ⟨(Lib.replace s.data.toList old.data.toList new.data.toList n).toArray⟩) ∧ Below w.heap.size w w' := Any.strings_Replace Tryd.lays154 Tryd.Builder_Extra_154 s old new n m w hs hm h1 hlen
end Go.Proofs

/- The text of a number, in the program (strconv.Itoa), and what its table asks of the world. -/
namespace Go.Proofs.YtpjfidmapnnbkaaDoor
open Go.RowKit

theorem below_grow (w : World) (k : Nat) (os : Array Obj) : Below w.heap.size w (Sort.grow (w.drewN k) os) := by
  have h1 : Below w.heap.size w (w.drewN k) := below_drewN (Below.refl _ _) k
  refine h1.trans ⟨rfl, rfl, rfl, by simp [Sort.grow], fun i hi => ?_⟩
  have hs : (w.drewN k).heap = w.heap := by simp
  simp only [Sort.grow]
  rw [Array.getElem?_append_left (by rw [hs]; exact hi)]
/-- The table of the powers of ten lies, now and in every world since. -/
abbrev Tab (w : World) : Prop := Lib.TabBelow Tryd.prog w.heap.size w "internal/strconv.uint64pow10" .u64 Lib.pow10Tab
theorem Tab.is {w : World} (h : Tab w) : Lib.TabIs Tryd.prog w "internal/strconv.uint64pow10" .u64 Lib.pow10Tab := h w (Below.refl _ _)
theorem Tab.then {w w' : World} (h : Tab w) (hb : Below w.heap.size w w') : Tab w' := fun w'' h'' => h w'' (hb.trans (h''.mono hb.size))
theorem Tab.at {w : World} (h : Tab w) (q : Since w.heap.size w) : Tab q.val := h.then q.below

theorem itoa_any (n : Int) (w : World) (h0 : -9223372036854775808 ≤ n) (h1 : n ≤ 9223372036854775807) (ht : Tab w) :
    Calls Tryd.prog 24 #[.int .i64 n] w fun e w' => e = .returned (.string ⟨(Lib.itoa n).toArray⟩) ∧ Below w.heap.size w w' :=
  (Tryd.strconv_Itoa n h0 h1 w ht.is).mono fun e w' ⟨he, k, os, hw⟩ => ⟨he, by rw [hw]; exact below_grow w k os⟩
end Go.Proofs.YtpjfidmapnnbkaaDoor

/- What the library's variables hold, in every world of a call. -/
namespace Go.Proofs.YtpjfidmapnnbkaaDoor
open Go.RowKit

/-- A variable of an interface type holds an interface value. -/
def IfaceAt (w : World) (g : Nat) : Prop := ∃ ev, w.cell? ⟨g, 0, none⟩ = some ev ∧ (ev = .nilIface ∨ ∃ te pe, ev = .iface te pe)
/-- What the library's variables hold. -/
structure LW (w : World) : Prop where
  tab : Tab w
  syn : IfaceAt w 0
  rng : IfaceAt w 1
  ml : ∃ m : Int, w.cell? ⟨2, 0, none⟩ = some (.int .i64 m)
theorem cell_lt {w : World} {a : Addr} {v : Value} (h : w.cell? a = some v) : a.block < w.heap.size := by
  rcases Nat.lt_or_ge a.block w.heap.size with h1 | h1
  · exact h1
  · unfold World.cell? at h; simp [Array.getElem?_eq_none h1] at h
theorem IfaceAt.then {w w' : World} {g : Nat} (h : IfaceAt w g) (hb : Below w.heap.size w w') : IfaceAt w' g := by
  obtain ⟨ev, h1, h2⟩ := h
  exact ⟨ev, (hb.cell (cell_lt h1)).trans h1, h2⟩
theorem LW.then {w w' : World} (h : LW w) (hb : Below w.heap.size w w') : LW w' := by
  obtain ⟨h1, h2, h3, m, h4⟩ := h
  exact ⟨h1.then hb, h2.then hb, h3.then hb, m, (hb.cell (cell_lt h4)).trans h4⟩
theorem LW.at {w : World} (h : LW w) (q : Since w.heap.size w) : LW q.val := h.then q.below
end Go.Proofs.YtpjfidmapnnbkaaDoor

/- Records and logs as bytes: plain words, no program in sight. -/
namespace Go.Proofs.YtpjfidmapnnbkaaDoor

/-! ### The bytes ahead of a byte -/
def bef (b : UInt8) : List UInt8 → List UInt8
  | [] => []
  | x :: l => if x = b then [] else x :: bef b l
theorem bef_free {b : UInt8} : ∀ {l : List UInt8}, b ∉ l → bef b l = l
  | [], _ => rfl
  | x :: l, h => by
    simp only [List.mem_cons, not_or] at h
    unfold bef; rw [if_neg (Ne.symm h.1), bef_free h.2]
theorem bef_mid {b : UInt8} {r : List UInt8} : ∀ {t : List UInt8}, b ∉ t → bef b (t ++ b :: r) = t
  | [], _ => by simp [bef]
  | x :: l, h => by
    simp only [List.mem_cons, not_or] at h
    rw [List.cons_append]; unfold bef; rw [if_neg (Ne.symm h.1), bef_mid h.2]
theorem bef_not (b : UInt8) : ∀ l : List UInt8, b ∉ bef b l
  | [] => by simp [bef]
  | x :: l => by
    unfold bef; split
    · simp
    · rename_i h; simp only [List.mem_cons, not_or]; exact ⟨Ne.symm h, bef_not b l⟩
theorem bef_or (b : UInt8) : ∀ l : List UInt8, (b ∉ l ∧ bef b l = l) ∨ ∃ r, l = bef b l ++ b :: r
  | [] => .inl ⟨by simp, rfl⟩
  | x :: l => by
    unfold bef
    by_cases h : x = b
    · rw [if_pos h]; exact .inr ⟨l, by simp [h]⟩
    · rw [if_neg h]
      rcases bef_or b l with ⟨h1, h2⟩ | ⟨r, h1⟩
      · exact .inl ⟨by simp only [List.mem_cons, not_or]; exact ⟨Ne.symm h, h1⟩, by rw [h2]⟩
      · exact .inr ⟨r, by rw [List.cons_append, ← h1]⟩
theorem bef_len (b : UInt8) (l : List UInt8) : (bef b l).length ≤ l.length := by
  rcases bef_or b l with ⟨_, h⟩ | ⟨r, h⟩
  · rw [h]; exact Nat.le_refl _
  · have := congrArg List.length h; simp at this; omega
theorem bef_whole {b : UInt8} {l : List UInt8} : (bef b l).length = l.length ↔ b ∉ l := by
  constructor
  · intro h
    rcases bef_or b l with ⟨h1, _⟩ | ⟨r, h1⟩
    · exact h1
    · have := congrArg List.length h1; simp at this; omega
  · intro h; rw [bef_free h]
theorem take_bef {b : UInt8} (l : List UInt8) : l.take (bef b l).length = bef b l := by
  rcases bef_or b l with ⟨_, h⟩ | ⟨r, h⟩
  · rw [h]; simp
  · have e : (bef b l ++ b :: r).take (bef b l).length = bef b l := List.take_left' rfl
    rwa [← h] at e
theorem parts_bef {b : UInt8} {l : List UInt8} (h : b ∈ l) : l = bef b l ++ b :: l.drop ((bef b l).length + 1) := by
  rcases bef_or b l with ⟨h1, _⟩ | ⟨r, h1⟩
  · exact absurd h h1
  · have e : (bef b l ++ b :: r).drop ((bef b l).length + 1) = r := by
      rw [List.drop_append, List.drop_eq_nil_of_le (by omega)]; simp
    rw [← h1] at e
    rw [e]; exact h1

/-! ### Where a byte stands, in the library's words -/
theorem occ_one (s : List UInt8) (b : UInt8) (i : Nat) : Lib.occAt s [b] i = decide (s[i]? = some b) := by
  unfold Lib.occAt
  rcases Nat.lt_or_ge i s.length with h | h
  · rw [List.drop_eq_getElem_cons h, List.getElem?_eq_getElem h]
    by_cases e : s[i] = b
    · subst e; simp [List.isPrefixOf]
    · simp [List.isPrefixOf, e, Ne.symm e]
  · rw [List.drop_eq_nil_of_le h, List.getElem?_eq_none h]; rfl
theorem index_one_none {s : List UInt8} {b : UInt8} (h : b ∉ s) : Lib.index s [b] = -1 :=
  Lib.index_none fun j _ => by
    rw [occ_one, decide_eq_false_iff_not]; intro e; exact h (List.mem_of_getElem? e)
theorem index_one_mid {t r : List UInt8} {b : UInt8} (h : b ∉ t) : Lib.index (t ++ b :: r) [b] = t.length :=
  Lib.index_first (by simp) (by rw [occ_one]; simp) fun j hj => by
    rw [occ_one, decide_eq_false_iff_not, List.getElem?_append_left hj]; intro e; exact h (List.mem_of_getElem? e)
theorem index_one_or (s : List UInt8) (b : UInt8) : (b ∉ s ∧ Lib.index s [b] = -1) ∨ (b ∈ s ∧ Lib.index s [b] = (bef b s).length) := by
  rcases bef_or b s with ⟨h, _⟩ | ⟨r, h⟩
  · exact .inl ⟨h, index_one_none h⟩
  · refine .inr ⟨by rw [h]; simp, ?_⟩
    rw (occs := [1]) [h]; exact index_one_mid (bef_not b s)
theorem contains_one (s : List UInt8) (b : UInt8) : Lib.contains s [b] = s.contains b := by
  unfold Lib.contains
  rcases index_one_or s b with ⟨h, e⟩ | ⟨h, e⟩
  · rw [e]; simp [h]
  · rw [e]; simp [h]
theorem cut_one_none {s : List UInt8} {b : UInt8} (h : b ∉ s) : Lib.cut s [b] = (s, [], false) := by
  unfold Lib.cut; rw [index_one_none h]; simp
theorem cut_one_mid {t r : List UInt8} {b : UInt8} (h : b ∉ t) : Lib.cut (t ++ b :: r) [b] = (t, r, true) := by
  unfold Lib.cut; rw [index_one_mid h]; simp
theorem last_one_none {s : List UInt8} {b : UInt8} (h : b ∉ s) : Lib.lastIndex s [b] = -1 := by
  unfold Lib.lastIndex
  split
  · rcases Lib.lastOcc_spec s [b] (s.length - [b].length + 1) with ⟨e, _⟩ | ⟨i, _, _, ho, _⟩
    · exact e
    · rw [occ_one, decide_eq_true_eq] at ho; exact absurd (List.mem_of_getElem? ho) h
  · rfl
theorem last_one_mid {t r : List UInt8} {b : UInt8} (h : b ∉ r) : Lib.lastIndex (t ++ b :: r) [b] = t.length := by
  unfold Lib.lastIndex
  rw [if_pos (by simp; omega)]
  rcases Lib.lastOcc_spec (t ++ b :: r) [b] ((t ++ b :: r).length - [b].length + 1) with ⟨_, hn⟩ | ⟨i, hi, e, ho, hn⟩
  · have := hn t.length (by simp; omega)
    rw [occ_one] at this; simp at this
  · rw [e]
    rw [occ_one, decide_eq_true_eq] at ho
    rcases Nat.lt_trichotomy i t.length with hlt | heq | hgt
    · have := hn t.length hlt (by simp; omega)
      rw [occ_one] at this; simp at this
    · rw [heq]
    · exfalso
      rw [List.getElem?_append_right (by omega)] at ho
      obtain ⟨d, hd⟩ : ∃ d, i - t.length = d + 1 := ⟨i - t.length - 1, by omega⟩
      rw [hd, List.getElem?_cons_succ] at ho
      exact h (List.mem_of_getElem? ho)
theorem last_one_ge (s : List UInt8) (b : UInt8) : Lib.lastIndex s [b] = -1 ∨ ∃ i : Nat, Lib.lastIndex s [b] = i ∧ i < s.length ∧ s[i]? = some b := by
  unfold Lib.lastIndex
  split
  · rcases Lib.lastOcc_spec s [b] (s.length - [b].length + 1) with ⟨e, _⟩ | ⟨i, hi, e, ho, _⟩
    · exact .inl e
    · rw [occ_one, decide_eq_true_eq] at ho
      exact .inr ⟨i, e, (List.getElem?_eq_some_iff.1 ho).1, ho⟩
  · exact .inl rfl

/-! ### Records -/
theorem dec_bytes : ∀ (n : Nat) (c : UInt8), c ∈ Lib.decDigits n → 48 ≤ c.toNat ∧ c.toNat ≤ 57 := by
  intro n
  induction n using Nat.strongRecOn with
  | ind n ih =>
    intro c hc
    rw [Lib.decDigits] at hc
    have one : ∀ k, k < 10 → c = UInt8.ofNat (48 + k) → 48 ≤ c.toNat ∧ c.toNat ≤ 57 := by
      intro k hk e
      have : c.toNat = 48 + k := by rw [e, UInt8.toNat_ofNat']; omega
      omega
    split at hc
    · rename_i h; exact one n h (by simpa using hc)
    · rename_i h
      rcases List.mem_append.1 hc with h1 | h1
      · exact ih (n / 10) (by omega) c h1
      · exact one (n % 10) (by omega) (by simpa using h1)
theorem itoa_nat (n : Nat) : Lib.itoa (n : Int) = Lib.decDigits n := by unfold Lib.itoa; rw [if_neg (by omega), Int.toNat_natCast]
theorem itoa_free {n : Nat} {b : UInt8} (h : b.toNat < 48 ∨ 57 < b.toNat) : b ∉ Lib.itoa (n : Int) := by
  rw [itoa_nat]; intro hb; have := dec_bytes n b hb; omega
theorem itoa_le21 {n : Nat} (h : n ≤ 9223372036854775807) : (Lib.itoa (n : Int)).length ≤ 21 := Lib.itoa_length_le _ (by omega) (by omega)

def plainB (c : UInt8) : Bool := decide (32 ≤ c.toNat) && decide (c.toNat ≤ 126) && c != 35
def plainL (l : List UInt8) : Bool := l.all plainB
theorem plain_free {l : List UInt8} (h : plainL l = true) : (35 : UInt8) ∉ l := fun hm => by
  have := List.all_eq_true.1 h _ hm; simp [plainB] at this
theorem plain_nl {l : List UInt8} (h : plainL l = true) : (10 : UInt8) ∉ l := fun hm => by
  have := List.all_eq_true.1 h _ hm; simp [plainB] at this
def recOk (c r : List UInt8) : Bool := decide (1 ≤ c.length) && decide (c.length ≤ 160) && plainL c && !c.contains 64 && plainL r && decide (r.length ≤ 200)
theorem recOk_iff {c r : List UInt8} : recOk c r = true ↔ 1 ≤ c.length ∧ c.length ≤ 160 ∧ plainL c = true ∧ (64 : UInt8) ∉ c ∧ plainL r = true ∧ r.length ≤ 200 := by
  unfold recOk; simp [Bool.and_eq_true, and_assoc]
def sumFrom : Nat → List UInt8 → Nat
  | h, [] => h
  | h, c :: l => sumFrom ((41 * h + c.toNat + 1) % 999979) l
theorem sumFrom_lt : ∀ (l : List UInt8) (h : Nat), h < 999979 → sumFrom h l < 999979
  | [], _, h => h
  | _ :: l, _, _ => sumFrom_lt l _ (Nat.mod_lt _ (by omega))
def sumL (l : List UInt8) : Nat := sumFrom 7 l
theorem sumL_lt (l : List UInt8) : sumL l < 999979 := sumFrom_lt l 7 (by omega)
def sealL (t : List UInt8) : List UInt8 := t ++ 35 :: Lib.itoa (sumL t)
theorem seal_len (t : List UInt8) : (sealL t).length ≤ t.length + 22 := by
  have := itoa_le21 (n := sumL t) (by have := sumL_lt t; omega)
  unfold sealL; simp; omega
theorem seal_bef {t : List UInt8} (h : (35 : UInt8) ∉ t) : bef 35 (sealL t) = t := bef_mid h
theorem seal_last (t : List UInt8) : Lib.lastIndex (sealL t) [35] = t.length := last_one_mid (itoa_free (by decide))
def txtL (k : Nat) (c r : List UInt8) : List UInt8 := Lib.itoa (k : Int) ++ [32] ++ c ++ [64] ++ r
def lineL (k : Nat) (c r : List UInt8) : List UInt8 := sealL (txtL k c r) ++ [10]
theorem txt_free {k : Nat} {c r : List UInt8} (h : recOk c r = true) : (35 : UInt8) ∉ txtL k c r := by
  obtain ⟨_, _, h1, _, h2, _⟩ := recOk_iff.1 h
  have a := itoa_free (n := k) (b := 35) (by decide)
  have b := plain_free h1
  have d := plain_free h2
  unfold txtL; simp [a, b, d]
theorem txt_len {k : Nat} {c r : List UInt8} (h : recOk c r = true) (hk : k ≤ 9223372036854775807) : (txtL k c r).length ≤ 383 := by
  obtain ⟨_, h1, _, _, _, h2⟩ := recOk_iff.1 h
  have := itoa_le21 hk
  unfold txtL; simp; omega
theorem line_len {k : Nat} {c r : List UInt8} (h : recOk c r = true) (hk : k ≤ 9223372036854775807) : (lineL k c r).length ≤ 406 := by
  have := txt_len h hk
  have := seal_len (txtL k c r)
  unfold lineL; simp; omega
theorem seal_nl {k : Nat} {c r : List UInt8} (h : recOk c r = true) : (10 : UInt8) ∉ sealL (txtL k c r) := by
  obtain ⟨_, _, h1, _, h2, _⟩ := recOk_iff.1 h
  have a := itoa_free (n := k) (b := 10) (by decide)
  have a' := itoa_free (n := sumL (txtL k c r)) (b := 10) (by decide)
  have b := plain_nl h1
  have d := plain_nl h2
  unfold sealL
  simp only [List.mem_append, List.mem_cons, not_or]
  refine ⟨?_, by decide, a'⟩
  unfold txtL; simp [a, b, d]

/-- s is the encoding of the record c, r with number k. -/
def Enc (k : Nat) (c r s : List UInt8) : Prop := recOk c r = true ∧ sealL (txtL k c r) = s
theorem Enc.inj {k : Nat} {c r c' r' s : List UInt8} (h : Enc k c r s) (h' : Enc k c' r' s) : c = c' ∧ r = r' := by
  obtain ⟨h1, h2⟩ := h
  obtain ⟨h1', h2'⟩ := h'
  have e : txtL k c r = txtL k c' r' := by rw [← seal_bef (txt_free h1), ← seal_bef (txt_free h1'), h2, h2']
  unfold txtL at e
  simp only [List.append_assoc] at e
  have e2 := List.append_cancel_left (List.append_cancel_left e)
  obtain ⟨_, _, _, n, _⟩ := recOk_iff.1 h1
  obtain ⟨_, _, _, n', _⟩ := recOk_iff.1 h1'
  have a := bef_mid (r := r) n
  have a' := bef_mid (r := r') n'
  have e3 : c ++ 64 :: r = c' ++ 64 :: r' := e2
  rw [e3, a'] at a
  subst a
  exact ⟨rfl, by simpa using List.append_cancel_left e3⟩
open Classical in
/-- What a line decodes to, as the record with number k. -/
noncomputable def decF (k : Nat) (s : List UInt8) : Option (List UInt8 × List UInt8) := if h : ∃ p : List UInt8 × List UInt8, Enc k p.1 p.2 s then some h.choose else none
theorem decF_some {k : Nat} {c r s : List UInt8} (h : Enc k c r s) : decF k s = some (c, r) := by
  have hex : ∃ p : List UInt8 × List UInt8, Enc k p.1 p.2 s := ⟨(c, r), h⟩
  unfold decF
  rw [dif_pos hex]
  obtain ⟨e1, e2⟩ := hex.choose_spec.inj h
  exact congrArg some (Prod.ext e1 e2)
theorem decF_none {k : Nat} {s : List UInt8} (h : ∀ c r, ¬ Enc k c r s) : decF k s = none := by
  unfold decF
  rw [dif_neg (fun ⟨p, hp⟩ => h _ _ hp)]
theorem decF_enc {k : Nat} {c r s : List UInt8} (h : decF k s = some (c, r)) : Enc k c r s := by
  by_cases hex : ∃ p : List UInt8 × List UInt8, Enc k p.1 p.2 s
  · unfold decF at h
    rw [dif_pos hex] at h
    have := hex.choose_spec
    rw [Option.some.inj h] at this
    exact this
  · unfold decF at h
    rw [dif_neg hex] at h; cases h

/-! ### The program's way of decoding: the checksum, a prefix, a cut -/
/-- A text with its checksum verified. -/
def Ver (t s : List UInt8) : Prop := (35 : UInt8) ∉ t ∧ sealL t = s ∧ t.length ≤ 4000 ∧ s.length ≤ 4000
theorem Ver.inj {t t' s : List UInt8} (h : Ver t s) (h' : Ver t' s) : t = t' := by
  rw [← seal_bef h.1, ← seal_bef h'.1, h.2.1, h'.2.1]
theorem Enc.ver {k : Nat} {c r s : List UInt8} (h : Enc k c r s) (hk : k ≤ 9223372036854775807) : Ver (txtL k c r) s := by
  refine ⟨txt_free h.1, h.2, by have := txt_len h.1 hk; omega, ?_⟩
  rw [← h.2]; have := txt_len h.1 hk; have := seal_len (txtL k c r); omega
theorem dec_no_ver {k : Nat} {s : List UInt8} (hk : k ≤ 9223372036854775807) (h : ∀ t, ¬ Ver t s) : decF k s = none := decF_none fun _ _ he => h _ (he.ver hk)
theorem dec_no_num {k : Nat} {s t : List UInt8} (hk : k ≤ 9223372036854775807) (hv : Ver t s) (h : ¬ (Lib.itoa (k : Int) ++ [32]) <+: t) : decF k s = none := decF_none fun c r he => h (by
  rw [hv.inj (he.ver hk)]
  exact ⟨c ++ [64] ++ r, by unfold txtL; simp⟩)
theorem dec_no_at {k : Nat} {s t u : List UInt8} (hk : k ≤ 9223372036854775807) (hv : Ver t s) (ht : t = Lib.itoa (k : Int) ++ [32] ++ u) (h : (64 : UInt8) ∉ u) : decF k s = none := decF_none fun c r he => h (by
  have e := hv.inj (he.ver hk)
  rw [ht] at e
  unfold txtL at e
  simp only [List.append_assoc] at e
  have := List.append_cancel_left (List.append_cancel_left e)
  rw [this]; simp)
theorem dec_iff_rec {k : Nat} {s t c r : List UInt8} (hk : k ≤ 9223372036854775807) (hv : Ver t s) (ht : t = Lib.itoa (k : Int) ++ [32] ++ (c ++ 64 :: r)) (hc : (64 : UInt8) ∉ c) :
    decF k s = if recOk c r = true then some (c, r) else none := by
  have e0 : txtL k c r = t := by rw [ht]; unfold txtL; simp
  split
  · rename_i h; exact decF_some ⟨h, by rw [e0]; exact hv.2.1⟩
  · rename_i h
    refine decF_none fun c' r' he => h ?_
    have e := hv.inj (he.ver hk)
    rw [← e0] at e
    unfold txtL at e
    simp only [List.append_assoc] at e
    have e2 := List.append_cancel_left (List.append_cancel_left e)
    have e3 : c ++ 64 :: r = c' ++ 64 :: r' := e2
    obtain ⟨_, _, _, n', _⟩ := recOk_iff.1 he.1
    have a := bef_mid (r := r) hc
    rw [e3, bef_mid n'] at a
    subst a
    have : r = r' := by simpa using List.append_cancel_left e3
    subst this
    exact he.1

/-! ### The reference's way: the text ahead of the sign -/
theorem dec_spec_num {k : Nat} {s : List UInt8} (h : ¬ (Lib.itoa (k : Int) ++ [32]) <+: bef 35 s) : decF k s = none := decF_none fun c r he => h (by
  rw [← he.2, seal_bef (txt_free he.1)]
  exact ⟨c ++ [64] ++ r, by unfold txtL; simp⟩)
theorem dec_spec_at {k : Nat} {s u : List UInt8} (ht : bef 35 s = Lib.itoa (k : Int) ++ [32] ++ u) (h : (64 : UInt8) ∉ u) : decF k s = none := decF_none fun c r he => h (by
  rw [← he.2, seal_bef (txt_free he.1)] at ht
  unfold txtL at ht
  simp only [List.append_assoc] at ht
  have := List.append_cancel_left (List.append_cancel_left ht)
  rw [← this]; simp)
theorem dec_spec_rec {k : Nat} {s c r : List UInt8} (ht : bef 35 s = Lib.itoa (k : Int) ++ [32] ++ (c ++ 64 :: r)) (hc : (64 : UInt8) ∉ c) :
    decF k s = if recOk c r = true ∧ lineL k c r = s ++ [10] then some (c, r) else none := by
  split
  · rename_i h; exact decF_some ⟨h.1, List.append_cancel_right h.2⟩
  · rename_i h
    refine decF_none fun c' r' he => h ?_
    have e := ht
    rw [← he.2, seal_bef (txt_free he.1)] at e
    unfold txtL at e
    simp only [List.append_assoc] at e
    have e2 := List.append_cancel_left (List.append_cancel_left e)
    have e3 : c' ++ 64 :: r' = c ++ 64 :: r := e2
    obtain ⟨_, _, _, n', _⟩ := recOk_iff.1 he.1
    have a := bef_mid (r := r) hc
    rw [← e3, bef_mid n'] at a
    subst a
    have : r' = r := by simpa using List.append_cancel_left e3
    subst this
    exact ⟨he.1, by unfold lineL; rw [he.2]⟩

/-! ### A log: the records at the start of its bytes -/
/-- At most n records, from number k on, each with the length of its line. -/
noncomputable def openF : Nat → Nat → List UInt8 → List ((List UInt8 × List UInt8) × Nat)
  | 0, _, _ => []
  | n + 1, k, s => if (10 : UInt8) ∈ s then
      match decF k (bef 10 s) with
      | none => []
      | some e => (e, (bef 10 s).length + 1) :: openF n (k + 1) (s.drop ((bef 10 s).length + 1))
    else []
def lens (l : List ((List UInt8 × List UInt8) × Nat)) : Nat := (l.map (·.2)).sum
theorem lens_cons (e : (List UInt8 × List UInt8) × Nat) (l : List ((List UInt8 × List UInt8) × Nat)) : lens (e :: l) = e.2 + lens l := by simp [lens]
theorem openF_no {n k : Nat} {s : List UInt8} (h : (10 : UInt8) ∉ s) : openF n k s = [] := by cases n <;> simp [openF, h]
theorem openF_bad {n k : Nat} {s : List UInt8} (h : decF k (bef 10 s) = none) : openF n k s = [] := by cases n <;> simp [openF, h]
theorem openF_yes {n k : Nat} {s : List UInt8} {e : List UInt8 × List UInt8} (h1 : (10 : UInt8) ∈ s) (h2 : decF k (bef 10 s) = some e) :
    openF (n + 1) k s = (e, (bef 10 s).length + 1) :: openF n (k + 1) (s.drop ((bef 10 s).length + 1)) := by simp [openF, h1, h2]
theorem openF_room : ∀ (n k : Nat) (s : List UInt8), lens (openF n k s) ≤ s.length
  | 0, _, _ => by simp [openF, lens]
  | n + 1, k, s => by
    by_cases h1 : (10 : UInt8) ∈ s
    · cases h2 : decF k (bef 10 s) with
      | none => rw [openF_bad h2]; simp [lens]
      | some e =>
        rw [openF_yes h1 h2, lens_cons]
        have := openF_room n (k + 1) (s.drop ((bef 10 s).length + 1))
        have h3 := congrArg List.length (parts_bef h1)
        simp at this h3
        simp only
        omega
    · rw [openF_no h1]; simp [lens]
theorem openF_length : ∀ (n k : Nat) (s : List UInt8), (openF n k s).length ≤ n
  | 0, _, _ => by simp [openF]
  | n + 1, k, s => by
    by_cases h1 : (10 : UInt8) ∈ s
    · cases h2 : decF k (bef 10 s) with
      | none => rw [openF_bad h2]; simp
      | some e => rw [openF_yes h1 h2, List.length_cons]; have := openF_length n (k + 1) (s.drop ((bef 10 s).length + 1)); omega
    · rw [openF_no h1]; simp
theorem openF_small : ∀ (n k : Nat) (s : List UInt8), n + k ≤ 1000 → lens (openF n k s) ≤ 406 * n
  | 0, _, _, _ => by simp [openF, lens]
  | n + 1, k, s, h => by
    by_cases h1 : (10 : UInt8) ∈ s
    · cases h2 : decF k (bef 10 s) with
      | none => rw [openF_bad h2]; simp [lens]
      | some e =>
        rw [openF_yes h1 h2, lens_cons]
        have := openF_small n (k + 1) (s.drop ((bef 10 s).length + 1)) (by omega)
        obtain ⟨c, r⟩ := e
        have he := decF_enc h2
        have hl := line_len (k := k) he.1 (by omega)
        unfold lineL at hl; rw [he.2] at hl; simp at hl
        simp only
        omega
    · rw [openF_no h1]; simp [lens]

/-- The places where records end, from a on, with a in front. -/
def endsF : Nat → List ((List UInt8 × List UInt8) × Nat) → List Nat
  | a, [] => [a]
  | a, e :: l => a :: endsF (a + e.2) l
theorem endsF_ne (a : Nat) (l : List ((List UInt8 × List UInt8) × Nat)) : endsF a l ≠ [] := by cases l <;> simp [endsF]
theorem endsF_length : ∀ (a : Nat) (l : List ((List UInt8 × List UInt8) × Nat)), (endsF a l).length = l.length + 1
  | _, [] => rfl
  | a, _ :: l => by simp [endsF, endsF_length (a + _) l]
theorem endsF_snoc : ∀ (a : Nat) (l : List ((List UInt8 × List UInt8) × Nat)) (e : (List UInt8 × List UInt8) × Nat), endsF a (l ++ [e]) = endsF a l ++ [a + lens l + e.2]
  | a, [], e => by simp [endsF, lens]
  | a, x :: l, e => by simp [endsF, endsF_snoc (a + x.2) l e, lens_cons, Nat.add_assoc]
theorem endsF_last : ∀ (a : Nat) (l : List ((List UInt8 × List UInt8) × Nat)), (endsF a l)[l.length]? = some (a + lens l)
  | _, [] => by simp [endsF, lens]
  | a, x :: l => by simp [endsF, endsF_last (a + x.2) l, lens_cons, Nat.add_assoc]
theorem endsF_ge : ∀ (a : Nat) (l : List ((List UInt8 × List UInt8) × Nat)) (x : Nat), x ∈ endsF a l → a ≤ x
  | a, [], x, h => by simp [endsF] at h; omega
  | a, e :: l, x, h => by
    simp only [endsF, List.mem_cons] at h
    rcases h with h | h
    · omega
    · have := endsF_ge (a + e.2) l x h; omega

/-- The durable bytes end where a record ends: it is as much as that they are read whole by themselves. -/
theorem kept_iff : ∀ (n k a : Nat) (D P : List UInt8), a + D.length ∈ endsF a (openF n k (D ++ P)) ↔ lens (openF n k D) = D.length
  | 0, k, a, D, P => by simp only [openF, endsF, lens, List.map_nil, List.sum_nil, List.mem_singleton]; omega
  | n + 1, k, a, D, P => by
    by_cases hD : D.length = 0
    · have : D = [] := List.eq_nil_of_length_eq_zero hD
      subst this
      rw [openF_no (s := []) (by simp)]
      constructor
      · intro _; rfl
      · intro _
        have : endsF a (openF (n + 1) k ([] ++ P)) ≠ [] := endsF_ne _ _
        cases h : openF (n + 1) k ([] ++ P) <;> simp [endsF]
    · by_cases h1 : (10 : UInt8) ∈ D
      · have e1 := parts_bef h1
        have h1' : (10 : UInt8) ∈ D ++ P := by simp [h1]
        have hb : bef 10 (D ++ P) = bef 10 D := by
          rw (occs := [1]) [e1]
          rw [List.append_assoc, List.cons_append]; exact bef_mid (bef_not 10 D)
        have hlen : (bef 10 D).length + 1 ≤ D.length := by have := congrArg List.length e1; simp at this; omega
        cases h2 : decF k (bef 10 D) with
        | none =>
          rw [openF_bad (by rw [hb]; exact h2), openF_bad h2]
          simp only [endsF, lens, List.map_nil, List.sum_nil, List.mem_singleton]; omega
        | some e =>
          rw [openF_yes h1' (by rw [hb]; exact h2), openF_yes h1 h2, hb]
          have e2 : (D ++ P).drop ((bef 10 D).length + 1) = D.drop ((bef 10 D).length + 1) ++ P := List.drop_append_of_le_length hlen
          rw [e2, lens_cons]
          simp only [endsF, List.mem_cons]
          have ih := kept_iff n (k + 1) (a + ((bef 10 D).length + 1)) (D.drop ((bef 10 D).length + 1)) P
          rw [List.length_drop] at ih
          have e3 : a + ((bef 10 D).length + 1) + (D.length - ((bef 10 D).length + 1)) = a + D.length := by omega
          rw [e3] at ih
          constructor
          · rintro (h | h)
            · omega
            · have := ih.1 h; omega
          · intro h
            exact .inr (ih.2 (by omega))
      · rw [openF_no h1]
        simp only [lens, List.map_nil, List.sum_nil]
        constructor
        · intro h
          exfalso
          by_cases h3 : (10 : UInt8) ∈ D ++ P
          · cases h2 : decF k (bef 10 (D ++ P)) with
            | none => rw [openF_bad h2] at h; simp only [endsF, List.mem_singleton] at h; omega
            | some e =>
              rw [openF_yes h3 h2] at h
              simp only [endsF, List.mem_cons] at h
              rcases h with h | h
              · omega
              · have := endsF_ge _ _ _ h
                have hge : D.length ≤ (bef 10 (D ++ P)).length := by
                  rcases Nat.lt_or_ge (bef 10 (D ++ P)).length D.length with hlt | hge
                  · exfalso
                    have e4 := parts_bef h3
                    have h5 : (D ++ P)[(bef 10 (D ++ P)).length]? = some 10 := by rw (occs := [1]) [e4]; simp
                    rw [List.getElem?_append_left hlt] at h5
                    exact h1 (List.mem_of_getElem? h5)
                  · exact hge
                omega
          · rw [openF_no h3] at h; simp only [endsF, List.mem_singleton] at h; omega
        · intro h; omega

/-- A log is valid. -/
noncomputable def logOk (D P : List UInt8) (n : Int) : Bool :=
  decide (lens (openF 60 0 (D ++ P)) = D.length + P.length) && decide (lens (openF 60 0 D) = D.length) && decide (((openF 60 0 (D ++ P)).length : Int) = n)
theorem logOk_small {D P : List UInt8} (h : lens (openF 60 0 (D ++ P)) = D.length + P.length) : D.length + P.length ≤ 30000 := by
  have := openF_small 60 0 (D ++ P) (by omega); omega
theorem logOk_iff {D P : List UInt8} {n : Int} : logOk D P n = true ↔ lens (openF 60 0 (D ++ P)) = D.length + P.length ∧ lens (openF 60 0 D) = D.length ∧ ((openF 60 0 (D ++ P)).length : Int) = n := by
  unfold logOk; simp [Bool.and_eq_true, and_assoc]
/-- The same in the program's words. -/
theorem logOk_impl {D P : List UInt8} {n : Int} : logOk D P n = true ↔ lens (openF 60 0 (D ++ P)) = D.length + P.length ∧ D.length ∈ endsF 0 (openF 60 0 (D ++ P)) ∧ n = ((openF 60 0 (D ++ P)).length : Int) := by
  have := kept_iff 60 0 0 D P
  rw [Nat.zero_add] at this
  rw [logOk_iff, this]
  constructor <;> (rintro ⟨h1, h2, h3⟩; exact ⟨h1, h2, h3.symm⟩)
end Go.Proofs.YtpjfidmapnnbkaaDoor

/- The bytes of a text (no program in sight). -/
namespace Go.Proofs.YtpjfidmapnnbkaaDoor
open Go.RowKit

def bl (s : ByteArray) : List UInt8 := s.data.toList
theorem bl_app (a b : ByteArray) : bl (a ++ b) = bl a ++ bl b := by unfold bl; rw [ByteArray.data_append, Array.toList_append]
theorem bl_mk (l : List UInt8) : bl ⟨l.toArray⟩ = l := by simp [bl]
theorem bl_lit (l : Array UInt8) : bl ⟨l⟩ = l.toList := rfl
theorem bl_size (s : ByteArray) : (bl s).length = s.size := rfl
theorem bl_ext {s : ByteArray} {l : List UInt8} (h : bl s = l) : s = ⟨l.toArray⟩ := by
  rw [← h]; simp [bl]
theorem bl_inj {s t : ByteArray} (h : bl s = bl t) : s = t := (bl_ext h).trans (bl_ext rfl).symm
set_option maxRecDepth 10000 in
theorem size_app (a b : ByteArray) : (a ++ b).size = a.size + b.size := by rw [← bl_size (a ++ b), bl_app, List.length_append, bl_size, bl_size]
theorem bl_drop {s : ByteArray} {k : Nat} (h : k < s.size) : (bl s).drop k = s[k] :: (bl s).drop (k + 1) := List.drop_eq_getElem_cons (l := bl s) h
theorem bl_take {s : ByteArray} {k : Nat} (h : k < s.size) : (bl s).take (k + 1) = (bl s).take k ++ [s[k]] := List.take_succ_eq_append_getElem (l := bl s) h
theorem bl_extract (s : ByteArray) (a b : Nat) : bl (s.extract a b) = ((bl s).take b).drop a := by
  unfold bl
  rw [Lib.extract_data, List.drop_take]
theorem u8_eq {a b : UInt8} : ((a.toNat : Int) == (b.toNat : Int)) = decide (a = b) := by
  rw [Bool.eq_iff_iff]; simp [← UInt8.toNat_inj]; omega
end Go.Proofs.YtpjfidmapnnbkaaDoor

/- strconv.Atoi at every text. -/
namespace Go.Proofs.YtpjfidmapnnbkaaDoor
open Go.RowKit

/-- What Atoi gives: a number and no error, or an error where there is none. -/
def GivesAtoi (s : ByteArray) (w : World) (e : Ending) (w' : World) : Prop := ∃ (v : Int) (okc : Bool) (ev : Value), e = .returned (.tuple #[.int .i64 v, ev]) ∧ ((okc = true ∧ ev = .nilIface ∧ Lib.atoiAll (bl s) = .ok v) ∨ (okc = false ∧ (∃ t p, ev = .iface t p) ∧ ∀ u, Lib.atoiAll (bl s) ≠ .ok u)) ∧ Below w.heap.size w w'
theorem atoi_any (s : ByteArray) (w : World) (hs : s.size ≤ 1000000000) (hL : LW w) : Calls Tryd.prog 16 #[.string s] w (GivesAtoi s w) := by
  rcases ha : Lib.atoiAll s.data.toList with v | _ | _
  · refine (Tryd.strconv_Atoi_ok s (by omega) v ha w).mono ?_
    rintro e w1 ⟨rfl, hw1⟩
    refine ⟨v, true, _, rfl, .inl ⟨rfl, rfl, ha⟩, ?_⟩
    rcases hw1 with rfl | ⟨t, rfl⟩
    · exact Below.refl _ _
    · exact Lib.bytesWorld_below _ _ _
  · obtain ⟨ev, he1, he2⟩ := hL.syn
    refine (Tryd.strconv_Atoi_syntax s (by omega) ha ev w he1 he2).mono ?_
    rintro e w1 ⟨N, rfl, _, _, hb1⟩
    exact ⟨0, false, _, rfl, .inr ⟨rfl, ⟨_, _, rfl⟩, fun u hu => by rw [show Lib.atoiAll (bl s) = _ from ha] at hu; cases hu⟩, hb1⟩
  · obtain ⟨ev, he1, he2⟩ := hL.rng
    refine (Tryd.strconv_Atoi_range s (by omega) ha ev w he1 he2).mono ?_
    rintro e w1 ⟨N, rfl, _, _, hb1⟩
    exact ⟨_, false, _, rfl, .inr ⟨rfl, ⟨_, _, rfl⟩, fun u hu => by rw [show Lib.atoiAll (bl s) = _ from ha] at hu; cases hu⟩, hb1⟩
end Go.Proofs.YtpjfidmapnnbkaaDoor

/- Texts of numbers of at most six digits (plain). -/
namespace Go.Proofs.YtpjfidmapnnbkaaDoor

def Six (n : Int) : Prop := -999999 ≤ n ∧ n ≤ 999999
theorem digitVal_digit {d : Nat} (h : d < 10) : Lib.digitVal (UInt8.ofNat (48 + d)) = some d := by
  have : (UInt8.ofNat (48 + d)).toNat = 48 + d := by simp [UInt8.toNat_ofNat']; omega
  unfold Lib.digitVal
  rw [this, if_pos (by omega)]
  congr 1; omega
theorem decFrom_app : ∀ (l r : List UInt8) (acc m : Nat), Lib.decFrom acc l = some m → Lib.decFrom acc (l ++ r) = Lib.decFrom m r
  | [], r, acc, m, h => by simp only [Lib.decFrom, Option.some.injEq] at h; subst h; rfl
  | b :: l, r, acc, m, h => by
    simp only [List.cons_append, Lib.decFrom] at h ⊢
    cases hb : Lib.digitVal b with
    | none => rw [hb] at h; cases h
    | some d => rw [hb] at h; exact decFrom_app l r _ _ h
theorem decFrom_dec (n : Nat) : Lib.decFrom 0 (Lib.decDigits n) = some n := by
  induction n using Nat.strongRecOn with
  | _ n ih =>
    rw [Lib.decDigits]
    by_cases h : n < 10
    · rw [dif_pos h]
      simp only [Lib.decFrom, digitVal_digit h]
      congr 1; omega
    · rw [dif_neg h, decFrom_app _ _ _ _ (ih (n / 10) (by omega))]
      simp only [Lib.decFrom, digitVal_digit (Nat.mod_lt n (by omega : 0 < 10))]
      congr 1; omega
theorem dec_ne (n : Nat) : Lib.decDigits n ≠ [] := by
  intro h
  have h1 := Lib.decDigits_length n
  have h2 := Lib.nDigits_pos n
  rw [h] at h1; simp at h1; omega
theorem dec_digit (n : Nat) : ∀ b ∈ Lib.decDigits n, 48 ≤ b.toNat ∧ b.toNat ≤ 57 := by
  intro b hb
  obtain ⟨k, hk, e⟩ := List.getElem_of_mem hb
  obtain ⟨d, hd⟩ := Lib.digit_of_decFrom _ _ _ (decFrom_dec n) k b (by rw [List.getElem?_eq_getElem hk, e])
  have := Lib.digitVal_eq hd
  omega
theorem decNat_dec (n : Nat) : Lib.decNat (Lib.decDigits n) = some n := by
  unfold Lib.decNat
  rw [if_neg (by simp [dec_ne])]
  exact decFrom_dec n
theorem atoi_itoa (n : Int) : Lib.atoi (Lib.itoa n) = some n := by
  unfold Lib.itoa
  by_cases h : n < 0
  · rw [if_pos h]
    simp only [Lib.atoi, beq_self_eq_true, if_true, decNat_dec, Option.map_some, Option.some.injEq]
    omega
  · rw [if_neg h]
    obtain ⟨m, rfl⟩ := Int.eq_ofNat_of_zero_le (by omega : 0 ≤ n)
    rw [Int.toNat_natCast]
    cases hd : Lib.decDigits m with
    | nil => exact absurd hd (dec_ne m)
    | cons b r =>
      have hb := dec_digit m b (by rw [hd]; simp)
      have h1 : (b == 45) = false := by
        rw [beq_eq_false_iff_ne]; intro e; subst e; have : (45 : UInt8).toNat = 45 := rfl; omega
      have h2 : (b == 43) = false := by
        rw [beq_eq_false_iff_ne]; intro e; subst e; have : (43 : UInt8).toNat = 43 := rfl; omega
      simp only [Lib.atoi, h1, h2, Bool.false_eq_true, if_false]
      rw [← hd, decNat_dec]
      rfl
theorem itoa_inj {n m : Int} (h : Lib.itoa n = Lib.itoa m) : n = m := by
  have := atoi_itoa n
  rw [h, atoi_itoa m] at this
  exact (Option.some.inj this).symm
theorem nDigits_six {n : Nat} (h : n ≤ 999999) : Lib.nDigits n ≤ 6 := by
  by_cases h0 : n = 0
  · subst h0; rw [Lib.nDigits_small (by omega)]; omega
  · have h1 := Lib.nDigits_pos n
    by_cases h2 : Lib.nDigits n ≤ 6
    · exact h2
    · exfalso
      have key : ∀ (k n : Nat), n < 10 ^ (k + 1) → Lib.nDigits n ≤ k + 1 := by
        intro k
        induction k with
        | zero => intro n hn; rw [Lib.nDigits_small (by simpa using hn)]; omega
        | succ k ih =>
          intro n hn
          by_cases hs : n < 10
          · rw [Lib.nDigits_small hs]; omega
          · rw [Lib.nDigits_big hs]
            have := ih (n / 10) (Nat.div_lt_of_lt_mul (by rw [Nat.mul_comm, ← Nat.pow_succ]; exact hn))
            omega
      exact h2 (key 5 n (by omega))
theorem itoa_six {n : Int} (h : Six n) : 1 ≤ (Lib.itoa n).length ∧ (Lib.itoa n).length ≤ 7 := by
  unfold Lib.itoa
  obtain ⟨h1, h2⟩ := h
  split
  · have := nDigits_six (n := n.natAbs) (by omega)
    rw [List.length_cons, Lib.decDigits_length]; omega
  · have := nDigits_six (n := n.toNat) (by omega)
    have h3 := Lib.nDigits_pos n.toNat
    rw [Lib.decDigits_length]; omega
open Classical in
/-- The number of at most six digits of which this is the text. -/
noncomputable def numF (s : List UInt8) : Option Int := if h : ∃ n, Six n ∧ Lib.itoa n = s then some h.choose else none
theorem numF_some {n : Int} (h : Six n) : numF (Lib.itoa n) = some n := by
  have hex : ∃ m, Six m ∧ Lib.itoa m = Lib.itoa n := ⟨n, h, rfl⟩
  unfold numF
  rw [dif_pos hex]
  exact congrArg some (itoa_inj hex.choose_spec.2)
theorem numF_eq {n : Int} {s : List UInt8} (h : Six n) (e : Lib.itoa n = s) : numF s = some n := e ▸ numF_some h
theorem numF_is {n : Int} {s : List UInt8} (h : numF s = some n) : Six n ∧ Lib.itoa n = s := by
  by_cases hex : ∃ m, Six m ∧ Lib.itoa m = s
  · unfold numF at h
    rw [dif_pos hex] at h
    have := hex.choose_spec
    rw [Option.some.inj h] at this
    exact this
  · unfold numF at h
    rw [dif_neg hex] at h; cases h
theorem numF_none {s : List UInt8} (h : ∀ n, Six n → Lib.itoa n ≠ s) : numF s = none := by
  unfold numF; rw [dif_neg (fun ⟨n, h1, h2⟩ => h n h1 h2)]
/-- Atoi of the text of such a number. -/
theorem atoiAll_six {n : Int} (h : Six n) : Lib.atoiAll (Lib.itoa n) = .ok n := by
  rw [Lib.atoiAll_short _ (by have := itoa_six h; omega), atoi_itoa]; rfl
/-- What l1Read asks of the digits. -/
theorem num_read {s : List UInt8} {n : Int} (h : Six n) (e : Lib.itoa n = s) :
    (n < 0 ∧ ∃ t, s = 45 :: t ∧ 1 ≤ t.length ∧ t.length ≤ 6 ∧ Lib.decFrom 0 t = some n.natAbs) ∨ (0 ≤ n ∧ s.head? ≠ some 45 ∧ 1 ≤ s.length ∧ s.length ≤ 6 ∧ Lib.decFrom 0 s = some n.natAbs) := by
  obtain ⟨h1, h2⟩ := h
  unfold Lib.itoa at e
  by_cases hn : n < 0
  · left
    rw [if_pos hn] at e
    have h3 := nDigits_six (n := n.natAbs) (by omega)
    have h4 := Lib.nDigits_pos n.natAbs
    exact ⟨hn, _, e.symm, by rw [Lib.decDigits_length]; omega, by rw [Lib.decDigits_length]; omega, decFrom_dec _⟩
  · right
    rw [if_neg hn] at e
    have h3 := nDigits_six (n := n.toNat) (by omega)
    have h4 := Lib.nDigits_pos n.toNat
    have h5 : n.natAbs = n.toNat := by omega
    subst e
    refine ⟨by omega, ?_, by rw [Lib.decDigits_length]; omega, by rw [Lib.decDigits_length]; omega, by rw [h5]; exact decFrom_dec _⟩
    intro hh
    have hm : (45 : UInt8) ∈ Lib.decDigits n.toNat := List.mem_of_mem_head? hh
    have := dec_digit _ _ hm
    have h6 : (45 : UInt8).toNat = 45 := rfl
    omega
end Go.Proofs.YtpjfidmapnnbkaaDoor

/- Rows of the office: the struct of five ints, its laws' helpers to, sz, eq; in-range tests; validity of one row. -/
namespace Go.Proofs.YtpjfidmapnnbkaaDoor
open Go.RowKit

def inR (n lo hi : Int) : Bool := decide (lo ≤ n) && decide (n ≤ hi)

theorem l1In_any (n lo hi : Int) (w : World) : Calls Tryd.prog 20 #[.int .i64 n, .int .i64 lo, .int .i64 hi] w fun e w' => e = .returned (.bool (inR n lo hi)) ∧ w = w' := by
  go_enter Tryd.func20, Tryd.ntmps20
  go_wp2
  all_goals (go_ret; exact ⟨by simp [inR, *]; try omega, rfl⟩)
theorem inRange_any (n lo hi : Int) (w : World) : Calls Tryd.prog 23 #[.int .i64 n, .int .i64 lo, .int .i64 hi] w fun e w' => e = .returned (.bool (inR n lo hi)) ∧ w = w' := by
  go_enter Tryd.func23, Tryd.ntmps23
  go_wp2
  all_goals (go_ret; exact ⟨by simp [inR, *]; try omega, rfl⟩)

structure Row where
  m : Int
  b : Int
  s : Int
  c : Int
  l : Int
  deriving DecidableEq, Inhabited
def Row.enc (r : Row) : List Value := [.int .i64 r.m, .int .i64 r.b, .int .i64 r.s, .int .i64 r.c, .int .i64 r.l]
abbrev Row.val (r : Row) : Value := .agg #[.int .i64 r.m, .int .i64 r.b, .int .i64 r.s, .int .i64 r.c, .int .i64 r.l]
theorem Row.enc_len (r : Row) : r.enc.length = 5 := rfl
def Row.ok (r : Row) : Bool := inR r.m 1 1200 && inR r.b 0 9999 && inR r.s 0 9999 && inR r.c (-1000000) 1000000 && inR r.l 0 999
theorem Row.of_ints_enc (ns : List Int) (h : ns.length = 5) : ∃ r : Row, ns.map (Value.int .i64) = r.enc := by
  match ns, h with
  | [m, b, s, c, l], _ => exact ⟨⟨m, b, s, c, l⟩, rfl⟩
theorem Row.of_ints (ns : List Int) (h : ns.length = 5) : ∃ r : Row, Value.agg (ns.map (Value.int .i64)).toArray = r.val := by
  match ns, h with
  | [m, b, s, c, l], _ => exact ⟨⟨m, b, s, c, l⟩, rfl⟩
/-- A row lies at a place, in every world since. -/
structure RowS (B : Nat) (w : World) (b o : Nat) (r : Row) : Prop where
  c0 : ∀ p : Since B w, p.val.cell? ⟨b, o, none⟩ = some (.int .i64 r.m)
  c1 : ∀ p : Since B w, p.val.cell? ⟨b, o + 1, none⟩ = some (.int .i64 r.b)
  c2 : ∀ p : Since B w, p.val.cell? ⟨b, o + 2, none⟩ = some (.int .i64 r.s)
  c3 : ∀ p : Since B w, p.val.cell? ⟨b, o + 3, none⟩ = some (.int .i64 r.c)
  c4 : ∀ p : Since B w, p.val.cell? ⟨b, o + 4, none⟩ = some (.int .i64 r.l)
theorem RowS.up {B B' : Nat} {w W : World} {b o : Nat} {r : Row} (h : RowS B w b o r) (hb : Below B w W) (hB : B ≤ B') : RowS B' W b o r :=
  ⟨fun p => h.c0 ⟨p.val, hb.trans (p.below.mono hB)⟩, fun p => h.c1 ⟨p.val, hb.trans (p.below.mono hB)⟩, fun p => h.c2 ⟨p.val, hb.trans (p.below.mono hB)⟩, fun p => h.c3 ⟨p.val, hb.trans (p.below.mono hB)⟩, fun p => h.c4 ⟨p.val, hb.trans (p.below.mono hB)⟩⟩
theorem RowS.of {W : World} {g : Nat} {t : TypeId} {r : Row} (h : Lies W g t r.enc) : RowS W.heap.size W g 0 r :=
  ⟨fun p => (p.cell h.lt).trans (h.cell 0), fun p => (p.cell h.lt).trans (h.cell 1), fun p => (p.cell h.lt).trans (h.cell 2), fun p => (p.cell h.lt).trans (h.cell 3), fun p => (p.cell h.lt).trans (h.cell 4)⟩
/-- A slice of rows. -/
abbrev RowsR (w : World) (B : Nat) (A : Option Addr) (l : List Row) : Prop := SlcR w B 5 A l.length (l.flatMap Row.enc)
theorem RowsR.row {w : World} {B : Nat} {A : Option Addr} {l : List Row} (h : RowsR w B A l) (hne : 0 < l.length) : ∃ b off, A = some ⟨b, off, none⟩ ∧ b < B ∧ ∀ i (hi : i < l.length), RowS B w b (off + i * 5) l[i] := by
  obtain ⟨b, off, e, hb, hc⟩ := h.at_ hne
  refine ⟨b, off, e, hb, fun i hi => ?_⟩
  have key : ∀ j, j < 5 → ∀ u, (l[i].enc)[j]? = some u → ∀ p : Since B w, p.val.cell? ⟨b, off + i * 5 + j, none⟩ = some u := fun j hj u hu p => by
    rw [p.cell hb, Nat.add_assoc]
    exact hc _ u (by rw [flat_at Row.enc 5 Row.enc_len l i hi j hj]; exact hu)
  exact ⟨key 0 (by omega) _ rfl, key 1 (by omega) _ rfl, key 2 (by omega) _ rfl, key 3 (by omega) _ rfl, key 4 (by omega) _ rfl⟩

theorem l31One_any (r : Row) (w : World) : Calls Tryd.prog 10 #[r.val] w fun e w' => e = .returned (.bool r.ok) ∧ Below w.heap.size w w' := by
  go_enter Tryd.func10, Tryd.ntmps10
  go_wp2_with (go_at_call 20; refine (l1In_any _ _ _ _).mono ?_; rintro e w' ⟨rfl, rfl⟩)
  all_goals (go_ret; exact ⟨by simp [Row.ok, *], (Below.refl _ _).alloc (Nat.le_refl _) _⟩)
theorem isOfficeRow_any (r : Row) (w : World) : Calls Tryd.prog 18 #[r.val] w fun e w' => e = .returned (.bool r.ok) ∧ Below w.heap.size w w' := by
  go_enter Tryd.func18, Tryd.ntmps18
  go_wp2_with (go_at_call 23; refine (inRange_any _ _ _ _).mono ?_; rintro e w' ⟨rfl, rfl⟩)
  all_goals (go_ret; exact ⟨by simp [Row.ok, *], (Below.refl _ _).alloc (Nat.le_refl _) _⟩)
theorem eqRow_any (r r' : Row) (w : World) : Calls Tryd.prog 6 #[r.val, r'.val] w fun e w' => e = .returned (.bool (decide (r = r'))) ∧ Below w.heap.size w w' := by
  obtain ⟨m, b, s, c, l⟩ := r
  obtain ⟨m', b', s', c', l'⟩ := r'
  go_enter Tryd.func6, Tryd.ntmps6
  go_wp2
  all_goals (go_ret; refine ⟨by simp_all, ?_⟩; go_grown)

def lessen (k : Int) (n : Nat) : Int := if (n : Int) ≤ k then k - n else -1
theorem infoRow : (Tryd.prog.info? 23).map (fun i => (i.zero, i.size, i.bytes)) = some (some (.agg #[.int .i64 0, .int .i64 0, .int .i64 0, .int .i64 0, .int .i64 0]), 5, 40) := by kernel_rfl

end Go.Proofs.YtpjfidmapnnbkaaDoor

/- Numbers of texts: the reference's l1Read, the program's ParseInt. -/
namespace Go.Proofs.YtpjfidmapnnbkaaDoor
open Go.RowKit

theorem inr_iff {n lo hi : Int} : inR n lo hi = true ↔ lo ≤ n ∧ n ≤ hi := by simp [inR]
/-- Every number of which a text may tell. -/
theorem l1Num_all (n : Int) (w : World) (h0 : -1000000000 ≤ n) (h1 : n ≤ 1000000000) :
    Calls Tryd.prog 21 #[.int .i64 n] w fun e w' => e = .returned (.string ⟨(Lib.itoa n).toArray⟩) ∧ Below w.heap.size w w' := by
  by_cases hn : n < 0
  · have HC : Hid (∀ W : World, Calls Tryd.prog 21 #[.int .i64 (-n)] W fun e w' => e = .returned (.string ⟨(Lib.itoa (-n)).toArray⟩) ∧ Below W.heap.size W w') := fun W => l1Num_any (-n) W (by omega) (by omega)
    have HI : Hid (Lib.itoa n = 45 :: Lib.itoa (-n)) := by
      unfold Lib.itoa Hid
      rw [if_pos hn, if_neg (by omega), show n.natAbs = (-n).toNat by omega]
    have hz := itoa_len (n := -n) (by omega) (by omega)
    obtain ⟨t, ht⟩ : ∃ t : ByteArray, t = ⟨(Lib.itoa (-n)).toArray⟩ := ⟨_, rfl⟩
    rw [← ht] at HC hz
    have HT := Lib.hid ht
    clear ht
    have hw : IntKind.i64.wrap (-n) = -n := IntWalk.i64_in _ (by omega)
    go_enter Tryd.func21, Tryd.ntmps21
    go_wp2_with fail
    refine (HC.out _).mono ?_
    rintro e w1 ⟨rfl, hb⟩
    go_wp2_with fail
    go_ret
    refine ⟨?_, hb⟩
    rw [HI.out]
    congr 1
    rw [HT.out, ByteArray.mk_append_mk]; rfl
  · exact l1Num_any n w (by omega) h1
/-- What reading a number gives. -/
def GivesNum (s : ByteArray) (w : World) (e : Ending) (w' : World) : Prop := e = .returned (.tuple #[.int .i64 ((numF (bl s)).getD 0), .bool (numF (bl s)).isSome]) ∧ Below w.heap.size w w'
end Go.Proofs.YtpjfidmapnnbkaaDoor
