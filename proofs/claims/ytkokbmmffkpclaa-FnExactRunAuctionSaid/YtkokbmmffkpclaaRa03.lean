/- Ra03: the texts LotIx LotD LotZ Cmp OwnR OwnRow LotOwn Facts FactsN FactsR, joined into one file. -/
import Derived.Laws.OwnMore
import Derived.WalkKit
import Derived.Orders
import Derived.Deep.Draws
import Derived.Test.YtkokbmmffkpclaaRa01
import Derived.Test.YtkokbmmffkpclaaRa02

set_option linter.unusedVariables false

/- The open lot, the lot of a number, the least bid, in the reference and in the program. (Printed by gen_lotix.py) -/
namespace Go.Proofs.Ytkokbmmffkpclaa
open Go.RowKit

abbrev isOpen : Lot → Bool := fun x => x.s == 1
def openIx (l : List Lot) : Int := idxFrom isOpen 0 l
abbrev hasId (id : Int) : Lot → Bool := fun x => x.i == id
def findIx (l : List Lot) (id : Int) : Int := idxFrom (hasId id) 0 l
/-- The least bid for a lot. -/
def leastV (x : Lot) : Int := if x.h = 0 then 1 else x.h + (if x.h.tdiv 20 < 1 then 1 else x.h.tdiv 20)
theorem leastV_zero {x : Lot} (h : (x.h == 0) = true) : leastV x = 1 := by unfold leastV; rw [if_pos (eq_of_beq h)]
theorem leastV_pos {x : Lot} (h : (x.h == 0) = false) : leastV x = x.h + (if x.h.tdiv 20 < 1 then 1 else x.h.tdiv 20) := by unfold leastV; rw [if_neg (ne_of_beq_false h)]

set_option maxHeartbeats 1000000 in
theorem l29Open_any (A : Option Addr) (c : Nat) (l : List Lot) (w : World) (h : LotsR w w.heap.size A l) :
    Calls Try.prog 31 #[.slice A l.length c] w fun e w' => e = .returned (.int .i64 (openIx l)) ∧ Below w.heap.size w w' := by
  have hl := h.big
  have hrd := h.el
  have HF : Hid (idxFrom isOpen 0 (l.drop 0) = openIx l) := rfl
  go_enter Try.func31, Try.ntmps31
  go_wp2
  go_loopw [3] (fun i wr => ∃ (k : Nat), k ≤ l.length ∧ i = .int .i64 k ∧ (∃ q : Since w.heap.size w, wr = q.val) ∧ Hid (idxFrom isOpen k (l.drop k) = openIx l)) (fun i _ => l.length - (intOf i).toNat)
  case atStart => exact ⟨0, Nat.zero_le _, rfl, ⟨Since.start _ _, rfl⟩, HF⟩
  case round =>
    obtain ⟨k, hk, rfl, ⟨q, rfl⟩, HR⟩ := hrel
    by_cases hlt : k < l.length
    · obtain ⟨b, off, rfl, hb, hcell⟩ := hrd (by omega)
      obtain ⟨c0, c1, c2, c3, c4⟩ := hcell k hlt
      have hy : Hid (isOpen l[k] = true → openIx l = (k : Int)) := fun hv => by rw [← HR.out, idx_yes hlt hv]
      have hn : Hid (isOpen l[k] = false → idxFrom isOpen (k + 1) (l.drop (k + 1)) = openIx l) := fun hv => by rw [← idx_no hlt hv]; exact HR.out
      obtain ⟨x, hxe⟩ : ∃ x, x = l[k] := ⟨_, rfl⟩
      rw [← hxe] at c0 c1 c2 c3 c4 hy hn
      clear hxe hcell hrd
      go_wp2
      · go_ret
        exact ⟨by rw [hy.out (by assumption)]; rfl, q.below⟩
      · go_roundw
        case rel => exact ⟨k + 1, by omega, by go_num, ⟨q, rfl⟩, hn.out (by assumption)⟩
        case measure => simp [intOf]; omega
    · clear hrd
      go_wp2
      go_ret
      refine ⟨?_, q.below⟩
      rw [← HR.out, List.drop_eq_nil_of_le (by omega)]; rfl

set_option maxHeartbeats 1000000 in
theorem l29Find_any (A : Option Addr) (c : Nat) (l : List Lot) (id : Int) (w : World) (h : LotsR w w.heap.size A l) :
    Calls Try.prog 29 #[.slice A l.length c, .int .i64 id] w fun e w' => e = .returned (.int .i64 (findIx l id)) ∧ Below w.heap.size w w' := by
  have hl := h.big
  have hrd := h.el
  have HF : Hid (idxFrom (hasId id) 0 (l.drop 0) = findIx l id) := rfl
  go_enter Try.func29, Try.ntmps29
  go_wp2
  go_loopw [5] (fun i wr => ∃ (k : Nat), k ≤ l.length ∧ i = .int .i64 k ∧ (∃ q : Since w.heap.size w, wr = q.val) ∧ Hid (idxFrom (hasId id) k (l.drop k) = findIx l id)) (fun i _ => l.length - (intOf i).toNat)
  case atStart => exact ⟨0, Nat.zero_le _, rfl, ⟨Since.start _ _, rfl⟩, HF⟩
  case round =>
    obtain ⟨k, hk, rfl, ⟨q, rfl⟩, HR⟩ := hrel
    by_cases hlt : k < l.length
    · obtain ⟨b, off, rfl, hb, hcell⟩ := hrd (by omega)
      obtain ⟨c0, c1, c2, c3, c4⟩ := hcell k hlt
      have hy : Hid ((hasId id) l[k] = true → findIx l id = (k : Int)) := fun hv => by rw [← HR.out, idx_yes hlt hv]
      have hn : Hid ((hasId id) l[k] = false → idxFrom (hasId id) (k + 1) (l.drop (k + 1)) = findIx l id) := fun hv => by rw [← idx_no hlt hv]; exact HR.out
      obtain ⟨x, hxe⟩ : ∃ x, x = l[k] := ⟨_, rfl⟩
      rw [← hxe] at c0 c1 c2 c3 c4 hy hn
      clear hxe hcell hrd
      go_wp2
      · go_ret
        exact ⟨by rw [hy.out (by assumption)]; rfl, q.below⟩
      · go_roundw
        case rel => exact ⟨k + 1, by omega, by go_num, ⟨q, rfl⟩, hn.out (by assumption)⟩
        case measure => simp [intOf]; omega
    · clear hrd
      go_wp2
      go_ret
      refine ⟨?_, q.below⟩
      rw [← HR.out, List.drop_eq_nil_of_le (by omega)]; rfl

/-- slices.IndexFunc over lots, whatever the function value. -/
theorem idxLots_any (f : Lot → Bool) (g : Nat) (lb : Array Value) (eg : ∀ args w, (callFunc g args).run Try.prog w = .ok (.enter g args) w) (A : Option Addr) (c : Nat) (l : List Lot) (w : World)
    (hf : ∀ (t : Lot) (p : Since w.heap.size w), Calls Try.prog g (#[t.val] ++ lb) p.val fun e w' => e = .returned (.bool (f t)) ∧ Below p.val.heap.size p.val w') (h : LotsR w w.heap.size A l) :
    Calls Try.prog 44 #[.slice A l.length c, .func (.func g) #[] lb] w fun e w' => e = .returned (.int .i64 (idxFrom f 0 l)) ∧ Below w.heap.size w w' := by
  have hl := h.big
  have hrd := h.el
  have HF : Hid (idxFrom f 0 (l.drop 0) = idxFrom f 0 l) := rfl
  have HC := Lib.hid hf; clear hf
  go_enter Try.func44, Try.ntmps44
  go_wp2
  go_loopw [8] (fun i wr => ∃ (k : Nat), k ≤ l.length ∧ i = .int .i64 k ∧ (∃ q : Since w.heap.size w, wr = q.val) ∧ Hid (idxFrom f k (l.drop k) = idxFrom f 0 l)) (fun i _ => l.length - (intOf i).toNat)
  case atStart => exact ⟨0, Nat.zero_le _, rfl, ⟨Since.start _ _, rfl⟩, HF⟩
  case round =>
    obtain ⟨k, hk, rfl, ⟨q, rfl⟩, HR⟩ := hrel
    by_cases hlt : k < l.length
    · obtain ⟨b, off, rfl, hb, hcell⟩ := hrd (by omega)
      obtain ⟨c0, c1, c2, c3, c4⟩ := hcell k hlt
      have hy := fun hv => idx_yes (f := f) hlt hv
      have hn := fun hv => idx_no (f := f) hlt hv
      obtain ⟨x, hxe⟩ : ∃ x, x = l[k] := ⟨_, rfl⟩
      rw [← hxe] at c0 c1 c2 c3 c4 hy hn
      clear hxe hcell hrd
      cases hv : f x
      · have HE : Hid (idxFrom f (k + 1) (l.drop (k + 1)) = idxFrom f 0 l) := by rw [← hn hv]; exact HR.out
        have hcx := fun p => HC.out x p
        rw [hv] at hcx
        clear hy hn hv
        go_wp2_with fail
        refine (calls_since (Nat.le_refl _) (hcx _)).mono ?_
        rintro e w1 ⟨rfl, q1, rfl⟩
        go_wp2
        go_roundw
        case rel => exact ⟨k + 1, by omega, by go_num, ⟨q1, rfl⟩, HE⟩
        case measure => simp [intOf]; omega
      · have HE : Hid ((k : Int) = idxFrom f 0 l) := by rw [← hy hv]; exact HR.out
        have hcx := fun p => HC.out x p
        rw [hv] at hcx
        clear hy hn hv
        go_wp2_with fail
        refine (calls_since (Nat.le_refl _) (hcx _)).mono ?_
        rintro e w1 ⟨rfl, q1, rfl⟩
        go_wp2
        go_ret
        exact ⟨by rw [← HE.out]; rfl, q1.below⟩
    · have HE : Hid (-1 = idxFrom f 0 l) := by
        have h1 := HR.out; rw [List.drop_eq_nil_of_le (by omega)] at h1; exact h1
      clear hrd
      go_wp2
      go_ret
      exact ⟨by rw [← HE.out]; rfl, q.below⟩

theorem isOpen_any (x : Lot) (w : World) : Calls Try.prog 45 (#[x.val] ++ #[]) w fun e w' => e = .returned (.bool (isOpen x)) ∧ Below w.heap.size w w' := by
  go_enter Try.func45, Try.ntmps45
  go_wp2
  go_ret
  refine ⟨rfl, ?_⟩
  go_grown
theorem openLot_any (A : Option Addr) (c : Nat) (l : List Lot) (w : World) (h : LotsR w w.heap.size A l) :
    Calls Try.prog 38 #[.slice A l.length c] w fun e w' => e = .returned (.int .i64 (openIx l)) ∧ Below w.heap.size w w' := by
  have eg : ∀ args w, (callFunc 45 args).run Try.prog w = .ok (.enter 45 args) w := Try.call45
  go_enter Try.func38, Try.ntmps38
  go_wp2_with fail
  refine (idxLots_any isOpen 45 #[] eg A c l w (fun t p => isOpen_any t p.val) h).mono ?_
  rintro e w1 ⟨rfl, hb⟩
  go_wp2
  go_ret
  exact ⟨rfl, hb⟩
theorem mostE_any (a b : Int) (w : World) : Calls Try.prog 48 #[.int .i64 a, .int .i64 b] w fun e w' => e = .returned (.int .i64 (if b < a then a else b)) ∧ Below w.heap.size w w' := by
  go_enter Try.func48, Try.ntmps48
  go_wp2
  all_goals
    go_ret
    refine ⟨?_, Below.refl _ _⟩
    rfl
set_option maxHeartbeats 1000000 in
theorem l29Least_any (x : Lot) (w : World) (h0 : 0 ≤ x.h) (h1 : x.h ≤ 99999) :
    Calls Try.prog 42 #[x.val] w fun e w' => e = .returned (.int .i64 (leastV x)) ∧ Below w.heap.size w w' := by
  have b0 := (Below.refl w.heap.size w).alloc (Nat.le_refl _) (.cells #[.int .i64 x.i, .int .i64 x.r, .int .i64 x.s, .int .i64 x.h, .int .i64 x.b] 44)
  have L0 := Lies.new w 44 #[.int .i64 x.i, .int .i64 x.r, .int .i64 x.s, .int .i64 x.h, .int .i64 x.b]
  have H0 : Hid ((x.h == 0) = true → leastV x = 1) := leastV_zero
  have H1 : Hid ((x.h == 0) = false → leastV x = x.h + (if x.h.tdiv 20 < 1 then 1 else x.h.tdiv 20)) := leastV_pos
  have hq0 : 0 ≤ x.h.tdiv 20 := Int.tdiv_nonneg h0 (by omega)
  have hq1 : x.h.tdiv 20 ≤ 99999 := by rw [Int.tdiv_eq_ediv_of_nonneg h0]; omega
  go_enter Try.func42, Try.ntmps42
  go_wp2_with fail
  · go_ret
    exact ⟨by rw [H0.out (by assumption)]; rfl, b0⟩
  · have b0s := b0.size
    generalize w.alloc (.cells #[.int .i64 x.i, .int .i64 x.r, .int .i64 x.s, .int .i64 x.h, .int .i64 x.b] 44) = W at b0 b0s L0 ⊢
    generalize hgb : w.heap.size = g at L0 ⊢
    rw [hgb] at b0
    have b0s : g ≤ W.heap.size := by rw [← hgb]; exact b0s
    obtain ⟨d0, d1, d2, d3, d4⟩ := LotS.of (r := x) L0
    obtain ⟨m, hm⟩ : ∃ m, m = (if x.h.tdiv 20 < 1 then 1 else x.h.tdiv 20) := ⟨_, rfl⟩
    have hm0 : 0 ≤ m ∧ m ≤ 99999 := by rw [hm]; split <;> omega
    rw [← hm] at H1
    have HM : ∀ W' : World, Calls Try.prog 48 #[.int .i64 1, .int .i64 (x.h.tdiv 20)] W' fun e w' => e = .returned (.int .i64 m) ∧ Below W'.heap.size W' w' := fun W' => by rw [hm]; exact mostE_any 1 (x.h.tdiv 20) W'
    clear hm
    refine wp_region_since0 (by kernel_rfl) (by kernel_rfl) ?_
    repeat (any_goals (first | go_big_quiet_step ((go_at_call 48; refine calls_since (Nat.le_refl _) (HM _))) | (refine wpQuiet_step (fun K hK => ?_); go_simp; split <;> (refine hK _ ?_; clear hK K))))
    all_goals (refine wpQuiet_nil ?_; rintro _ ⟨q1, rfl⟩)
    go_wp2
    go_ret
    exact ⟨by rw [H1.out (by assumption)]; rfl, by rw [hgb]; exact b0.trans (q1.below.mono b0s)⟩
set_option maxHeartbeats 1000000 in
theorem leastBid_any (x : Lot) (w : World) (h0 : 0 ≤ x.h) (h1 : x.h ≤ 99999) :
    Calls Try.prog 41 #[x.val] w fun e w' => e = .returned (.int .i64 (leastV x)) ∧ Below w.heap.size w w' := by
  have b0 := (Below.refl w.heap.size w).alloc (Nat.le_refl _) (.cells #[.int .i64 x.i, .int .i64 x.r, .int .i64 x.s, .int .i64 x.h, .int .i64 x.b] 44)
  have L0 := Lies.new w 44 #[.int .i64 x.i, .int .i64 x.r, .int .i64 x.s, .int .i64 x.h, .int .i64 x.b]
  have H0 : Hid ((x.h == 0) = true → leastV x = 1) := leastV_zero
  have H1 : Hid ((x.h == 0) = false → leastV x = x.h + (if x.h.tdiv 20 < 1 then 1 else x.h.tdiv 20)) := leastV_pos
  have hq0 : 0 ≤ x.h.tdiv 20 := Int.tdiv_nonneg h0 (by omega)
  have hq1 : x.h.tdiv 20 ≤ 99999 := by rw [Int.tdiv_eq_ediv_of_nonneg h0]; omega
  go_enter Try.func41, Try.ntmps41
  go_wp2_with fail
  · go_ret
    exact ⟨by rw [H0.out (by assumption)]; rfl, b0⟩
  all_goals
    go_ret
    refine ⟨?_, b0⟩
    first
      | (rw [H1.out (by assumption), show (if x.h.tdiv 20 < 1 then 1 else x.h.tdiv 20) = 1 from by split <;> omega]; rfl)
      | (rw [H1.out (by assumption), show (if x.h.tdiv 20 < 1 then 1 else x.h.tdiv 20) = x.h.tdiv 20 from by split <;> omega]; rfl)
end Go.Proofs.Ytkokbmmffkpclaa

/- A step of an auction (no program in sight). -/
namespace Go.Proofs.Ytkokbmmffkpclaa
open Go.RowKit

def Lot.op (x : Lot) : Nat := if x.s = 1 then 1 else 0
def posL (l : List Lot) (id : Int) : Nat := (l.takeWhile fun t => decide (t.i < id)).length
def insL (l : List Lot) (id v : Int) : List Lot := l.take (posL l id) ++ ⟨id, v, 0, 0, 0⟩ :: l.drop (posL l id)
def delL (l : List Lot) (j : Nat) : List Lot := l.take j ++ l.drop (j + 1)
def atL (l : List Lot) (i : Int) : Lot := l.getD i.toNat default
def bidL (x : Lot) (s : ASt) : Lot := ⟨x.i, x.r, x.s, s.v, s.b⟩
def knockL (x : Lot) : Lot := ⟨x.i, x.r, if 1 ≤ x.h ∧ x.r ≤ x.h then 2 else 3, x.h, x.b⟩
def openL (x : Lot) : Lot := ⟨x.i, x.r, 1, x.h, x.b⟩
def againL (x : Lot) : Lot := ⟨x.i, x.r, 0, 0, 0⟩
/-- A valid step of a valid auction. -/
def stepL (l : List Lot) (s : ASt) : Option (List Lot) :=
  if s.k = 4 ∨ s.k = 5 then
    (if openIx l < 0 then none
     else if s.k = 4 then (if leastV (atL l (openIx l)) ≤ s.v ∧ s.b ≠ (atL l (openIx l)).b then some (l.set (openIx l).toNat (bidL (atL l (openIx l)) s)) else none)
     else some (l.set (openIx l).toNat (knockL (atL l (openIx l)))))
  else if s.k = 1 then (if 0 ≤ findIx l s.i then none else if goodLots (insL l s.i s.v) then some (insL l s.i s.v) else none)
  else if findIx l s.i < 0 then none
  else if s.k = 2 then (if (atL l (findIx l s.i)).s = 0 then some (delL l (findIx l s.i).toNat) else none)
  else if s.k = 3 then (if (atL l (findIx l s.i)).s = 0 ∧ openIx l < 0 then some (l.set (findIx l s.i).toNat (openL (atL l (findIx l s.i)))) else none)
  else (if (atL l (findIx l s.i)).s = 3 then some (l.set (findIx l s.i).toNat (againL (atL l (findIx l s.i)))) else none)
def keysL (l : List Lot) : List Int := l.map (·.i)
theorem lotsFrom_iff : ∀ (l : List Lot) (n : Nat) (p : Int), lotsFrom n p l = true ↔ (∀ x ∈ l, x.ok = true) ∧ (n = 0 ∨ ∀ k ∈ keysL l, p < k) ∧ (keysL l).Pairwise (· < ·)
  | [], n, p => by simp [lotsFrom, keysL]
  | r :: l, n, p => by
    simp only [lotsFrom, Bool.and_eq_true, Bool.or_eq_true, decide_eq_true_eq, lotsFrom_iff l, keysL, List.map_cons, List.pairwise_cons, List.mem_cons, forall_eq_or_imp]
    constructor
    · rintro ⟨⟨h1, h2⟩, h3, h4, h5⟩
      have h4' : ∀ k ∈ List.map (fun x => x.i) l, r.i < k := by rcases h4 with h4 | h4; omega; exact h4
      refine ⟨⟨h1, h3⟩, ?_, h4', h5⟩
      rcases h2 with h2 | h2
      · exact .inl h2
      · exact .inr ⟨h2, fun k hk => by have := h4' k hk; omega⟩
    · rintro ⟨⟨h1, h3⟩, h2, h4, h5⟩
      exact ⟨⟨h1, by rcases h2 with h2 | h2; exact .inl h2; exact .inr h2.1⟩, h3, .inr h4, h5⟩
structure GoodL (l : List Lot) : Prop where
  all : ∀ x ∈ l, x.ok = true
  asc : (keysL l).Pairwise (· < ·)
  len : l.length ≤ 8
  ops : opens l ≤ 1
theorem goodL_iff {l : List Lot} : goodLots l = true ↔ GoodL l := by
  unfold goodLots
  simp only [Bool.and_eq_true, decide_eq_true_eq, lotsFrom_iff]
  constructor
  · rintro ⟨⟨⟨h1, _, h2⟩, h3⟩, h4⟩; exact ⟨h1, h2, h3, h4⟩
  · rintro ⟨h1, h2, h3, h4⟩; exact ⟨⟨⟨h1, .inl trivial, h2⟩, h3⟩, h4⟩
theorem opens_cons (r : Lot) (l : List Lot) : opens (r :: l) = r.op + opens l := rfl
theorem opens_app (a b : List Lot) : opens (a ++ b) = opens a + opens b := by
  induction a with
  | nil => simp [opens]
  | cons r a ih => rw [List.cons_append, opens_cons, opens_cons, ih]; omega
theorem opens_set : ∀ {l : List Lot} {j : Nat} (h : j < l.length) (y : Lot), opens (l.set j y) + l[j].op = opens l + y.op
  | r :: l, 0, h, y => by rw [List.set_cons_zero, opens_cons, opens_cons]; simp only [List.getElem_cons_zero]; omega
  | r :: l, j + 1, h, y => by
    have := opens_set (l := l) (j := j) (by simpa using h) y
    rw [List.set_cons_succ, opens_cons, opens_cons]; simp only [List.getElem_cons_succ]; omega
theorem keys_set {l : List Lot} {j : Nat} (h : j < l.length) {y : Lot} (hy : y.i = l[j].i) : keysL (l.set j y) = keysL l := by
  unfold keysL
  rw [List.map_set, hy]
  apply List.ext_getElem (by simp)
  intro n h1 h2
  rw [List.getElem_set]
  split
  · rename_i e; subst e; simp
  · rfl
theorem GoodL.set {l : List Lot} (G : GoodL l) {j : Nat} (h : j < l.length) {y : Lot} (hk : y.i = l[j].i) (hok : y.ok = true) (ho : opens l + y.op ≤ 1 + l[j].op) : GoodL (l.set j y) :=
  ⟨fun x hx => by rcases List.mem_or_eq_of_mem_set hx with h1 | rfl; exact G.all x h1; exact hok, by rw [keys_set h hk]; exact G.asc, by rw [List.length_set]; exact G.len, by have := opens_set h y; omega⟩
theorem GoodL.del {l : List Lot} (G : GoodL l) (j : Nat) : GoodL (delL l j) := by
  have hs : List.Sublist (delL l j) l := by
    unfold delL
    have := List.Sublist.append (List.Sublist.refl (l.take j)) ((List.drop_sublist_drop_left l (by omega : j ≤ j + 1)))
    rwa [List.take_append_drop] at this
  refine ⟨fun x hx => G.all x (hs.subset hx), G.asc.sublist (hs.map _), Nat.le_trans hs.length_le G.len, ?_⟩
  have h1 : ∀ {a b : List Lot}, List.Sublist a b → opens a ≤ opens b := by
    intro a b h
    induction h with
    | slnil => exact Nat.le_refl _
    | cons r _ ih => rw [opens_cons]; omega
    | cons_cons r _ ih => rw [opens_cons, opens_cons]; omega
  exact Nat.le_trans (h1 hs) G.ops
theorem idx_at {f : Lot → Bool} {l : List Lot} (h : ¬ idxFrom f 0 l < 0) : ∃ hj : (idxFrom f 0 l).toNat < l.length, f (l[(idxFrom f 0 l).toNat]'hj) = true ∧ idxFrom f 0 l = ((idxFrom f 0 l).toNat : Int) := by
  have key : ∀ (m : List Lot) (k : Nat), ¬ idxFrom f k m < 0 → ∃ i : Nat, idxFrom f k m = ((k + i : Nat) : Int) ∧ ∃ hi : i < m.length, f m[i] = true := by
    intro m
    induction m with
    | nil => intro k hk; simp [idxFrom] at hk
    | cons r m ih =>
      intro k hk
      unfold idxFrom at hk ⊢
      split at hk
      · rename_i hr; exact ⟨0, by rw [if_pos hr]; rfl, by simp, by simpa using hr⟩
      · rename_i hr
        obtain ⟨i, h1, h2, h3⟩ := ih (k + 1) hk
        exact ⟨i + 1, by rw [if_neg hr, h1]; congr 1; omega, by simp; omega, by simpa using h3⟩
  obtain ⟨i, h1, h2, h3⟩ := key l 0 h
  have e : (idxFrom f 0 l).toNat = i := by omega
  simp only [e]
  exact ⟨h2, h3, by omega⟩
theorem idx_neg {f : Lot → Bool} : ∀ {l : List Lot} {k : Nat}, idxFrom f k l < 0 → ∀ x ∈ l, f x = false
  | [], _, _, x, hx => by cases hx
  | r :: l, k, h, x, hx => by
    unfold idxFrom at h
    split at h
    · omega
    · rename_i hr
      rcases List.mem_cons.1 hx with rfl | hx
      · simpa using hr
      · exact idx_neg h x hx
theorem open_none {l : List Lot} : openIx l < 0 ↔ opens l = 0 := by
  constructor
  · intro h
    have h1 := idx_neg h
    clear h
    induction l with
    | nil => rfl
    | cons r l ih =>
      have h2 := h1 r List.mem_cons_self
      have h3 := ih fun x hx => h1 x (List.mem_cons_of_mem _ hx)
      rw [opens_cons, h3]
      unfold Lot.op
      rw [if_neg (ne_of_beq_false h2)]
  · intro h
    rcases Decidable.em (openIx l < 0) with h1 | h1
    · exact h1
    · obtain ⟨hj, h2, _⟩ := idx_at h1
      have h3 := opens_set hj ⟨0, 0, 0, 0, 0⟩
      have h4 : (l[(idxFrom isOpen 0 l).toNat]'hj).op = 1 := by unfold Lot.op; rw [if_pos (eq_of_beq h2)]
      have h5 : (⟨0, 0, 0, 0, 0⟩ : Lot).op = 0 := rfl
      omega
theorem atL_eq {l : List Lot} {i : Int} {j : Nat} (e : i = (j : Int)) (h : j < l.length) : atL l i = l[j] := by
  unfold atL
  rw [show i.toNat = j by omega, List.getD_eq_getElem?_getD, List.getElem?_eq_getElem h]; rfl
theorem lot_ok_iff {x : Lot} : x.ok = true ↔ (inR x.i 1 99 = true ∧ inR x.r 0 99999 = true ∧ inR x.h 0 99999 = true ∧ inR x.b 0 999 = true ∧ ((x.h == 0) == (x.b == 0)) = true) ∧ x.stOk = true := by
  constructor
  · intro h
    have key : ∀ b : Bool, (b = false → x.ok = false) → b = true := fun b hb => by
      cases b
      · rw [hb rfl] at h; cases h
      · rfl
    have h1 := key _ fun e => lot_no (.inl e)
    have h2 := key _ fun e => lot_no (.inr (.inl e))
    have h3 := key _ fun e => lot_no (.inr (.inr (.inl e)))
    have h4 := key _ fun e => lot_no (.inr (.inr (.inr (.inl e))))
    have h5 := key _ fun e => lot_no (.inr (.inr (.inr (.inr e))))
    exact ⟨⟨h1, h2, h3, h4, h5⟩, by rw [← lot_yes h1 h2 h3 h4 h5]; exact h⟩
  · rintro ⟨⟨h1, h2, h3, h4, h5⟩, h6⟩
    rw [lot_yes h1 h2 h3 h4 h5]; exact h6
theorem inR_mk {n lo hi : Int} (h : lo ≤ n ∧ n ≤ hi) : inR n lo hi = true := inR_iff.2 h
theorem bid_ok {x : Lot} {s : ASt} (h : x.ok = true) (hx : x.s = 1) (hk : s.k = 4) (hs : s.ok = true) : (bidL x s).ok = true := by
  obtain ⟨⟨h1, h2, h3, h4, h5⟩, h6⟩ := lot_ok_iff.1 h
  unfold ASt.ok at hs
  rw [hk] at hs
  simp only [show ¬ (4 : Int) = 1 by omega, show ¬ ((4 : Int) = 2 ∨ (4 : Int) = 3 ∨ (4 : Int) = 6) by omega, if_true, if_false, Bool.and_eq_true] at hs
  have hb := inR_iff.1 hs.1.2
  have hv := inR_iff.1 hs.2
  refine lot_ok_iff.2 ⟨⟨h1, h2, inR_mk ⟨by show 0 ≤ s.v; omega, hv.2⟩, inR_mk ⟨by show 0 ≤ s.b; omega, hb.2⟩, ?_⟩, ?_⟩
  · show ((s.v == 0) == (s.b == 0)) = true
    rw [beq_false_of_ne (show s.v ≠ 0 by omega), beq_false_of_ne (show s.b ≠ 0 by omega)]; rfl
  · unfold Lot.stOk bidL; simp [hx]
theorem knock_ok {x : Lot} (h : x.ok = true) : (knockL x).ok = true := by
  obtain ⟨⟨h1, h2, h3, h4, h5⟩, h6⟩ := lot_ok_iff.1 h
  refine lot_ok_iff.2 ⟨⟨h1, h2, h3, h4, h5⟩, ?_⟩
  have hb := inR_iff.1 h3
  unfold Lot.stOk knockL
  by_cases hc : 1 ≤ x.h ∧ x.r ≤ x.h
  · simp [hc]
  · simp [hc]; omega
theorem open_ok {x : Lot} (h : x.ok = true) : (openL x).ok = true := by
  obtain ⟨⟨h1, h2, h3, h4, h5⟩, h6⟩ := lot_ok_iff.1 h
  exact lot_ok_iff.2 ⟨⟨h1, h2, h3, h4, h5⟩, by unfold Lot.stOk openL; simp⟩
theorem again_ok {x : Lot} (h : x.ok = true) : (againL x).ok = true := by
  obtain ⟨⟨h1, h2, h3, h4, h5⟩, h6⟩ := lot_ok_iff.1 h
  exact lot_ok_iff.2 ⟨⟨h1, h2, rfl, rfl, rfl⟩, by unfold Lot.stOk againL; simp⟩
theorem op_one {x : Lot} (h : x.s = 1) : x.op = 1 := if_pos h
theorem op_zero {x : Lot} (h : x.s ≠ 1) : x.op = 0 := if_neg h
theorem op_le (x : Lot) : x.op ≤ 1 := by unfold Lot.op; split <;> omega
theorem good_bid {l : List Lot} (G : GoodL l) {j : Nat} (h : j < l.length) {s : ASt} (hx : l[j].s = 1) (hk : s.k = 4) (hs : s.ok = true) : goodLots (l.set j (bidL l[j] s)) = true :=
  goodL_iff.2 (G.set h rfl (bid_ok (G.all _ (List.getElem_mem h)) hx hk hs) (by have := G.ops; have h1 := op_one hx; have h2 : (bidL l[j] s).op ≤ 1 := op_le _; omega))
theorem good_knock {l : List Lot} (G : GoodL l) {j : Nat} (h : j < l.length) (hx : l[j].s = 1) : goodLots (l.set j (knockL l[j])) = true :=
  goodL_iff.2 (G.set h rfl (knock_ok (G.all _ (List.getElem_mem h))) (by have := G.ops; have h1 := op_one hx; have h2 := op_le (knockL l[j]); omega))
theorem good_del {l : List Lot} (G : GoodL l) (j : Nat) : goodLots (delL l j) = true := goodL_iff.2 (G.del j)
theorem good_again {l : List Lot} (G : GoodL l) {j : Nat} (h : j < l.length) : goodLots (l.set j (againL l[j])) = true :=
  goodL_iff.2 (G.set h rfl (again_ok (G.all _ (List.getElem_mem h))) (by have := G.ops; have h2 : (againL l[j]).op = 0 := rfl; omega))
theorem good_open {l : List Lot} (G : GoodL l) {j : Nat} (h : j < l.length) (hx : l[j].s = 0) : goodLots (l.set j (openL l[j])) = decide (openIx l < 0) := by
  have h0 : l[j].op = 0 := op_zero (by omega)
  have h1 : (openL l[j]).op = 1 := rfl
  by_cases ho : openIx l < 0
  · rw [decide_eq_true ho]
    have := open_none.1 ho
    exact goodL_iff.2 (G.set h rfl (open_ok (G.all _ (List.getElem_mem h))) (by omega))
  · rw [decide_eq_false ho]
    have hz : opens l ≠ 0 := fun e => ho (open_none.2 e)
    have := opens_set h (openL l[j])
    cases hg : goodLots (l.set j (openL l[j])) with
    | false => rfl
    | true => have := (goodL_iff.1 hg).ops; omega
/-- A good list's number stands where the smaller ones end. -/
theorem find_pos {l : List Lot} (G : GoodL l) (id : Int) : (0 ≤ findIx l id → findIx l id = (posL l id : Int)) ∧ posL l id ≤ l.length ∧ (∀ i (h : i < l.length), i < posL l id → l[i].i < id) ∧ (∀ i (h : i < l.length), posL l id ≤ i → ¬ l[i].i < id) ∧ (0 ≤ findIx l id ↔ ∃ h : posL l id < l.length, l[posL l id].i = id) := by
  have hle : posL l id ≤ l.length := (List.takeWhile_sublist _).length_le
  have hlt : ∀ (m : List Lot) (i : Nat) (h : i < m.length), i < posL m id → m[i].i < id := by
    intro m
    induction m with
    | nil => intro i h; simp at h
    | cons r m ih =>
      intro i h hi
      unfold posL at hi
      rw [List.takeWhile_cons] at hi
      split at hi
      · rename_i hr
        cases i with
        | zero => exact of_decide_eq_true hr
        | succ i => exact ih i (by simpa using h) (by unfold posL; simpa using hi)
      · simp at hi
  have hge0 : ∀ (m : List Lot) (h : posL m id < m.length), ¬ m[posL m id].i < id := by
    intro m
    induction m with
    | nil => intro h; simp at h
    | cons r m ih =>
      intro h
      by_cases hr : r.i < id
      · have e : posL (r :: m) id = posL m id + 1 := by unfold posL; rw [List.takeWhile_cons, if_pos (by simpa using hr)]; rfl
        simp only [e, List.getElem_cons_succ]
        exact ih (by rw [e] at h; simpa using h)
      · have e : posL (r :: m) id = 0 := by unfold posL; rw [List.takeWhile_cons, if_neg (by simpa using hr)]; rfl
        simp only [e, List.getElem_cons_zero]
        exact hr
  have asc : ∀ i j (hi : i < l.length) (hj : j < l.length), i < j → l[i].i < l[j].i := fun i j hi hj hij => by
    have := List.pairwise_iff_getElem.1 G.asc i j (by simpa [keysL] using hi) (by simpa [keysL] using hj) hij
    simpa [keysL] using this
  have hge : ∀ i (h : i < l.length), posL l id ≤ i → ¬ l[i].i < id := fun i h hi hlt' => by
    have h1 := hge0 l (by omega)
    rcases Nat.eq_or_lt_of_le hi with e | e
    · subst e; exact h1 hlt'
    · have := asc _ _ (by omega) h e; omega
  have hat : 0 ≤ findIx l id → ∃ h : posL l id < l.length, l[posL l id].i = id ∧ findIx l id = (posL l id : Int) := fun h => by
    obtain ⟨hj, h2, h3⟩ := idx_at (f := hasId id) (l := l) (by show ¬ findIx l id < 0; omega)
    have h4 : (l[(idxFrom (hasId id) 0 l).toNat]'hj).i = id := eq_of_beq h2
    have h5 : posL l id ≤ (idxFrom (hasId id) 0 l).toNat := by
      rcases Nat.lt_or_ge (idxFrom (hasId id) 0 l).toNat (posL l id) with h | h
      · have := hlt l _ hj h; omega
      · exact h
    have h6 : posL l id < l.length := by omega
    rcases Nat.eq_or_lt_of_le h5 with e | e
    · refine ⟨h6, ?_, ?_⟩
      · simp only [e]; exact h4
      · show idxFrom (hasId id) 0 l = _; omega
    · exact absurd (asc _ _ h6 hj e) (by have := hge _ h6 (Nat.le_refl _); omega)
  refine ⟨fun h => (hat h).2.2, hle, fun i h hi => hlt l i h hi, hge, fun h => ⟨(hat h).1, (hat h).2.1⟩, fun ⟨h, he⟩ => ?_⟩
  rcases Decidable.em (findIx l id < 0) with hn | hn
  · have := idx_neg hn _ (List.getElem_mem h)
    exact absurd he (ne_of_beq_false this)
  · omega
end Go.Proofs.Ytkokbmmffkpclaa

/- A step of an auction, kind by kind (no program in sight). -/
namespace Go.Proofs.Ytkokbmmffkpclaa
open Go.RowKit

theorem step4_none {l : List Lot} {i b v : Int} (h : openIx l < 0) : stepL l ⟨4, i, b, v⟩ = none := by
  unfold stepL; rw [if_pos (.inl rfl), if_pos h]
theorem step5_none {l : List Lot} {i b v : Int} (h : openIx l < 0) : stepL l ⟨5, i, b, v⟩ = none := by
  unfold stepL; rw [if_pos (.inr rfl), if_pos h]
theorem step4_bid {l : List Lot} {i b v : Int} {j : Nat} (ho : openIx l = j) (hj : j < l.length) : stepL l ⟨4, i, b, v⟩ = (if leastV l[j] ≤ v ∧ b ≠ l[j].b then some (l.set j (bidL l[j] ⟨4, i, b, v⟩)) else none) := by
  unfold stepL
  rw [if_pos (.inl rfl), if_neg (by omega), if_pos rfl, ho, atL_eq rfl hj]
  rfl
theorem step5_knock {l : List Lot} {i b v : Int} {j : Nat} (ho : openIx l = j) (hj : j < l.length) : stepL l ⟨5, i, b, v⟩ = some (l.set j (knockL l[j])) := by
  unfold stepL
  rw [if_pos (.inr rfl), if_neg (by omega), if_neg (show ¬ (5 : Int) = 4 by omega), ho, atL_eq rfl hj]
  rfl
theorem step1_none {l : List Lot} {i b v : Int} (h : 0 ≤ findIx l i) : stepL l ⟨1, i, b, v⟩ = none := by
  unfold stepL; rw [if_neg (by show ¬ ((1 : Int) = 4 ∨ (1 : Int) = 5); omega), if_pos rfl, if_pos h]
theorem step1_add {l : List Lot} {i b v : Int} (h : findIx l i < 0) : stepL l ⟨1, i, b, v⟩ = (if goodLots (insL l i v) then some (insL l i v) else none) := by
  unfold stepL; rw [if_neg (by show ¬ ((1 : Int) = 4 ∨ (1 : Int) = 5); omega), if_pos rfl, if_neg (by show ¬ 0 ≤ findIx l i; omega)]
theorem stepF_none {l : List Lot} {k i b v : Int} (hk : k = 2 ∨ k = 3 ∨ k = 6) (h : findIx l i < 0) : stepL l ⟨k, i, b, v⟩ = none := by
  unfold stepL; rw [if_neg (by show ¬ (k = 4 ∨ k = 5); omega), if_neg (by show ¬ k = 1; omega), if_pos h]
theorem step2_drop {l : List Lot} {i b v : Int} {j : Nat} (hf : findIx l i = j) (hj : j < l.length) : stepL l ⟨2, i, b, v⟩ = (if l[j].s = 0 then some (delL l j) else none) := by
  unfold stepL
  rw [if_neg (by show ¬ ((2 : Int) = 4 ∨ (2 : Int) = 5); omega), if_neg (by show ¬ (2 : Int) = 1; omega), if_neg (by show ¬ findIx l i < 0; omega), if_pos rfl]
  simp only [hf, atL_eq rfl hj]
  rfl
theorem step3_open {l : List Lot} {i b v : Int} {j : Nat} (hf : findIx l i = j) (hj : j < l.length) : stepL l ⟨3, i, b, v⟩ = (if l[j].s = 0 ∧ openIx l < 0 then some (l.set j (openL l[j])) else none) := by
  unfold stepL
  rw [if_neg (by show ¬ ((3 : Int) = 4 ∨ (3 : Int) = 5); omega), if_neg (by show ¬ (3 : Int) = 1; omega), if_neg (by show ¬ findIx l i < 0; omega), if_neg (by show ¬ (3 : Int) = 2; omega), if_pos rfl]
  simp only [hf, atL_eq rfl hj]
  rfl
theorem step6_again {l : List Lot} {i b v : Int} {j : Nat} (hf : findIx l i = j) (hj : j < l.length) : stepL l ⟨6, i, b, v⟩ = (if l[j].s = 3 then some (l.set j (againL l[j])) else none) := by
  unfold stepL
  rw [if_neg (by show ¬ ((6 : Int) = 4 ∨ (6 : Int) = 5); omega), if_neg (by show ¬ (6 : Int) = 1; omega), if_neg (by show ¬ findIx l i < 0; omega), if_neg (by show ¬ (6 : Int) = 2; omega), if_neg (by show ¬ (6 : Int) = 3; omega)]
  simp only [hf, atL_eq rfl hj]
  rfl
theorem open_at {l : List Lot} (h : ¬ openIx l < 0) : ∃ j : Nat, openIx l = j ∧ j < l.length := by
  obtain ⟨hj, _, h3⟩ := idx_at (f := isOpen) h
  exact ⟨_, h3, hj⟩
theorem find_at {l : List Lot} {i : Int} (h : ¬ findIx l i < 0) : ∃ j : Nat, findIx l i = j ∧ j < l.length := by
  obtain ⟨hj, _, h3⟩ := idx_at (f := hasId i) h
  exact ⟨_, h3, hj⟩
theorem kinds {s : ASt} (h : s.ok = true) : s.k = 1 ∨ s.k = 2 ∨ s.k = 3 ∨ s.k = 4 ∨ s.k = 5 ∨ s.k = 6 := by
  unfold ASt.ok at h
  split at h
  · exact .inl (by assumption)
  · split at h
    · rename_i h2; rcases h2 with h2 | h2 | h2 <;> omega
    · split at h
      · omega
      · split at h
        · omega
        · cases h
theorem stepL_good {l : List Lot} {s : ASt} {r : List Lot} (G : GoodL l) (hs : s.ok = true) (h : stepL l s = some r) : GoodL r := by
  obtain ⟨k, i, b, v⟩ := s
  have hk : k = 1 ∨ k = 2 ∨ k = 3 ∨ k = 4 ∨ k = 5 ∨ k = 6 := kinds hs
  rcases hk with rfl | rfl | rfl | rfl | rfl | rfl
  · by_cases hf : findIx l i < 0
    · rw [step1_add hf] at h
      split at h
      · rename_i hg; injection h with h; subst h; exact goodL_iff.1 hg
      · cases h
    · rw [step1_none (by omega)] at h; cases h
  · by_cases hf : findIx l i < 0
    · rw [stepF_none (by omega) hf] at h; cases h
    · obtain ⟨j, hf', hj⟩ := find_at hf
      rw [step2_drop hf' hj] at h
      split at h
      · injection h with h; subst h; exact goodL_iff.1 (good_del G j)
      · cases h
  · by_cases hf : findIx l i < 0
    · rw [stepF_none (by omega) hf] at h; cases h
    · obtain ⟨j, hf', hj⟩ := find_at hf
      rw [step3_open hf' hj] at h
      split at h
      · rename_i hc; injection h with h; subst h; exact goodL_iff.1 (by rw [good_open G hj hc.1]; exact decide_eq_true hc.2)
      · cases h
  · by_cases ho : openIx l < 0
    · rw [step4_none ho] at h; cases h
    · obtain ⟨j, ho', hj⟩ := open_at ho
      rw [step4_bid ho' hj] at h
      split at h
      · injection h with h; subst h
        refine goodL_iff.1 (good_bid G hj ?_ rfl hs)
        obtain ⟨h1, h2, h3⟩ := idx_at (f := isOpen) (l := l) ho
        have e : (idxFrom isOpen 0 l).toNat = j := by have : openIx l = idxFrom isOpen 0 l := rfl; omega
        simp only [e] at h2
        exact eq_of_beq h2
      · cases h
  · by_cases ho : openIx l < 0
    · rw [step5_none ho] at h; cases h
    · obtain ⟨j, ho', hj⟩ := open_at ho
      rw [step5_knock ho' hj] at h
      injection h with h; subst h
      refine goodL_iff.1 (good_knock G hj ?_)
      obtain ⟨h1, h2, h3⟩ := idx_at (f := isOpen) (l := l) ho
      have e : (idxFrom isOpen 0 l).toNat = j := by have : openIx l = idxFrom isOpen 0 l := rfl; omega
      simp only [e] at h2
      exact eq_of_beq h2
  · by_cases hf : findIx l i < 0
    · rw [stepF_none (by omega) hf] at h; cases h
    · obtain ⟨j, hf', hj⟩ := find_at hf
      rw [step6_again hf' hj] at h
      split at h
      · injection h with h; subst h; exact goodL_iff.1 (good_again G hj)
      · cases h
/-- The steps of an auction, those left out that are not possible or not valid. -/
def runL : List ASt → List Lot → Int → List Lot × Int
  | [], l, n => (l, n)
  | s :: t, l, n => if s.ok then (match stepL l s with | some r => runL t r (n + 1) | none => runL t l n) else runL t l n
end Go.Proofs.Ytkokbmmffkpclaa

/- cmp.Compare of numbers. -/
namespace Go.Proofs.Ytkokbmmffkpclaa
open Go.RowKit

def cmpI (a b : Int) : Int := if a < b then -1 else if b < a then 1 else 0
theorem isNaN_any (a : Int) (w : World) : Calls Try.prog 43 #[.int .i64 a] w fun e w' => e = .returned (.bool false) ∧ w = w' := by
  have hv : (a != a) = false := by simp
  go_enter Try.func43, Try.ntmps43
  go_wp2
  go_ret
  exact ⟨rfl, rfl⟩
theorem compare_any (a b : Int) (w : World) : Calls Try.prog 37 #[.int .i64 a, .int .i64 b] w fun e w' => e = .returned (.int .i64 (cmpI a b)) ∧ w = w' := by
  have ha := fun W => isNaN_any a W
  have hb := fun W => isNaN_any b W
  by_cases h1 : a < b
  · have HE : Hid (cmpI a b = -1) := by unfold Hid cmpI; rw [if_pos h1]
    go_enter Try.func37, Try.ntmps37
    go_wp2_with fail
    refine (ha _).mono ?_
    rintro e w' ⟨rfl, rfl⟩
    go_wp2_with fail
    refine (hb _).mono ?_
    rintro e w' ⟨rfl, rfl⟩
    go_wp2
    go_ret
    exact ⟨by rw [HE.out]; rfl, rfl⟩
  · by_cases h2 : b < a
    · have HE : Hid (cmpI a b = 1) := by unfold Hid cmpI; rw [if_neg h1, if_pos h2]
      go_enter Try.func37, Try.ntmps37
      go_wp2_with fail
      refine (ha _).mono ?_
      rintro e w' ⟨rfl, rfl⟩
      go_wp2_with fail
      refine (hb _).mono ?_
      rintro e w' ⟨rfl, rfl⟩
      go_wp2
      go_ret
      exact ⟨by rw [HE.out]; rfl, rfl⟩
    · have HE : Hid (cmpI a b = 0) := by unfold Hid cmpI; rw [if_neg h1, if_neg h2]
      go_enter Try.func37, Try.ntmps37
      go_wp2_with fail
      refine (ha _).mono ?_
      rintro e w' ⟨rfl, rfl⟩
      go_wp2_with fail
      refine (hb _).mono ?_
      rintro e w' ⟨rfl, rfl⟩
      go_wp2
      go_ret
      exact ⟨by rw [HE.out]; rfl, rfl⟩
end Go.Proofs.Ytkokbmmffkpclaa

/- Rows of the call's own, and slices that read (no program in sight). -/
namespace Go.Proofs.Ytkokbmmffkpclaa
open Go.RowKit

theorem ownsRow_below {w w' : World} {B : Nat} {e : TypeId} {k : Nat} {v : Value} {n : Nat} {xs : List Value} (h : w.ownsRow B e k v n xs) (hb : Below w.heap.size w w') : w'.ownsRow B e k v n xs := by
  obtain ⟨hl, h0 | ⟨g, cap, cur, hv, hg, hh, h1, h2, h3, h4⟩⟩ := h
  · exact ⟨hl, .inl h0⟩
  · have hlt : g < w.heap.size := by
      rcases Nat.lt_or_ge g w.heap.size with hlt | hge
      · exact hlt
      · rw [Array.getElem?_eq_none hge] at hh; cases hh
    exact ⟨hl, .inr ⟨g, cap, cur, hv, hg, (hb.block g hlt).trans hh, h1, h2, h3, h4⟩⟩
/-- Rows of other types lie elsewhere. -/
theorem ownsRow_far {w : World} {B : Nat} {e t : TypeId} {k : Nat} {v : Value} {n : Nat} {xs cs : List Value} (h : w.ownsRow B e k v n xs) {g : Nat} (hg : Lies w g t cs) (hne : e ≠ t) : some g ≠ v.ownBlock := by
  obtain ⟨_, ⟨rfl, _⟩ | ⟨g', cap, cur, rfl, _, hh, _⟩⟩ := h
  · simp [Value.ownBlock]
  · intro he
    simp only [Value.ownBlock, Option.some.injEq] at he
    subst he
    unfold Lies at hg
    rw [hg] at hh
    injection hh with hh; injection hh with _ h2; exact hne h2.symm
theorem ownsRow_lower {w : World} {B B' : Nat} {e : TypeId} {k : Nat} {v : Value} {n : Nat} {xs : List Value} (h : w.ownsRow B e k v n xs) (hB : B' ≤ B) : w.ownsRow B' e k v n xs := by
  obtain ⟨hl, h0 | ⟨g, cap, cur, hv, hg, hh⟩⟩ := h
  · exact ⟨hl, .inl h0⟩
  · exact ⟨hl, .inr ⟨g, cap, cur, hv, Nat.le_trans hB hg, hh⟩⟩
/-- Two rows of the call's own, of different types: one grows, the other stays. -/
theorem ownsRow_two {w w' : World} {B B' : Nat} {e e' : TypeId} {k k' : Nat} {v v' : Value} {n n' : Nat} {xs xs' : List Value} (h : w.ownsRow B e k v n xs) (h' : w.ownsRow B' e' k' v' n' xs') (hne : e' ≠ e) (hg : w.grownBy w' v'.ownBlock) : w'.ownsRow B e k v n xs := by
  refine h.kept hg ?_
  obtain ⟨_, ⟨h1, _⟩ | ⟨g, cap, cur, h1, _, hh, _⟩⟩ := h
  · left; rw [h1]; rfl
  · right
    rw [h1]
    exact ownsRow_far h' (g := g) (t := e) (cs := cur.toList) (Lies.of hh) hne
def lenOf : Value → Nat
  | .slice _ n _ => n
  | _ => 0
end Go.Proofs.Ytkokbmmffkpclaa

/- Rows of the call's own: what becomes of them (no program's function in sight). -/
namespace Go.Proofs.Ytkokbmmffkpclaa
open Go.RowKit

/-- A cell of a block of another type is written. -/
theorem ownsRow_setOther {w : World} {B : Nat} {e t : TypeId} {k : Nat} {v : Value} {n : Nat} {xs cs : List Value} (h : w.ownsRow B e k v n xs) {g : Nat} (hg : Lies w g t cs) (hne : e ≠ t) (i : Nat) (u : Value) : (w.setCell ⟨g, i, none⟩ u).ownsRow B e k v n xs := by
  have hf := ownsRow_far h hg hne
  obtain ⟨hl, h0 | ⟨g', cap, cur, hv, hg', hh, h1⟩⟩ := h
  · exact ⟨hl, .inl h0⟩
  · refine ⟨hl, .inr ⟨g', cap, cur, hv, hg', (Below.heap_setCell w _ u g' ?_).trans hh, h1⟩⟩
    intro e'
    subst hv
    exact hf (by simp only [Value.ownBlock]; rw [e'])
/-- The row lies in memory. -/
theorem ownsRow_at {w : World} {B : Nat} {e : TypeId} {k : Nat} {v : Value} {n : Nat} {xs : List Value} (h : w.ownsRow B e k v n xs) (hn : 0 < n) : ∃ g cap rest, v = .slice (some ⟨g, 0, none⟩) n cap ∧ B ≤ g ∧ Lies w g e (xs ++ rest) ∧ n ≤ cap := by
  obtain ⟨hl, h0 | ⟨g, cap, cur, hv, hg, hh, h1, h2, h3, h4⟩⟩ := h
  · omega
  · refine ⟨g, cap, cur.toList.drop (n * k), hv, hg, ?_, h1⟩
    have : xs ++ cur.toList.drop (n * k) = cur.toList := by rw [← h4]; exact List.take_append_drop _ _
    rw [this]; exact Lies.of hh
/-- One cell of the row is written. -/
theorem ownsRow_set {w : World} {B g cap : Nat} {e : TypeId} {k n : Nat} {xs : List Value} (h : w.ownsRow B e k (.slice (some ⟨g, 0, none⟩) n cap) n xs) (j : Nat) (u : Value) (hj : j < n * k) : (w.setCell ⟨g, j, none⟩ u).ownsRow B e k (.slice (some ⟨g, 0, none⟩) n cap) n (xs.set j u) := by
  obtain ⟨hl, h0 | ⟨g', cap', cur, hv, hg, hh, h1, h2, h3, h4⟩⟩ := h
  · cases h0.1
  · injection hv with e1 e2 e3
    injection e1 with e1; injection e1 with e1; subst e1; subst e3
    have hL := (Lies.of hh).set j u
    exact ⟨by rw [List.length_set]; exact hl, .inr ⟨g, cap, (cur.toList.set j u).toArray, rfl, hg, hL, h1, h2, by simp [h3], by show List.take _ (cur.toList.set j u) = _; rw [List.take_set, h4]⟩⟩
theorem ownsRow_drew {w : World} {B : Nat} {e : TypeId} {k : Nat} {v : Value} {n : Nat} {xs : List Value} (h : w.ownsRow B e k v n xs) : w.drew.ownsRow B e k v n xs := h
theorem ownsRow_reads {w : World} {B : Nat} {e : TypeId} {k : Nat} {A : Option Addr} {n c : Nat} {xs : List Value} (h : w.ownsRow B e k (.slice A n c) n xs) : SlcR w w.heap.size k A n xs := by
  obtain ⟨hl, h0 | ⟨g, cap, cur, hv, hg, hh, h1, h2, h3, h4⟩⟩ := h
  · exact ⟨hl, by omega, fun hn => by omega⟩
  · injection hv with e1 _ _
    refine ⟨hl, by unfold maxLen at h2; omega, fun hn => ⟨g, 0, e1, (Lies.of hh).lt, fun j u hu => ?_⟩⟩
    rw [Nat.zero_add, (Lies.of hh).cell]
    rw [← h4, List.getElem?_take] at hu
    split at hu
    · exact hu
    · cases hu
/-- A block of another type turns. -/
theorem ownsRow_keptG {w w' : World} {B : Nat} {e t : TypeId} {k : Nat} {v : Value} {n : Nat} {xs cs : List Value} (h : w.ownsRow B e k v n xs) {g : Nat} (hL : Lies w g t cs) (hne : e ≠ t) (hg : w.grownBy w' (some g)) : w'.ownsRow B e k v n xs :=
  h.kept hg (.inr fun e' => ownsRow_far h hL hne e'.symm)
end Go.Proofs.Ytkokbmmffkpclaa

/- Rows of lots of the call's own: one field is written. -/
namespace Go.Proofs.Ytkokbmmffkpclaa
open Go.RowKit

theorem flat_setF {α : Type} (enc : α → List Value) (k : Nat) (hk : ∀ x, (enc x).length = k) {o : Nat} {u : Value} : ∀ {l : List α} {i : Nat} {y : α} (h : i < l.length), o < k → enc y = (enc l[i]).set o u → (l.flatMap enc).set (i * k + o) u = (l.set i y).flatMap enc
  | x :: l, 0, y, _, ho, he => by
    simp only [List.getElem_cons_zero] at he
    simp only [Nat.zero_mul, Nat.zero_add, List.flatMap_cons, List.set_cons_zero]
    rw [List.set_append_left _ _ (by rw [hk]; exact ho), ← he]
  | x :: l, i + 1, y, h, ho, he => by
    simp only [List.flatMap_cons, List.set_cons_succ]
    have e : (i + 1) * k + o = (enc x).length + (i * k + o) := by rw [hk, Nat.succ_mul]; omega
    rw [e, List.set_append_right _ _ (by omega), Nat.add_sub_cancel_left, flat_setF enc k hk (l := l) (i := i) (by simpa using h) ho (by simpa using he)]
theorem flat_takeL : ∀ (l : List Lot) (i : Nat), (l.take i).flatMap Lot.enc = (l.flatMap Lot.enc).take (i * 5)
  | [], i => by simp
  | x :: l, 0 => by simp
  | x :: l, i + 1 => by
    have e : (i + 1) * 5 = x.enc.length + i * 5 := by rw [Lot.enc_len]; omega
    rw [List.take_succ_cons, List.flatMap_cons, List.flatMap_cons, e, List.take_length_add_append, flat_takeL l i]
theorem flat_dropL : ∀ (l : List Lot) (i : Nat), (l.drop i).flatMap Lot.enc = (l.flatMap Lot.enc).drop (i * 5)
  | [], i => by simp
  | x :: l, 0 => by simp
  | x :: l, i + 1 => by
    have e : (i + 1) * 5 = x.enc.length + i * 5 := by rw [Lot.enc_len]; omega
    rw [List.drop_succ_cons, List.flatMap_cons, e, List.drop_length_add_append, flat_dropL l i]
/-- Lots of the call's own. -/
abbrev OwnL (w : World) (B : Nat) (A : Option Addr) (c : Nat) (l : List Lot) : Prop := w.ownsRow B 44 5 (.slice A l.length c) l.length (l.flatMap Lot.enc)
theorem OwnL.reads {w : World} {B : Nat} {A : Option Addr} {c : Nat} {l : List Lot} (h : OwnL w B A c l) : LotsR w w.heap.size A l := ownsRow_reads h
theorem OwnL.block {w : World} {B : Nat} {A : Option Addr} {c : Nat} {l : List Lot} (h : OwnL w B A c l) (hn : 0 < l.length) : ∃ g, A = some ⟨g, 0, none⟩ ∧ B ≤ g ∧ g < w.heap.size ∧ l.length ≤ c := by
  obtain ⟨g, cap, rest, hv, hB, hL, hc⟩ := ownsRow_at h hn
  injection hv with h1 h2 h3
  subst h3
  exact ⟨g, h1, hB, hL.lt, hc⟩
/-- One field of one lot is written. -/
theorem OwnL.set {w : World} {B g c : Nat} {l : List Lot} (h : OwnL w B (some ⟨g, 0, none⟩) c l) {i : Nat} (hi : i < l.length) (o : Nat) (ho : o < 5) (u : Value) (y : Lot) (hy : y.enc = l[i].enc.set o u) :
    OwnL (w.setCell ⟨g, i * 5 + o, none⟩ u) B (some ⟨g, 0, none⟩) c (l.set i y) ∧ Below B w (w.setCell ⟨g, i * 5 + o, none⟩ u) ∧ w.frozen? ⟨g, i * 5 + o, none⟩ = false ∧ w.cell? ⟨g, i * 5 + o, none⟩ = (l[i].enc)[o]? := by
  have hj : i * 5 + o < l.length * 5 := by omega
  obtain ⟨hB, hlt⟩ := h.lt g rfl
  have ht := ownsRow_set h (i * 5 + o) u hj
  rw [flat_setF Lot.enc 5 Lot.enc_len hi ho hy] at ht
  refine ⟨by unfold OwnL; rw [List.length_set]; exact ht, ?_, h.frozenAt _, ?_⟩
  · exact (Below.refl B w).grown (grown_set (World.grownBy.refl w (some g))) (Nat.le_of_lt (Nat.lt_of_le_of_lt hB hlt)) (by rintro _ ⟨⟩; exact hB)
  · rw [h.cellAt _ hj, flat_at Lot.enc 5 Lot.enc_len l i hi o ho]
theorem OwnL.below {w w' : World} {B : Nat} {A : Option Addr} {c : Nat} {l : List Lot} (h : OwnL w B A c l) (hb : Below w.heap.size w w') : OwnL w' B A c l := ownsRow_below h hb
end Go.Proofs.Ytkokbmmffkpclaa

/- A region whose order is drawn, by one fact on each operation: no orders are walked. -/
namespace Go.Proofs.Ytkokbmmffkpclaa
open Go.RowKit

section
variable {P : Program} {ops : Array Oper} {Q : Exit → Act → World → Prop} {md : Region.Mode}

/-- The values vs in the temporaries of the operations. -/
def fillOps (vs : Nat → Value) : List Oper → Nat → Act → Act
  | [], _, a => a
  | o :: l, k, a => fillOps vs l (k + 1) (a.put o.dst (vs k))
def dstsApart : List Oper → Bool
  | [] => true
  | o :: l => l.all (fun p => match o.dst with | none => true | some d => p.dst != some d) && dstsApart l
def upd (vs : Nat → Value) (i : Nat) (v : Value) : Nat → Value := fun j => if j = i then v else vs j

theorem fillOps_put (vs : Nat → Value) {d : Option Tmp} {v : Value} : ∀ (l : List Oper) (k : Nat) (a : Act), (∀ p ∈ l, ∀ t, d = some t → p.dst ≠ some t) → (fillOps vs l k a).put d v = fillOps vs l k (a.put d v)
  | [], _, _, _ => rfl
  | o :: l, k, a, h => by
    unfold fillOps
    rw [fillOps_put vs l (k + 1) _ (fun p hp => h p (List.mem_cons_of_mem _ hp))]
    rw [Act.put_comm a (vs k) v (x := o.dst) (y := d) (fun t ht hd => h o (by simp) t hd ht)]
theorem fillOps_congr {vs vs' : Nat → Value} : ∀ (l : List Oper) (k : Nat) (a : Act), (∀ j, k ≤ j → vs j = vs' j) → fillOps vs l k a = fillOps vs' l k a
  | [], _, _, _ => rfl
  | o :: l, k, a, h => by
    unfold fillOps
    rw [h k (Nat.le_refl _), fillOps_congr l (k + 1) _ (fun j hj => h j (by omega))]
theorem Act.put_put (a : Act) (d : Option Tmp) (u v : Value) : (a.put d u).put d v = a.put d v := by
  cases d with
  | none => rfl
  | some d =>
    simp only [Act.put]
    congr 1
    apply Array.ext (by simp)
    intro i h1 h2
    simp
theorem fillOps_upd : ∀ (l : List Oper) (k : Nat) (a : Act) (vs : Nat → Value) (i : Nat) (o : Oper) (v : Value), dstsApart l = true → l[i]? = some o →
    (fillOps vs l k a).put o.dst v = fillOps (upd vs (k + i) v) l k a
  | [], _, _, _, _, _, _, _, h => by simp at h
  | p :: l, k, a, vs, 0, o, v, hd, h => by
    simp only [List.getElem?_cons_zero, Option.some.injEq] at h; subst h
    simp only [dstsApart, Bool.and_eq_true, List.all_eq_true] at hd
    unfold fillOps
    rw [fillOps_put vs l (k + 1) _ (fun q hq t ht => by
      have := hd.1 q hq; rw [ht] at this; simpa using this), Act.put_put]
    rw [fillOps_congr (vs := vs) (vs' := upd vs (k + 0) v) l (k + 1) _ (fun j hj => by unfold upd; rw [if_neg (by omega)])]
    congr 2
    simp [upd]
  | p :: l, k, a, vs, i + 1, o, v, hd, h => by
    simp only [dstsApart, Bool.and_eq_true] at hd
    unfold fillOps
    rw [fillOps_upd l (k + 1) _ vs i o v hd.2 (by simpa using h)]
    have : k + 1 + i = k + (i + 1) := by omega
    rw [this]
    congr 2
    unfold upd; rw [if_neg (by omega)]
theorem Act.put_self (a : Act) (t : Tmp) (u : Value) : a.put (some t) (a.tmps.getD t u) = a := by
  simp only [Act.put]
  obtain ⟨tmps, defers⟩ := a
  congr 1
  apply Array.ext_getElem?
  intro i
  by_cases e : t = i
  · subst e
    by_cases h2 : t < tmps.size
    · simp [h2]
    · simp [h2]
  · rw [Array.getElem?_setIfInBounds_ne e]
theorem fillOps_self (vs : Nat → Value) : ∀ (l : List Oper) (k : Nat) (a : Act), (∀ i o t, l[i]? = some o → o.dst = some t → vs (k + i) = a.tmps.getD t undef) → fillOps vs l k a = a
  | [], _, _, _ => rfl
  | o :: l, k, a, h => by
    unfold fillOps
    have e : a.put o.dst (vs k) = a := by
      cases hd : o.dst with
      | none => rfl
      | some t =>
        have h0 := h 0 o t (by simp) hd
        rw [Nat.add_zero] at h0
        rw [h0, Act.put_self]
    rw [e]
    exact fillOps_self vs l (k + 1) a (fun i o' t h1 h2 => by
      have := h (i + 1) o' t (by simpa using h1) h2
      rwa [show k + (i + 1) = k + 1 + i by omega] at this)

/-- j comes ahead of k, whatever order is drawn. -/
def ahead (md : Region.Mode) (ops : Array Oper) : Nat → Nat → Nat → Bool
  | 0, _, _ => false
  | fuel + 1, k, j => match ops[k]? with
    | none => false
    | some o => o.after.any fun e => Region.binds md e && (e.on == j || ahead md ops fuel e.on j)
def edgesDown (md : Region.Mode) (ops : Array Oper) : Bool :=
  (List.range ops.size).all fun k => match ops[k]? with
    | none => true
    | some o => o.after.all fun e => !Region.binds md e || decide (e.on < k)

def Closed (md : Region.Mode) (ops : Array Oper) (listed : Array Bool) : Prop :=
  ∀ j o, ops[j]? = some o → listed.getD j false = true → ∀ e ∈ o.after, Region.binds md e = true → listed.getD e.on false = true

theorem ahead_listed {listed : Array Bool} (hc : Closed md ops listed) : ∀ (fuel k j : Nat), (∀ o, ops[k]? = some o → ∀ e ∈ o.after, Region.binds md e = true → listed.getD e.on false = true) → ahead md ops fuel k j = true → listed.getD j false = true
  | 0, _, _, _, h => by simp [ahead] at h
  | fuel + 1, k, j, hk, h => by
    unfold ahead at h
    cases ho : ops[k]? with
    | none => simp [ho] at h
    | some o =>
      simp only [ho] at h
      obtain ⟨e, he, hb⟩ := Array.any_eq_true'.1 h
      simp only [Bool.and_eq_true, Bool.or_eq_true, beq_iff_eq] at hb
      have h1 := hk o ho e he hb.1
      rcases hb.2 with h2 | h2
      · rw [← h2]; exact h1
      · exact ahead_listed hc fuel e.on j (fun o' ho' => hc e.on o' ho' h1) h2

/-- The walk: a fact R on each operation's value; the facts of those that come ahead are at hand. -/
def wpFacts (P : Program) (ops : Array Oper) (Q : Exit → Act → World → Prop) (C : World → Prop) (T : World → World → Prop) (fr : (Nat → Value) → Act) : Nat → List Oper → List (Value → World → Prop) → Prop
  | _, [], Rs => ∀ vs w, C w → (∀ (j : Nat) (R : Value → World → Prop), Rs[j]? = some R → R (vs j) w) → Q .normal (fr vs) w
  | k, o :: l, Rs => ∃ R : Value → World → Prop, (∀ v w w', R v w → T w w' → R v w') ∧
    (∀ vs w, C w → (∀ (j : Nat) (R' : Value → World → Prop), ahead .any ops ops.size k j = true → Rs[j]? = some R' → R' (vs j) w) → ∀ K : Act → World → Prop, (∀ a' v w', a' = (fr vs).put o.dst v → R v w' → C w' → T w w' → K a' w') →
      if Region.wanted o (yielded ops (fr vs).tmps) = true then o.wp P (fr vs) w K Q else K ((fr vs).put o.dst undef) w) ∧
    wpFacts P ops Q C T fr (k + 1) l (Rs ++ [R])

/-- What the walk gives: the facts, one for each operation. -/
theorem wpFacts_all {C : World → Prop} {T : World → World → Prop} {fr : (Nat → Value) → Act} : ∀ (l : List Oper) (k : Nat) (Rs : List (Value → World → Prop)), (∀ i, l[i]? = ops[k + i]?) → Rs.length = k →
    (∀ (j : Nat) (R : Value → World → Prop), Rs[j]? = some R → ∀ v w w', R v w → T w w' → R v w') →
    (∀ (j : Nat) (o : Oper) (R : Value → World → Prop), j < k → ops[j]? = some o → Rs[j]? = some R → ∀ vs w, C w → (∀ (j' : Nat) (R' : Value → World → Prop), ahead .any ops ops.size j j' = true → j' < j → Rs[j']? = some R' → R' (vs j') w) → ∀ K : Act → World → Prop, (∀ a' v w', a' = (fr vs).put o.dst v → R v w' → C w' → T w w' → K a' w') →
      if Region.wanted o (yielded ops (fr vs).tmps) = true then o.wp P (fr vs) w K Q else K ((fr vs).put o.dst undef) w) →
    wpFacts P ops Q C T fr k l Rs →
    ∃ Rs' : List (Value → World → Prop), Rs'.length = k + l.length ∧ (∀ (j : Nat) (R : Value → World → Prop), Rs'[j]? = some R → ∀ v w w', R v w → T w w' → R v w') ∧
    (∀ (j : Nat) (o : Oper) (R : Value → World → Prop), ops[j]? = some o → Rs'[j]? = some R → ∀ vs w, C w → (∀ (j' : Nat) (R' : Value → World → Prop), ahead .any ops ops.size j j' = true → j' < j → Rs'[j']? = some R' → R' (vs j') w) → ∀ K : Act → World → Prop, (∀ a' v w', a' = (fr vs).put o.dst v → R v w' → C w' → T w w' → K a' w') →
      if Region.wanted o (yielded ops (fr vs).tmps) = true then o.wp P (fr vs) w K Q else K ((fr vs).put o.dst undef) w) ∧
    (∀ vs w, C w → (∀ (j : Nat) (R : Value → World → Prop), Rs'[j]? = some R → R (vs j) w) → Q .normal (fr vs) w)
  | [], k, Rs, hl, hlen, hst, hop, h => by
    refine ⟨Rs, by simpa using hlen, hst, fun j o R ho hR => hop j o R ?_ ho hR, h⟩
    rw [← hlen]; exact (List.getElem?_eq_some_iff.1 hR).1
  | o :: l, k, Rs, hl, hlen, hst, hop, h => by
    obtain ⟨R, hRs, hRo, hrest⟩ := h
    have ho : ops[k]? = some o := by simpa using (hl 0).symm
    have hold : ∀ j, j < k → (Rs ++ [R])[j]? = Rs[j]? := fun j hj => List.getElem?_append_left (by omega)
    have hnew : (Rs ++ [R])[k]? = some R := by rw [List.getElem?_append_right (by omega), hlen]; simp
    obtain ⟨Rs', h1, h2, h3, h4⟩ := wpFacts_all l (k + 1) (Rs ++ [R]) (fun i => by have := hl (i + 1); simpa [Nat.add_assoc, Nat.add_comm 1 i] using this) (by simp [hlen])
      (fun j R' hR' => by
        rcases Nat.lt_trichotomy j k with hj | hj | hj
        · rw [hold j hj] at hR'; exact hst j R' hR'
        · subst hj; rw [hnew] at hR'; cases hR'; exact hRs
        · rw [List.getElem?_eq_none (by simp [hlen]; omega)] at hR'; cases hR')
      (fun j o' R' hj ho' hR' vs w hC hB K hK => by
        rcases Nat.lt_or_ge j k with hjk | hjk
        · rw [hold j hjk] at hR'
          exact hop j o' R' hjk ho' hR' vs w hC (fun j' R'' ha hlt h'' => hB j' R'' ha hlt (by rw [hold j' (by omega)]; exact h'')) K hK
        · obtain rfl : j = k := by omega
          rw [ho] at ho'; cases ho'
          rw [hnew] at hR'; cases hR'
          refine hRo vs w hC (fun j' R'' ha h'' => ?_) K hK
          have hlt : j' < Rs.length := (List.getElem?_eq_some_iff.1 h'').1
          exact hB j' R'' ha (by omega) (by rw [hold j' (by omega)]; exact h''))
      hrest
    exact ⟨Rs', by rw [h1]; simp; omega, h2, h3, h4⟩

theorem listed_ready {listed : Array Bool} (hdn : edgesDown .any ops = true) (hsz : listed.size = ops.size) (hr : Region.ready .any ops listed = []) : ∀ j, j < ops.size → listed.getD j false = true := by
  intro j
  induction j using Nat.strongRecOn with
  | ind j ih =>
    intro hj
    rcases hb : listed.getD j false with _ | _
    · exfalso
      have hmem : j ∈ Region.ready .any ops listed := by
        rw [mem_ready]
        refine ⟨?_, ops[j], Array.getElem?_eq_getElem hj, fun e he hbd => ?_⟩
        · have : j < listed.size := by omega
          simp only [Array.getD, this, ↓reduceDIte] at hb ⊢
          exact hb
        · have h1 := List.all_eq_true.1 hdn j (List.mem_range.2 hj)
          rw [Array.getElem?_eq_getElem hj] at h1
          have h2 := Array.all_eq_true_iff_forall_mem.1 h1 e he
          simp only [hbd, Bool.not_true, Bool.false_or, decide_eq_true_eq] at h2
          exact ih e.on h2 (by omega)
      rw [hr] at hmem; cases hmem
    · rfl

/-- How many have not come up. -/
def unlisted (n : Nat) (listed : Array Bool) : Nat := ((List.range n).filter fun j => !listed.getD j false).length
theorem unlisted_set {n i : Nat} {listed : Array Bool} (hi : i < n) (hs : listed.size = n) (h : listed.getD i false = false) : unlisted n (listed.setIfInBounds i true) < unlisted n listed := by
  unfold unlisted
  have e : ∀ l : List Nat, (l.filter fun j => !(listed.setIfInBounds i true).getD j false) = (l.filter fun j => !listed.getD j false).filter (fun j => j != i) := by
    intro l
    rw [List.filter_filter]
    apply List.filter_congr
    intro j _
    by_cases hji : j = i
    · subst hji; have : j < listed.size := by omega
      simp [this]
    · rw [getD_set_ne false (Ne.symm hji)]; simp [hji]
  rw [e]
  have hm : i ∈ (List.range n).filter fun j => !listed.getD j false := List.mem_filter.2 ⟨List.mem_range.2 hi, by rw [h]; rfl⟩
  generalize (List.range n).filter (fun j => !listed.getD j false) = l at hm
  clear e
  induction l with
  | nil => cases hm
  | cons x l ih =>
    rw [List.filter_cons]
    split
    · rename_i hx
      rcases List.mem_cons.1 hm with h' | h'
      · simp [h'] at hx
      · simpa using ih h'
    · exact Nat.lt_succ_of_le (List.length_filter_le _ _)

theorem wpAny_facts {C : World → Prop} {T : World → World → Prop} {a₀ : Act} (hap : dstsApart ops.toList = true) (hdn : edgesDown .any ops = true) (Rs : List (Value → World → Prop)) (hlen : Rs.length = ops.size)
    (hst : ∀ (j : Nat) (R : Value → World → Prop), Rs[j]? = some R → ∀ v w w', R v w → T w w' → R v w')
    (hop : ∀ (j : Nat) (o : Oper) (R : Value → World → Prop), ops[j]? = some o → Rs[j]? = some R → ∀ vs w, C w → (∀ (j' : Nat) (R' : Value → World → Prop), ahead .any ops ops.size j j' = true → j' < j → Rs[j']? = some R' → R' (vs j') w) → ∀ K : Act → World → Prop, (∀ a' v w', a' = (fillOps vs ops.toList 0 a₀).put o.dst v → R v w' → C w' → T w w' → K a' w') →
      if Region.wanted o (yielded ops (fillOps vs ops.toList 0 a₀).tmps) = true then o.wp P (fillOps vs ops.toList 0 a₀) w K Q else K ((fillOps vs ops.toList 0 a₀).put o.dst undef) w)
    (hend : ∀ vs w, C w → (∀ (j : Nat) (R : Value → World → Prop), Rs[j]? = some R → R (vs j) w) → Q .normal (fillOps vs ops.toList 0 a₀) w) :
    ∀ (fuel : Nat) (listed : Array Bool) (vs : Nat → Value) (w : World), listed.size = ops.size → unlisted ops.size listed ≤ fuel → Closed .any ops listed → C w → (∀ (j : Nat) (R : Value → World → Prop), listed.getD j false = true → Rs[j]? = some R → R (vs j) w) →
      wpAny P .any ops Q fuel listed (fillOps vs ops.toList 0 a₀) w := by
  have hfin : ∀ (listed : Array Bool) (vs : Nat → Value) (w : World), listed.size = ops.size → C w → (∀ (j : Nat) (R : Value → World → Prop), listed.getD j false = true → Rs[j]? = some R → R (vs j) w) → Region.ready .any ops listed = [] → Q .normal (fillOps vs ops.toList 0 a₀) w :=
    fun listed vs w hs hC hR hr => hend vs w hC fun j R hj => hR j R (listed_ready hdn hs hr j (by rw [← hlen]; exact (List.getElem?_eq_some_iff.1 hj).1)) hj
  intro fuel
  induction fuel with
  | zero =>
    intro listed vs w hs hu hcl hC hR
    have hr : Region.ready .any ops listed = [] := by
      rw [List.eq_nil_iff_forall_not_mem]
      intro j hj
      obtain ⟨h0, o, ho, _⟩ := mem_ready.1 hj
      have hjs : j < ops.size := (Array.getElem?_eq_some_iff.1 ho).1
      have : unlisted ops.size (listed.setIfInBounds j true) < unlisted ops.size listed := unlisted_set hjs hs (by
        have : j < listed.size := by omega
        simp only [Array.getD, this, ↓reduceDIte] at h0 ⊢; exact h0)
      omega
    exact ⟨hr, hfin listed vs w hs hC hR hr⟩
  | succ fuel ih =>
    intro listed vs w hs hu hcl hC hR
    refine ⟨hfin listed vs w hs hC hR, fun i hi => ?_⟩
    obtain ⟨h0, o, ho, hall⟩ := mem_ready.1 hi
    have hisz : i < ops.size := (Array.getElem?_eq_some_iff.1 ho).1
    have hil : i < listed.size := by omega
    have h0' : listed.getD i false = false := by simp only [Array.getD, hil, ↓reduceDIte] at h0 ⊢; exact h0
    obtain ⟨R, hRi⟩ : ∃ R, Rs[i]? = some R := ⟨Rs[i]'(by omega), List.getElem?_eq_getElem (by omega)⟩
    have hstep := hop i o R ho hRi vs w hC (fun j' R' ha _ hR' => hR j' R' (ahead_listed hcl ops.size i j' (fun o' ho' => by rw [ho] at ho'; cases ho'; exact hall) ha) hR')
      (wpAny P .any ops Q fuel (listed.setIfInBounds i true)) (fun a' v w' ha hRv hC' hT => by
        rw [ha, fillOps_upd ops.toList 0 a₀ vs i o v hap (by simpa using ho), Nat.zero_add]
        refine ih _ _ _ (by simpa using hs) ?_ ?_ hC' ?_
        · have := unlisted_set hisz hs h0'; omega
        · intro j oj hoj hj e he hb
          by_cases hji : j = i
          · subst hji; rw [ho] at hoj; cases hoj; exact getD_set_true (hall e he hb)
          · rw [getD_set_ne false (Ne.symm hji)] at hj; exact getD_set_true (hcl j oj hoj hj e he hb)
        · intro j R' hj hR'
          by_cases hji : j = i
          · subst hji; rw [hRi] at hR'; cases hR'; simpa [upd] using hRv
          · rw [getD_set_ne false (Ne.symm hji)] at hj
            have := hst j R' hR' _ _ _ (hR j R' hj hR') hT
            simpa [upd, hji] using this)
    unfold wpOp
    simp only [ho]
    split
    · rename_i hw; rw [if_pos hw] at hstep; exact .inl hstep
    · rename_i hw; rw [if_neg hw] at hstep; exact hstep

/-- The region. -/
theorem wp_region_facts {id : Nat} {a : Act} {w : World} {l : List Oper} (C : World → Prop) (T : World → World → Prop) (hm : P.follows .mixedOrders = true) (hap : dstsApart l = true) (hdn : edgesDown .any l.toArray = true)
    (hC : C w.drew) (h : wpFacts P l.toArray Q C T (fun vs => fillOps vs l 0 a) 0 l []) : (Code.region id l.toArray true).wp P Q a w := by
  refine wp_region_any hm ?_
  obtain ⟨Rs, h1, h2, h3, h4⟩ := wpFacts_all (ops := l.toArray) l 0 [] (by simp) rfl (by simp) (by simp) h
  obtain ⟨vs, hvs⟩ : ∃ vs : Nat → Value, ∀ i o t, l[i]? = some o → o.dst = some t → vs (0 + i) = a.tmps.getD t undef :=
    ⟨fun i => match (l[i]?).bind (·.dst) with | some t => a.tmps.getD t undef | none => undef, fun i o t hi ht => by simp [hi, ht]⟩
  have := wpAny_facts (P := P) (Q := Q) (ops := l.toArray) (C := C) (T := T) (a₀ := a) hap hdn Rs (by simpa using h1) h2 h3 h4 l.toArray.size (Array.replicate l.toArray.size false) vs w.drew (by simp)
    (Nat.le_trans (List.length_filter_le _ _) (by simp)) (fun j o hj hl => by simp [Array.getD] at hl) hC (fun j R hl => by simp [Array.getD] at hl)
  rwa [fillOps_self vs _ 0 a (by simpa using hvs)] at this

theorem wpFacts_nil {C : World → Prop} {T : World → World → Prop} {fr : (Nat → Value) → Act} {k : Nat} {Rs : List (Value → World → Prop)} (h : ∀ vs w, C w → (∀ (j : Nat) (R : Value → World → Prop), Rs[j]? = some R → R (vs j) w) → Q .normal (fr vs) w) : wpFacts P ops Q C T fr k [] Rs := h
/-- An operation with one value. -/
theorem wpFacts_val {C : World → Prop} {T : World → World → Prop} {fr : (Nat → Value) → Act} {k : Nat} {o : Oper} {l : List Oper} {Rs : List (Value → World → Prop)} (V : Value)
    (h1 : ∀ vs w, C w → (∀ (j : Nat) (R' : Value → World → Prop), ahead .any ops ops.size k j = true → Rs[j]? = some R' → R' (vs j) w) → ∀ K : Act → World → Prop, (∀ a' w', a' = (fr vs).put o.dst V → C w' → T w w' → K a' w') →
      if Region.wanted o (yielded ops (fr vs).tmps) = true then o.wp P (fr vs) w K Q else K ((fr vs).put o.dst undef) w)
    (h2 : wpFacts P ops Q C T fr (k + 1) l (Rs ++ [fun v _ => v = V])) : wpFacts P ops Q C T fr k (o :: l) Rs :=
  ⟨fun v _ => v = V, fun _ _ _ h _ => h, fun vs w hC hB K hK => h1 vs w hC hB K fun a' w' ha hC' hT => hK a' V w' ha rfl hC' hT, h2⟩
/-- An operation whose value has a property. -/
theorem wpFacts_some {C : World → Prop} {T : World → World → Prop} {fr : (Nat → Value) → Act} {k : Nat} {o : Oper} {l : List Oper} {Rs : List (Value → World → Prop)} (R : Value → World → Prop) (hR : ∀ v w w', R v w → T w w' → R v w')
    (h1 : ∀ vs w, C w → (∀ (j : Nat) (R' : Value → World → Prop), ahead .any ops ops.size k j = true → Rs[j]? = some R' → R' (vs j) w) → ∀ K : Act → World → Prop, (∀ a' v w', a' = (fr vs).put o.dst v → R v w' → C w' → T w w' → K a' w') →
      if Region.wanted o (yielded ops (fr vs).tmps) = true then o.wp P (fr vs) w K Q else K ((fr vs).put o.dst undef) w)
    (h2 : wpFacts P ops Q C T fr (k + 1) l (Rs ++ [R])) : wpFacts P ops Q C T fr k (o :: l) Rs :=
  ⟨R, hR, h1, h2⟩
end
end Go.Proofs.Ytkokbmmffkpclaa

/- A region whose order is drawn: one fact on each operation, which may also speak of one operation that comes ahead; each operation has its own way to turn the world (T k). -/
namespace Go.Proofs.Ytkokbmmffkpclaa
open Go.RowKit

/-- A fact on an operation's value, and on the value of one that comes ahead of it. -/
structure FactN where
  D : Nat
  R : Value → Value → World → Prop
  Br : List Nat := []
def FactN.at (f : FactN) (vs : Nat → Value) (j : Nat) (w : World) : Prop := f.R (vs f.D) (vs j) w
/-- No other operation that may come behind it turns the fact. -/
def FactN.firm (ops : Array Oper) (T : Nat → World → World → Prop) (j : Nat) (f : FactN) : Prop := ∀ i, i ≠ j → i ∉ f.Br → ahead .any ops ops.size j i = false → ∀ u v w w', f.R u v w → T i w w' → f.R u v w'
/-- The fact still stands when operation k comes. -/
def FactN.live (ops : Array Oper) (k : Nat) (f : FactN) : Bool := f.Br.all fun i => i == k || ahead .any ops ops.size i k
def FactN.fine (ops : Array Oper) (j : Nat) (f : FactN) : Prop := (∀ u u' v w, f.R u v w → f.R u' v w) ∨ ahead .any ops ops.size j f.D = true
theorem FactN.eq {V : Value} {vs : Nat → Value} {j : Nat} {w : World} (h : FactN.at ⟨0, fun _ v _ => v = V, []⟩ vs j w) : vs j = V := h
/-- What has come up when operation k comes. -/
structure Gone (ops : Array Oper) (L : Nat → Bool) (k : Nat) : Prop where
  self : L k = false
  done : ∀ j, ahead .any ops ops.size k j = true → L j = true
  open_ : ∀ j, ahead .any ops ops.size j k = true → L j = false
def Listed.but (L : Nat → Bool) (k : Nat) : Nat → Bool := fun j => if j = k then true else L j
section
variable {P : Program} {ops : Array Oper} {Q : Exit → Act → World → Prop}

/-- The walk: a fact R on each operation's value; the facts of those that come ahead are at hand. -/
def wpFactsN (P : Program) (ops : Array Oper) (Q : Exit → Act → World → Prop) (C : (Nat → Bool) → World → Prop) (T : Nat → World → World → Prop) (fr : (Nat → Value) → Act) : Nat → List Oper → List FactN → Prop
  | _, [], Rs => ∀ vs L w, (∀ j, j < ops.size → L j = true) → C L w → (∀ (j : Nat) (R : FactN), R.Br = [] → Rs[j]? = some R → R.at vs j w) → Q .normal (fr vs) w
  | k, o :: l, Rs => ∃ R : FactN, R.fine ops k ∧ R.firm ops T k ∧
    (∀ vs L w, Gone ops L k → C L w → (∀ (j : Nat) (R' : FactN), ahead .any ops ops.size k j = true → R'.live ops k = true → Rs[j]? = some R' → R'.at vs j w) → ∀ K : Act → World → Prop, (∀ a' v w', a' = (fr vs).put o.dst v → R.R (vs R.D) v w' → C (Listed.but L k) w' → T k w w' → K a' w') →
      if Region.wanted o (yielded ops (fr vs).tmps) = true then o.wp P (fr vs) w K Q else K ((fr vs).put o.dst undef) w) ∧
    wpFactsN P ops Q C T fr (k + 1) l (Rs ++ [R])

/-- What the walk gives: the facts, one for each operation. -/
theorem wpFactsN_all {C : (Nat → Bool) → World → Prop} {T : Nat → World → World → Prop} {fr : (Nat → Value) → Act} : ∀ (l : List Oper) (k : Nat) (Rs : List FactN), (∀ i, l[i]? = ops[k + i]?) → Rs.length = k →
    (∀ (j : Nat) (R : FactN), Rs[j]? = some R → R.fine ops j ∧ R.firm ops T j) →
    (∀ (j : Nat) (o : Oper) (R : FactN), j < k → ops[j]? = some o → Rs[j]? = some R → ∀ vs L w, Gone ops L j → C L w → (∀ (j' : Nat) (R' : FactN), ahead .any ops ops.size j j' = true → R'.live ops j = true → j' < j → Rs[j']? = some R' → R'.at vs j' w) → ∀ K : Act → World → Prop, (∀ a' v w', a' = (fr vs).put o.dst v → R.R (vs R.D) v w' → C (Listed.but L j) w' → T j w w' → K a' w') →
      if Region.wanted o (yielded ops (fr vs).tmps) = true then o.wp P (fr vs) w K Q else K ((fr vs).put o.dst undef) w) →
    wpFactsN P ops Q C T fr k l Rs →
    ∃ Rs' : List FactN, Rs'.length = k + l.length ∧ (∀ (j : Nat) (R : FactN), Rs'[j]? = some R → R.fine ops j ∧ R.firm ops T j) ∧
    (∀ (j : Nat) (o : Oper) (R : FactN), ops[j]? = some o → Rs'[j]? = some R → ∀ vs L w, Gone ops L j → C L w → (∀ (j' : Nat) (R' : FactN), ahead .any ops ops.size j j' = true → R'.live ops j = true → j' < j → Rs'[j']? = some R' → R'.at vs j' w) → ∀ K : Act → World → Prop, (∀ a' v w', a' = (fr vs).put o.dst v → R.R (vs R.D) v w' → C (Listed.but L j) w' → T j w w' → K a' w') →
      if Region.wanted o (yielded ops (fr vs).tmps) = true then o.wp P (fr vs) w K Q else K ((fr vs).put o.dst undef) w) ∧
    (∀ vs L w, (∀ j, j < ops.size → L j = true) → C L w → (∀ (j : Nat) (R : FactN), R.Br = [] → Rs'[j]? = some R → R.at vs j w) → Q .normal (fr vs) w)
  | [], k, Rs, hl, hlen, hst, hop, h => by
    refine ⟨Rs, by simpa using hlen, hst, fun j o R ho hR => hop j o R ?_ ho hR, h⟩
    rw [← hlen]; exact (List.getElem?_eq_some_iff.1 hR).1
  | o :: l, k, Rs, hl, hlen, hst, hop, h => by
    obtain ⟨R, hRf, hRs, hRo, hrest⟩ := h
    have ho : ops[k]? = some o := by simpa using (hl 0).symm
    have hold : ∀ j, j < k → (Rs ++ [R])[j]? = Rs[j]? := fun j hj => List.getElem?_append_left (by omega)
    have hnew : (Rs ++ [R])[k]? = some R := by rw [List.getElem?_append_right (by omega), hlen]; simp
    obtain ⟨Rs', h1, h2, h3, h4⟩ := wpFactsN_all l (k + 1) (Rs ++ [R]) (fun i => by have := hl (i + 1); simpa [Nat.add_assoc, Nat.add_comm 1 i] using this) (by simp [hlen])
      (fun j R' hR' => by
        rcases Nat.lt_trichotomy j k with hj | hj | hj
        · rw [hold j hj] at hR'; exact hst j R' hR'
        · subst hj; rw [hnew] at hR'; cases hR'; exact ⟨hRf, hRs⟩
        · rw [List.getElem?_eq_none (by simp [hlen]; omega)] at hR'; cases hR')
      (fun j o' R' hj ho' hR' vs L w hG hC hB K hK => by
        rcases Nat.lt_or_ge j k with hjk | hjk
        · rw [hold j hjk] at hR'
          exact hop j o' R' hjk ho' hR' vs L w hG hC (fun j' R'' ha hv hlt h'' => hB j' R'' ha hv hlt (by rw [hold j' (by omega)]; exact h'')) K hK
        · obtain rfl : j = k := by omega
          rw [ho] at ho'; cases ho'
          rw [hnew] at hR'; cases hR'
          refine hRo vs L w hG hC (fun j' R'' ha hv h'' => ?_) K hK
          have hlt : j' < Rs.length := (List.getElem?_eq_some_iff.1 h'').1
          exact hB j' R'' ha hv (by omega) (by rw [hold j' (by omega)]; exact h''))
      hrest
    exact ⟨Rs', by rw [h1]; simp; omega, h2, h3, h4⟩

theorem getD_set_self {i : Nat} {listed : Array Bool} (h : i < listed.size) : (listed.setIfInBounds i true).getD i false = true := by simp [h]
theorem wpAny_factsN {C : (Nat → Bool) → World → Prop} {T : Nat → World → World → Prop} {a₀ : Act} (hap : dstsApart ops.toList = true) (hdn : edgesDown .any ops = true) (Rs : List FactN) (hlen : Rs.length = ops.size)
    (hst : ∀ (j : Nat) (R : FactN), Rs[j]? = some R → R.fine ops j ∧ R.firm ops T j)
    (hop : ∀ (j : Nat) (o : Oper) (R : FactN), ops[j]? = some o → Rs[j]? = some R → ∀ vs L w, Gone ops L j → C L w → (∀ (j' : Nat) (R' : FactN), ahead .any ops ops.size j j' = true → R'.live ops j = true → j' < j → Rs[j']? = some R' → R'.at vs j' w) → ∀ K : Act → World → Prop, (∀ a' v w', a' = (fillOps vs ops.toList 0 a₀).put o.dst v → R.R (vs R.D) v w' → C (Listed.but L j) w' → T j w w' → K a' w') →
      if Region.wanted o (yielded ops (fillOps vs ops.toList 0 a₀).tmps) = true then o.wp P (fillOps vs ops.toList 0 a₀) w K Q else K ((fillOps vs ops.toList 0 a₀).put o.dst undef) w)
    (hend : ∀ vs L w, (∀ j, j < ops.size → L j = true) → C L w → (∀ (j : Nat) (R : FactN), R.Br = [] → Rs[j]? = some R → R.at vs j w) → Q .normal (fillOps vs ops.toList 0 a₀) w) :
    ∀ (fuel : Nat) (listed : Array Bool) (vs : Nat → Value) (w : World), listed.size = ops.size → unlisted ops.size listed ≤ fuel → Closed .any ops listed → C (fun j => listed.getD j false) w → (∀ (j : Nat) (R : FactN), listed.getD j false = true → (∀ i ∈ R.Br, listed.getD i false = false) → Rs[j]? = some R → R.at vs j w) →
      wpAny P .any ops Q fuel listed (fillOps vs ops.toList 0 a₀) w := by
  have hfin : ∀ (listed : Array Bool) (vs : Nat → Value) (w : World), listed.size = ops.size → C (fun j => listed.getD j false) w → (∀ (j : Nat) (R : FactN), listed.getD j false = true → (∀ i ∈ R.Br, listed.getD i false = false) → Rs[j]? = some R → R.at vs j w) → Region.ready .any ops listed = [] → Q .normal (fillOps vs ops.toList 0 a₀) w :=
    fun listed vs w hs hC hR hr => hend vs _ w (fun j hj => listed_ready hdn hs hr j hj) hC fun j R hbr hj => hR j R (listed_ready hdn hs hr j (by rw [← hlen]; exact (List.getElem?_eq_some_iff.1 hj).1)) (by rw [hbr]; intro i hi; cases hi) hj
  intro fuel
  induction fuel with
  | zero =>
    intro listed vs w hs hu hcl hC hR
    have hr : Region.ready .any ops listed = [] := by
      rw [List.eq_nil_iff_forall_not_mem]
      intro j hj
      obtain ⟨h0, o, ho, _⟩ := mem_ready.1 hj
      have hjs : j < ops.size := (Array.getElem?_eq_some_iff.1 ho).1
      have : unlisted ops.size (listed.setIfInBounds j true) < unlisted ops.size listed := unlisted_set hjs hs (by
        have : j < listed.size := by omega
        simp only [Array.getD, this, ↓reduceDIte] at h0 ⊢; exact h0)
      omega
    exact ⟨hr, hfin listed vs w hs hC hR hr⟩
  | succ fuel ih =>
    intro listed vs w hs hu hcl hC hR
    refine ⟨hfin listed vs w hs hC hR, fun i hi => ?_⟩
    obtain ⟨h0, o, ho, hall⟩ := mem_ready.1 hi
    have hisz : i < ops.size := (Array.getElem?_eq_some_iff.1 ho).1
    have hil : i < listed.size := by omega
    have h0' : listed.getD i false = false := by simp only [Array.getD, hil, ↓reduceDIte] at h0 ⊢; exact h0
    obtain ⟨R, hRi⟩ : ∃ R, Rs[i]? = some R := ⟨Rs[i]'(by omega), List.getElem?_eq_getElem (by omega)⟩
    have hclo : ∀ j, ahead .any ops ops.size i j = true → listed.getD j false = true := fun j ha => ahead_listed hcl ops.size i j (fun o' ho' => by rw [ho] at ho'; cases ho'; exact hall) ha
    have hopn : ∀ j, ahead .any ops ops.size j i = true → listed.getD j false = false := fun j ha => by
      rcases hq : listed.getD j false with _ | _
      · rfl
      · have hl := ahead_listed hcl ops.size j i (fun o' ho' => hcl j o' ho' hq) ha
        rw [h0'] at hl; cases hl
    have hstep := hop i o R ho hRi vs (fun j => listed.getD j false) w ⟨h0', hclo, hopn⟩ hC (fun j' R' ha hv _ hR' => hR j' R' (ahead_listed hcl ops.size i j' (fun o' ho' => by rw [ho] at ho'; cases ho'; exact hall) ha) (fun i' hi' => by
        have hv' := List.all_eq_true.1 hv i' hi'
        simp only [Bool.or_eq_true, beq_iff_eq] at hv'
        rcases hv' with rfl | hv'
        · exact h0'
        · rcases hq : listed.getD i' false with _ | _
          · rfl
          · have hl := ahead_listed hcl ops.size i' i (fun o' ho' => hcl i' o' ho' hq) hv'
            rw [h0'] at hl; cases hl) hR')
      (wpAny P .any ops Q fuel (listed.setIfInBounds i true)) (fun a' v w' ha hRv hC' hT => by
        rw [ha, fillOps_upd ops.toList 0 a₀ vs i o v hap (by simpa using ho), Nat.zero_add]
        have hC9 : C (fun j => (listed.setIfInBounds i true).getD j false) w' := by
          have e : (fun j => (listed.setIfInBounds i true).getD j false) = Listed.but (fun j => listed.getD j false) i := by
            funext j
            unfold Listed.but
            by_cases e : j = i
            · subst e; rw [if_pos rfl]; exact getD_set_self hil
            · rw [if_neg e]; exact getD_set_ne false (Ne.symm e)
          rw [e]; exact hC'
        refine ih _ _ _ (by simpa using hs) ?_ ?_ hC9 ?_
        · have := unlisted_set hisz hs h0'; omega
        · intro j oj hoj hj e he hb
          by_cases hji : j = i
          · subst hji; rw [ho] at hoj; cases hoj; exact getD_set_true (hall e he hb)
          · rw [getD_set_ne false (Ne.symm hji)] at hj; exact getD_set_true (hcl j oj hoj hj e he hb)
        · intro j R' hj hbr hR'
          have key : ∀ (u' : Value), R'.R (vs R'.D) u' w' → R'.R (upd vs i v R'.D) u' w' := fun u' h => by
            by_cases hDi : R'.D = i
            · rcases (hst j R' hR').1 with hf | ha
              · exact hf _ _ _ _ h
              · exfalso
                have hl : listed.getD R'.D false = true := by
                  by_cases hji : j = i
                  · subst hji; exact ahead_listed hcl ops.size j _ (fun o' ho' => by rw [ho] at ho'; cases ho'; exact hall) ha
                  · rw [getD_set_ne false (Ne.symm hji)] at hj
                    exact ahead_listed hcl ops.size j _ (fun o' ho' => hcl j o' ho' hj) ha
                rw [hDi, h0'] at hl; cases hl
            · have : upd vs i v R'.D = vs R'.D := by unfold upd; rw [if_neg hDi]
              rw [this]; exact h
          unfold FactN.at
          by_cases hji : j = i
          · subst hji; rw [hRi] at hR'; cases hR'
            have : upd vs j v j = v := by unfold upd; rw [if_pos rfl]
            rw [this]
            exact key v hRv
          · rw [getD_set_ne false (Ne.symm hji)] at hj
            have hai : ahead .any ops ops.size j i = false := by
              rcases hq : ahead .any ops ops.size j i with _ | _
              · rfl
              · have hl := ahead_listed hcl ops.size j i (fun o' ho' => hcl j o' ho' hj) hq
                rw [h0'] at hl; cases hl
            have hib : i ∉ R'.Br := fun hm => by have h1 := hbr i hm; rw [getD_set_self hil] at h1; cases h1
            have hbr' : ∀ i' ∈ R'.Br, listed.getD i' false = false := fun i' hm => by
              have h1 := hbr i' hm
              by_cases e : i' = i
              · subst e; exact absurd hm hib
              · rwa [getD_set_ne false (Ne.symm e)] at h1
            have h3 := (hst j R' hR').2 i (Ne.symm hji) hib hai _ _ _ _ (hR j R' hj hbr' hR') hT
            have : upd vs i v j = vs j := by unfold upd; rw [if_neg hji]
            rw [this]
            refine key _ ?_
            exact h3)
    unfold wpOp
    simp only [ho]
    split
    · rename_i hw; rw [if_pos hw] at hstep; exact .inl hstep
    · rename_i hw; rw [if_neg hw] at hstep; exact hstep

/-- The region. -/
theorem wp_region_factsN {id : Nat} {a : Act} {w : World} {l : List Oper} (C : (Nat → Bool) → World → Prop) (T : Nat → World → World → Prop) (hm : P.follows .mixedOrders = true) (hap : dstsApart l = true) (hdn : edgesDown .any l.toArray = true)
    (hC : C (fun _ => false) w.drew) (h : wpFactsN P l.toArray Q C T (fun vs => fillOps vs l 0 a) 0 l []) : (Code.region id l.toArray true).wp P Q a w := by
  refine wp_region_any hm ?_
  obtain ⟨Rs, h1, h2, h3, h4⟩ := wpFactsN_all (ops := l.toArray) l 0 [] (by simp) rfl (by simp) (by simp) h
  obtain ⟨vs, hvs⟩ : ∃ vs : Nat → Value, ∀ i o t, l[i]? = some o → o.dst = some t → vs (0 + i) = a.tmps.getD t undef :=
    ⟨fun i => match (l[i]?).bind (·.dst) with | some t => a.tmps.getD t undef | none => undef, fun i o t hi ht => by simp [hi, ht]⟩
  have := wpAny_factsN (P := P) (Q := Q) (ops := l.toArray) (C := C) (T := T) (a₀ := a) hap hdn Rs (by simpa using h1) h2 h3 h4 l.toArray.size (Array.replicate l.toArray.size false) vs w.drew (by simp)
    (Nat.le_trans (List.length_filter_le _ _) (by simp)) (fun j o hj hl => by simp [Array.getD] at hl) (by
      have e : (fun j => (Array.replicate l.toArray.size false).getD j false) = fun _ => false := by funext j; simp [Array.getD]
      rw [e]; exact hC) (fun j R hl => by simp [Array.getD] at hl)
  rwa [fillOps_self vs _ 0 a (by simpa using hvs)] at this

theorem wpFactsN_nil {C : (Nat → Bool) → World → Prop} {T : Nat → World → World → Prop} {fr : (Nat → Value) → Act} {k : Nat} {Rs : List FactN} (h : ∀ vs L w, (∀ j, j < ops.size → L j = true) → C L w → (∀ (j : Nat) (R : FactN), R.Br = [] → Rs[j]? = some R → R.at vs j w) → Q .normal (fr vs) w) : wpFactsN P ops Q C T fr k [] Rs := h
/-- An operation with one value. -/
theorem wpFactsN_val {C : (Nat → Bool) → World → Prop} {T : Nat → World → World → Prop} {fr : (Nat → Value) → Act} {k : Nat} {o : Oper} {l : List Oper} {Rs : List FactN} (V : Value)
    (h1 : ∀ vs L w, Gone ops L k → C L w → (∀ (j : Nat) (R' : FactN), ahead .any ops ops.size k j = true → R'.live ops k = true → Rs[j]? = some R' → R'.at vs j w) → ∀ K : Act → World → Prop, (∀ a' w', a' = (fr vs).put o.dst V → C (Listed.but L k) w' → T k w w' → K a' w') →
      if Region.wanted o (yielded ops (fr vs).tmps) = true then o.wp P (fr vs) w K Q else K ((fr vs).put o.dst undef) w)
    (h2 : wpFactsN P ops Q C T fr (k + 1) l (Rs ++ [⟨0, fun _ v _ => v = V, []⟩])) : wpFactsN P ops Q C T fr k (o :: l) Rs :=
  ⟨⟨0, fun _ v _ => v = V, []⟩, .inl (fun _ _ _ _ h => h), fun _ _ _ _ _ _ _ _ h _ => h, fun vs L w hG hC hB K hK => h1 vs L w hG hC hB K fun a' w' ha hC' hT => hK a' V w' ha rfl hC' hT, h2⟩
/-- An operation whose value has a property. -/
theorem wpFactsN_some {C : (Nat → Bool) → World → Prop} {T : Nat → World → World → Prop} {fr : (Nat → Value) → Act} {k : Nat} {o : Oper} {l : List Oper} {Rs : List FactN} (Br : List Nat) (R : Value → World → Prop) (hR : ∀ i, i ≠ k → i ∉ Br → ahead .any ops ops.size k i = false → ∀ v w w', R v w → T i w w' → R v w')
    (h1 : ∀ vs L w, Gone ops L k → C L w → (∀ (j : Nat) (R' : FactN), ahead .any ops ops.size k j = true → R'.live ops k = true → Rs[j]? = some R' → R'.at vs j w) → ∀ K : Act → World → Prop, (∀ a' v w', a' = (fr vs).put o.dst v → R v w' → C (Listed.but L k) w' → T k w w' → K a' w') →
      if Region.wanted o (yielded ops (fr vs).tmps) = true then o.wp P (fr vs) w K Q else K ((fr vs).put o.dst undef) w)
    (h2 : wpFactsN P ops Q C T fr (k + 1) l (Rs ++ [⟨0, fun _ v w => R v w, Br⟩])) : wpFactsN P ops Q C T fr k (o :: l) Rs :=
  ⟨⟨0, fun _ v w => R v w, Br⟩, .inl (fun _ _ _ _ h => h), fun i hi hb ha _ v w w' h t => hR i hi hb ha v w w' h t, h1, h2⟩
/-- An operation whose value has a property that speaks of an operation ahead. -/
theorem wpFactsN_pair {C : (Nat → Bool) → World → Prop} {T : Nat → World → World → Prop} {fr : (Nat → Value) → Act} {k : Nat} {o : Oper} {l : List Oper} {Rs : List FactN} (Br : List Nat) (D : Nat) (R : Value → Value → World → Prop) (hD : ahead .any ops ops.size k D = true) (hR : ∀ i, i ≠ k → i ∉ Br → ahead .any ops ops.size k i = false → ∀ u v w w', R u v w → T i w w' → R u v w')
    (h1 : ∀ vs L w, Gone ops L k → C L w → (∀ (j : Nat) (R' : FactN), ahead .any ops ops.size k j = true → R'.live ops k = true → Rs[j]? = some R' → R'.at vs j w) → ∀ K : Act → World → Prop, (∀ a' v w', a' = (fr vs).put o.dst v → R (vs D) v w' → C (Listed.but L k) w' → T k w w' → K a' w') →
      if Region.wanted o (yielded ops (fr vs).tmps) = true then o.wp P (fr vs) w K Q else K ((fr vs).put o.dst undef) w)
    (h2 : wpFactsN P ops Q C T fr (k + 1) l (Rs ++ [⟨D, R, Br⟩])) : wpFactsN P ops Q C T fr k (o :: l) Rs :=
  ⟨⟨D, R, Br⟩, .inr hD, hR, h1, h2⟩
end
/-- One thing holds until operation s has been, another from then on. -/
def Sw (s : Nat) (C0 C1 : World → Prop) (L : Nat → Bool) (w : World) : Prop := if L s = true then C1 w else C0 w
section
variable {ops : Array Oper} {s k : Nat} {C0 C1 : World → Prop} {L : Nat → Bool} {w w' : World}
theorem Sw.start (h : C0 w) : Sw s C0 C1 (fun _ => false) w := by unfold Sw; rw [if_neg (by simp)]; exact h
theorem Sw.before (hG : Gone ops L k) (ha : ahead .any ops ops.size s k = true) (h : Sw s C0 C1 L w) : C0 w := by
  unfold Sw at h; rwa [if_neg (by rw [hG.open_ s ha]; simp)] at h
theorem Sw.stay (hG : Gone ops L k) (ha : ahead .any ops ops.size s k = true) (hne : s ≠ k) (h : C0 w) : Sw s C0 C1 (Listed.but L k) w := by
  unfold Sw Listed.but; rw [if_neg (by rw [if_neg hne, hG.open_ s ha]; simp)]; exact h
theorem Sw.here (hG : Gone ops L s) (h : Sw s C0 C1 L w) : C0 w := by unfold Sw at h; rwa [if_neg (by rw [hG.self]; simp)] at h
theorem Sw.turn (h : C1 w) : Sw s C0 C1 (Listed.but L s) w := by unfold Sw Listed.but; rw [if_pos (if_pos rfl)]; exact h
theorem Sw.after (hG : Gone ops L k) (ha : ahead .any ops ops.size k s = true) (h : Sw s C0 C1 L w) : C1 w := by unfold Sw at h; rwa [if_pos (hG.done s ha)] at h
theorem Sw.on (hG : Gone ops L k) (ha : ahead .any ops ops.size k s = true) (h : C1 w) : Sw s C0 C1 (Listed.but L k) w := by
  unfold Sw Listed.but; rw [if_pos (by rw [hG.done s ha]; simp)]; exact h
theorem Sw.both (hne : s ≠ k) (h0 : C0 w → C0 w') (h1 : C1 w → C1 w') (h : Sw s C0 C1 L w) : Sw s C0 C1 (Listed.but L k) w' := by
  unfold Sw Listed.but at *
  rw [if_neg hne]
  split at h
  · rename_i e; rw [if_pos e]; exact h1 h
  · rename_i e; rw [if_neg e]; exact h0 h
theorem Sw.done (hL : ∀ j, j < ops.size → L j = true) (hs : s < ops.size) (h : Sw s C0 C1 L w) : C1 w := by unfold Sw at h; rwa [if_pos (hL s hs)] at h
end
end Go.Proofs.Ytkokbmmffkpclaa

/- The facts law with its facts the other way round: cheap look-ups. -/
namespace Go.Proofs.Ytkokbmmffkpclaa
open Go.RowKit

section
variable {P : Program} {ops : Array Oper} {Q : Exit → Act → World → Prop}
/-- The same walk, the facts' list the other way round (its look-ups stay cheap). -/
def wpFactsR (P : Program) (ops : Array Oper) (Q : Exit → Act → World → Prop) (C : (Nat → Bool) → World → Prop) (T : Nat → World → World → Prop) (fr : (Nat → Value) → Act) : Nat → List Oper → List FactN → Prop
  | k, [], Rs => ∀ vs L w, (∀ j, j < ops.size → L j = true) → C L w → (∀ (j : Nat) (R : FactN), R.Br = [] → Rs[k - 1 - j]? = some R → j < k → R.at vs j w) → Q .normal (fr vs) w
  | k, o :: l, Rs => ∃ R : FactN, R.fine ops k ∧ R.firm ops T k ∧
    (∀ vs L w, Gone ops L k → C L w → (∀ (j : Nat) (R' : FactN), ahead .any ops ops.size k j = true → R'.live ops k = true → Rs[k - 1 - j]? = some R' → j < k → R'.at vs j w) → ∀ K : Act → World → Prop, (∀ a' v w', a' = (fr vs).put o.dst v → R.R (vs R.D) v w' → C (Listed.but L k) w' → T k w w' → K a' w') →
      if Region.wanted o (yielded ops (fr vs).tmps) = true then o.wp P (fr vs) w K Q else K ((fr vs).put o.dst undef) w) ∧
    wpFactsR P ops Q C T fr (k + 1) l (R :: Rs)
theorem rev_look {Rs : List FactN} {k j : Nat} {R : FactN} (hk : Rs.length = k) (h : Rs[k - 1 - j]? = some R) (hj : j < k) : Rs.reverse[j]? = some R := by
  rw [List.getElem?_reverse (by omega), hk]; exact h
theorem wpFactsR_N {C : (Nat → Bool) → World → Prop} {T : Nat → World → World → Prop} {fr : (Nat → Value) → Act} : ∀ (l : List Oper) (k : Nat) (Rs : List FactN), Rs.length = k → wpFactsR P ops Q C T fr k l Rs → wpFactsN P ops Q C T fr k l Rs.reverse
  | [], _, _, hk, h => fun vs L w hL hC hB => h vs L w hL hC fun j R hb hR hj => hB j R hb (rev_look hk hR hj)
  | _ :: l, k, Rs, hk, ⟨R, h1, h2, h3, h4⟩ => ⟨R, h1, h2, fun vs L w hG hC hB K hK => h3 vs L w hG hC (fun j R' ha hv hR hj => hB j R' ha hv (rev_look hk hR hj)) K hK, by
      have := wpFactsR_N l (k + 1) (R :: Rs) (by simp [hk]) h4
      rwa [List.reverse_cons] at this⟩
theorem wp_region_factsR {id : Nat} {a : Act} {w : World} {l : List Oper} (C : (Nat → Bool) → World → Prop) (T : Nat → World → World → Prop) (hm : P.follows .mixedOrders = true) (hap : dstsApart l = true) (hdn : edgesDown .any l.toArray = true)
    (hC : C (fun _ => false) w.drew) (h : wpFactsR P l.toArray Q C T (fun vs => fillOps vs l 0 a) 0 l []) : (Code.region id l.toArray true).wp P Q a w :=
  wp_region_factsN C T hm hap hdn hC (wpFactsR_N l 0 [] rfl h)
theorem wpFactsR_nil {C : (Nat → Bool) → World → Prop} {T : Nat → World → World → Prop} {fr : (Nat → Value) → Act} {k : Nat} {Rs : List FactN} (h : ∀ vs L w, (∀ j, j < ops.size → L j = true) → C L w → (∀ (j : Nat) (R : FactN), R.Br = [] → Rs[k - 1 - j]? = some R → j < k → R.at vs j w) → Q .normal (fr vs) w) : wpFactsR P ops Q C T fr k [] Rs := h
theorem wpFactsR_val {C : (Nat → Bool) → World → Prop} {T : Nat → World → World → Prop} {fr : (Nat → Value) → Act} {k : Nat} {o : Oper} {l : List Oper} {Rs : List FactN} (V : Value)
    (h1 : ∀ vs L w, Gone ops L k → C L w → (∀ (j : Nat) (R' : FactN), ahead .any ops ops.size k j = true → R'.live ops k = true → Rs[k - 1 - j]? = some R' → j < k → R'.at vs j w) → ∀ K : Act → World → Prop, (∀ a' w', a' = (fr vs).put o.dst V → C (Listed.but L k) w' → T k w w' → K a' w') →
      if Region.wanted o (yielded ops (fr vs).tmps) = true then o.wp P (fr vs) w K Q else K ((fr vs).put o.dst undef) w)
    (h2 : wpFactsR P ops Q C T fr (k + 1) l (⟨0, fun _ v _ => v = V, []⟩ :: Rs)) : wpFactsR P ops Q C T fr k (o :: l) Rs :=
  ⟨⟨0, fun _ v _ => v = V, []⟩, .inl (fun _ _ _ _ h => h), fun _ _ _ _ _ _ _ _ h _ => h, fun vs L w hG hC hB K hK => h1 vs L w hG hC hB K fun a' w' ha hC' hT => hK a' V w' ha rfl hC' hT, h2⟩
theorem wpFactsR_some {C : (Nat → Bool) → World → Prop} {T : Nat → World → World → Prop} {fr : (Nat → Value) → Act} {k : Nat} {o : Oper} {l : List Oper} {Rs : List FactN} (Br : List Nat) (R : Value → World → Prop) (hR : ∀ i, i ≠ k → i ∉ Br → ahead .any ops ops.size k i = false → ∀ v w w', R v w → T i w w' → R v w')
    (h1 : ∀ vs L w, Gone ops L k → C L w → (∀ (j : Nat) (R' : FactN), ahead .any ops ops.size k j = true → R'.live ops k = true → Rs[k - 1 - j]? = some R' → j < k → R'.at vs j w) → ∀ K : Act → World → Prop, (∀ a' v w', a' = (fr vs).put o.dst v → R v w' → C (Listed.but L k) w' → T k w w' → K a' w') →
      if Region.wanted o (yielded ops (fr vs).tmps) = true then o.wp P (fr vs) w K Q else K ((fr vs).put o.dst undef) w)
    (h2 : wpFactsR P ops Q C T fr (k + 1) l (⟨0, fun _ v w => R v w, Br⟩ :: Rs)) : wpFactsR P ops Q C T fr k (o :: l) Rs :=
  ⟨⟨0, fun _ v w => R v w, Br⟩, .inl (fun _ _ _ _ h => h), fun i hi hb ha _ v w w' h t => hR i hi hb ha v w w' h t, h1, h2⟩
theorem wpFactsR_pair {C : (Nat → Bool) → World → Prop} {T : Nat → World → World → Prop} {fr : (Nat → Value) → Act} {k : Nat} {o : Oper} {l : List Oper} {Rs : List FactN} (Br : List Nat) (D : Nat) (R : Value → Value → World → Prop) (hD : ahead .any ops ops.size k D = true) (hR : ∀ i, i ≠ k → i ∉ Br → ahead .any ops ops.size k i = false → ∀ u v w w', R u v w → T i w w' → R u v w')
    (h1 : ∀ vs L w, Gone ops L k → C L w → (∀ (j : Nat) (R' : FactN), ahead .any ops ops.size k j = true → R'.live ops k = true → Rs[k - 1 - j]? = some R' → j < k → R'.at vs j w) → ∀ K : Act → World → Prop, (∀ a' v w', a' = (fr vs).put o.dst v → R (vs D) v w' → C (Listed.but L k) w' → T k w w' → K a' w') →
      if Region.wanted o (yielded ops (fr vs).tmps) = true then o.wp P (fr vs) w K Q else K ((fr vs).put o.dst undef) w)
    (h2 : wpFactsR P ops Q C T fr (k + 1) l (⟨D, R, Br⟩ :: Rs)) : wpFactsR P ops Q C T fr k (o :: l) Rs :=
  ⟨⟨D, R, Br⟩, .inr hD, hR, h1, h2⟩
end
end Go.Proofs.Ytkokbmmffkpclaa
