/- By03: the texts AStOk AStOkS LotsP LotsG LotIx LotD, joined into one file. -/
import Derived.Laws.StructEq
import Derived.Test.YtkokbmmffkpclaaDoorBy02

set_option linter.unusedVariables false

/- Steps of an auction: which are valid. (Printed by gen_aste.py) -/
namespace Go.Proofs.YtkokbmmffkpclaaDoor
open Go.RowKit

theorem guardASt : Tryd.prog.eqGuardType Tryd.prog.depth 39 = false := by kernel_rfl
theorem heldASt : Tryd.prog.stoodInHeld 39 = false := by kernel_rfl
theorem fieldsASt : Tryd.prog.underlying 39 = some (.struct (Tryd.prog.fieldsOf 39)) := by kernel_rfl
theorem eqASt (s t : ASt) (w : World) : (binOp .eql 39 (.agg #[.int .i64 s.k, .int .i64 s.i, .int .i64 s.b, .int .i64 s.v]) (.agg #[.int .i64 t.k, .int .i64 t.i, .int .i64 t.b, .int .i64 t.v])).run Tryd.prog w = .ok (.bool (s.k == t.k && s.i == t.i && s.b == t.b && s.v == t.v)) w := by
  rw [run_eql_struct, run_equalIn_agg _ _ _ _ _ fieldsASt heldASt]
  have e : ∀ (d : Nat) (a b : Int) (w : World), (Op.equalIn (d + 1) 3 (.int .i64 a) (.int .i64 b)).run Tryd.prog w = .ok (a == b) w := fun d a b w => run_equalIn_int w d 3 .i64 .i64 a b Tryd.underlying3
  cases h1 : s.k == t.k <;> cases h2 : s.i == t.i <;> cases h3 : s.b == t.b <;> cases h4 : s.v == t.v <;> simp [Program.fieldsOf, Tryd.underlying39, Op.eqFields, go_sem, e, h1, h2, h3, h4]
theorem guardEqASt (x y : Operand) (xs ys : Array Value) (w : World) : (eqGuard .eql 39 x y (.agg xs) (.agg ys)).run Tryd.prog w = .ok () w := run_eqGuard_agg w .eql 39 x y xs ys guardASt

set_option maxHeartbeats 4000000 in
theorem isAuctionStep_any (s : ASt) (w : World) : Calls Tryd.prog 35 #[s.val] w fun e w' => e = .returned (.bool s.ok) ∧ Below w.heap.size w w' := by
  by_cases h1 : s.k = 1
  · have HS : Hid (s.ok = (inR s.i 1 99 && (s.b == 0) && inR s.v 0 99999)) := by unfold ASt.ok; simp [Hid, h1]
    have b1 : (s.k == 1) = true := by simp [h1]
    have b2 : (s.k == 2) = false := by simp [h1]
    have b3 : (s.k == 3) = false := by simp [h1]
    have b4 : (s.k == 4) = false := by simp [h1]
    have b5 : (s.k == 5) = false := by simp [h1]
    have b6 : (s.k == 6) = false := by simp [h1]
    clear h1
    go_enter Tryd.func35, Tryd.ntmps35
    go_wp2_with (go_at_call 25; refine (inRange_any _ _ _ _).mono ?_; rintro e w1 ⟨rfl, rfl⟩)
    all_goals (go_ret; exact ⟨by rw [HS.out]; simp [*], (Below.refl _ _).alloc (Nat.le_refl _) _⟩)
  by_cases h2 : s.k = 2
  · have HS : Hid (s.ok = (inR s.i 1 99 && (s.b == 0) && (s.v == 0))) := by unfold ASt.ok; simp [Hid, h2]
    have b1 : (s.k == 1) = false := by simp [h2]
    have b2 : (s.k == 2) = true := by simp [h2]
    have b3 : (s.k == 3) = false := by simp [h2]
    have b4 : (s.k == 4) = false := by simp [h2]
    have b5 : (s.k == 5) = false := by simp [h2]
    have b6 : (s.k == 6) = false := by simp [h2]
    clear h1 h2
    go_enter Tryd.func35, Tryd.ntmps35
    go_wp2_with (go_at_call 25; refine (inRange_any _ _ _ _).mono ?_; rintro e w1 ⟨rfl, rfl⟩)
    all_goals (go_ret; exact ⟨by rw [HS.out]; simp [*], (Below.refl _ _).alloc (Nat.le_refl _) _⟩)
  by_cases h3 : s.k = 3
  · have HS : Hid (s.ok = (inR s.i 1 99 && (s.b == 0) && (s.v == 0))) := by unfold ASt.ok; simp [Hid, h3]
    have b1 : (s.k == 1) = false := by simp [h3]
    have b2 : (s.k == 2) = false := by simp [h3]
    have b3 : (s.k == 3) = true := by simp [h3]
    have b4 : (s.k == 4) = false := by simp [h3]
    have b5 : (s.k == 5) = false := by simp [h3]
    have b6 : (s.k == 6) = false := by simp [h3]
    clear h1 h2 h3
    go_enter Tryd.func35, Tryd.ntmps35
    go_wp2_with (go_at_call 25; refine (inRange_any _ _ _ _).mono ?_; rintro e w1 ⟨rfl, rfl⟩)
    all_goals (go_ret; exact ⟨by rw [HS.out]; simp [*], (Below.refl _ _).alloc (Nat.le_refl _) _⟩)
  by_cases h4 : s.k = 4
  · have HS : Hid (s.ok = ((s.i == 0) && inR s.b 1 999 && inR s.v 1 99999)) := by unfold ASt.ok; simp [Hid, h4]
    have b1 : (s.k == 1) = false := by simp [h4]
    have b2 : (s.k == 2) = false := by simp [h4]
    have b3 : (s.k == 3) = false := by simp [h4]
    have b4 : (s.k == 4) = true := by simp [h4]
    have b5 : (s.k == 5) = false := by simp [h4]
    have b6 : (s.k == 6) = false := by simp [h4]
    clear h1 h2 h3 h4
    go_enter Tryd.func35, Tryd.ntmps35
    go_wp2_with (go_at_call 25; refine (inRange_any _ _ _ _).mono ?_; rintro e w1 ⟨rfl, rfl⟩)
    all_goals (go_ret; exact ⟨by rw [HS.out]; simp [*], (Below.refl _ _).alloc (Nat.le_refl _) _⟩)
  by_cases h5 : s.k = 5
  · have HS : Hid (s.ok = ((s.i == 0) && (s.b == 0) && (s.v == 0))) := by unfold ASt.ok; simp [Hid, h5]
    have b1 : (s.k == 1) = false := by simp [h5]
    have b2 : (s.k == 2) = false := by simp [h5]
    have b3 : (s.k == 3) = false := by simp [h5]
    have b4 : (s.k == 4) = false := by simp [h5]
    have b5 : (s.k == 5) = true := by simp [h5]
    have b6 : (s.k == 6) = false := by simp [h5]
    have hq := fun w => eqASt s ⟨5, 0, 0, 0⟩ w
    have hg := guardEqASt
    simp only [b5, Bool.true_and] at hq
    clear h1 h2 h3 h4 h5
    go_enter Tryd.func35, Tryd.ntmps35
    go_wp2_with (go_at_call 25; refine (inRange_any _ _ _ _).mono ?_; rintro e w1 ⟨rfl, rfl⟩)
    all_goals (go_ret; exact ⟨by rw [HS.out]; simp [*], (Below.refl _ _).alloc (Nat.le_refl _) _⟩)
  by_cases h6 : s.k = 6
  · have HS : Hid (s.ok = (inR s.i 1 99 && (s.b == 0) && (s.v == 0))) := by unfold ASt.ok; simp [Hid, h6]
    have b1 : (s.k == 1) = false := by simp [h6]
    have b2 : (s.k == 2) = false := by simp [h6]
    have b3 : (s.k == 3) = false := by simp [h6]
    have b4 : (s.k == 4) = false := by simp [h6]
    have b5 : (s.k == 5) = false := by simp [h6]
    have b6 : (s.k == 6) = true := by simp [h6]
    clear h1 h2 h3 h4 h5 h6
    go_enter Tryd.func35, Tryd.ntmps35
    go_wp2_with (go_at_call 25; refine (inRange_any _ _ _ _).mono ?_; rintro e w1 ⟨rfl, rfl⟩)
    all_goals (go_ret; exact ⟨by rw [HS.out]; simp [*], (Below.refl _ _).alloc (Nat.le_refl _) _⟩)
  · have HS : Hid (s.ok = false) := by unfold ASt.ok; simp [Hid, h1, h2, h3, h4, h5, h6]
    have b1 : (s.k == 1) = false := by simp [h1]
    have b2 : (s.k == 2) = false := by simp [h2]
    have b3 : (s.k == 3) = false := by simp [h3]
    have b4 : (s.k == 4) = false := by simp [h4]
    have b5 : (s.k == 5) = false := by simp [h5]
    have b6 : (s.k == 6) = false := by simp [h6]
    clear h1 h2 h3 h4 h5 h6
    go_enter Tryd.func35, Tryd.ntmps35
    go_wp2_with fail
    all_goals (go_ret; exact ⟨by rw [HS.out]; rfl, (Below.refl _ _).alloc (Nat.le_refl _) _⟩)
end Go.Proofs.YtkokbmmffkpclaaDoor

/- Steps of an auction: which are valid, in the reference. (Printed by gen_astes.py) -/
namespace Go.Proofs.YtkokbmmffkpclaaDoor
open Go.RowKit

set_option maxHeartbeats 4000000 in
theorem l29Step_any (s : ASt) (w : World) : Calls Tryd.prog 56 #[s.val] w fun e w' => e = .returned (.bool s.ok) ∧ Below w.heap.size w w' := by
  have r1 := fun W => l1In_any s.i 1 99 W
  obtain ⟨id, hid⟩ : ∃ z, inR s.i 1 99 = z := ⟨_, rfl⟩
  rw [hid] at r1
  by_cases h1 : s.k = 1
  · have HS : Hid (s.ok = (id && (s.b == 0) && inR s.v 0 99999)) := by unfold ASt.ok; simp [Hid, h1, hid]
    have b1 : (s.k == 1) = true := by simp [h1]
    have b2 : (s.k == 2) = false := by simp [h1]
    have b3 : (s.k == 3) = false := by simp [h1]
    have b4 : (s.k == 4) = false := by simp [h1]
    have b5 : (s.k == 5) = false := by simp [h1]
    have b6 : (s.k == 6) = false := by simp [h1]
    clear hid h1
    cases id
    all_goals
      go_enter Tryd.func56, Tryd.ntmps56
      go_wp2_with fail
      refine (r1 _).mono ?_
      rintro e w1 ⟨rfl, rfl⟩
      go_wp2_with (go_at_call 28; refine (l1In_any _ _ _ _).mono ?_; rintro e w1 ⟨rfl, rfl⟩)
      all_goals (go_ret; exact ⟨by rw [HS.out]; simp [*], (Below.refl _ _).alloc (Nat.le_refl _) _⟩)
  by_cases h2 : s.k = 2
  · have HS : Hid (s.ok = (id && (s.b == 0) && (s.v == 0))) := by unfold ASt.ok; simp [Hid, h2, hid]
    have b1 : (s.k == 1) = false := by simp [h2]
    have b2 : (s.k == 2) = true := by simp [h2]
    have b3 : (s.k == 3) = false := by simp [h2]
    have b4 : (s.k == 4) = false := by simp [h2]
    have b5 : (s.k == 5) = false := by simp [h2]
    have b6 : (s.k == 6) = false := by simp [h2]
    clear hid h1 h2
    cases id
    all_goals
      go_enter Tryd.func56, Tryd.ntmps56
      go_wp2_with fail
      refine (r1 _).mono ?_
      rintro e w1 ⟨rfl, rfl⟩
      go_wp2_with (go_at_call 28; refine (l1In_any _ _ _ _).mono ?_; rintro e w1 ⟨rfl, rfl⟩)
      all_goals (go_ret; exact ⟨by rw [HS.out]; simp [*], (Below.refl _ _).alloc (Nat.le_refl _) _⟩)
  by_cases h3 : s.k = 3
  · have HS : Hid (s.ok = (id && (s.b == 0) && (s.v == 0))) := by unfold ASt.ok; simp [Hid, h3, hid]
    have b1 : (s.k == 1) = false := by simp [h3]
    have b2 : (s.k == 2) = false := by simp [h3]
    have b3 : (s.k == 3) = true := by simp [h3]
    have b4 : (s.k == 4) = false := by simp [h3]
    have b5 : (s.k == 5) = false := by simp [h3]
    have b6 : (s.k == 6) = false := by simp [h3]
    clear hid h1 h2 h3
    cases id
    all_goals
      go_enter Tryd.func56, Tryd.ntmps56
      go_wp2_with fail
      refine (r1 _).mono ?_
      rintro e w1 ⟨rfl, rfl⟩
      go_wp2_with (go_at_call 28; refine (l1In_any _ _ _ _).mono ?_; rintro e w1 ⟨rfl, rfl⟩)
      all_goals (go_ret; exact ⟨by rw [HS.out]; simp [*], (Below.refl _ _).alloc (Nat.le_refl _) _⟩)
  by_cases h4 : s.k = 4
  · have HS : Hid (s.ok = ((s.i == 0) && inR s.b 1 999 && inR s.v 1 99999)) := by unfold ASt.ok; simp [Hid, h4]
    have b1 : (s.k == 1) = false := by simp [h4]
    have b2 : (s.k == 2) = false := by simp [h4]
    have b3 : (s.k == 3) = false := by simp [h4]
    have b4 : (s.k == 4) = true := by simp [h4]
    have b5 : (s.k == 5) = false := by simp [h4]
    have b6 : (s.k == 6) = false := by simp [h4]
    clear hid h1 h2 h3 h4
    cases id
    all_goals
      go_enter Tryd.func56, Tryd.ntmps56
      go_wp2_with fail
      refine (r1 _).mono ?_
      rintro e w1 ⟨rfl, rfl⟩
      go_wp2_with (go_at_call 28; refine (l1In_any _ _ _ _).mono ?_; rintro e w1 ⟨rfl, rfl⟩)
      all_goals (go_ret; exact ⟨by rw [HS.out]; simp [*], (Below.refl _ _).alloc (Nat.le_refl _) _⟩)
  by_cases h5 : s.k = 5
  · have HS : Hid (s.ok = ((s.i == 0) && (s.b == 0) && (s.v == 0))) := by unfold ASt.ok; simp [Hid, h5]
    have b1 : (s.k == 1) = false := by simp [h5]
    have b2 : (s.k == 2) = false := by simp [h5]
    have b3 : (s.k == 3) = false := by simp [h5]
    have b4 : (s.k == 4) = false := by simp [h5]
    have b5 : (s.k == 5) = true := by simp [h5]
    have b6 : (s.k == 6) = false := by simp [h5]
    clear hid h1 h2 h3 h4 h5
    cases id
    all_goals
      go_enter Tryd.func56, Tryd.ntmps56
      go_wp2_with fail
      refine (r1 _).mono ?_
      rintro e w1 ⟨rfl, rfl⟩
      go_wp2_with (go_at_call 28; refine (l1In_any _ _ _ _).mono ?_; rintro e w1 ⟨rfl, rfl⟩)
      all_goals (go_ret; exact ⟨by rw [HS.out]; simp [*], (Below.refl _ _).alloc (Nat.le_refl _) _⟩)
  by_cases h6 : s.k = 6
  · have HS : Hid (s.ok = (id && (s.b == 0) && (s.v == 0))) := by unfold ASt.ok; simp [Hid, h6, hid]
    have b1 : (s.k == 1) = false := by simp [h6]
    have b2 : (s.k == 2) = false := by simp [h6]
    have b3 : (s.k == 3) = false := by simp [h6]
    have b4 : (s.k == 4) = false := by simp [h6]
    have b5 : (s.k == 5) = false := by simp [h6]
    have b6 : (s.k == 6) = true := by simp [h6]
    clear hid h1 h2 h3 h4 h5 h6
    cases id
    all_goals
      go_enter Tryd.func56, Tryd.ntmps56
      go_wp2_with fail
      refine (r1 _).mono ?_
      rintro e w1 ⟨rfl, rfl⟩
      go_wp2_with (go_at_call 28; refine (l1In_any _ _ _ _).mono ?_; rintro e w1 ⟨rfl, rfl⟩)
      all_goals (go_ret; exact ⟨by rw [HS.out]; simp [*], (Below.refl _ _).alloc (Nat.le_refl _) _⟩)
  · have HS : Hid (s.ok = false) := by unfold ASt.ok; simp [Hid, h1, h2, h3, h4, h5, h6]
    have b1 : (s.k == 1) = false := by simp [h1]
    have b2 : (s.k == 2) = false := by simp [h2]
    have b3 : (s.k == 3) = false := by simp [h3]
    have b4 : (s.k == 4) = false := by simp [h4]
    have b5 : (s.k == 5) = false := by simp [h5]
    have b6 : (s.k == 6) = false := by simp [h6]
    clear hid h1 h2 h3 h4 h5 h6
    go_enter Tryd.func56, Tryd.ntmps56
    go_wp2_with fail
    refine (r1 _).mono ?_
    rintro e w1 ⟨rfl, rfl⟩
    go_wp2_with fail
    all_goals (go_ret; exact ⟨by rw [HS.out]; rfl, (Below.refl _ _).alloc (Nat.le_refl _) _⟩)
end Go.Proofs.YtkokbmmffkpclaaDoor

/- Lists of lots: which are an auction (plain). -/
namespace Go.Proofs.YtkokbmmffkpclaaDoor
open Go.RowKit

def lotsFrom : Nat → Int → List Lot → Bool
  | _, _, [] => true
  | n, p, r :: l => r.ok && (decide (n = 0) || decide (p < r.i)) && lotsFrom (n + 1) r.i l
/-- How many lots are open. -/
def opens : List Lot → Nat
  | [] => 0
  | r :: l => (if r.s = 1 then 1 else 0) + opens l
def goodLots (l : List Lot) : Bool := lotsFrom 0 0 l && decide (l.length ≤ 8) && decide (opens l ≤ 1)
theorem lotsFrom_step {n : Nat} {p : Int} {l : List Lot} {k : Nat} (h : k < l.length) : lotsFrom n p (l.drop k) = (l[k].ok && (decide (n = 0) || decide (p < l[k].i)) && lotsFrom (n + 1) l[k].i (l.drop (k + 1))) := by
  rw [List.drop_eq_getElem_cons h]; rfl
theorem opens_step {l : List Lot} {k : Nat} (h : k < l.length) : opens (l.drop k) = (if l[k].s = 1 then 1 else 0) + opens (l.drop (k + 1)) := by
  rw [List.drop_eq_getElem_cons h]; rfl
theorem opens_le : ∀ l : List Lot, opens l ≤ l.length
  | [] => Nat.le_refl _
  | r :: l => by
    have := opens_le l
    unfold opens
    rw [List.length_cons]; split <;> omega
theorem lotsFrom_all : ∀ (l : List Lot) (n : Nat) (p : Int), lotsFrom n p l = true → ∀ i (h : i < l.length), l[i].ok = true
  | r :: l, n, p, hg, i, hi => by
    simp only [lotsFrom, Bool.and_eq_true] at hg
    cases i with
    | zero => exact hg.1.1
    | succ i => exact lotsFrom_all l _ _ hg.2 i (by simpa using hi)
/-- The rest of a list from place n on, behind a lot of the number prev, with op open lots so far. -/
def goodGo : Nat → Int → Nat → List Lot → Bool
  | n, _, op, [] => decide (n ≤ 8) && decide (op ≤ 1)
  | n, prev, op, r :: rest => r.ok && (decide (n = 0) || decide (prev < r.i)) && goodGo (n + 1) r.i (op + (if r.s = 1 then 1 else 0)) rest
theorem goodGo_eq : ∀ (l : List Lot) (n : Nat) (p : Int) (op : Nat), goodGo n p op l = (lotsFrom n p l && decide (n + l.length ≤ 8) && decide (op + opens l ≤ 1))
  | [], n, p, op => by simp only [goodGo, lotsFrom, opens, List.length_nil, Nat.add_zero, Bool.true_and]; rfl
  | r :: l, n, p, op => by
    simp only [goodGo, lotsFrom, opens, goodGo_eq l, List.length_cons, Bool.and_assoc]
    rw [show n + 1 + l.length = n + (l.length + 1) by omega, Nat.add_assoc op]
    rfl
theorem goodGo_zero (l : List Lot) : goodGo 0 0 0 l = goodLots l := by
  rw [goodGo_eq, Nat.zero_add, Nat.zero_add]; rfl
theorem goodGo_step {n op : Nat} {p : Int} {l : List Lot} {k : Nat} (h : k < l.length) : goodGo n p op (l.drop k) = (l[k].ok && (decide (n = 0) || decide (p < l[k].i)) && goodGo (n + 1) l[k].i (op + (if l[k].s = 1 then 1 else 0)) (l.drop (k + 1))) := by
  rw [List.drop_eq_getElem_cons h]; rfl
end Go.Proofs.YtkokbmmffkpclaaDoor

/- Validity of a list of lots, in the reference and in the program. (Printed by gen_lotsg.py) -/
namespace Go.Proofs.YtkokbmmffkpclaaDoor
open Go.RowKit

set_option maxHeartbeats 4000000 in
theorem l29Good_any (A : Option Addr) (c : Nat) (l : List Lot) (w : World) (h : LotsR w w.heap.size A l) :
    Calls Tryd.prog 27 #[.slice A l.length c] w fun e w' => e = .returned (.bool (goodLots l)) ∧ Below w.heap.size w w' := by
  have hl := h.big
  have hrd := h.el
  go_enter Tryd.func27, Tryd.ntmps27
  go_wp2
  go_loopw [3, 4] (fun o i wr => ∃ (k : Nat) (prev : Int) (op : Nat), k ≤ l.length ∧ op ≤ k ∧ i = .int .i64 k ∧ o = .int .i64 op ∧ (∃ q : Since w.heap.size w, wr = q.val) ∧ Hid (goodGo k prev op (l.drop k) = goodLots l) ∧ Hid (∀ (_hk : 0 < k) (h' : k - 1 < l.length), prev = l[k - 1].i)) (fun o i _ => l.length - (intOf i).toNat)
  case atStart => exact ⟨0, 0, 0, Nat.zero_le _, Nat.le_refl _, rfl, rfl, ⟨Since.start _ _, rfl⟩, goodGo_zero l, fun h => absurd h (by omega)⟩
  case round =>
    obtain ⟨k, prev, op, hk, hop, rfl, rfl, ⟨q, rfl⟩, HR, HP⟩ := hrel
    by_cases hlt : k < l.length
    · obtain ⟨b, off, rfl, hb, hcell⟩ := hrd (by omega)
      obtain ⟨c0, c1, c2, c3, c4⟩ := hcell k hlt
      have HC : Hid (0 < k → ∀ p : Since w.heap.size w, p.val.cell? ⟨b, off + (k - 1) * 5, none⟩ = some (.int .i64 prev)) := fun h p => by
        rw [HP.out h (by omega)]; exact (hcell (k - 1) (by omega)).c0 p
      obtain ⟨x, hxe⟩ : ∃ x, x = l[k] := ⟨_, rfl⟩
      rw [← hxe] at c0 c1 c2 c3 c4
      have hstep : Hid (goodGo k prev op (l.drop k) = (x.ok && (decide (k = 0) || decide (prev < x.i)) && goodGo (k + 1) x.i (op + (if x.s = 1 then 1 else 0)) (l.drop (k + 1)))) := by
        rw [hxe]; exact goodGo_step hlt
      have HX := Lib.hid hxe; clear hxe
      clear hcell hrd
      have HN : Hid (∀ (_hk : 0 < k + 1) (h' : k + 1 - 1 < l.length), x.i = l[k + 1 - 1].i) := fun _ h' => by rw [HX.out]; rfl
      obtain ⟨v, hv⟩ : ∃ v, x.ok = v := ⟨_, rfl⟩
      have HV := Lib.hid hv; clear hv
      have HS1 : Hid ((x.s == 1) = true → (op + (if x.s = 1 then 1 else 0)) = op + 1) := fun h => by rw [if_pos (eq_of_beq h)]
      have HS0 : Hid ((x.s == 1) = false → (op + (if x.s = 1 then 1 else 0)) = op) := fun h => by rw [if_neg (ne_of_beq_false h)]; rfl
      rcases Nat.eq_zero_or_pos k with h0 | h0
      · have hd : decide (0 < k) = false := decide_eq_false (by omega)
        have H0 := Lib.hid h0; clear h0
        cases v
        all_goals
          go_wp2
          refine wp_region_since _ (by kernel_rfl) (by kernel_rfl) ?_
          repeat (any_goals (first | go_big_quiet_step ((go_at_call 39; refine calls_sinceB HV (Nat.le_refl _) (l29One_any x _))) | (refine wpQuiet_step (fun K hK => ?_); go_simp; split <;> (refine hK _ ?_; clear hK K))))
          all_goals (refine wpQuiet_nil ?_; rintro _ ⟨q1, rfl⟩)
          all_goals go_wp2
        · go_ret
          refine ⟨?_, q1.below⟩
          rw [← HR.out, hstep.out, HV.out]; rfl
        all_goals
          go_roundw
          case rel =>
            have h1 := HR.out
            rw [hstep.out, HV.out, decide_eq_true H0.out] at h1
            first
              | (rw [HS1.out (by assumption)] at h1; exact ⟨k + 1, x.i, op + 1, by omega, by omega, by go_num, by go_num, ⟨q1, rfl⟩, h1, HN⟩)
              | (rw [HS0.out (by assumption)] at h1; exact ⟨k + 1, x.i, op, by omega, by omega, by go_num, rfl, ⟨q1, rfl⟩, h1, HN⟩)
          case measure => simp [intOf]; omega
      · have c5 := HC.out h0
        have h0' : (0 : Int) < (k : Int) := by omega
        cases v
        all_goals
          go_wp2
          refine wp_region_since _ (by kernel_rfl) (by kernel_rfl) ?_
          repeat (any_goals (first | go_big_quiet_step ((go_at_call 39; refine calls_sinceB HV (Nat.le_refl _) (l29One_any x _))) | (refine wpQuiet_step (fun K hK => ?_); go_simp; split <;> (refine hK _ ?_; clear hK K))))
          all_goals (refine wpQuiet_nil ?_; rintro _ ⟨q1, rfl⟩)
          all_goals go_wp2
        all_goals first
          | (go_ret
             refine ⟨?_, q1.below⟩
             rw [← HR.out, hstep.out, HV.out]; rfl)
          | (go_ret
             refine ⟨?_, q1.below⟩
             have hm : x.i ≤ prev := by assumption
             rw [← HR.out, hstep.out, HV.out, decide_eq_false (by omega : ¬ k = 0), decide_eq_false (by omega : ¬ prev < x.i)]; rfl)
          | (have hm : prev < x.i := by assumption
             go_roundw
             case rel =>
               have h1 := HR.out
               rw [hstep.out, HV.out, decide_eq_true hm, Bool.or_true] at h1
               first
                 | (rw [HS1.out (by assumption)] at h1; exact ⟨k + 1, x.i, op + 1, by omega, by omega, by go_num, by go_num, ⟨q1, rfl⟩, h1, HN⟩)
                 | (rw [HS0.out (by assumption)] at h1; exact ⟨k + 1, x.i, op, by omega, by omega, by go_num, rfl, ⟨q1, rfl⟩, h1, HN⟩)
             case measure => simp [intOf]; omega)
    · have HK : Hid (k = l.length) := by unfold Hid; omega
      clear hrd
      go_wp2
      all_goals
        go_ret
        refine ⟨?_, q.below⟩
        rw [← HR.out, List.drop_eq_nil_of_le (by omega), HK.out]
        show _ = Ending.returned (.bool (decide (l.length ≤ 8) && decide (op ≤ 1)))
        have := HK.out
        first
          | (simp; omega)
          | (simp; rw [decide_eq_true (by omega : l.length ≤ 8), Bool.true_and]; exact decide_eq_decide.2 (by omega))

set_option maxHeartbeats 4000000 in
theorem isAuction_any (A : Option Addr) (c : Nat) (l : List Lot) (w : World) (h : LotsR w w.heap.size A l) :
    Calls Tryd.prog 24 #[.slice A l.length c] w fun e w' => e = .returned (.bool (goodLots l)) ∧ Below w.heap.size w w' := by
  have hl := h.big
  have hrd := h.el
  go_enter Tryd.func24, Tryd.ntmps24
  go_wp2
  go_loopw [3, 8] (fun o i wr => ∃ (k : Nat) (prev : Int) (op : Nat), k ≤ l.length ∧ op ≤ k ∧ i = .int .i64 k ∧ o = .int .i64 op ∧ (∃ q : Since w.heap.size w, wr = q.val) ∧ Hid (goodGo k prev op (l.drop k) = goodLots l) ∧ Hid (∀ (_hk : 0 < k) (h' : k - 1 < l.length), prev = l[k - 1].i)) (fun o i _ => l.length - (intOf i).toNat)
  case atStart => exact ⟨0, 0, 0, Nat.zero_le _, Nat.le_refl _, rfl, rfl, ⟨Since.start _ _, rfl⟩, goodGo_zero l, fun h => absurd h (by omega)⟩
  case round =>
    obtain ⟨k, prev, op, hk, hop, rfl, rfl, ⟨q, rfl⟩, HR, HP⟩ := hrel
    by_cases hlt : k < l.length
    · obtain ⟨b, off, rfl, hb, hcell⟩ := hrd (by omega)
      obtain ⟨c0, c1, c2, c3, c4⟩ := hcell k hlt
      have HC : Hid (0 < k → ∀ p : Since w.heap.size w, p.val.cell? ⟨b, off + (k - 1) * 5, none⟩ = some (.int .i64 prev)) := fun h p => by
        rw [HP.out h (by omega)]; exact (hcell (k - 1) (by omega)).c0 p
      obtain ⟨x, hxe⟩ : ∃ x, x = l[k] := ⟨_, rfl⟩
      rw [← hxe] at c0 c1 c2 c3 c4
      have hstep : Hid (goodGo k prev op (l.drop k) = (x.ok && (decide (k = 0) || decide (prev < x.i)) && goodGo (k + 1) x.i (op + (if x.s = 1 then 1 else 0)) (l.drop (k + 1)))) := by
        rw [hxe]; exact goodGo_step hlt
      have HX := Lib.hid hxe; clear hxe
      clear hcell hrd
      have HN : Hid (∀ (_hk : 0 < k + 1) (h' : k + 1 - 1 < l.length), x.i = l[k + 1 - 1].i) := fun _ h' => by rw [HX.out]; rfl
      obtain ⟨v, hv⟩ : ∃ v, x.ok = v := ⟨_, rfl⟩
      have HV := Lib.hid hv; clear hv
      have HS1 : Hid ((x.s == 1) = true → (op + (if x.s = 1 then 1 else 0)) = op + 1) := fun h => by rw [if_pos (eq_of_beq h)]
      have HS0 : Hid ((x.s == 1) = false → (op + (if x.s = 1 then 1 else 0)) = op) := fun h => by rw [if_neg (ne_of_beq_false h)]; rfl
      go_wp2
      have hbW := (q.below.alloc q.size (.cells #[.int .i64 x.i, .int .i64 x.r, .int .i64 x.s, .int .i64 x.h, .int .i64 x.b] 41))
      have hlW := Lies.new q.val 41 #[.int .i64 x.i, .int .i64 x.r, .int .i64 x.s, .int .i64 x.h, .int .i64 x.b]
      generalize q.val.alloc (.cells #[.int .i64 x.i, .int .i64 x.r, .int .i64 x.s, .int .i64 x.h, .int .i64 x.b] 41) = W at hbW hlW ⊢
      generalize q.val.heap.size = g at hlW ⊢
      obtain ⟨d0, d1, d2, d3, d4⟩ := LotS.of (r := x) hlW
      clear c0 c1 c2 c3 c4
      rcases Nat.eq_zero_or_pos k with h0 | h0
      · have hd : decide (0 < k) = false := decide_eq_false (by omega)
        have H0 := Lib.hid h0; clear h0
        cases v
        all_goals
          refine wp_region_since0 (by kernel_rfl) (by kernel_rfl) ?_
          repeat (any_goals (first | go_big_quiet_step ((go_at_call 43; refine calls_sinceB HV (Nat.le_refl _) (isSaleLot_any x _))) | (refine wpQuiet_step (fun K hK => ?_); go_simp; split <;> (refine hK _ ?_; clear hK K))))
          all_goals (refine wpQuiet_nil ?_; rintro _ ⟨q1, rfl⟩)
          all_goals have hb1 := hbW.trans (q1.below.mono hbW.size)
          all_goals go_wp2
        · go_ret
          refine ⟨?_, hb1⟩
          rw [← HR.out, hstep.out, HV.out]; rfl
        all_goals
          go_roundw
          case rel =>
            have h1 := HR.out
            rw [hstep.out, HV.out, decide_eq_true H0.out] at h1
            first
              | (rw [HS1.out (by assumption)] at h1; exact ⟨k + 1, x.i, op + 1, by omega, by omega, by go_num, by go_num, ⟨⟨_, hb1⟩, rfl⟩, h1, HN⟩)
              | (rw [HS0.out (by assumption)] at h1; exact ⟨k + 1, x.i, op, by omega, by omega, by go_num, rfl, ⟨⟨_, hb1⟩, rfl⟩, h1, HN⟩)
          case measure => simp [intOf]; omega
      · have c5 : ∀ p : Since W.heap.size W, p.val.cell? ⟨b, off + (k - 1) * 5, none⟩ = some (.int .i64 prev) := fun p => HC.out h0 ⟨p.val, hbW.trans (p.below.mono hbW.size)⟩
        have h0' : (0 : Int) < (k : Int) := by omega
        cases v
        all_goals
          refine wp_region_since0 (by kernel_rfl) (by kernel_rfl) ?_
          repeat (any_goals (first | go_big_quiet_step ((go_at_call 43; refine calls_sinceB HV (Nat.le_refl _) (isSaleLot_any x _))) | (refine wpQuiet_step (fun K hK => ?_); go_simp; split <;> (refine hK _ ?_; clear hK K))))
          all_goals (refine wpQuiet_nil ?_; rintro _ ⟨q1, rfl⟩)
          all_goals have hb1 := hbW.trans (q1.below.mono hbW.size)
          all_goals go_wp2
        all_goals first
          | (go_ret
             refine ⟨?_, hb1⟩
             rw [← HR.out, hstep.out, HV.out]; rfl)
          | (go_ret
             refine ⟨?_, hb1⟩
             have hm : x.i ≤ prev := by assumption
             rw [← HR.out, hstep.out, HV.out, decide_eq_false (by omega : ¬ k = 0), decide_eq_false (by omega : ¬ prev < x.i)]; rfl)
          | (have hm : prev < x.i := by assumption
             go_roundw
             case rel =>
               have h1 := HR.out
               rw [hstep.out, HV.out, decide_eq_true hm, Bool.or_true] at h1
               first
                 | (rw [HS1.out (by assumption)] at h1; exact ⟨k + 1, x.i, op + 1, by omega, by omega, by go_num, by go_num, ⟨⟨_, hb1⟩, rfl⟩, h1, HN⟩)
                 | (rw [HS0.out (by assumption)] at h1; exact ⟨k + 1, x.i, op, by omega, by omega, by go_num, rfl, ⟨⟨_, hb1⟩, rfl⟩, h1, HN⟩)
             case measure => simp [intOf]; omega)
    · have HK : Hid (k = l.length) := by unfold Hid; omega
      clear hrd
      go_wp2
      all_goals
        go_ret
        refine ⟨?_, q.below⟩
        rw [← HR.out, List.drop_eq_nil_of_le (by omega), HK.out]
        show _ = Ending.returned (.bool (decide (l.length ≤ 8) && decide (op ≤ 1)))
        have := HK.out
        first
          | (simp; omega)
          | (simp; rw [decide_eq_true (by omega : l.length ≤ 8), Bool.true_and]; exact decide_eq_decide.2 (by omega))

end Go.Proofs.YtkokbmmffkpclaaDoor

/- The open lot, the lot of a number, the least bid, in the reference and in the program. (Printed by gen_lotix.py) -/
namespace Go.Proofs.YtkokbmmffkpclaaDoor
open Go.RowKit

abbrev isOpen : Lot → Bool := fun x => x.s == 1
def openIx (l : List Lot) : Int := idxFrom isOpen 0 l
abbrev hasId (id : Int) : Lot → Bool := fun x => x.i == id
def findIx (l : List Lot) (id : Int) : Int := idxFrom (hasId id) 0 l
/-- The least bid for a lot. -/
def leastV (x : Lot) : Int := if x.h = 0 then 1 else x.h + (if x.h.tdiv 20 < 1 then 1 else x.h.tdiv 20)
theorem leastV_zero {x : Lot} (h : (x.h == 0) = true) : leastV x = 1 := by unfold leastV; rw [if_pos (eq_of_beq h)]
theorem leastV_pos {x : Lot} (h : (x.h == 0) = false) : leastV x = x.h + (if x.h.tdiv 20 < 1 then 1 else x.h.tdiv 20) := by unfold leastV; rw [if_neg (ne_of_beq_false h)]

set_option maxHeartbeats 1000000 in
theorem l29Open_any (A : Option Addr) (c : Nat) (l : List Lot) (w : World) (h : LotsR w w.heap.size A l) :
    Calls Tryd.prog 33 #[.slice A l.length c] w fun e w' => e = .returned (.int .i64 (openIx l)) ∧ Below w.heap.size w w' := by
  have hl := h.big
  have hrd := h.el
  have HF : Hid (idxFrom isOpen 0 (l.drop 0) = openIx l) := rfl
  go_enter Tryd.func33, Tryd.ntmps33
  go_wp2
  go_loopw [3] (fun i wr => ∃ (k : Nat), k ≤ l.length ∧ i = .int .i64 k ∧ (∃ q : Since w.heap.size w, wr = q.val) ∧ Hid (idxFrom isOpen k (l.drop k) = openIx l)) (fun i _ => l.length - (intOf i).toNat)
  case atStart => exact ⟨0, Nat.zero_le _, rfl, ⟨Since.start _ _, rfl⟩, HF⟩
  case round =>
    obtain ⟨k, hk, rfl, ⟨q, rfl⟩, HR⟩ := hrel
    by_cases hlt : k < l.length
    · obtain ⟨b, off, rfl, hb, hcell⟩ := hrd (by omega)
      obtain ⟨c0, c1, c2, c3, c4⟩ := hcell k hlt
      have hy : Hid (isOpen l[k] = true → openIx l = (k : Int)) := fun hv => by rw [← HR.out, idx_yes hlt hv]
      have hn : Hid (isOpen l[k] = false → idxFrom isOpen (k + 1) (l.drop (k + 1)) = openIx l) := fun hv => by rw [← idx_no hlt hv]; exact HR.out
      obtain ⟨x, hxe⟩ : ∃ x, x = l[k] := ⟨_, rfl⟩
      rw [← hxe] at c0 c1 c2 c3 c4 hy hn
      clear hxe hcell hrd
      go_wp2
      · go_ret
        exact ⟨by rw [hy.out (by assumption)]; rfl, q.below⟩
      · go_roundw
        case rel => exact ⟨k + 1, by omega, by go_num, ⟨q, rfl⟩, hn.out (by assumption)⟩
        case measure => simp [intOf]; omega
    · clear hrd
      go_wp2
      go_ret
      refine ⟨?_, q.below⟩
      rw [← HR.out, List.drop_eq_nil_of_le (by omega)]; rfl

set_option maxHeartbeats 1000000 in
theorem l29Find_any (A : Option Addr) (c : Nat) (l : List Lot) (id : Int) (w : World) (h : LotsR w w.heap.size A l) :
    Calls Tryd.prog 65 #[.slice A l.length c, .int .i64 id] w fun e w' => e = .returned (.int .i64 (findIx l id)) ∧ Below w.heap.size w w' := by
  have hl := h.big
  have hrd := h.el
  have HF : Hid (idxFrom (hasId id) 0 (l.drop 0) = findIx l id) := rfl
  go_enter Tryd.func65, Tryd.ntmps65
  go_wp2
  go_loopw [5] (fun i wr => ∃ (k : Nat), k ≤ l.length ∧ i = .int .i64 k ∧ (∃ q : Since w.heap.size w, wr = q.val) ∧ Hid (idxFrom (hasId id) k (l.drop k) = findIx l id)) (fun i _ => l.length - (intOf i).toNat)
  case atStart => exact ⟨0, Nat.zero_le _, rfl, ⟨Since.start _ _, rfl⟩, HF⟩
  case round =>
    obtain ⟨k, hk, rfl, ⟨q, rfl⟩, HR⟩ := hrel
    by_cases hlt : k < l.length
    · obtain ⟨b, off, rfl, hb, hcell⟩ := hrd (by omega)
      obtain ⟨c0, c1, c2, c3, c4⟩ := hcell k hlt
      have hy : Hid ((hasId id) l[k] = true → findIx l id = (k : Int)) := fun hv => by rw [← HR.out, idx_yes hlt hv]
      have hn : Hid ((hasId id) l[k] = false → idxFrom (hasId id) (k + 1) (l.drop (k + 1)) = findIx l id) := fun hv => by rw [← idx_no hlt hv]; exact HR.out
      obtain ⟨x, hxe⟩ : ∃ x, x = l[k] := ⟨_, rfl⟩
      rw [← hxe] at c0 c1 c2 c3 c4 hy hn
      clear hxe hcell hrd
      go_wp2
      · go_ret
        exact ⟨by rw [hy.out (by assumption)]; rfl, q.below⟩
      · go_roundw
        case rel => exact ⟨k + 1, by omega, by go_num, ⟨q, rfl⟩, hn.out (by assumption)⟩
        case measure => simp [intOf]; omega
    · clear hrd
      go_wp2
      go_ret
      refine ⟨?_, q.below⟩
      rw [← HR.out, List.drop_eq_nil_of_le (by omega)]; rfl

/-- slices.IndexFunc over lots, whatever the function value. -/
theorem idxLots_any (f : Lot → Bool) (g : Nat) (lb : Array Value) (eg : ∀ args w, (callFunc g args).run Tryd.prog w = .ok (.enter g args) w) (A : Option Addr) (c : Nat) (l : List Lot) (w : World)
    (hf : ∀ (t : Lot) (p : Since w.heap.size w), Calls Tryd.prog g (#[t.val] ++ lb) p.val fun e w' => e = .returned (.bool (f t)) ∧ Below p.val.heap.size p.val w') (h : LotsR w w.heap.size A l) :
    Calls Tryd.prog 44 #[.slice A l.length c, .func (.func g) #[] lb] w fun e w' => e = .returned (.int .i64 (idxFrom f 0 l)) ∧ Below w.heap.size w w' := by
  have hl := h.big
  have hrd := h.el
  have HF : Hid (idxFrom f 0 (l.drop 0) = idxFrom f 0 l) := rfl
  have HC := Lib.hid hf; clear hf
  go_enter Tryd.func44, Tryd.ntmps44
  go_wp2
  go_loopw [8] (fun i wr => ∃ (k : Nat), k ≤ l.length ∧ i = .int .i64 k ∧ (∃ q : Since w.heap.size w, wr = q.val) ∧ Hid (idxFrom f k (l.drop k) = idxFrom f 0 l)) (fun i _ => l.length - (intOf i).toNat)
  case atStart => exact ⟨0, Nat.zero_le _, rfl, ⟨Since.start _ _, rfl⟩, HF⟩
  case round =>
    obtain ⟨k, hk, rfl, ⟨q, rfl⟩, HR⟩ := hrel
    by_cases hlt : k < l.length
    · obtain ⟨b, off, rfl, hb, hcell⟩ := hrd (by omega)
      obtain ⟨c0, c1, c2, c3, c4⟩ := hcell k hlt
      have hy := fun hv => idx_yes (f := f) hlt hv
      have hn := fun hv => idx_no (f := f) hlt hv
      obtain ⟨x, hxe⟩ : ∃ x, x = l[k] := ⟨_, rfl⟩
      rw [← hxe] at c0 c1 c2 c3 c4 hy hn
      clear hxe hcell hrd
      cases hv : f x
      · have HE : Hid (idxFrom f (k + 1) (l.drop (k + 1)) = idxFrom f 0 l) := by rw [← hn hv]; exact HR.out
        have hcx := fun p => HC.out x p
        rw [hv] at hcx
        clear hy hn hv
        go_wp2_with fail
        refine (calls_since (Nat.le_refl _) (hcx _)).mono ?_
        rintro e w1 ⟨rfl, q1, rfl⟩
        go_wp2
        go_roundw
        case rel => exact ⟨k + 1, by omega, by go_num, ⟨q1, rfl⟩, HE⟩
        case measure => simp [intOf]; omega
      · have HE : Hid ((k : Int) = idxFrom f 0 l) := by rw [← hy hv]; exact HR.out
        have hcx := fun p => HC.out x p
        rw [hv] at hcx
        clear hy hn hv
        go_wp2_with fail
        refine (calls_since (Nat.le_refl _) (hcx _)).mono ?_
        rintro e w1 ⟨rfl, q1, rfl⟩
        go_wp2
        go_ret
        exact ⟨by rw [← HE.out]; rfl, q1.below⟩
    · have HE : Hid (-1 = idxFrom f 0 l) := by
        have h1 := HR.out; rw [List.drop_eq_nil_of_le (by omega)] at h1; exact h1
      clear hrd
      go_wp2
      go_ret
      exact ⟨by rw [← HE.out]; rfl, q.below⟩

theorem isOpen_any (x : Lot) (w : World) : Calls Tryd.prog 45 (#[x.val] ++ #[]) w fun e w' => e = .returned (.bool (isOpen x)) ∧ Below w.heap.size w w' := by
  go_enter Tryd.func45, Tryd.ntmps45
  go_wp2
  go_ret
  refine ⟨rfl, ?_⟩
  go_grown
theorem openLot_any (A : Option Addr) (c : Nat) (l : List Lot) (w : World) (h : LotsR w w.heap.size A l) :
    Calls Tryd.prog 31 #[.slice A l.length c] w fun e w' => e = .returned (.int .i64 (openIx l)) ∧ Below w.heap.size w w' := by
  have eg : ∀ args w, (callFunc 45 args).run Tryd.prog w = .ok (.enter 45 args) w := Tryd.call45
  go_enter Tryd.func31, Tryd.ntmps31
  go_wp2_with fail
  refine (idxLots_any isOpen 45 #[] eg A c l w (fun t p => isOpen_any t p.val) h).mono ?_
  rintro e w1 ⟨rfl, hb⟩
  go_wp2
  go_ret
  exact ⟨rfl, hb⟩
theorem mostE_any (a b : Int) (w : World) : Calls Tryd.prog 46 #[.int .i64 a, .int .i64 b] w fun e w' => e = .returned (.int .i64 (if b < a then a else b)) ∧ Below w.heap.size w w' := by
  go_enter Tryd.func46, Tryd.ntmps46
  go_wp2
  all_goals
    go_ret
    refine ⟨?_, Below.refl _ _⟩
    rfl
set_option maxHeartbeats 1000000 in
theorem l29Least_any (x : Lot) (w : World) (h0 : 0 ≤ x.h) (h1 : x.h ≤ 99999) :
    Calls Tryd.prog 34 #[x.val] w fun e w' => e = .returned (.int .i64 (leastV x)) ∧ Below w.heap.size w w' := by
  have b0 := (Below.refl w.heap.size w).alloc (Nat.le_refl _) (.cells #[.int .i64 x.i, .int .i64 x.r, .int .i64 x.s, .int .i64 x.h, .int .i64 x.b] 41)
  have L0 := Lies.new w 41 #[.int .i64 x.i, .int .i64 x.r, .int .i64 x.s, .int .i64 x.h, .int .i64 x.b]
  have H0 : Hid ((x.h == 0) = true → leastV x = 1) := leastV_zero
  have H1 : Hid ((x.h == 0) = false → leastV x = x.h + (if x.h.tdiv 20 < 1 then 1 else x.h.tdiv 20)) := leastV_pos
  have hq0 : 0 ≤ x.h.tdiv 20 := Int.tdiv_nonneg h0 (by omega)
  have hq1 : x.h.tdiv 20 ≤ 99999 := by rw [Int.tdiv_eq_ediv_of_nonneg h0]; omega
  go_enter Tryd.func34, Tryd.ntmps34
  go_wp2_with fail
  · go_ret
    exact ⟨by rw [H0.out (by assumption)]; rfl, b0⟩
  · have b0s := b0.size
    generalize w.alloc (.cells #[.int .i64 x.i, .int .i64 x.r, .int .i64 x.s, .int .i64 x.h, .int .i64 x.b] 41) = W at b0 b0s L0 ⊢
    generalize hgb : w.heap.size = g at L0 ⊢
    rw [hgb] at b0
    have b0s : g ≤ W.heap.size := by rw [← hgb]; exact b0s
    obtain ⟨d0, d1, d2, d3, d4⟩ := LotS.of (r := x) L0
    obtain ⟨m, hm⟩ : ∃ m, m = (if x.h.tdiv 20 < 1 then 1 else x.h.tdiv 20) := ⟨_, rfl⟩
    have hm0 : 0 ≤ m ∧ m ≤ 99999 := by rw [hm]; split <;> omega
    rw [← hm] at H1
    have HM : ∀ W' : World, Calls Tryd.prog 46 #[.int .i64 1, .int .i64 (x.h.tdiv 20)] W' fun e w' => e = .returned (.int .i64 m) ∧ Below W'.heap.size W' w' := fun W' => by rw [hm]; exact mostE_any 1 (x.h.tdiv 20) W'
    clear hm
    refine wp_region_since0 (by kernel_rfl) (by kernel_rfl) ?_
    repeat (any_goals (first | go_big_quiet_step ((go_at_call 46; refine calls_since (Nat.le_refl _) (HM _))) | (refine wpQuiet_step (fun K hK => ?_); go_simp; split <;> (refine hK _ ?_; clear hK K))))
    all_goals (refine wpQuiet_nil ?_; rintro _ ⟨q1, rfl⟩)
    go_wp2
    go_ret
    exact ⟨by rw [H1.out (by assumption)]; rfl, by rw [hgb]; exact b0.trans (q1.below.mono b0s)⟩
set_option maxHeartbeats 1000000 in
theorem leastBid_any (x : Lot) (w : World) (h0 : 0 ≤ x.h) (h1 : x.h ≤ 99999) :
    Calls Tryd.prog 32 #[x.val] w fun e w' => e = .returned (.int .i64 (leastV x)) ∧ Below w.heap.size w w' := by
  have b0 := (Below.refl w.heap.size w).alloc (Nat.le_refl _) (.cells #[.int .i64 x.i, .int .i64 x.r, .int .i64 x.s, .int .i64 x.h, .int .i64 x.b] 41)
  have L0 := Lies.new w 41 #[.int .i64 x.i, .int .i64 x.r, .int .i64 x.s, .int .i64 x.h, .int .i64 x.b]
  have H0 : Hid ((x.h == 0) = true → leastV x = 1) := leastV_zero
  have H1 : Hid ((x.h == 0) = false → leastV x = x.h + (if x.h.tdiv 20 < 1 then 1 else x.h.tdiv 20)) := leastV_pos
  have hq0 : 0 ≤ x.h.tdiv 20 := Int.tdiv_nonneg h0 (by omega)
  have hq1 : x.h.tdiv 20 ≤ 99999 := by rw [Int.tdiv_eq_ediv_of_nonneg h0]; omega
  go_enter Tryd.func32, Tryd.ntmps32
  go_wp2_with fail
  · go_ret
    exact ⟨by rw [H0.out (by assumption)]; rfl, b0⟩
  all_goals
    go_ret
    refine ⟨?_, b0⟩
    first
      | (rw [H1.out (by assumption), show (if x.h.tdiv 20 < 1 then 1 else x.h.tdiv 20) = 1 from by split <;> omega]; rfl)
      | (rw [H1.out (by assumption), show (if x.h.tdiv 20 < 1 then 1 else x.h.tdiv 20) = x.h.tdiv 20 from by split <;> omega]; rfl)
end Go.Proofs.YtkokbmmffkpclaaDoor

/- A step of an auction (no program in sight). -/
namespace Go.Proofs.YtkokbmmffkpclaaDoor
open Go.RowKit

def Lot.op (x : Lot) : Nat := if x.s = 1 then 1 else 0
def posL (l : List Lot) (id : Int) : Nat := (l.takeWhile fun t => decide (t.i < id)).length
def insL (l : List Lot) (id v : Int) : List Lot := l.take (posL l id) ++ ⟨id, v, 0, 0, 0⟩ :: l.drop (posL l id)
def delL (l : List Lot) (j : Nat) : List Lot := l.take j ++ l.drop (j + 1)
def atL (l : List Lot) (i : Int) : Lot := l.getD i.toNat default
def bidL (x : Lot) (s : ASt) : Lot := ⟨x.i, x.r, x.s, s.v, s.b⟩
def knockL (x : Lot) : Lot := ⟨x.i, x.r, if 1 ≤ x.h ∧ x.r ≤ x.h then 2 else 3, x.h, x.b⟩
def openL (x : Lot) : Lot := ⟨x.i, x.r, 1, x.h, x.b⟩
def againL (x : Lot) : Lot := ⟨x.i, x.r, 0, 0, 0⟩
/-- A valid step of a valid auction. -/
def stepL (l : List Lot) (s : ASt) : Option (List Lot) :=
  if s.k = 4 ∨ s.k = 5 then
    (if openIx l < 0 then none
     else if s.k = 4 then (if leastV (atL l (openIx l)) ≤ s.v ∧ s.b ≠ (atL l (openIx l)).b then some (l.set (openIx l).toNat (bidL (atL l (openIx l)) s)) else none)
     else some (l.set (openIx l).toNat (knockL (atL l (openIx l)))))
  else if s.k = 1 then (if 0 ≤ findIx l s.i then none else if goodLots (insL l s.i s.v) then some (insL l s.i s.v) else none)
  else if findIx l s.i < 0 then none
  else if s.k = 2 then (if (atL l (findIx l s.i)).s = 0 then some (delL l (findIx l s.i).toNat) else none)
  else if s.k = 3 then (if (atL l (findIx l s.i)).s = 0 ∧ openIx l < 0 then some (l.set (findIx l s.i).toNat (openL (atL l (findIx l s.i)))) else none)
  else (if (atL l (findIx l s.i)).s = 3 then some (l.set (findIx l s.i).toNat (againL (atL l (findIx l s.i)))) else none)
def keysL (l : List Lot) : List Int := l.map (·.i)
theorem lotsFrom_iff : ∀ (l : List Lot) (n : Nat) (p : Int), lotsFrom n p l = true ↔ (∀ x ∈ l, x.ok = true) ∧ (n = 0 ∨ ∀ k ∈ keysL l, p < k) ∧ (keysL l).Pairwise (· < ·)
  | [], n, p => by simp [lotsFrom, keysL]
  | r :: l, n, p => by
    simp only [lotsFrom, Bool.and_eq_true, Bool.or_eq_true, decide_eq_true_eq, lotsFrom_iff l, keysL, List.map_cons, List.pairwise_cons, List.mem_cons, forall_eq_or_imp]
    constructor
    · rintro ⟨⟨h1, h2⟩, h3, h4, h5⟩
      have h4' : ∀ k ∈ List.map (fun x => x.i) l, r.i < k := by rcases h4 with h4 | h4; omega; exact h4
      refine ⟨⟨h1, h3⟩, ?_, h4', h5⟩
      rcases h2 with h2 | h2
      · exact .inl h2
      · exact .inr ⟨h2, fun k hk => by have := h4' k hk; omega⟩
    · rintro ⟨⟨h1, h3⟩, h2, h4, h5⟩
      exact ⟨⟨h1, by rcases h2 with h2 | h2; exact .inl h2; exact .inr h2.1⟩, h3, .inr h4, h5⟩
structure GoodL (l : List Lot) : Prop where
  all : ∀ x ∈ l, x.ok = true
  asc : (keysL l).Pairwise (· < ·)
  len : l.length ≤ 8
  ops : opens l ≤ 1
theorem goodL_iff {l : List Lot} : goodLots l = true ↔ GoodL l := by
  unfold goodLots
  simp only [Bool.and_eq_true, decide_eq_true_eq, lotsFrom_iff]
  constructor
  · rintro ⟨⟨⟨h1, _, h2⟩, h3⟩, h4⟩; exact ⟨h1, h2, h3, h4⟩
  · rintro ⟨h1, h2, h3, h4⟩; exact ⟨⟨⟨h1, .inl trivial, h2⟩, h3⟩, h4⟩
theorem opens_cons (r : Lot) (l : List Lot) : opens (r :: l) = r.op + opens l := rfl
theorem opens_app (a b : List Lot) : opens (a ++ b) = opens a + opens b := by
  induction a with
  | nil => simp [opens]
  | cons r a ih => rw [List.cons_append, opens_cons, opens_cons, ih]; omega
theorem opens_set : ∀ {l : List Lot} {j : Nat} (h : j < l.length) (y : Lot), opens (l.set j y) + l[j].op = opens l + y.op
  | r :: l, 0, h, y => by rw [List.set_cons_zero, opens_cons, opens_cons]; simp only [List.getElem_cons_zero]; omega
  | r :: l, j + 1, h, y => by
    have := opens_set (l := l) (j := j) (by simpa using h) y
    rw [List.set_cons_succ, opens_cons, opens_cons]; simp only [List.getElem_cons_succ]; omega
theorem keys_set {l : List Lot} {j : Nat} (h : j < l.length) {y : Lot} (hy : y.i = l[j].i) : keysL (l.set j y) = keysL l := by
  unfold keysL
  rw [List.map_set, hy]
  apply List.ext_getElem (by simp)
  intro n h1 h2
  rw [List.getElem_set]
  split
  · rename_i e; subst e; simp
  · rfl
theorem GoodL.set {l : List Lot} (G : GoodL l) {j : Nat} (h : j < l.length) {y : Lot} (hk : y.i = l[j].i) (hok : y.ok = true) (ho : opens l + y.op ≤ 1 + l[j].op) : GoodL (l.set j y) :=
  ⟨fun x hx => by rcases List.mem_or_eq_of_mem_set hx with h1 | rfl; exact G.all x h1; exact hok, by rw [keys_set h hk]; exact G.asc, by rw [List.length_set]; exact G.len, by have := opens_set h y; omega⟩
theorem GoodL.del {l : List Lot} (G : GoodL l) (j : Nat) : GoodL (delL l j) := by
  have hs : List.Sublist (delL l j) l := by
    unfold delL
    have := List.Sublist.append (List.Sublist.refl (l.take j)) ((List.drop_sublist_drop_left l (by omega : j ≤ j + 1)))
    rwa [List.take_append_drop] at this
  refine ⟨fun x hx => G.all x (hs.subset hx), G.asc.sublist (hs.map _), Nat.le_trans hs.length_le G.len, ?_⟩
  have h1 : ∀ {a b : List Lot}, List.Sublist a b → opens a ≤ opens b := by
    intro a b h
    induction h with
    | slnil => exact Nat.le_refl _
    | cons r _ ih => rw [opens_cons]; omega
    | cons_cons r _ ih => rw [opens_cons, opens_cons]; omega
  exact Nat.le_trans (h1 hs) G.ops
theorem idx_at {f : Lot → Bool} {l : List Lot} (h : ¬ idxFrom f 0 l < 0) : ∃ hj : (idxFrom f 0 l).toNat < l.length, f (l[(idxFrom f 0 l).toNat]'hj) = true ∧ idxFrom f 0 l = ((idxFrom f 0 l).toNat : Int) := by
  have key : ∀ (m : List Lot) (k : Nat), ¬ idxFrom f k m < 0 → ∃ i : Nat, idxFrom f k m = ((k + i : Nat) : Int) ∧ ∃ hi : i < m.length, f m[i] = true := by
    intro m
    induction m with
    | nil => intro k hk; simp [idxFrom] at hk
    | cons r m ih =>
      intro k hk
      unfold idxFrom at hk ⊢
      split at hk
      · rename_i hr; exact ⟨0, by rw [if_pos hr]; rfl, by simp, by simpa using hr⟩
      · rename_i hr
        obtain ⟨i, h1, h2, h3⟩ := ih (k + 1) hk
        exact ⟨i + 1, by rw [if_neg hr, h1]; congr 1; omega, by simp; omega, by simpa using h3⟩
  obtain ⟨i, h1, h2, h3⟩ := key l 0 h
  have e : (idxFrom f 0 l).toNat = i := by omega
  simp only [e]
  exact ⟨h2, h3, by omega⟩
theorem idx_neg {f : Lot → Bool} : ∀ {l : List Lot} {k : Nat}, idxFrom f k l < 0 → ∀ x ∈ l, f x = false
  | [], _, _, x, hx => by cases hx
  | r :: l, k, h, x, hx => by
    unfold idxFrom at h
    split at h
    · omega
    · rename_i hr
      rcases List.mem_cons.1 hx with rfl | hx
      · simpa using hr
      · exact idx_neg h x hx
theorem open_none {l : List Lot} : openIx l < 0 ↔ opens l = 0 := by
  constructor
  · intro h
    have h1 := idx_neg h
    clear h
    induction l with
    | nil => rfl
    | cons r l ih =>
      have h2 := h1 r List.mem_cons_self
      have h3 := ih fun x hx => h1 x (List.mem_cons_of_mem _ hx)
      rw [opens_cons, h3]
      unfold Lot.op
      rw [if_neg (ne_of_beq_false h2)]
  · intro h
    rcases Decidable.em (openIx l < 0) with h1 | h1
    · exact h1
    · obtain ⟨hj, h2, _⟩ := idx_at h1
      have h3 := opens_set hj ⟨0, 0, 0, 0, 0⟩
      have h4 : (l[(idxFrom isOpen 0 l).toNat]'hj).op = 1 := by unfold Lot.op; rw [if_pos (eq_of_beq h2)]
      have h5 : (⟨0, 0, 0, 0, 0⟩ : Lot).op = 0 := rfl
      omega
theorem atL_eq {l : List Lot} {i : Int} {j : Nat} (e : i = (j : Int)) (h : j < l.length) : atL l i = l[j] := by
  unfold atL
  rw [show i.toNat = j by omega, List.getD_eq_getElem?_getD, List.getElem?_eq_getElem h]; rfl
theorem lot_ok_iff {x : Lot} : x.ok = true ↔ (inR x.i 1 99 = true ∧ inR x.r 0 99999 = true ∧ inR x.h 0 99999 = true ∧ inR x.b 0 999 = true ∧ ((x.h == 0) == (x.b == 0)) = true) ∧ x.stOk = true := by
  constructor
  · intro h
    have key : ∀ b : Bool, (b = false → x.ok = false) → b = true := fun b hb => by
      cases b
      · rw [hb rfl] at h; cases h
      · rfl
    have h1 := key _ fun e => lot_no (.inl e)
    have h2 := key _ fun e => lot_no (.inr (.inl e))
    have h3 := key _ fun e => lot_no (.inr (.inr (.inl e)))
    have h4 := key _ fun e => lot_no (.inr (.inr (.inr (.inl e))))
    have h5 := key _ fun e => lot_no (.inr (.inr (.inr (.inr e))))
    exact ⟨⟨h1, h2, h3, h4, h5⟩, by rw [← lot_yes h1 h2 h3 h4 h5]; exact h⟩
  · rintro ⟨⟨h1, h2, h3, h4, h5⟩, h6⟩
    rw [lot_yes h1 h2 h3 h4 h5]; exact h6
theorem inR_mk {n lo hi : Int} (h : lo ≤ n ∧ n ≤ hi) : inR n lo hi = true := inR_iff.2 h
theorem bid_ok {x : Lot} {s : ASt} (h : x.ok = true) (hx : x.s = 1) (hk : s.k = 4) (hs : s.ok = true) : (bidL x s).ok = true := by
  obtain ⟨⟨h1, h2, h3, h4, h5⟩, h6⟩ := lot_ok_iff.1 h
  unfold ASt.ok at hs
  rw [hk] at hs
  simp only [show ¬ (4 : Int) = 1 by omega, show ¬ ((4 : Int) = 2 ∨ (4 : Int) = 3 ∨ (4 : Int) = 6) by omega, if_true, if_false, Bool.and_eq_true] at hs
  have hb := inR_iff.1 hs.1.2
  have hv := inR_iff.1 hs.2
  refine lot_ok_iff.2 ⟨⟨h1, h2, inR_mk ⟨by show 0 ≤ s.v; omega, hv.2⟩, inR_mk ⟨by show 0 ≤ s.b; omega, hb.2⟩, ?_⟩, ?_⟩
  · show ((s.v == 0) == (s.b == 0)) = true
    rw [beq_false_of_ne (show s.v ≠ 0 by omega), beq_false_of_ne (show s.b ≠ 0 by omega)]; rfl
  · unfold Lot.stOk bidL; simp [hx]
theorem knock_ok {x : Lot} (h : x.ok = true) : (knockL x).ok = true := by
  obtain ⟨⟨h1, h2, h3, h4, h5⟩, h6⟩ := lot_ok_iff.1 h
  refine lot_ok_iff.2 ⟨⟨h1, h2, h3, h4, h5⟩, ?_⟩
  have hb := inR_iff.1 h3
  unfold Lot.stOk knockL
  by_cases hc : 1 ≤ x.h ∧ x.r ≤ x.h
  · simp [hc]
  · simp [hc]; omega
theorem open_ok {x : Lot} (h : x.ok = true) : (openL x).ok = true := by
  obtain ⟨⟨h1, h2, h3, h4, h5⟩, h6⟩ := lot_ok_iff.1 h
  exact lot_ok_iff.2 ⟨⟨h1, h2, h3, h4, h5⟩, by unfold Lot.stOk openL; simp⟩
theorem again_ok {x : Lot} (h : x.ok = true) : (againL x).ok = true := by
  obtain ⟨⟨h1, h2, h3, h4, h5⟩, h6⟩ := lot_ok_iff.1 h
  exact lot_ok_iff.2 ⟨⟨h1, h2, rfl, rfl, rfl⟩, by unfold Lot.stOk againL; simp⟩
theorem op_one {x : Lot} (h : x.s = 1) : x.op = 1 := if_pos h
theorem op_zero {x : Lot} (h : x.s ≠ 1) : x.op = 0 := if_neg h
theorem op_le (x : Lot) : x.op ≤ 1 := by unfold Lot.op; split <;> omega
theorem good_bid {l : List Lot} (G : GoodL l) {j : Nat} (h : j < l.length) {s : ASt} (hx : l[j].s = 1) (hk : s.k = 4) (hs : s.ok = true) : goodLots (l.set j (bidL l[j] s)) = true :=
  goodL_iff.2 (G.set h rfl (bid_ok (G.all _ (List.getElem_mem h)) hx hk hs) (by have := G.ops; have h1 := op_one hx; have h2 : (bidL l[j] s).op ≤ 1 := op_le _; omega))
theorem good_knock {l : List Lot} (G : GoodL l) {j : Nat} (h : j < l.length) (hx : l[j].s = 1) : goodLots (l.set j (knockL l[j])) = true :=
  goodL_iff.2 (G.set h rfl (knock_ok (G.all _ (List.getElem_mem h))) (by have := G.ops; have h1 := op_one hx; have h2 := op_le (knockL l[j]); omega))
theorem good_del {l : List Lot} (G : GoodL l) (j : Nat) : goodLots (delL l j) = true := goodL_iff.2 (G.del j)
theorem good_again {l : List Lot} (G : GoodL l) {j : Nat} (h : j < l.length) : goodLots (l.set j (againL l[j])) = true :=
  goodL_iff.2 (G.set h rfl (again_ok (G.all _ (List.getElem_mem h))) (by have := G.ops; have h2 : (againL l[j]).op = 0 := rfl; omega))
theorem good_open {l : List Lot} (G : GoodL l) {j : Nat} (h : j < l.length) (hx : l[j].s = 0) : goodLots (l.set j (openL l[j])) = decide (openIx l < 0) := by
  have h0 : l[j].op = 0 := op_zero (by omega)
  have h1 : (openL l[j]).op = 1 := rfl
  by_cases ho : openIx l < 0
  · rw [decide_eq_true ho]
    have := open_none.1 ho
    exact goodL_iff.2 (G.set h rfl (open_ok (G.all _ (List.getElem_mem h))) (by omega))
  · rw [decide_eq_false ho]
    have hz : opens l ≠ 0 := fun e => ho (open_none.2 e)
    have := opens_set h (openL l[j])
    cases hg : goodLots (l.set j (openL l[j])) with
    | false => rfl
    | true => have := (goodL_iff.1 hg).ops; omega
/-- A good list's number stands where the smaller ones end. -/
theorem find_pos {l : List Lot} (G : GoodL l) (id : Int) : (0 ≤ findIx l id → findIx l id = (posL l id : Int)) ∧ posL l id ≤ l.length ∧ (∀ i (h : i < l.length), i < posL l id → l[i].i < id) ∧ (∀ i (h : i < l.length), posL l id ≤ i → ¬ l[i].i < id) ∧ (0 ≤ findIx l id ↔ ∃ h : posL l id < l.length, l[posL l id].i = id) := by
  have hle : posL l id ≤ l.length := (List.takeWhile_sublist _).length_le
  have hlt : ∀ (m : List Lot) (i : Nat) (h : i < m.length), i < posL m id → m[i].i < id := by
    intro m
    induction m with
    | nil => intro i h; simp at h
    | cons r m ih =>
      intro i h hi
      unfold posL at hi
      rw [List.takeWhile_cons] at hi
      split at hi
      · rename_i hr
        cases i with
        | zero => exact of_decide_eq_true hr
        | succ i => exact ih i (by simpa using h) (by unfold posL; simpa using hi)
      · simp at hi
  have hge0 : ∀ (m : List Lot) (h : posL m id < m.length), ¬ m[posL m id].i < id := by
    intro m
    induction m with
    | nil => intro h; simp at h
    | cons r m ih =>
      intro h
      by_cases hr : r.i < id
      · have e : posL (r :: m) id = posL m id + 1 := by unfold posL; rw [List.takeWhile_cons, if_pos (by simpa using hr)]; rfl
        simp only [e, List.getElem_cons_succ]
        exact ih (by rw [e] at h; simpa using h)
      · have e : posL (r :: m) id = 0 := by unfold posL; rw [List.takeWhile_cons, if_neg (by simpa using hr)]; rfl
        simp only [e, List.getElem_cons_zero]
        exact hr
  have asc : ∀ i j (hi : i < l.length) (hj : j < l.length), i < j → l[i].i < l[j].i := fun i j hi hj hij => by
    have := List.pairwise_iff_getElem.1 G.asc i j (by simpa [keysL] using hi) (by simpa [keysL] using hj) hij
    simpa [keysL] using this
  have hge : ∀ i (h : i < l.length), posL l id ≤ i → ¬ l[i].i < id := fun i h hi hlt' => by
    have h1 := hge0 l (by omega)
    rcases Nat.eq_or_lt_of_le hi with e | e
    · subst e; exact h1 hlt'
    · have := asc _ _ (by omega) h e; omega
  have hat : 0 ≤ findIx l id → ∃ h : posL l id < l.length, l[posL l id].i = id ∧ findIx l id = (posL l id : Int) := fun h => by
    obtain ⟨hj, h2, h3⟩ := idx_at (f := hasId id) (l := l) (by show ¬ findIx l id < 0; omega)
    have h4 : (l[(idxFrom (hasId id) 0 l).toNat]'hj).i = id := eq_of_beq h2
    have h5 : posL l id ≤ (idxFrom (hasId id) 0 l).toNat := by
      rcases Nat.lt_or_ge (idxFrom (hasId id) 0 l).toNat (posL l id) with h | h
      · have := hlt l _ hj h; omega
      · exact h
    have h6 : posL l id < l.length := by omega
    rcases Nat.eq_or_lt_of_le h5 with e | e
    · refine ⟨h6, ?_, ?_⟩
      · simp only [e]; exact h4
      · show idxFrom (hasId id) 0 l = _; omega
    · exact absurd (asc _ _ h6 hj e) (by have := hge _ h6 (Nat.le_refl _); omega)
  refine ⟨fun h => (hat h).2.2, hle, fun i h hi => hlt l i h hi, hge, fun h => ⟨(hat h).1, (hat h).2.1⟩, fun ⟨h, he⟩ => ?_⟩
  rcases Decidable.em (findIx l id < 0) with hn | hn
  · have := idx_neg hn _ (List.getElem_mem h)
    exact absurd he (ne_of_beq_false this)
  · omega
end Go.Proofs.YtkokbmmffkpclaaDoor
