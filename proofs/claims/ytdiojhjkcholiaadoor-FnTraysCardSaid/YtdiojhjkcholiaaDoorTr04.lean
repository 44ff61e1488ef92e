/- Tr04: the texts OwnRow StepI StepC StepD FactsT SpecOwn OffHeld StepOps, joined into one file. -/
import Derived.Laws.OwnMore
import Derived.Deep.RegionLawGrows
import Derived.Test.YtdiojhjkcholiaaDoorTr01
import Derived.Test.YtdiojhjkcholiaaDoorTr02
import Derived.Test.YtdiojhjkcholiaaDoorTr03

set_option linter.unusedVariables false

/- Rows of the call's own: what becomes of them (no program's function in sight). -/
namespace Go.Proofs.YtdiojhjkcholiaaDoor
open Go.RowKit

theorem ownsRow_below {w w' : World} {B : Nat} {e : TypeId} {k : Nat} {v : Value} {n : Nat} {xs : List Value} (h : w.ownsRow B e k v n xs) (hb : Below w.heap.size w w') : w'.ownsRow B e k v n xs := by
  obtain ⟨hl, h0 | ⟨g, cap, cur, hv, hg, hh, h1, h2, h3, h4⟩⟩ := h
  · exact ⟨hl, .inl h0⟩
  · have hlt : g < w.heap.size := by
      rcases Nat.lt_or_ge g w.heap.size with hlt | hge
      · exact hlt
      · rw [Array.getElem?_eq_none hge] at hh; cases hh
    exact ⟨hl, .inr ⟨g, cap, cur, hv, hg, (hb.block g hlt).trans hh, h1, h2, h3, h4⟩⟩
theorem ownsRow_far {w : World} {B : Nat} {e t : TypeId} {k : Nat} {v : Value} {n : Nat} {xs cs : List Value} (h : w.ownsRow B e k v n xs) {g : Nat} (hg : Lies w g t cs) (hne : e ≠ t) : some g ≠ v.ownBlock := by
  obtain ⟨_, ⟨rfl, _⟩ | ⟨g', cap, cur, rfl, _, hh, _⟩⟩ := h
  · simp [Value.ownBlock]
  · intro he
    simp only [Value.ownBlock, Option.some.injEq] at he
    subst he
    unfold Lies at hg
    rw [hg] at hh
    injection hh with hh; injection hh with _ h2; exact hne h2.symm
theorem ownsRow_lower {w : World} {B B' : Nat} {e : TypeId} {k : Nat} {v : Value} {n : Nat} {xs : List Value} (h : w.ownsRow B e k v n xs) (hB : B' ≤ B) : w.ownsRow B' e k v n xs := by
  obtain ⟨hl, h0 | ⟨g, cap, cur, hv, hg, hh⟩⟩ := h
  · exact ⟨hl, .inl h0⟩
  · exact ⟨hl, .inr ⟨g, cap, cur, hv, Nat.le_trans hB hg, hh⟩⟩
/-- Two rows of different types: one grows, the other stays. -/
theorem ownsRow_two {w w' : World} {B B' : Nat} {e e' : TypeId} {k k' : Nat} {v v' : Value} {n n' : Nat} {xs xs' : List Value} (h : w.ownsRow B e k v n xs) (h' : w.ownsRow B' e' k' v' n' xs') (hne : e' ≠ e) (hg : w.grownBy w' v'.ownBlock) : w'.ownsRow B e k v n xs := by
  refine h.kept hg ?_
  obtain ⟨_, ⟨h1, _⟩ | ⟨g, cap, cur, h1, _, hh, _⟩⟩ := h
  · left; rw [h1]; rfl
  · right
    rw [h1]
    exact ownsRow_far h' (g := g) (t := e) (cs := cur.toList) (Lies.of hh) hne
/-- A cell of a block of another type is written. -/
theorem ownsRow_setOther {w : World} {B : Nat} {e t : TypeId} {k : Nat} {v : Value} {n : Nat} {xs cs : List Value} (h : w.ownsRow B e k v n xs) {g : Nat} (hg : Lies w g t cs) (hne : e ≠ t) (i : Nat) (u : Value) : (w.setCell ⟨g, i, none⟩ u).ownsRow B e k v n xs := by
  have hf := ownsRow_far h hg hne
  obtain ⟨hl, h0 | ⟨g', cap, cur, hv, hg', hh, h1⟩⟩ := h
  · exact ⟨hl, .inl h0⟩
  · refine ⟨hl, .inr ⟨g', cap, cur, hv, hg', (Below.heap_setCell w _ u g' ?_).trans hh, h1⟩⟩
    intro e'
    subst hv
    exact hf (by simp only [Value.ownBlock]; rw [e'])
/-- The row lies in memory. -/
theorem ownsRow_at {w : World} {B : Nat} {e : TypeId} {k : Nat} {v : Value} {n : Nat} {xs : List Value} (h : w.ownsRow B e k v n xs) (hn : 0 < n) : ∃ g cap rest, v = .slice (some ⟨g, 0, none⟩) n cap ∧ B ≤ g ∧ Lies w g e (xs ++ rest) ∧ n ≤ cap := by
  obtain ⟨hl, h0 | ⟨g, cap, cur, hv, hg, hh, h1, h2, h3, h4⟩⟩ := h
  · omega
  · refine ⟨g, cap, cur.toList.drop (n * k), hv, hg, ?_, h1⟩
    have : xs ++ cur.toList.drop (n * k) = cur.toList := by rw [← h4]; exact List.take_append_drop _ _
    rw [this]; exact Lies.of hh
/-- One cell of the row is written. -/
theorem ownsRow_set {w : World} {B g cap : Nat} {e : TypeId} {k n : Nat} {xs : List Value} (h : w.ownsRow B e k (.slice (some ⟨g, 0, none⟩) n cap) n xs) (j : Nat) (u : Value) (hj : j < n * k) : (w.setCell ⟨g, j, none⟩ u).ownsRow B e k (.slice (some ⟨g, 0, none⟩) n cap) n (xs.set j u) := by
  obtain ⟨hl, h0 | ⟨g', cap', cur, hv, hg, hh, h1, h2, h3, h4⟩⟩ := h
  · cases h0.1
  · injection hv with e1 e2 e3
    injection e1 with e1; injection e1 with e1; subst e1; subst e3
    have hL := (Lies.of hh).set j u
    exact ⟨by rw [List.length_set]; exact hl, .inr ⟨g, cap, (cur.toList.set j u).toArray, rfl, hg, hL, h1, h2, by simp [h3], by show List.take _ (cur.toList.set j u) = _; rw [List.take_set, h4]⟩⟩
theorem ownsRow_drew {w : World} {B : Nat} {e : TypeId} {k : Nat} {v : Value} {n : Nat} {xs : List Value} (h : w.ownsRow B e k v n xs) : w.drew.ownsRow B e k v n xs := h
theorem ownsRow_reads {w : World} {B : Nat} {e : TypeId} {k : Nat} {A : Option Addr} {n c : Nat} {xs : List Value} (h : w.ownsRow B e k (.slice A n c) n xs) : SlcR w w.heap.size k A n xs := by
  obtain ⟨hl, h0 | ⟨g, cap, cur, hv, hg, hh, h1, h2, h3, h4⟩⟩ := h
  · exact ⟨hl, by omega, fun hn => by omega⟩
  · injection hv with e1 _ _
    refine ⟨hl, by unfold maxLen at h2; omega, fun hn => ⟨g, 0, e1, (Lies.of hh).lt, fun j u hu => ?_⟩⟩
    rw [Nat.zero_add, (Lies.of hh).cell]
    rw [← h4, List.getElem?_take] at hu
    split at hu
    · exact hu
    · cases hu
/-- A block of another type turns. -/
theorem ownsRow_keptG {w w' : World} {B : Nat} {e t : TypeId} {k : Nat} {v : Value} {n : Nat} {xs cs : List Value} (h : w.ownsRow B e k v n xs) {g : Nat} (hL : Lies w g t cs) (hne : e ≠ t) (hg : w.grownBy w' (some g)) : w'.ownsRow B e k v n xs :=
  h.kept hg (.inr fun e' => ownsRow_far h hL hne e'.symm)
end Go.Proofs.YtdiojhjkcholiaaDoor

/- Steps of an office in the program: its own copy. -/
namespace Go.Proofs.YtdiojhjkcholiaaDoor
open Go.RowKit

/-- An office of the call's own lies in block g. -/
structure OffOwn (w : World) (B g : Nat) (vt vo : Value) (y : Oc) : Prop where
  lies : Lies w g 32 [vt, vo, .int .i64 y.got, .int .i64 y.sold, .int .i64 y.missed]
  hg : B ≤ g
  t : w.ownsRow B 68 2 vt y.t.length (y.t.flatMap Tray.enc)
  o : w.ownsRow B 71 3 vo y.o.length (y.o.flatMap Outing.enc)
theorem ne_TO : 68 ≠ 32 := by decide
theorem ne_OO : 71 ≠ 32 := by decide
theorem ne_OT : 71 ≠ 68 := by decide

end Go.Proofs.YtdiojhjkcholiaaDoor

/- Steps of an office in the program: one outing is changed. -/
namespace Go.Proofs.YtdiojhjkcholiaaDoor
open Go.RowKit

theorem OffOwn.then {w w' : World} {B g : Nat} {vt vo : Value} {y : Oc} (h : OffOwn w B g vt vo y) (hb : Below w.heap.size w w') : OffOwn w' B g vt vo y :=
  ⟨h.lies.below hb h.lies.lt, h.hg, ownsRow_below h.t hb, ownsRow_below h.o hb⟩
theorem flat_take {α : Type} (enc : α → List Value) (k : Nat) (hk : ∀ x, (enc x).length = k) : ∀ (l : List α) (i : Nat), (l.take i).flatMap enc = (l.flatMap enc).take (i * k)
  | [], i => by simp
  | x :: l, 0 => by simp
  | x :: l, i + 1 => by
    have e : (i + 1) * k = (enc x).length + i * k := by rw [hk, Nat.succ_mul]; omega
    rw [List.take_succ_cons, List.flatMap_cons, List.flatMap_cons, flat_take enc k hk l i, e, List.take_length_add_append]
theorem flat_drop {α : Type} (enc : α → List Value) (k : Nat) (hk : ∀ x, (enc x).length = k) : ∀ (l : List α) (i : Nat), (l.drop i).flatMap enc = (l.flatMap enc).drop (i * k)
  | [], i => by simp
  | x :: l, 0 => by simp
  | x :: l, i + 1 => by
    have e : (i + 1) * k = (enc x).length + i * k := by rw [hk, Nat.succ_mul]; omega
    rw [List.drop_succ_cons, List.flatMap_cons, flat_drop enc k hk l i, e, List.drop_length_add_append]
theorem flat_ins {α : Type} (enc : α → List Value) (k : Nat) (hk : ∀ x, (enc x).length = k) (l : List α) (i : Nat) (r : α) : (l.take i ++ r :: l.drop i).flatMap enc = (l.flatMap enc).take (i * k) ++ enc r ++ (l.flatMap enc).drop (i * k) := by
  rw [List.flatMap_append, List.flatMap_cons, flat_take enc k hk, flat_drop enc k hk, List.append_assoc]
theorem flat_del {α : Type} (enc : α → List Value) (k : Nat) (hk : ∀ x, (enc x).length = k) (l : List α) (i : Nat) : (l.take i ++ l.drop (i + 1)).flatMap enc = (l.flatMap enc).take (i * k) ++ (l.flatMap enc).drop (i * k + k) := by
  rw [List.flatMap_append, flat_take enc k hk, flat_drop enc k hk, Nat.succ_mul]
theorem flat_setO {i : Nat} {c : Int} : ∀ {l : List Outing} (h : i < l.length), (l.flatMap Outing.enc).set (i * 3 + 2) (.int .i64 c) = (l.set i ⟨l[i].k, l[i].p, c⟩).flatMap Outing.enc := by
  induction i with
  | zero => intro l h; match l, h with
    | x :: l, _ => simp [Outing.enc]
  | succ i ih => intro l h; match l, h with
    | x :: l, h =>
      simp only [List.flatMap_cons, List.getElem_cons_succ, List.set_cons_succ]
      rw [← ih (by simpa using h), List.set_append_right _ _ (by rw [Outing.enc_len]; omega), Outing.enc_len]
      congr 2; omega
theorem flat_setT {i : Nat} {c : Int} : ∀ {l : List Tray} (h : i < l.length), (l.flatMap Tray.enc).set (i * 2 + 1) (.int .i64 c) = (l.set i ⟨l[i].k, c⟩).flatMap Tray.enc := by
  induction i with
  | zero => intro l h; match l, h with
    | x :: l, _ => simp [Tray.enc]
  | succ i ih => intro l h; match l, h with
    | x :: l, h =>
      simp only [List.flatMap_cons, List.getElem_cons_succ, List.set_cons_succ]
      rw [← ih (by simpa using h), List.set_append_right _ _ (by rw [Tray.enc_len]; omega), Tray.enc_len]
      congr 2; omega

def posO (os : List Outing) (k p : Int) : Nat := (os.takeWhile fun o => before o ⟨k, p, 0⟩).length
theorem posO_cons (o : Outing) (os : List Outing) (k p : Int) : posO (o :: os) k p = if before o ⟨k, p, 0⟩ = true then posO os k p + 1 else 0 := by
  unfold posO; rw [List.takeWhile_cons]; by_cases h : before o ⟨k, p, 0⟩ = true <;> simp [h]
theorem posO_le (os : List Outing) (k p : Int) : posO os k p ≤ os.length := by
  unfold posO; exact (List.takeWhile_prefix _).length_le
theorem posO_lt : ∀ (os : List Outing) (k p : Int) (i : Nat) (h : i < os.length), i < posO os k p → before os[i] ⟨k, p, 0⟩ = true
  | o :: os, k, p, i, h, hi => by
    rw [posO_cons] at hi
    split at hi
    · cases i with
      | zero => assumption
      | succ i => exact posO_lt os k p i (by simpa using h) (by omega)
    · omega
theorem posO_ge : ∀ (os : List Outing) (k p : Int), AscO os → ∀ (i : Nat) (h : i < os.length), posO os k p ≤ i → ¬ before os[i] ⟨k, p, 0⟩ = true
  | o :: os, k, p, ha, i, h, hi => by
    obtain ⟨h1, h2⟩ := List.pairwise_cons.1 ha
    by_cases hb : before o ⟨k, p, 0⟩ = true
    · rw [posO_cons, if_pos hb] at hi
      cases i with
      | zero => omega
      | succ i => exact posO_ge os k p h2 i (by simpa using h) (by omega)
    · cases i with
      | zero => exact hb
      | succ i =>
        have := h1 (os[i]'(by simpa using h)) (List.getElem_mem _)
        simp only [List.getElem_cons_succ]
        rw [before_iff] at this hb ⊢; simp only at hb ⊢; omega
theorem chgO_new {k p b : Int} : ∀ (os : List Outing), (∀ h : posO os k p < os.length, isAt k p os[posO os k p] = false) → chgO k p b os = os.take (posO os k p) ++ ⟨k, p, b⟩ :: os.drop (posO os k p)
  | [], _ => by simp [chgO, posO]
  | o :: os, h => by
    by_cases hb : before o ⟨k, p, 0⟩ = true
    · have e : posO (o :: os) k p = posO os k p + 1 := by rw [posO_cons, if_pos hb]
      simp only [e] at h ⊢
      rw [chgO, if_pos hb, chgO_new os (fun h' => by have := h (by simpa using h'); simpa using this), List.take_succ_cons, List.drop_succ_cons, List.cons_append]
    · have e : posO (o :: os) k p = 0 := by rw [posO_cons, if_neg hb]
      simp only [e] at h ⊢
      have := h (by simp)
      simp only [List.getElem_cons_zero] at this
      rw [chgO, if_neg hb, this, if_neg (by simp)]; rfl
theorem chgO_old {k p b : Int} : ∀ (os : List Outing) (h : posO os k p < os.length), isAt k p os[posO os k p] = true →
    chgO k p b os = if os[posO os k p].c + b = 0 then os.take (posO os k p) ++ os.drop (posO os k p + 1) else os.set (posO os k p) ⟨os[posO os k p].k, os[posO os k p].p, os[posO os k p].c + b⟩
  | o :: os, h, hi => by
    by_cases hb : before o ⟨k, p, 0⟩ = true
    · have e : posO (o :: os) k p = posO os k p + 1 := by rw [posO_cons, if_pos hb]
      simp only [e, List.getElem_cons_succ] at h hi ⊢
      rw [chgO, if_pos hb, chgO_old os (by simpa using h) hi, List.take_succ_cons, List.drop_succ_cons, List.cons_append, List.set_cons_succ]
      split <;> rfl
    · have e : posO (o :: os) k p = 0 := by rw [posO_cons, if_neg hb]
      simp only [e, List.getElem_cons_zero] at h hi ⊢
      rw [chgO, if_neg hb, if_pos hi]
      split <;> simp
theorem cmpO_lt {a b : Outing} : cmpO a b < 0 ↔ before a b = true := by
  have h := cmpO_before a b
  by_cases h0 : 0 ≤ cmpO a b
  · rw [decide_eq_true h0] at h
    have : before a b = false := by cases hb : before a b; rfl; rw [hb] at h; cases h
    rw [this]; constructor
    · intro h; omega
    · intro h; cases h
  · rw [decide_eq_false h0] at h
    have : before a b = true := by cases hb : before a b; rw [hb] at h; cases h; rfl
    rw [this]; constructor
    · intro _; rfl
    · intro _; omega
theorem cmpO_zero {a : Outing} {k p b : Int} : decide (cmpO a ⟨k, p, b⟩ = 0) = isAt k p a := by
  rw [Bool.eq_iff_iff, decide_eq_true_eq, isAt_iff]
  unfold cmpO orI cmpI
  dsimp only
  constructor
  · intro h
    repeat' split at h
    all_goals first | omega | (constructor <;> omega)
  · rintro ⟨rfl, rfl⟩
    simp

theorem OffOwn.ne_to {w : World} {B g : Nat} {vt vo : Value} {y : Oc} (h : OffOwn w B g vt vo y) : vo.ownBlock ≠ some g := fun e => ownsRow_far h.o h.lies ne_OO e.symm
theorem OffOwn.ne_t {w : World} {B g : Nat} {vt vo : Value} {y : Oc} (h : OffOwn w B g vt vo y) : vt.ownBlock ≠ some g := fun e => ownsRow_far h.t h.lies ne_TO e.symm
/-- The outings' row turns, and then the field that holds it. -/
theorem OffOwn.setO {w w' : World} {B g : Nat} {vt vo vo' : Value} {y : Oc} {os : List Outing} (h : OffOwn w B g vt vo y) (hg : w.grownBy w' vo.ownBlock) (ho : w'.ownsRow B 71 3 vo' os.length (os.flatMap Outing.enc)) :
    OffOwn (w'.setCell ⟨g, 1, none⟩ vo') B g vt vo' { y with o := os } := by
  have hL : Lies w' g 32 _ := h.lies.kept hg (fun e => h.ne_to e.symm)
  have ht := ownsRow_two h.t h.o ne_OT hg
  exact ⟨hL.set 1 vo', h.hg, ownsRow_setOther ht hL ne_TO 1 vo', ownsRow_setOther ho hL ne_OO 1 vo'⟩

theorem cmpFn_any (t u : Outing) (w : World) : Calls Tryd.prog 60 (#[t.val, u.val] ++ #[]) w fun e w' => e = .returned (.int .i64 (cmpO t u)) ∧ Below w.heap.size w w' := compareOutings_any t u w

end Go.Proofs.YtdiojhjkcholiaaDoor

/- Steps of an office: what a step gives (plain); the program's closures. -/
namespace Go.Proofs.YtdiojhjkcholiaaDoor
open Go.RowKit

def Oc.fin (r : Oc) : Option Oc := if r.good then some r else none
/-- What a valid step of an office gives. -/
def stepD (y : Oc) (s : Stp) : Option Oc :=
  if s.kind = 1 then Oc.fin { y with t := inTrays y.t s.stamp s.value, got := y.got + s.value }
  else if ¬ 0 ≤ trayIx y.t s.stamp then none
  else if s.kind = 2 then Oc.fin { y with t := inTrays y.t s.stamp (-s.value), o := chgO s.stamp s.person s.value y.o }
  else if outAt s.stamp s.person y.o = 0 ∧ 0 < s.person then none
  else if s.kind = 3 then Oc.fin { y with t := inTrays y.t s.stamp s.value, o := chgO s.stamp s.person (-s.value) y.o }
  else if s.kind = 4 then (if s.person = 0 then Oc.fin { y with t := inTrays y.t s.stamp (-s.value), sold := y.sold + s.value } else Oc.fin { y with o := chgO s.stamp s.person (-s.value) y.o, sold := y.sold + s.value })
  else if s.kind = 5 then Oc.fin { y with o := chgO s.stamp s.person (-outAt s.stamp s.person y.o) y.o, missed := y.missed + outAt s.stamp s.person y.o }
  else Oc.fin { y with o := chgO s.stamp s.value (outAt s.stamp s.person y.o) (chgO s.stamp s.person (-outAt s.stamp s.person y.o) y.o) }
def Oc.zero : Oc := ⟨[], [], 0, 0, 0⟩
def resOf (R : Option Oc) : Oc := R.getD Oc.zero
/-- A step's results: an office of the call's own, and whether there is one. -/
def GivesStep (w : World) (R : Option Oc) (e : Ending) (w' : World) : Prop :=
  ∃ TA tc OA oc, e = .returned (.tuple #[Off.val ((resOf R).at TA tc OA oc), .bool R.isSome]) ∧ w'.ownsRow w.heap.size 68 2 (.slice TA (resOf R).t.length tc) (resOf R).t.length ((resOf R).t.flatMap Tray.enc) ∧
    w'.ownsRow w.heap.size 71 3 (.slice OA (resOf R).o.length oc) (resOf R).o.length ((resOf R).o.flatMap Outing.enc) ∧ Below w.heap.size w w'
theorem GivesStep.no {w w' : World} {e : Ending} (he : e = .returned (.tuple #[.agg #[.slice none 0 0, .slice none 0 0, .int .i64 0, .int .i64 0, .int .i64 0], .bool false])) (hb : Below w.heap.size w w') : GivesStep w none e w' :=
  ⟨none, 0, none, 0, he, World.ownsRow_nil _ _ _ _, World.ownsRow_nil _ _ _ _, hb⟩
theorem GivesStep.yes {w w' : World} {e : Ending} {r : Oc} {A1 A2 : Option Addr} {a1 a2 : Nat} (he : e = .returned (.tuple #[.agg #[.slice A1 r.t.length a1, .slice A2 r.o.length a2, .int .i64 r.got, .int .i64 r.sold, .int .i64 r.missed], .bool true]))
    (h8 : w'.ownsRow w.heap.size 68 2 (.slice A1 r.t.length a1) r.t.length (r.t.flatMap Tray.enc)) (h9 : w'.ownsRow w.heap.size 71 3 (.slice A2 r.o.length a2) r.o.length (r.o.flatMap Outing.enc)) (hb : Below w.heap.size w w') : GivesStep w (some r) e w' :=
  ⟨A1, a1, A2, a2, he, h8, h9, hb⟩
theorem OffOwn.at_ {w : World} {B g : Nat} {A1 A2 : Option Addr} {c1 c2 : Nat} {y : Oc} (h : OffOwn w B g (.slice A1 y.t.length c1) (.slice A2 y.o.length c2) y) : OffAt w w.heap.size g (y.at A1 c1 A2 c2) :=
  OffAt.of (x := y.at A1 c1 A2 c2) h.lies ⟨ownsRow_reads h.t, ownsRow_reads h.o⟩
theorem OffOwn.form {w : World} {B g : Nat} {vt vo : Value} {y : Oc} (h : OffOwn w B g vt vo y) : ∃ A1 c1 A2 c2, vt = .slice A1 y.t.length c1 ∧ vo = .slice A2 y.o.length c2 := by
  obtain ⟨A1, c1, h1⟩ := ownsRow_slice h.t
  obtain ⟨A2, c2, h2⟩ := ownsRow_slice h.o
  exact ⟨A1, c1, A2, c2, h1, h2⟩

theorem inTrays_at {ts : List Tray} {kd n : Int} {i : Nat} (h : trayIx ts kd = i) (hi : i < ts.length) : inTrays ts kd n = ts.set i ⟨ts[i].k, ts[i].c + n⟩ := by
  unfold inTrays
  rw [h, if_pos (by omega), Int.toNat_natCast, List.getD_eq_getElem?_getD, List.getElem?_eq_getElem hi]; rfl
/-- The count of a tray is written. -/
theorem OffOwn.setT {w : World} {B g gT cT i : Nat} {vo : Value} {y : Oc} (h : OffOwn w B g (.slice (some ⟨gT, 0, none⟩) y.t.length cT) vo y) (hi : i < y.t.length) (c : Int) :
    OffOwn (w.setCell ⟨gT, i * 2 + 1, none⟩ (.int .i64 c)) B g (.slice (some ⟨gT, 0, none⟩) y.t.length cT) vo { y with t := y.t.set i ⟨y.t[i].k, c⟩ } ∧ Below B w (w.setCell ⟨gT, i * 2 + 1, none⟩ (.int .i64 c)) ∧ w.cell? ⟨gT, i * 2 + 1, none⟩ = some (.int .i64 y.t[i].c) ∧ w.frozen? ⟨gT, i * 2 + 1, none⟩ = false := by
  have hj : i * 2 + 1 < y.t.length * 2 := by omega
  have hB : B ≤ gT := (h.t.lt gT rfl).1
  have hlt : gT < w.heap.size := (h.t.lt gT rfl).2
  have hg : gT ≠ g := fun e => h.ne_t (by rw [← e]; rfl)
  have ht := ownsRow_set h.t (i * 2 + 1) (.int .i64 c) hj
  rw [flat_setT hi] at ht
  have hgr : w.grownBy (w.setCell ⟨gT, i * 2 + 1, none⟩ (.int .i64 c)) (some gT) := grown_set (World.grownBy.refl w (some gT))
  refine ⟨⟨h.lies.other (p := ⟨gT, i * 2 + 1, none⟩) (fun e => hg e.symm) _, h.hg, by simpa using ht, ownsRow_two (v' := .slice (some ⟨gT, 0, none⟩) y.t.length cT) h.o h.t (Ne.symm ne_OT) hgr⟩, ?_, ?_, h.t.frozenAt _⟩
  · exact (Below.refl B w).grown hgr (Nat.le_of_lt (Nat.lt_of_le_of_lt hB hlt)) (by rintro _ ⟨⟩; exact hB)
  · rw [h.t.cellAt _ hj, flat_at Tray.enc 2 Tray.enc_len y.t i hi 1 (by omega)]; rfl
theorem OffOwn.setT' {w : World} {B g gT cT i : Nat} {vo : Value} {y : Oc} (h : OffOwn w B g (.slice (some ⟨gT, 0, none⟩) y.t.length cT) vo y) (hi : i < y.t.length) (tr : Tray) (htr : y.t[i] = tr) (c : Int) :
    OffOwn (w.setCell ⟨gT, i * 2 + 1, none⟩ (.int .i64 c)) B g (.slice (some ⟨gT, 0, none⟩) y.t.length cT) vo { y with t := y.t.set i ⟨tr.k, c⟩ } ∧ Below B w (w.setCell ⟨gT, i * 2 + 1, none⟩ (.int .i64 c)) ∧ w.cell? ⟨gT, i * 2 + 1, none⟩ = some (.int .i64 tr.c) ∧ w.frozen? ⟨gT, i * 2 + 1, none⟩ = false := by
  subst htr; exact h.setT hi c
/-- A number of the office is written. -/
theorem OffOwn.setN {w : World} {B g : Nat} {vt vo : Value} {y : Oc} (h : OffOwn w B g vt vo y) (c : Int) :
    OffOwn (w.setCell ⟨g, 2, none⟩ (.int .i64 c)) B g vt vo { y with got := c } ∧ OffOwn (w.setCell ⟨g, 3, none⟩ (.int .i64 c)) B g vt vo { y with sold := c } ∧ OffOwn (w.setCell ⟨g, 4, none⟩ (.int .i64 c)) B g vt vo { y with missed := c } :=
  ⟨⟨h.lies.set 2 _, h.hg, ownsRow_setOther h.t h.lies ne_TO 2 _, ownsRow_setOther h.o h.lies ne_OO 2 _⟩, ⟨h.lies.set 3 _, h.hg, ownsRow_setOther h.t h.lies ne_TO 3 _, ownsRow_setOther h.o h.lies ne_OO 3 _⟩, ⟨h.lies.set 4 _, h.hg, ownsRow_setOther h.t h.lies ne_TO 4 _, ownsRow_setOther h.o h.lies ne_OO 4 _⟩⟩
theorem OffOwn.belowN {w : World} {B g : Nat} {vt vo : Value} {y : Oc} (h : OffOwn w B g vt vo y) (i : Nat) (u : Value) : Below B w (w.setCell ⟨g, i, none⟩ u) :=
  (Below.refl B w).grown (grown_set (World.grownBy.refl w (some g))) (Nat.le_of_lt (Nat.lt_of_le_of_lt h.hg h.lies.lt)) (by rintro _ ⟨⟩; exact h.hg)
theorem Good.asc {x : Off} (h : Good x) : AscO x.o := (outsFrom_asc x.t x.o none h.os).1
theorem Good.at_ {x : Off} (h : Good x) (st pe : Int) : outSum (isAt st pe) x.o = outAt st pe x.o := by
  have := outSum_at (k := st) (p := pe) x.o 0 h.asc
  rwa [Int.zero_add] at this
theorem Good.at_bd {x : Off} (h : Good x) (st pe : Int) : 0 ≤ outAt st pe x.o ∧ outAt st pe x.o ≤ 9999 := by
  rcases outAt_mem (k := st) (p := pe) x.o with h0 | ⟨o, ho, _, hc⟩
  · omega
  · obtain ⟨j, hj, rfl⟩ := List.getElem_of_mem ho
    have := (Outing.bounds (h.oall j hj)).2.2
    omega
theorem Good.oc {x : Off} (h : Good x) : ∀ o ∈ x.o, -1000000000 ≤ o.c ∧ o.c ≤ 1000000000 := fun o ho => by
  obtain ⟨j, hj, rfl⟩ := List.getElem_of_mem ho
  have := (Outing.bounds (h.oall j hj)).2.2
  omega
/-- The trays' row turns, and then the field that holds it. -/
theorem OffOwn.setTs {w w' : World} {B g : Nat} {vt vt' vo : Value} {y : Oc} {ts : List Tray} (h : OffOwn w B g vt vo y) (hg : w.grownBy w' vt.ownBlock) (ht : w'.ownsRow B 68 2 vt' ts.length (ts.flatMap Tray.enc)) :
    OffOwn (w'.setCell ⟨g, 0, none⟩ vt') B g vt' vo { y with t := ts } := by
  have hL : Lies w' g 32 _ := h.lies.kept hg (fun e => h.ne_t e.symm)
  have ho := ownsRow_two h.o h.t (Ne.symm ne_OT) hg
  exact ⟨hL.set 0 vt', h.hg, ownsRow_setOther ht hL ne_TO 0 vt', ownsRow_setOther ho hL ne_OO 0 vt'⟩
theorem cmpI_lt {a b : Int} : cmpI a b < 0 ↔ a < b := by
  unfold cmpI; split
  · simp [*]
  · split <;> simp [*]
theorem cmpI_zero {a b : Int} : cmpI a b = 0 ↔ a = b := by
  unfold cmpI; split
  · simp; omega
  · split
    · simp; omega
    · simp; omega
theorem Good.ascT {x : Off} (h : Good x) : Asc x.t := (traysFrom_asc x.t 0 0 h.ts).1
theorem newTray_at (ts : List Tray) (kd : Int) : ∃ h : posT ts kd < (newTray ts kd).length, (newTray ts kd)[posT ts kd] = ⟨kd, 0⟩ := by
  have hl : (ts.take (posT ts kd)).length = posT ts kd := by rw [List.length_take, Nat.min_eq_left (posT_le ts kd)]
  have h : (newTray ts kd)[posT ts kd]? = some ⟨kd, 0⟩ := by
    unfold newTray; rw [List.getElem?_append_right (by omega), hl, Nat.sub_self]; rfl
  exact List.getElem?_eq_some_iff.1 h
theorem newTray_len (ts : List Tray) (kd : Int) : (newTray ts kd).length = ts.length + 1 := by
  have := posT_le ts kd
  unfold newTray; simp; omega
end Go.Proofs.YtdiojhjkcholiaaDoor

/- A region whose order is drawn and whose last operation comes behind all others (a store): by one fact on each operation. -/
namespace Go.Proofs.YtdiojhjkcholiaaDoor
open Go.RowKit

section
variable {P : Program} {ops : Array Oper} {Q : Exit → Act → World → Prop}

/-- The walk: a fact on each operation's value, and the last operation from all the facts. -/
def wpFactsT (P : Program) (ops : Array Oper) (Q : Exit → Act → World → Prop) (C : World → Prop) (T : World → World → Prop) (fr : (Nat → Value) → Act) : Nat → List Oper → List (Value → World → Prop) → Prop
  | _, [], _ => False
  | k, o :: l, Rs => (l = [] ∧ ∀ vs w, C w → (∀ (j : Nat) (R : Value → World → Prop), Rs[j]? = some R → R (vs j) w) → ∀ K : Act → World → Prop, (∀ a' w', Q .normal a' w' → K a' w') →
      if Region.wanted o (yielded ops (fr vs).tmps) = true then o.wp P (fr vs) w K Q else K ((fr vs).put o.dst undef) w) ∨
    (∃ R : Value → World → Prop, (∀ v w w', R v w → T w w' → R v w') ∧
    (∀ vs w, C w → (∀ (j : Nat) (R' : Value → World → Prop), ahead .any ops ops.size k j = true → Rs[j]? = some R' → R' (vs j) w) → ∀ K : Act → World → Prop, (∀ a' v w', a' = (fr vs).put o.dst v → R v w' → C w' → T w w' → K a' w') →
      if Region.wanted o (yielded ops (fr vs).tmps) = true then o.wp P (fr vs) w K Q else K ((fr vs).put o.dst undef) w) ∧
    wpFactsT P ops Q C T fr (k + 1) l (Rs ++ [R]))

theorem wpFactsT_all {C : World → Prop} {T : World → World → Prop} {fr : (Nat → Value) → Act} : ∀ (l : List Oper) (k : Nat) (Rs : List (Value → World → Prop)), (∀ i, l[i]? = ops[k + i]?) → Rs.length = k →
    (∀ (j : Nat) (R : Value → World → Prop), Rs[j]? = some R → ∀ v w w', R v w → T w w' → R v w') →
    (∀ (j : Nat) (o : Oper) (R : Value → World → Prop), j < k → ops[j]? = some o → Rs[j]? = some R → ∀ vs w, C w → (∀ (j' : Nat) (R' : Value → World → Prop), ahead .any ops ops.size j j' = true → j' < j → Rs[j']? = some R' → R' (vs j') w) → ∀ K : Act → World → Prop, (∀ a' v w', a' = (fr vs).put o.dst v → R v w' → C w' → T w w' → K a' w') →
      if Region.wanted o (yielded ops (fr vs).tmps) = true then o.wp P (fr vs) w K Q else K ((fr vs).put o.dst undef) w) →
    wpFactsT P ops Q C T fr k l Rs →
    ∃ Rs' : List (Value → World → Prop), Rs'.length + 1 = ops.size ∧ (∀ (j : Nat) (R : Value → World → Prop), Rs'[j]? = some R → ∀ v w w', R v w → T w w' → R v w') ∧
    (∀ (j : Nat) (o : Oper) (R : Value → World → Prop), ops[j]? = some o → Rs'[j]? = some R → ∀ vs w, C w → (∀ (j' : Nat) (R' : Value → World → Prop), ahead .any ops ops.size j j' = true → j' < j → Rs'[j']? = some R' → R' (vs j') w) → ∀ K : Act → World → Prop, (∀ a' v w', a' = (fr vs).put o.dst v → R v w' → C w' → T w w' → K a' w') →
      if Region.wanted o (yielded ops (fr vs).tmps) = true then o.wp P (fr vs) w K Q else K ((fr vs).put o.dst undef) w) ∧
    (∀ o, ops[Rs'.length]? = some o → ∀ vs w, C w → (∀ (j : Nat) (R : Value → World → Prop), Rs'[j]? = some R → R (vs j) w) → ∀ K : Act → World → Prop, (∀ a' w', Q .normal a' w' → K a' w') →
      if Region.wanted o (yielded ops (fr vs).tmps) = true then o.wp P (fr vs) w K Q else K ((fr vs).put o.dst undef) w)
  | [], k, Rs, _, _, _, _, h => h.elim
  | o :: l, k, Rs, hl, hlen, hst, hop, h => by
    have ho : ops[k]? = some o := by simpa using (hl 0).symm
    rcases h with ⟨rfl, hlast⟩ | ⟨R, hRs, hRo, hrest⟩
    · have h1 : ops[k + 1]? = none := by have := hl 1; simpa using this.symm
      have hk : k < ops.size := (Array.getElem?_eq_some_iff.1 ho).1
      have hk1 : ¬ k + 1 < ops.size := fun hh => by rw [Array.getElem?_eq_getElem hh] at h1; cases h1
      refine ⟨Rs, by omega, hst, fun j o R ho hR => hop j o R ?_ ho hR, fun o' ho' => ?_⟩
      · rw [← hlen]; exact (List.getElem?_eq_some_iff.1 hR).1
      · rw [hlen, ho] at ho'; cases ho'; exact hlast
    · have hold : ∀ j, j < k → (Rs ++ [R])[j]? = Rs[j]? := fun j hj => List.getElem?_append_left (by omega)
      have hnew : (Rs ++ [R])[k]? = some R := by rw [List.getElem?_append_right (by omega), hlen]; simp
      exact wpFactsT_all l (k + 1) (Rs ++ [R]) (fun i => by have := hl (i + 1); simpa [Nat.add_assoc, Nat.add_comm 1 i] using this) (by simp [hlen])
        (fun j R' hR' => by
          rcases Nat.lt_trichotomy j k with hj | hj | hj
          · rw [hold j hj] at hR'; exact hst j R' hR'
          · subst hj; rw [hnew] at hR'; cases hR'; exact hRs
          · rw [List.getElem?_eq_none (by simp [hlen]; omega)] at hR'; cases hR')
        (fun j o' R' hj ho' hR' vs w hC hB K hK => by
          rcases Nat.lt_or_ge j k with hjk | hjk
          · rw [hold j hjk] at hR'
            exact hop j o' R' hjk ho' hR' vs w hC (fun j' R'' ha hlt h'' => hB j' R'' ha hlt (by rw [hold j' (by omega)]; exact h'')) K hK
          · obtain rfl : j = k := by omega
            rw [ho] at ho'; cases ho'
            rw [hnew] at hR'; cases hR'
            refine hRo vs w hC (fun j' R'' ha h'' => ?_) K hK
            have hlt : j' < Rs.length := (List.getElem?_eq_some_iff.1 h'').1
            exact hB j' R'' ha (by omega) (by rw [hold j' (by omega)]; exact h''))
        hrest

def allAhead (ops : Array Oper) (n : Nat) : Bool := (List.range n).all fun j => ahead .any ops ops.size n j

theorem wpAny_factsT {C : World → Prop} {T : World → World → Prop} {a₀ : Act} (hap : dstsApart ops.toList = true) (hdn : edgesDown .any ops = true) (Rs : List (Value → World → Prop)) (hlen : Rs.length + 1 = ops.size) (hah : allAhead ops Rs.length = true)
    (hst : ∀ (j : Nat) (R : Value → World → Prop), Rs[j]? = some R → ∀ v w w', R v w → T w w' → R v w')
    (hop : ∀ (j : Nat) (o : Oper) (R : Value → World → Prop), ops[j]? = some o → Rs[j]? = some R → ∀ vs w, C w → (∀ (j' : Nat) (R' : Value → World → Prop), ahead .any ops ops.size j j' = true → j' < j → Rs[j']? = some R' → R' (vs j') w) → ∀ K : Act → World → Prop, (∀ a' v w', a' = (fillOps vs ops.toList 0 a₀).put o.dst v → R v w' → C w' → T w w' → K a' w') →
      if Region.wanted o (yielded ops (fillOps vs ops.toList 0 a₀).tmps) = true then o.wp P (fillOps vs ops.toList 0 a₀) w K Q else K ((fillOps vs ops.toList 0 a₀).put o.dst undef) w)
    (hlast : ∀ o, ops[Rs.length]? = some o → ∀ vs w, C w → (∀ (j : Nat) (R : Value → World → Prop), Rs[j]? = some R → R (vs j) w) → ∀ K : Act → World → Prop, (∀ a' w', Q .normal a' w' → K a' w') →
      if Region.wanted o (yielded ops (fillOps vs ops.toList 0 a₀).tmps) = true then o.wp P (fillOps vs ops.toList 0 a₀) w K Q else K ((fillOps vs ops.toList 0 a₀).put o.dst undef) w) :
    ∀ (fuel : Nat) (listed : Array Bool) (vs : Nat → Value) (w : World), listed.size = ops.size → unlisted ops.size listed ≤ fuel → Closed .any ops listed → listed.getD Rs.length false = false → C w → (∀ (j : Nat) (R : Value → World → Prop), listed.getD j false = true → Rs[j]? = some R → R (vs j) w) →
      wpAny P .any ops Q fuel listed (fillOps vs ops.toList 0 a₀) w := by
  intro fuel
  induction fuel with
  | zero =>
    intro listed vs w hs hu hcl hn hC hR
    have : unlisted ops.size (listed.setIfInBounds Rs.length true) < unlisted ops.size listed := unlisted_set (by omega) hs hn
    omega
  | succ fuel ih =>
    intro listed vs w hs hu hcl hn hC hR
    refine ⟨fun hr => ?_, fun i hi => ?_⟩
    · have := listed_ready hdn hs hr Rs.length (by omega)
      rw [hn] at this; cases this
    obtain ⟨h0, o, ho, hall⟩ := mem_ready.1 hi
    have hisz : i < ops.size := (Array.getElem?_eq_some_iff.1 ho).1
    have hil : i < listed.size := by omega
    have h0' : listed.getD i false = false := by simp only [Array.getD, hil, ↓reduceDIte] at h0 ⊢; exact h0
    by_cases hin : i = Rs.length
    · have hall' : ∀ j, j < Rs.length → listed.getD j false = true := fun j hj => by
        refine ahead_listed hcl ops.size i j (fun o' ho' => by rw [ho] at ho'; cases ho'; exact hall) ?_
        rw [hin]; exact List.all_eq_true.1 hah j (List.mem_range.2 hj)
      have hstep := hlast o (by rw [← hin]; exact ho) vs w hC (fun j R hj => hR j R (hall' j (List.getElem?_eq_some_iff.1 hj).1) hj)
        (wpAny P .any ops Q fuel (listed.setIfInBounds i true)) (fun a' w' hq => by
          have hfull : ∀ j, j ∉ Region.ready .any ops (listed.setIfInBounds i true) := fun j hj => by
            obtain ⟨g0, o', ho', _⟩ := mem_ready.1 hj
            have hjs : j < ops.size := (Array.getElem?_eq_some_iff.1 ho').1
            have hjl : j < (listed.setIfInBounds i true).size := by simp; omega
            have g0' : (listed.setIfInBounds i true).getD j false = false := by simp only [Array.getD, hjl, ↓reduceDIte] at g0 ⊢; exact g0
            by_cases hji : j = i
            · subst hji; simp [hil] at g0'
            · rw [getD_set_ne false (Ne.symm hji), hall' j (by omega)] at g0'; cases g0'
          have hnil : Region.ready .any ops (listed.setIfInBounds i true) = [] := List.eq_nil_iff_forall_not_mem.2 hfull
          cases fuel with
          | zero => exact ⟨hnil, hq⟩
          | succ fuel => exact ⟨fun _ => hq, fun j hj => absurd hj (hfull j)⟩)
      unfold wpOp
      simp only [ho]
      split
      · rename_i hw; rw [if_pos hw] at hstep; exact .inl hstep
      · rename_i hw; rw [if_neg hw] at hstep; exact hstep
    obtain ⟨R, hRi⟩ : ∃ R, Rs[i]? = some R := ⟨Rs[i]'(by omega), List.getElem?_eq_getElem (by omega)⟩
    have hstep := hop i o R ho hRi vs w hC (fun j' R' ha _ hR' => hR j' R' (ahead_listed hcl ops.size i j' (fun o' ho' => by rw [ho] at ho'; cases ho'; exact hall) ha) hR')
      (wpAny P .any ops Q fuel (listed.setIfInBounds i true)) (fun a' v w' ha hRv hC' hT => by
        rw [ha, fillOps_upd ops.toList 0 a₀ vs i o v hap (by simpa using ho), Nat.zero_add]
        refine ih _ _ _ (by simpa using hs) ?_ ?_ ?_ hC' ?_
        · have := unlisted_set hisz hs h0'; omega
        · intro j oj hoj hj e he hb
          by_cases hji : j = i
          · subst hji; rw [ho] at hoj; cases hoj; exact getD_set_true (hall e he hb)
          · rw [getD_set_ne false (Ne.symm hji)] at hj; exact getD_set_true (hcl j oj hoj hj e he hb)
        · rw [getD_set_ne false (fun h => hin h)]; exact hn
        · intro j R' hj hR'
          by_cases hji : j = i
          · subst hji; rw [hRi] at hR'; cases hR'; simpa [upd] using hRv
          · rw [getD_set_ne false (Ne.symm hji)] at hj
            have := hst j R' hR' _ _ _ (hR j R' hj hR') hT
            simpa [upd, hji] using this)
    unfold wpOp
    simp only [ho]
    split
    · rename_i hw; rw [if_pos hw] at hstep; exact .inl hstep
    · rename_i hw; rw [if_neg hw] at hstep; exact hstep

/-- The region. -/
theorem wp_region_factsT {id : Nat} {a : Act} {w : World} {l : List Oper} (C : World → Prop) (T : World → World → Prop) (hm : P.follows .mixedOrders = true) (hap : dstsApart l = true) (hdn : edgesDown .any l.toArray = true) (hah : allAhead l.toArray (l.length - 1) = true)
    (hC : C w.drew) (h : wpFactsT P l.toArray Q C T (fun vs => fillOps vs l 0 a) 0 l []) : (Code.region id l.toArray true).wp P Q a w := by
  refine wp_region_any hm ?_
  obtain ⟨Rs, h1, h2, h3, h4⟩ := wpFactsT_all (ops := l.toArray) l 0 [] (by simp) rfl (by simp) (by simp) h
  obtain ⟨vs, hvs⟩ : ∃ vs : Nat → Value, ∀ i o t, l[i]? = some o → o.dst = some t → vs (0 + i) = a.tmps.getD t undef :=
    ⟨fun i => match (l[i]?).bind (·.dst) with | some t => a.tmps.getD t undef | none => undef, fun i o t hi ht => by simp [hi, ht]⟩
  have hl1 : Rs.length = l.length - 1 := by have h1' : Rs.length + 1 = l.length := by simpa using h1
                                            omega
  have := wpAny_factsT (P := P) (Q := Q) (ops := l.toArray) (C := C) (T := T) (a₀ := a) hap hdn Rs h1 (by rw [hl1]; exact hah) h2 h3 h4 l.toArray.size (Array.replicate l.toArray.size false) vs w.drew (by simp)
    (Nat.le_trans (List.length_filter_le _ _) (by simp)) (fun j o hj hl => by simp [Array.getD] at hl) (by simp [Array.getD]) hC (fun j R hl => by simp [Array.getD] at hl)
  rwa [fillOps_self vs _ 0 a (by simpa using hvs)] at this

theorem wpFactsT_last {C : World → Prop} {T : World → World → Prop} {fr : (Nat → Value) → Act} {k : Nat} {o : Oper} {Rs : List (Value → World → Prop)} (h : ∀ vs w, C w → (∀ (j : Nat) (R : Value → World → Prop), Rs[j]? = some R → R (vs j) w) → ∀ K : Act → World → Prop, (∀ a' w', Q .normal a' w' → K a' w') →
      if Region.wanted o (yielded ops (fr vs).tmps) = true then o.wp P (fr vs) w K Q else K ((fr vs).put o.dst undef) w) : wpFactsT P ops Q C T fr k [o] Rs := .inl ⟨rfl, h⟩
/-- An operation with one value. -/
theorem wpFactsT_val {C : World → Prop} {T : World → World → Prop} {fr : (Nat → Value) → Act} {k : Nat} {o : Oper} {l : List Oper} {Rs : List (Value → World → Prop)} (V : Value)
    (h1 : ∀ vs w, C w → (∀ (j : Nat) (R' : Value → World → Prop), ahead .any ops ops.size k j = true → Rs[j]? = some R' → R' (vs j) w) → ∀ K : Act → World → Prop, (∀ a' w', a' = (fr vs).put o.dst V → C w' → T w w' → K a' w') →
      if Region.wanted o (yielded ops (fr vs).tmps) = true then o.wp P (fr vs) w K Q else K ((fr vs).put o.dst undef) w)
    (h2 : wpFactsT P ops Q C T fr (k + 1) l (Rs ++ [fun v _ => v = V])) : wpFactsT P ops Q C T fr k (o :: l) Rs :=
  .inr ⟨fun v _ => v = V, fun _ _ _ h _ => h, fun vs w hC hB K hK => h1 vs w hC hB K fun a' w' ha hC' hT => hK a' V w' ha rfl hC' hT, h2⟩
/-- An operation whose value has a property. -/
theorem wpFactsT_some {C : World → Prop} {T : World → World → Prop} {fr : (Nat → Value) → Act} {k : Nat} {o : Oper} {l : List Oper} {Rs : List (Value → World → Prop)} (R : Value → World → Prop) (hR : ∀ v w w', R v w → T w w' → R v w')
    (h1 : ∀ vs w, C w → (∀ (j : Nat) (R' : Value → World → Prop), ahead .any ops ops.size k j = true → Rs[j]? = some R' → R' (vs j) w) → ∀ K : Act → World → Prop, (∀ a' v w', a' = (fr vs).put o.dst v → R v w' → C w' → T w w' → K a' w') →
      if Region.wanted o (yielded ops (fr vs).tmps) = true then o.wp P (fr vs) w K Q else K ((fr vs).put o.dst undef) w)
    (h2 : wpFactsT P ops Q C T fr (k + 1) l (Rs ++ [R])) : wpFactsT P ops Q C T fr k (o :: l) Rs :=
  .inr ⟨R, hR, h1, h2⟩
end
end Go.Proofs.YtdiojhjkcholiaaDoor

/- The reference's copy of an office. (Printed by gen_specown.py) -/
namespace Go.Proofs.YtdiojhjkcholiaaDoor
open Go.RowKit

/-- 'append([]T{}, xs...)' as one operation of a drawn region: no older block turns. -/
theorem stepCat {P : Program} {ops : Array Oper} {tm : Array Value} {o : Oper} {a : Act} {w : World} {K : Act → World → Prop} {Q : Exit → Act → World → Prop} {E : Prop}
    (hg : o.guard = none) (s x : Operand) (t : TypeId) (ho : o.op = .call { callee := .builtin .append, args := #[s, x], argTypes := #[t, t] })
    (e : TypeId) (z : Value) (k bytes : Nat) (ht : P.underlying t = some (.slice e)) (hinfo : (P.info? e).map (fun i => (i.zero, i.size, i.bytes)) = some (some z, k, bytes)) (hzs : z.cells.size = k) (hsz : 0 < k) (hby : bytes ≤ 1000)
    (B g : Nat) (hs : a.eval s = .slice (some ⟨g, 0, none⟩) 0 0) (hL : Lies w g e []) (hB : B ≤ g)
    (S : Nat) (A : Option Addr) (m c : Nat) (cs : List Value) (hx : a.eval x = .slice A m c) (hr : SlcR w S k A m cs) (h1 : ∀ u ∈ cs, u.oneCell' = true) (hm : m ≤ 1000000)
    (h : ∀ v' w', w'.ownsRow B e k v' m cs → Below w.heap.size w w' → K (a.put o.dst v') w') : if Region.wanted o (yielded ops tm) = true then o.wp P a w K Q else E := by
  have hw : ∀ tm : Array Value, Region.wanted o (yielded ops tm) = true := fun tm => by simp [Region.wanted, hg]
  rw [if_pos (hw _)]
  obtain ⟨i, hi, hz, hs', hb⟩ := info_parts hinfo
  have hbytes : (0 + m) * bytes ≤ 140737488355328 := by have := Nat.mul_le_mul (show 0 + m ≤ 1000000 by omega) hby; omega
  have hlt := hL.lt
  rcases Nat.eq_zero_or_pos m with h0 | h0
  · subst h0
    have hc0 : cs = [] := List.eq_nil_of_length_eq_zero (by simpa using hr.len)
    subst hc0
    have hown : w.ownsRow B e k (.slice (some ⟨g, 0, none⟩) 0 0) 0 [] := owns_empty hL hB
    have hrun : (Builtin.append_ #[t, t] o.type #[.slice (some ⟨g, 0, none⟩) 0 0, .slice A 0 c]).run P w = .ok (.slice (some ⟨g, 0, none⟩) 0 0) w := by
      rcases A with _ | ad
      · exact run_cat_nil w B t o.type e i k ht hi _ 0 [] hown c
      · simp [Builtin.append_, run_underlying ht, sizeOf, typeInfo, hi, Builtin.lenOf, Builtin.firstCells, loadCells, loadCellsFrom, storeCells]
    unfold Oper.wp execOp
    simp only [ho, resolve, invoke, builtin, Sem.run_bind, Sem.run_pure, Result.andThen_ok, List.map_toArray, List.map_cons, List.map_nil, hs, hx, hrun]
    exact h _ _ hown (Below.refl _ _)
  · obtain ⟨b, off, rfl, hlt', hcell⟩ := hr.at_ h0
    have key := step_append_grows (P := P) (ops := ops) (a := a) (w := w) (K := K) (Q := Q) (E := E) hg s x t ho e i z k bytes ht hi hz hs' hb hzs hsz (some ⟨g, 0, none⟩) 0 0 [] hs (by simp) (by simp) (by simp) ⟨b, off, none⟩ m c cs hx hr.len (fun j u hu => by rw [addr_add]; exact hcell j u hu) h1 (by omega) (by unfold maxLen; omega) hbytes (fun v' w' h2 h3 => by
      rw [Nat.zero_add, List.nil_append] at h2
      exact h v' w' (ownsRow_lower h2 (by omega)) ((Below.refl _ _).grown h3 (Nat.le_refl _) (fun j hj => by cases hj)))
    rw [if_pos (hw _)] at key
    exact key

/-- An office like x that owns its rows. -/
def GivesOff (w : World) (y : Oc) (e : Ending) (w' : World) : Prop :=
  ∃ TA tc OA oc, e = .returned (y.at TA tc OA oc).val ∧ w'.ownsRow w.heap.size 68 2 (.slice TA y.t.length tc) y.t.length (y.t.flatMap Tray.enc) ∧ w'.ownsRow w.heap.size 71 3 (.slice OA y.o.length oc) y.o.length (y.o.flatMap Outing.enc) ∧ Below w.heap.size w w'
theorem ne_owt : 68 ≠ 32 := by decide
theorem ne_owo : 71 ≠ 32 := by decide

set_option maxRecDepth 100000 in
set_option maxHeartbeats 4000000 in
theorem l32Own_any (x : Off) (w : World) (h : OffR w w.heap.size x) (tl : x.t.length ≤ 1000000) (ol : x.o.length ≤ 1000000) :
    Calls Tryd.prog 81 #[x.val] w (GivesOff w x.c) := by
  have L1 := (Lies.new w 32 #[.slice x.TA x.t.length x.tc, .slice x.OA x.o.length x.oc, .int .i64 x.got, .int .i64 x.sold, .int .i64 x.missed]).alloc (.cells #[.slice none 0 0, .slice none 0 0, .int .i64 0, .int .i64 0, .int .i64 0] 32)
  have L2 := Lies.new1 w (.cells #[.slice x.TA x.t.length x.tc, .slice x.OA x.o.length x.oc, .int .i64 x.got, .int .i64 x.sold, .int .i64 x.missed] 32) 32 #[.slice none 0 0, .slice none 0 0, .int .i64 0, .int .i64 0, .int .i64 0]
  have b1 := (Below.refl w.heap.size w).alloc (Nat.le_refl _) (.cells #[.slice x.TA x.t.length x.tc, .slice x.OA x.o.length x.oc, .int .i64 x.got, .int .i64 x.sold, .int .i64 x.missed] 32)
  have b2 := b1.alloc b1.size (.cells #[.slice none 0 0, .slice none 0 0, .int .i64 0, .int .i64 0, .int .i64 0] 32)
  clear b1
  go_enter Tryd.func81, Tryd.ntmps81
  go_wp2_with fail
  generalize ((w.alloc (.cells #[.slice x.TA x.t.length x.tc, .slice x.OA x.o.length x.oc, .int .i64 x.got, .int .i64 x.sold, .int .i64 x.missed] 32)).alloc (.cells #[.slice none 0 0, .slice none 0 0, .int .i64 0, .int .i64 0, .int .i64 0] 32)) = W at L1 L2 b2 ⊢
  have hR := h.up b2 (Nat.le_refl _)
  have hT := hR.ts
  have hO := hR.os
  have l1 := L1.lt
  have l2 := L2.lt
  clear h hR
  refine wp_region_factsT (fun W9 => Below W.heap.size W W9) (fun w1 w2 => Below w1.heap.size w1 w2) (by kernel_rfl) (by kernel_rfl) (by kernel_rfl) (by kernel_rfl) (Below.refl _ _).drew ?_
  simp only [fillOps, Act.put, List.setIfInBounds_toArray, List.set_cons_zero, List.set_cons_succ, Nat.zero_add, Nat.reduceAdd]
  refine wpFactsT_some (fun v w9 => ∃ g, v = .slice (some ⟨g, 0, none⟩) 0 0 ∧ w.heap.size ≤ g ∧ Lies w9 g 68 []) (fun v w1 w2 hv hT' => by obtain ⟨g, e, hg, hl⟩ := hv; exact ⟨g, e, hg, hl.below hT' hl.lt⟩) (fun vs w9 hC9 hB K9 hK9 => ?_) ?_
  · go_simp
    exact hK9 _ _ _ rfl ⟨_, rfl, Nat.le_trans b2.size hC9.size, Lies.new w9 68 #[]⟩ (hC9.alloc hC9.size _) ((Below.refl _ _).alloc (Nat.le_refl _) _)
  refine wpFactsT_val (.pointer (some ⟨w.heap.size, 0, none⟩)) (fun vs w9 hC9 hB K9 hK9 => ?_) ?_
  · go_simp
    exact hK9 _ _ rfl hC9 (Below.refl _ _)
  refine wpFactsT_val (.slice x.TA x.t.length x.tc) (fun vs w9 hC9 hB K9 hK9 => ?_) ?_
  · have hd := hB 1 _ (by kernel_rfl) rfl
    simp only [hd] at hK9 ⊢
    have q1 : w9.cell? ⟨w.heap.size, 0, none⟩ = some (.slice x.TA x.t.length x.tc) := (L1.below hC9 L1.lt).cell 0
    go_simp
    exact hK9 _ _ rfl hC9 (Below.refl _ _)
  refine wpFactsT_some (fun v w9 => ∃ A c, v = .slice A x.t.length c ∧ w9.ownsRow w.heap.size 68 2 (.slice A x.t.length c) x.t.length (x.t.flatMap Tray.enc)) (fun v w1 w2 hv hT' => by obtain ⟨A, c, e, ho⟩ := hv; exact ⟨A, c, e, ownsRow_below ho hT'⟩) (fun vs w9 hC9 hB K9 hK9 => ?_) ?_
  · obtain ⟨g, e0, hg, hl⟩ := hB 0 _ (by kernel_rfl) rfl
    have hd := hB 2 _ (by kernel_rfl) rfl
    simp only [e0, hd] at hK9 ⊢
    refine stepCat rfl (.tmp 3) (.tmp 5) 29 rfl 68 _ 2 16 Tryd.underlying29 infoTray rfl (by omega) (by omega) w.heap.size g (by rfl) hl hg W.heap.size x.TA x.t.length x.tc (x.t.flatMap Tray.enc) (by rfl) (SlcR.below hT hC9) tray_cells tl ?_
    intro v' w' ho hb
    obtain ⟨A', c', rfl⟩ := ownsRow_slice ho
    exact hK9 _ _ _ rfl ⟨A', c', rfl, ho⟩ (hC9.trans (hb.mono hC9.size)) hb
  refine wpFactsT_some (fun v w9 => ∃ g, v = .slice (some ⟨g, 0, none⟩) 0 0 ∧ w.heap.size ≤ g ∧ Lies w9 g 71 []) (fun v w1 w2 hv hT' => by obtain ⟨g, e, hg, hl⟩ := hv; exact ⟨g, e, hg, hl.below hT' hl.lt⟩) (fun vs w9 hC9 hB K9 hK9 => ?_) ?_
  · go_simp
    exact hK9 _ _ _ rfl ⟨_, rfl, Nat.le_trans b2.size hC9.size, Lies.new w9 71 #[]⟩ (hC9.alloc hC9.size _) ((Below.refl _ _).alloc (Nat.le_refl _) _)
  refine wpFactsT_val (.pointer (some ⟨w.heap.size, 1, none⟩)) (fun vs w9 hC9 hB K9 hK9 => ?_) ?_
  · go_simp
    exact hK9 _ _ rfl hC9 (Below.refl _ _)
  refine wpFactsT_val (.slice x.OA x.o.length x.oc) (fun vs w9 hC9 hB K9 hK9 => ?_) ?_
  · have hd := hB 5 _ (by kernel_rfl) rfl
    simp only [hd] at hK9 ⊢
    have q1 : w9.cell? ⟨w.heap.size, 1, none⟩ = some (.slice x.OA x.o.length x.oc) := (L1.below hC9 L1.lt).cell 1
    go_simp
    exact hK9 _ _ rfl hC9 (Below.refl _ _)
  refine wpFactsT_some (fun v w9 => ∃ A c, v = .slice A x.o.length c ∧ w9.ownsRow w.heap.size 71 3 (.slice A x.o.length c) x.o.length (x.o.flatMap Outing.enc)) (fun v w1 w2 hv hT' => by obtain ⟨A, c, e, ho⟩ := hv; exact ⟨A, c, e, ownsRow_below ho hT'⟩) (fun vs w9 hC9 hB K9 hK9 => ?_) ?_
  · obtain ⟨g, e0, hg, hl⟩ := hB 4 _ (by kernel_rfl) rfl
    have hd := hB 6 _ (by kernel_rfl) rfl
    simp only [e0, hd] at hK9 ⊢
    refine stepCat rfl (.tmp 7) (.tmp 9) 30 rfl 71 _ 3 24 Tryd.underlying30 infoOuting rfl (by omega) (by omega) w.heap.size g (by rfl) hl hg W.heap.size x.OA x.o.length x.oc (x.o.flatMap Outing.enc) (by rfl) (SlcR.below hO hC9) outing_cells ol ?_
    intro v' w' ho hb
    obtain ⟨A', c', rfl⟩ := ownsRow_slice ho
    exact hK9 _ _ _ rfl ⟨A', c', rfl, ho⟩ (hC9.trans (hb.mono hC9.size)) hb
  refine wpFactsT_val (.pointer (some ⟨w.heap.size, 2, none⟩)) (fun vs w9 hC9 hB K9 hK9 => ?_) ?_
  · go_simp
    exact hK9 _ _ rfl hC9 (Below.refl _ _)
  refine wpFactsT_val (.int .i64 x.got) (fun vs w9 hC9 hB K9 hK9 => ?_) ?_
  · have hd := hB 8 _ (by kernel_rfl) rfl
    simp only [hd] at hK9 ⊢
    have q1 : w9.cell? ⟨w.heap.size, 2, none⟩ = some (.int .i64 x.got) := (L1.below hC9 L1.lt).cell 2
    go_simp
    exact hK9 _ _ rfl hC9 (Below.refl _ _)
  refine wpFactsT_val (.pointer (some ⟨w.heap.size, 3, none⟩)) (fun vs w9 hC9 hB K9 hK9 => ?_) ?_
  · go_simp
    exact hK9 _ _ rfl hC9 (Below.refl _ _)
  refine wpFactsT_val (.int .i64 x.sold) (fun vs w9 hC9 hB K9 hK9 => ?_) ?_
  · have hd := hB 10 _ (by kernel_rfl) rfl
    simp only [hd] at hK9 ⊢
    have q1 : w9.cell? ⟨w.heap.size, 3, none⟩ = some (.int .i64 x.sold) := (L1.below hC9 L1.lt).cell 3
    go_simp
    exact hK9 _ _ rfl hC9 (Below.refl _ _)
  refine wpFactsT_val (.pointer (some ⟨w.heap.size, 4, none⟩)) (fun vs w9 hC9 hB K9 hK9 => ?_) ?_
  · go_simp
    exact hK9 _ _ rfl hC9 (Below.refl _ _)
  refine wpFactsT_val (.int .i64 x.missed) (fun vs w9 hC9 hB K9 hK9 => ?_) ?_
  · have hd := hB 12 _ (by kernel_rfl) rfl
    simp only [hd] at hK9 ⊢
    have q1 : w9.cell? ⟨w.heap.size, 4, none⟩ = some (.int .i64 x.missed) := (L1.below hC9 L1.lt).cell 4
    go_simp
    exact hK9 _ _ rfl hC9 (Below.refl _ _)
  refine wpFactsT_some (fun v w9 => ∃ A c A' c', v = .agg #[.slice A x.t.length c, .slice A' x.o.length c', .int .i64 x.got, .int .i64 x.sold, .int .i64 x.missed] ∧ w9.ownsRow w.heap.size 68 2 (.slice A x.t.length c) x.t.length (x.t.flatMap Tray.enc) ∧ w9.ownsRow w.heap.size 71 3 (.slice A' x.o.length c') x.o.length (x.o.flatMap Outing.enc))
    (fun v w1 w2 hv hT' => by obtain ⟨A, c, A', c', e, ho, hp⟩ := hv; exact ⟨A, c, A', c', e, ownsRow_below ho hT', ownsRow_below hp hT'⟩) (fun vs w9 hC9 hB K9 hK9 => ?_) ?_
  · obtain ⟨A, c, e3, ho⟩ := hB 3 _ (by kernel_rfl) rfl
    obtain ⟨A', c', e7, hp⟩ := hB 7 _ (by kernel_rfl) rfl
    have d9 := hB 9 _ (by kernel_rfl) rfl
    have d11 := hB 11 _ (by kernel_rfl) rfl
    have d13 := hB 13 _ (by kernel_rfl) rfl
    have ho := Lib.hid ho
    have hp := Lib.hid hp
    simp only [e3, e7, d9, d11, d13] at hK9 ⊢
    go_simp
    exact hK9 _ _ _ rfl ⟨A, c, A', c', rfl, ho.out, hp.out⟩ hC9 (Below.refl _ _)
  refine wpFactsT_last (fun vs w9 hC9 hB K9 hK9 => ?_)
  obtain ⟨A, c, A', c', e14, ho, hp⟩ := hB 14 _ rfl
  simp only [e14] at hK9 ⊢
  have L2z := L2.below hC9 L2.lt
  have z0 := L2z.cell 0
  have z1 := L2z.cell 1
  have z2 := L2z.cell 2
  have z3 := L2z.cell 3
  have z4 := L2z.cell 4
  have f0 := L2z.frozen 0
  have f1 := L2z.frozen 1
  have f2 := L2z.frozen 2
  have f3 := L2z.frozen 3
  have f4 := L2z.frozen 4
  simp only [List.getElem?_cons_zero, List.getElem?_cons_succ] at z0 z1 z2 z3 z4
  have hgr := (grown_set (g := w.heap.size + 1) (i := 4) (u := .int .i64 x.missed) (grown_set (g := w.heap.size + 1) (i := 3) (u := .int .i64 x.sold) (grown_set (g := w.heap.size + 1) (i := 2) (u := .int .i64 x.got) (grown_set (g := w.heap.size + 1) (i := 1) (u := .slice A' x.o.length c') (grown_set (g := w.heap.size + 1) (i := 0) (u := .slice A x.t.length c) (World.grownBy.refl w9 (some (w.heap.size + 1))))))))
  have bw := b2.trans (hC9.mono b2.size)
  have bz := bw.grown hgr bw.size (by rintro _ ⟨⟩; omega)
  have R8 := Lib.hid (ownsRow_keptG ho L2z ne_owt hgr)
  have R9 := Lib.hid (ownsRow_keptG hp L2z ne_owo hgr)
  clear hgr ho hp hB L2z
  go_simp
  refine hK9 _ _ ?_
  clear hK9 K9
  go_wp2
  refine bodyPost_ret (v := .agg #[.slice A x.t.length c, .slice A' x.o.length c', .int .i64 x.got, .int .i64 x.sold, .int .i64 x.missed]) (by simp [results, Tryd.results81, go_sem, *]) rfl ?_
  exact ⟨A, c, A', c', rfl, R8.out, R9.out, bz⟩
end Go.Proofs.YtdiojhjkcholiaaDoor

/- Marks on an office whose rows are a call's own, and their reading. -/
namespace Go.Proofs.YtdiojhjkcholiaaDoor
open Go.RowKit

theorem Lies.apart {w : World} {g g' : Nat} {t t' : TypeId} {cs cs' : List Value} (h : Lies w g t cs) (h' : Lies w g' t' cs') (hne : t ≠ t') : g ≠ g' := by
  intro e
  subst e
  unfold Lies at h h'
  rw [h] at h'
  injection h' with h'; injection h' with _ h2; exact hne h2
/-- A row of another type is written: this one stays. -/
theorem OwnS.two {w w' : World} {B B' : Nat} {t t' : TypeId} {k k' : Nat} {A A' : Option Addr} {n n' : Nat} {cs cs' : List Value} (h : OwnS w B t k A n cs) (h' : OwnS w B' t' k' A' n' cs') (hne : t ≠ t') (hg : w.grownBy w' (A'.map (·.block))) : OwnS w' B t k A n cs := by
  obtain ⟨hl, hn, h0 | ⟨g, rest, hA, hg1, hh⟩⟩ := h
  · exact ⟨hl, hn, .inl h0⟩
  · refine ⟨hl, hn, .inr ⟨g, rest, hA, hg1, hh.kept hg ?_⟩⟩
    obtain ⟨_, _, ⟨rfl, _⟩ | ⟨g', rest', rfl, _, hh'⟩⟩ := h'
    · simp
    · intro e
      have e : some g = some g' := e
      injection e with e
      exact hh.apart hh' hne e
theorem ne_to : 68 ≠ 71 := by decide
theorem ne_ot : 71 ≠ 68 := by decide

theorem OwnS.apartB {w : World} {B : Nat} {t t' : TypeId} {k : Nat} {A : Option Addr} {n : Nat} {cs cs' : List Value} (h : OwnS w B t k A n cs) {g : Nat} (hL : Lies w g t' cs') (hne : t' ≠ t) : some g ≠ A.map (·.block) := by
  obtain ⟨_, _, ⟨rfl, _⟩ | ⟨g', rest', rfl, _, hh'⟩⟩ := h
  · simp
  · intro e
    have e : some g = some g' := e
    injection e with e
    exact hL.apart hh' hne e
end Go.Proofs.YtdiojhjkcholiaaDoor

/- Operations of a drawn region: slicing a slice; appending to a row of the call's own (no program in sight). -/
namespace Go.Proofs.YtdiojhjkcholiaaDoor
open Go.RowKit

section
variable {P : Program} {ops : Array Oper} {tm : Array Value} {o : Oper} {a : Act} {w : World} {K : Act → World → Prop} {Q : Exit → Act → World → Prop} {E : Prop}
theorem elem_of {t e : TypeId} (ht : P.underlying t = some (.slice e)) : P.underlying t = some (.slice (P.elem t)) ∧ P.elem t = e := by
  have : P.elem t = e := by simp [Program.elem, ht]
  exact ⟨by rw [this]; exact ht, this⟩
theorem SlcR.take {B k n : Nat} {A : Option Addr} {cs : List Value} (h : SlcR w B k A n cs) (i : Nat) (hi : i ≤ n) : SlcR w B k A i (cs.take (i * k)) := by
  have hm : i * k ≤ n * k := Nat.mul_le_mul_right k hi
  refine ⟨by rw [List.length_take, h.len]; omega, by have := h.big; omega, fun h0 => ?_⟩
  obtain ⟨b, off, e, hb, hc⟩ := h.at_ (by omega)
  exact ⟨b, off, e, hb, fun j u hu => hc j u (by rw [List.getElem?_take] at hu; split at hu; exact hu; cases hu)⟩
theorem SlcR.drop {B k n : Nat} {A A' : Option Addr} {cs : List Value} (h : SlcR w B k A n cs) (i : Nat) (hi : i ≤ n) (hA : i < n → A' = A.map fun p => p.add (i * k)) : SlcR w B k A' (n - i) (cs.drop (i * k)) := by
  refine ⟨by rw [List.length_drop, h.len, Nat.sub_mul], by have := h.big; omega, fun h0 => ?_⟩
  obtain ⟨b, off, e, hb, hc⟩ := h.at_ (by omega)
  refine ⟨b, off + i * k, ?_, hb, fun j u hu => ?_⟩
  · rw [hA (by omega), e]; simp only [Option.map_some, addr_add]
  · rw [List.getElem?_drop] at hu
    have := hc _ u hu
    rwa [Nat.add_assoc]
theorem info_size {e : TypeId} {s : Nat} (hs : (P.info? e).map (·.size) = some s) : ∃ inf, P.info? e = some inf ∧ inf.size = s := by
  cases hq : P.info? e with
  | none => simp [hq] at hs
  | some inf => exact ⟨inf, rfl, by simpa [hq] using hs⟩
theorem map_add0 (A : Option Addr) : A.map (fun p => p.add 0) = A := by cases A <;> simp [Addr.add]
theorem run_sliceTo {t e : TypeId} (ht : P.underlying t = some (.slice e)) {s : Nat} (hs : (P.info? e).map (·.size) = some s) (A : Option Addr) (n c i : Nat) (hi : i ≤ n) (hc : n ≤ c) (w : World) :
    (Instr.slice t (.slice A n c) none (some (.int .i64 (i : Int))) none).run P w = .ok (.slice A i c) w := by
  obtain ⟨h1, h2⟩ := elem_of ht
  obtain ⟨inf, hin, hsz⟩ := info_size hs
  rw [run_slice_h (P := P) (w := w) t A n c h1 .i64 (i : Int) (by omega) (by omega), h2]
  simp [sizeOf, typeInfo, hin, sliced, map_add0]
theorem run_sliceFrom {t e : TypeId} (ht : P.underlying t = some (.slice e)) {s : Nat} (hs : (P.info? e).map (·.size) = some s) (A : Option Addr) (n c i : Nat) (hi : i ≤ n) (w : World) :
    (Instr.slice t (.slice A n c) (some (.int .i64 (i : Int))) none none).run P w = .ok (.slice (if c = i then A else A.map (fun p => p.add (i * s))) (n - i) (c - i)) w := by
  obtain ⟨h1, h2⟩ := elem_of ht
  obtain ⟨inf, hin, hsz⟩ := info_size hs
  rw [run_slice_l (P := P) (w := w) t A n c h1 .i64 (i : Int) (by omega) (by omega), h2]
  simp [sizeOf, typeInfo, hin, sliced, hsz]
/-- 'xs[:i]'. -/
theorem step_sliceTo (hg : o.guard = none) (t e : TypeId) (x y : Operand) (ho : o.op = .slice t x none (some y) none) (ht : P.underlying t = some (.slice e)) (s : Nat) (hs : (P.info? e).map (·.size) = some s)
    (A : Option Addr) (n c i : Nat) (hx : a.eval x = .slice A n c) (hy : a.eval y = .int .i64 (i : Int)) (hi : i ≤ n) (hc : n ≤ c)
    (h : K (a.put o.dst (.slice A i c)) w) : if Region.wanted o (yielded ops tm) = true then o.wp P a w K Q else E := by
  have hw : ∀ tm : Array Value, Region.wanted o (yielded ops tm) = true := fun tm => by simp [Region.wanted, hg]
  rw [if_pos (hw _)]
  unfold Oper.wp execOp
  simp only [ho, hx, Option.map_some, Option.map_none, hy, run_sliceAt_slice (P := P) (w := w) t _ _ _ _ (elem_of ht).1, run_sliceTo ht hs A n c i hi hc w, Sem.run_bind, Sem.run_pure, Result.andThen_ok]
  exact h
/-- 'xs[i:]'. -/
theorem step_sliceFrom (hg : o.guard = none) (t e : TypeId) (x y : Operand) (ho : o.op = .slice t x (some y) none none) (ht : P.underlying t = some (.slice e)) (s : Nat) (hs : (P.info? e).map (·.size) = some s)
    (A : Option Addr) (n c i : Nat) (hx : a.eval x = .slice A n c) (hy : a.eval y = .int .i64 (i : Int)) (hi : i ≤ n) (hc : n ≤ c)
    (h : ∀ A', (∀ (W : World) (B : Nat) (cs : List Value), SlcR W B s A n cs → SlcR W B s A' (n - i) (cs.drop (i * s))) → K (a.put o.dst (.slice A' (n - i) (c - i))) w) : if Region.wanted o (yielded ops tm) = true then o.wp P a w K Q else E := by
  have hw : ∀ tm : Array Value, Region.wanted o (yielded ops tm) = true := fun tm => by simp [Region.wanted, hg]
  rw [if_pos (hw _)]
  unfold Oper.wp execOp
  simp only [ho, hx, Option.map_some, Option.map_none, hy, run_sliceAt_slice (P := P) (w := w) t _ _ _ _ (elem_of ht).1, run_sliceFrom ht hs A n c i hi w, Sem.run_bind, Sem.run_pure, Result.andThen_ok]
  exact h _ fun W B cs hr => hr.drop i hi fun hlt => by rw [if_neg (by omega)]
/-- 'append(s, xs...)', s the call's own. -/
theorem step_cat (hg : o.guard = none) (s x : Operand) (t : TypeId) (ho : o.op = .call { callee := .builtin .append, args := #[s, x], argTypes := #[t, t] })
    (e : TypeId) (z : Value) (k bytes : Nat) (ht : P.underlying t = some (.slice e)) (hinfo : (P.info? e).map (fun i => (i.zero, i.size, i.bytes)) = some (some z, k, bytes)) (hzs : z.cells.size = k) (hsz : 0 < k) (hby : bytes ≤ 1000)
    (B : Nat) (v : Value) (n : Nat) (xs : List Value) (hs : a.eval s = v) (hown : w.ownsRow B e k v n xs)
    (S : Nat) (A : Option Addr) (m c : Nat) (cs : List Value) (hx : a.eval x = .slice A m c) (hr : SlcR w S k A m cs) (h1 : ∀ u ∈ cs, u.oneCell' = true)
    (hn : n + m ≤ 1000000000) (hbase : B ≤ w.heap.size)
    (h : ∀ A' c' w', w'.ownsRow B e k (.slice A' (n + m) c') (n + m) (xs ++ cs) → w.grownBy w' v.ownBlock → Below B w w' → K (a.put o.dst (.slice A' (n + m) c')) w') : if Region.wanted o (yielded ops tm) = true then o.wp P a w K Q else E := by
  have hw : ∀ tm : Array Value, Region.wanted o (yielded ops tm) = true := fun tm => by simp [Region.wanted, hg]
  rw [if_pos (hw _)]
  refine wp_cat s x t ho e z k bytes ht hinfo hzs hsz hby B v n xs hs (Lib.hid hown) S A m c cs hx (Lib.hid hr) h1 hn hbase fun v' w' h2 h3 h4 _ => ?_
  obtain ⟨A', c', rfl⟩ := ownsRow_slice h2.out
  exact h A' c' w' h2.out h3 h4
theorem ownsRow_cap {B k n : Nat} {e : TypeId} {A : Option Addr} {c : Nat} {xs : List Value} (h : w.ownsRow B e k (.slice A n c) n xs) : n ≤ c := by
  obtain ⟨_, ⟨h0, h1⟩ | ⟨g, cap, cur, hv, _, _, hc, _⟩⟩ := h
  · injection h0 with _ h2 h3; omega
  · injection hv with _ _ h3; omega
end
end Go.Proofs.YtdiojhjkcholiaaDoor
