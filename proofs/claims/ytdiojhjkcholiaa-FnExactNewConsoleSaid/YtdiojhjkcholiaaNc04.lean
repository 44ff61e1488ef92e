/- Nc04: the texts StepI StepC StepD Facts FactsT SpecOwn, joined into one file. -/
import Derived.WalkKit
import Derived.Orders
import Derived.Deep.Draws
import Derived.Deep.RegionLawGrows
import Derived.Test.YtdiojhjkcholiaaNc01
import Derived.Test.YtdiojhjkcholiaaNc03

/- Steps of an office in the program: its own copy. -/
namespace Go.Proofs.Ytdiojhjkcholiaa
open Go.RowKit

/-- An office of the call's own lies in block g. -/
structure OffOwn (w : World) (B g : Nat) (vt vo : Value) (y : Oc) : Prop where
  lies : Lies w g 25 [vt, vo, .int .i64 y.got, .int .i64 y.sold, .int .i64 y.missed]
  hg : B ≤ g
  t : w.ownsRow B 74 2 vt y.t.length (y.t.flatMap Tray.enc)
  o : w.ownsRow B 100 3 vo y.o.length (y.o.flatMap Outing.enc)
theorem ne_TO : 74 ≠ 25 := by decide
theorem ne_OO : 100 ≠ 25 := by decide
theorem ne_OT : 100 ≠ 74 := by decide

set_option maxRecDepth 100000 in
set_option maxHeartbeats 4000000 in
theorem copyOffice_any (x : Off) (g : Nat) (w : World) (h : OffAt w w.heap.size g x) (tl : x.t.length ≤ 1000000) (ol : x.o.length ≤ 1000000) :
    Calls Try.prog 55 #[.pointer (some ⟨g, 0, none⟩)] w fun e w' => ∃ TA tc OA oc, e = .returned (Off.val (x.c.at TA tc OA oc)) ∧ w'.ownsRow w.heap.size 74 2 (.slice TA x.t.length tc) x.t.length (x.t.flatMap Tray.enc) ∧ w'.ownsRow w.heap.size 100 3 (.slice OA x.o.length oc) x.o.length (x.o.flatMap Outing.enc) ∧ Below w.heap.size w w' := by
  have b1 := (Below.refl w.heap.size w).alloc (Nat.le_refl _) (.cells #[.slice none 0 0, .slice none 0 0, .int .i64 0, .int .i64 0, .int .i64 0] 25)
  have L1 := Lies.new w 25 #[.slice none 0 0, .slice none 0 0, .int .i64 0, .int .i64 0, .int .i64 0]
  have hA := h.then b1 b1.size
  go_enter Try.func55, Try.ntmps55
  go_wp2
  generalize w.alloc (.cells #[.slice none 0 0, .slice none 0 0, .int .i64 0, .int .i64 0, .int .i64 0] 25) = W at b1 L1 hA ⊢
  have cT : ∀ W', Below W.heap.size W W' → Calls Try.prog 88 #[.slice x.TA x.t.length x.tc] W' (fun e w' => ∃ A c, e = .returned (.slice A x.t.length c) ∧ w'.ownsRow w.heap.size 74 2 (.slice A x.t.length c) x.t.length (x.t.flatMap Tray.enc) ∧ Below W'.heap.size W' w' ∧ Below W.heap.size W w') := fun W' hb =>
    (cloneTray_any x.TA x.tc x.t W' (hA.r.up hb (Nat.le_refl _)).ts tl).mono fun e w' ⟨A, c, he, ho, hb'⟩ => ⟨A, c, he, ownsRow_lower ho (Nat.le_trans b1.size hb.size), hb', bthen hb hb'⟩
  have cO : ∀ W', Below W.heap.size W W' → Calls Try.prog 89 #[.slice x.OA x.o.length x.oc] W' (fun e w' => ∃ A c, e = .returned (.slice A x.o.length c) ∧ w'.ownsRow w.heap.size 100 3 (.slice A x.o.length c) x.o.length (x.o.flatMap Outing.enc) ∧ Below W'.heap.size W' w' ∧ Below W.heap.size W w') := fun W' hb =>
    (cloneOuting_any x.OA x.oc x.o W' (hA.r.up hb (Nat.le_refl _)).os ol).mono fun e w' ⟨A, c, he, ho, hb'⟩ => ⟨A, c, he, ownsRow_lower ho (Nat.le_trans b1.size hb.size), hb', bthen hb hb'⟩
  have HK0 : ∀ W', Below w.heap.size w W' → (Below w.heap.size w W' ∧ W'.cell? ⟨g, 0, none⟩ = some (.slice x.TA x.t.length x.tc) ∧ W'.cell? ⟨g, 1, none⟩ = some (.slice x.OA x.o.length x.oc) ∧ W'.cell? ⟨g, 2, none⟩ = some (.int .i64 x.got) ∧ W'.cell? ⟨g, 3, none⟩ = some (.int .i64 x.sold) ∧ W'.cell? ⟨g, 4, none⟩ = some (.int .i64 x.missed)) := fun W' hb =>
    ⟨hb, h.s.c0 ⟨W', hb⟩, h.s.c1 ⟨W', hb⟩, h.s.c2 ⟨W', hb⟩, h.s.c3 ⟨W', hb⟩, h.s.c4 ⟨W', hb⟩⟩
  have HK : ∀ W', Below W.heap.size W W' → (Below w.heap.size w W' ∧ W'.cell? ⟨g, 0, none⟩ = some (.slice x.TA x.t.length x.tc) ∧ W'.cell? ⟨g, 1, none⟩ = some (.slice x.OA x.o.length x.oc) ∧ W'.cell? ⟨g, 2, none⟩ = some (.int .i64 x.got) ∧ W'.cell? ⟨g, 3, none⟩ = some (.int .i64 x.sold) ∧ W'.cell? ⟨g, 4, none⟩ = some (.int .i64 x.missed)) := fun W' hb => HK0 W' (b1.trans (hb.mono b1.size))
  have HKs : ∀ W' (u0 u1 u2 u3 u4 : Value), Below W.heap.size W W' → (Below w.heap.size w (((((W'.setCell ⟨w.heap.size, 0, none⟩ u0).setCell ⟨w.heap.size, 1, none⟩ u1).setCell ⟨w.heap.size, 2, none⟩ u2).setCell ⟨w.heap.size, 3, none⟩ u3).setCell ⟨w.heap.size, 4, none⟩ u4) ∧ (((((W'.setCell ⟨w.heap.size, 0, none⟩ u0).setCell ⟨w.heap.size, 1, none⟩ u1).setCell ⟨w.heap.size, 2, none⟩ u2).setCell ⟨w.heap.size, 3, none⟩ u3).setCell ⟨w.heap.size, 4, none⟩ u4).cell? ⟨g, 0, none⟩ = some (.slice x.TA x.t.length x.tc) ∧ (((((W'.setCell ⟨w.heap.size, 0, none⟩ u0).setCell ⟨w.heap.size, 1, none⟩ u1).setCell ⟨w.heap.size, 2, none⟩ u2).setCell ⟨w.heap.size, 3, none⟩ u3).setCell ⟨w.heap.size, 4, none⟩ u4).cell? ⟨g, 1, none⟩ = some (.slice x.OA x.o.length x.oc) ∧ (((((W'.setCell ⟨w.heap.size, 0, none⟩ u0).setCell ⟨w.heap.size, 1, none⟩ u1).setCell ⟨w.heap.size, 2, none⟩ u2).setCell ⟨w.heap.size, 3, none⟩ u3).setCell ⟨w.heap.size, 4, none⟩ u4).cell? ⟨g, 2, none⟩ = some (.int .i64 x.got) ∧ (((((W'.setCell ⟨w.heap.size, 0, none⟩ u0).setCell ⟨w.heap.size, 1, none⟩ u1).setCell ⟨w.heap.size, 2, none⟩ u2).setCell ⟨w.heap.size, 3, none⟩ u3).setCell ⟨w.heap.size, 4, none⟩ u4).cell? ⟨g, 3, none⟩ = some (.int .i64 x.sold) ∧ (((((W'.setCell ⟨w.heap.size, 0, none⟩ u0).setCell ⟨w.heap.size, 1, none⟩ u1).setCell ⟨w.heap.size, 2, none⟩ u2).setCell ⟨w.heap.size, 3, none⟩ u3).setCell ⟨w.heap.size, 4, none⟩ u4).cell? ⟨g, 4, none⟩ = some (.int .i64 x.missed)) := fun W' u0 u1 u2 u3 u4 hb => HK0 _ ((b1.trans (hb.mono b1.size)).grown (grown_set (grown_set (grown_set (grown_set (grown_set (World.grownBy.refl W' (some w.heap.size))))))) (Nat.le_trans b1.size hb.size) (by rintro _ ⟨⟩; exact Nat.le_refl _))
  have HZ : ∀ W', Below W.heap.size W W' → (W'.cell? ⟨w.heap.size, 0, none⟩ = some (.slice none 0 0) ∧ W'.cell? ⟨w.heap.size, 1, none⟩ = some (.slice none 0 0) ∧ W'.cell? ⟨w.heap.size, 2, none⟩ = some (.int .i64 0) ∧ W'.cell? ⟨w.heap.size, 3, none⟩ = some (.int .i64 0) ∧ W'.cell? ⟨w.heap.size, 4, none⟩ = some (.int .i64 0) ∧
      W'.frozen? ⟨w.heap.size, 0, none⟩ = false ∧ W'.frozen? ⟨w.heap.size, 1, none⟩ = false ∧ W'.frozen? ⟨w.heap.size, 2, none⟩ = false ∧ W'.frozen? ⟨w.heap.size, 3, none⟩ = false ∧ W'.frozen? ⟨w.heap.size, 4, none⟩ = false) := fun W' hb =>
    have L := L1.below hb L1.lt
    ⟨L.cell 0, L.cell 1, L.cell 2, L.cell 3, L.cell 4, L.frozen 0, L.frozen 1, L.frozen 2, L.frozen 3, L.frozen 4⟩
  have HL1 := Lib.hid L1; clear L1
  have HB1 := Lib.hid b1; clear b1
  clear hA h
  go_region_held3 (fun W' => (Below w.heap.size w W' ∧ W'.cell? ⟨g, 0, none⟩ = some (.slice x.TA x.t.length x.tc) ∧ W'.cell? ⟨g, 1, none⟩ = some (.slice x.OA x.o.length x.oc) ∧ W'.cell? ⟨g, 2, none⟩ = some (.int .i64 x.got) ∧ W'.cell? ⟨g, 3, none⟩ = some (.int .i64 x.sold) ∧ W'.cell? ⟨g, 4, none⟩ = some (.int .i64 x.missed))) (first | exact HK _ (Below.refl _ _).drew | exact HK _ hb9 | exact HK _ hb8 | exact HKs _ _ _ _ _ _ hb9 | exact HKs _ _ _ _ _ _ hb8) (first | (go_at_call 88; (first | (refine (cT _ (Below.refl _ _).drew).mono ?_) | (refine (cT _ hb9).mono ?_)); rintro e w8 ⟨A8, c8, rfl, ho8, hk8, hb8⟩; obtain ⟨z0, z1, z2, z3, z4, f0, f1, f2, f3, f4⟩ := HZ _ hb8) | (go_at_call 89; (first | (refine (cO _ (Below.refl _ _).drew).mono ?_) | (refine (cO _ hb8).mono ?_)); rintro e w9 ⟨A9, c9, rfl, ho9, hk9, hb9⟩; obtain ⟨y0, y1, y2, y3, y4, g0, g1, g2, g3, g4⟩ := HZ _ hb9))
  have hL9 : Lies w9 w.heap.size 25 [.slice none 0 0, .slice none 0 0, .int .i64 0, .int .i64 0, .int .i64 0] := HL1.out.below hb9 HL1.out.lt
  have e0 := (((((hL9.set 0 (.slice A8 x.t.length c8)).set 1 (.slice A9 x.o.length c9)).set 2 (.int .i64 x.got)).set 3 (.int .i64 x.sold)).set 4 (.int .i64 x.missed))
  have hgr := grown_set (g := w.heap.size) (i := 4) (u := .int .i64 x.missed) (grown_set (g := w.heap.size) (i := 3) (u := .int .i64 x.sold) (grown_set (g := w.heap.size) (i := 2) (u := .int .i64 x.got) (grown_set (g := w.heap.size) (i := 1) (u := .slice A9 x.o.length c9) (grown_set (g := w.heap.size) (i := 0) (u := .slice A8 x.t.length c8) (World.grownBy.refl w9 (some w.heap.size))))))
  have r8 := ownsRow_keptG (ownsRow_below ho8 hk9) hL9 ne_TO hgr
  have r9 := ownsRow_keptG ho9 hL9 ne_OO hgr
  have b9 : Below w.heap.size w w9 := HB1.out.trans (hb9.mono HB1.out.size)
  have b10 := b9.grown hgr b9.size (by rintro _ ⟨⟩; exact Nat.le_refl _)
  generalize (((((w9.setCell ⟨w.heap.size, 0, none⟩ (.slice A8 x.t.length c8)).setCell ⟨w.heap.size, 1, none⟩ (.slice A9 x.o.length c9)).setCell ⟨w.heap.size, 2, none⟩ (.int .i64 x.got)).setCell ⟨w.heap.size, 3, none⟩ (.int .i64 x.sold)).setCell ⟨w.heap.size, 4, none⟩ (.int .i64 x.missed)) = W10 at e0 hgr r8 r9 b10 ⊢
  simp only [List.set_cons_zero, List.set_cons_succ] at e0
  have k0 := e0.cell 0
  have k1 := e0.cell 1
  have k2 := e0.cell 2
  have k3 := e0.cell 3
  have k4 := e0.cell 4
  simp only [List.getElem?_cons_zero, List.getElem?_cons_succ] at k0 k1 k2 k3 k4
  have R8 := Lib.hid r8; clear r8
  have R9 := Lib.hid r9; clear r9
  clear z0 z1 z2 z3 z4 f0 f1 f2 f3 f4 y0 y1 y2 y3 y4 g0 g1 g2 g3 g4 ho8 ho9 hgr
  go_wp2
  refine bodyPost_ret (v := Off.val (x.c.at A8 c8 A9 c9)) (by simp [results, Try.results55, go_sem, Oc.at, Off.c, *]) rfl ⟨A8, c8, A9, c9, rfl, R8.out, R9.out, b10⟩
end Go.Proofs.Ytdiojhjkcholiaa

/- Steps of an office in the program: one outing is changed. -/
namespace Go.Proofs.Ytdiojhjkcholiaa
open Go.RowKit

theorem OffOwn.then {w w' : World} {B g : Nat} {vt vo : Value} {y : Oc} (h : OffOwn w B g vt vo y) (hb : Below w.heap.size w w') : OffOwn w' B g vt vo y :=
  ⟨h.lies.below hb h.lies.lt, h.hg, ownsRow_below h.t hb, ownsRow_below h.o hb⟩
theorem flat_take {α : Type} (enc : α → List Value) (k : Nat) (hk : ∀ x, (enc x).length = k) : ∀ (l : List α) (i : Nat), (l.take i).flatMap enc = (l.flatMap enc).take (i * k)
  | [], i => by simp
  | x :: l, 0 => by simp
  | x :: l, i + 1 => by
    have e : (i + 1) * k = (enc x).length + i * k := by rw [hk, Nat.succ_mul]; omega
    rw [List.take_succ_cons, List.flatMap_cons, List.flatMap_cons, flat_take enc k hk l i, e, List.take_length_add_append]
theorem flat_drop {α : Type} (enc : α → List Value) (k : Nat) (hk : ∀ x, (enc x).length = k) : ∀ (l : List α) (i : Nat), (l.drop i).flatMap enc = (l.flatMap enc).drop (i * k)
  | [], i => by simp
  | x :: l, 0 => by simp
  | x :: l, i + 1 => by
    have e : (i + 1) * k = (enc x).length + i * k := by rw [hk, Nat.succ_mul]; omega
    rw [List.drop_succ_cons, List.flatMap_cons, flat_drop enc k hk l i, e, List.drop_length_add_append]
theorem flat_ins {α : Type} (enc : α → List Value) (k : Nat) (hk : ∀ x, (enc x).length = k) (l : List α) (i : Nat) (r : α) : (l.take i ++ r :: l.drop i).flatMap enc = (l.flatMap enc).take (i * k) ++ enc r ++ (l.flatMap enc).drop (i * k) := by
  rw [List.flatMap_append, List.flatMap_cons, flat_take enc k hk, flat_drop enc k hk, List.append_assoc]
theorem flat_del {α : Type} (enc : α → List Value) (k : Nat) (hk : ∀ x, (enc x).length = k) (l : List α) (i : Nat) : (l.take i ++ l.drop (i + 1)).flatMap enc = (l.flatMap enc).take (i * k) ++ (l.flatMap enc).drop (i * k + k) := by
  rw [List.flatMap_append, flat_take enc k hk, flat_drop enc k hk, Nat.succ_mul]
theorem flat_setO {i : Nat} {c : Int} : ∀ {l : List Outing} (h : i < l.length), (l.flatMap Outing.enc).set (i * 3 + 2) (.int .i64 c) = (l.set i ⟨l[i].k, l[i].p, c⟩).flatMap Outing.enc := by
  induction i with
  | zero => intro l h; match l, h with
    | x :: l, _ => simp [Outing.enc]
  | succ i ih => intro l h; match l, h with
    | x :: l, h =>
      simp only [List.flatMap_cons, List.getElem_cons_succ, List.set_cons_succ]
      rw [← ih (by simpa using h), List.set_append_right _ _ (by rw [Outing.enc_len]; omega), Outing.enc_len]
      congr 2; omega
theorem flat_setT {i : Nat} {c : Int} : ∀ {l : List Tray} (h : i < l.length), (l.flatMap Tray.enc).set (i * 2 + 1) (.int .i64 c) = (l.set i ⟨l[i].k, c⟩).flatMap Tray.enc := by
  induction i with
  | zero => intro l h; match l, h with
    | x :: l, _ => simp [Tray.enc]
  | succ i ih => intro l h; match l, h with
    | x :: l, h =>
      simp only [List.flatMap_cons, List.getElem_cons_succ, List.set_cons_succ]
      rw [← ih (by simpa using h), List.set_append_right _ _ (by rw [Tray.enc_len]; omega), Tray.enc_len]
      congr 2; omega

def posO (os : List Outing) (k p : Int) : Nat := (os.takeWhile fun o => before o ⟨k, p, 0⟩).length
theorem posO_cons (o : Outing) (os : List Outing) (k p : Int) : posO (o :: os) k p = if before o ⟨k, p, 0⟩ = true then posO os k p + 1 else 0 := by
  unfold posO; rw [List.takeWhile_cons]; by_cases h : before o ⟨k, p, 0⟩ = true <;> simp [h]
theorem posO_le (os : List Outing) (k p : Int) : posO os k p ≤ os.length := by
  unfold posO; exact (List.takeWhile_prefix _).length_le
theorem posO_lt : ∀ (os : List Outing) (k p : Int) (i : Nat) (h : i < os.length), i < posO os k p → before os[i] ⟨k, p, 0⟩ = true
  | o :: os, k, p, i, h, hi => by
    rw [posO_cons] at hi
    split at hi
    · cases i with
      | zero => assumption
      | succ i => exact posO_lt os k p i (by simpa using h) (by omega)
    · omega
theorem posO_ge : ∀ (os : List Outing) (k p : Int), AscO os → ∀ (i : Nat) (h : i < os.length), posO os k p ≤ i → ¬ before os[i] ⟨k, p, 0⟩ = true
  | o :: os, k, p, ha, i, h, hi => by
    obtain ⟨h1, h2⟩ := List.pairwise_cons.1 ha
    by_cases hb : before o ⟨k, p, 0⟩ = true
    · rw [posO_cons, if_pos hb] at hi
      cases i with
      | zero => omega
      | succ i => exact posO_ge os k p h2 i (by simpa using h) (by omega)
    · cases i with
      | zero => exact hb
      | succ i =>
        have := h1 (os[i]'(by simpa using h)) (List.getElem_mem _)
        simp only [List.getElem_cons_succ]
        rw [before_iff] at this hb ⊢; simp only at hb ⊢; omega
theorem chgO_new {k p b : Int} : ∀ (os : List Outing), (∀ h : posO os k p < os.length, isAt k p os[posO os k p] = false) → chgO k p b os = os.take (posO os k p) ++ ⟨k, p, b⟩ :: os.drop (posO os k p)
  | [], _ => by simp [chgO, posO]
  | o :: os, h => by
    by_cases hb : before o ⟨k, p, 0⟩ = true
    · have e : posO (o :: os) k p = posO os k p + 1 := by rw [posO_cons, if_pos hb]
      simp only [e] at h ⊢
      rw [chgO, if_pos hb, chgO_new os (fun h' => by have := h (by simpa using h'); simpa using this), List.take_succ_cons, List.drop_succ_cons, List.cons_append]
    · have e : posO (o :: os) k p = 0 := by rw [posO_cons, if_neg hb]
      simp only [e] at h ⊢
      have := h (by simp)
      simp only [List.getElem_cons_zero] at this
      rw [chgO, if_neg hb, this, if_neg (by simp)]; rfl
theorem chgO_old {k p b : Int} : ∀ (os : List Outing) (h : posO os k p < os.length), isAt k p os[posO os k p] = true →
    chgO k p b os = if os[posO os k p].c + b = 0 then os.take (posO os k p) ++ os.drop (posO os k p + 1) else os.set (posO os k p) ⟨os[posO os k p].k, os[posO os k p].p, os[posO os k p].c + b⟩
  | o :: os, h, hi => by
    by_cases hb : before o ⟨k, p, 0⟩ = true
    · have e : posO (o :: os) k p = posO os k p + 1 := by rw [posO_cons, if_pos hb]
      simp only [e, List.getElem_cons_succ] at h hi ⊢
      rw [chgO, if_pos hb, chgO_old os (by simpa using h) hi, List.take_succ_cons, List.drop_succ_cons, List.cons_append, List.set_cons_succ]
      split <;> rfl
    · have e : posO (o :: os) k p = 0 := by rw [posO_cons, if_neg hb]
      simp only [e, List.getElem_cons_zero] at h hi ⊢
      rw [chgO, if_neg hb, if_pos hi]
      split <;> simp
theorem cmpO_lt {a b : Outing} : cmpO a b < 0 ↔ before a b = true := by
  have h := cmpO_before a b
  by_cases h0 : 0 ≤ cmpO a b
  · rw [decide_eq_true h0] at h
    have : before a b = false := by cases hb : before a b; rfl; rw [hb] at h; cases h
    rw [this]; constructor
    · intro h; omega
    · intro h; cases h
  · rw [decide_eq_false h0] at h
    have : before a b = true := by cases hb : before a b; rw [hb] at h; cases h; rfl
    rw [this]; constructor
    · intro _; rfl
    · intro _; omega
theorem cmpO_zero {a : Outing} {k p b : Int} : decide (cmpO a ⟨k, p, b⟩ = 0) = isAt k p a := by
  rw [Bool.eq_iff_iff, decide_eq_true_eq, isAt_iff]
  unfold cmpO orI cmpI
  dsimp only
  constructor
  · intro h
    repeat' split at h
    all_goals first | omega | (constructor <;> omega)
  · rintro ⟨rfl, rfl⟩
    simp

theorem OffOwn.ne_to {w : World} {B g : Nat} {vt vo : Value} {y : Oc} (h : OffOwn w B g vt vo y) : vo.ownBlock ≠ some g := fun e => ownsRow_far h.o h.lies ne_OO e.symm
theorem OffOwn.ne_t {w : World} {B g : Nat} {vt vo : Value} {y : Oc} (h : OffOwn w B g vt vo y) : vt.ownBlock ≠ some g := fun e => ownsRow_far h.t h.lies ne_TO e.symm
/-- The outings' row turns, and then the field that holds it. -/
theorem OffOwn.setO {w w' : World} {B g : Nat} {vt vo vo' : Value} {y : Oc} {os : List Outing} (h : OffOwn w B g vt vo y) (hg : w.grownBy w' vo.ownBlock) (ho : w'.ownsRow B 100 3 vo' os.length (os.flatMap Outing.enc)) :
    OffOwn (w'.setCell ⟨g, 1, none⟩ vo') B g vt vo' { y with o := os } := by
  have hL : Lies w' g 25 _ := h.lies.kept hg (fun e => h.ne_to e.symm)
  have ht := ownsRow_two h.t h.o ne_OT hg
  exact ⟨hL.set 1 vo', h.hg, ownsRow_setOther ht hL ne_TO 1 vo', ownsRow_setOther ho hL ne_OO 1 vo'⟩

theorem cmpFn_any (t u : Outing) (w : World) : Calls Try.prog 78 (#[t.val, u.val] ++ #[]) w fun e w' => e = .returned (.int .i64 (cmpO t u)) ∧ Below w.heap.size w w' := compareOutings_any t u w

set_option maxRecDepth 100000 in
set_option maxHeartbeats 4000000 in
theorem change_new (B g : Nat) (vt vo : Value) (y : Oc) (k p b : Int) (w : World) (h : OffOwn w B g vt vo y) (hB : B ≤ w.heap.size) (ha : AscO y.o) (hn : y.o.length ≤ 100000) (hnew : ∀ h : posO y.o k p < y.o.length, isAt k p y.o[posO y.o k p] = false) :
    Calls Try.prog 85 #[.pointer (some ⟨g, 0, none⟩), .int .i64 k, .int .i64 p, .int .i64 b] w fun e w' => ∃ vo', e = .returned (.tuple #[]) ∧ OffOwn w' B g vt vo' { y with o := chgO k p b y.o } ∧ Below B w w' := by
  have b1 := (Below.refl w.heap.size w).alloc (Nat.le_refl _) (.cells #[.int .i64 k, .int .i64 p, .int .i64 b] 100)
  have L1 := Lies.new w 100 #[.int .i64 k, .int .i64 p, .int .i64 b]
  have h1 := h.then b1
  have HC := Lib.hid (chgO_new y.o hnew (b := b))
  have hlo : ∀ i (h : i < y.o.length), i < posO y.o k p → cmpO y.o[i] ⟨k, p, b⟩ < 0 := fun i h hi => cmpO_lt.2 (posO_lt y.o k p i h hi)
  have hhi : ∀ i (h : i < y.o.length), posO y.o k p ≤ i → ¬ cmpO y.o[i] ⟨k, p, b⟩ < 0 := fun i h hi hc => posO_ge y.o k p ha i h hi (cmpO_lt.1 hc)
  have hfd : ∀ h : posO y.o k p < y.o.length, false = decide (cmpO y.o[posO y.o k p] ⟨k, p, b⟩ = 0) := fun h => by rw [cmpO_zero, hnew h]
  have hple := posO_le y.o k p
  obtain ⟨A0, c0, rfl⟩ := ownsRow_slice h.o
  have cB : ∀ W, Below (w.alloc (.cells #[.int .i64 k, .int .i64 p, .int .i64 b] 100)).heap.size (w.alloc (.cells #[.int .i64 k, .int .i64 p, .int .i64 b] 100)) W → Calls Try.prog 102 #[.slice A0 y.o.length c0, .agg #[.int .i64 k, .int .i64 p, .int .i64 b], .func (.func 78) #[] #[]] W fun e w' => e = .returned (.tuple #[.int .i64 (posO y.o k p), .bool false]) ∧ Below W.heap.size W w' := fun W hb =>
    bsOuting_any (fun o => cmpO o ⟨k, p, b⟩) ⟨k, p, b⟩ 78 #[] Try.call78 A0 c0 y.o W (fun t p => cmpFn_any t _ p.val) (ownsRow_reads (h1.then hb).o) (by omega) (posO y.o k p) hple hlo hhi false hfd (fun _ => rfl)
  generalize posO y.o k p = q at cB HC hple
  clear hlo hhi hfd hnew ha
  go_enter Try.func85, Try.ntmps85
  go_wp2
  generalize w.alloc (.cells #[.int .i64 k, .int .i64 p, .int .i64 b] 100) = W at b1 L1 h1 cB ⊢
  have hc1 : ∀ r : Since W.heap.size W, r.val.cell? ⟨g, 1, none⟩ = some (.slice A0 y.o.length c0) := fun r => (r.cell h1.lies.lt).trans (h1.lies.cell 1)
  have hd0 : ∀ r : Since W.heap.size W, r.val.cell? ⟨w.heap.size, 0, none⟩ = some (.int .i64 k) := fun r => (r.cell L1.lt).trans (L1.cell 0)
  have hd1 : ∀ r : Since W.heap.size W, r.val.cell? ⟨w.heap.size, 1, none⟩ = some (.int .i64 p) := fun r => (r.cell L1.lt).trans (L1.cell 1)
  have hd2 : ∀ r : Since W.heap.size W, r.val.cell? ⟨w.heap.size, 2, none⟩ = some (.int .i64 b) := fun r => (r.cell L1.lt).trans (L1.cell 2)
  have cB' := fun r : Since W.heap.size W => cB r.val r.below
  refine wp_region_since0 (by kernel_rfl) (by kernel_rfl) ?_
  repeat (any_goals (first | go_big_quiet_step ((go_at_call 102; refine calls_since (Nat.le_refl _) (cB' _))) | (refine wpQuiet_step (fun K hK => ?_); go_simp; split <;> (refine hK _ ?_; clear hK K))))
  all_goals (refine wpQuiet_nil ?_; rintro _ ⟨q1, rfl⟩)
  all_goals go_wp2
  have h2 := h1.then q1.below
  have b2 : Below w.heap.size w q1.val := b1.trans (q1.below.mono b1.size)
  clear hc1 cB cB' h1 b1
  have c1 : q1.val.cell? ⟨g, 1, none⟩ = some (.slice A0 y.o.length c0) := h2.lies.cell 1
  have e0 := hd0 q1
  have e1 := hd1 q1
  have e2 := hd2 q1
  clear hd0 hd1 hd2
  have bS := (Below.refl q1.val.heap.size q1.val).alloc (Nat.le_refl _) (.cells #[.int .i64 k, .int .i64 p, .int .i64 b] 100)
  have hS : OffOwn (q1.val.alloc (.cells #[.int .i64 k, .int .i64 p, .int .i64 b] 100)).drew B g vt (.slice A0 y.o.length c0) y := (h2.then bS).then (Below.refl _ _).drew
  have hBq : B ≤ q1.val.heap.size := Nat.le_trans hB b2.size
  have cI := insOuting_any B (.slice A0 y.o.length c0) y.o.length (y.o.flatMap Outing.enc) (q1.val.alloc (.cells #[.int .i64 k, .int .i64 p, .int .i64 b] 100)).drew hS.o (by omega) q hple ⟨k, p, b⟩ q1.val.heap.size 1 (Lies.new q1.val 100 #[.int .i64 k, .int .i64 p, .int .i64 b]).drew (fun e => by have := (h2.o.lt _ e).2; omega) (Nat.le_trans hBq bS.size) outing_cells
  rw [show (y.o.flatMap Outing.enc).take (q * 3) ++ Outing.enc ⟨k, p, b⟩ ++ (y.o.flatMap Outing.enc).drop (q * 3) = (chgO k p b y.o).flatMap Outing.enc by rw [HC.out, flat_ins Outing.enc 3 Outing.enc_len]] at cI
  have hlen : y.o.length + 1 = (chgO k p b y.o).length := by rw [HC.out]; simp; omega
  rw [hlen] at cI
  have c1' := hS.lies.cell 1
  simp only [List.getElem?_cons_zero, List.getElem?_cons_succ] at c1'
  have HS := Lib.hid hS; clear hS
  have HLen := Lib.hid hlen; clear hlen
  go_region_law (first | (go_simp; go_at_call 103; refine cI.mono ?_; rintro e w9 ⟨v', rfl, HO, hg9⟩; obtain ⟨A9, c9, rfl⟩ := ownsRow_slice HO; have k1 := (HS.out.lies.kept hg9 (fun e => HS.out.ne_to e.symm)).cell 1; have k2 := (HS.out.lies.kept hg9 (fun e => HS.out.ne_to e.symm)).frozen 1; simp only [List.getElem?_cons_zero, List.getElem?_cons_succ] at k1))
  all_goals
    go_wp2
    refine bodyPost_ret (results_none rfl _ _ _) rfl ?_
    have hO := HS.out.setO hg9 HO
    refine ⟨_, rfl, hO, ?_⟩
    have bq : Below B w (q1.val.alloc (.cells #[.int .i64 k, .int .i64 p, .int .i64 b] 100)).drew := (b2.mono hB).trans ((bS.drew).mono hBq)
    have b9 : Below B w w9 := bq.grown hg9 (Nat.le_trans hBq bS.size) (fun j hj => (HS.out.o.lt _ hj).1)
    exact b9.grown (grown_set (World.grownBy.refl w9 (some g))) (Nat.le_trans hB b9.size) (by rintro _ ⟨⟩; exact HS.out.hg)

set_option maxRecDepth 100000 in
set_option maxHeartbeats 4000000 in
theorem change_old (B g : Nat) (vt vo : Value) (y : Oc) (k p b : Int) (w : World) (h : OffOwn w B g vt vo y) (hB : B ≤ w.heap.size) (ha : AscO y.o) (hn : y.o.length ≤ 100000) (hlt : posO y.o k p < y.o.length) (hold : isAt k p y.o[posO y.o k p] = true)
    (hc : -1000000000 ≤ y.o[posO y.o k p].c ∧ y.o[posO y.o k p].c ≤ 1000000000) (hb : -1000000000 ≤ b ∧ b ≤ 1000000000) :
    Calls Try.prog 85 #[.pointer (some ⟨g, 0, none⟩), .int .i64 k, .int .i64 p, .int .i64 b] w fun e w' => ∃ vo', e = .returned (.tuple #[]) ∧ OffOwn w' B g vt vo' { y with o := chgO k p b y.o } ∧ Below B w w' := by
  have b1 := (Below.refl w.heap.size w).alloc (Nat.le_refl _) (.cells #[.int .i64 k, .int .i64 p, .int .i64 b] 100)
  have L1 := Lies.new w 100 #[.int .i64 k, .int .i64 p, .int .i64 b]
  have h1 := h.then b1
  have HC := Lib.hid (chgO_old y.o hlt hold (b := b))
  have hlo : ∀ i (h : i < y.o.length), i < posO y.o k p → cmpO y.o[i] ⟨k, p, b⟩ < 0 := fun i h hi => cmpO_lt.2 (posO_lt y.o k p i h hi)
  have hhi : ∀ i (h : i < y.o.length), posO y.o k p ≤ i → ¬ cmpO y.o[i] ⟨k, p, b⟩ < 0 := fun i h hi hc => posO_ge y.o k p ha i h hi (cmpO_lt.1 hc)
  have hfd : ∀ h : posO y.o k p < y.o.length, true = decide (cmpO y.o[posO y.o k p] ⟨k, p, b⟩ = 0) := fun h => by rw [cmpO_zero, hold]
  have hple := posO_le y.o k p
  obtain ⟨go, cap, rest, rfl, hgo, hLo, hcap⟩ := ownsRow_at h.o (by omega)
  have cB : ∀ W, Below (w.alloc (.cells #[.int .i64 k, .int .i64 p, .int .i64 b] 100)).heap.size (w.alloc (.cells #[.int .i64 k, .int .i64 p, .int .i64 b] 100)) W → Calls Try.prog 102 #[.slice (some ⟨go, 0, none⟩) y.o.length cap, .agg #[.int .i64 k, .int .i64 p, .int .i64 b], .func (.func 78) #[] #[]] W fun e w' => e = .returned (.tuple #[.int .i64 (posO y.o k p), .bool true]) ∧ Below W.heap.size W w' := fun W hb =>
    bsOuting_any (fun o => cmpO o ⟨k, p, b⟩) ⟨k, p, b⟩ 78 #[] Try.call78 _ cap y.o W (fun t p => cmpFn_any t _ p.val) (ownsRow_reads (h1.then hb).o) (by omega) (posO y.o k p) hple hlo hhi true hfd (fun e => by omega)
  have hne : ¬ go = g := fun e => h.ne_to (by rw [← e]; rfl)
  have hne' : ¬ g = go := fun e => hne e.symm
  obtain ⟨q, hq⟩ : ∃ q, q = posO y.o k p := ⟨_, rfl⟩
  have hlt' : q < y.o.length := by rw [hq]; exact hlt
  have hcq : y.o[posO y.o k p] = y.o[q] := by congr 1; exact hq.symm
  rw [hcq] at hc HC
  rw [← hq] at cB HC hple
  obtain ⟨r, hre⟩ : ∃ r, r = y.o[q] := ⟨_, rfl⟩
  rw [← hre] at hc HC
  clear hcq hold hfd
  have hel : (y.o.flatMap Outing.enc)[q * 3 + 2]? = some (.int .i64 r.c) := by rw [flat_at Outing.enc 3 Outing.enc_len y.o q hlt' 2 (by omega), ← hre]; rfl
  have HSet := Lib.hid (flat_setO (c := r.c + b) hlt')
  rw [← hre] at HSet
  have hq3 : q * 3 + 2 < y.o.length * 3 := by omega
  clear hlo hhi ha hre hLo rest hq hlt
  obtain ⟨hc1, hc2⟩ := hc
  obtain ⟨hb1, hb2⟩ := hb
  go_enter Try.func85, Try.ntmps85
  go_wp2
  generalize w.alloc (.cells #[.int .i64 k, .int .i64 p, .int .i64 b] 100) = W at b1 L1 h1 cB ⊢
  have hc1 : ∀ r : Since W.heap.size W, r.val.cell? ⟨g, 1, none⟩ = some (.slice (some ⟨go, 0, none⟩) y.o.length cap) := fun r => (r.cell h1.lies.lt).trans (h1.lies.cell 1)
  have hd0 : ∀ r : Since W.heap.size W, r.val.cell? ⟨w.heap.size, 0, none⟩ = some (.int .i64 k) := fun r => (r.cell L1.lt).trans (L1.cell 0)
  have hd1 : ∀ r : Since W.heap.size W, r.val.cell? ⟨w.heap.size, 1, none⟩ = some (.int .i64 p) := fun r => (r.cell L1.lt).trans (L1.cell 1)
  have hd2 : ∀ r : Since W.heap.size W, r.val.cell? ⟨w.heap.size, 2, none⟩ = some (.int .i64 b) := fun r => (r.cell L1.lt).trans (L1.cell 2)
  have cB' := fun r : Since W.heap.size W => cB r.val r.below
  refine wp_region_since0 (by kernel_rfl) (by kernel_rfl) ?_
  repeat (any_goals (first | go_big_quiet_step ((go_at_call 102; refine calls_since (Nat.le_refl _) (cB' _))) | (refine wpQuiet_step (fun K hK => ?_); go_simp; split <;> (refine hK _ ?_; clear hK K))))
  all_goals (refine wpQuiet_nil ?_; rintro _ ⟨q1, rfl⟩)
  have h2 := h1.then q1.below
  have b2 : Below w.heap.size w q1.val := b1.trans (q1.below.mono b1.size)
  have hBq : B ≤ q1.val.heap.size := Nat.le_trans hB b2.size
  clear hc1 cB cB' h1 b1 hd0 hd1 hd2
  have c1 : q1.val.cell? ⟨g, 1, none⟩ = some (.slice (some ⟨go, 0, none⟩) y.o.length cap) := h2.lies.cell 1
  have c1f : q1.val.frozen? ⟨g, 1, none⟩ = false := h2.lies.frozen 1
  have c2 : q1.val.cell? ⟨go, q * 3 + 2, none⟩ = some (.int .i64 r.c) := (h2.o.cellAt _ hq3).trans hel
  have c2f : q1.val.frozen? ⟨go, q * 3 + 2, none⟩ = false := h2.o.frozenAt _
  have hO3 := ownsRow_set h2.o (q * 3 + 2) (.int .i64 (r.c + b)) hq3
  rw [HSet.out] at hO3
  have hL3 := h2.lies.other (p := ⟨go, q * 3 + 2, none⟩) hne' (.int .i64 (r.c + b))
  have hT3 := ownsRow_two (w' := q1.val.setCell ⟨go, q * 3 + 2, none⟩ (.int .i64 (r.c + b))) h2.t h2.o ne_OT (grown_set (World.grownBy.refl q1.val (some go)))
  have b3 : Below B w (q1.val.setCell ⟨go, q * 3 + 2, none⟩ (.int .i64 (r.c + b))) := (b2.mono hB).grown (grown_set (World.grownBy.refl q1.val (some go))) hBq (by rintro _ ⟨⟩; exact hgo)
  have s3 : q1.val.heap.size ≤ (q1.val.setCell ⟨go, q * 3 + 2, none⟩ (.int .i64 (r.c + b))).heap.size := by simp [World.setCell]
  by_cases hz : r.c + b = 0
  · have HZ := Lib.hid hz
    have hz' : (r.c + b == 0) = true := by simp [hz]
    clear hz
    rw [if_pos HZ.out] at HC
    have hOwn : OffOwn (q1.val.setCell ⟨go, q * 3 + 2, none⟩ (.int .i64 (r.c + b))) B g vt (.slice (some ⟨go, 0, none⟩) y.o.length cap) { y with o := y.o.set q ⟨r.k, r.p, r.c + b⟩ } := ⟨hL3, h.hg, hT3, by simpa using hO3⟩
    have cD := delOuting_any B (.slice (some ⟨go, 0, none⟩) y.o.length cap) y.o.length ((y.o.set q ⟨r.k, r.p, r.c + b⟩).flatMap Outing.enc) (q1.val.setCell ⟨go, q * 3 + 2, none⟩ (.int .i64 (r.c + b))) hO3 (by omega) q hlt' outing_cells
    rw [← flat_del Outing.enc 3 Outing.enc_len, List.take_set_of_le (Nat.le_refl _), List.drop_set_of_lt (Nat.lt_succ_self _), ← HC.out] at cD
    have hlen : y.o.length - 1 = (chgO k p b y.o).length := by rw [HC.out]; simp; omega
    rw [hlen] at cD
    have HLen := Lib.hid hlen; clear hlen
    have HOwn := Lib.hid hOwn; clear hOwn
    go_wp2_with fail
    refine cD.mono ?_
    rintro e w9 ⟨v', rfl, HO, hg9, _⟩
    obtain ⟨A9, c9, rfl⟩ := ownsRow_slice HO
    have hL9 := HOwn.out.lies.kept hg9 (fun e => HOwn.out.ne_to e.symm)
    have k1 := hL9.cell 1
    have k2 := hL9.frozen 1
    simp only [List.getElem?_cons_zero, List.getElem?_cons_succ] at k1
    have hO := HOwn.out.setO hg9 HO
    have b9 : Below B w w9 := b3.grown hg9 (Nat.le_trans hB b3.size) (fun j hj => (HOwn.out.o.lt _ hj).1)
    have b10 := b9.grown (grown_set (g := g) (i := 1) (u := .slice A9 (chgO k p b y.o).length c9) (World.grownBy.refl w9 (some g))) (Nat.le_trans hB b9.size) (by rintro _ ⟨⟩; exact h.hg)
    go_wp2
    go_end0
    exact ⟨_, rfl, hO, b10⟩
  · have HZ := Lib.hid hz
    have hz' : (r.c + b == 0) = false := by simp [hz]
    clear hz
    rw [if_neg HZ.out] at HC
    go_wp2
    go_end0
    exact ⟨_, rfl, ⟨hL3, h.hg, hT3, by rw [HC.out]; simpa using hO3⟩, b3⟩
/-- The change of an outing, new or old. -/
theorem change_any (B g : Nat) (vt vo : Value) (y : Oc) (k p b : Int) (w : World) (h : OffOwn w B g vt vo y) (hB : B ≤ w.heap.size) (ha : AscO y.o) (hn : y.o.length ≤ 100000) (hc : ∀ o ∈ y.o, -1000000000 ≤ o.c ∧ o.c ≤ 1000000000) (hb : -1000000000 ≤ b ∧ b ≤ 1000000000) :
    Calls Try.prog 85 #[.pointer (some ⟨g, 0, none⟩), .int .i64 k, .int .i64 p, .int .i64 b] w fun e w' => ∃ vo', e = .returned (.tuple #[]) ∧ OffOwn w' B g vt vo' { y with o := chgO k p b y.o } ∧ Below B w w' := by
  by_cases h0 : ∃ h : posO y.o k p < y.o.length, isAt k p y.o[posO y.o k p] = true
  · obtain ⟨hlt, hi⟩ := h0
    exact change_old B g vt vo y k p b w h hB ha hn hlt hi (hc _ (List.getElem_mem _)) hb
  · exact change_new B g vt vo y k p b w h hB ha hn (fun h' => by
      cases hi : isAt k p y.o[posO y.o k p]
      · rfl
      · exact absurd ⟨h', hi⟩ h0)
end Go.Proofs.Ytdiojhjkcholiaa

/- Steps of an office: what a step gives (plain); the program's closures. -/
namespace Go.Proofs.Ytdiojhjkcholiaa
open Go.RowKit

def Oc.fin (r : Oc) : Option Oc := if r.good then some r else none
/-- What a valid step of an office gives. -/
def stepD (y : Oc) (s : Stp) : Option Oc :=
  if s.kind = 1 then Oc.fin { y with t := inTrays y.t s.stamp s.value, got := y.got + s.value }
  else if ¬ 0 ≤ trayIx y.t s.stamp then none
  else if s.kind = 2 then Oc.fin { y with t := inTrays y.t s.stamp (-s.value), o := chgO s.stamp s.person s.value y.o }
  else if outAt s.stamp s.person y.o = 0 ∧ 0 < s.person then none
  else if s.kind = 3 then Oc.fin { y with t := inTrays y.t s.stamp s.value, o := chgO s.stamp s.person (-s.value) y.o }
  else if s.kind = 4 then (if s.person = 0 then Oc.fin { y with t := inTrays y.t s.stamp (-s.value), sold := y.sold + s.value } else Oc.fin { y with o := chgO s.stamp s.person (-s.value) y.o, sold := y.sold + s.value })
  else if s.kind = 5 then Oc.fin { y with o := chgO s.stamp s.person (-outAt s.stamp s.person y.o) y.o, missed := y.missed + outAt s.stamp s.person y.o }
  else Oc.fin { y with o := chgO s.stamp s.value (outAt s.stamp s.person y.o) (chgO s.stamp s.person (-outAt s.stamp s.person y.o) y.o) }
def Oc.zero : Oc := ⟨[], [], 0, 0, 0⟩
def resOf (R : Option Oc) : Oc := R.getD Oc.zero
/-- A step's results: an office of the call's own, and whether there is one. -/
def GivesStep (w : World) (R : Option Oc) (e : Ending) (w' : World) : Prop :=
  ∃ TA tc OA oc, e = .returned (.tuple #[Off.val ((resOf R).at TA tc OA oc), .bool R.isSome]) ∧ w'.ownsRow w.heap.size 74 2 (.slice TA (resOf R).t.length tc) (resOf R).t.length ((resOf R).t.flatMap Tray.enc) ∧
    w'.ownsRow w.heap.size 100 3 (.slice OA (resOf R).o.length oc) (resOf R).o.length ((resOf R).o.flatMap Outing.enc) ∧ Below w.heap.size w w'
theorem GivesStep.no {w w' : World} {e : Ending} (he : e = .returned (.tuple #[.agg #[.slice none 0 0, .slice none 0 0, .int .i64 0, .int .i64 0, .int .i64 0], .bool false])) (hb : Below w.heap.size w w') : GivesStep w none e w' :=
  ⟨none, 0, none, 0, he, World.ownsRow_nil _ _ _ _, World.ownsRow_nil _ _ _ _, hb⟩
theorem GivesStep.yes {w w' : World} {e : Ending} {r : Oc} {A1 A2 : Option Addr} {a1 a2 : Nat} (he : e = .returned (.tuple #[.agg #[.slice A1 r.t.length a1, .slice A2 r.o.length a2, .int .i64 r.got, .int .i64 r.sold, .int .i64 r.missed], .bool true]))
    (h8 : w'.ownsRow w.heap.size 74 2 (.slice A1 r.t.length a1) r.t.length (r.t.flatMap Tray.enc)) (h9 : w'.ownsRow w.heap.size 100 3 (.slice A2 r.o.length a2) r.o.length (r.o.flatMap Outing.enc)) (hb : Below w.heap.size w w') : GivesStep w (some r) e w' :=
  ⟨A1, a1, A2, a2, he, h8, h9, hb⟩
theorem OffOwn.at_ {w : World} {B g : Nat} {A1 A2 : Option Addr} {c1 c2 : Nat} {y : Oc} (h : OffOwn w B g (.slice A1 y.t.length c1) (.slice A2 y.o.length c2) y) : OffAt w w.heap.size g (y.at A1 c1 A2 c2) :=
  OffAt.of (x := y.at A1 c1 A2 c2) h.lies ⟨ownsRow_reads h.t, ownsRow_reads h.o⟩
theorem OffOwn.form {w : World} {B g : Nat} {vt vo : Value} {y : Oc} (h : OffOwn w B g vt vo y) : ∃ A1 c1 A2 c2, vt = .slice A1 y.t.length c1 ∧ vo = .slice A2 y.o.length c2 := by
  obtain ⟨A1, c1, h1⟩ := ownsRow_slice h.t
  obtain ⟨A2, c2, h2⟩ := ownsRow_slice h.o
  exact ⟨A1, c1, A2, c2, h1, h2⟩

/-- The closure of stepOffice that looks for an outing. -/
theorem atFn_any (t : Outing) (gs : Nat) (kd st pe va : Int) (w : World) (hL : Lies w gs 45 [.int .i64 kd, .int .i64 st, .int .i64 pe, .int .i64 va]) :
    Calls Try.prog 84 (#[t.val] ++ #[.pointer (some ⟨gs, 0, none⟩)]) w fun e w' => e = .returned (.bool (isAt st pe t)) ∧ Below w.heap.size w w' := by
  show Calls Try.prog 84 #[t.val, .pointer (some ⟨gs, 0, none⟩)] w _
  have b1 := (Below.refl w.heap.size w).alloc (Nat.le_refl _) (.cells #[.int .i64 t.k, .int .i64 t.p, .int .i64 t.c] 100)
  have c1 : ∀ r : Since w.heap.size w, r.val.cell? ⟨gs, 1, none⟩ = some (.int .i64 st) := fun r => (r.cell hL.lt).trans (hL.cell 1)
  have c2 : ∀ r : Since w.heap.size w, r.val.cell? ⟨gs, 2, none⟩ = some (.int .i64 pe) := fun r => (r.cell hL.lt).trans (hL.cell 2)
  have HI : Hid (isAt st pe t = (decide (t.k = st) && decide (t.p = pe))) := rfl
  have hL0 := Lies.new w 100 #[.int .i64 t.k, .int .i64 t.p, .int .i64 t.c]
  obtain ⟨q, hq⟩ : ∃ q : Since w.heap.size w, w.alloc (.cells #[.int .i64 t.k, .int .i64 t.p, .int .i64 t.c] 100) = q.val := ⟨⟨_, b1⟩, rfl⟩
  rw [hq] at hL0
  have d0 := hL0.cell 0
  have d1 := hL0.cell 1
  simp only [List.getElem?_cons_zero, List.getElem?_cons_succ] at d0 d1
  have hq0 := q.below.size
  by_cases h1 : t.k = st
  · have v1 : (t.k == st) = true := by simp [h1]
    have H1 := Lib.hid h1; clear h1
    by_cases h2 : t.p = pe
    · have v2 : (t.p == pe) = true := by simp [h2]
      have H2 := Lib.hid h2; clear h2
      go_enter Try.func84, Try.ntmps84
      go_wp2_with (rw [hq])
      all_goals go_ret
      all_goals exact ⟨by rw [HI.out, decide_eq_true H1.out, decide_eq_true H2.out]; rfl, q.below⟩
    · have v2 : (t.p == pe) = false := by simp [h2]
      have H2 := Lib.hid h2; clear h2
      go_enter Try.func84, Try.ntmps84
      go_wp2_with (rw [hq])
      all_goals go_ret
      all_goals exact ⟨by rw [HI.out, decide_eq_true H1.out, decide_eq_false H2.out]; rfl, q.below⟩
  · have v1 : (t.k == st) = false := by simp [h1]
    have H1 := Lib.hid h1; clear h1
    go_enter Try.func84, Try.ntmps84
    go_wp2_with (rw [hq])
    all_goals go_ret
    all_goals exact ⟨by rw [HI.out, decide_eq_false H1.out]; rfl, q.below⟩
theorem kindFn_any (t : Tray) (kd : Int) (w : World) : Calls Try.prog 81 (#[t.val, .int .i64 kd] ++ #[]) w fun e w' => e = .returned (.int .i64 (cmpI t.k kd)) ∧ Below w.heap.size w w' := by
  show Calls Try.prog 81 #[t.val, .int .i64 kd] w _
  have b1 := (Below.refl w.heap.size w).alloc (Nat.le_refl _) (.cells #[.int .i64 t.k, .int .i64 t.c] 74)
  have hc := fun W => compare_any t.k kd W
  go_enter Try.func81, Try.ntmps81
  go_wp2_with fail
  refine (hc _).mono ?_
  rintro e w' ⟨rfl, rfl⟩
  go_wp2
  go_ret
  exact ⟨rfl, b1⟩
theorem inTrays_at {ts : List Tray} {kd n : Int} {i : Nat} (h : trayIx ts kd = i) (hi : i < ts.length) : inTrays ts kd n = ts.set i ⟨ts[i].k, ts[i].c + n⟩ := by
  unfold inTrays
  rw [h, if_pos (by omega), Int.toNat_natCast, List.getD_eq_getElem?_getD, List.getElem?_eq_getElem hi]; rfl
/-- The count of a tray is written. -/
theorem OffOwn.setT {w : World} {B g gT cT i : Nat} {vo : Value} {y : Oc} (h : OffOwn w B g (.slice (some ⟨gT, 0, none⟩) y.t.length cT) vo y) (hi : i < y.t.length) (c : Int) :
    OffOwn (w.setCell ⟨gT, i * 2 + 1, none⟩ (.int .i64 c)) B g (.slice (some ⟨gT, 0, none⟩) y.t.length cT) vo { y with t := y.t.set i ⟨y.t[i].k, c⟩ } ∧ Below B w (w.setCell ⟨gT, i * 2 + 1, none⟩ (.int .i64 c)) ∧ w.cell? ⟨gT, i * 2 + 1, none⟩ = some (.int .i64 y.t[i].c) ∧ w.frozen? ⟨gT, i * 2 + 1, none⟩ = false := by
  have hj : i * 2 + 1 < y.t.length * 2 := by omega
  have hB : B ≤ gT := (h.t.lt gT rfl).1
  have hlt : gT < w.heap.size := (h.t.lt gT rfl).2
  have hg : gT ≠ g := fun e => h.ne_t (by rw [← e]; rfl)
  have ht := ownsRow_set h.t (i * 2 + 1) (.int .i64 c) hj
  rw [flat_setT hi] at ht
  have hgr : w.grownBy (w.setCell ⟨gT, i * 2 + 1, none⟩ (.int .i64 c)) (some gT) := grown_set (World.grownBy.refl w (some gT))
  refine ⟨⟨h.lies.other (p := ⟨gT, i * 2 + 1, none⟩) (fun e => hg e.symm) _, h.hg, by simpa using ht, ownsRow_two (v' := .slice (some ⟨gT, 0, none⟩) y.t.length cT) h.o h.t (Ne.symm ne_OT) hgr⟩, ?_, ?_, h.t.frozenAt _⟩
  · exact (Below.refl B w).grown hgr (Nat.le_of_lt (Nat.lt_of_le_of_lt hB hlt)) (by rintro _ ⟨⟩; exact hB)
  · rw [h.t.cellAt _ hj, flat_at Tray.enc 2 Tray.enc_len y.t i hi 1 (by omega)]; rfl
theorem OffOwn.setT' {w : World} {B g gT cT i : Nat} {vo : Value} {y : Oc} (h : OffOwn w B g (.slice (some ⟨gT, 0, none⟩) y.t.length cT) vo y) (hi : i < y.t.length) (tr : Tray) (htr : y.t[i] = tr) (c : Int) :
    OffOwn (w.setCell ⟨gT, i * 2 + 1, none⟩ (.int .i64 c)) B g (.slice (some ⟨gT, 0, none⟩) y.t.length cT) vo { y with t := y.t.set i ⟨tr.k, c⟩ } ∧ Below B w (w.setCell ⟨gT, i * 2 + 1, none⟩ (.int .i64 c)) ∧ w.cell? ⟨gT, i * 2 + 1, none⟩ = some (.int .i64 tr.c) ∧ w.frozen? ⟨gT, i * 2 + 1, none⟩ = false := by
  subst htr; exact h.setT hi c
/-- A number of the office is written. -/
theorem OffOwn.setN {w : World} {B g : Nat} {vt vo : Value} {y : Oc} (h : OffOwn w B g vt vo y) (c : Int) :
    OffOwn (w.setCell ⟨g, 2, none⟩ (.int .i64 c)) B g vt vo { y with got := c } ∧ OffOwn (w.setCell ⟨g, 3, none⟩ (.int .i64 c)) B g vt vo { y with sold := c } ∧ OffOwn (w.setCell ⟨g, 4, none⟩ (.int .i64 c)) B g vt vo { y with missed := c } :=
  ⟨⟨h.lies.set 2 _, h.hg, ownsRow_setOther h.t h.lies ne_TO 2 _, ownsRow_setOther h.o h.lies ne_OO 2 _⟩, ⟨h.lies.set 3 _, h.hg, ownsRow_setOther h.t h.lies ne_TO 3 _, ownsRow_setOther h.o h.lies ne_OO 3 _⟩, ⟨h.lies.set 4 _, h.hg, ownsRow_setOther h.t h.lies ne_TO 4 _, ownsRow_setOther h.o h.lies ne_OO 4 _⟩⟩
theorem OffOwn.belowN {w : World} {B g : Nat} {vt vo : Value} {y : Oc} (h : OffOwn w B g vt vo y) (i : Nat) (u : Value) : Below B w (w.setCell ⟨g, i, none⟩ u) :=
  (Below.refl B w).grown (grown_set (World.grownBy.refl w (some g))) (Nat.le_of_lt (Nat.lt_of_le_of_lt h.hg h.lies.lt)) (by rintro _ ⟨⟩; exact h.hg)
theorem Good.asc {x : Off} (h : Good x) : AscO x.o := (outsFrom_asc x.t x.o none h.os).1
theorem Good.at_ {x : Off} (h : Good x) (st pe : Int) : outSum (isAt st pe) x.o = outAt st pe x.o := by
  have := outSum_at (k := st) (p := pe) x.o 0 h.asc
  rwa [Int.zero_add] at this
theorem Good.at_bd {x : Off} (h : Good x) (st pe : Int) : 0 ≤ outAt st pe x.o ∧ outAt st pe x.o ≤ 9999 := by
  rcases outAt_mem (k := st) (p := pe) x.o with h0 | ⟨o, ho, _, hc⟩
  · omega
  · obtain ⟨j, hj, rfl⟩ := List.getElem_of_mem ho
    have := (Outing.bounds (h.oall j hj)).2.2
    omega
theorem Good.oc {x : Off} (h : Good x) : ∀ o ∈ x.o, -1000000000 ≤ o.c ∧ o.c ≤ 1000000000 := fun o ho => by
  obtain ⟨j, hj, rfl⟩ := List.getElem_of_mem ho
  have := (Outing.bounds (h.oall j hj)).2.2
  omega
theorem stampsFn_val {B g gs : Nat} {x : Off} {kd st pe va : Int} {w : World} (hL : Lies w gs 45 [.int .i64 kd, .int .i64 st, .int .i64 pe, .int .i64 va]) (hA : OffAt w w.heap.size g x) (G : Good x) (_hB : B ≤ w.heap.size) :
    Calls Try.prog 62 #[.pointer (some ⟨g, 0, none⟩), .func (.func 84) #[] #[.pointer (some ⟨gs, 0, none⟩)]] w fun e w' => e = .returned (.int .i64 (outAt st pe x.o)) ∧ Below w.heap.size w w' := by
  have := stampsOut_any (isAt st pe) 84 #[.pointer (some ⟨gs, 0, none⟩)] Try.call84 x g w (fun o p => atFn_any o gs kd st pe va p.val (hL.below p.below hL.lt)) hA G.ol G.oall
  rwa [G.at_] at this
/-- The trays' row turns, and then the field that holds it. -/
theorem OffOwn.setTs {w w' : World} {B g : Nat} {vt vt' vo : Value} {y : Oc} {ts : List Tray} (h : OffOwn w B g vt vo y) (hg : w.grownBy w' vt.ownBlock) (ht : w'.ownsRow B 74 2 vt' ts.length (ts.flatMap Tray.enc)) :
    OffOwn (w'.setCell ⟨g, 0, none⟩ vt') B g vt' vo { y with t := ts } := by
  have hL : Lies w' g 25 _ := h.lies.kept hg (fun e => h.ne_t e.symm)
  have ho := ownsRow_two h.o h.t (Ne.symm ne_OT) hg
  exact ⟨hL.set 0 vt', h.hg, ownsRow_setOther ht hL ne_TO 0 vt', ownsRow_setOther ho hL ne_OO 0 vt'⟩
theorem cmpI_lt {a b : Int} : cmpI a b < 0 ↔ a < b := by
  unfold cmpI; split
  · simp [*]
  · split <;> simp [*]
theorem cmpI_zero {a b : Int} : cmpI a b = 0 ↔ a = b := by
  unfold cmpI; split
  · simp; omega
  · split
    · simp; omega
    · simp; omega
theorem Good.ascT {x : Off} (h : Good x) : Asc x.t := (traysFrom_asc x.t 0 0 h.ts).1
theorem newTray_at (ts : List Tray) (kd : Int) : ∃ h : posT ts kd < (newTray ts kd).length, (newTray ts kd)[posT ts kd] = ⟨kd, 0⟩ := by
  have hl : (ts.take (posT ts kd)).length = posT ts kd := by rw [List.length_take, Nat.min_eq_left (posT_le ts kd)]
  have h : (newTray ts kd)[posT ts kd]? = some ⟨kd, 0⟩ := by
    unfold newTray; rw [List.getElem?_append_right (by omega), hl, Nat.sub_self]; rfl
  exact List.getElem?_eq_some_iff.1 h
theorem newTray_len (ts : List Tray) (kd : Int) : (newTray ts kd).length = ts.length + 1 := by
  have := posT_le ts kd
  unfold newTray; simp; omega
end Go.Proofs.Ytdiojhjkcholiaa

/- A region whose order is drawn, by one fact on each operation: no orders are walked. -/
namespace Go.Proofs.Ytdiojhjkcholiaa
open Go.RowKit

section
variable {P : Program} {ops : Array Oper} {Q : Exit → Act → World → Prop} {md : Region.Mode}

/-- The values vs in the temporaries of the operations. -/
def fillOps (vs : Nat → Value) : List Oper → Nat → Act → Act
  | [], _, a => a
  | o :: l, k, a => fillOps vs l (k + 1) (a.put o.dst (vs k))
def dstsApart : List Oper → Bool
  | [] => true
  | o :: l => l.all (fun p => match o.dst with | none => true | some d => p.dst != some d) && dstsApart l
def upd (vs : Nat → Value) (i : Nat) (v : Value) : Nat → Value := fun j => if j = i then v else vs j

theorem fillOps_put (vs : Nat → Value) {d : Option Tmp} {v : Value} : ∀ (l : List Oper) (k : Nat) (a : Act), (∀ p ∈ l, ∀ t, d = some t → p.dst ≠ some t) → (fillOps vs l k a).put d v = fillOps vs l k (a.put d v)
  | [], _, _, _ => rfl
  | o :: l, k, a, h => by
    unfold fillOps
    rw [fillOps_put vs l (k + 1) _ (fun p hp => h p (List.mem_cons_of_mem _ hp))]
    rw [Act.put_comm a (vs k) v (x := o.dst) (y := d) (fun t ht hd => h o (by simp) t hd ht)]
theorem fillOps_congr {vs vs' : Nat → Value} : ∀ (l : List Oper) (k : Nat) (a : Act), (∀ j, k ≤ j → vs j = vs' j) → fillOps vs l k a = fillOps vs' l k a
  | [], _, _, _ => rfl
  | o :: l, k, a, h => by
    unfold fillOps
    rw [h k (Nat.le_refl _), fillOps_congr l (k + 1) _ (fun j hj => h j (by omega))]
theorem Act.put_put (a : Act) (d : Option Tmp) (u v : Value) : (a.put d u).put d v = a.put d v := by
  cases d with
  | none => rfl
  | some d =>
    simp only [Act.put]
    congr 1
    apply Array.ext (by simp)
    intro i h1 h2
    simp
theorem fillOps_upd : ∀ (l : List Oper) (k : Nat) (a : Act) (vs : Nat → Value) (i : Nat) (o : Oper) (v : Value), dstsApart l = true → l[i]? = some o →
    (fillOps vs l k a).put o.dst v = fillOps (upd vs (k + i) v) l k a
  | [], _, _, _, _, _, _, _, h => by simp at h
  | p :: l, k, a, vs, 0, o, v, hd, h => by
    simp only [List.getElem?_cons_zero, Option.some.injEq] at h; subst h
    simp only [dstsApart, Bool.and_eq_true, List.all_eq_true] at hd
    unfold fillOps
    rw [fillOps_put vs l (k + 1) _ (fun q hq t ht => by
      have := hd.1 q hq; rw [ht] at this; simpa using this), Act.put_put]
    rw [fillOps_congr (vs := vs) (vs' := upd vs (k + 0) v) l (k + 1) _ (fun j hj => by unfold upd; rw [if_neg (by omega)])]
    congr 2
    simp [upd]
  | p :: l, k, a, vs, i + 1, o, v, hd, h => by
    simp only [dstsApart, Bool.and_eq_true] at hd
    unfold fillOps
    rw [fillOps_upd l (k + 1) _ vs i o v hd.2 (by simpa using h)]
    have : k + 1 + i = k + (i + 1) := by omega
    rw [this]
    congr 2
    unfold upd; rw [if_neg (by omega)]
theorem Act.put_self (a : Act) (t : Tmp) (u : Value) : a.put (some t) (a.tmps.getD t u) = a := by
  simp only [Act.put]
  obtain ⟨tmps, defers⟩ := a
  congr 1
  apply Array.ext_getElem?
  intro i
  by_cases e : t = i
  · subst e
    by_cases h2 : t < tmps.size
    · simp [h2]
    · simp [h2]
  · rw [Array.getElem?_setIfInBounds_ne e]
theorem fillOps_self (vs : Nat → Value) : ∀ (l : List Oper) (k : Nat) (a : Act), (∀ i o t, l[i]? = some o → o.dst = some t → vs (k + i) = a.tmps.getD t undef) → fillOps vs l k a = a
  | [], _, _, _ => rfl
  | o :: l, k, a, h => by
    unfold fillOps
    have e : a.put o.dst (vs k) = a := by
      cases hd : o.dst with
      | none => rfl
      | some t =>
        have h0 := h 0 o t (by simp) hd
        rw [Nat.add_zero] at h0
        rw [h0, Act.put_self]
    rw [e]
    exact fillOps_self vs l (k + 1) a (fun i o' t h1 h2 => by
      have := h (i + 1) o' t (by simpa using h1) h2
      rwa [show k + (i + 1) = k + 1 + i by omega] at this)

/-- j comes ahead of k, whatever order is drawn. -/
def ahead (md : Region.Mode) (ops : Array Oper) : Nat → Nat → Nat → Bool
  | 0, _, _ => false
  | fuel + 1, k, j => match ops[k]? with
    | none => false
    | some o => o.after.any fun e => Region.binds md e && (e.on == j || ahead md ops fuel e.on j)
def edgesDown (md : Region.Mode) (ops : Array Oper) : Bool :=
  (List.range ops.size).all fun k => match ops[k]? with
    | none => true
    | some o => o.after.all fun e => !Region.binds md e || decide (e.on < k)

def Closed (md : Region.Mode) (ops : Array Oper) (listed : Array Bool) : Prop :=
  ∀ j o, ops[j]? = some o → listed.getD j false = true → ∀ e ∈ o.after, Region.binds md e = true → listed.getD e.on false = true

theorem ahead_listed {listed : Array Bool} (hc : Closed md ops listed) : ∀ (fuel k j : Nat), (∀ o, ops[k]? = some o → ∀ e ∈ o.after, Region.binds md e = true → listed.getD e.on false = true) → ahead md ops fuel k j = true → listed.getD j false = true
  | 0, _, _, _, h => by simp [ahead] at h
  | fuel + 1, k, j, hk, h => by
    unfold ahead at h
    cases ho : ops[k]? with
    | none => simp [ho] at h
    | some o =>
      simp only [ho] at h
      obtain ⟨e, he, hb⟩ := Array.any_eq_true'.1 h
      simp only [Bool.and_eq_true, Bool.or_eq_true, beq_iff_eq] at hb
      have h1 := hk o ho e he hb.1
      rcases hb.2 with h2 | h2
      · rw [← h2]; exact h1
      · exact ahead_listed hc fuel e.on j (fun o' ho' => hc e.on o' ho' h1) h2

/-- The walk: a fact R on each operation's value; the facts of those that come ahead are at hand. -/
def wpFacts (P : Program) (ops : Array Oper) (Q : Exit → Act → World → Prop) (C : World → Prop) (T : World → World → Prop) (fr : (Nat → Value) → Act) : Nat → List Oper → List (Value → World → Prop) → Prop
  | _, [], Rs => ∀ vs w, C w → (∀ (j : Nat) (R : Value → World → Prop), Rs[j]? = some R → R (vs j) w) → Q .normal (fr vs) w
  | k, o :: l, Rs => ∃ R : Value → World → Prop, (∀ v w w', R v w → T w w' → R v w') ∧
    (∀ vs w, C w → (∀ (j : Nat) (R' : Value → World → Prop), ahead .any ops ops.size k j = true → Rs[j]? = some R' → R' (vs j) w) → ∀ K : Act → World → Prop, (∀ a' v w', a' = (fr vs).put o.dst v → R v w' → C w' → T w w' → K a' w') →
      if Region.wanted o (yielded ops (fr vs).tmps) = true then o.wp P (fr vs) w K Q else K ((fr vs).put o.dst undef) w) ∧
    wpFacts P ops Q C T fr (k + 1) l (Rs ++ [R])

/-- What the walk gives: the facts, one for each operation. -/
theorem wpFacts_all {C : World → Prop} {T : World → World → Prop} {fr : (Nat → Value) → Act} : ∀ (l : List Oper) (k : Nat) (Rs : List (Value → World → Prop)), (∀ i, l[i]? = ops[k + i]?) → Rs.length = k →
    (∀ (j : Nat) (R : Value → World → Prop), Rs[j]? = some R → ∀ v w w', R v w → T w w' → R v w') →
    (∀ (j : Nat) (o : Oper) (R : Value → World → Prop), j < k → ops[j]? = some o → Rs[j]? = some R → ∀ vs w, C w → (∀ (j' : Nat) (R' : Value → World → Prop), ahead .any ops ops.size j j' = true → j' < j → Rs[j']? = some R' → R' (vs j') w) → ∀ K : Act → World → Prop, (∀ a' v w', a' = (fr vs).put o.dst v → R v w' → C w' → T w w' → K a' w') →
      if Region.wanted o (yielded ops (fr vs).tmps) = true then o.wp P (fr vs) w K Q else K ((fr vs).put o.dst undef) w) →
    wpFacts P ops Q C T fr k l Rs →
    ∃ Rs' : List (Value → World → Prop), Rs'.length = k + l.length ∧ (∀ (j : Nat) (R : Value → World → Prop), Rs'[j]? = some R → ∀ v w w', R v w → T w w' → R v w') ∧
    (∀ (j : Nat) (o : Oper) (R : Value → World → Prop), ops[j]? = some o → Rs'[j]? = some R → ∀ vs w, C w → (∀ (j' : Nat) (R' : Value → World → Prop), ahead .any ops ops.size j j' = true → j' < j → Rs'[j']? = some R' → R' (vs j') w) → ∀ K : Act → World → Prop, (∀ a' v w', a' = (fr vs).put o.dst v → R v w' → C w' → T w w' → K a' w') →
      if Region.wanted o (yielded ops (fr vs).tmps) = true then o.wp P (fr vs) w K Q else K ((fr vs).put o.dst undef) w) ∧
    (∀ vs w, C w → (∀ (j : Nat) (R : Value → World → Prop), Rs'[j]? = some R → R (vs j) w) → Q .normal (fr vs) w)
  | [], k, Rs, hl, hlen, hst, hop, h => by
    refine ⟨Rs, by simpa using hlen, hst, fun j o R ho hR => hop j o R ?_ ho hR, h⟩
    rw [← hlen]; exact (List.getElem?_eq_some_iff.1 hR).1
  | o :: l, k, Rs, hl, hlen, hst, hop, h => by
    obtain ⟨R, hRs, hRo, hrest⟩ := h
    have ho : ops[k]? = some o := by simpa using (hl 0).symm
    have hold : ∀ j, j < k → (Rs ++ [R])[j]? = Rs[j]? := fun j hj => List.getElem?_append_left (by omega)
    have hnew : (Rs ++ [R])[k]? = some R := by rw [List.getElem?_append_right (by omega), hlen]; simp
    obtain ⟨Rs', h1, h2, h3, h4⟩ := wpFacts_all l (k + 1) (Rs ++ [R]) (fun i => by have := hl (i + 1); simpa [Nat.add_assoc, Nat.add_comm 1 i] using this) (by simp [hlen])
      (fun j R' hR' => by
        rcases Nat.lt_trichotomy j k with hj | hj | hj
        · rw [hold j hj] at hR'; exact hst j R' hR'
        · subst hj; rw [hnew] at hR'; cases hR'; exact hRs
        · rw [List.getElem?_eq_none (by simp [hlen]; omega)] at hR'; cases hR')
      (fun j o' R' hj ho' hR' vs w hC hB K hK => by
        rcases Nat.lt_or_ge j k with hjk | hjk
        · rw [hold j hjk] at hR'
          exact hop j o' R' hjk ho' hR' vs w hC (fun j' R'' ha hlt h'' => hB j' R'' ha hlt (by rw [hold j' (by omega)]; exact h'')) K hK
        · obtain rfl : j = k := by omega
          rw [ho] at ho'; cases ho'
          rw [hnew] at hR'; cases hR'
          refine hRo vs w hC (fun j' R'' ha h'' => ?_) K hK
          have hlt : j' < Rs.length := (List.getElem?_eq_some_iff.1 h'').1
          exact hB j' R'' ha (by omega) (by rw [hold j' (by omega)]; exact h''))
      hrest
    exact ⟨Rs', by rw [h1]; simp; omega, h2, h3, h4⟩

theorem listed_ready {listed : Array Bool} (hdn : edgesDown .any ops = true) (hsz : listed.size = ops.size) (hr : Region.ready .any ops listed = []) : ∀ j, j < ops.size → listed.getD j false = true := by
  intro j
  induction j using Nat.strongRecOn with
  | ind j ih =>
    intro hj
    rcases hb : listed.getD j false with _ | _
    · exfalso
      have hmem : j ∈ Region.ready .any ops listed := by
        rw [mem_ready]
        refine ⟨?_, ops[j], Array.getElem?_eq_getElem hj, fun e he hbd => ?_⟩
        · have : j < listed.size := by omega
          simp only [Array.getD, this, ↓reduceDIte] at hb ⊢
          exact hb
        · have h1 := List.all_eq_true.1 hdn j (List.mem_range.2 hj)
          rw [Array.getElem?_eq_getElem hj] at h1
          have h2 := Array.all_eq_true_iff_forall_mem.1 h1 e he
          simp only [hbd, Bool.not_true, Bool.false_or, decide_eq_true_eq] at h2
          exact ih e.on h2 (by omega)
      rw [hr] at hmem; cases hmem
    · rfl

/-- How many have not come up. -/
def unlisted (n : Nat) (listed : Array Bool) : Nat := ((List.range n).filter fun j => !listed.getD j false).length
theorem unlisted_set {n i : Nat} {listed : Array Bool} (hi : i < n) (hs : listed.size = n) (h : listed.getD i false = false) : unlisted n (listed.setIfInBounds i true) < unlisted n listed := by
  unfold unlisted
  have e : ∀ l : List Nat, (l.filter fun j => !(listed.setIfInBounds i true).getD j false) = (l.filter fun j => !listed.getD j false).filter (fun j => j != i) := by
    intro l
    rw [List.filter_filter]
    apply List.filter_congr
    intro j _
    by_cases hji : j = i
    · subst hji; have : j < listed.size := by omega
      simp [this]
    · rw [getD_set_ne false (Ne.symm hji)]; simp [hji]
  rw [e]
  have hm : i ∈ (List.range n).filter fun j => !listed.getD j false := List.mem_filter.2 ⟨List.mem_range.2 hi, by rw [h]; rfl⟩
  generalize (List.range n).filter (fun j => !listed.getD j false) = l at hm
  clear e
  induction l with
  | nil => cases hm
  | cons x l ih =>
    rw [List.filter_cons]
    split
    · rename_i hx
      rcases List.mem_cons.1 hm with h' | h'
      · simp [h'] at hx
      · simpa using ih h'
    · exact Nat.lt_succ_of_le (List.length_filter_le _ _)

theorem wpAny_facts {C : World → Prop} {T : World → World → Prop} {a₀ : Act} (hap : dstsApart ops.toList = true) (hdn : edgesDown .any ops = true) (Rs : List (Value → World → Prop)) (hlen : Rs.length = ops.size)
    (hst : ∀ (j : Nat) (R : Value → World → Prop), Rs[j]? = some R → ∀ v w w', R v w → T w w' → R v w')
    (hop : ∀ (j : Nat) (o : Oper) (R : Value → World → Prop), ops[j]? = some o → Rs[j]? = some R → ∀ vs w, C w → (∀ (j' : Nat) (R' : Value → World → Prop), ahead .any ops ops.size j j' = true → j' < j → Rs[j']? = some R' → R' (vs j') w) → ∀ K : Act → World → Prop, (∀ a' v w', a' = (fillOps vs ops.toList 0 a₀).put o.dst v → R v w' → C w' → T w w' → K a' w') →
      if Region.wanted o (yielded ops (fillOps vs ops.toList 0 a₀).tmps) = true then o.wp P (fillOps vs ops.toList 0 a₀) w K Q else K ((fillOps vs ops.toList 0 a₀).put o.dst undef) w)
    (hend : ∀ vs w, C w → (∀ (j : Nat) (R : Value → World → Prop), Rs[j]? = some R → R (vs j) w) → Q .normal (fillOps vs ops.toList 0 a₀) w) :
    ∀ (fuel : Nat) (listed : Array Bool) (vs : Nat → Value) (w : World), listed.size = ops.size → unlisted ops.size listed ≤ fuel → Closed .any ops listed → C w → (∀ (j : Nat) (R : Value → World → Prop), listed.getD j false = true → Rs[j]? = some R → R (vs j) w) →
      wpAny P .any ops Q fuel listed (fillOps vs ops.toList 0 a₀) w := by
  have hfin : ∀ (listed : Array Bool) (vs : Nat → Value) (w : World), listed.size = ops.size → C w → (∀ (j : Nat) (R : Value → World → Prop), listed.getD j false = true → Rs[j]? = some R → R (vs j) w) → Region.ready .any ops listed = [] → Q .normal (fillOps vs ops.toList 0 a₀) w :=
    fun listed vs w hs hC hR hr => hend vs w hC fun j R hj => hR j R (listed_ready hdn hs hr j (by rw [← hlen]; exact (List.getElem?_eq_some_iff.1 hj).1)) hj
  intro fuel
  induction fuel with
  | zero =>
    intro listed vs w hs hu hcl hC hR
    have hr : Region.ready .any ops listed = [] := by
      rw [List.eq_nil_iff_forall_not_mem]
      intro j hj
      obtain ⟨h0, o, ho, _⟩ := mem_ready.1 hj
      have hjs : j < ops.size := (Array.getElem?_eq_some_iff.1 ho).1
      have : unlisted ops.size (listed.setIfInBounds j true) < unlisted ops.size listed := unlisted_set hjs hs (by
        have : j < listed.size := by omega
        simp only [Array.getD, this, ↓reduceDIte] at h0 ⊢; exact h0)
      omega
    exact ⟨hr, hfin listed vs w hs hC hR hr⟩
  | succ fuel ih =>
    intro listed vs w hs hu hcl hC hR
    refine ⟨hfin listed vs w hs hC hR, fun i hi => ?_⟩
    obtain ⟨h0, o, ho, hall⟩ := mem_ready.1 hi
    have hisz : i < ops.size := (Array.getElem?_eq_some_iff.1 ho).1
    have hil : i < listed.size := by omega
    have h0' : listed.getD i false = false := by simp only [Array.getD, hil, ↓reduceDIte] at h0 ⊢; exact h0
    obtain ⟨R, hRi⟩ : ∃ R, Rs[i]? = some R := ⟨Rs[i]'(by omega), List.getElem?_eq_getElem (by omega)⟩
    have hstep := hop i o R ho hRi vs w hC (fun j' R' ha _ hR' => hR j' R' (ahead_listed hcl ops.size i j' (fun o' ho' => by rw [ho] at ho'; cases ho'; exact hall) ha) hR')
      (wpAny P .any ops Q fuel (listed.setIfInBounds i true)) (fun a' v w' ha hRv hC' hT => by
        rw [ha, fillOps_upd ops.toList 0 a₀ vs i o v hap (by simpa using ho), Nat.zero_add]
        refine ih _ _ _ (by simpa using hs) ?_ ?_ hC' ?_
        · have := unlisted_set hisz hs h0'; omega
        · intro j oj hoj hj e he hb
          by_cases hji : j = i
          · subst hji; rw [ho] at hoj; cases hoj; exact getD_set_true (hall e he hb)
          · rw [getD_set_ne false (Ne.symm hji)] at hj; exact getD_set_true (hcl j oj hoj hj e he hb)
        · intro j R' hj hR'
          by_cases hji : j = i
          · subst hji; rw [hRi] at hR'; cases hR'; simpa [upd] using hRv
          · rw [getD_set_ne false (Ne.symm hji)] at hj
            have := hst j R' hR' _ _ _ (hR j R' hj hR') hT
            simpa [upd, hji] using this)
    unfold wpOp
    simp only [ho]
    split
    · rename_i hw; rw [if_pos hw] at hstep; exact .inl hstep
    · rename_i hw; rw [if_neg hw] at hstep; exact hstep

/-- The region. -/
theorem wp_region_facts {id : Nat} {a : Act} {w : World} {l : List Oper} (C : World → Prop) (T : World → World → Prop) (hm : P.follows .mixedOrders = true) (hap : dstsApart l = true) (hdn : edgesDown .any l.toArray = true)
    (hC : C w.drew) (h : wpFacts P l.toArray Q C T (fun vs => fillOps vs l 0 a) 0 l []) : (Code.region id l.toArray true).wp P Q a w := by
  refine wp_region_any hm ?_
  obtain ⟨Rs, h1, h2, h3, h4⟩ := wpFacts_all (ops := l.toArray) l 0 [] (by simp) rfl (by simp) (by simp) h
  obtain ⟨vs, hvs⟩ : ∃ vs : Nat → Value, ∀ i o t, l[i]? = some o → o.dst = some t → vs (0 + i) = a.tmps.getD t undef :=
    ⟨fun i => match (l[i]?).bind (·.dst) with | some t => a.tmps.getD t undef | none => undef, fun i o t hi ht => by simp [hi, ht]⟩
  have := wpAny_facts (P := P) (Q := Q) (ops := l.toArray) (C := C) (T := T) (a₀ := a) hap hdn Rs (by simpa using h1) h2 h3 h4 l.toArray.size (Array.replicate l.toArray.size false) vs w.drew (by simp)
    (Nat.le_trans (List.length_filter_le _ _) (by simp)) (fun j o hj hl => by simp [Array.getD] at hl) hC (fun j R hl => by simp [Array.getD] at hl)
  rwa [fillOps_self vs _ 0 a (by simpa using hvs)] at this

theorem wpFacts_nil {C : World → Prop} {T : World → World → Prop} {fr : (Nat → Value) → Act} {k : Nat} {Rs : List (Value → World → Prop)} (h : ∀ vs w, C w → (∀ (j : Nat) (R : Value → World → Prop), Rs[j]? = some R → R (vs j) w) → Q .normal (fr vs) w) : wpFacts P ops Q C T fr k [] Rs := h
/-- An operation with one value. -/
theorem wpFacts_val {C : World → Prop} {T : World → World → Prop} {fr : (Nat → Value) → Act} {k : Nat} {o : Oper} {l : List Oper} {Rs : List (Value → World → Prop)} (V : Value)
    (h1 : ∀ vs w, C w → (∀ (j : Nat) (R' : Value → World → Prop), ahead .any ops ops.size k j = true → Rs[j]? = some R' → R' (vs j) w) → ∀ K : Act → World → Prop, (∀ a' w', a' = (fr vs).put o.dst V → C w' → T w w' → K a' w') →
      if Region.wanted o (yielded ops (fr vs).tmps) = true then o.wp P (fr vs) w K Q else K ((fr vs).put o.dst undef) w)
    (h2 : wpFacts P ops Q C T fr (k + 1) l (Rs ++ [fun v _ => v = V])) : wpFacts P ops Q C T fr k (o :: l) Rs :=
  ⟨fun v _ => v = V, fun _ _ _ h _ => h, fun vs w hC hB K hK => h1 vs w hC hB K fun a' w' ha hC' hT => hK a' V w' ha rfl hC' hT, h2⟩
/-- An operation whose value has a property. -/
theorem wpFacts_some {C : World → Prop} {T : World → World → Prop} {fr : (Nat → Value) → Act} {k : Nat} {o : Oper} {l : List Oper} {Rs : List (Value → World → Prop)} (R : Value → World → Prop) (hR : ∀ v w w', R v w → T w w' → R v w')
    (h1 : ∀ vs w, C w → (∀ (j : Nat) (R' : Value → World → Prop), ahead .any ops ops.size k j = true → Rs[j]? = some R' → R' (vs j) w) → ∀ K : Act → World → Prop, (∀ a' v w', a' = (fr vs).put o.dst v → R v w' → C w' → T w w' → K a' w') →
      if Region.wanted o (yielded ops (fr vs).tmps) = true then o.wp P (fr vs) w K Q else K ((fr vs).put o.dst undef) w)
    (h2 : wpFacts P ops Q C T fr (k + 1) l (Rs ++ [R])) : wpFacts P ops Q C T fr k (o :: l) Rs :=
  ⟨R, hR, h1, h2⟩
end
end Go.Proofs.Ytdiojhjkcholiaa

/- A region whose order is drawn and whose last operation comes behind all others (a store): by one fact on each operation. -/
namespace Go.Proofs.Ytdiojhjkcholiaa
open Go.RowKit

section
variable {P : Program} {ops : Array Oper} {Q : Exit → Act → World → Prop}

/-- The walk: a fact on each operation's value, and the last operation from all the facts. -/
def wpFactsT (P : Program) (ops : Array Oper) (Q : Exit → Act → World → Prop) (C : World → Prop) (T : World → World → Prop) (fr : (Nat → Value) → Act) : Nat → List Oper → List (Value → World → Prop) → Prop
  | _, [], _ => False
  | k, o :: l, Rs => (l = [] ∧ ∀ vs w, C w → (∀ (j : Nat) (R : Value → World → Prop), Rs[j]? = some R → R (vs j) w) → ∀ K : Act → World → Prop, (∀ a' w', Q .normal a' w' → K a' w') →
      if Region.wanted o (yielded ops (fr vs).tmps) = true then o.wp P (fr vs) w K Q else K ((fr vs).put o.dst undef) w) ∨
    (∃ R : Value → World → Prop, (∀ v w w', R v w → T w w' → R v w') ∧
    (∀ vs w, C w → (∀ (j : Nat) (R' : Value → World → Prop), ahead .any ops ops.size k j = true → Rs[j]? = some R' → R' (vs j) w) → ∀ K : Act → World → Prop, (∀ a' v w', a' = (fr vs).put o.dst v → R v w' → C w' → T w w' → K a' w') →
      if Region.wanted o (yielded ops (fr vs).tmps) = true then o.wp P (fr vs) w K Q else K ((fr vs).put o.dst undef) w) ∧
    wpFactsT P ops Q C T fr (k + 1) l (Rs ++ [R]))

theorem wpFactsT_all {C : World → Prop} {T : World → World → Prop} {fr : (Nat → Value) → Act} : ∀ (l : List Oper) (k : Nat) (Rs : List (Value → World → Prop)), (∀ i, l[i]? = ops[k + i]?) → Rs.length = k →
    (∀ (j : Nat) (R : Value → World → Prop), Rs[j]? = some R → ∀ v w w', R v w → T w w' → R v w') →
    (∀ (j : Nat) (o : Oper) (R : Value → World → Prop), j < k → ops[j]? = some o → Rs[j]? = some R → ∀ vs w, C w → (∀ (j' : Nat) (R' : Value → World → Prop), ahead .any ops ops.size j j' = true → j' < j → Rs[j']? = some R' → R' (vs j') w) → ∀ K : Act → World → Prop, (∀ a' v w', a' = (fr vs).put o.dst v → R v w' → C w' → T w w' → K a' w') →
      if Region.wanted o (yielded ops (fr vs).tmps) = true then o.wp P (fr vs) w K Q else K ((fr vs).put o.dst undef) w) →
    wpFactsT P ops Q C T fr k l Rs →
    ∃ Rs' : List (Value → World → Prop), Rs'.length + 1 = ops.size ∧ (∀ (j : Nat) (R : Value → World → Prop), Rs'[j]? = some R → ∀ v w w', R v w → T w w' → R v w') ∧
    (∀ (j : Nat) (o : Oper) (R : Value → World → Prop), ops[j]? = some o → Rs'[j]? = some R → ∀ vs w, C w → (∀ (j' : Nat) (R' : Value → World → Prop), ahead .any ops ops.size j j' = true → j' < j → Rs'[j']? = some R' → R' (vs j') w) → ∀ K : Act → World → Prop, (∀ a' v w', a' = (fr vs).put o.dst v → R v w' → C w' → T w w' → K a' w') →
      if Region.wanted o (yielded ops (fr vs).tmps) = true then o.wp P (fr vs) w K Q else K ((fr vs).put o.dst undef) w) ∧
    (∀ o, ops[Rs'.length]? = some o → ∀ vs w, C w → (∀ (j : Nat) (R : Value → World → Prop), Rs'[j]? = some R → R (vs j) w) → ∀ K : Act → World → Prop, (∀ a' w', Q .normal a' w' → K a' w') →
      if Region.wanted o (yielded ops (fr vs).tmps) = true then o.wp P (fr vs) w K Q else K ((fr vs).put o.dst undef) w)
  | [], k, Rs, _, _, _, _, h => h.elim
  | o :: l, k, Rs, hl, hlen, hst, hop, h => by
    have ho : ops[k]? = some o := by simpa using (hl 0).symm
    rcases h with ⟨rfl, hlast⟩ | ⟨R, hRs, hRo, hrest⟩
    · have h1 : ops[k + 1]? = none := by have := hl 1; simpa using this.symm
      have hk : k < ops.size := (Array.getElem?_eq_some_iff.1 ho).1
      have hk1 : ¬ k + 1 < ops.size := fun hh => by rw [Array.getElem?_eq_getElem hh] at h1; cases h1
      refine ⟨Rs, by omega, hst, fun j o R ho hR => hop j o R ?_ ho hR, fun o' ho' => ?_⟩
      · rw [← hlen]; exact (List.getElem?_eq_some_iff.1 hR).1
      · rw [hlen, ho] at ho'; cases ho'; exact hlast
    · have hold : ∀ j, j < k → (Rs ++ [R])[j]? = Rs[j]? := fun j hj => List.getElem?_append_left (by omega)
      have hnew : (Rs ++ [R])[k]? = some R := by rw [List.getElem?_append_right (by omega), hlen]; simp
      exact wpFactsT_all l (k + 1) (Rs ++ [R]) (fun i => by have := hl (i + 1); simpa [Nat.add_assoc, Nat.add_comm 1 i] using this) (by simp [hlen])
        (fun j R' hR' => by
          rcases Nat.lt_trichotomy j k with hj | hj | hj
          · rw [hold j hj] at hR'; exact hst j R' hR'
          · subst hj; rw [hnew] at hR'; cases hR'; exact hRs
          · rw [List.getElem?_eq_none (by simp [hlen]; omega)] at hR'; cases hR')
        (fun j o' R' hj ho' hR' vs w hC hB K hK => by
          rcases Nat.lt_or_ge j k with hjk | hjk
          · rw [hold j hjk] at hR'
            exact hop j o' R' hjk ho' hR' vs w hC (fun j' R'' ha hlt h'' => hB j' R'' ha hlt (by rw [hold j' (by omega)]; exact h'')) K hK
          · obtain rfl : j = k := by omega
            rw [ho] at ho'; cases ho'
            rw [hnew] at hR'; cases hR'
            refine hRo vs w hC (fun j' R'' ha h'' => ?_) K hK
            have hlt : j' < Rs.length := (List.getElem?_eq_some_iff.1 h'').1
            exact hB j' R'' ha (by omega) (by rw [hold j' (by omega)]; exact h''))
        hrest

def allAhead (ops : Array Oper) (n : Nat) : Bool := (List.range n).all fun j => ahead .any ops ops.size n j

theorem wpAny_factsT {C : World → Prop} {T : World → World → Prop} {a₀ : Act} (hap : dstsApart ops.toList = true) (hdn : edgesDown .any ops = true) (Rs : List (Value → World → Prop)) (hlen : Rs.length + 1 = ops.size) (hah : allAhead ops Rs.length = true)
    (hst : ∀ (j : Nat) (R : Value → World → Prop), Rs[j]? = some R → ∀ v w w', R v w → T w w' → R v w')
    (hop : ∀ (j : Nat) (o : Oper) (R : Value → World → Prop), ops[j]? = some o → Rs[j]? = some R → ∀ vs w, C w → (∀ (j' : Nat) (R' : Value → World → Prop), ahead .any ops ops.size j j' = true → j' < j → Rs[j']? = some R' → R' (vs j') w) → ∀ K : Act → World → Prop, (∀ a' v w', a' = (fillOps vs ops.toList 0 a₀).put o.dst v → R v w' → C w' → T w w' → K a' w') →
      if Region.wanted o (yielded ops (fillOps vs ops.toList 0 a₀).tmps) = true then o.wp P (fillOps vs ops.toList 0 a₀) w K Q else K ((fillOps vs ops.toList 0 a₀).put o.dst undef) w)
    (hlast : ∀ o, ops[Rs.length]? = some o → ∀ vs w, C w → (∀ (j : Nat) (R : Value → World → Prop), Rs[j]? = some R → R (vs j) w) → ∀ K : Act → World → Prop, (∀ a' w', Q .normal a' w' → K a' w') →
      if Region.wanted o (yielded ops (fillOps vs ops.toList 0 a₀).tmps) = true then o.wp P (fillOps vs ops.toList 0 a₀) w K Q else K ((fillOps vs ops.toList 0 a₀).put o.dst undef) w) :
    ∀ (fuel : Nat) (listed : Array Bool) (vs : Nat → Value) (w : World), listed.size = ops.size → unlisted ops.size listed ≤ fuel → Closed .any ops listed → listed.getD Rs.length false = false → C w → (∀ (j : Nat) (R : Value → World → Prop), listed.getD j false = true → Rs[j]? = some R → R (vs j) w) →
      wpAny P .any ops Q fuel listed (fillOps vs ops.toList 0 a₀) w := by
  intro fuel
  induction fuel with
  | zero =>
    intro listed vs w hs hu hcl hn hC hR
    have : unlisted ops.size (listed.setIfInBounds Rs.length true) < unlisted ops.size listed := unlisted_set (by omega) hs hn
    omega
  | succ fuel ih =>
    intro listed vs w hs hu hcl hn hC hR
    refine ⟨fun hr => ?_, fun i hi => ?_⟩
    · have := listed_ready hdn hs hr Rs.length (by omega)
      rw [hn] at this; cases this
    obtain ⟨h0, o, ho, hall⟩ := mem_ready.1 hi
    have hisz : i < ops.size := (Array.getElem?_eq_some_iff.1 ho).1
    have hil : i < listed.size := by omega
    have h0' : listed.getD i false = false := by simp only [Array.getD, hil, ↓reduceDIte] at h0 ⊢; exact h0
    by_cases hin : i = Rs.length
    · have hall' : ∀ j, j < Rs.length → listed.getD j false = true := fun j hj => by
        refine ahead_listed hcl ops.size i j (fun o' ho' => by rw [ho] at ho'; cases ho'; exact hall) ?_
        rw [hin]; exact List.all_eq_true.1 hah j (List.mem_range.2 hj)
      have hstep := hlast o (by rw [← hin]; exact ho) vs w hC (fun j R hj => hR j R (hall' j (List.getElem?_eq_some_iff.1 hj).1) hj)
        (wpAny P .any ops Q fuel (listed.setIfInBounds i true)) (fun a' w' hq => by
          have hfull : ∀ j, j ∉ Region.ready .any ops (listed.setIfInBounds i true) := fun j hj => by
            obtain ⟨g0, o', ho', _⟩ := mem_ready.1 hj
            have hjs : j < ops.size := (Array.getElem?_eq_some_iff.1 ho').1
            have hjl : j < (listed.setIfInBounds i true).size := by simp; omega
            have g0' : (listed.setIfInBounds i true).getD j false = false := by simp only [Array.getD, hjl, ↓reduceDIte] at g0 ⊢; exact g0
            by_cases hji : j = i
            · subst hji; simp [hil] at g0'
            · rw [getD_set_ne false (Ne.symm hji), hall' j (by omega)] at g0'; cases g0'
          have hnil : Region.ready .any ops (listed.setIfInBounds i true) = [] := List.eq_nil_iff_forall_not_mem.2 hfull
          cases fuel with
          | zero => exact ⟨hnil, hq⟩
          | succ fuel => exact ⟨fun _ => hq, fun j hj => absurd hj (hfull j)⟩)
      unfold wpOp
      simp only [ho]
      split
      · rename_i hw; rw [if_pos hw] at hstep; exact .inl hstep
      · rename_i hw; rw [if_neg hw] at hstep; exact hstep
    obtain ⟨R, hRi⟩ : ∃ R, Rs[i]? = some R := ⟨Rs[i]'(by omega), List.getElem?_eq_getElem (by omega)⟩
    have hstep := hop i o R ho hRi vs w hC (fun j' R' ha _ hR' => hR j' R' (ahead_listed hcl ops.size i j' (fun o' ho' => by rw [ho] at ho'; cases ho'; exact hall) ha) hR')
      (wpAny P .any ops Q fuel (listed.setIfInBounds i true)) (fun a' v w' ha hRv hC' hT => by
        rw [ha, fillOps_upd ops.toList 0 a₀ vs i o v hap (by simpa using ho), Nat.zero_add]
        refine ih _ _ _ (by simpa using hs) ?_ ?_ ?_ hC' ?_
        · have := unlisted_set hisz hs h0'; omega
        · intro j oj hoj hj e he hb
          by_cases hji : j = i
          · subst hji; rw [ho] at hoj; cases hoj; exact getD_set_true (hall e he hb)
          · rw [getD_set_ne false (Ne.symm hji)] at hj; exact getD_set_true (hcl j oj hoj hj e he hb)
        · rw [getD_set_ne false (fun h => hin h)]; exact hn
        · intro j R' hj hR'
          by_cases hji : j = i
          · subst hji; rw [hRi] at hR'; cases hR'; simpa [upd] using hRv
          · rw [getD_set_ne false (Ne.symm hji)] at hj
            have := hst j R' hR' _ _ _ (hR j R' hj hR') hT
            simpa [upd, hji] using this)
    unfold wpOp
    simp only [ho]
    split
    · rename_i hw; rw [if_pos hw] at hstep; exact .inl hstep
    · rename_i hw; rw [if_neg hw] at hstep; exact hstep

/-- The region. -/
theorem wp_region_factsT {id : Nat} {a : Act} {w : World} {l : List Oper} (C : World → Prop) (T : World → World → Prop) (hm : P.follows .mixedOrders = true) (hap : dstsApart l = true) (hdn : edgesDown .any l.toArray = true) (hah : allAhead l.toArray (l.length - 1) = true)
    (hC : C w.drew) (h : wpFactsT P l.toArray Q C T (fun vs => fillOps vs l 0 a) 0 l []) : (Code.region id l.toArray true).wp P Q a w := by
  refine wp_region_any hm ?_
  obtain ⟨Rs, h1, h2, h3, h4⟩ := wpFactsT_all (ops := l.toArray) l 0 [] (by simp) rfl (by simp) (by simp) h
  obtain ⟨vs, hvs⟩ : ∃ vs : Nat → Value, ∀ i o t, l[i]? = some o → o.dst = some t → vs (0 + i) = a.tmps.getD t undef :=
    ⟨fun i => match (l[i]?).bind (·.dst) with | some t => a.tmps.getD t undef | none => undef, fun i o t hi ht => by simp [hi, ht]⟩
  have hl1 : Rs.length = l.length - 1 := by have h1' : Rs.length + 1 = l.length := by simpa using h1
                                            omega
  have := wpAny_factsT (P := P) (Q := Q) (ops := l.toArray) (C := C) (T := T) (a₀ := a) hap hdn Rs h1 (by rw [hl1]; exact hah) h2 h3 h4 l.toArray.size (Array.replicate l.toArray.size false) vs w.drew (by simp)
    (Nat.le_trans (List.length_filter_le _ _) (by simp)) (fun j o hj hl => by simp [Array.getD] at hl) (by simp [Array.getD]) hC (fun j R hl => by simp [Array.getD] at hl)
  rwa [fillOps_self vs _ 0 a (by simpa using hvs)] at this

theorem wpFactsT_last {C : World → Prop} {T : World → World → Prop} {fr : (Nat → Value) → Act} {k : Nat} {o : Oper} {Rs : List (Value → World → Prop)} (h : ∀ vs w, C w → (∀ (j : Nat) (R : Value → World → Prop), Rs[j]? = some R → R (vs j) w) → ∀ K : Act → World → Prop, (∀ a' w', Q .normal a' w' → K a' w') →
      if Region.wanted o (yielded ops (fr vs).tmps) = true then o.wp P (fr vs) w K Q else K ((fr vs).put o.dst undef) w) : wpFactsT P ops Q C T fr k [o] Rs := .inl ⟨rfl, h⟩
/-- An operation with one value. -/
theorem wpFactsT_val {C : World → Prop} {T : World → World → Prop} {fr : (Nat → Value) → Act} {k : Nat} {o : Oper} {l : List Oper} {Rs : List (Value → World → Prop)} (V : Value)
    (h1 : ∀ vs w, C w → (∀ (j : Nat) (R' : Value → World → Prop), ahead .any ops ops.size k j = true → Rs[j]? = some R' → R' (vs j) w) → ∀ K : Act → World → Prop, (∀ a' w', a' = (fr vs).put o.dst V → C w' → T w w' → K a' w') →
      if Region.wanted o (yielded ops (fr vs).tmps) = true then o.wp P (fr vs) w K Q else K ((fr vs).put o.dst undef) w)
    (h2 : wpFactsT P ops Q C T fr (k + 1) l (Rs ++ [fun v _ => v = V])) : wpFactsT P ops Q C T fr k (o :: l) Rs :=
  .inr ⟨fun v _ => v = V, fun _ _ _ h _ => h, fun vs w hC hB K hK => h1 vs w hC hB K fun a' w' ha hC' hT => hK a' V w' ha rfl hC' hT, h2⟩
/-- An operation whose value has a property. -/
theorem wpFactsT_some {C : World → Prop} {T : World → World → Prop} {fr : (Nat → Value) → Act} {k : Nat} {o : Oper} {l : List Oper} {Rs : List (Value → World → Prop)} (R : Value → World → Prop) (hR : ∀ v w w', R v w → T w w' → R v w')
    (h1 : ∀ vs w, C w → (∀ (j : Nat) (R' : Value → World → Prop), ahead .any ops ops.size k j = true → Rs[j]? = some R' → R' (vs j) w) → ∀ K : Act → World → Prop, (∀ a' v w', a' = (fr vs).put o.dst v → R v w' → C w' → T w w' → K a' w') →
      if Region.wanted o (yielded ops (fr vs).tmps) = true then o.wp P (fr vs) w K Q else K ((fr vs).put o.dst undef) w)
    (h2 : wpFactsT P ops Q C T fr (k + 1) l (Rs ++ [R])) : wpFactsT P ops Q C T fr k (o :: l) Rs :=
  .inr ⟨R, hR, h1, h2⟩
end
end Go.Proofs.Ytdiojhjkcholiaa

/- The reference's copy of an office. (Printed by gen_specown.py) -/
namespace Go.Proofs.Ytdiojhjkcholiaa
open Go.RowKit

/-- 'append([]T{}, xs...)' as one operation of a drawn region: no older block turns. -/
theorem stepCat {P : Program} {ops : Array Oper} {tm : Array Value} {o : Oper} {a : Act} {w : World} {K : Act → World → Prop} {Q : Exit → Act → World → Prop} {E : Prop}
    (hg : o.guard = none) (s x : Operand) (t : TypeId) (ho : o.op = .call { callee := .builtin .append, args := #[s, x], argTypes := #[t, t] })
    (e : TypeId) (z : Value) (k bytes : Nat) (ht : P.underlying t = some (.slice e)) (hinfo : (P.info? e).map (fun i => (i.zero, i.size, i.bytes)) = some (some z, k, bytes)) (hzs : z.cells.size = k) (hsz : 0 < k) (hby : bytes ≤ 1000)
    (B g : Nat) (hs : a.eval s = .slice (some ⟨g, 0, none⟩) 0 0) (hL : Lies w g e []) (hB : B ≤ g)
    (S : Nat) (A : Option Addr) (m c : Nat) (cs : List Value) (hx : a.eval x = .slice A m c) (hr : SlcR w S k A m cs) (h1 : ∀ u ∈ cs, u.oneCell' = true) (hm : m ≤ 1000000)
    (h : ∀ v' w', w'.ownsRow B e k v' m cs → Below w.heap.size w w' → K (a.put o.dst v') w') : if Region.wanted o (yielded ops tm) = true then o.wp P a w K Q else E := by
  have hw : ∀ tm : Array Value, Region.wanted o (yielded ops tm) = true := fun tm => by simp [Region.wanted, hg]
  rw [if_pos (hw _)]
  obtain ⟨i, hi, hz, hs', hb⟩ := info_parts hinfo
  have hbytes : (0 + m) * bytes ≤ 140737488355328 := by have := Nat.mul_le_mul (show 0 + m ≤ 1000000 by omega) hby; omega
  have hlt := hL.lt
  rcases Nat.eq_zero_or_pos m with h0 | h0
  · subst h0
    have hc0 : cs = [] := List.eq_nil_of_length_eq_zero (by simpa using hr.len)
    subst hc0
    have hown : w.ownsRow B e k (.slice (some ⟨g, 0, none⟩) 0 0) 0 [] := owns_empty hL hB
    have hrun : (Builtin.append_ #[t, t] o.type #[.slice (some ⟨g, 0, none⟩) 0 0, .slice A 0 c]).run P w = .ok (.slice (some ⟨g, 0, none⟩) 0 0) w := by
      rcases A with _ | ad
      · exact run_cat_nil w B t o.type e i k ht hi _ 0 [] hown c
      · simp [Builtin.append_, run_underlying ht, sizeOf, typeInfo, hi, Builtin.lenOf, Builtin.firstCells, loadCells, loadCellsFrom, storeCells]
    unfold Oper.wp execOp
    simp only [ho, resolve, invoke, builtin, Sem.run_bind, Sem.run_pure, Result.andThen_ok, List.map_toArray, List.map_cons, List.map_nil, hs, hx, hrun]
    exact h _ _ hown (Below.refl _ _)
  · obtain ⟨b, off, rfl, hlt', hcell⟩ := hr.at_ h0
    have key := step_append_grows (P := P) (ops := ops) (a := a) (w := w) (K := K) (Q := Q) (E := E) hg s x t ho e i z k bytes ht hi hz hs' hb hzs hsz (some ⟨g, 0, none⟩) 0 0 [] hs (by simp) (by simp) (by simp) ⟨b, off, none⟩ m c cs hx hr.len (fun j u hu => by rw [addr_add]; exact hcell j u hu) h1 (by omega) (by unfold maxLen; omega) hbytes (fun v' w' h2 h3 => by
      rw [Nat.zero_add, List.nil_append] at h2
      exact h v' w' (ownsRow_lower h2 (by omega)) ((Below.refl _ _).grown h3 (Nat.le_refl _) (fun j hj => by cases hj)))
    rw [if_pos (hw _)] at key
    exact key

/-- An office like x that owns its rows. -/
def GivesOff (w : World) (y : Oc) (e : Ending) (w' : World) : Prop :=
  ∃ TA tc OA oc, e = .returned (y.at TA tc OA oc).val ∧ w'.ownsRow w.heap.size 74 2 (.slice TA y.t.length tc) y.t.length (y.t.flatMap Tray.enc) ∧ w'.ownsRow w.heap.size 100 3 (.slice OA y.o.length oc) y.o.length (y.o.flatMap Outing.enc) ∧ Below w.heap.size w w'
theorem ne_owt : 74 ≠ 25 := by decide
theorem ne_owo : 100 ≠ 25 := by decide

set_option maxRecDepth 100000 in
set_option maxHeartbeats 4000000 in
theorem l32Own_any (x : Off) (w : World) (h : OffR w w.heap.size x) (tl : x.t.length ≤ 1000000) (ol : x.o.length ≤ 1000000) :
    Calls Try.prog 54 #[x.val] w (GivesOff w x.c) := by
  have L1 := (Lies.new w 25 #[.slice x.TA x.t.length x.tc, .slice x.OA x.o.length x.oc, .int .i64 x.got, .int .i64 x.sold, .int .i64 x.missed]).alloc (.cells #[.slice none 0 0, .slice none 0 0, .int .i64 0, .int .i64 0, .int .i64 0] 25)
  have L2 := Lies.new1 w (.cells #[.slice x.TA x.t.length x.tc, .slice x.OA x.o.length x.oc, .int .i64 x.got, .int .i64 x.sold, .int .i64 x.missed] 25) 25 #[.slice none 0 0, .slice none 0 0, .int .i64 0, .int .i64 0, .int .i64 0]
  have b1 := (Below.refl w.heap.size w).alloc (Nat.le_refl _) (.cells #[.slice x.TA x.t.length x.tc, .slice x.OA x.o.length x.oc, .int .i64 x.got, .int .i64 x.sold, .int .i64 x.missed] 25)
  have b2 := b1.alloc b1.size (.cells #[.slice none 0 0, .slice none 0 0, .int .i64 0, .int .i64 0, .int .i64 0] 25)
  clear b1
  go_enter Try.func54, Try.ntmps54
  go_wp2_with fail
  generalize ((w.alloc (.cells #[.slice x.TA x.t.length x.tc, .slice x.OA x.o.length x.oc, .int .i64 x.got, .int .i64 x.sold, .int .i64 x.missed] 25)).alloc (.cells #[.slice none 0 0, .slice none 0 0, .int .i64 0, .int .i64 0, .int .i64 0] 25)) = W at L1 L2 b2 ⊢
  have hR := h.up b2 (Nat.le_refl _)
  have hT := hR.ts
  have hO := hR.os
  have l1 := L1.lt
  have l2 := L2.lt
  clear h hR
  refine wp_region_factsT (fun W9 => Below W.heap.size W W9) (fun w1 w2 => Below w1.heap.size w1 w2) (by kernel_rfl) (by kernel_rfl) (by kernel_rfl) (by kernel_rfl) (Below.refl _ _).drew ?_
  simp only [fillOps, Act.put, List.setIfInBounds_toArray, List.set_cons_zero, List.set_cons_succ, Nat.zero_add, Nat.reduceAdd]
  refine wpFactsT_some (fun v w9 => ∃ g, v = .slice (some ⟨g, 0, none⟩) 0 0 ∧ w.heap.size ≤ g ∧ Lies w9 g 74 []) (fun v w1 w2 hv hT' => by obtain ⟨g, e, hg, hl⟩ := hv; exact ⟨g, e, hg, hl.below hT' hl.lt⟩) (fun vs w9 hC9 hB K9 hK9 => ?_) ?_
  · go_simp
    exact hK9 _ _ _ rfl ⟨_, rfl, Nat.le_trans b2.size hC9.size, Lies.new w9 74 #[]⟩ (hC9.alloc hC9.size _) ((Below.refl _ _).alloc (Nat.le_refl _) _)
  refine wpFactsT_val (.pointer (some ⟨w.heap.size, 0, none⟩)) (fun vs w9 hC9 hB K9 hK9 => ?_) ?_
  · go_simp
    exact hK9 _ _ rfl hC9 (Below.refl _ _)
  refine wpFactsT_val (.slice x.TA x.t.length x.tc) (fun vs w9 hC9 hB K9 hK9 => ?_) ?_
  · have hd := hB 1 _ (by kernel_rfl) rfl
    simp only [hd] at hK9 ⊢
    have q1 : w9.cell? ⟨w.heap.size, 0, none⟩ = some (.slice x.TA x.t.length x.tc) := (L1.below hC9 L1.lt).cell 0
    go_simp
    exact hK9 _ _ rfl hC9 (Below.refl _ _)
  refine wpFactsT_some (fun v w9 => ∃ A c, v = .slice A x.t.length c ∧ w9.ownsRow w.heap.size 74 2 (.slice A x.t.length c) x.t.length (x.t.flatMap Tray.enc)) (fun v w1 w2 hv hT' => by obtain ⟨A, c, e, ho⟩ := hv; exact ⟨A, c, e, ownsRow_below ho hT'⟩) (fun vs w9 hC9 hB K9 hK9 => ?_) ?_
  · obtain ⟨g, e0, hg, hl⟩ := hB 0 _ (by kernel_rfl) rfl
    have hd := hB 2 _ (by kernel_rfl) rfl
    simp only [e0, hd] at hK9 ⊢
    refine stepCat rfl (.tmp 3) (.tmp 5) 22 rfl 74 _ 2 16 Try.underlying22 infoTray rfl (by omega) (by omega) w.heap.size g (by rfl) hl hg W.heap.size x.TA x.t.length x.tc (x.t.flatMap Tray.enc) (by rfl) (SlcR.below hT hC9) tray_cells tl ?_
    intro v' w' ho hb
    obtain ⟨A', c', rfl⟩ := ownsRow_slice ho
    exact hK9 _ _ _ rfl ⟨A', c', rfl, ho⟩ (hC9.trans (hb.mono hC9.size)) hb
  refine wpFactsT_some (fun v w9 => ∃ g, v = .slice (some ⟨g, 0, none⟩) 0 0 ∧ w.heap.size ≤ g ∧ Lies w9 g 100 []) (fun v w1 w2 hv hT' => by obtain ⟨g, e, hg, hl⟩ := hv; exact ⟨g, e, hg, hl.below hT' hl.lt⟩) (fun vs w9 hC9 hB K9 hK9 => ?_) ?_
  · go_simp
    exact hK9 _ _ _ rfl ⟨_, rfl, Nat.le_trans b2.size hC9.size, Lies.new w9 100 #[]⟩ (hC9.alloc hC9.size _) ((Below.refl _ _).alloc (Nat.le_refl _) _)
  refine wpFactsT_val (.pointer (some ⟨w.heap.size, 1, none⟩)) (fun vs w9 hC9 hB K9 hK9 => ?_) ?_
  · go_simp
    exact hK9 _ _ rfl hC9 (Below.refl _ _)
  refine wpFactsT_val (.slice x.OA x.o.length x.oc) (fun vs w9 hC9 hB K9 hK9 => ?_) ?_
  · have hd := hB 5 _ (by kernel_rfl) rfl
    simp only [hd] at hK9 ⊢
    have q1 : w9.cell? ⟨w.heap.size, 1, none⟩ = some (.slice x.OA x.o.length x.oc) := (L1.below hC9 L1.lt).cell 1
    go_simp
    exact hK9 _ _ rfl hC9 (Below.refl _ _)
  refine wpFactsT_some (fun v w9 => ∃ A c, v = .slice A x.o.length c ∧ w9.ownsRow w.heap.size 100 3 (.slice A x.o.length c) x.o.length (x.o.flatMap Outing.enc)) (fun v w1 w2 hv hT' => by obtain ⟨A, c, e, ho⟩ := hv; exact ⟨A, c, e, ownsRow_below ho hT'⟩) (fun vs w9 hC9 hB K9 hK9 => ?_) ?_
  · obtain ⟨g, e0, hg, hl⟩ := hB 4 _ (by kernel_rfl) rfl
    have hd := hB 6 _ (by kernel_rfl) rfl
    simp only [e0, hd] at hK9 ⊢
    refine stepCat rfl (.tmp 7) (.tmp 9) 23 rfl 100 _ 3 24 Try.underlying23 infoOuting rfl (by omega) (by omega) w.heap.size g (by rfl) hl hg W.heap.size x.OA x.o.length x.oc (x.o.flatMap Outing.enc) (by rfl) (SlcR.below hO hC9) outing_cells ol ?_
    intro v' w' ho hb
    obtain ⟨A', c', rfl⟩ := ownsRow_slice ho
    exact hK9 _ _ _ rfl ⟨A', c', rfl, ho⟩ (hC9.trans (hb.mono hC9.size)) hb
  refine wpFactsT_val (.pointer (some ⟨w.heap.size, 2, none⟩)) (fun vs w9 hC9 hB K9 hK9 => ?_) ?_
  · go_simp
    exact hK9 _ _ rfl hC9 (Below.refl _ _)
  refine wpFactsT_val (.int .i64 x.got) (fun vs w9 hC9 hB K9 hK9 => ?_) ?_
  · have hd := hB 8 _ (by kernel_rfl) rfl
    simp only [hd] at hK9 ⊢
    have q1 : w9.cell? ⟨w.heap.size, 2, none⟩ = some (.int .i64 x.got) := (L1.below hC9 L1.lt).cell 2
    go_simp
    exact hK9 _ _ rfl hC9 (Below.refl _ _)
  refine wpFactsT_val (.pointer (some ⟨w.heap.size, 3, none⟩)) (fun vs w9 hC9 hB K9 hK9 => ?_) ?_
  · go_simp
    exact hK9 _ _ rfl hC9 (Below.refl _ _)
  refine wpFactsT_val (.int .i64 x.sold) (fun vs w9 hC9 hB K9 hK9 => ?_) ?_
  · have hd := hB 10 _ (by kernel_rfl) rfl
    simp only [hd] at hK9 ⊢
    have q1 : w9.cell? ⟨w.heap.size, 3, none⟩ = some (.int .i64 x.sold) := (L1.below hC9 L1.lt).cell 3
    go_simp
    exact hK9 _ _ rfl hC9 (Below.refl _ _)
  refine wpFactsT_val (.pointer (some ⟨w.heap.size, 4, none⟩)) (fun vs w9 hC9 hB K9 hK9 => ?_) ?_
  · go_simp
    exact hK9 _ _ rfl hC9 (Below.refl _ _)
  refine wpFactsT_val (.int .i64 x.missed) (fun vs w9 hC9 hB K9 hK9 => ?_) ?_
  · have hd := hB 12 _ (by kernel_rfl) rfl
    simp only [hd] at hK9 ⊢
    have q1 : w9.cell? ⟨w.heap.size, 4, none⟩ = some (.int .i64 x.missed) := (L1.below hC9 L1.lt).cell 4
    go_simp
    exact hK9 _ _ rfl hC9 (Below.refl _ _)
  refine wpFactsT_some (fun v w9 => ∃ A c A' c', v = .agg #[.slice A x.t.length c, .slice A' x.o.length c', .int .i64 x.got, .int .i64 x.sold, .int .i64 x.missed] ∧ w9.ownsRow w.heap.size 74 2 (.slice A x.t.length c) x.t.length (x.t.flatMap Tray.enc) ∧ w9.ownsRow w.heap.size 100 3 (.slice A' x.o.length c') x.o.length (x.o.flatMap Outing.enc))
    (fun v w1 w2 hv hT' => by obtain ⟨A, c, A', c', e, ho, hp⟩ := hv; exact ⟨A, c, A', c', e, ownsRow_below ho hT', ownsRow_below hp hT'⟩) (fun vs w9 hC9 hB K9 hK9 => ?_) ?_
  · obtain ⟨A, c, e3, ho⟩ := hB 3 _ (by kernel_rfl) rfl
    obtain ⟨A', c', e7, hp⟩ := hB 7 _ (by kernel_rfl) rfl
    have d9 := hB 9 _ (by kernel_rfl) rfl
    have d11 := hB 11 _ (by kernel_rfl) rfl
    have d13 := hB 13 _ (by kernel_rfl) rfl
    have ho := Lib.hid ho
    have hp := Lib.hid hp
    simp only [e3, e7, d9, d11, d13] at hK9 ⊢
    go_simp
    exact hK9 _ _ _ rfl ⟨A, c, A', c', rfl, ho.out, hp.out⟩ hC9 (Below.refl _ _)
  refine wpFactsT_last (fun vs w9 hC9 hB K9 hK9 => ?_)
  obtain ⟨A, c, A', c', e14, ho, hp⟩ := hB 14 _ rfl
  simp only [e14] at hK9 ⊢
  have L2z := L2.below hC9 L2.lt
  have z0 := L2z.cell 0
  have z1 := L2z.cell 1
  have z2 := L2z.cell 2
  have z3 := L2z.cell 3
  have z4 := L2z.cell 4
  have f0 := L2z.frozen 0
  have f1 := L2z.frozen 1
  have f2 := L2z.frozen 2
  have f3 := L2z.frozen 3
  have f4 := L2z.frozen 4
  simp only [List.getElem?_cons_zero, List.getElem?_cons_succ] at z0 z1 z2 z3 z4
  have hgr := (grown_set (g := w.heap.size + 1) (i := 4) (u := .int .i64 x.missed) (grown_set (g := w.heap.size + 1) (i := 3) (u := .int .i64 x.sold) (grown_set (g := w.heap.size + 1) (i := 2) (u := .int .i64 x.got) (grown_set (g := w.heap.size + 1) (i := 1) (u := .slice A' x.o.length c') (grown_set (g := w.heap.size + 1) (i := 0) (u := .slice A x.t.length c) (World.grownBy.refl w9 (some (w.heap.size + 1))))))))
  have bw := b2.trans (hC9.mono b2.size)
  have bz := bw.grown hgr bw.size (by rintro _ ⟨⟩; omega)
  have R8 := Lib.hid (ownsRow_keptG ho L2z ne_owt hgr)
  have R9 := Lib.hid (ownsRow_keptG hp L2z ne_owo hgr)
  clear hgr ho hp hB L2z
  go_simp
  refine hK9 _ _ ?_
  clear hK9 K9
  go_wp2
  refine bodyPost_ret (v := .agg #[.slice A x.t.length c, .slice A' x.o.length c', .int .i64 x.got, .int .i64 x.sold, .int .i64 x.missed]) (by simp [results, Try.results54, go_sem, *]) rfl ?_
  exact ⟨A, c, A', c', rfl, R8.out, R9.out, bz⟩
end Go.Proofs.Ytdiojhjkcholiaa
