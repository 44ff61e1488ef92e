/- Fo04: the texts StepI StepC StepD SpecP Cur CurEnv Facts, joined into one file. -/
import Derived.Laws.BitsAllLaws
import Derived.WalkKit
import Derived.Orders
import Derived.Deep.Draws
import Derived.Test.YtdiojhjkcholiaaFo01
import Derived.Test.YtdiojhjkcholiaaFo03

/- Steps of an office in the program: its own copy. -/
namespace Go.Proofs.Ytdiojhjkcholiaa
open Go.RowKit

/-- An office of the call's own lies in block g. -/
structure OffOwn (w : World) (B g : Nat) (vt vo : Value) (y : Oc) : Prop where
  lies : Lies w g 25 [vt, vo, .int .i64 y.got, .int .i64 y.sold, .int .i64 y.missed]
  hg : B ≤ g
  t : w.ownsRow B 74 2 vt y.t.length (y.t.flatMap Tray.enc)
  o : w.ownsRow B 100 3 vo y.o.length (y.o.flatMap Outing.enc)
theorem ne_TO : 74 ≠ 25 := by decide
theorem ne_OO : 100 ≠ 25 := by decide
theorem ne_OT : 100 ≠ 74 := by decide

set_option maxRecDepth 100000 in
set_option maxHeartbeats 4000000 in
theorem copyOffice_any (x : Off) (g : Nat) (w : World) (h : OffAt w w.heap.size g x) (tl : x.t.length ≤ 1000000) (ol : x.o.length ≤ 1000000) :
    Calls Try.prog 55 #[.pointer (some ⟨g, 0, none⟩)] w fun e w' => ∃ TA tc OA oc, e = .returned (Off.val (x.c.at TA tc OA oc)) ∧ w'.ownsRow w.heap.size 74 2 (.slice TA x.t.length tc) x.t.length (x.t.flatMap Tray.enc) ∧ w'.ownsRow w.heap.size 100 3 (.slice OA x.o.length oc) x.o.length (x.o.flatMap Outing.enc) ∧ Below w.heap.size w w' := by
  have b1 := (Below.refl w.heap.size w).alloc (Nat.le_refl _) (.cells #[.slice none 0 0, .slice none 0 0, .int .i64 0, .int .i64 0, .int .i64 0] 25)
  have L1 := Lies.new w 25 #[.slice none 0 0, .slice none 0 0, .int .i64 0, .int .i64 0, .int .i64 0]
  have hA := h.then b1 b1.size
  go_enter Try.func55, Try.ntmps55
  go_wp2
  generalize w.alloc (.cells #[.slice none 0 0, .slice none 0 0, .int .i64 0, .int .i64 0, .int .i64 0] 25) = W at b1 L1 hA ⊢
  have cT : ∀ W', Below W.heap.size W W' → Calls Try.prog 88 #[.slice x.TA x.t.length x.tc] W' (fun e w' => ∃ A c, e = .returned (.slice A x.t.length c) ∧ w'.ownsRow w.heap.size 74 2 (.slice A x.t.length c) x.t.length (x.t.flatMap Tray.enc) ∧ Below W'.heap.size W' w' ∧ Below W.heap.size W w') := fun W' hb =>
    (cloneTray_any x.TA x.tc x.t W' (hA.r.up hb (Nat.le_refl _)).ts tl).mono fun e w' ⟨A, c, he, ho, hb'⟩ => ⟨A, c, he, ownsRow_lower ho (Nat.le_trans b1.size hb.size), hb', bthen hb hb'⟩
  have cO : ∀ W', Below W.heap.size W W' → Calls Try.prog 89 #[.slice x.OA x.o.length x.oc] W' (fun e w' => ∃ A c, e = .returned (.slice A x.o.length c) ∧ w'.ownsRow w.heap.size 100 3 (.slice A x.o.length c) x.o.length (x.o.flatMap Outing.enc) ∧ Below W'.heap.size W' w' ∧ Below W.heap.size W w') := fun W' hb =>
    (cloneOuting_any x.OA x.oc x.o W' (hA.r.up hb (Nat.le_refl _)).os ol).mono fun e w' ⟨A, c, he, ho, hb'⟩ => ⟨A, c, he, ownsRow_lower ho (Nat.le_trans b1.size hb.size), hb', bthen hb hb'⟩
  have HK0 : ∀ W', Below w.heap.size w W' → (Below w.heap.size w W' ∧ W'.cell? ⟨g, 0, none⟩ = some (.slice x.TA x.t.length x.tc) ∧ W'.cell? ⟨g, 1, none⟩ = some (.slice x.OA x.o.length x.oc) ∧ W'.cell? ⟨g, 2, none⟩ = some (.int .i64 x.got) ∧ W'.cell? ⟨g, 3, none⟩ = some (.int .i64 x.sold) ∧ W'.cell? ⟨g, 4, none⟩ = some (.int .i64 x.missed)) := fun W' hb =>
    ⟨hb, h.s.c0 ⟨W', hb⟩, h.s.c1 ⟨W', hb⟩, h.s.c2 ⟨W', hb⟩, h.s.c3 ⟨W', hb⟩, h.s.c4 ⟨W', hb⟩⟩
  have HK : ∀ W', Below W.heap.size W W' → (Below w.heap.size w W' ∧ W'.cell? ⟨g, 0, none⟩ = some (.slice x.TA x.t.length x.tc) ∧ W'.cell? ⟨g, 1, none⟩ = some (.slice x.OA x.o.length x.oc) ∧ W'.cell? ⟨g, 2, none⟩ = some (.int .i64 x.got) ∧ W'.cell? ⟨g, 3, none⟩ = some (.int .i64 x.sold) ∧ W'.cell? ⟨g, 4, none⟩ = some (.int .i64 x.missed)) := fun W' hb => HK0 W' (b1.trans (hb.mono b1.size))
  have HKs : ∀ W' (u0 u1 u2 u3 u4 : Value), Below W.heap.size W W' → (Below w.heap.size w (((((W'.setCell ⟨w.heap.size, 0, none⟩ u0).setCell ⟨w.heap.size, 1, none⟩ u1).setCell ⟨w.heap.size, 2, none⟩ u2).setCell ⟨w.heap.size, 3, none⟩ u3).setCell ⟨w.heap.size, 4, none⟩ u4) ∧ (((((W'.setCell ⟨w.heap.size, 0, none⟩ u0).setCell ⟨w.heap.size, 1, none⟩ u1).setCell ⟨w.heap.size, 2, none⟩ u2).setCell ⟨w.heap.size, 3, none⟩ u3).setCell ⟨w.heap.size, 4, none⟩ u4).cell? ⟨g, 0, none⟩ = some (.slice x.TA x.t.length x.tc) ∧ (((((W'.setCell ⟨w.heap.size, 0, none⟩ u0).setCell ⟨w.heap.size, 1, none⟩ u1).setCell ⟨w.heap.size, 2, none⟩ u2).setCell ⟨w.heap.size, 3, none⟩ u3).setCell ⟨w.heap.size, 4, none⟩ u4).cell? ⟨g, 1, none⟩ = some (.slice x.OA x.o.length x.oc) ∧ (((((W'.setCell ⟨w.heap.size, 0, none⟩ u0).setCell ⟨w.heap.size, 1, none⟩ u1).setCell ⟨w.heap.size, 2, none⟩ u2).setCell ⟨w.heap.size, 3, none⟩ u3).setCell ⟨w.heap.size, 4, none⟩ u4).cell? ⟨g, 2, none⟩ = some (.int .i64 x.got) ∧ (((((W'.setCell ⟨w.heap.size, 0, none⟩ u0).setCell ⟨w.heap.size, 1, none⟩ u1).setCell ⟨w.heap.size, 2, none⟩ u2).setCell ⟨w.heap.size, 3, none⟩ u3).setCell ⟨w.heap.size, 4, none⟩ u4).cell? ⟨g, 3, none⟩ = some (.int .i64 x.sold) ∧ (((((W'.setCell ⟨w.heap.size, 0, none⟩ u0).setCell ⟨w.heap.size, 1, none⟩ u1).setCell ⟨w.heap.size, 2, none⟩ u2).setCell ⟨w.heap.size, 3, none⟩ u3).setCell ⟨w.heap.size, 4, none⟩ u4).cell? ⟨g, 4, none⟩ = some (.int .i64 x.missed)) := fun W' u0 u1 u2 u3 u4 hb => HK0 _ ((b1.trans (hb.mono b1.size)).grown (grown_set (grown_set (grown_set (grown_set (grown_set (World.grownBy.refl W' (some w.heap.size))))))) (Nat.le_trans b1.size hb.size) (by rintro _ ⟨⟩; exact Nat.le_refl _))
  have HZ : ∀ W', Below W.heap.size W W' → (W'.cell? ⟨w.heap.size, 0, none⟩ = some (.slice none 0 0) ∧ W'.cell? ⟨w.heap.size, 1, none⟩ = some (.slice none 0 0) ∧ W'.cell? ⟨w.heap.size, 2, none⟩ = some (.int .i64 0) ∧ W'.cell? ⟨w.heap.size, 3, none⟩ = some (.int .i64 0) ∧ W'.cell? ⟨w.heap.size, 4, none⟩ = some (.int .i64 0) ∧
      W'.frozen? ⟨w.heap.size, 0, none⟩ = false ∧ W'.frozen? ⟨w.heap.size, 1, none⟩ = false ∧ W'.frozen? ⟨w.heap.size, 2, none⟩ = false ∧ W'.frozen? ⟨w.heap.size, 3, none⟩ = false ∧ W'.frozen? ⟨w.heap.size, 4, none⟩ = false) := fun W' hb =>
    have L := L1.below hb L1.lt
    ⟨L.cell 0, L.cell 1, L.cell 2, L.cell 3, L.cell 4, L.frozen 0, L.frozen 1, L.frozen 2, L.frozen 3, L.frozen 4⟩
  have HL1 := Lib.hid L1; clear L1
  have HB1 := Lib.hid b1; clear b1
  clear hA h
  go_region_held3 (fun W' => (Below w.heap.size w W' ∧ W'.cell? ⟨g, 0, none⟩ = some (.slice x.TA x.t.length x.tc) ∧ W'.cell? ⟨g, 1, none⟩ = some (.slice x.OA x.o.length x.oc) ∧ W'.cell? ⟨g, 2, none⟩ = some (.int .i64 x.got) ∧ W'.cell? ⟨g, 3, none⟩ = some (.int .i64 x.sold) ∧ W'.cell? ⟨g, 4, none⟩ = some (.int .i64 x.missed))) (first | exact HK _ (Below.refl _ _).drew | exact HK _ hb9 | exact HK _ hb8 | exact HKs _ _ _ _ _ _ hb9 | exact HKs _ _ _ _ _ _ hb8) (first | (go_at_call 88; (first | (refine (cT _ (Below.refl _ _).drew).mono ?_) | (refine (cT _ hb9).mono ?_)); rintro e w8 ⟨A8, c8, rfl, ho8, hk8, hb8⟩; obtain ⟨z0, z1, z2, z3, z4, f0, f1, f2, f3, f4⟩ := HZ _ hb8) | (go_at_call 89; (first | (refine (cO _ (Below.refl _ _).drew).mono ?_) | (refine (cO _ hb8).mono ?_)); rintro e w9 ⟨A9, c9, rfl, ho9, hk9, hb9⟩; obtain ⟨y0, y1, y2, y3, y4, g0, g1, g2, g3, g4⟩ := HZ _ hb9))
  have hL9 : Lies w9 w.heap.size 25 [.slice none 0 0, .slice none 0 0, .int .i64 0, .int .i64 0, .int .i64 0] := HL1.out.below hb9 HL1.out.lt
  have e0 := (((((hL9.set 0 (.slice A8 x.t.length c8)).set 1 (.slice A9 x.o.length c9)).set 2 (.int .i64 x.got)).set 3 (.int .i64 x.sold)).set 4 (.int .i64 x.missed))
  have hgr := grown_set (g := w.heap.size) (i := 4) (u := .int .i64 x.missed) (grown_set (g := w.heap.size) (i := 3) (u := .int .i64 x.sold) (grown_set (g := w.heap.size) (i := 2) (u := .int .i64 x.got) (grown_set (g := w.heap.size) (i := 1) (u := .slice A9 x.o.length c9) (grown_set (g := w.heap.size) (i := 0) (u := .slice A8 x.t.length c8) (World.grownBy.refl w9 (some w.heap.size))))))
  have r8 := ownsRow_keptG (ownsRow_below ho8 hk9) hL9 ne_TO hgr
  have r9 := ownsRow_keptG ho9 hL9 ne_OO hgr
  have b9 : Below w.heap.size w w9 := HB1.out.trans (hb9.mono HB1.out.size)
  have b10 := b9.grown hgr b9.size (by rintro _ ⟨⟩; exact Nat.le_refl _)
  generalize (((((w9.setCell ⟨w.heap.size, 0, none⟩ (.slice A8 x.t.length c8)).setCell ⟨w.heap.size, 1, none⟩ (.slice A9 x.o.length c9)).setCell ⟨w.heap.size, 2, none⟩ (.int .i64 x.got)).setCell ⟨w.heap.size, 3, none⟩ (.int .i64 x.sold)).setCell ⟨w.heap.size, 4, none⟩ (.int .i64 x.missed)) = W10 at e0 hgr r8 r9 b10 ⊢
  simp only [List.set_cons_zero, List.set_cons_succ] at e0
  have k0 := e0.cell 0
  have k1 := e0.cell 1
  have k2 := e0.cell 2
  have k3 := e0.cell 3
  have k4 := e0.cell 4
  simp only [List.getElem?_cons_zero, List.getElem?_cons_succ] at k0 k1 k2 k3 k4
  have R8 := Lib.hid r8; clear r8
  have R9 := Lib.hid r9; clear r9
  clear z0 z1 z2 z3 z4 f0 f1 f2 f3 f4 y0 y1 y2 y3 y4 g0 g1 g2 g3 g4 ho8 ho9 hgr
  go_wp2
  refine bodyPost_ret (v := Off.val (x.c.at A8 c8 A9 c9)) (by simp [results, Try.results55, go_sem, Oc.at, Off.c, *]) rfl ⟨A8, c8, A9, c9, rfl, R8.out, R9.out, b10⟩
end Go.Proofs.Ytdiojhjkcholiaa

/- Steps of an office in the program: one outing is changed. -/
namespace Go.Proofs.Ytdiojhjkcholiaa
open Go.RowKit

theorem OffOwn.then {w w' : World} {B g : Nat} {vt vo : Value} {y : Oc} (h : OffOwn w B g vt vo y) (hb : Below w.heap.size w w') : OffOwn w' B g vt vo y :=
  ⟨h.lies.below hb h.lies.lt, h.hg, ownsRow_below h.t hb, ownsRow_below h.o hb⟩
theorem flat_take {α : Type} (enc : α → List Value) (k : Nat) (hk : ∀ x, (enc x).length = k) : ∀ (l : List α) (i : Nat), (l.take i).flatMap enc = (l.flatMap enc).take (i * k)
  | [], i => by simp
  | x :: l, 0 => by simp
  | x :: l, i + 1 => by
    have e : (i + 1) * k = (enc x).length + i * k := by rw [hk, Nat.succ_mul]; omega
    rw [List.take_succ_cons, List.flatMap_cons, List.flatMap_cons, flat_take enc k hk l i, e, List.take_length_add_append]
theorem flat_drop {α : Type} (enc : α → List Value) (k : Nat) (hk : ∀ x, (enc x).length = k) : ∀ (l : List α) (i : Nat), (l.drop i).flatMap enc = (l.flatMap enc).drop (i * k)
  | [], i => by simp
  | x :: l, 0 => by simp
  | x :: l, i + 1 => by
    have e : (i + 1) * k = (enc x).length + i * k := by rw [hk, Nat.succ_mul]; omega
    rw [List.drop_succ_cons, List.flatMap_cons, flat_drop enc k hk l i, e, List.drop_length_add_append]
theorem flat_ins {α : Type} (enc : α → List Value) (k : Nat) (hk : ∀ x, (enc x).length = k) (l : List α) (i : Nat) (r : α) : (l.take i ++ r :: l.drop i).flatMap enc = (l.flatMap enc).take (i * k) ++ enc r ++ (l.flatMap enc).drop (i * k) := by
  rw [List.flatMap_append, List.flatMap_cons, flat_take enc k hk, flat_drop enc k hk, List.append_assoc]
theorem flat_del {α : Type} (enc : α → List Value) (k : Nat) (hk : ∀ x, (enc x).length = k) (l : List α) (i : Nat) : (l.take i ++ l.drop (i + 1)).flatMap enc = (l.flatMap enc).take (i * k) ++ (l.flatMap enc).drop (i * k + k) := by
  rw [List.flatMap_append, flat_take enc k hk, flat_drop enc k hk, Nat.succ_mul]
theorem flat_setO {i : Nat} {c : Int} : ∀ {l : List Outing} (h : i < l.length), (l.flatMap Outing.enc).set (i * 3 + 2) (.int .i64 c) = (l.set i ⟨l[i].k, l[i].p, c⟩).flatMap Outing.enc := by
  induction i with
  | zero => intro l h; match l, h with
    | x :: l, _ => simp [Outing.enc]
  | succ i ih => intro l h; match l, h with
    | x :: l, h =>
      simp only [List.flatMap_cons, List.getElem_cons_succ, List.set_cons_succ]
      rw [← ih (by simpa using h), List.set_append_right _ _ (by rw [Outing.enc_len]; omega), Outing.enc_len]
      congr 2; omega
theorem flat_setT {i : Nat} {c : Int} : ∀ {l : List Tray} (h : i < l.length), (l.flatMap Tray.enc).set (i * 2 + 1) (.int .i64 c) = (l.set i ⟨l[i].k, c⟩).flatMap Tray.enc := by
  induction i with
  | zero => intro l h; match l, h with
    | x :: l, _ => simp [Tray.enc]
  | succ i ih => intro l h; match l, h with
    | x :: l, h =>
      simp only [List.flatMap_cons, List.getElem_cons_succ, List.set_cons_succ]
      rw [← ih (by simpa using h), List.set_append_right _ _ (by rw [Tray.enc_len]; omega), Tray.enc_len]
      congr 2; omega

def posO (os : List Outing) (k p : Int) : Nat := (os.takeWhile fun o => before o ⟨k, p, 0⟩).length
theorem posO_cons (o : Outing) (os : List Outing) (k p : Int) : posO (o :: os) k p = if before o ⟨k, p, 0⟩ = true then posO os k p + 1 else 0 := by
  unfold posO; rw [List.takeWhile_cons]; by_cases h : before o ⟨k, p, 0⟩ = true <;> simp [h]
theorem posO_le (os : List Outing) (k p : Int) : posO os k p ≤ os.length := by
  unfold posO; exact (List.takeWhile_prefix _).length_le
theorem posO_lt : ∀ (os : List Outing) (k p : Int) (i : Nat) (h : i < os.length), i < posO os k p → before os[i] ⟨k, p, 0⟩ = true
  | o :: os, k, p, i, h, hi => by
    rw [posO_cons] at hi
    split at hi
    · cases i with
      | zero => assumption
      | succ i => exact posO_lt os k p i (by simpa using h) (by omega)
    · omega
theorem posO_ge : ∀ (os : List Outing) (k p : Int), AscO os → ∀ (i : Nat) (h : i < os.length), posO os k p ≤ i → ¬ before os[i] ⟨k, p, 0⟩ = true
  | o :: os, k, p, ha, i, h, hi => by
    obtain ⟨h1, h2⟩ := List.pairwise_cons.1 ha
    by_cases hb : before o ⟨k, p, 0⟩ = true
    · rw [posO_cons, if_pos hb] at hi
      cases i with
      | zero => omega
      | succ i => exact posO_ge os k p h2 i (by simpa using h) (by omega)
    · cases i with
      | zero => exact hb
      | succ i =>
        have := h1 (os[i]'(by simpa using h)) (List.getElem_mem _)
        simp only [List.getElem_cons_succ]
        rw [before_iff] at this hb ⊢; simp only at hb ⊢; omega
theorem chgO_new {k p b : Int} : ∀ (os : List Outing), (∀ h : posO os k p < os.length, isAt k p os[posO os k p] = false) → chgO k p b os = os.take (posO os k p) ++ ⟨k, p, b⟩ :: os.drop (posO os k p)
  | [], _ => by simp [chgO, posO]
  | o :: os, h => by
    by_cases hb : before o ⟨k, p, 0⟩ = true
    · have e : posO (o :: os) k p = posO os k p + 1 := by rw [posO_cons, if_pos hb]
      simp only [e] at h ⊢
      rw [chgO, if_pos hb, chgO_new os (fun h' => by have := h (by simpa using h'); simpa using this), List.take_succ_cons, List.drop_succ_cons, List.cons_append]
    · have e : posO (o :: os) k p = 0 := by rw [posO_cons, if_neg hb]
      simp only [e] at h ⊢
      have := h (by simp)
      simp only [List.getElem_cons_zero] at this
      rw [chgO, if_neg hb, this, if_neg (by simp)]; rfl
theorem chgO_old {k p b : Int} : ∀ (os : List Outing) (h : posO os k p < os.length), isAt k p os[posO os k p] = true →
    chgO k p b os = if os[posO os k p].c + b = 0 then os.take (posO os k p) ++ os.drop (posO os k p + 1) else os.set (posO os k p) ⟨os[posO os k p].k, os[posO os k p].p, os[posO os k p].c + b⟩
  | o :: os, h, hi => by
    by_cases hb : before o ⟨k, p, 0⟩ = true
    · have e : posO (o :: os) k p = posO os k p + 1 := by rw [posO_cons, if_pos hb]
      simp only [e, List.getElem_cons_succ] at h hi ⊢
      rw [chgO, if_pos hb, chgO_old os (by simpa using h) hi, List.take_succ_cons, List.drop_succ_cons, List.cons_append, List.set_cons_succ]
      split <;> rfl
    · have e : posO (o :: os) k p = 0 := by rw [posO_cons, if_neg hb]
      simp only [e, List.getElem_cons_zero] at h hi ⊢
      rw [chgO, if_neg hb, if_pos hi]
      split <;> simp
theorem cmpO_lt {a b : Outing} : cmpO a b < 0 ↔ before a b = true := by
  have h := cmpO_before a b
  by_cases h0 : 0 ≤ cmpO a b
  · rw [decide_eq_true h0] at h
    have : before a b = false := by cases hb : before a b; rfl; rw [hb] at h; cases h
    rw [this]; constructor
    · intro h; omega
    · intro h; cases h
  · rw [decide_eq_false h0] at h
    have : before a b = true := by cases hb : before a b; rw [hb] at h; cases h; rfl
    rw [this]; constructor
    · intro _; rfl
    · intro _; omega
theorem cmpO_zero {a : Outing} {k p b : Int} : decide (cmpO a ⟨k, p, b⟩ = 0) = isAt k p a := by
  rw [Bool.eq_iff_iff, decide_eq_true_eq, isAt_iff]
  unfold cmpO orI cmpI
  dsimp only
  constructor
  · intro h
    repeat' split at h
    all_goals first | omega | (constructor <;> omega)
  · rintro ⟨rfl, rfl⟩
    simp

theorem OffOwn.ne_to {w : World} {B g : Nat} {vt vo : Value} {y : Oc} (h : OffOwn w B g vt vo y) : vo.ownBlock ≠ some g := fun e => ownsRow_far h.o h.lies ne_OO e.symm
theorem OffOwn.ne_t {w : World} {B g : Nat} {vt vo : Value} {y : Oc} (h : OffOwn w B g vt vo y) : vt.ownBlock ≠ some g := fun e => ownsRow_far h.t h.lies ne_TO e.symm
/-- The outings' row turns, and then the field that holds it. -/
theorem OffOwn.setO {w w' : World} {B g : Nat} {vt vo vo' : Value} {y : Oc} {os : List Outing} (h : OffOwn w B g vt vo y) (hg : w.grownBy w' vo.ownBlock) (ho : w'.ownsRow B 100 3 vo' os.length (os.flatMap Outing.enc)) :
    OffOwn (w'.setCell ⟨g, 1, none⟩ vo') B g vt vo' { y with o := os } := by
  have hL : Lies w' g 25 _ := h.lies.kept hg (fun e => h.ne_to e.symm)
  have ht := ownsRow_two h.t h.o ne_OT hg
  exact ⟨hL.set 1 vo', h.hg, ownsRow_setOther ht hL ne_TO 1 vo', ownsRow_setOther ho hL ne_OO 1 vo'⟩

theorem cmpFn_any (t u : Outing) (w : World) : Calls Try.prog 78 (#[t.val, u.val] ++ #[]) w fun e w' => e = .returned (.int .i64 (cmpO t u)) ∧ Below w.heap.size w w' := compareOutings_any t u w

set_option maxRecDepth 100000 in
set_option maxHeartbeats 4000000 in
theorem change_new (B g : Nat) (vt vo : Value) (y : Oc) (k p b : Int) (w : World) (h : OffOwn w B g vt vo y) (hB : B ≤ w.heap.size) (ha : AscO y.o) (hn : y.o.length ≤ 100000) (hnew : ∀ h : posO y.o k p < y.o.length, isAt k p y.o[posO y.o k p] = false) :
    Calls Try.prog 85 #[.pointer (some ⟨g, 0, none⟩), .int .i64 k, .int .i64 p, .int .i64 b] w fun e w' => ∃ vo', e = .returned (.tuple #[]) ∧ OffOwn w' B g vt vo' { y with o := chgO k p b y.o } ∧ Below B w w' := by
  have b1 := (Below.refl w.heap.size w).alloc (Nat.le_refl _) (.cells #[.int .i64 k, .int .i64 p, .int .i64 b] 100)
  have L1 := Lies.new w 100 #[.int .i64 k, .int .i64 p, .int .i64 b]
  have h1 := h.then b1
  have HC := Lib.hid (chgO_new y.o hnew (b := b))
  have hlo : ∀ i (h : i < y.o.length), i < posO y.o k p → cmpO y.o[i] ⟨k, p, b⟩ < 0 := fun i h hi => cmpO_lt.2 (posO_lt y.o k p i h hi)
  have hhi : ∀ i (h : i < y.o.length), posO y.o k p ≤ i → ¬ cmpO y.o[i] ⟨k, p, b⟩ < 0 := fun i h hi hc => posO_ge y.o k p ha i h hi (cmpO_lt.1 hc)
  have hfd : ∀ h : posO y.o k p < y.o.length, false = decide (cmpO y.o[posO y.o k p] ⟨k, p, b⟩ = 0) := fun h => by rw [cmpO_zero, hnew h]
  have hple := posO_le y.o k p
  obtain ⟨A0, c0, rfl⟩ := ownsRow_slice h.o
  have cB : ∀ W, Below (w.alloc (.cells #[.int .i64 k, .int .i64 p, .int .i64 b] 100)).heap.size (w.alloc (.cells #[.int .i64 k, .int .i64 p, .int .i64 b] 100)) W → Calls Try.prog 102 #[.slice A0 y.o.length c0, .agg #[.int .i64 k, .int .i64 p, .int .i64 b], .func (.func 78) #[] #[]] W fun e w' => e = .returned (.tuple #[.int .i64 (posO y.o k p), .bool false]) ∧ Below W.heap.size W w' := fun W hb =>
    bsOuting_any (fun o => cmpO o ⟨k, p, b⟩) ⟨k, p, b⟩ 78 #[] Try.call78 A0 c0 y.o W (fun t p => cmpFn_any t _ p.val) (ownsRow_reads (h1.then hb).o) (by omega) (posO y.o k p) hple hlo hhi false hfd (fun _ => rfl)
  generalize posO y.o k p = q at cB HC hple
  clear hlo hhi hfd hnew ha
  go_enter Try.func85, Try.ntmps85
  go_wp2
  generalize w.alloc (.cells #[.int .i64 k, .int .i64 p, .int .i64 b] 100) = W at b1 L1 h1 cB ⊢
  have hc1 : ∀ r : Since W.heap.size W, r.val.cell? ⟨g, 1, none⟩ = some (.slice A0 y.o.length c0) := fun r => (r.cell h1.lies.lt).trans (h1.lies.cell 1)
  have hd0 : ∀ r : Since W.heap.size W, r.val.cell? ⟨w.heap.size, 0, none⟩ = some (.int .i64 k) := fun r => (r.cell L1.lt).trans (L1.cell 0)
  have hd1 : ∀ r : Since W.heap.size W, r.val.cell? ⟨w.heap.size, 1, none⟩ = some (.int .i64 p) := fun r => (r.cell L1.lt).trans (L1.cell 1)
  have hd2 : ∀ r : Since W.heap.size W, r.val.cell? ⟨w.heap.size, 2, none⟩ = some (.int .i64 b) := fun r => (r.cell L1.lt).trans (L1.cell 2)
  have cB' := fun r : Since W.heap.size W => cB r.val r.below
  refine wp_region_since0 (by kernel_rfl) (by kernel_rfl) ?_
  repeat (any_goals (first | go_big_quiet_step ((go_at_call 102; refine calls_since (Nat.le_refl _) (cB' _))) | (refine wpQuiet_step (fun K hK => ?_); go_simp; split <;> (refine hK _ ?_; clear hK K))))
  all_goals (refine wpQuiet_nil ?_; rintro _ ⟨q1, rfl⟩)
  all_goals go_wp2
  have h2 := h1.then q1.below
  have b2 : Below w.heap.size w q1.val := b1.trans (q1.below.mono b1.size)
  clear hc1 cB cB' h1 b1
  have c1 : q1.val.cell? ⟨g, 1, none⟩ = some (.slice A0 y.o.length c0) := h2.lies.cell 1
  have e0 := hd0 q1
  have e1 := hd1 q1
  have e2 := hd2 q1
  clear hd0 hd1 hd2
  have bS := (Below.refl q1.val.heap.size q1.val).alloc (Nat.le_refl _) (.cells #[.int .i64 k, .int .i64 p, .int .i64 b] 100)
  have hS : OffOwn (q1.val.alloc (.cells #[.int .i64 k, .int .i64 p, .int .i64 b] 100)).drew B g vt (.slice A0 y.o.length c0) y := (h2.then bS).then (Below.refl _ _).drew
  have hBq : B ≤ q1.val.heap.size := Nat.le_trans hB b2.size
  have cI := insOuting_any B (.slice A0 y.o.length c0) y.o.length (y.o.flatMap Outing.enc) (q1.val.alloc (.cells #[.int .i64 k, .int .i64 p, .int .i64 b] 100)).drew hS.o (by omega) q hple ⟨k, p, b⟩ q1.val.heap.size 1 (Lies.new q1.val 100 #[.int .i64 k, .int .i64 p, .int .i64 b]).drew (fun e => by have := (h2.o.lt _ e).2; omega) (Nat.le_trans hBq bS.size) outing_cells
  rw [show (y.o.flatMap Outing.enc).take (q * 3) ++ Outing.enc ⟨k, p, b⟩ ++ (y.o.flatMap Outing.enc).drop (q * 3) = (chgO k p b y.o).flatMap Outing.enc by rw [HC.out, flat_ins Outing.enc 3 Outing.enc_len]] at cI
  have hlen : y.o.length + 1 = (chgO k p b y.o).length := by rw [HC.out]; simp; omega
  rw [hlen] at cI
  have c1' := hS.lies.cell 1
  simp only [List.getElem?_cons_zero, List.getElem?_cons_succ] at c1'
  have HS := Lib.hid hS; clear hS
  have HLen := Lib.hid hlen; clear hlen
  go_region_law (first | (go_simp; go_at_call 103; refine cI.mono ?_; rintro e w9 ⟨v', rfl, HO, hg9⟩; obtain ⟨A9, c9, rfl⟩ := ownsRow_slice HO; have k1 := (HS.out.lies.kept hg9 (fun e => HS.out.ne_to e.symm)).cell 1; have k2 := (HS.out.lies.kept hg9 (fun e => HS.out.ne_to e.symm)).frozen 1; simp only [List.getElem?_cons_zero, List.getElem?_cons_succ] at k1))
  all_goals
    go_wp2
    refine bodyPost_ret (results_none rfl _ _ _) rfl ?_
    have hO := HS.out.setO hg9 HO
    refine ⟨_, rfl, hO, ?_⟩
    have bq : Below B w (q1.val.alloc (.cells #[.int .i64 k, .int .i64 p, .int .i64 b] 100)).drew := (b2.mono hB).trans ((bS.drew).mono hBq)
    have b9 : Below B w w9 := bq.grown hg9 (Nat.le_trans hBq bS.size) (fun j hj => (HS.out.o.lt _ hj).1)
    exact b9.grown (grown_set (World.grownBy.refl w9 (some g))) (Nat.le_trans hB b9.size) (by rintro _ ⟨⟩; exact HS.out.hg)

set_option maxRecDepth 100000 in
set_option maxHeartbeats 4000000 in
theorem change_old (B g : Nat) (vt vo : Value) (y : Oc) (k p b : Int) (w : World) (h : OffOwn w B g vt vo y) (hB : B ≤ w.heap.size) (ha : AscO y.o) (hn : y.o.length ≤ 100000) (hlt : posO y.o k p < y.o.length) (hold : isAt k p y.o[posO y.o k p] = true)
    (hc : -1000000000 ≤ y.o[posO y.o k p].c ∧ y.o[posO y.o k p].c ≤ 1000000000) (hb : -1000000000 ≤ b ∧ b ≤ 1000000000) :
    Calls Try.prog 85 #[.pointer (some ⟨g, 0, none⟩), .int .i64 k, .int .i64 p, .int .i64 b] w fun e w' => ∃ vo', e = .returned (.tuple #[]) ∧ OffOwn w' B g vt vo' { y with o := chgO k p b y.o } ∧ Below B w w' := by
  have b1 := (Below.refl w.heap.size w).alloc (Nat.le_refl _) (.cells #[.int .i64 k, .int .i64 p, .int .i64 b] 100)
  have L1 := Lies.new w 100 #[.int .i64 k, .int .i64 p, .int .i64 b]
  have h1 := h.then b1
  have HC := Lib.hid (chgO_old y.o hlt hold (b := b))
  have hlo : ∀ i (h : i < y.o.length), i < posO y.o k p → cmpO y.o[i] ⟨k, p, b⟩ < 0 := fun i h hi => cmpO_lt.2 (posO_lt y.o k p i h hi)
  have hhi : ∀ i (h : i < y.o.length), posO y.o k p ≤ i → ¬ cmpO y.o[i] ⟨k, p, b⟩ < 0 := fun i h hi hc => posO_ge y.o k p ha i h hi (cmpO_lt.1 hc)
  have hfd : ∀ h : posO y.o k p < y.o.length, true = decide (cmpO y.o[posO y.o k p] ⟨k, p, b⟩ = 0) := fun h => by rw [cmpO_zero, hold]
  have hple := posO_le y.o k p
  obtain ⟨go, cap, rest, rfl, hgo, hLo, hcap⟩ := ownsRow_at h.o (by omega)
  have cB : ∀ W, Below (w.alloc (.cells #[.int .i64 k, .int .i64 p, .int .i64 b] 100)).heap.size (w.alloc (.cells #[.int .i64 k, .int .i64 p, .int .i64 b] 100)) W → Calls Try.prog 102 #[.slice (some ⟨go, 0, none⟩) y.o.length cap, .agg #[.int .i64 k, .int .i64 p, .int .i64 b], .func (.func 78) #[] #[]] W fun e w' => e = .returned (.tuple #[.int .i64 (posO y.o k p), .bool true]) ∧ Below W.heap.size W w' := fun W hb =>
    bsOuting_any (fun o => cmpO o ⟨k, p, b⟩) ⟨k, p, b⟩ 78 #[] Try.call78 _ cap y.o W (fun t p => cmpFn_any t _ p.val) (ownsRow_reads (h1.then hb).o) (by omega) (posO y.o k p) hple hlo hhi true hfd (fun e => by omega)
  have hne : ¬ go = g := fun e => h.ne_to (by rw [← e]; rfl)
  have hne' : ¬ g = go := fun e => hne e.symm
  obtain ⟨q, hq⟩ : ∃ q, q = posO y.o k p := ⟨_, rfl⟩
  have hlt' : q < y.o.length := by rw [hq]; exact hlt
  have hcq : y.o[posO y.o k p] = y.o[q] := by congr 1; exact hq.symm
  rw [hcq] at hc HC
  rw [← hq] at cB HC hple
  obtain ⟨r, hre⟩ : ∃ r, r = y.o[q] := ⟨_, rfl⟩
  rw [← hre] at hc HC
  clear hcq hold hfd
  have hel : (y.o.flatMap Outing.enc)[q * 3 + 2]? = some (.int .i64 r.c) := by rw [flat_at Outing.enc 3 Outing.enc_len y.o q hlt' 2 (by omega), ← hre]; rfl
  have HSet := Lib.hid (flat_setO (c := r.c + b) hlt')
  rw [← hre] at HSet
  have hq3 : q * 3 + 2 < y.o.length * 3 := by omega
  clear hlo hhi ha hre hLo rest hq hlt
  obtain ⟨hc1, hc2⟩ := hc
  obtain ⟨hb1, hb2⟩ := hb
  go_enter Try.func85, Try.ntmps85
  go_wp2
  generalize w.alloc (.cells #[.int .i64 k, .int .i64 p, .int .i64 b] 100) = W at b1 L1 h1 cB ⊢
  have hc1 : ∀ r : Since W.heap.size W, r.val.cell? ⟨g, 1, none⟩ = some (.slice (some ⟨go, 0, none⟩) y.o.length cap) := fun r => (r.cell h1.lies.lt).trans (h1.lies.cell 1)
  have hd0 : ∀ r : Since W.heap.size W, r.val.cell? ⟨w.heap.size, 0, none⟩ = some (.int .i64 k) := fun r => (r.cell L1.lt).trans (L1.cell 0)
  have hd1 : ∀ r : Since W.heap.size W, r.val.cell? ⟨w.heap.size, 1, none⟩ = some (.int .i64 p) := fun r => (r.cell L1.lt).trans (L1.cell 1)
  have hd2 : ∀ r : Since W.heap.size W, r.val.cell? ⟨w.heap.size, 2, none⟩ = some (.int .i64 b) := fun r => (r.cell L1.lt).trans (L1.cell 2)
  have cB' := fun r : Since W.heap.size W => cB r.val r.below
  refine wp_region_since0 (by kernel_rfl) (by kernel_rfl) ?_
  repeat (any_goals (first | go_big_quiet_step ((go_at_call 102; refine calls_since (Nat.le_refl _) (cB' _))) | (refine wpQuiet_step (fun K hK => ?_); go_simp; split <;> (refine hK _ ?_; clear hK K))))
  all_goals (refine wpQuiet_nil ?_; rintro _ ⟨q1, rfl⟩)
  have h2 := h1.then q1.below
  have b2 : Below w.heap.size w q1.val := b1.trans (q1.below.mono b1.size)
  have hBq : B ≤ q1.val.heap.size := Nat.le_trans hB b2.size
  clear hc1 cB cB' h1 b1 hd0 hd1 hd2
  have c1 : q1.val.cell? ⟨g, 1, none⟩ = some (.slice (some ⟨go, 0, none⟩) y.o.length cap) := h2.lies.cell 1
  have c1f : q1.val.frozen? ⟨g, 1, none⟩ = false := h2.lies.frozen 1
  have c2 : q1.val.cell? ⟨go, q * 3 + 2, none⟩ = some (.int .i64 r.c) := (h2.o.cellAt _ hq3).trans hel
  have c2f : q1.val.frozen? ⟨go, q * 3 + 2, none⟩ = false := h2.o.frozenAt _
  have hO3 := ownsRow_set h2.o (q * 3 + 2) (.int .i64 (r.c + b)) hq3
  rw [HSet.out] at hO3
  have hL3 := h2.lies.other (p := ⟨go, q * 3 + 2, none⟩) hne' (.int .i64 (r.c + b))
  have hT3 := ownsRow_two (w' := q1.val.setCell ⟨go, q * 3 + 2, none⟩ (.int .i64 (r.c + b))) h2.t h2.o ne_OT (grown_set (World.grownBy.refl q1.val (some go)))
  have b3 : Below B w (q1.val.setCell ⟨go, q * 3 + 2, none⟩ (.int .i64 (r.c + b))) := (b2.mono hB).grown (grown_set (World.grownBy.refl q1.val (some go))) hBq (by rintro _ ⟨⟩; exact hgo)
  have s3 : q1.val.heap.size ≤ (q1.val.setCell ⟨go, q * 3 + 2, none⟩ (.int .i64 (r.c + b))).heap.size := by simp [World.setCell]
  by_cases hz : r.c + b = 0
  · have HZ := Lib.hid hz
    have hz' : (r.c + b == 0) = true := by simp [hz]
    clear hz
    rw [if_pos HZ.out] at HC
    have hOwn : OffOwn (q1.val.setCell ⟨go, q * 3 + 2, none⟩ (.int .i64 (r.c + b))) B g vt (.slice (some ⟨go, 0, none⟩) y.o.length cap) { y with o := y.o.set q ⟨r.k, r.p, r.c + b⟩ } := ⟨hL3, h.hg, hT3, by simpa using hO3⟩
    have cD := delOuting_any B (.slice (some ⟨go, 0, none⟩) y.o.length cap) y.o.length ((y.o.set q ⟨r.k, r.p, r.c + b⟩).flatMap Outing.enc) (q1.val.setCell ⟨go, q * 3 + 2, none⟩ (.int .i64 (r.c + b))) hO3 (by omega) q hlt' outing_cells
    rw [← flat_del Outing.enc 3 Outing.enc_len, List.take_set_of_le (Nat.le_refl _), List.drop_set_of_lt (Nat.lt_succ_self _), ← HC.out] at cD
    have hlen : y.o.length - 1 = (chgO k p b y.o).length := by rw [HC.out]; simp; omega
    rw [hlen] at cD
    have HLen := Lib.hid hlen; clear hlen
    have HOwn := Lib.hid hOwn; clear hOwn
    go_wp2_with fail
    refine cD.mono ?_
    rintro e w9 ⟨v', rfl, HO, hg9, _⟩
    obtain ⟨A9, c9, rfl⟩ := ownsRow_slice HO
    have hL9 := HOwn.out.lies.kept hg9 (fun e => HOwn.out.ne_to e.symm)
    have k1 := hL9.cell 1
    have k2 := hL9.frozen 1
    simp only [List.getElem?_cons_zero, List.getElem?_cons_succ] at k1
    have hO := HOwn.out.setO hg9 HO
    have b9 : Below B w w9 := b3.grown hg9 (Nat.le_trans hB b3.size) (fun j hj => (HOwn.out.o.lt _ hj).1)
    have b10 := b9.grown (grown_set (g := g) (i := 1) (u := .slice A9 (chgO k p b y.o).length c9) (World.grownBy.refl w9 (some g))) (Nat.le_trans hB b9.size) (by rintro _ ⟨⟩; exact h.hg)
    go_wp2
    go_end0
    exact ⟨_, rfl, hO, b10⟩
  · have HZ := Lib.hid hz
    have hz' : (r.c + b == 0) = false := by simp [hz]
    clear hz
    rw [if_neg HZ.out] at HC
    go_wp2
    go_end0
    exact ⟨_, rfl, ⟨hL3, h.hg, hT3, by rw [HC.out]; simpa using hO3⟩, b3⟩
/-- The change of an outing, new or old. -/
theorem change_any (B g : Nat) (vt vo : Value) (y : Oc) (k p b : Int) (w : World) (h : OffOwn w B g vt vo y) (hB : B ≤ w.heap.size) (ha : AscO y.o) (hn : y.o.length ≤ 100000) (hc : ∀ o ∈ y.o, -1000000000 ≤ o.c ∧ o.c ≤ 1000000000) (hb : -1000000000 ≤ b ∧ b ≤ 1000000000) :
    Calls Try.prog 85 #[.pointer (some ⟨g, 0, none⟩), .int .i64 k, .int .i64 p, .int .i64 b] w fun e w' => ∃ vo', e = .returned (.tuple #[]) ∧ OffOwn w' B g vt vo' { y with o := chgO k p b y.o } ∧ Below B w w' := by
  by_cases h0 : ∃ h : posO y.o k p < y.o.length, isAt k p y.o[posO y.o k p] = true
  · obtain ⟨hlt, hi⟩ := h0
    exact change_old B g vt vo y k p b w h hB ha hn hlt hi (hc _ (List.getElem_mem _)) hb
  · exact change_new B g vt vo y k p b w h hB ha hn (fun h' => by
      cases hi : isAt k p y.o[posO y.o k p]
      · rfl
      · exact absurd ⟨h', hi⟩ h0)
end Go.Proofs.Ytdiojhjkcholiaa

/- Steps of an office: what a step gives (plain); the program's closures. -/
namespace Go.Proofs.Ytdiojhjkcholiaa
open Go.RowKit

def Oc.fin (r : Oc) : Option Oc := if r.good then some r else none
/-- What a valid step of an office gives. -/
def stepD (y : Oc) (s : Stp) : Option Oc :=
  if s.kind = 1 then Oc.fin { y with t := inTrays y.t s.stamp s.value, got := y.got + s.value }
  else if ¬ 0 ≤ trayIx y.t s.stamp then none
  else if s.kind = 2 then Oc.fin { y with t := inTrays y.t s.stamp (-s.value), o := chgO s.stamp s.person s.value y.o }
  else if outAt s.stamp s.person y.o = 0 ∧ 0 < s.person then none
  else if s.kind = 3 then Oc.fin { y with t := inTrays y.t s.stamp s.value, o := chgO s.stamp s.person (-s.value) y.o }
  else if s.kind = 4 then (if s.person = 0 then Oc.fin { y with t := inTrays y.t s.stamp (-s.value), sold := y.sold + s.value } else Oc.fin { y with o := chgO s.stamp s.person (-s.value) y.o, sold := y.sold + s.value })
  else if s.kind = 5 then Oc.fin { y with o := chgO s.stamp s.person (-outAt s.stamp s.person y.o) y.o, missed := y.missed + outAt s.stamp s.person y.o }
  else Oc.fin { y with o := chgO s.stamp s.value (outAt s.stamp s.person y.o) (chgO s.stamp s.person (-outAt s.stamp s.person y.o) y.o) }
def Oc.zero : Oc := ⟨[], [], 0, 0, 0⟩
def resOf (R : Option Oc) : Oc := R.getD Oc.zero
/-- A step's results: an office of the call's own, and whether there is one. -/
def GivesStep (w : World) (R : Option Oc) (e : Ending) (w' : World) : Prop :=
  ∃ TA tc OA oc, e = .returned (.tuple #[Off.val ((resOf R).at TA tc OA oc), .bool R.isSome]) ∧ w'.ownsRow w.heap.size 74 2 (.slice TA (resOf R).t.length tc) (resOf R).t.length ((resOf R).t.flatMap Tray.enc) ∧
    w'.ownsRow w.heap.size 100 3 (.slice OA (resOf R).o.length oc) (resOf R).o.length ((resOf R).o.flatMap Outing.enc) ∧ Below w.heap.size w w'
theorem GivesStep.no {w w' : World} {e : Ending} (he : e = .returned (.tuple #[.agg #[.slice none 0 0, .slice none 0 0, .int .i64 0, .int .i64 0, .int .i64 0], .bool false])) (hb : Below w.heap.size w w') : GivesStep w none e w' :=
  ⟨none, 0, none, 0, he, World.ownsRow_nil _ _ _ _, World.ownsRow_nil _ _ _ _, hb⟩
theorem GivesStep.yes {w w' : World} {e : Ending} {r : Oc} {A1 A2 : Option Addr} {a1 a2 : Nat} (he : e = .returned (.tuple #[.agg #[.slice A1 r.t.length a1, .slice A2 r.o.length a2, .int .i64 r.got, .int .i64 r.sold, .int .i64 r.missed], .bool true]))
    (h8 : w'.ownsRow w.heap.size 74 2 (.slice A1 r.t.length a1) r.t.length (r.t.flatMap Tray.enc)) (h9 : w'.ownsRow w.heap.size 100 3 (.slice A2 r.o.length a2) r.o.length (r.o.flatMap Outing.enc)) (hb : Below w.heap.size w w') : GivesStep w (some r) e w' :=
  ⟨A1, a1, A2, a2, he, h8, h9, hb⟩
theorem OffOwn.at_ {w : World} {B g : Nat} {A1 A2 : Option Addr} {c1 c2 : Nat} {y : Oc} (h : OffOwn w B g (.slice A1 y.t.length c1) (.slice A2 y.o.length c2) y) : OffAt w w.heap.size g (y.at A1 c1 A2 c2) :=
  OffAt.of (x := y.at A1 c1 A2 c2) h.lies ⟨ownsRow_reads h.t, ownsRow_reads h.o⟩
theorem OffOwn.form {w : World} {B g : Nat} {vt vo : Value} {y : Oc} (h : OffOwn w B g vt vo y) : ∃ A1 c1 A2 c2, vt = .slice A1 y.t.length c1 ∧ vo = .slice A2 y.o.length c2 := by
  obtain ⟨A1, c1, h1⟩ := ownsRow_slice h.t
  obtain ⟨A2, c2, h2⟩ := ownsRow_slice h.o
  exact ⟨A1, c1, A2, c2, h1, h2⟩

/-- The closure of stepOffice that looks for an outing. -/
theorem atFn_any (t : Outing) (gs : Nat) (kd st pe va : Int) (w : World) (hL : Lies w gs 45 [.int .i64 kd, .int .i64 st, .int .i64 pe, .int .i64 va]) :
    Calls Try.prog 84 (#[t.val] ++ #[.pointer (some ⟨gs, 0, none⟩)]) w fun e w' => e = .returned (.bool (isAt st pe t)) ∧ Below w.heap.size w w' := by
  show Calls Try.prog 84 #[t.val, .pointer (some ⟨gs, 0, none⟩)] w _
  have b1 := (Below.refl w.heap.size w).alloc (Nat.le_refl _) (.cells #[.int .i64 t.k, .int .i64 t.p, .int .i64 t.c] 100)
  have c1 : ∀ r : Since w.heap.size w, r.val.cell? ⟨gs, 1, none⟩ = some (.int .i64 st) := fun r => (r.cell hL.lt).trans (hL.cell 1)
  have c2 : ∀ r : Since w.heap.size w, r.val.cell? ⟨gs, 2, none⟩ = some (.int .i64 pe) := fun r => (r.cell hL.lt).trans (hL.cell 2)
  have HI : Hid (isAt st pe t = (decide (t.k = st) && decide (t.p = pe))) := rfl
  have hL0 := Lies.new w 100 #[.int .i64 t.k, .int .i64 t.p, .int .i64 t.c]
  obtain ⟨q, hq⟩ : ∃ q : Since w.heap.size w, w.alloc (.cells #[.int .i64 t.k, .int .i64 t.p, .int .i64 t.c] 100) = q.val := ⟨⟨_, b1⟩, rfl⟩
  rw [hq] at hL0
  have d0 := hL0.cell 0
  have d1 := hL0.cell 1
  simp only [List.getElem?_cons_zero, List.getElem?_cons_succ] at d0 d1
  have hq0 := q.below.size
  by_cases h1 : t.k = st
  · have v1 : (t.k == st) = true := by simp [h1]
    have H1 := Lib.hid h1; clear h1
    by_cases h2 : t.p = pe
    · have v2 : (t.p == pe) = true := by simp [h2]
      have H2 := Lib.hid h2; clear h2
      go_enter Try.func84, Try.ntmps84
      go_wp2_with (rw [hq])
      all_goals go_ret
      all_goals exact ⟨by rw [HI.out, decide_eq_true H1.out, decide_eq_true H2.out]; rfl, q.below⟩
    · have v2 : (t.p == pe) = false := by simp [h2]
      have H2 := Lib.hid h2; clear h2
      go_enter Try.func84, Try.ntmps84
      go_wp2_with (rw [hq])
      all_goals go_ret
      all_goals exact ⟨by rw [HI.out, decide_eq_true H1.out, decide_eq_false H2.out]; rfl, q.below⟩
  · have v1 : (t.k == st) = false := by simp [h1]
    have H1 := Lib.hid h1; clear h1
    go_enter Try.func84, Try.ntmps84
    go_wp2_with (rw [hq])
    all_goals go_ret
    all_goals exact ⟨by rw [HI.out, decide_eq_false H1.out]; rfl, q.below⟩
theorem kindFn_any (t : Tray) (kd : Int) (w : World) : Calls Try.prog 81 (#[t.val, .int .i64 kd] ++ #[]) w fun e w' => e = .returned (.int .i64 (cmpI t.k kd)) ∧ Below w.heap.size w w' := by
  show Calls Try.prog 81 #[t.val, .int .i64 kd] w _
  have b1 := (Below.refl w.heap.size w).alloc (Nat.le_refl _) (.cells #[.int .i64 t.k, .int .i64 t.c] 74)
  have hc := fun W => compare_any t.k kd W
  go_enter Try.func81, Try.ntmps81
  go_wp2_with fail
  refine (hc _).mono ?_
  rintro e w' ⟨rfl, rfl⟩
  go_wp2
  go_ret
  exact ⟨rfl, b1⟩
theorem inTrays_at {ts : List Tray} {kd n : Int} {i : Nat} (h : trayIx ts kd = i) (hi : i < ts.length) : inTrays ts kd n = ts.set i ⟨ts[i].k, ts[i].c + n⟩ := by
  unfold inTrays
  rw [h, if_pos (by omega), Int.toNat_natCast, List.getD_eq_getElem?_getD, List.getElem?_eq_getElem hi]; rfl
/-- The count of a tray is written. -/
theorem OffOwn.setT {w : World} {B g gT cT i : Nat} {vo : Value} {y : Oc} (h : OffOwn w B g (.slice (some ⟨gT, 0, none⟩) y.t.length cT) vo y) (hi : i < y.t.length) (c : Int) :
    OffOwn (w.setCell ⟨gT, i * 2 + 1, none⟩ (.int .i64 c)) B g (.slice (some ⟨gT, 0, none⟩) y.t.length cT) vo { y with t := y.t.set i ⟨y.t[i].k, c⟩ } ∧ Below B w (w.setCell ⟨gT, i * 2 + 1, none⟩ (.int .i64 c)) ∧ w.cell? ⟨gT, i * 2 + 1, none⟩ = some (.int .i64 y.t[i].c) ∧ w.frozen? ⟨gT, i * 2 + 1, none⟩ = false := by
  have hj : i * 2 + 1 < y.t.length * 2 := by omega
  have hB : B ≤ gT := (h.t.lt gT rfl).1
  have hlt : gT < w.heap.size := (h.t.lt gT rfl).2
  have hg : gT ≠ g := fun e => h.ne_t (by rw [← e]; rfl)
  have ht := ownsRow_set h.t (i * 2 + 1) (.int .i64 c) hj
  rw [flat_setT hi] at ht
  have hgr : w.grownBy (w.setCell ⟨gT, i * 2 + 1, none⟩ (.int .i64 c)) (some gT) := grown_set (World.grownBy.refl w (some gT))
  refine ⟨⟨h.lies.other (p := ⟨gT, i * 2 + 1, none⟩) (fun e => hg e.symm) _, h.hg, by simpa using ht, ownsRow_two (v' := .slice (some ⟨gT, 0, none⟩) y.t.length cT) h.o h.t (Ne.symm ne_OT) hgr⟩, ?_, ?_, h.t.frozenAt _⟩
  · exact (Below.refl B w).grown hgr (Nat.le_of_lt (Nat.lt_of_le_of_lt hB hlt)) (by rintro _ ⟨⟩; exact hB)
  · rw [h.t.cellAt _ hj, flat_at Tray.enc 2 Tray.enc_len y.t i hi 1 (by omega)]; rfl
theorem OffOwn.setT' {w : World} {B g gT cT i : Nat} {vo : Value} {y : Oc} (h : OffOwn w B g (.slice (some ⟨gT, 0, none⟩) y.t.length cT) vo y) (hi : i < y.t.length) (tr : Tray) (htr : y.t[i] = tr) (c : Int) :
    OffOwn (w.setCell ⟨gT, i * 2 + 1, none⟩ (.int .i64 c)) B g (.slice (some ⟨gT, 0, none⟩) y.t.length cT) vo { y with t := y.t.set i ⟨tr.k, c⟩ } ∧ Below B w (w.setCell ⟨gT, i * 2 + 1, none⟩ (.int .i64 c)) ∧ w.cell? ⟨gT, i * 2 + 1, none⟩ = some (.int .i64 tr.c) ∧ w.frozen? ⟨gT, i * 2 + 1, none⟩ = false := by
  subst htr; exact h.setT hi c
/-- A number of the office is written. -/
theorem OffOwn.setN {w : World} {B g : Nat} {vt vo : Value} {y : Oc} (h : OffOwn w B g vt vo y) (c : Int) :
    OffOwn (w.setCell ⟨g, 2, none⟩ (.int .i64 c)) B g vt vo { y with got := c } ∧ OffOwn (w.setCell ⟨g, 3, none⟩ (.int .i64 c)) B g vt vo { y with sold := c } ∧ OffOwn (w.setCell ⟨g, 4, none⟩ (.int .i64 c)) B g vt vo { y with missed := c } :=
  ⟨⟨h.lies.set 2 _, h.hg, ownsRow_setOther h.t h.lies ne_TO 2 _, ownsRow_setOther h.o h.lies ne_OO 2 _⟩, ⟨h.lies.set 3 _, h.hg, ownsRow_setOther h.t h.lies ne_TO 3 _, ownsRow_setOther h.o h.lies ne_OO 3 _⟩, ⟨h.lies.set 4 _, h.hg, ownsRow_setOther h.t h.lies ne_TO 4 _, ownsRow_setOther h.o h.lies ne_OO 4 _⟩⟩
theorem OffOwn.belowN {w : World} {B g : Nat} {vt vo : Value} {y : Oc} (h : OffOwn w B g vt vo y) (i : Nat) (u : Value) : Below B w (w.setCell ⟨g, i, none⟩ u) :=
  (Below.refl B w).grown (grown_set (World.grownBy.refl w (some g))) (Nat.le_of_lt (Nat.lt_of_le_of_lt h.hg h.lies.lt)) (by rintro _ ⟨⟩; exact h.hg)
theorem Good.asc {x : Off} (h : Good x) : AscO x.o := (outsFrom_asc x.t x.o none h.os).1
theorem Good.at_ {x : Off} (h : Good x) (st pe : Int) : outSum (isAt st pe) x.o = outAt st pe x.o := by
  have := outSum_at (k := st) (p := pe) x.o 0 h.asc
  rwa [Int.zero_add] at this
theorem Good.at_bd {x : Off} (h : Good x) (st pe : Int) : 0 ≤ outAt st pe x.o ∧ outAt st pe x.o ≤ 9999 := by
  rcases outAt_mem (k := st) (p := pe) x.o with h0 | ⟨o, ho, _, hc⟩
  · omega
  · obtain ⟨j, hj, rfl⟩ := List.getElem_of_mem ho
    have := (Outing.bounds (h.oall j hj)).2.2
    omega
theorem Good.oc {x : Off} (h : Good x) : ∀ o ∈ x.o, -1000000000 ≤ o.c ∧ o.c ≤ 1000000000 := fun o ho => by
  obtain ⟨j, hj, rfl⟩ := List.getElem_of_mem ho
  have := (Outing.bounds (h.oall j hj)).2.2
  omega
theorem stampsFn_val {B g gs : Nat} {x : Off} {kd st pe va : Int} {w : World} (hL : Lies w gs 45 [.int .i64 kd, .int .i64 st, .int .i64 pe, .int .i64 va]) (hA : OffAt w w.heap.size g x) (G : Good x) (_hB : B ≤ w.heap.size) :
    Calls Try.prog 62 #[.pointer (some ⟨g, 0, none⟩), .func (.func 84) #[] #[.pointer (some ⟨gs, 0, none⟩)]] w fun e w' => e = .returned (.int .i64 (outAt st pe x.o)) ∧ Below w.heap.size w w' := by
  have := stampsOut_any (isAt st pe) 84 #[.pointer (some ⟨gs, 0, none⟩)] Try.call84 x g w (fun o p => atFn_any o gs kd st pe va p.val (hL.below p.below hL.lt)) hA G.ol G.oall
  rwa [G.at_] at this
/-- The trays' row turns, and then the field that holds it. -/
theorem OffOwn.setTs {w w' : World} {B g : Nat} {vt vt' vo : Value} {y : Oc} {ts : List Tray} (h : OffOwn w B g vt vo y) (hg : w.grownBy w' vt.ownBlock) (ht : w'.ownsRow B 74 2 vt' ts.length (ts.flatMap Tray.enc)) :
    OffOwn (w'.setCell ⟨g, 0, none⟩ vt') B g vt' vo { y with t := ts } := by
  have hL : Lies w' g 25 _ := h.lies.kept hg (fun e => h.ne_t e.symm)
  have ho := ownsRow_two h.o h.t (Ne.symm ne_OT) hg
  exact ⟨hL.set 0 vt', h.hg, ownsRow_setOther ht hL ne_TO 0 vt', ownsRow_setOther ho hL ne_OO 0 vt'⟩
theorem cmpI_lt {a b : Int} : cmpI a b < 0 ↔ a < b := by
  unfold cmpI; split
  · simp [*]
  · split <;> simp [*]
theorem cmpI_zero {a b : Int} : cmpI a b = 0 ↔ a = b := by
  unfold cmpI; split
  · simp; omega
  · split
    · simp; omega
    · simp; omega
theorem Good.ascT {x : Off} (h : Good x) : Asc x.t := (traysFrom_asc x.t 0 0 h.ts).1
theorem newTray_at (ts : List Tray) (kd : Int) : ∃ h : posT ts kd < (newTray ts kd).length, (newTray ts kd)[posT ts kd] = ⟨kd, 0⟩ := by
  have hl : (ts.take (posT ts kd)).length = posT ts kd := by rw [List.length_take, Nat.min_eq_left (posT_le ts kd)]
  have h : (newTray ts kd)[posT ts kd]? = some ⟨kd, 0⟩ := by
    unfold newTray; rw [List.getElem?_append_right (by omega), hl, Nat.sub_self]; rfl
  exact List.getElem?_eq_some_iff.1 h
theorem newTray_len (ts : List Tray) (kd : Int) : (newTray ts kd).length = ts.length + 1 := by
  have := posT_le ts kd
  unfold newTray; simp; omega
end Go.Proofs.Ytdiojhjkcholiaa

/- A step in the reference, in plain words, and that it is the program's (no program in sight). -/
namespace Go.Proofs.Ytdiojhjkcholiaa
open Go.RowKit
set_option linter.unusedSimpArgs false

/-- A step with stamps at a person, in the reference. -/
def personS (y : Oc) (s : Stp) : Oc × Bool :=
  if s.kind = 2 then (⟨inTrays y.t s.stamp (-s.value), atO s.stamp s.person (outAt s.stamp s.person y.o + s.value) y.o, y.got, y.sold, y.missed⟩, true)
  else if s.kind = 3 then (⟨inTrays y.t s.stamp s.value, atO s.stamp s.person (outAt s.stamp s.person y.o - s.value) y.o, y.got, y.sold, y.missed⟩, decide (s.value ≤ outAt s.stamp s.person y.o))
  else if s.kind = 5 then (⟨y.t, atO s.stamp s.person 0 y.o, y.got, y.sold, y.missed + outAt s.stamp s.person y.o⟩, decide (0 < outAt s.stamp s.person y.o))
  else if s.kind = 6 then (⟨y.t, atO s.stamp s.value (outAt s.stamp s.value (atO s.stamp s.person 0 y.o) + outAt s.stamp s.person y.o) (atO s.stamp s.person 0 y.o), y.got, y.sold, y.missed⟩, decide (0 < outAt s.stamp s.person y.o) && decide (s.value ≠ s.person))
  else (⟨y.t, atO s.stamp s.person (outAt s.stamp s.person y.o - s.value) y.o, y.got, y.sold + s.value, y.missed⟩, decide (s.value ≤ outAt s.stamp s.person y.o))
/-- A valid step, in the reference. -/
def makeS (y : Oc) (s : Stp) : Oc × Bool :=
  if s.kind = 1 then (⟨inTrays y.t s.stamp s.value, y.o, y.got + s.value, y.sold, y.missed⟩, (⟨inTrays y.t s.stamp s.value, y.o, y.got + s.value, y.sold, y.missed⟩ : Oc).good)
  else if trayIx y.t s.stamp < 0 then (y, false)
  else if s.person = 0 then (⟨inTrays y.t s.stamp (-s.value), y.o, y.got, y.sold + s.value, y.missed⟩, (⟨inTrays y.t s.stamp (-s.value), y.o, y.got, y.sold + s.value, y.missed⟩ : Oc).good)
  else ((personS y s).1, (personS y s).2 && (personS y s).1.good)
def okOc (R : Oc × Bool) : Option Oc := if R.2 then some R.1 else none

theorem atO_has {k p c : Int} (hc : c ≠ 0) : ∀ l : List Outing, (⟨k, p, c⟩ : Outing) ∈ atO k p c l
  | [] => by simp [atO, hc]
  | o :: l => by
    rw [atO]
    split
    · simp
    · split
      · exact atO_has hc l
      · exact List.mem_cons_of_mem _ (atO_has hc l)
theorem atO_bad {ts : List Tray} {k p c : Int} (hc : c < 0) (l : List Outing) : outsOk ts (atO k p c l) = false := by
  cases h : outsOk ts (atO k p c l) with
  | false => rfl
  | true =>
    obtain ⟨i, hi, e⟩ := List.mem_iff_getElem.1 (atO_has (k := k) (p := p) (c := c) (by omega) l)
    have h1 := outsFrom_all _ _ _ h i hi
    rw [e] at h1
    have := (Outing.bounds h1).2.2.1
    simp only at this
    omega
theorem Oc.bad {y : Oc} (h : outsOk y.t y.o = false) : y.good = false := by
  show goodOff _ = false
  unfold goodOff
  rw [show outsOk (y.at none 0 none 0).t (y.at none 0 none 0).o = false from h]
  simp

/-- The reference's step is the program's. -/
theorem makeS_stepD (x : Off) (s : Stp) (G : Good x) (hs : s.okS = true) : okOc (makeS x.c s) = if s.ok then stepD x.c s else none := by
  obtain ⟨hst, hI⟩ := Stp.okS_is hs
  have hok := Stp.ok_okS s
  rw [hs, Bool.true_and] at hok
  obtain ⟨kd, st, pe, va⟩ := s
  have hA := G.asc
  obtain ⟨n0, n1⟩ := G.at_bd st pe
  unfold makeS stepD okOc Oc.fin personS
  simp only at hok
  simp only [Off.c]
  obtain ⟨n, hn⟩ : ∃ n, outAt st pe x.o = n := ⟨_, rfl⟩
  simp only [hn] at n0 n1 ⊢
  by_cases hT : trayIx x.t st < 0
  · cases hI with
    | get hk hp hv => simp only at hk; subst hk; simp [hok]; rfl
    | show_ hk hp hv => simp only at hk; subst hk; simp [hT, hok]
    | back hk hp hv => simp only at hk; subst hk; simp [hT, hok]
    | sell0 hk hp hv => simp only at hk; subst hk; simp [hT, hok]
    | sell hk hp hv => simp only at hk; subst hk; simp [hT, hok]
    | miss hk hp hv => simp only at hk; subst hk; simp [hT, hok]
    | move hk hp hv => simp only at hk; subst hk; simp [hT]
  · have hT' : 0 ≤ trayIx x.t st := by omega
    cases hI with
    | get hk hp hv => simp only at hk; subst hk; simp [hok]; rfl
    | show_ hk hp hv =>
      simp only at hk hp hv; subst hk
      have e := chgO_atO (k := st) (p := pe) (by_ := va) x.o hA (fun _ => by omega)
      rw [hn] at e
      have hp0 : ¬ pe = 0 := by omega
      simp [hT, hT', hok, e, hp0]
    | back hk hp hv =>
      simp only at hk hp hv; subst hk
      have hp0 : ¬ pe = 0 := by omega
      by_cases hz : n = 0
      · have h1 : ¬ va ≤ n := by omega
        have h2 : 0 < pe := by omega
        simp [hT, hT', hok, hp0, hz, h1, h2]
        omega
      · have e := chgO_atO (k := st) (p := pe) (by_ := -va) x.o hA (fun h => by omega)
        rw [hn, ← Int.sub_eq_add_neg] at e
        by_cases h1 : va ≤ n
        · simp [hT, hT', hok, hp0, hz, h1, e]
        · have hb : (⟨inTrays x.t st va, atO st pe (n - va) x.o, x.got, x.sold, x.missed⟩ : Oc).good = false := Oc.bad (atO_bad (by omega) _)
          simp [hT, hT', hok, hp0, hz, h1, e, hb]
    | sell0 hk hp hv => simp only at hk hp; subst hk; subst hp; simp [hT, hT', hok]; rfl
    | sell hk hp hv =>
      simp only at hk hp hv; subst hk
      have hp0 : ¬ pe = 0 := by omega
      by_cases hz : n = 0
      · have h1 : ¬ va ≤ n := by omega
        have h2 : 0 < pe := by omega
        simp [hT, hT', hok, hp0, hz, h1, h2]
        omega
      · have e := chgO_atO (k := st) (p := pe) (by_ := -va) x.o hA (fun h => by omega)
        rw [hn, ← Int.sub_eq_add_neg] at e
        by_cases h1 : va ≤ n
        · simp [hT, hT', hok, hp0, hz, h1, e]
        · have hb : (⟨x.t, atO st pe (n - va) x.o, x.got, x.sold + va, x.missed⟩ : Oc).good = false := Oc.bad (atO_bad (by omega) _)
          simp [hT, hT', hok, hp0, hz, h1, e, hb]
    | miss hk hp hv =>
      simp only at hk hp hv; subst hk
      have hp0 : ¬ pe = 0 := by omega
      have h2 : 0 < pe := by omega
      by_cases hz : n = 0
      · simp [hT, hT', hok, hp0, hz, h2]
      · have e := chgO_atO (k := st) (p := pe) (by_ := -n) x.o hA (fun h => by omega)
        rw [hn, show n + -n = 0 by omega] at e
        have h1 : 0 < n := by omega
        simp [hT, hT', hok, hp0, hz, h1, e]
    | move hk hp hv =>
      simp only at hk hp hv; subst hk
      have hp0 : ¬ pe = 0 := by omega
      have h2 : 0 < pe := by omega
      by_cases hq : va = pe
      · subst hq
        simp [hT, hp0, hok]
      · by_cases hz : n = 0
        · simp [hT, hT', hok, hp0, hz, h2]
        · have e := chgO_atO (k := st) (p := pe) (by_ := -n) x.o hA (fun h => by omega)
          rw [hn, show n + -n = 0 by omega] at e
          have hA' : AscO (atO st pe 0 x.o) := List.Pairwise.sublist (atO_zero_sub _) hA
          have e2 := chgO_atO (k := st) (p := va) (by_ := n) (atO st pe 0 x.o) hA' (fun _ => hz)
          have h1 : 0 < n := by omega
          simp [hT, hT', hok, hp0, hz, h1, hq, e, e2]
end Go.Proofs.Ytdiojhjkcholiaa

/- The drawing cursor of the reference: next, pick, one, among. -/
namespace Go.Proofs.Ytdiojhjkcholiaa
open Go.RowKit

abbrev encBs (l : List UInt8) : List Value := l.map fun b => Value.int .u8 (b.toNat : Int)
theorem encBs_len (l : List UInt8) : (encBs l).length = l.length * 1 := by simp
/-- A slice of bytes reads. -/
abbrev BytesR (w : World) (B : Nat) (A : Option Addr) (l : List UInt8) : Prop := SlcR w B 1 A l.length (encBs l)

theorem grown_drew {a w : World} {row : Option Nat} (h : a.grownBy w row) : a.grownBy w.drew row := ⟨h.os, h.tape, h.output, h.size, h.block⟩
theorem grown_trans {a b c : World} {row : Option Nat} (h : a.grownBy b row) (k : b.grownBy c row) : a.grownBy c row :=
  ⟨k.os.trans h.os, k.tape.trans h.tape, k.output.trans h.output, Nat.le_trans h.size k.size, fun j hj hne => (k.block j (Nat.lt_of_lt_of_le hj h.size) hne).trans (h.block j hj hne)⟩
theorem wrap_u64 (n : Int) : 0 ≤ IntKind.u64.wrap n ∧ IntKind.u64.wrap n < 18446744073709551616 := by
  simp [IntKind.wrap, IntKind.signed, IntKind.bits]; omega

theorem and255 (E : Int) (h0 : 0 ≤ E) (h1 : E < 18446744073709551616) : ∃ b : Nat, b ≤ 255 ∧ wrap64 (bits .and .u64 E 255) = (b : Int) := by
  refine ⟨E.toNat &&& 255, Nat.and_le_right, ?_⟩
  rw [u64_and E 255 h0 h1 (by omega) (by omega)]
  have he : (255 : Int).toNat = 255 := rfl
  rw [he]
  have : E.toNat &&& 255 ≤ 255 := Nat.and_le_right
  unfold wrap64; omega

/-- A cursor at block g, over code; at most m steps made. -/
def CurS (w : World) (g : Nat) (A : Option Addr) (n cap m : Nat) : Prop :=
  ∃ (p : Nat) (seed : Int), Lies w g 94 [.slice A n cap, .int .i64 p, .int .u64 seed] ∧ p ≤ m ∧ 0 ≤ seed ∧ seed < 18446744073709551616

set_option maxHeartbeats 1000000 in
theorem next_any (g : Nat) (A : Option Addr) (cap m : Nat) (bs : List UInt8) (w : World) (hm : m ≤ 1000000000) (hc : CurS w g A bs.length cap m) (hr : BytesR w g A bs) :
    Calls Try.prog 92 #[.pointer (some ⟨g, 0, none⟩)] w fun e w' => ∃ b : Nat, e = .returned (.int .i64 b) ∧ b ≤ 255 ∧ CurS w' g A bs.length cap (m + 1) ∧ w.grownBy w' (some g) := by
  obtain ⟨p, seed, hL, hp, hs0, hs1⟩ := hc
  have hl := hr.big
  have k0 := hL.cell 0
  have k1 := hL.cell 1
  have k2 := hL.cell 2
  have f1 := hL.frozen 1
  have f2 := hL.frozen 2
  simp only [List.getElem?_cons_zero, List.getElem?_cons_succ] at k0 k1 k2
  by_cases hlt : p < bs.length
  · obtain ⟨b, off, rfl, hb, hcell⟩ := hr.at_ (by omega)
    have kc := hcell p (.int .u8 (bs[p].toNat : Int)) (by simp [hlt])
    have hx : bs[p].toNat < 256 := bs[p].toNat_lt
    generalize bs[p].toNat = x at kc hx
    clear hcell hr
    go_enter Try.func92, Try.ntmps92
    go_wp2
    go_region
    go_wp2
    go_region
    go_wp2
    go_region
    go_wp2
    · go_ret
      exact ⟨x, rfl, by omega, ⟨p + 1, _, (hL.set 1 _).set 2 _, by omega, (wrap_u64 _).1, (wrap_u64 _).2⟩, grown_drew (grown_drew (grown_drew (grown_set (grown_set (World.grownBy.refl w _)))))⟩
  · clear hr
    go_enter Try.func92, Try.ntmps92
    go_wp2
    go_region
    go_wp2
    go_region
    go_wp2
    · have hw := wrap_u64 (IntKind.u64.wrap (IntKind.u64.wrap (seed * 6364136223846793005)) + 381907)
      obtain ⟨y, hy, he⟩ := and255 (IntKind.u64.wrap (IntKind.u64.wrap (IntKind.u64.wrap (seed * 6364136223846793005)) + 381907) / 1099511627776) (Int.ediv_nonneg hw.1 (by omega)) (by omega)
      rw [he]
      go_ret
      exact ⟨y, rfl, hy, ⟨p + 1, _, (hL.set 1 _).set 2 _, by omega, hw.1, hw.2⟩, grown_drew (grown_drew (grown_set (grown_set (World.grownBy.refl w _))))⟩

theorem CurS.mono {w : World} {g : Nat} {A : Option Addr} {n cap m m' : Nat} (h : CurS w g A n cap m) (hm : m ≤ m') : CurS w g A n cap m' := by
  obtain ⟨p, s, h1, h2, h3⟩ := h
  exact ⟨p, s, h1, by omega, h3⟩
theorem CurS.lt {w : World} {g : Nat} {A : Option Addr} {n cap m : Nat} (h : CurS w g A n cap m) : g < w.heap.size := by
  obtain ⟨p, s, h1, _⟩ := h
  exact h1.lt
/-- Others than the cursor's own block read as before. -/
theorem SlcR.grown {w w' : World} {B k n g : Nat} {A : Option Addr} {cs : List Value} (h : SlcR w B k A n cs) (hg : w.grownBy w' (some g)) (hB : B ≤ g) (hgw : g < w.heap.size) : SlcR w' B k A n cs :=
  h.keep fun p hp => grown_cell hg p (by omega) (by intro e; injection e; omega)

set_option maxHeartbeats 1000000 in
theorem pick_any (g : Nat) (A : Option Addr) (cap m n : Nat) (bs : List UInt8) (w : World) (hn : n ≤ 100000) (hm : m ≤ 900000000) (hc : CurS w g A bs.length cap m) (hr : BytesR w g A bs) :
    Calls Try.prog 65 #[.pointer (some ⟨g, 0, none⟩), .int .i64 n] w fun e w' => ∃ x : Nat, e = .returned (.int .i64 x) ∧ x ≤ n - 1 ∧ CurS w' g A bs.length cap (m + 2) ∧ w.grownBy w' (some g) := by
  by_cases h1 : n ≤ 1
  · have h1' : (n : Int) ≤ 1 := by omega
    go_enter Try.func65, Try.ntmps65
    go_wp2
    go_ret
    exact ⟨0, rfl, by omega, hc.mono (by omega), World.grownBy.refl w _⟩
  · have h1' : ¬ (n : Int) ≤ 1 := by omega
    have hz : ((n : Int) == 0) = false := by rw [beq_eq_false_iff_ne]; omega
    have hz2 : (n : Int) ≠ 0 := by omega
    by_cases h2 : n ≤ 200
    · go_enter Try.func65, Try.ntmps65
      go_wp2_with fail
      refine (next_any g A cap m bs _ (by omega) hc hr).mono ?_
      rintro e w1 ⟨b, rfl, hb, hc1, hg1⟩
      go_wp2
      go_ret
      refine ⟨b % n, by rw [Int.natCast_emod]; rfl, ?_, hc1.mono (by omega), hg1⟩
      have := Nat.mod_lt b (show 0 < n by omega)
      omega
    · go_enter Try.func65, Try.ntmps65
      go_wp2_with fail
      refine (next_any g A cap m bs _ (by omega) hc hr).mono ?_
      rintro e w1 ⟨b, rfl, hb, hc1, hg1⟩
      go_wp2_with fail
      refine (next_any g A cap (m + 1) bs _ (by omega) hc1 (hr.grown hg1 (Nat.le_refl _) hc.lt)).mono ?_
      rintro e w2 ⟨b2, rfl, hb2, hc2, hg2⟩
      go_wp2
      go_ret
      refine ⟨(b * 256 + b2) % n, by rw [Int.natCast_emod]; rfl, ?_, hc2, grown_trans hg1 hg2⟩
      have := Nat.mod_lt (b * 256 + b2) (show 0 < n by omega)
      omega

theorem one_any (g : Nat) (A : Option Addr) (cap m n : Nat) (bs : List UInt8) (w : World) (hn : n ≤ 100000) (hm : m ≤ 900000000) (hc : CurS w g A bs.length cap m) (hr : BytesR w g A bs) :
    Calls Try.prog 66 #[.pointer (some ⟨g, 0, none⟩), .int .i64 n] w fun e w' => ∃ x : Bool, e = .returned (.bool x) ∧ CurS w' g A bs.length cap (m + 2) ∧ w.grownBy w' (some g) := by
  go_enter Try.func66, Try.ntmps66
  go_wp2_with fail
  refine (pick_any g A cap m n bs _ hn hm hc hr).mono ?_
  rintro e w1 ⟨b, rfl, hb, hc1, hg1⟩
  go_wp2
  go_ret
  exact ⟨_, rfl, hc1, hg1⟩

theorem among_any (g : Nat) (A A' : Option Addr) (cap c' m : Nat) (bs : List UInt8) (l : List Int) (w : World) (hl : 0 < l.length) (hl' : l.length ≤ 100000) (hm : m ≤ 900000000) (hc : CurS w g A bs.length cap m) (hr : BytesR w g A bs) (hi : IntsR w w.heap.size A' l) (hne : A'.map (·.block) ≠ some g) :
    Calls Try.prog 90 #[.pointer (some ⟨g, 0, none⟩), .slice A' l.length c'] w fun e w' => ∃ x : Int, e = .returned (.int .i64 x) ∧ x ∈ l ∧ CurS w' g A bs.length cap (m + 2) ∧ w.grownBy w' (some g) := by
  obtain ⟨b, off, rfl, hb, hcell⟩ := hi.at_ hl
  go_enter Try.func90, Try.ntmps90
  go_wp2_with fail
  refine (pick_any g A cap m l.length bs _ hl' hm hc hr).mono ?_
  rintro e w1 ⟨x, rfl, hx, hc1, hg1⟩
  have hlt : x < l.length := by omega
  have kc : w1.cell? ⟨b, off + x, none⟩ = some (.int .i64 l[x]) := by
    rw [grown_cell hg1 _ hb (by simpa using hne)]; exact hcell x _ (by simp [hlt])
  have hmem : l[x] ∈ l := List.getElem_mem hlt
  generalize l[x] = y at kc hmem
  go_wp2
  go_ret
  exact ⟨y, rfl, hmem, hc1, hg1⟩
end Go.Proofs.Ytdiojhjkcholiaa

/- The drawing cursor, as drawing functions carry it. -/
namespace Go.Proofs.Ytdiojhjkcholiaa
open Go.RowKit

/-- The cursor at block g, in a world W that came from w. -/
structure Env (w W : World) (g : Nat) (A : Option Addr) (bs : List UInt8) (cap m : Nat) : Prop where
  cur : CurS W g A bs.length cap m
  rd : BytesR W g A bs
  gr : w.grownBy W (some g)
section
variable {w W : World} {g : Nat} {A : Option Addr} {bs : List UInt8} {cap m : Nat}
theorem grown_alloc {a w : World} {row : Option Nat} (h : a.grownBy w row) (o : Obj) : a.grownBy (w.alloc o) row := grown_trans h (World.grownBy_alloc w o row)
theorem CurS.alloc {n : Nat} (h : CurS W g A n cap m) (o : Obj) : CurS (W.alloc o) g A n cap m := by
  obtain ⟨p, s, h1, h2⟩ := h
  exact ⟨p, s, h1.alloc o, h2⟩
theorem CurS.kept {W' : World} {n : Nat} {row : Option Nat} (h : CurS W g A n cap m) (hb : W.grownBy W' row) (hne : some g ≠ row) : CurS W' g A n cap m := by
  obtain ⟨p, s, h1, h2⟩ := h
  exact ⟨p, s, h1.kept hb hne, h2⟩
theorem Env.alloc (E : Env w W g A bs cap m) (o : Obj) : Env w (W.alloc o) g A bs cap m :=
  ⟨E.cur.alloc o, E.rd.grown (World.grownBy_alloc W o (some g)) (Nat.le_refl _) E.cur.lt, grown_alloc E.gr o⟩
theorem Env.lt (E : Env w W g A bs cap m) : g < W.heap.size := E.cur.lt
/-- A block of the call's own is written. -/
theorem Env.wrote {W' : World} {h : Nat} (E : Env w W g A bs cap m) (hb : W.grownBy W' (some h)) (hw : w.heap.size ≤ h) (hgh : g < h) : Env w W' g A bs cap m :=
  ⟨E.cur.kept hb (by intro e; injection e; omega), E.rd.keep fun p hp => grown_cell hb p (by have := E.lt; omega) (by intro e; injection e; omega),
   ⟨hb.os.trans E.gr.os, hb.tape.trans E.gr.tape, hb.output.trans E.gr.output, Nat.le_trans E.gr.size hb.size, fun j hj hn => (hb.block j (Nat.lt_of_lt_of_le hj E.gr.size) (by intro e; injection e; omega)).trans (E.gr.block j hj hn)⟩⟩
theorem Env.mono {m' : Nat} (E : Env w W g A bs cap m) (hm : m ≤ m') : Env w W g A bs cap m' := ⟨E.cur.mono hm, E.rd, E.gr⟩
theorem Env.next {W' : World} {m' : Nat} (E : Env w W g A bs cap m) (hc : CurS W' g A bs.length cap m') (hg : W.grownBy W' (some g)) : Env w W' g A bs cap m' :=
  ⟨hc, E.rd.grown hg (Nat.le_refl _) E.lt, grown_trans E.gr hg⟩
theorem Env.start (hc : CurS w g A bs.length cap m) (hr : BytesR w g A bs) : Env w w g A bs cap m := ⟨hc, hr, World.grownBy.refl w _⟩

theorem pick_env (E : Env w W g A bs cap m) (n : Nat) (hn : n ≤ 100000) (hm : m ≤ 900000000) :
    Calls Try.prog 65 #[.pointer (some ⟨g, 0, none⟩), .int .i64 n] W fun e w' => ∃ x : Nat, e = .returned (.int .i64 x) ∧ x ≤ n - 1 ∧ Env w w' g A bs cap (m + 2) ∧ W.grownBy w' (some g) :=
  (pick_any g A cap m n bs W hn hm E.cur E.rd).mono fun _ _ ⟨x, he, hx, hc, hg⟩ => ⟨x, he, hx, E.next hc hg, hg⟩
theorem one_env (E : Env w W g A bs cap m) (n : Nat) (hn : n ≤ 100000) (hm : m ≤ 900000000) :
    Calls Try.prog 66 #[.pointer (some ⟨g, 0, none⟩), .int .i64 n] W fun e w' => ∃ x : Bool, e = .returned (.bool x) ∧ Env w w' g A bs cap (m + 2) ∧ W.grownBy w' (some g) :=
  (one_any g A cap m n bs W hn hm E.cur E.rd).mono fun _ _ ⟨x, he, hc, hg⟩ => ⟨x, he, E.next hc hg, hg⟩
/-- One of a list that was built for the call. -/
theorem among_env (E : Env w W g A bs cap m) (l : List Int) (k : Nat) (hk : l.length = k) (vs : Array Value) (hv : vs.toList = encIs l) (hl : 0 < k) (hl' : k ≤ 100000) (hm : m ≤ 900000000) :
    Calls Try.prog 90 #[.pointer (some ⟨g, 0, none⟩), .slice (some ⟨W.heap.size, 0, none⟩) k k] (W.alloc (.cells vs 3)) fun e w' => ∃ x : Int, e = .returned (.int .i64 x) ∧ x ∈ l ∧ Env w w' g A bs cap (m + 2) ∧ W.grownBy w' (some g) := by
  subst hk
  have E1 := E.alloc (.cells vs 3)
  have hL := Lies.new W 3 vs
  rw [hv] at hL
  have hi : IntsR (W.alloc (.cells vs 3)) (W.alloc (.cells vs 3)).heap.size (some ⟨W.heap.size, 0, none⟩) l := hL.reads (encIs_len l) (by omega)
  refine (among_any g A _ cap _ m bs l _ hl hl' hm E1.cur E1.rd hi (by have := E.lt; intro e; injection e with e; simp only at e; omega)).mono ?_
  rintro e w' ⟨x, he, hx, hc, hg⟩
  exact ⟨x, he, hx, E1.next hc hg, grown_trans (World.grownBy_alloc W _ _) hg⟩
end
end Go.Proofs.Ytdiojhjkcholiaa

/- A region whose order is drawn, by one fact on each operation: no orders are walked. -/
namespace Go.Proofs.Ytdiojhjkcholiaa
open Go.RowKit

section
variable {P : Program} {ops : Array Oper} {Q : Exit → Act → World → Prop} {md : Region.Mode}

/-- The values vs in the temporaries of the operations. -/
def fillOps (vs : Nat → Value) : List Oper → Nat → Act → Act
  | [], _, a => a
  | o :: l, k, a => fillOps vs l (k + 1) (a.put o.dst (vs k))
def dstsApart : List Oper → Bool
  | [] => true
  | o :: l => l.all (fun p => match o.dst with | none => true | some d => p.dst != some d) && dstsApart l
def upd (vs : Nat → Value) (i : Nat) (v : Value) : Nat → Value := fun j => if j = i then v else vs j

theorem fillOps_put (vs : Nat → Value) {d : Option Tmp} {v : Value} : ∀ (l : List Oper) (k : Nat) (a : Act), (∀ p ∈ l, ∀ t, d = some t → p.dst ≠ some t) → (fillOps vs l k a).put d v = fillOps vs l k (a.put d v)
  | [], _, _, _ => rfl
  | o :: l, k, a, h => by
    unfold fillOps
    rw [fillOps_put vs l (k + 1) _ (fun p hp => h p (List.mem_cons_of_mem _ hp))]
    rw [Act.put_comm a (vs k) v (x := o.dst) (y := d) (fun t ht hd => h o (by simp) t hd ht)]
theorem fillOps_congr {vs vs' : Nat → Value} : ∀ (l : List Oper) (k : Nat) (a : Act), (∀ j, k ≤ j → vs j = vs' j) → fillOps vs l k a = fillOps vs' l k a
  | [], _, _, _ => rfl
  | o :: l, k, a, h => by
    unfold fillOps
    rw [h k (Nat.le_refl _), fillOps_congr l (k + 1) _ (fun j hj => h j (by omega))]
theorem Act.put_put (a : Act) (d : Option Tmp) (u v : Value) : (a.put d u).put d v = a.put d v := by
  cases d with
  | none => rfl
  | some d =>
    simp only [Act.put]
    congr 1
    apply Array.ext (by simp)
    intro i h1 h2
    simp
theorem fillOps_upd : ∀ (l : List Oper) (k : Nat) (a : Act) (vs : Nat → Value) (i : Nat) (o : Oper) (v : Value), dstsApart l = true → l[i]? = some o →
    (fillOps vs l k a).put o.dst v = fillOps (upd vs (k + i) v) l k a
  | [], _, _, _, _, _, _, _, h => by simp at h
  | p :: l, k, a, vs, 0, o, v, hd, h => by
    simp only [List.getElem?_cons_zero, Option.some.injEq] at h; subst h
    simp only [dstsApart, Bool.and_eq_true, List.all_eq_true] at hd
    unfold fillOps
    rw [fillOps_put vs l (k + 1) _ (fun q hq t ht => by
      have := hd.1 q hq; rw [ht] at this; simpa using this), Act.put_put]
    rw [fillOps_congr (vs := vs) (vs' := upd vs (k + 0) v) l (k + 1) _ (fun j hj => by unfold upd; rw [if_neg (by omega)])]
    congr 2
    simp [upd]
  | p :: l, k, a, vs, i + 1, o, v, hd, h => by
    simp only [dstsApart, Bool.and_eq_true] at hd
    unfold fillOps
    rw [fillOps_upd l (k + 1) _ vs i o v hd.2 (by simpa using h)]
    have : k + 1 + i = k + (i + 1) := by omega
    rw [this]
    congr 2
    unfold upd; rw [if_neg (by omega)]
theorem Act.put_self (a : Act) (t : Tmp) (u : Value) : a.put (some t) (a.tmps.getD t u) = a := by
  simp only [Act.put]
  obtain ⟨tmps, defers⟩ := a
  congr 1
  apply Array.ext_getElem?
  intro i
  by_cases e : t = i
  · subst e
    by_cases h2 : t < tmps.size
    · simp [h2]
    · simp [h2]
  · rw [Array.getElem?_setIfInBounds_ne e]
theorem fillOps_self (vs : Nat → Value) : ∀ (l : List Oper) (k : Nat) (a : Act), (∀ i o t, l[i]? = some o → o.dst = some t → vs (k + i) = a.tmps.getD t undef) → fillOps vs l k a = a
  | [], _, _, _ => rfl
  | o :: l, k, a, h => by
    unfold fillOps
    have e : a.put o.dst (vs k) = a := by
      cases hd : o.dst with
      | none => rfl
      | some t =>
        have h0 := h 0 o t (by simp) hd
        rw [Nat.add_zero] at h0
        rw [h0, Act.put_self]
    rw [e]
    exact fillOps_self vs l (k + 1) a (fun i o' t h1 h2 => by
      have := h (i + 1) o' t (by simpa using h1) h2
      rwa [show k + (i + 1) = k + 1 + i by omega] at this)

/-- j comes ahead of k, whatever order is drawn. -/
def ahead (md : Region.Mode) (ops : Array Oper) : Nat → Nat → Nat → Bool
  | 0, _, _ => false
  | fuel + 1, k, j => match ops[k]? with
    | none => false
    | some o => o.after.any fun e => Region.binds md e && (e.on == j || ahead md ops fuel e.on j)
def edgesDown (md : Region.Mode) (ops : Array Oper) : Bool :=
  (List.range ops.size).all fun k => match ops[k]? with
    | none => true
    | some o => o.after.all fun e => !Region.binds md e || decide (e.on < k)

def Closed (md : Region.Mode) (ops : Array Oper) (listed : Array Bool) : Prop :=
  ∀ j o, ops[j]? = some o → listed.getD j false = true → ∀ e ∈ o.after, Region.binds md e = true → listed.getD e.on false = true

theorem ahead_listed {listed : Array Bool} (hc : Closed md ops listed) : ∀ (fuel k j : Nat), (∀ o, ops[k]? = some o → ∀ e ∈ o.after, Region.binds md e = true → listed.getD e.on false = true) → ahead md ops fuel k j = true → listed.getD j false = true
  | 0, _, _, _, h => by simp [ahead] at h
  | fuel + 1, k, j, hk, h => by
    unfold ahead at h
    cases ho : ops[k]? with
    | none => simp [ho] at h
    | some o =>
      simp only [ho] at h
      obtain ⟨e, he, hb⟩ := Array.any_eq_true'.1 h
      simp only [Bool.and_eq_true, Bool.or_eq_true, beq_iff_eq] at hb
      have h1 := hk o ho e he hb.1
      rcases hb.2 with h2 | h2
      · rw [← h2]; exact h1
      · exact ahead_listed hc fuel e.on j (fun o' ho' => hc e.on o' ho' h1) h2

/-- The walk: a fact R on each operation's value; the facts of those that come ahead are at hand. -/
def wpFacts (P : Program) (ops : Array Oper) (Q : Exit → Act → World → Prop) (C : World → Prop) (T : World → World → Prop) (fr : (Nat → Value) → Act) : Nat → List Oper → List (Value → World → Prop) → Prop
  | _, [], Rs => ∀ vs w, C w → (∀ (j : Nat) (R : Value → World → Prop), Rs[j]? = some R → R (vs j) w) → Q .normal (fr vs) w
  | k, o :: l, Rs => ∃ R : Value → World → Prop, (∀ v w w', R v w → T w w' → R v w') ∧
    (∀ vs w, C w → (∀ (j : Nat) (R' : Value → World → Prop), ahead .any ops ops.size k j = true → Rs[j]? = some R' → R' (vs j) w) → ∀ K : Act → World → Prop, (∀ a' v w', a' = (fr vs).put o.dst v → R v w' → C w' → T w w' → K a' w') →
      if Region.wanted o (yielded ops (fr vs).tmps) = true then o.wp P (fr vs) w K Q else K ((fr vs).put o.dst undef) w) ∧
    wpFacts P ops Q C T fr (k + 1) l (Rs ++ [R])

/-- What the walk gives: the facts, one for each operation. -/
theorem wpFacts_all {C : World → Prop} {T : World → World → Prop} {fr : (Nat → Value) → Act} : ∀ (l : List Oper) (k : Nat) (Rs : List (Value → World → Prop)), (∀ i, l[i]? = ops[k + i]?) → Rs.length = k →
    (∀ (j : Nat) (R : Value → World → Prop), Rs[j]? = some R → ∀ v w w', R v w → T w w' → R v w') →
    (∀ (j : Nat) (o : Oper) (R : Value → World → Prop), j < k → ops[j]? = some o → Rs[j]? = some R → ∀ vs w, C w → (∀ (j' : Nat) (R' : Value → World → Prop), ahead .any ops ops.size j j' = true → j' < j → Rs[j']? = some R' → R' (vs j') w) → ∀ K : Act → World → Prop, (∀ a' v w', a' = (fr vs).put o.dst v → R v w' → C w' → T w w' → K a' w') →
      if Region.wanted o (yielded ops (fr vs).tmps) = true then o.wp P (fr vs) w K Q else K ((fr vs).put o.dst undef) w) →
    wpFacts P ops Q C T fr k l Rs →
    ∃ Rs' : List (Value → World → Prop), Rs'.length = k + l.length ∧ (∀ (j : Nat) (R : Value → World → Prop), Rs'[j]? = some R → ∀ v w w', R v w → T w w' → R v w') ∧
    (∀ (j : Nat) (o : Oper) (R : Value → World → Prop), ops[j]? = some o → Rs'[j]? = some R → ∀ vs w, C w → (∀ (j' : Nat) (R' : Value → World → Prop), ahead .any ops ops.size j j' = true → j' < j → Rs'[j']? = some R' → R' (vs j') w) → ∀ K : Act → World → Prop, (∀ a' v w', a' = (fr vs).put o.dst v → R v w' → C w' → T w w' → K a' w') →
      if Region.wanted o (yielded ops (fr vs).tmps) = true then o.wp P (fr vs) w K Q else K ((fr vs).put o.dst undef) w) ∧
    (∀ vs w, C w → (∀ (j : Nat) (R : Value → World → Prop), Rs'[j]? = some R → R (vs j) w) → Q .normal (fr vs) w)
  | [], k, Rs, hl, hlen, hst, hop, h => by
    refine ⟨Rs, by simpa using hlen, hst, fun j o R ho hR => hop j o R ?_ ho hR, h⟩
    rw [← hlen]; exact (List.getElem?_eq_some_iff.1 hR).1
  | o :: l, k, Rs, hl, hlen, hst, hop, h => by
    obtain ⟨R, hRs, hRo, hrest⟩ := h
    have ho : ops[k]? = some o := by simpa using (hl 0).symm
    have hold : ∀ j, j < k → (Rs ++ [R])[j]? = Rs[j]? := fun j hj => List.getElem?_append_left (by omega)
    have hnew : (Rs ++ [R])[k]? = some R := by rw [List.getElem?_append_right (by omega), hlen]; simp
    obtain ⟨Rs', h1, h2, h3, h4⟩ := wpFacts_all l (k + 1) (Rs ++ [R]) (fun i => by have := hl (i + 1); simpa [Nat.add_assoc, Nat.add_comm 1 i] using this) (by simp [hlen])
      (fun j R' hR' => by
        rcases Nat.lt_trichotomy j k with hj | hj | hj
        · rw [hold j hj] at hR'; exact hst j R' hR'
        · subst hj; rw [hnew] at hR'; cases hR'; exact hRs
        · rw [List.getElem?_eq_none (by simp [hlen]; omega)] at hR'; cases hR')
      (fun j o' R' hj ho' hR' vs w hC hB K hK => by
        rcases Nat.lt_or_ge j k with hjk | hjk
        · rw [hold j hjk] at hR'
          exact hop j o' R' hjk ho' hR' vs w hC (fun j' R'' ha hlt h'' => hB j' R'' ha hlt (by rw [hold j' (by omega)]; exact h'')) K hK
        · obtain rfl : j = k := by omega
          rw [ho] at ho'; cases ho'
          rw [hnew] at hR'; cases hR'
          refine hRo vs w hC (fun j' R'' ha h'' => ?_) K hK
          have hlt : j' < Rs.length := (List.getElem?_eq_some_iff.1 h'').1
          exact hB j' R'' ha (by omega) (by rw [hold j' (by omega)]; exact h''))
      hrest
    exact ⟨Rs', by rw [h1]; simp; omega, h2, h3, h4⟩

theorem listed_ready {listed : Array Bool} (hdn : edgesDown .any ops = true) (hsz : listed.size = ops.size) (hr : Region.ready .any ops listed = []) : ∀ j, j < ops.size → listed.getD j false = true := by
  intro j
  induction j using Nat.strongRecOn with
  | ind j ih =>
    intro hj
    rcases hb : listed.getD j false with _ | _
    · exfalso
      have hmem : j ∈ Region.ready .any ops listed := by
        rw [mem_ready]
        refine ⟨?_, ops[j], Array.getElem?_eq_getElem hj, fun e he hbd => ?_⟩
        · have : j < listed.size := by omega
          simp only [Array.getD, this, ↓reduceDIte] at hb ⊢
          exact hb
        · have h1 := List.all_eq_true.1 hdn j (List.mem_range.2 hj)
          rw [Array.getElem?_eq_getElem hj] at h1
          have h2 := Array.all_eq_true_iff_forall_mem.1 h1 e he
          simp only [hbd, Bool.not_true, Bool.false_or, decide_eq_true_eq] at h2
          exact ih e.on h2 (by omega)
      rw [hr] at hmem; cases hmem
    · rfl

/-- How many have not come up. -/
def unlisted (n : Nat) (listed : Array Bool) : Nat := ((List.range n).filter fun j => !listed.getD j false).length
theorem unlisted_set {n i : Nat} {listed : Array Bool} (hi : i < n) (hs : listed.size = n) (h : listed.getD i false = false) : unlisted n (listed.setIfInBounds i true) < unlisted n listed := by
  unfold unlisted
  have e : ∀ l : List Nat, (l.filter fun j => !(listed.setIfInBounds i true).getD j false) = (l.filter fun j => !listed.getD j false).filter (fun j => j != i) := by
    intro l
    rw [List.filter_filter]
    apply List.filter_congr
    intro j _
    by_cases hji : j = i
    · subst hji; have : j < listed.size := by omega
      simp [this]
    · rw [getD_set_ne false (Ne.symm hji)]; simp [hji]
  rw [e]
  have hm : i ∈ (List.range n).filter fun j => !listed.getD j false := List.mem_filter.2 ⟨List.mem_range.2 hi, by rw [h]; rfl⟩
  generalize (List.range n).filter (fun j => !listed.getD j false) = l at hm
  clear e
  induction l with
  | nil => cases hm
  | cons x l ih =>
    rw [List.filter_cons]
    split
    · rename_i hx
      rcases List.mem_cons.1 hm with h' | h'
      · simp [h'] at hx
      · simpa using ih h'
    · exact Nat.lt_succ_of_le (List.length_filter_le _ _)

theorem wpAny_facts {C : World → Prop} {T : World → World → Prop} {a₀ : Act} (hap : dstsApart ops.toList = true) (hdn : edgesDown .any ops = true) (Rs : List (Value → World → Prop)) (hlen : Rs.length = ops.size)
    (hst : ∀ (j : Nat) (R : Value → World → Prop), Rs[j]? = some R → ∀ v w w', R v w → T w w' → R v w')
    (hop : ∀ (j : Nat) (o : Oper) (R : Value → World → Prop), ops[j]? = some o → Rs[j]? = some R → ∀ vs w, C w → (∀ (j' : Nat) (R' : Value → World → Prop), ahead .any ops ops.size j j' = true → j' < j → Rs[j']? = some R' → R' (vs j') w) → ∀ K : Act → World → Prop, (∀ a' v w', a' = (fillOps vs ops.toList 0 a₀).put o.dst v → R v w' → C w' → T w w' → K a' w') →
      if Region.wanted o (yielded ops (fillOps vs ops.toList 0 a₀).tmps) = true then o.wp P (fillOps vs ops.toList 0 a₀) w K Q else K ((fillOps vs ops.toList 0 a₀).put o.dst undef) w)
    (hend : ∀ vs w, C w → (∀ (j : Nat) (R : Value → World → Prop), Rs[j]? = some R → R (vs j) w) → Q .normal (fillOps vs ops.toList 0 a₀) w) :
    ∀ (fuel : Nat) (listed : Array Bool) (vs : Nat → Value) (w : World), listed.size = ops.size → unlisted ops.size listed ≤ fuel → Closed .any ops listed → C w → (∀ (j : Nat) (R : Value → World → Prop), listed.getD j false = true → Rs[j]? = some R → R (vs j) w) →
      wpAny P .any ops Q fuel listed (fillOps vs ops.toList 0 a₀) w := by
  have hfin : ∀ (listed : Array Bool) (vs : Nat → Value) (w : World), listed.size = ops.size → C w → (∀ (j : Nat) (R : Value → World → Prop), listed.getD j false = true → Rs[j]? = some R → R (vs j) w) → Region.ready .any ops listed = [] → Q .normal (fillOps vs ops.toList 0 a₀) w :=
    fun listed vs w hs hC hR hr => hend vs w hC fun j R hj => hR j R (listed_ready hdn hs hr j (by rw [← hlen]; exact (List.getElem?_eq_some_iff.1 hj).1)) hj
  intro fuel
  induction fuel with
  | zero =>
    intro listed vs w hs hu hcl hC hR
    have hr : Region.ready .any ops listed = [] := by
      rw [List.eq_nil_iff_forall_not_mem]
      intro j hj
      obtain ⟨h0, o, ho, _⟩ := mem_ready.1 hj
      have hjs : j < ops.size := (Array.getElem?_eq_some_iff.1 ho).1
      have : unlisted ops.size (listed.setIfInBounds j true) < unlisted ops.size listed := unlisted_set hjs hs (by
        have : j < listed.size := by omega
        simp only [Array.getD, this, ↓reduceDIte] at h0 ⊢; exact h0)
      omega
    exact ⟨hr, hfin listed vs w hs hC hR hr⟩
  | succ fuel ih =>
    intro listed vs w hs hu hcl hC hR
    refine ⟨hfin listed vs w hs hC hR, fun i hi => ?_⟩
    obtain ⟨h0, o, ho, hall⟩ := mem_ready.1 hi
    have hisz : i < ops.size := (Array.getElem?_eq_some_iff.1 ho).1
    have hil : i < listed.size := by omega
    have h0' : listed.getD i false = false := by simp only [Array.getD, hil, ↓reduceDIte] at h0 ⊢; exact h0
    obtain ⟨R, hRi⟩ : ∃ R, Rs[i]? = some R := ⟨Rs[i]'(by omega), List.getElem?_eq_getElem (by omega)⟩
    have hstep := hop i o R ho hRi vs w hC (fun j' R' ha _ hR' => hR j' R' (ahead_listed hcl ops.size i j' (fun o' ho' => by rw [ho] at ho'; cases ho'; exact hall) ha) hR')
      (wpAny P .any ops Q fuel (listed.setIfInBounds i true)) (fun a' v w' ha hRv hC' hT => by
        rw [ha, fillOps_upd ops.toList 0 a₀ vs i o v hap (by simpa using ho), Nat.zero_add]
        refine ih _ _ _ (by simpa using hs) ?_ ?_ hC' ?_
        · have := unlisted_set hisz hs h0'; omega
        · intro j oj hoj hj e he hb
          by_cases hji : j = i
          · subst hji; rw [ho] at hoj; cases hoj; exact getD_set_true (hall e he hb)
          · rw [getD_set_ne false (Ne.symm hji)] at hj; exact getD_set_true (hcl j oj hoj hj e he hb)
        · intro j R' hj hR'
          by_cases hji : j = i
          · subst hji; rw [hRi] at hR'; cases hR'; simpa [upd] using hRv
          · rw [getD_set_ne false (Ne.symm hji)] at hj
            have := hst j R' hR' _ _ _ (hR j R' hj hR') hT
            simpa [upd, hji] using this)
    unfold wpOp
    simp only [ho]
    split
    · rename_i hw; rw [if_pos hw] at hstep; exact .inl hstep
    · rename_i hw; rw [if_neg hw] at hstep; exact hstep

/-- The region. -/
theorem wp_region_facts {id : Nat} {a : Act} {w : World} {l : List Oper} (C : World → Prop) (T : World → World → Prop) (hm : P.follows .mixedOrders = true) (hap : dstsApart l = true) (hdn : edgesDown .any l.toArray = true)
    (hC : C w.drew) (h : wpFacts P l.toArray Q C T (fun vs => fillOps vs l 0 a) 0 l []) : (Code.region id l.toArray true).wp P Q a w := by
  refine wp_region_any hm ?_
  obtain ⟨Rs, h1, h2, h3, h4⟩ := wpFacts_all (ops := l.toArray) l 0 [] (by simp) rfl (by simp) (by simp) h
  obtain ⟨vs, hvs⟩ : ∃ vs : Nat → Value, ∀ i o t, l[i]? = some o → o.dst = some t → vs (0 + i) = a.tmps.getD t undef :=
    ⟨fun i => match (l[i]?).bind (·.dst) with | some t => a.tmps.getD t undef | none => undef, fun i o t hi ht => by simp [hi, ht]⟩
  have := wpAny_facts (P := P) (Q := Q) (ops := l.toArray) (C := C) (T := T) (a₀ := a) hap hdn Rs (by simpa using h1) h2 h3 h4 l.toArray.size (Array.replicate l.toArray.size false) vs w.drew (by simp)
    (Nat.le_trans (List.length_filter_le _ _) (by simp)) (fun j o hj hl => by simp [Array.getD] at hl) hC (fun j R hl => by simp [Array.getD] at hl)
  rwa [fillOps_self vs _ 0 a (by simpa using hvs)] at this

theorem wpFacts_nil {C : World → Prop} {T : World → World → Prop} {fr : (Nat → Value) → Act} {k : Nat} {Rs : List (Value → World → Prop)} (h : ∀ vs w, C w → (∀ (j : Nat) (R : Value → World → Prop), Rs[j]? = some R → R (vs j) w) → Q .normal (fr vs) w) : wpFacts P ops Q C T fr k [] Rs := h
/-- An operation with one value. -/
theorem wpFacts_val {C : World → Prop} {T : World → World → Prop} {fr : (Nat → Value) → Act} {k : Nat} {o : Oper} {l : List Oper} {Rs : List (Value → World → Prop)} (V : Value)
    (h1 : ∀ vs w, C w → (∀ (j : Nat) (R' : Value → World → Prop), ahead .any ops ops.size k j = true → Rs[j]? = some R' → R' (vs j) w) → ∀ K : Act → World → Prop, (∀ a' w', a' = (fr vs).put o.dst V → C w' → T w w' → K a' w') →
      if Region.wanted o (yielded ops (fr vs).tmps) = true then o.wp P (fr vs) w K Q else K ((fr vs).put o.dst undef) w)
    (h2 : wpFacts P ops Q C T fr (k + 1) l (Rs ++ [fun v _ => v = V])) : wpFacts P ops Q C T fr k (o :: l) Rs :=
  ⟨fun v _ => v = V, fun _ _ _ h _ => h, fun vs w hC hB K hK => h1 vs w hC hB K fun a' w' ha hC' hT => hK a' V w' ha rfl hC' hT, h2⟩
/-- An operation whose value has a property. -/
theorem wpFacts_some {C : World → Prop} {T : World → World → Prop} {fr : (Nat → Value) → Act} {k : Nat} {o : Oper} {l : List Oper} {Rs : List (Value → World → Prop)} (R : Value → World → Prop) (hR : ∀ v w w', R v w → T w w' → R v w')
    (h1 : ∀ vs w, C w → (∀ (j : Nat) (R' : Value → World → Prop), ahead .any ops ops.size k j = true → Rs[j]? = some R' → R' (vs j) w) → ∀ K : Act → World → Prop, (∀ a' v w', a' = (fr vs).put o.dst v → R v w' → C w' → T w w' → K a' w') →
      if Region.wanted o (yielded ops (fr vs).tmps) = true then o.wp P (fr vs) w K Q else K ((fr vs).put o.dst undef) w)
    (h2 : wpFacts P ops Q C T fr (k + 1) l (Rs ++ [R])) : wpFacts P ops Q C T fr k (o :: l) Rs :=
  ⟨R, hR, h1, h2⟩
end
end Go.Proofs.Ytdiojhjkcholiaa
