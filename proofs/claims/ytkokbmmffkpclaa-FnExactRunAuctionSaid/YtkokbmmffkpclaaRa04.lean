/- Ra04: the texts LotStA LotStBid LotStKnock LotStAdd LotStDrop LotStOpen LotStAgain LotStZ RunAI StepOps, joined into one file. -/
import Derived.Deep.DeepCutAuto
import Derived.Test.YtkokbmmffkpclaaRa01
import Derived.Test.YtkokbmmffkpclaaRa03

set_option linter.unusedVariables false

/- A step of an auction in the program. (Printed by gen_lotstep.py) -/
namespace Go.Proofs.Ytkokbmmffkpclaa
open Go.RowKit

/-- A step gives lots of the call's own where it is possible. -/
def GivesMk (w : World) (R : Option (List Lot)) (e : Ending) (w' : World) : Prop :=
  ∃ v, e = .returned (.tuple #[v, .bool R.isSome]) ∧ (∀ r, R = some r → ∃ A c, v = .slice A r.length c ∧ w'.ownsRow w.heap.size 44 5 (.slice A r.length c) r.length (r.flatMap Lot.enc)) ∧ Below w.heap.size w w'
theorem GivesMk.fail {w w' : World} {v : Value} (hb : Below w.heap.size w w') : GivesMk w none (.returned (.tuple #[v, .bool false])) w' := ⟨v, rfl, fun _ h => (by cases h), hb⟩
theorem idCmp_any (x : Lot) (id : Int) (w : World) : Calls Try.prog 36 (#[x.val, .int .i64 id] ++ #[]) w fun e w' => e = .returned (.int .i64 (cmpI x.i id)) ∧ Below w.heap.size w w' := by
  have b0 := (Below.refl w.heap.size w).alloc (Nat.le_refl _) (.cells #[.int .i64 x.i, .int .i64 x.r, .int .i64 x.s, .int .i64 x.h, .int .i64 x.b] 44)
  go_enter Try.func36, Try.ntmps36
  go_wp2_with fail
  refine (compare_any x.i id _).mono ?_
  rintro e w' ⟨rfl, rfl⟩
  go_wp2
  go_ret
  exact ⟨rfl, b0⟩
theorem cmpI_neg {a b : Int} : cmpI a b < 0 ↔ a < b := by unfold cmpI; split; omega; split <;> omega
theorem cmpI_zero {a b : Int} : cmpI a b = 0 ↔ a = b := by unfold cmpI; split; omega; split <;> omega
/-- The place of a number in a good list. -/
theorem bsId_any (A : Option Addr) (c : Nat) (l : List Lot) (id : Int) (w : World) (h : LotsR w w.heap.size A l) (G : GoodL l) :
    Calls Try.prog 35 #[.slice A l.length c, .int .i64 id, .func (.func 36) #[] #[]] w fun e w' => e = .returned (.tuple #[.int .i64 (posL l id), .bool (decide (0 ≤ findIx l id))]) ∧ Below w.heap.size w w' := by
  obtain ⟨_, h2, h3, h4, h5⟩ := find_pos G id
  have hl := G.len
  refine bsLot_any (fun t => cmpI t.i id) (.int .i64 id) 36 #[] Try.call36 A c l w (fun t p => idCmp_any t id p.val) h (by omega) (posL l id) h2 (fun i hi hb => cmpI_neg.2 (h3 i hi hb)) (fun i hi hb hn => h4 i hi hb (cmpI_neg.1 hn)) _ (fun hb => ?_) (fun e => ?_)
  · rw [decide_eq_decide, h5]
    constructor
    · rintro ⟨_, h7⟩; exact cmpI_zero.2 h7
    · intro h7; exact ⟨hb, cmpI_zero.1 h7⟩
  · rw [decide_eq_false_iff_not, h5]
    rintro ⟨h7, _⟩
    omega

set_option maxRecDepth 100000 in
set_option maxHeartbeats 4000000 in
theorem stepA_none4 (A : Option Addr) (c : Nat) (l : List Lot) (i b v : Int) (w : World) (h : LotsR w w.heap.size A l) (G : GoodL l) (ho : openIx l < 0) :
    Calls Try.prog 23 #[.slice A l.length c, .agg #[.int .i64 4, .int .i64 i, .int .i64 b, .int .i64 v]] w (GivesMk w none) := by
  have hoi : decide (0 ≤ openIx l) = false := decide_eq_false (by omega)
  have b0 := (Below.refl w.heap.size w).alloc (Nat.le_refl _) (.cells #[.int .i64 4, .int .i64 i, .int .i64 b, .int .i64 v] 40)
  have b0s := b0.size
  have L0 := Lies.new w 40 #[.int .i64 4, .int .i64 i, .int .i64 b, .int .i64 v]
  have hW := SlcR.up h b0 (Nat.le_refl _)
  have len := G.len
  have BS := fun W hR => bsId_any A c l i W hR G
  go_enter Try.func23, Try.ntmps23
  go_wp2_with fail
  generalize w.alloc (.cells #[.int .i64 4, .int .i64 i, .int .i64 b, .int .i64 v] 40) = W at b0 b0s L0 hW ⊢
  generalize hgb : w.heap.size = g at L0 ⊢
  rw [hgb] at b0 b0s
  refine (cloneLot_any A c l W hW (by omega)).mono ?_
  rintro e w1 ⟨A1, c1, rfl, hO1, hb1⟩
  have L1 := L0.below hb1 L0.lt
  have s0 := L1.cell 0
  have s1 := L1.cell 1
  have s2 := L1.cell 2
  have s3 := L1.cell 3
  simp only [List.getElem?_cons_zero, List.getElem?_cons_succ] at s0 s1 s2 s3
  have HO1 := Lib.hid hO1; clear hO1
  go_wp2_with fail
  refine (BS w1 (SlcR.up hW hb1 (Nat.le_refl _))).mono ?_
  rintro e w2 ⟨rfl, hb2⟩
  have L2 := L1.below hb2 L1.lt
  clear s0 s1 s2 s3
  have s0 := L2.cell 0
  have s1 := L2.cell 1
  have s2 := L2.cell 2
  have s3 := L2.cell 3
  simp only [List.getElem?_cons_zero, List.getElem?_cons_succ] at s0 s1 s2 s3
  go_wp2_with fail
  refine (openLot_any A c l w2 (SlcR.up hW (bthen hb1 hb2) (Nat.le_refl _))).mono ?_
  rintro e w3 ⟨rfl, hb3⟩
  have L3 := L2.below hb3 L2.lt
  clear s0 s1 s2 s3
  have s0 := L3.cell 0
  have s1 := L3.cell 1
  have s2 := L3.cell 2
  have s3 := L3.cell 3
  simp only [List.getElem?_cons_zero, List.getElem?_cons_succ] at s0 s1 s2 s3
  go_wp2
  refine bodyPost_ret (v := .tuple #[.slice none 0 0, .bool false]) (by simp [results, Try.results23, go_sem, *]) rfl (GivesMk.fail ?_)
  rw [hgb]
  exact b0.trans ((bthen hb1 (bthen hb2 hb3)).mono b0s)
set_option maxRecDepth 100000 in
set_option maxHeartbeats 4000000 in
theorem stepA_none5 (A : Option Addr) (c : Nat) (l : List Lot) (i b v : Int) (w : World) (h : LotsR w w.heap.size A l) (G : GoodL l) (ho : openIx l < 0) :
    Calls Try.prog 23 #[.slice A l.length c, .agg #[.int .i64 5, .int .i64 i, .int .i64 b, .int .i64 v]] w (GivesMk w none) := by
  have hoi : decide (0 ≤ openIx l) = false := decide_eq_false (by omega)
  have b0 := (Below.refl w.heap.size w).alloc (Nat.le_refl _) (.cells #[.int .i64 5, .int .i64 i, .int .i64 b, .int .i64 v] 40)
  have b0s := b0.size
  have L0 := Lies.new w 40 #[.int .i64 5, .int .i64 i, .int .i64 b, .int .i64 v]
  have hW := SlcR.up h b0 (Nat.le_refl _)
  have len := G.len
  have BS := fun W hR => bsId_any A c l i W hR G
  go_enter Try.func23, Try.ntmps23
  go_wp2_with fail
  generalize w.alloc (.cells #[.int .i64 5, .int .i64 i, .int .i64 b, .int .i64 v] 40) = W at b0 b0s L0 hW ⊢
  generalize hgb : w.heap.size = g at L0 ⊢
  rw [hgb] at b0 b0s
  refine (cloneLot_any A c l W hW (by omega)).mono ?_
  rintro e w1 ⟨A1, c1, rfl, hO1, hb1⟩
  have L1 := L0.below hb1 L0.lt
  have s0 := L1.cell 0
  have s1 := L1.cell 1
  have s2 := L1.cell 2
  have s3 := L1.cell 3
  simp only [List.getElem?_cons_zero, List.getElem?_cons_succ] at s0 s1 s2 s3
  have HO1 := Lib.hid hO1; clear hO1
  go_wp2_with fail
  refine (BS w1 (SlcR.up hW hb1 (Nat.le_refl _))).mono ?_
  rintro e w2 ⟨rfl, hb2⟩
  have L2 := L1.below hb2 L1.lt
  clear s0 s1 s2 s3
  have s0 := L2.cell 0
  have s1 := L2.cell 1
  have s2 := L2.cell 2
  have s3 := L2.cell 3
  simp only [List.getElem?_cons_zero, List.getElem?_cons_succ] at s0 s1 s2 s3
  go_wp2_with fail
  refine (openLot_any A c l w2 (SlcR.up hW (bthen hb1 hb2) (Nat.le_refl _))).mono ?_
  rintro e w3 ⟨rfl, hb3⟩
  have L3 := L2.below hb3 L2.lt
  clear s0 s1 s2 s3
  have s0 := L3.cell 0
  have s1 := L3.cell 1
  have s2 := L3.cell 2
  have s3 := L3.cell 3
  simp only [List.getElem?_cons_zero, List.getElem?_cons_succ] at s0 s1 s2 s3
  go_wp2
  refine bodyPost_ret (v := .tuple #[.slice none 0 0, .bool false]) (by simp [results, Try.results23, go_sem, *]) rfl (GivesMk.fail ?_)
  rw [hgb]
  exact b0.trans ((bthen hb1 (bthen hb2 hb3)).mono b0s)
set_option maxRecDepth 100000 in
set_option maxHeartbeats 4000000 in
theorem stepB_none1 (A : Option Addr) (c : Nat) (l : List Lot) (i b v : Int) (w : World) (h : LotsR w w.heap.size A l) (G : GoodL l) (ho : 0 ≤ findIx l i) :
    Calls Try.prog 23 #[.slice A l.length c, .agg #[.int .i64 1, .int .i64 i, .int .i64 b, .int .i64 v]] w (GivesMk w none) := by
  have hoi : decide (0 ≤ findIx l i) = true := decide_eq_true (by omega)
  have b0 := (Below.refl w.heap.size w).alloc (Nat.le_refl _) (.cells #[.int .i64 1, .int .i64 i, .int .i64 b, .int .i64 v] 40)
  have b0s := b0.size
  have L0 := Lies.new w 40 #[.int .i64 1, .int .i64 i, .int .i64 b, .int .i64 v]
  have hW := SlcR.up h b0 (Nat.le_refl _)
  have len := G.len
  have BS := fun W hR => bsId_any A c l i W hR G
  go_enter Try.func23, Try.ntmps23
  go_wp2_with fail
  generalize w.alloc (.cells #[.int .i64 1, .int .i64 i, .int .i64 b, .int .i64 v] 40) = W at b0 b0s L0 hW ⊢
  generalize hgb : w.heap.size = g at L0 ⊢
  rw [hgb] at b0 b0s
  refine (cloneLot_any A c l W hW (by omega)).mono ?_
  rintro e w1 ⟨A1, c1, rfl, hO1, hb1⟩
  have L1 := L0.below hb1 L0.lt
  have s0 := L1.cell 0
  have s1 := L1.cell 1
  have s2 := L1.cell 2
  have s3 := L1.cell 3
  simp only [List.getElem?_cons_zero, List.getElem?_cons_succ] at s0 s1 s2 s3
  have HO1 := Lib.hid hO1; clear hO1
  go_wp2_with fail
  refine (BS w1 (SlcR.up hW hb1 (Nat.le_refl _))).mono ?_
  rintro e w2 ⟨rfl, hb2⟩
  have L2 := L1.below hb2 L1.lt
  clear s0 s1 s2 s3
  have s0 := L2.cell 0
  have s1 := L2.cell 1
  have s2 := L2.cell 2
  have s3 := L2.cell 3
  simp only [List.getElem?_cons_zero, List.getElem?_cons_succ] at s0 s1 s2 s3
  go_wp2
  refine bodyPost_ret (v := .tuple #[.slice none 0 0, .bool false]) (by simp [results, Try.results23, go_sem, *]) rfl (GivesMk.fail ?_)
  rw [hgb]
  exact b0.trans ((bthen hb1 hb2).mono b0s)
set_option maxRecDepth 100000 in
set_option maxHeartbeats 4000000 in
theorem stepB_none2 (A : Option Addr) (c : Nat) (l : List Lot) (i b v : Int) (w : World) (h : LotsR w w.heap.size A l) (G : GoodL l) (ho : findIx l i < 0) :
    Calls Try.prog 23 #[.slice A l.length c, .agg #[.int .i64 2, .int .i64 i, .int .i64 b, .int .i64 v]] w (GivesMk w none) := by
  have hoi : decide (0 ≤ findIx l i) = false := decide_eq_false (by omega)
  have b0 := (Below.refl w.heap.size w).alloc (Nat.le_refl _) (.cells #[.int .i64 2, .int .i64 i, .int .i64 b, .int .i64 v] 40)
  have b0s := b0.size
  have L0 := Lies.new w 40 #[.int .i64 2, .int .i64 i, .int .i64 b, .int .i64 v]
  have hW := SlcR.up h b0 (Nat.le_refl _)
  have len := G.len
  have BS := fun W hR => bsId_any A c l i W hR G
  go_enter Try.func23, Try.ntmps23
  go_wp2_with fail
  generalize w.alloc (.cells #[.int .i64 2, .int .i64 i, .int .i64 b, .int .i64 v] 40) = W at b0 b0s L0 hW ⊢
  generalize hgb : w.heap.size = g at L0 ⊢
  rw [hgb] at b0 b0s
  refine (cloneLot_any A c l W hW (by omega)).mono ?_
  rintro e w1 ⟨A1, c1, rfl, hO1, hb1⟩
  have L1 := L0.below hb1 L0.lt
  have s0 := L1.cell 0
  have s1 := L1.cell 1
  have s2 := L1.cell 2
  have s3 := L1.cell 3
  simp only [List.getElem?_cons_zero, List.getElem?_cons_succ] at s0 s1 s2 s3
  have HO1 := Lib.hid hO1; clear hO1
  go_wp2_with fail
  refine (BS w1 (SlcR.up hW hb1 (Nat.le_refl _))).mono ?_
  rintro e w2 ⟨rfl, hb2⟩
  have L2 := L1.below hb2 L1.lt
  clear s0 s1 s2 s3
  have s0 := L2.cell 0
  have s1 := L2.cell 1
  have s2 := L2.cell 2
  have s3 := L2.cell 3
  simp only [List.getElem?_cons_zero, List.getElem?_cons_succ] at s0 s1 s2 s3
  go_wp2
  refine bodyPost_ret (v := .tuple #[.slice none 0 0, .bool false]) (by simp [results, Try.results23, go_sem, *]) rfl (GivesMk.fail ?_)
  rw [hgb]
  exact b0.trans ((bthen hb1 hb2).mono b0s)
set_option maxRecDepth 100000 in
set_option maxHeartbeats 4000000 in
theorem stepB_none3 (A : Option Addr) (c : Nat) (l : List Lot) (i b v : Int) (w : World) (h : LotsR w w.heap.size A l) (G : GoodL l) (ho : findIx l i < 0) :
    Calls Try.prog 23 #[.slice A l.length c, .agg #[.int .i64 3, .int .i64 i, .int .i64 b, .int .i64 v]] w (GivesMk w none) := by
  have hoi : decide (0 ≤ findIx l i) = false := decide_eq_false (by omega)
  have b0 := (Below.refl w.heap.size w).alloc (Nat.le_refl _) (.cells #[.int .i64 3, .int .i64 i, .int .i64 b, .int .i64 v] 40)
  have b0s := b0.size
  have L0 := Lies.new w 40 #[.int .i64 3, .int .i64 i, .int .i64 b, .int .i64 v]
  have hW := SlcR.up h b0 (Nat.le_refl _)
  have len := G.len
  have BS := fun W hR => bsId_any A c l i W hR G
  go_enter Try.func23, Try.ntmps23
  go_wp2_with fail
  generalize w.alloc (.cells #[.int .i64 3, .int .i64 i, .int .i64 b, .int .i64 v] 40) = W at b0 b0s L0 hW ⊢
  generalize hgb : w.heap.size = g at L0 ⊢
  rw [hgb] at b0 b0s
  refine (cloneLot_any A c l W hW (by omega)).mono ?_
  rintro e w1 ⟨A1, c1, rfl, hO1, hb1⟩
  have L1 := L0.below hb1 L0.lt
  have s0 := L1.cell 0
  have s1 := L1.cell 1
  have s2 := L1.cell 2
  have s3 := L1.cell 3
  simp only [List.getElem?_cons_zero, List.getElem?_cons_succ] at s0 s1 s2 s3
  have HO1 := Lib.hid hO1; clear hO1
  go_wp2_with fail
  refine (BS w1 (SlcR.up hW hb1 (Nat.le_refl _))).mono ?_
  rintro e w2 ⟨rfl, hb2⟩
  have L2 := L1.below hb2 L1.lt
  clear s0 s1 s2 s3
  have s0 := L2.cell 0
  have s1 := L2.cell 1
  have s2 := L2.cell 2
  have s3 := L2.cell 3
  simp only [List.getElem?_cons_zero, List.getElem?_cons_succ] at s0 s1 s2 s3
  go_wp2
  refine bodyPost_ret (v := .tuple #[.slice none 0 0, .bool false]) (by simp [results, Try.results23, go_sem, *]) rfl (GivesMk.fail ?_)
  rw [hgb]
  exact b0.trans ((bthen hb1 hb2).mono b0s)
set_option maxRecDepth 100000 in
set_option maxHeartbeats 4000000 in
theorem stepB_none6 (A : Option Addr) (c : Nat) (l : List Lot) (i b v : Int) (w : World) (h : LotsR w w.heap.size A l) (G : GoodL l) (ho : findIx l i < 0) :
    Calls Try.prog 23 #[.slice A l.length c, .agg #[.int .i64 6, .int .i64 i, .int .i64 b, .int .i64 v]] w (GivesMk w none) := by
  have hoi : decide (0 ≤ findIx l i) = false := decide_eq_false (by omega)
  have b0 := (Below.refl w.heap.size w).alloc (Nat.le_refl _) (.cells #[.int .i64 6, .int .i64 i, .int .i64 b, .int .i64 v] 40)
  have b0s := b0.size
  have L0 := Lies.new w 40 #[.int .i64 6, .int .i64 i, .int .i64 b, .int .i64 v]
  have hW := SlcR.up h b0 (Nat.le_refl _)
  have len := G.len
  have BS := fun W hR => bsId_any A c l i W hR G
  go_enter Try.func23, Try.ntmps23
  go_wp2_with fail
  generalize w.alloc (.cells #[.int .i64 6, .int .i64 i, .int .i64 b, .int .i64 v] 40) = W at b0 b0s L0 hW ⊢
  generalize hgb : w.heap.size = g at L0 ⊢
  rw [hgb] at b0 b0s
  refine (cloneLot_any A c l W hW (by omega)).mono ?_
  rintro e w1 ⟨A1, c1, rfl, hO1, hb1⟩
  have L1 := L0.below hb1 L0.lt
  have s0 := L1.cell 0
  have s1 := L1.cell 1
  have s2 := L1.cell 2
  have s3 := L1.cell 3
  simp only [List.getElem?_cons_zero, List.getElem?_cons_succ] at s0 s1 s2 s3
  have HO1 := Lib.hid hO1; clear hO1
  go_wp2_with fail
  refine (BS w1 (SlcR.up hW hb1 (Nat.le_refl _))).mono ?_
  rintro e w2 ⟨rfl, hb2⟩
  have L2 := L1.below hb2 L1.lt
  clear s0 s1 s2 s3
  have s0 := L2.cell 0
  have s1 := L2.cell 1
  have s2 := L2.cell 2
  have s3 := L2.cell 3
  simp only [List.getElem?_cons_zero, List.getElem?_cons_succ] at s0 s1 s2 s3
  go_wp2
  refine bodyPost_ret (v := .tuple #[.slice none 0 0, .bool false]) (by simp [results, Try.results23, go_sem, *]) rfl (GivesMk.fail ?_)
  rw [hgb]
  exact b0.trans ((bthen hb1 hb2).mono b0s)
theorem Lies.new1 (w : World) (o : Obj) (t : TypeId) (cs : Array Value) : Lies ((w.alloc o).alloc (.cells cs t)) (w.heap.size + 1) t cs.toList := by
  have h := Lies.new (w.alloc o) t cs
  rwa [show (w.alloc o).heap.size = w.heap.size + 1 from Array.size_push _] at h
theorem GivesMk.yes {w w' : World} {A : Option Addr} {c n : Nat} {r : List Lot} (hn : r.length = n) (h : OwnL w' w.heap.size A c r) (hb : Below w.heap.size w w') : GivesMk w (some r) (.returned (.tuple #[.slice A n c, .bool true])) w' := by
  subst hn
  exact ⟨_, rfl, fun r' h' => by injection h' with e; subst e; exact ⟨A, c, rfl, h⟩, hb⟩
theorem bthen' {B : Nat} {a b c : World} (h : Below B a b) (k : Below b.heap.size b c) (hB : B ≤ b.heap.size) : Below B a c := h.trans (k.mono hB)
theorem Sw.either {s : Nat} {C0 C1 : World → Prop} {L : Nat → Bool} {w : World} {P : Prop} (h : Sw s C0 C1 L w) (h0 : C0 w → P) (h1 : C1 w → P) : P := by
  unfold Sw at h; split at h; exact h1 h; exact h0 h
end Go.Proofs.Ytkokbmmffkpclaa

/- A step of an auction in the program: bid. (Printed by gen_lotstep.py) -/
namespace Go.Proofs.Ytkokbmmffkpclaa
open Go.RowKit

set_option maxRecDepth 100000 in
set_option maxHeartbeats 4000000 in
theorem stepA_bid (A : Option Addr) (c : Nat) (l : List Lot) (i b v : Int) (w : World) (h : LotsR w w.heap.size A l) (G : GoodL l) (j : Nat) (hj : j < l.length) (ho : openIx l = j) (hs : ASt.ok ⟨4, i, b, v⟩ = true) :
    Calls Try.prog 23 #[.slice A l.length c, .agg #[.int .i64 4, .int .i64 i, .int .i64 b, .int .i64 v]] w (GivesMk w (if leastV l[j] ≤ v ∧ b ≠ l[j].b then some (l.set j (bidL l[j] ⟨4, i, b, v⟩)) else none)) := by
  have hoi : decide (0 ≤ openIx l) = true := decide_eq_true (by omega)
  have hx1 : l[j].s = 1 := by
    obtain ⟨h1, h2, h3⟩ := idx_at (f := isOpen) (l := l) (by show ¬ openIx l < 0; omega)
    have e : (idxFrom isOpen 0 l).toNat = j := by have : openIx l = idxFrom isOpen 0 l := rfl; omega
    simp only [e] at h2
    exact eq_of_beq h2
  have GD := good_bid G hj (s := ⟨4, i, b, v⟩) hx1 rfl hs
  have OP := fun W hR => openLot_any A c l W hR
  rw [ho] at OP hoi
  have hz0 : (0 : Int) ≤ (j : Int) := by omega
  have hzi : ¬ (j : Int) < 0 := by omega
  obtain ⟨x, hxe⟩ : ∃ x, l[j] = x := ⟨_, rfl⟩
  rw [hxe] at GD hx1 ⊢
  have hxk := G.all x (by rw [← hxe]; exact List.getElem_mem hj)
  have hxh := inR_iff.1 (lot_ok_iff.1 hxk).1.2.2.1
  have LB := fun W => leastBid_any x W hxh.1 hxh.2
  obtain ⟨m, hm⟩ : ∃ m, leastV x = m := ⟨_, rfl⟩
  rw [hm] at LB ⊢
  clear hm hxh hxk hx1
  obtain ⟨d1, hd1⟩ : ∃ d, decide (m ≤ v) = d := ⟨_, rfl⟩
  obtain ⟨d2, hd2⟩ : ∃ d, (b != x.b) = d := ⟨_, rfl⟩
  obtain ⟨R, hR⟩ : ∃ R, (if m ≤ v ∧ b ≠ x.b then some (l.set j (bidL x ⟨4, i, b, v⟩)) else none) = R := ⟨_, rfl⟩
  have HR : Hid (R = if (d1 && d2) = true then some (l.set j (bidL x ⟨4, i, b, v⟩)) else none) := by
    rw [Hid, ← hR, ← hd1, ← hd2]
    simp
  rw [hR]
  clear hR
  replace OP := Lib.hid OP
  replace GD := Lib.hid GD
  have HLB := Lib.hid LB
  have b0 := (Below.refl w.heap.size w).alloc (Nat.le_refl _) (.cells #[.int .i64 4, .int .i64 i, .int .i64 b, .int .i64 v] 40)
  have b0s := b0.size
  have L0 := Lies.new w 40 #[.int .i64 4, .int .i64 i, .int .i64 b, .int .i64 v]
  have hW := SlcR.up h b0 (Nat.le_refl _)
  have len := G.len
  have BS := fun W hR => bsId_any A c l i W hR G
  go_enter Try.func23, Try.ntmps23
  go_wp2_with fail
  generalize w.alloc (.cells #[.int .i64 4, .int .i64 i, .int .i64 b, .int .i64 v] 40) = W at b0 b0s L0 hW ⊢
  generalize hgb : w.heap.size = g at L0 ⊢
  rw [hgb] at b0 b0s
  refine (cloneLot_any A c l W hW (by omega)).mono ?_
  rintro e w1 ⟨A1, c1, rfl, hO1, hb1⟩
  have L1 := L0.below hb1 L0.lt
  have s0 := L1.cell 0
  have s1 := L1.cell 1
  have s2 := L1.cell 2
  have s3 := L1.cell 3
  simp only [List.getElem?_cons_zero, List.getElem?_cons_succ] at s0 s1 s2 s3
  have HO1 := Lib.hid hO1; clear hO1
  go_wp2_with fail
  refine (BS w1 (SlcR.up hW hb1 (Nat.le_refl _))).mono ?_
  rintro e w2 ⟨rfl, hb2⟩
  have L2 := L1.below hb2 L1.lt
  clear s0 s1 s2 s3
  have s0 := L2.cell 0
  have s1 := L2.cell 1
  have s2 := L2.cell 2
  have s3 := L2.cell 3
  simp only [List.getElem?_cons_zero, List.getElem?_cons_succ] at s0 s1 s2 s3
  have hgW := L0.lt
  go_wp2_with fail
  refine (OP.out w2 (SlcR.up hW (bthen hb1 hb2) (Nat.le_refl _))).mono ?_
  rintro e w3 ⟨rfl, hb3⟩
  have L3 := L2.below hb3 L2.lt
  have hR3 := SlcR.up hW (bthen hb1 (bthen hb2 hb3)) (Nat.le_refl _)
  have HO3 : OwnL w3 W.heap.size A1 c1 l := ownsRow_below HO1.out (bthen hb2 hb3)
  have b3 : Below W.heap.size W w3 := bthen hb1 (bthen hb2 hb3)
  clear s0 s1 s2 s3 L0 L1 L2 HO1
  have s0 := L3.cell 0
  have s1 := L3.cell 1
  have s2 := L3.cell 2
  have s3 := L3.cell 3
  simp only [List.getElem?_cons_zero, List.getElem?_cons_succ] at s0 s1 s2 s3
  obtain ⟨gO, rfl, hgO, hgO', hcO⟩ := OwnL.block HO3 (by omega)
  have hR3' : LotsR w3 W.heap.size A l := SlcR.below hW b3
  obtain ⟨bl, off, rfl, hbl, hcell⟩ := hR3'.el (by omega)
  have hcx := hcell j hj
  rw [hxe] at hcx
  obtain ⟨c0, c1', c2, c3, c4⟩ := LotS.up hcx (Below.refl _ _) b3.size
  clear hcx hcell hR3 hR3' hW h BS
  clear LB
  cases d1
  all_goals
    go_upto_region 19 with fail
    refine wp_region_factsR (fun _ => (fun W9 => Below w3.heap.size w3 W9)) (fun _ w1 w2 => Below w1.heap.size w1 w2) (by kernel_rfl) (by kernel_rfl) (by kernel_rfl) (Below.refl _ _).drew ?_
    simp only [fillOps, Act.put, List.setIfInBounds_toArray, List.set_cons_zero, List.set_cons_succ, Nat.zero_add, Nat.reduceAdd]
    apply wpFactsR_val
    case h1 =>
      intro vs L9 w9 hG9 hC9 hB K9 hK9
      simp only [Act.put, List.setIfInBounds_toArray, List.set_cons_zero, List.set_cons_succ] at hK9
      go_simp
      exact hK9 _ _ rfl hC9 (Below.refl _ _)
    apply wpFactsR_val
    case h1 =>
      intro vs L9 w9 hG9 hC9 hB K9 hK9
      have d0 := FactN.eq (hB 0 _ (by kernel_rfl) (by kernel_rfl) rfl (by decide))
      simp only [d0] at hK9 ⊢
      have q0 : w9.cell? ⟨g, 3, none⟩ = some (.int .i64 v) := (L3.below hC9 L3.lt).cell 3
      simp only [Act.put, List.setIfInBounds_toArray, List.set_cons_zero, List.set_cons_succ] at hK9
      go_simp
      exact hK9 _ _ rfl hC9 (Below.refl _ _)
    apply wpFactsR_val
    case h1 =>
      intro vs L9 w9 hG9 hC9 hB K9 hK9
      simp only [Act.put, List.setIfInBounds_toArray, List.set_cons_zero, List.set_cons_succ] at hK9
      go_simp
      exact hK9 _ _ rfl hC9 (Below.refl _ _)
    apply wpFactsR_val
    case h1 =>
      intro vs L9 w9 hG9 hC9 hB K9 hK9
      simp only [Act.put, List.setIfInBounds_toArray, List.set_cons_zero, List.set_cons_succ] at hK9
      go_simp
      exact hK9 _ _ rfl hC9 (Below.refl _ _)
    apply wpFactsR_val
    case h1 =>
      intro vs L9 w9 hG9 hC9 hB K9 hK9
      have d2 := FactN.eq (hB 2 _ (by kernel_rfl) (by kernel_rfl) rfl (by decide))
      have d3 := FactN.eq (hB 3 _ (by kernel_rfl) (by kernel_rfl) rfl (by decide))
      simp only [d2, d3] at hK9 ⊢
      simp only [Act.put, List.setIfInBounds_toArray, List.set_cons_zero, List.set_cons_succ] at hK9
      go_simp
      exact hK9 _ _ rfl hC9 (Below.refl _ _)
    apply wpFactsR_val
    case h1 =>
      intro vs L9 w9 hG9 hC9 hB K9 hK9
      have d4 := FactN.eq (hB 4 _ (by kernel_rfl) (by kernel_rfl) rfl (by decide))
      simp only [d4] at hK9 ⊢
      have q0 : w9.cell? ⟨bl, off + j * 5, none⟩ = some (.int .i64 x.i) := c0 ⟨w9, hC9⟩
      have q1 : w9.cell? ⟨bl, off + j * 5 + 1, none⟩ = some (.int .i64 x.r) := c1' ⟨w9, hC9⟩
      have q2 : w9.cell? ⟨bl, off + j * 5 + 2, none⟩ = some (.int .i64 x.s) := c2 ⟨w9, hC9⟩
      have q3 : w9.cell? ⟨bl, off + j * 5 + 3, none⟩ = some (.int .i64 x.h) := c3 ⟨w9, hC9⟩
      have q4 : w9.cell? ⟨bl, off + j * 5 + 4, none⟩ = some (.int .i64 x.b) := c4 ⟨w9, hC9⟩
      simp only [Act.put, List.setIfInBounds_toArray, List.set_cons_zero, List.set_cons_succ] at hK9
      go_simp
      exact hK9 _ _ rfl hC9 (Below.refl _ _)
    refine wpFactsR_val (.int .i64 m) (fun vs L9 w9 hG9 hC9 hB K9 hK9 => ?_) ?_
    next =>
      have d5 := FactN.eq (hB 5 _ (by kernel_rfl) (by kernel_rfl) rfl (by decide))
      simp only [d5] at hK9 ⊢
      simp only [Act.put, List.setIfInBounds_toArray, List.set_cons_zero, List.set_cons_succ] at hK9
      go_simp
      refine (HLB.out w9).mono ?_
      rintro en w8 ⟨rfl, hb8⟩
      exact hK9 _ _ rfl (hC9.trans (hb8.mono hC9.size)) (hb8)
    apply wpFactsR_val
    case h1 =>
      intro vs L9 w9 hG9 hC9 hB K9 hK9
      have d1 := FactN.eq (hB 1 _ (by kernel_rfl) (by kernel_rfl) rfl (by decide))
      have d6 := FactN.eq (hB 6 _ (by kernel_rfl) (by kernel_rfl) rfl (by decide))
      simp only [d1, d6] at hK9 ⊢
      simp only [Act.put, List.setIfInBounds_toArray, List.set_cons_zero, List.set_cons_succ] at hK9
      go_simp
      exact hK9 _ _ rfl hC9 (Below.refl _ _)
    apply wpFactsR_val
    case h1 =>
      intro vs L9 w9 hG9 hC9 hB K9 hK9
      have d7 := FactN.eq (hB 7 _ (by kernel_rfl) (by kernel_rfl) rfl (by decide))
      simp only [d7] at hK9 ⊢
      simp only [Act.put, List.setIfInBounds_toArray, List.set_cons_zero, List.set_cons_succ] at hK9
      go_simp
      exact hK9 _ _ rfl hC9 (Below.refl _ _)
    apply wpFactsR_val
    case h1 =>
      intro vs L9 w9 hG9 hC9 hB K9 hK9
      have d8 := FactN.eq (hB 8 _ (by kernel_rfl) (by kernel_rfl) rfl (by decide))
      simp only [d8] at hK9 ⊢
      simp only [Act.put, List.setIfInBounds_toArray, List.set_cons_zero, List.set_cons_succ] at hK9
      go_simp
      exact hK9 _ _ rfl hC9 (Below.refl _ _)
    apply wpFactsR_val
    case h1 =>
      intro vs L9 w9 hG9 hC9 hB K9 hK9
      have d9 := FactN.eq (hB 9 _ (by kernel_rfl) (by kernel_rfl) rfl (by decide))
      have d8 := FactN.eq (hB 8 _ (by kernel_rfl) (by kernel_rfl) rfl (by decide))
      simp only [d9, d8] at hK9 ⊢
      have q0 : w9.cell? ⟨g, 2, none⟩ = some (.int .i64 b) := (L3.below hC9 L3.lt).cell 2
      simp only [Act.put, List.setIfInBounds_toArray, List.set_cons_zero, List.set_cons_succ] at hK9
      go_simp
      exact hK9 _ _ rfl hC9 (Below.refl _ _)
    apply wpFactsR_val
    case h1 =>
      intro vs L9 w9 hG9 hC9 hB K9 hK9
      have d8 := FactN.eq (hB 8 _ (by kernel_rfl) (by kernel_rfl) rfl (by decide))
      simp only [d8] at hK9 ⊢
      simp only [Act.put, List.setIfInBounds_toArray, List.set_cons_zero, List.set_cons_succ] at hK9
      go_simp
      exact hK9 _ _ rfl hC9 (Below.refl _ _)
    apply wpFactsR_val
    case h1 =>
      intro vs L9 w9 hG9 hC9 hB K9 hK9
      have d8 := FactN.eq (hB 8 _ (by kernel_rfl) (by kernel_rfl) rfl (by decide))
      simp only [d8] at hK9 ⊢
      simp only [Act.put, List.setIfInBounds_toArray, List.set_cons_zero, List.set_cons_succ] at hK9
      go_simp
      exact hK9 _ _ rfl hC9 (Below.refl _ _)
    apply wpFactsR_val
    case h1 =>
      intro vs L9 w9 hG9 hC9 hB K9 hK9
      have d11 := FactN.eq (hB 11 _ (by kernel_rfl) (by kernel_rfl) rfl (by decide))
      have d12 := FactN.eq (hB 12 _ (by kernel_rfl) (by kernel_rfl) rfl (by decide))
      have d8 := FactN.eq (hB 8 _ (by kernel_rfl) (by kernel_rfl) rfl (by decide))
      simp only [d11, d12, d8] at hK9 ⊢
      simp only [Act.put, List.setIfInBounds_toArray, List.set_cons_zero, List.set_cons_succ] at hK9
      go_simp
      exact hK9 _ _ rfl hC9 (Below.refl _ _)
    apply wpFactsR_val
    case h1 =>
      intro vs L9 w9 hG9 hC9 hB K9 hK9
      have d13 := FactN.eq (hB 13 _ (by kernel_rfl) (by kernel_rfl) rfl (by decide))
      have d8 := FactN.eq (hB 8 _ (by kernel_rfl) (by kernel_rfl) rfl (by decide))
      simp only [d13, d8] at hK9 ⊢
      simp only [Act.put, List.setIfInBounds_toArray, List.set_cons_zero, List.set_cons_succ] at hK9
      go_simp
      exact hK9 _ _ rfl hC9 (Below.refl _ _)
    apply wpFactsR_val
    case h1 =>
      intro vs L9 w9 hG9 hC9 hB K9 hK9
      have d14 := FactN.eq (hB 14 _ (by kernel_rfl) (by kernel_rfl) rfl (by decide))
      have d8 := FactN.eq (hB 8 _ (by kernel_rfl) (by kernel_rfl) rfl (by decide))
      simp only [d14, d8] at hK9 ⊢
      have q4 : w9.cell? ⟨bl, off + j * 5 + 4, none⟩ = some (.int .i64 x.b) := c4 ⟨w9, hC9⟩
      simp only [Act.put, List.setIfInBounds_toArray, List.set_cons_zero, List.set_cons_succ] at hK9
      go_simp
      exact hK9 _ _ rfl hC9 (Below.refl _ _)
    apply wpFactsR_val
    case h1 =>
      intro vs L9 w9 hG9 hC9 hB K9 hK9
      have d10 := FactN.eq (hB 10 _ (by kernel_rfl) (by kernel_rfl) rfl (by decide))
      have d15 := FactN.eq (hB 15 _ (by kernel_rfl) (by kernel_rfl) rfl (by decide))
      have d8 := FactN.eq (hB 8 _ (by kernel_rfl) (by kernel_rfl) rfl (by decide))
      simp only [d10, d15, d8] at hK9 ⊢
      simp only [Act.put, List.setIfInBounds_toArray, List.set_cons_zero, List.set_cons_succ] at hK9
      go_simp
      exact hK9 _ _ rfl hC9 (Below.refl _ _)
    apply wpFactsR_val
    case h1 =>
      intro vs L9 w9 hG9 hC9 hB K9 hK9
      have d8 := FactN.eq (hB 8 _ (by kernel_rfl) (by kernel_rfl) rfl (by decide))
      have d16 := FactN.eq (hB 16 _ (by kernel_rfl) (by kernel_rfl) rfl (by decide))
      simp only [d8, d16] at hK9 ⊢
      simp only [Act.put, List.setIfInBounds_toArray, List.set_cons_zero, List.set_cons_succ] at hK9
      go_simp
      exact hK9 _ _ rfl hC9 (Below.refl _ _)
    apply wpFactsR_val
    case h1 =>
      intro vs L9 w9 hG9 hC9 hB K9 hK9
      have d17 := FactN.eq (hB 17 _ (by kernel_rfl) (by kernel_rfl) rfl (by decide))
      simp only [d17] at hK9 ⊢
      simp only [Act.put, List.setIfInBounds_toArray, List.set_cons_zero, List.set_cons_succ] at hK9
      go_simp
      exact hK9 _ _ rfl hC9 (Below.refl _ _)
    refine wpFactsR_nil fun vs L9 w9 hL9 hC9 hB => ?_
    have d18 := FactN.eq (hB 18 _ rfl rfl (by decide))
    simp only [d18]
    clear hB d18
    have L4 := L3.below hC9 L3.lt
    have HO4 := ownsRow_below HO3 hC9
    have b4 := bthen b3 hC9
    have hw4 := b4.size
    clear s0 s1 s2 s3 L3 HO3 b3 hb1 hb2 hb3 c0 c1' c2 c3 c4 hC9
    obtain ⟨w4, h49⟩ : ∃ x, x = w9 := ⟨_, rfl⟩
    subst h49
    go_upto_region 20 with fail
    refine wp_region_factsR (Sw 10 (fun W9 => Below w4.heap.size w4 W9) (fun W9 => Below W.heap.size w4 W9)) (fun i w1 w2 => i ∉ [10, 13] → Below w1.heap.size w1 w2) (by kernel_rfl) (by kernel_rfl) (by kernel_rfl) (Sw.start (Below.refl _ _).drew) ?_
    simp only [fillOps, Act.put, List.setIfInBounds_toArray, List.set_cons_zero, List.set_cons_succ, Nat.zero_add, Nat.reduceAdd]
    apply wpFactsR_val
    case h1 =>
      intro vs L9 w9 hG9 hC9 hB K9 hK9
      replace hC9 := hC9.before hG9 (by kernel_rfl)
      simp only [Act.put, List.setIfInBounds_toArray, List.set_cons_zero, List.set_cons_succ] at hK9
      go_simp
      exact hK9 _ _ rfl (Sw.stay hG9 (by kernel_rfl) (by decide) hC9) (fun _ => Below.refl _ _)
    apply wpFactsR_val
    case h1 =>
      intro vs L9 w9 hG9 hC9 hB K9 hK9
      replace hC9 := hC9.before hG9 (by kernel_rfl)
      simp only [Act.put, List.setIfInBounds_toArray, List.set_cons_zero, List.set_cons_succ] at hK9
      go_simp
      exact hK9 _ _ rfl (Sw.stay hG9 (by kernel_rfl) (by decide) hC9) (fun _ => Below.refl _ _)
    apply wpFactsR_val
    case h1 =>
      intro vs L9 w9 hG9 hC9 hB K9 hK9
      simp only [Act.put, List.setIfInBounds_toArray, List.set_cons_zero, List.set_cons_succ] at hK9
      have HC9 := Lib.hid hC9
      clear hC9
      go_simp
      exact hK9 _ _ rfl (Sw.both (by decide) (fun h => h) (fun h => h) HC9.out) (fun _ => Below.refl _ _)
    apply wpFactsR_val
    case h1 =>
      intro vs L9 w9 hG9 hC9 hB K9 hK9
      simp only [Act.put, List.setIfInBounds_toArray, List.set_cons_zero, List.set_cons_succ] at hK9
      have HC9 := Lib.hid hC9
      clear hC9
      go_simp
      exact hK9 _ _ rfl (Sw.both (by decide) (fun h => h) (fun h => h) HC9.out) (fun _ => Below.refl _ _)
    apply wpFactsR_val
    case h1 =>
      intro vs L9 w9 hG9 hC9 hB K9 hK9
      replace hC9 := hC9.before hG9 (by kernel_rfl)
      simp only [Act.put, List.setIfInBounds_toArray, List.set_cons_zero, List.set_cons_succ] at hK9
      go_simp
      exact hK9 _ _ rfl (Sw.stay hG9 (by kernel_rfl) (by decide) hC9) (fun _ => Below.refl _ _)
    apply wpFactsR_val
    case h1 =>
      intro vs L9 w9 hG9 hC9 hB K9 hK9
      replace hC9 := hC9.before hG9 (by kernel_rfl)
      have d4 := FactN.eq (hB 4 _ (by kernel_rfl) (by kernel_rfl) rfl (by decide))
      simp only [d4] at hK9 ⊢
      have q0 : w9.cell? ⟨g, 3, none⟩ = some (.int .i64 v) := (L4.below hC9 L4.lt).cell 3
      simp only [Act.put, List.setIfInBounds_toArray, List.set_cons_zero, List.set_cons_succ] at hK9
      go_simp
      exact hK9 _ _ rfl (Sw.stay hG9 (by kernel_rfl) (by decide) hC9) (fun _ => Below.refl _ _)
    apply wpFactsR_val
    case h1 =>
      intro vs L9 w9 hG9 hC9 hB K9 hK9
      simp only [Act.put, List.setIfInBounds_toArray, List.set_cons_zero, List.set_cons_succ] at hK9
      have HC9 := Lib.hid hC9
      clear hC9
      go_simp
      exact hK9 _ _ rfl (Sw.both (by decide) (fun h => h) (fun h => h) HC9.out) (fun _ => Below.refl _ _)
    apply wpFactsR_val
    case h1 =>
      intro vs L9 w9 hG9 hC9 hB K9 hK9
      have d6 := FactN.eq (hB 6 _ (by kernel_rfl) (by kernel_rfl) rfl (by decide))
      simp only [d6] at hK9 ⊢
      have q0 : w9.cell? ⟨g, 2, none⟩ = some (.int .i64 b) := (L4.below (Sw.either hC9 (fun h => h.mono hw4) (fun h => h)) hgW).cell 2
      simp only [Act.put, List.setIfInBounds_toArray, List.set_cons_zero, List.set_cons_succ] at hK9
      have HC9 := Lib.hid hC9
      clear hC9
      go_simp
      exact hK9 _ _ rfl (Sw.both (by decide) (fun h => h) (fun h => h) HC9.out) (fun _ => Below.refl _ _)
    apply wpFactsR_val
    case h1 =>
      intro vs L9 w9 hG9 hC9 hB K9 hK9
      replace hC9 := hC9.before hG9 (by kernel_rfl)
      have d0 := FactN.eq (hB 0 _ (by kernel_rfl) (by kernel_rfl) rfl (by decide))
      have d1 := FactN.eq (hB 1 _ (by kernel_rfl) (by kernel_rfl) rfl (by decide))
      simp only [d0, d1] at hK9 ⊢
      simp only [Act.put, List.setIfInBounds_toArray, List.set_cons_zero, List.set_cons_succ] at hK9
      go_simp
      exact hK9 _ _ rfl (Sw.stay hG9 (by kernel_rfl) (by decide) hC9) (fun _ => Below.refl _ _)
    apply wpFactsR_val
    case h1 =>
      intro vs L9 w9 hG9 hC9 hB K9 hK9
      replace hC9 := hC9.before hG9 (by kernel_rfl)
      have d8 := FactN.eq (hB 8 _ (by kernel_rfl) (by kernel_rfl) rfl (by decide))
      simp only [d8] at hK9 ⊢
      simp only [Act.put, List.setIfInBounds_toArray, List.set_cons_zero, List.set_cons_succ] at hK9
      go_simp
      exact hK9 _ _ rfl (Sw.stay hG9 (by kernel_rfl) (by decide) hC9) (fun _ => Below.refl _ _)
    refine wpFactsR_some [13] (fun _ w9 => OwnL w9 W.heap.size (some ⟨gO, 0, none⟩) c1 (l.set j ⟨x.i, x.r, x.s, v, x.b⟩)) ?_ (fun vs L9 w9 hG9 hC9 hB K9 hK9 => ?_) ?_
    next =>
      intro i9 hi9 hb9 ha9 v w1 w2 hv hT9
      have hb := hT9 (fun hm => by
        simp only [List.mem_cons, List.not_mem_nil, or_false] at hm hb9
        rcases hm with rfl | rfl
        · exact hi9 rfl
        · exact hb9 (by simp))
      exact ownsRow_below hv hb
    next =>
      replace hC9 := hC9.here hG9
      have d5 := FactN.eq (hB 5 _ (by kernel_rfl) (by kernel_rfl) rfl (by decide))
      have d9 := FactN.eq (hB 9 _ (by kernel_rfl) (by kernel_rfl) rfl (by decide))
      simp only [d5, d9] at hK9 ⊢
      simp only [Act.put, List.setIfInBounds_toArray, List.set_cons_zero, List.set_cons_succ] at hK9
      obtain ⟨K1, K2, K3, K4⟩ := OwnL.set (ownsRow_below HO4 hC9) hj 3 (by decide) (.int .i64 v) ⟨x.i, x.r, x.s, v, x.b⟩ (by rw [hxe]; rfl)
      rw [hxe] at K4
      simp only [Lot.enc, List.getElem?_cons_zero, List.getElem?_cons_succ] at K4
      go_simp
      exact hK9 _ undef _ rfl K1 (Sw.turn ((hC9.mono hw4).trans K2)) (fun hq => (hq (by decide)).elim)
    apply wpFactsR_val
    case h1 =>
      intro vs L9 w9 hG9 hC9 hB K9 hK9
      replace hC9 := hC9.after hG9 (by kernel_rfl)
      have d2 := FactN.eq (hB 2 _ (by kernel_rfl) (by kernel_rfl) rfl (by decide))
      have d3 := FactN.eq (hB 3 _ (by kernel_rfl) (by kernel_rfl) rfl (by decide))
      simp only [d2, d3] at hK9 ⊢
      simp only [Act.put, List.setIfInBounds_toArray, List.set_cons_zero, List.set_cons_succ] at hK9
      go_simp
      exact hK9 _ _ rfl (Sw.on hG9 (by kernel_rfl) hC9) (fun _ => Below.refl _ _)
    apply wpFactsR_val
    case h1 =>
      intro vs L9 w9 hG9 hC9 hB K9 hK9
      replace hC9 := hC9.after hG9 (by kernel_rfl)
      have d11 := FactN.eq (hB 11 _ (by kernel_rfl) (by kernel_rfl) rfl (by decide))
      simp only [d11] at hK9 ⊢
      simp only [Act.put, List.setIfInBounds_toArray, List.set_cons_zero, List.set_cons_succ] at hK9
      go_simp
      exact hK9 _ _ rfl (Sw.on hG9 (by kernel_rfl) hC9) (fun _ => Below.refl _ _)
    refine wpFactsR_some [] (fun _ w9 => OwnL w9 W.heap.size (some ⟨gO, 0, none⟩) c1 (l.set j (bidL x ⟨4, i, b, v⟩))) ?_ (fun vs L9 w9 hG9 hC9 hB K9 hK9 => ?_) ?_
    next =>
      intro i9 hi9 hb9 ha9 v w1 w2 hv hT9
      have hb := hT9 (fun hm => by
        simp only [List.mem_cons, List.not_mem_nil, or_false] at hm hb9
        rcases hm with rfl | rfl
        · exact absurd (ha9.symm.trans (show ahead .any _ _ _ _ = true by kernel_rfl)) (by decide)
        · exact hi9 rfl)
      exact ownsRow_below hv hb
    next =>
      replace hC9 := hC9.after hG9 (by kernel_rfl)
      have d7 := FactN.eq (hB 7 _ (by kernel_rfl) (by kernel_rfl) rfl (by decide))
      have d12 := FactN.eq (hB 12 _ (by kernel_rfl) (by kernel_rfl) rfl (by decide))
      simp only [d7, d12] at hK9 ⊢
      simp only [Act.put, List.setIfInBounds_toArray, List.set_cons_zero, List.set_cons_succ] at hK9
      have hv := hB 10 _ (by kernel_rfl) (by kernel_rfl) rfl (by decide)
      obtain ⟨K1, K2, K3, K4⟩ := OwnL.set hv (by rw [List.length_set]; exact hj) 4 (by decide) (.int .i64 b) (bidL x ⟨4, i, b, v⟩) (by rw [List.getElem_set_self]; rfl)
      rw [List.getElem_set_self] at K4
      simp only [Lot.enc, List.getElem?_cons_zero, List.getElem?_cons_succ] at K4
      rw [List.set_set] at K1
      go_simp
      exact hK9 _ undef _ rfl K1 (Sw.on hG9 (by kernel_rfl) (hC9.trans K2)) (fun hq => (hq (by decide)).elim)
    refine wpFactsR_nil fun vs L9 w9 hL9 hC9 hB => ?_
    replace hC9 := hC9.done hL9 (by decide)
    have HF : OwnL w9 W.heap.size (some ⟨gO, 0, none⟩) c1 (l.set j (bidL x ⟨4, i, b, v⟩)) := hB 13 _ rfl rfl (by decide)
    have GD := GD.out
    clear hB OP HLB HO4
    go_upto_region 28 with fail
  next =>
    obtain rfl : R = none := by simpa using HR.out
    go_wp2
    refine bodyPost_ret (v := .tuple #[.slice none 0 0, .bool false]) (by simp [results, Try.results23, go_sem, *]) rfl (GivesMk.fail ?_)
    rw [hgb]
    exact b0.trans ((b4.trans hC9).mono b0s)
  next =>
    cases d2
    next =>
      obtain rfl : R = none := by simpa using HR.out
      go_wp2
      refine bodyPost_ret (v := .tuple #[.slice none 0 0, .bool false]) (by simp [results, Try.results23, go_sem, *]) rfl (GivesMk.fail ?_)
      rw [hgb]
      exact b0.trans ((b4.trans hC9).mono b0s)
    next =>
      obtain rfl : R = some (l.set j (bidL x ⟨4, i, b, v⟩)) := by simpa using HR.out
      have IA := isAuction_any (some ⟨gO, 0, none⟩) c1 (l.set j (bidL x ⟨4, i, b, v⟩)) w9 (OwnL.reads HF)
      rw [List.length_set, GD] at IA
      go_wp2_with fail
      refine IA.mono ?_
      rintro e w10 ⟨rfl, hb10⟩
      have HF10 := HF.below hb10
      clear IA HF
      go_wp2
      refine bodyPost_ret (v := .tuple #[.slice (some ⟨gO, 0, none⟩) l.length c1, .bool true]) (by simp [results, Try.results23, go_sem, *]) rfl (GivesMk.yes (by rw [List.length_set]) (ownsRow_lower HF10 (by rw [hgb]; exact b0s)) ?_)
      rw [hgb]
      exact b0.trans ((b4.trans (bthen' hC9 hb10 (b4.trans hC9).size)).mono b0s)
end Go.Proofs.Ytkokbmmffkpclaa

/- A step of an auction in the program: knock. (Printed by gen_lotstep.py) -/
namespace Go.Proofs.Ytkokbmmffkpclaa
open Go.RowKit

set_option maxRecDepth 100000 in
set_option maxHeartbeats 4000000 in
theorem stepA_knock (A : Option Addr) (c : Nat) (l : List Lot) (i b v : Int) (w : World) (h : LotsR w w.heap.size A l) (G : GoodL l) (j : Nat) (hj : j < l.length) (ho : openIx l = j) :
    Calls Try.prog 23 #[.slice A l.length c, .agg #[.int .i64 5, .int .i64 i, .int .i64 b, .int .i64 v]] w (GivesMk w (some (l.set j (knockL l[j])))) := by
  have hoi : decide (0 ≤ openIx l) = true := decide_eq_true (by omega)
  have hx1 : l[j].s = 1 := by
    obtain ⟨h1, h2, h3⟩ := idx_at (f := isOpen) (l := l) (by show ¬ openIx l < 0; omega)
    have e : (idxFrom isOpen 0 l).toNat = j := by have : openIx l = idxFrom isOpen 0 l := rfl; omega
    simp only [e] at h2
    exact eq_of_beq h2
  have GD := good_knock G hj hx1
  clear hx1
  have OP := fun W hR => openLot_any A c l W hR
  rw [ho] at OP hoi
  have hz0 : (0 : Int) ≤ (j : Int) := by omega
  have hzi : ¬ (j : Int) < 0 := by omega
  obtain ⟨x, hxe⟩ : ∃ x, l[j] = x := ⟨_, rfl⟩
  rw [hxe] at GD ⊢
  obtain ⟨d, hd⟩ : ∃ d, decide (1 ≤ x.h ∧ x.r ≤ x.h) = d := ⟨_, rfl⟩
  have hkn : knockL x = ⟨x.i, x.r, if d then 2 else 3, x.h, x.b⟩ := by unfold knockL; rw [← hd]; simp
  replace OP := Lib.hid OP
  replace GD := Lib.hid GD
  have HK := Lib.hid hkn
  clear hkn
  have b0 := (Below.refl w.heap.size w).alloc (Nat.le_refl _) (.cells #[.int .i64 5, .int .i64 i, .int .i64 b, .int .i64 v] 40)
  have b0s := b0.size
  have L0 := Lies.new w 40 #[.int .i64 5, .int .i64 i, .int .i64 b, .int .i64 v]
  have hW := SlcR.up h b0 (Nat.le_refl _)
  have len := G.len
  have BS := fun W hR => bsId_any A c l i W hR G
  go_enter Try.func23, Try.ntmps23
  go_wp2_with fail
  generalize w.alloc (.cells #[.int .i64 5, .int .i64 i, .int .i64 b, .int .i64 v] 40) = W at b0 b0s L0 hW ⊢
  generalize hgb : w.heap.size = g at L0 ⊢
  rw [hgb] at b0 b0s
  refine (cloneLot_any A c l W hW (by omega)).mono ?_
  rintro e w1 ⟨A1, c1, rfl, hO1, hb1⟩
  have L1 := L0.below hb1 L0.lt
  have s0 := L1.cell 0
  have s1 := L1.cell 1
  have s2 := L1.cell 2
  have s3 := L1.cell 3
  simp only [List.getElem?_cons_zero, List.getElem?_cons_succ] at s0 s1 s2 s3
  have HO1 := Lib.hid hO1; clear hO1
  go_wp2_with fail
  refine (BS w1 (SlcR.up hW hb1 (Nat.le_refl _))).mono ?_
  rintro e w2 ⟨rfl, hb2⟩
  have L2 := L1.below hb2 L1.lt
  clear s0 s1 s2 s3
  have s0 := L2.cell 0
  have s1 := L2.cell 1
  have s2 := L2.cell 2
  have s3 := L2.cell 3
  simp only [List.getElem?_cons_zero, List.getElem?_cons_succ] at s0 s1 s2 s3
  have hgW := L0.lt
  go_wp2_with fail
  refine (OP.out w2 (SlcR.up hW (bthen hb1 hb2) (Nat.le_refl _))).mono ?_
  rintro e w3 ⟨rfl, hb3⟩
  have L3 := L2.below hb3 L2.lt
  have hR3 := SlcR.up hW (bthen hb1 (bthen hb2 hb3)) (Nat.le_refl _)
  have HO3 : OwnL w3 W.heap.size A1 c1 l := ownsRow_below HO1.out (bthen hb2 hb3)
  have b3 : Below W.heap.size W w3 := bthen hb1 (bthen hb2 hb3)
  clear s0 s1 s2 s3 L0 L1 L2 HO1
  have s0 := L3.cell 0
  have s1 := L3.cell 1
  have s2 := L3.cell 2
  have s3 := L3.cell 3
  simp only [List.getElem?_cons_zero, List.getElem?_cons_succ] at s0 s1 s2 s3
  obtain ⟨gO, rfl, hgO, hgO', hcO⟩ := OwnL.block HO3 (by omega)
  have hR3' : LotsR w3 W.heap.size A l := SlcR.below hW b3
  obtain ⟨bl, off, rfl, hbl, hcell⟩ := hR3'.el (by omega)
  have hcx := hcell j hj
  rw [hxe] at hcx
  obtain ⟨c0, c1', c2, c3, c4⟩ := LotS.up hcx (Below.refl _ _) b3.size
  clear hcx hcell hR3 hR3' hW h BS
  obtain ⟨K1, K2, K3, K4⟩ := OwnL.set HO3 hj 2 (by decide) (.int .i64 3) (⟨x.i, x.r, 3, x.h, x.b⟩) (by rw [hxe]; rfl)
  rw [hxe] at K4
  simp only [Lot.enc, List.getElem?_cons_zero, List.getElem?_cons_succ] at K4
  go_upto_region 23 with fail
  have b4 := b3.trans K2
  have HO4 := K1
  have v3 := (c3 ⟨w3, Below.refl _ _⟩)
  have v1 := (c1' ⟨w3, Below.refl _ _⟩)
  replace v3 := (World.cell?_of_block (K2.block bl hbl)).trans v3
  replace v1 := (World.cell?_of_block (K2.block bl hbl)).trans v1
  have hw4 := b4.size
  have K5 := K2.size
  clear HO3 L3 c0 c1' c2 c3 c4 s0 s1 s2 s3 b3 K1 K2 K3 K4 hb1 hb2 hb3
  generalize w3.setCell ⟨gO, j * 5 + 2, none⟩ (.int .i64 3) = w4 at b4 HO4 v3 v1 hw4 K5 ⊢
  have hbl4 : bl < w4.heap.size := by omega
  refine wp_region_factsR (fun _ => (fun W9 => Below w4.heap.size w4 W9)) (fun _ w1 w2 => Below w1.heap.size w1 w2) (by kernel_rfl) (by kernel_rfl) (by kernel_rfl) (Below.refl _ _).drew ?_
  simp only [fillOps, Act.put, List.setIfInBounds_toArray, List.set_cons_zero, List.set_cons_succ, Nat.zero_add, Nat.reduceAdd]
  apply wpFactsR_val
  case h1 =>
    intro vs L9 w9 hG9 hC9 hB K9 hK9
    simp only [Act.put, List.setIfInBounds_toArray, List.set_cons_zero, List.set_cons_succ] at hK9
    go_simp
    exact hK9 _ _ rfl hC9 (Below.refl _ _)
  apply wpFactsR_val
  case h1 =>
    intro vs L9 w9 hG9 hC9 hB K9 hK9
    simp only [Act.put, List.setIfInBounds_toArray, List.set_cons_zero, List.set_cons_succ] at hK9
    go_simp
    exact hK9 _ _ rfl hC9 (Below.refl _ _)
  apply wpFactsR_val
  case h1 =>
    intro vs L9 w9 hG9 hC9 hB K9 hK9
    have d0 := FactN.eq (hB 0 _ (by kernel_rfl) (by kernel_rfl) rfl (by decide))
    have d1 := FactN.eq (hB 1 _ (by kernel_rfl) (by kernel_rfl) rfl (by decide))
    simp only [d0, d1] at hK9 ⊢
    simp only [Act.put, List.setIfInBounds_toArray, List.set_cons_zero, List.set_cons_succ] at hK9
    go_simp
    exact hK9 _ _ rfl hC9 (Below.refl _ _)
  apply wpFactsR_val
  case h1 =>
    intro vs L9 w9 hG9 hC9 hB K9 hK9
    have d2 := FactN.eq (hB 2 _ (by kernel_rfl) (by kernel_rfl) rfl (by decide))
    simp only [d2] at hK9 ⊢
    simp only [Act.put, List.setIfInBounds_toArray, List.set_cons_zero, List.set_cons_succ] at hK9
    go_simp
    exact hK9 _ _ rfl hC9 (Below.refl _ _)
  apply wpFactsR_val
  case h1 =>
    intro vs L9 w9 hG9 hC9 hB K9 hK9
    have d3 := FactN.eq (hB 3 _ (by kernel_rfl) (by kernel_rfl) rfl (by decide))
    simp only [d3] at hK9 ⊢
    have q0 : w9.cell? ⟨bl, off + j * 5 + 3, none⟩ = some (.int .i64 x.h) := (hC9.cell hbl4).trans v3
    simp only [Act.put, List.setIfInBounds_toArray, List.set_cons_zero, List.set_cons_succ] at hK9
    go_simp
    exact hK9 _ _ rfl hC9 (Below.refl _ _)
  apply wpFactsR_val
  case h1 =>
    intro vs L9 w9 hG9 hC9 hB K9 hK9
    simp only [Act.put, List.setIfInBounds_toArray, List.set_cons_zero, List.set_cons_succ] at hK9
    go_simp
    exact hK9 _ _ rfl hC9 (Below.refl _ _)
  apply wpFactsR_val
  case h1 =>
    intro vs L9 w9 hG9 hC9 hB K9 hK9
    simp only [Act.put, List.setIfInBounds_toArray, List.set_cons_zero, List.set_cons_succ] at hK9
    go_simp
    exact hK9 _ _ rfl hC9 (Below.refl _ _)
  apply wpFactsR_val
  case h1 =>
    intro vs L9 w9 hG9 hC9 hB K9 hK9
    have d5 := FactN.eq (hB 5 _ (by kernel_rfl) (by kernel_rfl) rfl (by decide))
    have d6 := FactN.eq (hB 6 _ (by kernel_rfl) (by kernel_rfl) rfl (by decide))
    simp only [d5, d6] at hK9 ⊢
    simp only [Act.put, List.setIfInBounds_toArray, List.set_cons_zero, List.set_cons_succ] at hK9
    go_simp
    exact hK9 _ _ rfl hC9 (Below.refl _ _)
  apply wpFactsR_val
  case h1 =>
    intro vs L9 w9 hG9 hC9 hB K9 hK9
    have d7 := FactN.eq (hB 7 _ (by kernel_rfl) (by kernel_rfl) rfl (by decide))
    simp only [d7] at hK9 ⊢
    simp only [Act.put, List.setIfInBounds_toArray, List.set_cons_zero, List.set_cons_succ] at hK9
    go_simp
    exact hK9 _ _ rfl hC9 (Below.refl _ _)
  apply wpFactsR_val
  case h1 =>
    intro vs L9 w9 hG9 hC9 hB K9 hK9
    have d8 := FactN.eq (hB 8 _ (by kernel_rfl) (by kernel_rfl) rfl (by decide))
    simp only [d8] at hK9 ⊢
    have q0 : w9.cell? ⟨bl, off + j * 5 + 1, none⟩ = some (.int .i64 x.r) := (hC9.cell hbl4).trans v1
    simp only [Act.put, List.setIfInBounds_toArray, List.set_cons_zero, List.set_cons_succ] at hK9
    go_simp
    exact hK9 _ _ rfl hC9 (Below.refl _ _)
  apply wpFactsR_val
  case h1 =>
    intro vs L9 w9 hG9 hC9 hB K9 hK9
    have d9 := FactN.eq (hB 9 _ (by kernel_rfl) (by kernel_rfl) rfl (by decide))
    simp only [d9] at hK9 ⊢
    simp only [Act.put, List.setIfInBounds_toArray, List.set_cons_zero, List.set_cons_succ] at hK9
    go_simp
    exact hK9 _ _ rfl hC9 (Below.refl _ _)
  apply wpFactsR_val
  case h1 =>
    intro vs L9 w9 hG9 hC9 hB K9 hK9
    have d4 := FactN.eq (hB 4 _ (by kernel_rfl) (by kernel_rfl) rfl (by decide))
    have d10 := FactN.eq (hB 10 _ (by kernel_rfl) (by kernel_rfl) rfl (by decide))
    simp only [d4, d10] at hK9 ⊢
    simp only [Act.put, List.setIfInBounds_toArray, List.set_cons_zero, List.set_cons_succ] at hK9
    go_simp
    exact hK9 _ _ rfl hC9 (Below.refl _ _)
  refine wpFactsR_nil fun vs L9 w9 hL9 hC9 hB => ?_
  have d11 := FactN.eq (hB 11 _ rfl rfl (by decide))
  have hdd : decide ((if 1 < x.r then x.r else 1) ≤ x.h) = d := by rw [← hd, decide_eq_decide]; split <;> omega
  rw [hdd] at d11
  simp only [d11]
  have HO5 := ownsRow_below HO4 hC9
  have b5 := bthen' b4 hC9 hw4
  clear hB d11 HO4 v3 v1 b4 hdd hC9
  have GD := GD.out
  have hl3 : (l.set j (knockL x)).length = l.length := List.length_set
  obtain ⟨K1, K2, K3, K4⟩ := OwnL.set HO5 (by rw [List.length_set]; exact hj) 2 (by decide) (.int .i64 2) (⟨x.i, x.r, 2, x.h, x.b⟩) (by rw [List.getElem_set_self]; rfl)
  rw [List.getElem_set_self] at K4
  simp only [Lot.enc, List.getElem?_cons_zero, List.getElem?_cons_succ] at K4
  rw [List.set_set] at K1
  cases d
  next =>
    have HF : OwnL w9 W.heap.size (some ⟨gO, 0, none⟩) c1 (l.set j (knockL x)) := by rw [HK.out]; exact HO5
    clear K1 K2 K3 K4 HO5 HK
    go_upto_region 28 with fail
    have IA := isAuction_any (some ⟨gO, 0, none⟩) c1 (l.set j (knockL x)) w9 (OwnL.reads HF)
    rw [hl3, GD] at IA
    go_wp2_with fail
    refine IA.mono ?_
    rintro e w10 ⟨rfl, hb10⟩
    have HF10 := HF.below hb10
    clear IA HF
    go_wp2
    refine bodyPost_ret (v := .tuple #[.slice (some ⟨gO, 0, none⟩) (l.length) c1, .bool true]) (by simp [results, Try.results23, go_sem, *]) rfl (GivesMk.yes hl3 (ownsRow_lower HF10 (by rw [hgb]; exact b0s)) ?_)
    rw [hgb]
    exact b0.trans ((bthen' (b5) hb10 (b5).size).mono b0s)
  next =>
    have hKn : knockL x = ⟨x.i, x.r, 2, x.h, x.b⟩ := HK.out
    rw [← hKn] at K1
    have HF := Lib.hid K1
    have b6 := b5.trans K2
    clear HK hKn HO5 b5
    go_upto_region 28 with fail
    clear K1 K2 K3 K4
    have HF := HF.out
    generalize w9.setCell ⟨gO, j * 5 + 2, none⟩ (.int .i64 2) = w6 at b6 HF ⊢
    have IA := isAuction_any (some ⟨gO, 0, none⟩) c1 (l.set j (knockL x)) w6 (OwnL.reads HF)
    rw [hl3, GD] at IA
    go_wp2_with fail
    refine IA.mono ?_
    rintro e w10 ⟨rfl, hb10⟩
    have HF10 := HF.below hb10
    clear IA HF
    go_wp2
    refine bodyPost_ret (v := .tuple #[.slice (some ⟨gO, 0, none⟩) (l.length) c1, .bool true]) (by simp [results, Try.results23, go_sem, *]) rfl (GivesMk.yes hl3 (ownsRow_lower HF10 (by rw [hgb]; exact b0s)) ?_)
    rw [hgb]
    exact b0.trans ((bthen' (b6) hb10 (b6).size).mono b0s)
end Go.Proofs.Ytkokbmmffkpclaa

/- A step of an auction in the program: add. (Printed by gen_lotstep.py) -/
namespace Go.Proofs.Ytkokbmmffkpclaa
open Go.RowKit

set_option maxRecDepth 100000 in
set_option maxHeartbeats 4000000 in
theorem stepB_add (A : Option Addr) (c : Nat) (l : List Lot) (i b v : Int) (w : World) (h : LotsR w w.heap.size A l) (G : GoodL l) (ho : findIx l i < 0) :
    Calls Try.prog 23 #[.slice A l.length c, .agg #[.int .i64 1, .int .i64 i, .int .i64 b, .int .i64 v]] w (GivesMk w (if goodLots (insL l i v) then some (insL l i v) else none)) := by
  have hoi : decide (0 ≤ findIx l i) = false := decide_eq_false (by omega)
  obtain ⟨d, hd⟩ : ∃ d, goodLots (insL l i v) = d := ⟨_, rfl⟩
  obtain ⟨R, hR⟩ : ∃ R, (if goodLots (insL l i v) then some (insL l i v) else none) = R := ⟨_, rfl⟩
  have HR : Hid (R = if d = true then some (insL l i v) else none) := by rw [Hid, ← hR, ← hd]
  rw [hR]
  clear hR
  have hpl := (find_pos G i).2.1
  have b0 := (Below.refl w.heap.size w).alloc (Nat.le_refl _) (.cells #[.int .i64 1, .int .i64 i, .int .i64 b, .int .i64 v] 40)
  have b0s := b0.size
  have L0 := Lies.new w 40 #[.int .i64 1, .int .i64 i, .int .i64 b, .int .i64 v]
  have hW := SlcR.up h b0 (Nat.le_refl _)
  have len := G.len
  have BS := fun W hR => bsId_any A c l i W hR G
  simp only [hoi] at BS
  clear hoi
  have hy := Lib.hid (show insL l i v = l.take (posL l i) ++ ⟨i, v, 0, 0, 0⟩ :: l.drop (posL l i) from rfl)
  have hd := Lib.hid hd
  obtain ⟨p, hp⟩ : ∃ p, posL l i = p := ⟨_, rfl⟩
  rw [hp] at BS hpl hy
  clear hp
  go_enter Try.func23, Try.ntmps23
  go_wp2_with fail
  generalize w.alloc (.cells #[.int .i64 1, .int .i64 i, .int .i64 b, .int .i64 v] 40) = W at b0 b0s L0 hW ⊢
  generalize hgb : w.heap.size = g at L0 ⊢
  rw [hgb] at b0 b0s
  refine (cloneLot_any A c l W hW (by omega)).mono ?_
  rintro e w1 ⟨A1, c1, rfl, hO1, hb1⟩
  have L1 := L0.below hb1 L0.lt
  have s0 := L1.cell 0
  have s1 := L1.cell 1
  have s2 := L1.cell 2
  have s3 := L1.cell 3
  simp only [List.getElem?_cons_zero, List.getElem?_cons_succ] at s0 s1 s2 s3
  have HO1 := Lib.hid hO1; clear hO1
  go_wp2_with fail
  refine (BS w1 (SlcR.up hW hb1 (Nat.le_refl _))).mono ?_
  rintro e w2 ⟨rfl, hb2⟩
  have L2 := L1.below hb2 L1.lt
  clear s0 s1 s2 s3
  have HO2 : OwnL w2 W.heap.size A1 c1 l := ownsRow_below HO1.out hb2
  have b2 : Below W.heap.size W w2 := bthen hb1 hb2
  clear hW h BS hb1 hb2 L0 L1 HO1
  have s0 := L2.cell 0
  have s1 := L2.cell 1
  have s2 := L2.cell 2
  have s3 := L2.cell 3
  simp only [List.getElem?_cons_zero, List.getElem?_cons_succ] at s0 s1 s2 s3
  go_wp2_with fail
  have hxn := Lies.new w2 44 #[.int .i64 i, .int .i64 v, .int .i64 0, .int .i64 0, .int .i64 0]
  have al2 := (Below.refl w2.heap.size w2).alloc (Nat.le_refl _) (.cells #[.int .i64 i, .int .i64 v, .int .i64 0, .int .i64 0, .int .i64 0] 44)
  have HO3 := ownsRow_below HO2 al2
  have b3 := bthen b2 al2
  have hne : (Value.slice A1 l.length c1).ownBlock ≠ some w2.heap.size := fun e => by have := (HO2.lt _ e).2; omega
  refine (insLot_any W.heap.size (.slice A1 l.length c1) l.length (l.flatMap Lot.enc) _ HO3 (by omega) p hpl ⟨i, v, 0, 0, 0⟩ w2.heap.size 1 hxn hne b3.size lot_cells).mono ?_
  rintro e w3 ⟨v', rfl, ho3, gr3⟩
  obtain ⟨A3, c3', rfl⟩ := ownsRow_slice ho3
  have hl3 : (insL l i v).length = l.length + 1 := by rw [hy.out]; simp; omega
  have HF : OwnL w3 W.heap.size A3 c3' (insL l i v) := by
    have e : (insL l i v).flatMap Lot.enc = (l.flatMap Lot.enc).take (p * 5) ++ (⟨i, v, 0, 0, 0⟩ : Lot).enc ++ (l.flatMap Lot.enc).drop (p * 5) := by
      rw [hy.out, List.flatMap_append, List.flatMap_cons, flat_takeL, flat_dropL, List.append_assoc]
    unfold OwnL
    rw [e, hl3]
    exact ho3
  have b4 : Below W.heap.size W w3 := b3.trans ((Below.refl _ _).grown gr3 b3.size (fun g hg => (HO2.lt g hg).1))
  clear ho3 gr3 HO2 HO3 L2 s0 s1 s2 s3 b2 b3 hxn al2 hne
  have IA := isAuction_any A3 c3' (insL l i v) w3 (OwnL.reads HF)
  rw [hl3, hd.out] at IA
  go_wp2_with fail
  refine IA.mono ?_
  rintro e w10 ⟨rfl, hb10⟩
  have HF10 := HF.below hb10
  clear IA HF
  cases d
  next =>
    obtain rfl : R = none := by simpa using HR.out
    go_wp2
    refine bodyPost_ret (v := .tuple #[.slice none 0 0, .bool false]) (by simp [results, Try.results23, go_sem, *]) rfl (GivesMk.fail ?_)
    rw [hgb]
    exact b0.trans ((bthen' b4 hb10 b4.size).mono b0s)
  next =>
    obtain rfl : R = some (insL l i v) := by simpa using HR.out
    go_wp2
    refine bodyPost_ret (v := .tuple #[.slice A3 (l.length + 1) c3', .bool true]) (by simp [results, Try.results23, go_sem, *]) rfl (GivesMk.yes hl3 (ownsRow_lower HF10 (by rw [hgb]; exact b0s)) ?_)
    rw [hgb]
    exact b0.trans ((bthen' b4 hb10 b4.size).mono b0s)
end Go.Proofs.Ytkokbmmffkpclaa

/- A step of an auction in the program: drop. (Printed by gen_lotstep.py) -/
namespace Go.Proofs.Ytkokbmmffkpclaa
open Go.RowKit

set_option maxRecDepth 100000 in
set_option maxHeartbeats 4000000 in
theorem stepB_drop (A : Option Addr) (c : Nat) (l : List Lot) (i b v : Int) (w : World) (h : LotsR w w.heap.size A l) (G : GoodL l) (j : Nat) (hj : j < l.length) (hf : findIx l i = j) :
    Calls Try.prog 23 #[.slice A l.length c, .agg #[.int .i64 2, .int .i64 i, .int .i64 b, .int .i64 v]] w (GivesMk w (if l[j].s = 0 then some (delL l j) else none)) := by
  have hp : posL l i = j := by have := (find_pos G i).1 (by omega); omega
  have hz0 : (0 : Int) ≤ (j : Int) := by omega
  have hfi : decide ((0 : Int) ≤ (j : Int)) = true := decide_eq_true hz0
  have GD := Lib.hid (good_del G j)
  obtain ⟨x, hxe⟩ : ∃ x, l[j] = x := ⟨_, rfl⟩
  rw [hxe]
  obtain ⟨d, hd⟩ : ∃ d, (x.s == 0) = d := ⟨_, rfl⟩
  obtain ⟨R, hR⟩ : ∃ R, (if x.s = 0 then some (delL l j) else none) = R := ⟨_, rfl⟩
  have HR : Hid (R = if d = true then some (delL l j) else none) := by
    rw [Hid, ← hR, ← hd]
    simp
  rw [hR]
  clear hR
  have b0 := (Below.refl w.heap.size w).alloc (Nat.le_refl _) (.cells #[.int .i64 2, .int .i64 i, .int .i64 b, .int .i64 v] 40)
  have b0s := b0.size
  have L0 := Lies.new w 40 #[.int .i64 2, .int .i64 i, .int .i64 b, .int .i64 v]
  have hW := SlcR.up h b0 (Nat.le_refl _)
  have len := G.len
  have BS := fun W hR => bsId_any A c l i W hR G
  simp only [hp, hf, hfi] at BS
  clear hp hf
  go_enter Try.func23, Try.ntmps23
  go_wp2_with fail
  generalize w.alloc (.cells #[.int .i64 2, .int .i64 i, .int .i64 b, .int .i64 v] 40) = W at b0 b0s L0 hW ⊢
  generalize hgb : w.heap.size = g at L0 ⊢
  rw [hgb] at b0 b0s
  refine (cloneLot_any A c l W hW (by omega)).mono ?_
  rintro e w1 ⟨A1, c1, rfl, hO1, hb1⟩
  have L1 := L0.below hb1 L0.lt
  have s0 := L1.cell 0
  have s1 := L1.cell 1
  have s2 := L1.cell 2
  have s3 := L1.cell 3
  simp only [List.getElem?_cons_zero, List.getElem?_cons_succ] at s0 s1 s2 s3
  have HO1 := Lib.hid hO1; clear hO1
  go_wp2_with fail
  refine (BS w1 (SlcR.up hW hb1 (Nat.le_refl _))).mono ?_
  rintro e w2 ⟨rfl, hb2⟩
  have L2 := L1.below hb2 L1.lt
  clear s0 s1 s2 s3
  have hgW := L0.lt
  have hR2 : LotsR w2 W.heap.size A l := SlcR.below hW (bthen hb1 hb2)
  have HO2 : OwnL w2 W.heap.size A1 c1 l := ownsRow_below HO1.out hb2
  have b2 : Below W.heap.size W w2 := bthen hb1 hb2
  obtain ⟨gO, rfl, hgO, hgO', hcO⟩ := OwnL.block HO2 (by omega)
  obtain ⟨bl, off, rfl, hbl, hcell⟩ := hR2.el (by omega)
  have hcx := hcell j hj
  rw [hxe] at hcx
  obtain ⟨c0, c1', c2, c3, c4⟩ := LotS.up hcx (Below.refl _ _) b2.size
  clear hcx hcell hR2 hW h BS hb1 hb2 L0 L1 HO1
  have s0 := L2.cell 0
  have s1 := L2.cell 1
  have s2 := L2.cell 2
  have s3 := L2.cell 3
  simp only [List.getElem?_cons_zero, List.getElem?_cons_succ] at s0 s1 s2 s3
  have q2 := c2 ⟨w2, Below.refl _ _⟩
  go_wp2_with fail
  refine (delLot_any W.heap.size (.slice (some ⟨gO, 0, none⟩) l.length c1) l.length (l.flatMap Lot.enc) w2 HO2 (by omega) j hj lot_cells).mono ?_
  rintro e w3 ⟨v', rfl, ho3, gr3, _⟩
  obtain ⟨A3, c3', rfl⟩ := ownsRow_slice ho3
  have hl3 : (delL l j).length = l.length - 1 := by unfold delL; simp; omega
  have HF : OwnL w3 W.heap.size A3 c3' (delL l j) := by
    unfold OwnL delL
    rw [List.flatMap_append, flat_takeL, flat_dropL, show (j + 1) * 5 = j * 5 + 5 by omega]
    unfold delL at hl3
    rw [hl3]
    exact ho3
  have b3 : Below W.heap.size W w3 := b2.trans ((Below.refl _ _).grown gr3 (by omega) (by rintro _ ⟨⟩; exact hgO))
  clear ho3 gr3 HO2 L2 c0 c1' c2 c3 c4 q2 s0 s1 s2 s3 b2
  have GD := GD.out
  go_upto_region 28 with fail
  cases d
  next =>
    obtain rfl : R = none := by simpa using HR.out
    go_wp2
    refine bodyPost_ret (v := .tuple #[.slice none 0 0, .bool false]) (by simp [results, Try.results23, go_sem, *]) rfl (GivesMk.fail ?_)
    rw [hgb]
    exact b0.trans ((b3).mono b0s)
  next =>
    obtain rfl : R = some (delL l j) := by simpa using HR.out
    have IA := isAuction_any A3 c3' (delL l j) w3 (OwnL.reads HF)
    rw [hl3, GD] at IA
    go_wp2_with fail
    refine IA.mono ?_
    rintro e w10 ⟨rfl, hb10⟩
    have HF10 := HF.below hb10
    clear IA HF
    go_wp2
    refine bodyPost_ret (v := .tuple #[.slice A3 (l.length - 1) c3', .bool true]) (by simp [results, Try.results23, go_sem, *]) rfl (GivesMk.yes hl3 (ownsRow_lower HF10 (by rw [hgb]; exact b0s)) ?_)
    rw [hgb]
    exact b0.trans ((bthen' (b3) hb10 (b3).size).mono b0s)
end Go.Proofs.Ytkokbmmffkpclaa

/- A step of an auction in the program: open. (Printed by gen_lotstep.py) -/
namespace Go.Proofs.Ytkokbmmffkpclaa
open Go.RowKit

set_option maxRecDepth 100000 in
set_option maxHeartbeats 4000000 in
theorem stepB_open (A : Option Addr) (c : Nat) (l : List Lot) (i b v : Int) (w : World) (h : LotsR w w.heap.size A l) (G : GoodL l) (j : Nat) (hj : j < l.length) (hf : findIx l i = j) :
    Calls Try.prog 23 #[.slice A l.length c, .agg #[.int .i64 3, .int .i64 i, .int .i64 b, .int .i64 v]] w (GivesMk w (if l[j].s = 0 ∧ openIx l < 0 then some (l.set j (openL l[j])) else none)) := by
  have hp : posL l i = j := by have := (find_pos G i).1 (by omega); omega
  have hz0 : (0 : Int) ≤ (j : Int) := by omega
  have hfi : decide ((0 : Int) ≤ (j : Int)) = true := decide_eq_true hz0
  have GD := fun h => good_open G hj h
  obtain ⟨x, hxe⟩ : ∃ x, l[j] = x := ⟨_, rfl⟩
  rw [hxe] at GD ⊢
  obtain ⟨d, hd⟩ : ∃ d, (x.s == 0) = d := ⟨_, rfl⟩
  obtain ⟨R, hR⟩ : ∃ R, (if x.s = 0 ∧ openIx l < 0 then some (l.set j (openL x)) else none) = R := ⟨_, rfl⟩
  have HR : Hid (R = if d = true ∧ openIx l < 0 then some (l.set j (openL x)) else none) := by
    rw [Hid, ← hR, ← hd]
    simp
  have GD : Hid (d = true → goodLots (l.set j (openL x)) = decide (openIx l < 0)) := fun h => GD (by rw [← hd] at h; exact eq_of_beq h)
  rw [hR]
  clear hR
  have b0 := (Below.refl w.heap.size w).alloc (Nat.le_refl _) (.cells #[.int .i64 3, .int .i64 i, .int .i64 b, .int .i64 v] 40)
  have b0s := b0.size
  have L0 := Lies.new w 40 #[.int .i64 3, .int .i64 i, .int .i64 b, .int .i64 v]
  have hW := SlcR.up h b0 (Nat.le_refl _)
  have len := G.len
  have BS := fun W hR => bsId_any A c l i W hR G
  simp only [hp, hf, hfi] at BS
  clear hp hf
  go_enter Try.func23, Try.ntmps23
  go_wp2_with fail
  generalize w.alloc (.cells #[.int .i64 3, .int .i64 i, .int .i64 b, .int .i64 v] 40) = W at b0 b0s L0 hW ⊢
  generalize hgb : w.heap.size = g at L0 ⊢
  rw [hgb] at b0 b0s
  refine (cloneLot_any A c l W hW (by omega)).mono ?_
  rintro e w1 ⟨A1, c1, rfl, hO1, hb1⟩
  have L1 := L0.below hb1 L0.lt
  have s0 := L1.cell 0
  have s1 := L1.cell 1
  have s2 := L1.cell 2
  have s3 := L1.cell 3
  simp only [List.getElem?_cons_zero, List.getElem?_cons_succ] at s0 s1 s2 s3
  have HO1 := Lib.hid hO1; clear hO1
  go_wp2_with fail
  refine (BS w1 (SlcR.up hW hb1 (Nat.le_refl _))).mono ?_
  rintro e w2 ⟨rfl, hb2⟩
  have L2 := L1.below hb2 L1.lt
  clear s0 s1 s2 s3
  have hgW := L0.lt
  have hR2 : LotsR w2 W.heap.size A l := SlcR.below hW (bthen hb1 hb2)
  have HO2 : OwnL w2 W.heap.size A1 c1 l := ownsRow_below HO1.out hb2
  have b2 : Below W.heap.size W w2 := bthen hb1 hb2
  obtain ⟨gO, rfl, hgO, hgO', hcO⟩ := OwnL.block HO2 (by omega)
  obtain ⟨bl, off, rfl, hbl, hcell⟩ := hR2.el (by omega)
  have hcx := hcell j hj
  rw [hxe] at hcx
  obtain ⟨c0, c1', c2, c3, c4⟩ := LotS.up hcx (Below.refl _ _) b2.size
  clear hcx hcell hR2 hW h BS hb1 hb2 L0 L1 HO1
  have s0 := L2.cell 0
  have s1 := L2.cell 1
  have s2 := L2.cell 2
  have s3 := L2.cell 3
  simp only [List.getElem?_cons_zero, List.getElem?_cons_succ] at s0 s1 s2 s3
  have q2 := c2 ⟨w2, Below.refl _ _⟩
  obtain ⟨K1, K2, K3, K4⟩ := OwnL.set HO2 hj 2 (by decide) (.int .i64 1) (openL x) (by rw [hxe]; rfl)
  rw [hxe] at K4
  simp only [Lot.enc, List.getElem?_cons_zero, List.getElem?_cons_succ] at K4
  have hl3 : (l.set j (openL x)).length = l.length := List.length_set
  go_upto_region 28 with fail
  have b3 := b2.trans K2
  have HF := Lib.hid K1
  clear HO2 L2 c0 c1' c2 c3 c4 q2 s0 s1 s2 s3 b2 K1 K2 K3 K4
  generalize w2.setCell ⟨gO, j * 5 + 2, none⟩ (.int .i64 1) = w3 at b3 HF ⊢
  cases d
  next =>
    obtain rfl : R = none := by simpa using HR.out
    go_wp2
    refine bodyPost_ret (v := .tuple #[.slice none 0 0, .bool false]) (by simp [results, Try.results23, go_sem, *]) rfl (GivesMk.fail ?_)
    rw [hgb]
    exact b0.trans ((b3).mono b0s)
  next =>
    have GD := GD.out rfl
    obtain ⟨d2, hd2⟩ : ∃ d2, decide (openIx l < 0) = d2 := ⟨_, rfl⟩
    rw [hd2] at GD
    have HF := HF.out
    have IA := isAuction_any (some ⟨gO, 0, none⟩) c1 (l.set j (openL x)) w3 (OwnL.reads HF)
    rw [hl3, GD] at IA
    go_wp2_with fail
    refine IA.mono ?_
    rintro e w10 ⟨rfl, hb10⟩
    have HF10 := HF.below hb10
    clear IA HF
    cases d2
    next =>
      obtain rfl : R = none := by rw [HR.out, if_neg]; intro h; exact absurd (decide_eq_true h.2) (by rw [hd2]; decide)
      go_wp2
      refine bodyPost_ret (v := .tuple #[.slice none 0 0, .bool false]) (by simp [results, Try.results23, go_sem, *]) rfl (GivesMk.fail ?_)
      rw [hgb]
      exact b0.trans ((bthen' b3 hb10 b3.size).mono b0s)
    next =>
      obtain rfl : R = some (l.set j (openL x)) := by rw [HR.out, if_pos]; exact ⟨by trivial, of_decide_eq_true hd2⟩
      go_wp2
      refine bodyPost_ret (v := .tuple #[.slice (some ⟨gO, 0, none⟩) l.length c1, .bool true]) (by simp [results, Try.results23, go_sem, *]) rfl (GivesMk.yes hl3 (ownsRow_lower HF10 (by rw [hgb]; exact b0s)) ?_)
      rw [hgb]
      exact b0.trans ((bthen' b3 hb10 b3.size).mono b0s)
end Go.Proofs.Ytkokbmmffkpclaa

/- A step of an auction in the program: again. (Printed by gen_lotstep.py) -/
namespace Go.Proofs.Ytkokbmmffkpclaa
open Go.RowKit

set_option maxRecDepth 100000 in
set_option maxHeartbeats 4000000 in
theorem stepB_again (A : Option Addr) (c : Nat) (l : List Lot) (i b v : Int) (w : World) (h : LotsR w w.heap.size A l) (G : GoodL l) (j : Nat) (hj : j < l.length) (hf : findIx l i = j) :
    Calls Try.prog 23 #[.slice A l.length c, .agg #[.int .i64 6, .int .i64 i, .int .i64 b, .int .i64 v]] w (GivesMk w (if l[j].s = 3 then some (l.set j (againL l[j])) else none)) := by
  have hp : posL l i = j := by have := (find_pos G i).1 (by omega); omega
  have hz0 : (0 : Int) ≤ (j : Int) := by omega
  have hfi : decide ((0 : Int) ≤ (j : Int)) = true := decide_eq_true hz0
  have hxi : l[j].i = i := by
    obtain ⟨h1, h2⟩ := (find_pos G i).2.2.2.2.1 (by omega)
    simp only [hp] at h2; exact h2
  have GD := good_again G hj
  obtain ⟨x, hxe⟩ : ∃ x, l[j] = x := ⟨_, rfl⟩
  rw [hxe] at GD hxi ⊢
  have GD := Lib.hid GD
  have hy := Lib.hid (show (⟨i, x.r, 0, 0, 0⟩ : Lot) = againL x by rw [← hxi]; rfl)
  clear hxi
  obtain ⟨d, hd⟩ : ∃ d, (x.s == 3) = d := ⟨_, rfl⟩
  obtain ⟨R, hR⟩ : ∃ R, (if x.s = 3 then some (l.set j (againL x)) else none) = R := ⟨_, rfl⟩
  have HR : Hid (R = if d = true then some (l.set j (againL x)) else none) := by
    rw [Hid, ← hR, ← hd]
    simp
  rw [hR]
  clear hR
  have b0 := (Below.refl w.heap.size w).alloc (Nat.le_refl _) (.cells #[.int .i64 6, .int .i64 i, .int .i64 b, .int .i64 v] 40)
  have b0s := b0.size
  have L0 := Lies.new w 40 #[.int .i64 6, .int .i64 i, .int .i64 b, .int .i64 v]
  have hW := SlcR.up h b0 (Nat.le_refl _)
  have len := G.len
  have BS := fun W hR => bsId_any A c l i W hR G
  simp only [hp, hf, hfi] at BS
  clear hp hf
  go_enter Try.func23, Try.ntmps23
  go_wp2_with fail
  generalize w.alloc (.cells #[.int .i64 6, .int .i64 i, .int .i64 b, .int .i64 v] 40) = W at b0 b0s L0 hW ⊢
  generalize hgb : w.heap.size = g at L0 ⊢
  rw [hgb] at b0 b0s
  refine (cloneLot_any A c l W hW (by omega)).mono ?_
  rintro e w1 ⟨A1, c1, rfl, hO1, hb1⟩
  have L1 := L0.below hb1 L0.lt
  have s0 := L1.cell 0
  have s1 := L1.cell 1
  have s2 := L1.cell 2
  have s3 := L1.cell 3
  simp only [List.getElem?_cons_zero, List.getElem?_cons_succ] at s0 s1 s2 s3
  have HO1 := Lib.hid hO1; clear hO1
  go_wp2_with fail
  refine (BS w1 (SlcR.up hW hb1 (Nat.le_refl _))).mono ?_
  rintro e w2 ⟨rfl, hb2⟩
  have L2 := L1.below hb2 L1.lt
  clear s0 s1 s2 s3
  have hgW := L0.lt
  have hR2 : LotsR w2 W.heap.size A l := SlcR.below hW (bthen hb1 hb2)
  have HO2 : OwnL w2 W.heap.size A1 c1 l := ownsRow_below HO1.out hb2
  have b2 : Below W.heap.size W w2 := bthen hb1 hb2
  obtain ⟨gO, rfl, hgO, hgO', hcO⟩ := OwnL.block HO2 (by omega)
  obtain ⟨bl, off, rfl, hbl, hcell⟩ := hR2.el (by omega)
  have hcx := hcell j hj
  rw [hxe] at hcx
  obtain ⟨c0, c1', c2, c3, c4⟩ := LotS.up hcx (Below.refl _ _) b2.size
  clear hcx hcell hR2 hW h BS hb1 hb2 L0 L1 HO1
  have s0 := L2.cell 0
  have s1 := L2.cell 1
  have s2 := L2.cell 2
  have s3 := L2.cell 3
  simp only [List.getElem?_cons_zero, List.getElem?_cons_succ] at s0 s1 s2 s3
  have q2 := c2 ⟨w2, Below.refl _ _⟩
  have hw2 := b2.size
  go_upto_region 27 with fail
  refine wp_region_factsR (Sw 11 (fun W9 => Below w2.heap.size w2 W9) (fun W9 => Below W.heap.size w2 W9 ∧ OwnL W9 W.heap.size (some ⟨gO, 0, none⟩) c1 (l.set j (againL x)))) (fun i w1 w2 => i ∉ [11] → Below w1.heap.size w1 w2) (by kernel_rfl) (by kernel_rfl) (by kernel_rfl) (Sw.start (Below.refl _ _).drew) ?_
  simp only [fillOps, Act.put, List.setIfInBounds_toArray, List.set_cons_zero, List.set_cons_succ, Nat.zero_add, Nat.reduceAdd]
  apply wpFactsR_val
  case h1 =>
    intro vs L9 w9 hG9 hC9 hB K9 hK9
    replace hC9 := hC9.before hG9 (by kernel_rfl)
    simp only [Act.put, List.setIfInBounds_toArray, List.set_cons_zero, List.set_cons_succ] at hK9
    go_simp
    exact hK9 _ _ rfl (Sw.stay hG9 (by kernel_rfl) (by decide) hC9) (fun _ => Below.refl _ _)
  apply wpFactsR_val
  case h1 =>
    intro vs L9 w9 hG9 hC9 hB K9 hK9
    replace hC9 := hC9.before hG9 (by kernel_rfl)
    simp only [Act.put, List.setIfInBounds_toArray, List.set_cons_zero, List.set_cons_succ] at hK9
    go_simp
    exact hK9 _ _ rfl (Sw.stay hG9 (by kernel_rfl) (by decide) hC9) (fun _ => Below.refl _ _)
  apply wpFactsR_val
  case h1 =>
    intro vs L9 w9 hG9 hC9 hB K9 hK9
    replace hC9 := hC9.before hG9 (by kernel_rfl)
    simp only [Act.put, List.setIfInBounds_toArray, List.set_cons_zero, List.set_cons_succ] at hK9
    go_simp
    exact hK9 _ _ rfl (Sw.stay hG9 (by kernel_rfl) (by decide) hC9) (fun _ => Below.refl _ _)
  apply wpFactsR_val
  case h1 =>
    intro vs L9 w9 hG9 hC9 hB K9 hK9
    replace hC9 := hC9.before hG9 (by kernel_rfl)
    have d2 := FactN.eq (hB 2 _ (by kernel_rfl) (by kernel_rfl) rfl (by decide))
    simp only [d2] at hK9 ⊢
    have q0 : w9.cell? ⟨g, 1, none⟩ = some (.int .i64 i) := (L2.below hC9 L2.lt).cell 1
    simp only [Act.put, List.setIfInBounds_toArray, List.set_cons_zero, List.set_cons_succ] at hK9
    go_simp
    exact hK9 _ _ rfl (Sw.stay hG9 (by kernel_rfl) (by decide) hC9) (fun _ => Below.refl _ _)
  apply wpFactsR_val
  case h1 =>
    intro vs L9 w9 hG9 hC9 hB K9 hK9
    replace hC9 := hC9.before hG9 (by kernel_rfl)
    simp only [Act.put, List.setIfInBounds_toArray, List.set_cons_zero, List.set_cons_succ] at hK9
    go_simp
    exact hK9 _ _ rfl (Sw.stay hG9 (by kernel_rfl) (by decide) hC9) (fun _ => Below.refl _ _)
  apply wpFactsR_val
  case h1 =>
    intro vs L9 w9 hG9 hC9 hB K9 hK9
    replace hC9 := hC9.before hG9 (by kernel_rfl)
    simp only [Act.put, List.setIfInBounds_toArray, List.set_cons_zero, List.set_cons_succ] at hK9
    go_simp
    exact hK9 _ _ rfl (Sw.stay hG9 (by kernel_rfl) (by decide) hC9) (fun _ => Below.refl _ _)
  apply wpFactsR_val
  case h1 =>
    intro vs L9 w9 hG9 hC9 hB K9 hK9
    replace hC9 := hC9.before hG9 (by kernel_rfl)
    have d4 := FactN.eq (hB 4 _ (by kernel_rfl) (by kernel_rfl) rfl (by decide))
    have d5 := FactN.eq (hB 5 _ (by kernel_rfl) (by kernel_rfl) rfl (by decide))
    simp only [d4, d5] at hK9 ⊢
    simp only [Act.put, List.setIfInBounds_toArray, List.set_cons_zero, List.set_cons_succ] at hK9
    go_simp
    exact hK9 _ _ rfl (Sw.stay hG9 (by kernel_rfl) (by decide) hC9) (fun _ => Below.refl _ _)
  apply wpFactsR_val
  case h1 =>
    intro vs L9 w9 hG9 hC9 hB K9 hK9
    replace hC9 := hC9.before hG9 (by kernel_rfl)
    have d6 := FactN.eq (hB 6 _ (by kernel_rfl) (by kernel_rfl) rfl (by decide))
    simp only [d6] at hK9 ⊢
    simp only [Act.put, List.setIfInBounds_toArray, List.set_cons_zero, List.set_cons_succ] at hK9
    go_simp
    exact hK9 _ _ rfl (Sw.stay hG9 (by kernel_rfl) (by decide) hC9) (fun _ => Below.refl _ _)
  apply wpFactsR_val
  case h1 =>
    intro vs L9 w9 hG9 hC9 hB K9 hK9
    replace hC9 := hC9.before hG9 (by kernel_rfl)
    have d7 := FactN.eq (hB 7 _ (by kernel_rfl) (by kernel_rfl) rfl (by decide))
    simp only [d7] at hK9 ⊢
    have q1 : w9.cell? ⟨bl, off + j * 5 + 1, none⟩ = some (.int .i64 x.r) := c1' ⟨w9, hC9⟩
    simp only [Act.put, List.setIfInBounds_toArray, List.set_cons_zero, List.set_cons_succ] at hK9
    go_simp
    exact hK9 _ _ rfl (Sw.stay hG9 (by kernel_rfl) (by decide) hC9) (fun _ => Below.refl _ _)
  apply wpFactsR_val
  case h1 =>
    intro vs L9 w9 hG9 hC9 hB K9 hK9
    replace hC9 := hC9.before hG9 (by kernel_rfl)
    have d3 := FactN.eq (hB 3 _ (by kernel_rfl) (by kernel_rfl) rfl (by decide))
    have d8 := FactN.eq (hB 8 _ (by kernel_rfl) (by kernel_rfl) rfl (by decide))
    simp only [d3, d8] at hK9 ⊢
    simp only [Act.put, List.setIfInBounds_toArray, List.set_cons_zero, List.set_cons_succ] at hK9
    go_simp
    exact hK9 _ _ rfl (Sw.stay hG9 (by kernel_rfl) (by decide) hC9) (fun _ => Below.refl _ _)
  apply wpFactsR_val
  case h1 =>
    intro vs L9 w9 hG9 hC9 hB K9 hK9
    replace hC9 := hC9.before hG9 (by kernel_rfl)
    have d0 := FactN.eq (hB 0 _ (by kernel_rfl) (by kernel_rfl) rfl (by decide))
    have d1 := FactN.eq (hB 1 _ (by kernel_rfl) (by kernel_rfl) rfl (by decide))
    simp only [d0, d1] at hK9 ⊢
    simp only [Act.put, List.setIfInBounds_toArray, List.set_cons_zero, List.set_cons_succ] at hK9
    go_simp
    exact hK9 _ _ rfl (Sw.stay hG9 (by kernel_rfl) (by decide) hC9) (fun _ => Below.refl _ _)
  refine wpFactsR_val (undef) (fun vs L9 w9 hG9 hC9 hB K9 hK9 => ?_) ?_
  next =>
    replace hC9 := hC9.here hG9
    have d9 := FactN.eq (hB 9 _ (by kernel_rfl) (by kernel_rfl) rfl (by decide))
    have d10 := FactN.eq (hB 10 _ (by kernel_rfl) (by kernel_rfl) rfl (by decide))
    simp only [d9, d10] at hK9 ⊢
    have H0 := ownsRow_below HO2 hC9
    obtain ⟨K0, B0, y1, y2⟩ := OwnL.set H0 hj 0 (by decide) (.int .i64 i) (⟨i, x.r, x.s, x.h, x.b⟩) (by rw [hxe]; rfl)
    clear y1 y2
    simp only [Nat.add_zero] at K0 B0
    obtain ⟨y3, y4, F0, Z0⟩ := OwnL.set H0 hj 0 (by decide) (.int .i64 0) ⟨0, x.r, x.s, x.h, x.b⟩ (by rw [hxe]; rfl)
    clear y3 y4
    obtain ⟨K1, B1, y1, y2⟩ := OwnL.set K0 (by rw [List.length_set]; exact hj) 1 (by decide) (.int .i64 x.r) (⟨i, x.r, x.s, x.h, x.b⟩) (by rw [List.getElem_set_self]; rfl)
    clear y1 y2
    rw [List.set_set] at K1
    obtain ⟨y3, y4, F1, Z1⟩ := OwnL.set H0 hj 1 (by decide) (.int .i64 0) ⟨x.i, 0, x.s, x.h, x.b⟩ (by rw [hxe]; rfl)
    clear y3 y4
    obtain ⟨K2, B2, y1, y2⟩ := OwnL.set K1 (by rw [List.length_set]; exact hj) 2 (by decide) (.int .i64 0) (⟨i, x.r, 0, x.h, x.b⟩) (by rw [List.getElem_set_self]; rfl)
    clear y1 y2
    rw [List.set_set] at K2
    obtain ⟨y3, y4, F2, Z2⟩ := OwnL.set H0 hj 2 (by decide) (.int .i64 0) ⟨x.i, x.r, 0, x.h, x.b⟩ (by rw [hxe]; rfl)
    clear y3 y4
    obtain ⟨K3, B3, y1, y2⟩ := OwnL.set K2 (by rw [List.length_set]; exact hj) 3 (by decide) (.int .i64 0) (⟨i, x.r, 0, 0, x.b⟩) (by rw [List.getElem_set_self]; rfl)
    clear y1 y2
    rw [List.set_set] at K3
    obtain ⟨y3, y4, F3, Z3⟩ := OwnL.set H0 hj 3 (by decide) (.int .i64 0) ⟨x.i, x.r, x.s, 0, x.b⟩ (by rw [hxe]; rfl)
    clear y3 y4
    obtain ⟨K4, B4, y1, y2⟩ := OwnL.set K3 (by rw [List.length_set]; exact hj) 4 (by decide) (.int .i64 0) (⟨i, x.r, 0, 0, 0⟩) (by rw [List.getElem_set_self]; rfl)
    clear y1 y2
    rw [List.set_set] at K4
    obtain ⟨y3, y4, F4, Z4⟩ := OwnL.set H0 hj 4 (by decide) (.int .i64 0) ⟨x.i, x.r, x.s, x.h, 0⟩ (by rw [hxe]; rfl)
    clear y3 y4
    simp only [Nat.add_zero] at F0 Z0
    rw [hxe] at Z0 Z1 Z2 Z3 Z4
    simp only [Lot.enc, List.getElem?_cons_zero, List.getElem?_cons_succ] at Z0 Z1 Z2 Z3 Z4
    rw [hy.out] at K4
    have hK := Lib.hid K4
    have hB5 := Lib.hid ((hC9.mono hw2).trans (B0.trans (B1.trans (B2.trans (B3.trans B4)))))
    clear K0 K1 K2 K3 K4 B0 B1 B2 B3 B4 H0
    go_simp
    exact hK9 _ _ rfl (Sw.turn ⟨hB5.out, hK.out⟩) (fun hq => (hq (by decide)).elim)
  refine wpFactsR_nil fun vs L9 w9 hL9 hC9 hB => ?_
  replace hC9 := hC9.done hL9 (by decide)
  obtain ⟨hC9, HF⟩ := hC9
  have hl3 : (l.set j (againL x)).length = l.length := List.length_set
  have b3 := b2.trans hC9
  have GD := GD.out
  clear hB HO2 L2 c0 c1' c2 c3 c4 q2 s0 s1 s2 s3 b2 hC9
  go_upto_region 28 with fail
  cases d
  next =>
    obtain rfl : R = none := by simpa using HR.out
    go_wp2
    refine bodyPost_ret (v := .tuple #[.slice none 0 0, .bool false]) (by simp [results, Try.results23, go_sem, *]) rfl (GivesMk.fail ?_)
    rw [hgb]
    exact b0.trans ((b3).mono b0s)
  next =>
    obtain rfl : R = some (l.set j (againL x)) := by simpa using HR.out
    have IA := isAuction_any (some ⟨gO, 0, none⟩) c1 (l.set j (againL x)) w9 (OwnL.reads HF)
    rw [hl3, GD] at IA
    go_wp2_with fail
    refine IA.mono ?_
    rintro e w10 ⟨rfl, hb10⟩
    have HF10 := HF.below hb10
    clear IA HF
    go_wp2
    refine bodyPost_ret (v := .tuple #[.slice (some ⟨gO, 0, none⟩) (l.length) c1, .bool true]) (by simp [results, Try.results23, go_sem, *]) rfl (GivesMk.yes hl3 (ownsRow_lower HF10 (by rw [hgb]; exact b0s)) ?_)
    rw [hgb]
    exact b0.trans ((bthen' (b3) hb10 (b3).size).mono b0s)
end Go.Proofs.Ytkokbmmffkpclaa

/- A step of an auction in the program: all kinds. -/
namespace Go.Proofs.Ytkokbmmffkpclaa
open Go.RowKit

theorem implStepA_any (A : Option Addr) (c : Nat) (l : List Lot) (s : ASt) (w : World) (h : LotsR w w.heap.size A l) (G : GoodL l) (hs : s.ok = true) :
    Calls Try.prog 23 #[.slice A l.length c, s.val] w (GivesMk w (stepL l s)) := by
  obtain ⟨k, i, b, v⟩ := s
  have hk : k = 1 ∨ k = 2 ∨ k = 3 ∨ k = 4 ∨ k = 5 ∨ k = 6 := kinds hs
  rcases hk with rfl | rfl | rfl | rfl | rfl | rfl
  · by_cases hf : findIx l i < 0
    · rw [step1_add hf]; exact stepB_add A c l i b v w h G hf
    · rw [step1_none (by omega)]; exact stepB_none1 A c l i b v w h G (by omega)
  · by_cases hf : findIx l i < 0
    · rw [stepF_none (by omega) hf]; exact stepB_none2 A c l i b v w h G hf
    · obtain ⟨j, hf', hj⟩ := find_at hf
      rw [step2_drop hf' hj]; exact stepB_drop A c l i b v w h G j hj hf'
  · by_cases hf : findIx l i < 0
    · rw [stepF_none (by omega) hf]; exact stepB_none3 A c l i b v w h G hf
    · obtain ⟨j, hf', hj⟩ := find_at hf
      rw [step3_open hf' hj]; exact stepB_open A c l i b v w h G j hj hf'
  · by_cases ho : openIx l < 0
    · rw [step4_none ho]; exact stepA_none4 A c l i b v w h G ho
    · obtain ⟨j, ho', hj⟩ := open_at ho
      rw [step4_bid ho' hj]; exact stepA_bid A c l i b v w h G j hj ho' hs
  · by_cases ho : openIx l < 0
    · rw [step5_none ho]; exact stepA_none5 A c l i b v w h G ho
    · obtain ⟨j, ho', hj⟩ := open_at ho
      rw [step5_knock ho' hj]; exact stepA_knock A c l i b v w h G j hj ho'
  · by_cases hf : findIx l i < 0
    · rw [stepF_none (by omega) hf]; exact stepB_none6 A c l i b v w h G hf
    · obtain ⟨j, hf', hj⟩ := find_at hf
      rw [step6_again hf' hj]; exact stepB_again A c l i b v w h G j hj hf'
end Go.Proofs.Ytkokbmmffkpclaa

/- RunAuction, in the program. (Printed by gen_runa.py) -/
namespace Go.Proofs.Ytkokbmmffkpclaa
open Go.RowKit

theorem runL_none {l : List Lot} {ss : List ASt} {n : Int} {k : Nat} (h : k < ss.length) (hn : (if ss[k].ok then stepL l ss[k] else none) = none) : runL (ss.drop k) l n = runL (ss.drop (k + 1)) l n := by
  rw [List.drop_eq_getElem_cons h, runL]
  split
  · rename_i hk; rw [if_pos hk] at hn; rw [hn]
  · rfl
theorem runL_some {l r : List Lot} {ss : List ASt} {n : Int} {k : Nat} (h : k < ss.length) (hk : ss[k].ok = true) (hn : stepL l ss[k] = some r) : runL (ss.drop k) l n = runL (ss.drop (k + 1)) r (n + 1) := by
  rw [List.drop_eq_getElem_cons h, runL, if_pos hk, hn]
/-- What RunAuction gives. -/
def runA (l : List Lot) (ss : List ASt) : List Lot × Int × Bool := if goodLots l = true ∧ ss.length ≤ 40 then ((runL ss l 0).1, (runL ss l 0).2, true) else ([], 0, false)
def GivesA (w : World) (R : List Lot × Int × Bool) (e : Ending) (w' : World) : Prop := ∃ A c, e = .returned (.tuple #[.slice A R.1.length c, .int .i64 R.2.1, .bool R.2.2]) ∧ OwnL w' w.heap.size A c R.1 ∧ Below w.heap.size w w'
theorem GivesA.mk {w w' : World} {R : List Lot × Int × Bool} {r : List Lot} {n : Int} {b : Bool} {A : Option Addr} {c m : Nat} (hR : R = (r, n, b)) (hm : r.length = m) (h : OwnL w' w.heap.size A c r) (hb : Below w.heap.size w w') : GivesA w R (.returned (.tuple #[.slice A m c, .int .i64 n, .bool b])) w' := by
  subst hR; subst hm; exact ⟨A, c, rfl, h, hb⟩

set_option maxRecDepth 100000 in
set_option maxHeartbeats 4000000 in
theorem implRunA_any (A : Option Addr) (c : Nat) (l : List Lot) (D : Option Addr) (d : Nat) (ss : List ASt) (w : World) (h : LotsR w w.heap.size A l) (hs : AStsR w w.heap.size D ss) :
    Calls Try.prog 9 #[.slice A l.length c, .slice D ss.length d] w (GivesA w (runA l ss)) := by
  have hl := hs.big
  have cV := fun W h => isAuction_any A c l W h
  cases hg : goodLots l
  · have HN : Hid (runA l ss = ([], 0, false)) := by unfold runA Hid; rw [if_neg (by rw [hg]; simp)]
    rw [hg] at cV
    go_enter Try.func9, Try.ntmps9
    go_wp2_with fail
    refine (cV w h).mono ?_
    rintro e w1 ⟨rfl, hb1⟩
    clear cV hg
    go_wp2
    refine bodyPost_ret (v := .tuple #[.slice none 0 0, .int .i64 0, .bool false]) (by simp [results, Try.results9, go_sem, *]) rfl (GivesA.mk HN.out rfl (World.ownsRow_nil _ _ _ _) hb1)
  · have G := goodL_iff.1 hg
    have len := G.len
    rw [hg] at cV
    by_cases hlen : ss.length ≤ 40
    · have HN : Hid (runA l ss = ((runL ss l 0).1, (runL ss l 0).2, true)) := by unfold runA Hid; rw [if_pos ⟨hg, hlen⟩]
      have hrd := AStsR.el hs
      clear hg
      go_enter Try.func9, Try.ntmps9
      go_wp2_with fail
      refine (cV w h).mono ?_
      rintro e w1 ⟨rfl, hb1⟩
      have hR1 := SlcR.then h hb1
      clear cV
      go_wp2_with fail
      refine (cloneLot_any A c l w1 hR1 (by omega)).mono ?_
      rintro e w2 ⟨A2, c2, rfl, hO2, hb2⟩
      have HI0 : Hid (OwnL w2 w.heap.size A2 c2 l) := ownsRow_lower hO2 hb1.size
      have b2 := bthen hb1 hb2
      have HG0 := Lib.hid G
      have hn0 : Hid (runL (ss.drop 0) l 0 = runL ss l 0) := rfl
      clear hO2 hb2 hR1 G hb1
      go_wp2_with fail
      go_loopw [7, 8, 10, 11, 12, 25] (fun now made _ _ _ i wr => ∃ (k : Nat) (r : List Lot) (n : Int) (A7 : Option Addr) (c7 : Nat), k ≤ ss.length ∧ i = .int .i64 k ∧ made = .int .i64 n ∧ now = .slice A7 r.length c7 ∧ (0 ≤ n ∧ n ≤ k) ∧ Hid (GoodL r) ∧ Hid (OwnL wr w.heap.size A7 c7 r) ∧ Below w.heap.size w wr ∧ Hid (runL (ss.drop k) r n = runL ss l 0)) (fun _ _ _ _ _ i _ => ss.length - (intOf i).toNat)
      case atStart => exact ⟨0, l, 0, A2, c2, Nat.zero_le _, rfl, rfl, rfl, by omega, HG0, HI0, b2, hn0⟩
      case round =>
        clear b2 HI0 HG0 hn0
        obtain ⟨k, r, n, A7, c7, hk, rfl, rfl, rfl, ⟨n1, n2⟩, HG, HI, hbr, HR⟩ := hrel
        by_cases hlt : k < ss.length
        · obtain ⟨b, off, rfl, hb, hcell⟩ := hrd (by omega)
          obtain ⟨c0, c1, c2', c3⟩ := hcell k hlt
          have hN := runL_none (l := r) (n := n) hlt
          have hS := fun r' => runL_some (l := r) (n := n) (r := r') hlt
          obtain ⟨s, hse⟩ : ∃ s, s = ss[k] := ⟨_, rfl⟩
          rw [← hse] at c0 c1 c2' c3 hN hS
          clear hse hcell hrd
          obtain ⟨kd, id, bd, va⟩ := s
          simp only at c0 c1 c2' c3
          obtain ⟨q, rfl⟩ : ∃ q : Since w.heap.size w, wr = q.val := ⟨⟨wr, hbr⟩, rfl⟩
          have d0 := c0 q
          have d1 := c1 q
          have d2 := c2' q
          have d3 := c3 q
          have hals := (Below.refl q.val.heap.size q.val).alloc (Nat.le_refl _) (.cells #[.int .i64 kd, .int .i64 id, .int .i64 bd, .int .i64 va] 40)
          have LS := Lies.new q.val 40 #[.int .i64 kd, .int .i64 id, .int .i64 bd, .int .i64 va]
          have cK := fun W => isAuctionStep_any ⟨kd, id, bd, va⟩ W
          have HN0 := Lib.hid hN
          have HS0 := Lib.hid hS
          clear c0 c1 c2' c3 hN hS
          cases hok : ASt.ok ⟨kd, id, bd, va⟩
          · rw [hok] at cK
            have HE : Hid (runL (ss.drop (k + 1)) r n = runL ss l 0) := by rw [← HN0.out (by rw [hok]; rfl)]; exact HR.out
            clear HN0 HS0 hok
            go_wp2_with fail
            generalize q.val.alloc (.cells #[.int .i64 kd, .int .i64 id, .int .i64 bd, .int .i64 va] 40) = W4 at hals LS ⊢
            generalize q.val.heap.size = g4 at LS ⊢
            refine (cK W4).mono ?_
            rintro e w5 ⟨rfl, hb5⟩
            have h45 := bthen hals hb5
            have LS5 := LS.below hb5 LS.lt
            clear d0 d1 d2 d3 LS hals hb5
            clear cK
            go_wp2
            go_roundw
            case rel => exact ⟨k + 1, r, n, A7, c7, by omega, by go_num, rfl, rfl, by omega, HG, Lib.hid (HI.out.below h45), q.below.trans (h45.mono q.size), HE⟩
            case measure => simp [intOf]; omega
          · rw [hok] at cK
            have cS := fun W hW => implStepA_any A7 c7 r ⟨kd, id, bd, va⟩ W hW HG.out hok
            go_wp2_with fail
            generalize q.val.alloc (.cells #[.int .i64 kd, .int .i64 id, .int .i64 bd, .int .i64 va] 40) = W4 at hals LS ⊢
            generalize q.val.heap.size = g4 at LS ⊢
            refine (cK W4).mono ?_
            rintro e w5 ⟨rfl, hb5⟩
            have h45 := bthen hals hb5
            have LS5 := LS.below hb5 LS.lt
            clear d0 d1 d2 d3 LS hals hb5
            have HI5 := HI.out.below h45
            have q5 := q.below.trans (h45.mono q.size)
            have s0 := LS5.cell 0
            have s1 := LS5.cell 1
            have s2 := LS5.cell 2
            have s3 := LS5.cell 3
            simp only [List.getElem?_cons_zero, List.getElem?_cons_succ] at s0 s1 s2 s3
            go_wp2_with fail
            refine (cS w5 HI5.reads).mono ?_
            rintro e w6 ⟨v6, rfl, hv6, hb6⟩
            have HI6 := Lib.hid (HI5.below hb6)
            have q6 := q5.trans (hb6.mono q5.size)
            clear HI5 HI cS cK
            cases hd : stepL r ⟨kd, id, bd, va⟩ with
            | none =>
              have HE : Hid (runL (ss.drop (k + 1)) r n = runL ss l 0) := by rw [← HN0.out (by rw [hok, if_pos rfl]; exact hd)]; exact HR.out
              rw [hd] at hv6
              clear HN0 HS0 hok hd hv6 HR
              simp only [Option.isSome_none]
              go_wp2
              go_roundw
              case rel => exact ⟨k + 1, r, n, A7, c7, by omega, by go_num, rfl, rfl, by omega, HG, HI6, q6, HE⟩
              case measure => simp [intOf]; omega
            | some r' =>
              have HE : Hid (runL (ss.drop (k + 1)) r' (n + 1) = runL ss l 0) := by rw [← HS0.out r' hok hd]; exact HR.out
              have HG2 := Lib.hid (stepL_good HG.out hok hd)
              obtain ⟨A8, c8, rfl, ho8⟩ := hv6 r' hd
              have HI8 : Hid (OwnL w6 w.heap.size A8 c8 r') := ownsRow_lower ho8 q5.size
              have hw1 : IntKind.i64.wrap (n + 1) = n + 1 := IntWalk.i64_in _ (by omega)
              clear HN0 HS0 hok hd hv6 HR HG ho8
              simp only [Option.isSome_some]
              go_wp2
              go_roundw
              case rel => exact ⟨k + 1, r', n + 1, A8, c8, by omega, by go_num, rfl, rfl, by omega, HG2, HI8, q6, HE⟩
              case measure => simp [intOf]; omega
        · have hk0 : ss.drop k = [] := List.drop_eq_nil_of_le (by omega)
          have HR' := HR.out
          rw [hk0] at HR'
          have HRn : Hid (runA l ss = (r, n, true)) := by rw [Hid, HN.out, ← HR']; rfl
          clear hrd hk0 HR' HR
          go_wp2
          refine bodyPost_ret (v := .tuple #[.slice A7 r.length c7, .int .i64 n, .bool true]) (by simp [results, Try.results9, go_sem, *]) rfl (GivesA.mk HRn.out rfl HI.out hbr)
    · have HN : Hid (runA l ss = ([], 0, false)) := by unfold runA Hid; rw [if_neg (by omega)]
      have hlen' : (40 : Int) < (ss.length : Int) := by omega
      clear hg
      go_enter Try.func9, Try.ntmps9
      go_wp2_with fail
      refine (cV w h).mono ?_
      rintro e w1 ⟨rfl, hb1⟩
      clear cV
      go_wp2
      refine bodyPost_ret (v := .tuple #[.slice none 0 0, .int .i64 0, .bool false]) (by simp [results, Try.results9, go_sem, *]) rfl (GivesA.mk HN.out rfl (World.ownsRow_nil _ _ _ _) hb1)
end Go.Proofs.Ytkokbmmffkpclaa

/- Operations of a drawn region: slicing a slice; appending to a row of the call's own (no program in sight). -/
namespace Go.Proofs.Ytkokbmmffkpclaa
open Go.RowKit

section
variable {P : Program} {ops : Array Oper} {tm : Array Value} {o : Oper} {a : Act} {w : World} {K : Act → World → Prop} {Q : Exit → Act → World → Prop} {E : Prop}
theorem elem_of {t e : TypeId} (ht : P.underlying t = some (.slice e)) : P.underlying t = some (.slice (P.elem t)) ∧ P.elem t = e := by
  have : P.elem t = e := by simp [Program.elem, ht]
  exact ⟨by rw [this]; exact ht, this⟩
theorem SlcR.take {B k n : Nat} {A : Option Addr} {cs : List Value} (h : SlcR w B k A n cs) (i : Nat) (hi : i ≤ n) : SlcR w B k A i (cs.take (i * k)) := by
  have hm : i * k ≤ n * k := Nat.mul_le_mul_right k hi
  refine ⟨by rw [List.length_take, h.len]; omega, by have := h.big; omega, fun h0 => ?_⟩
  obtain ⟨b, off, e, hb, hc⟩ := h.at_ (by omega)
  exact ⟨b, off, e, hb, fun j u hu => hc j u (by rw [List.getElem?_take] at hu; split at hu; exact hu; cases hu)⟩
theorem SlcR.drop {B k n : Nat} {A A' : Option Addr} {cs : List Value} (h : SlcR w B k A n cs) (i : Nat) (hi : i ≤ n) (hA : i < n → A' = A.map fun p => p.add (i * k)) : SlcR w B k A' (n - i) (cs.drop (i * k)) := by
  refine ⟨by rw [List.length_drop, h.len, Nat.sub_mul], by have := h.big; omega, fun h0 => ?_⟩
  obtain ⟨b, off, e, hb, hc⟩ := h.at_ (by omega)
  refine ⟨b, off + i * k, ?_, hb, fun j u hu => ?_⟩
  · rw [hA (by omega), e]; simp only [Option.map_some, addr_add]
  · rw [List.getElem?_drop] at hu
    have := hc _ u hu
    rwa [Nat.add_assoc]
theorem info_size {e : TypeId} {s : Nat} (hs : (P.info? e).map (·.size) = some s) : ∃ inf, P.info? e = some inf ∧ inf.size = s := by
  cases hq : P.info? e with
  | none => simp [hq] at hs
  | some inf => exact ⟨inf, rfl, by simpa [hq] using hs⟩
theorem map_add0 (A : Option Addr) : A.map (fun p => p.add 0) = A := by cases A <;> simp [Addr.add]
theorem run_sliceTo {t e : TypeId} (ht : P.underlying t = some (.slice e)) {s : Nat} (hs : (P.info? e).map (·.size) = some s) (A : Option Addr) (n c i : Nat) (hi : i ≤ n) (hc : n ≤ c) (w : World) :
    (Instr.slice t (.slice A n c) none (some (.int .i64 (i : Int))) none).run P w = .ok (.slice A i c) w := by
  obtain ⟨h1, h2⟩ := elem_of ht
  obtain ⟨inf, hin, hsz⟩ := info_size hs
  rw [run_slice_h (P := P) (w := w) t A n c h1 .i64 (i : Int) (by omega) (by omega), h2]
  simp [sizeOf, typeInfo, hin, sliced, map_add0]
theorem run_sliceFrom {t e : TypeId} (ht : P.underlying t = some (.slice e)) {s : Nat} (hs : (P.info? e).map (·.size) = some s) (A : Option Addr) (n c i : Nat) (hi : i ≤ n) (w : World) :
    (Instr.slice t (.slice A n c) (some (.int .i64 (i : Int))) none none).run P w = .ok (.slice (if c = i then A else A.map (fun p => p.add (i * s))) (n - i) (c - i)) w := by
  obtain ⟨h1, h2⟩ := elem_of ht
  obtain ⟨inf, hin, hsz⟩ := info_size hs
  rw [run_slice_l (P := P) (w := w) t A n c h1 .i64 (i : Int) (by omega) (by omega), h2]
  simp [sizeOf, typeInfo, hin, sliced, hsz]
/-- 'xs[:i]'. -/
theorem step_sliceTo (hg : o.guard = none) (t e : TypeId) (x y : Operand) (ho : o.op = .slice t x none (some y) none) (ht : P.underlying t = some (.slice e)) (s : Nat) (hs : (P.info? e).map (·.size) = some s)
    (A : Option Addr) (n c i : Nat) (hx : a.eval x = .slice A n c) (hy : a.eval y = .int .i64 (i : Int)) (hi : i ≤ n) (hc : n ≤ c)
    (h : K (a.put o.dst (.slice A i c)) w) : if Region.wanted o (yielded ops tm) = true then o.wp P a w K Q else E := by
  have hw : ∀ tm : Array Value, Region.wanted o (yielded ops tm) = true := fun tm => by simp [Region.wanted, hg]
  rw [if_pos (hw _)]
  unfold Oper.wp execOp
  simp only [ho, hx, Option.map_some, Option.map_none, hy, run_sliceAt_slice (P := P) (w := w) t _ _ _ _ (elem_of ht).1, run_sliceTo ht hs A n c i hi hc w, Sem.run_bind, Sem.run_pure, Result.andThen_ok]
  exact h
/-- 'xs[i:]'. -/
theorem step_sliceFrom (hg : o.guard = none) (t e : TypeId) (x y : Operand) (ho : o.op = .slice t x (some y) none none) (ht : P.underlying t = some (.slice e)) (s : Nat) (hs : (P.info? e).map (·.size) = some s)
    (A : Option Addr) (n c i : Nat) (hx : a.eval x = .slice A n c) (hy : a.eval y = .int .i64 (i : Int)) (hi : i ≤ n) (hc : n ≤ c)
    (h : ∀ A', (∀ (W : World) (B : Nat) (cs : List Value), SlcR W B s A n cs → SlcR W B s A' (n - i) (cs.drop (i * s))) → K (a.put o.dst (.slice A' (n - i) (c - i))) w) : if Region.wanted o (yielded ops tm) = true then o.wp P a w K Q else E := by
  have hw : ∀ tm : Array Value, Region.wanted o (yielded ops tm) = true := fun tm => by simp [Region.wanted, hg]
  rw [if_pos (hw _)]
  unfold Oper.wp execOp
  simp only [ho, hx, Option.map_some, Option.map_none, hy, run_sliceAt_slice (P := P) (w := w) t _ _ _ _ (elem_of ht).1, run_sliceFrom ht hs A n c i hi w, Sem.run_bind, Sem.run_pure, Result.andThen_ok]
  exact h _ fun W B cs hr => hr.drop i hi fun hlt => by rw [if_neg (by omega)]
/-- 'append(s, xs...)', s the call's own. -/
theorem step_cat (hg : o.guard = none) (s x : Operand) (t : TypeId) (ho : o.op = .call { callee := .builtin .append, args := #[s, x], argTypes := #[t, t] })
    (e : TypeId) (z : Value) (k bytes : Nat) (ht : P.underlying t = some (.slice e)) (hinfo : (P.info? e).map (fun i => (i.zero, i.size, i.bytes)) = some (some z, k, bytes)) (hzs : z.cells.size = k) (hsz : 0 < k) (hby : bytes ≤ 1000)
    (B : Nat) (v : Value) (n : Nat) (xs : List Value) (hs : a.eval s = v) (hown : w.ownsRow B e k v n xs)
    (S : Nat) (A : Option Addr) (m c : Nat) (cs : List Value) (hx : a.eval x = .slice A m c) (hr : SlcR w S k A m cs) (h1 : ∀ u ∈ cs, u.oneCell' = true)
    (hn : n + m ≤ 1000000000) (hbase : B ≤ w.heap.size)
    (h : ∀ A' c' w', w'.ownsRow B e k (.slice A' (n + m) c') (n + m) (xs ++ cs) → w.grownBy w' v.ownBlock → Below B w w' → K (a.put o.dst (.slice A' (n + m) c')) w') : if Region.wanted o (yielded ops tm) = true then o.wp P a w K Q else E := by
  have hw : ∀ tm : Array Value, Region.wanted o (yielded ops tm) = true := fun tm => by simp [Region.wanted, hg]
  rw [if_pos (hw _)]
  refine wp_cat s x t ho e z k bytes ht hinfo hzs hsz hby B v n xs hs (Lib.hid hown) S A m c cs hx (Lib.hid hr) h1 hn hbase fun v' w' h2 h3 h4 _ => ?_
  obtain ⟨A', c', rfl⟩ := ownsRow_slice h2.out
  exact h A' c' w' h2.out h3 h4
theorem ownsRow_cap {B k n : Nat} {e : TypeId} {A : Option Addr} {c : Nat} {xs : List Value} (h : w.ownsRow B e k (.slice A n c) n xs) : n ≤ c := by
  obtain ⟨_, ⟨h0, h1⟩ | ⟨g, cap, cur, hv, _, _, hc, _⟩⟩ := h
  · injection h0 with _ h2 h3; omega
  · injection hv with _ _ h3; omega
end
end Go.Proofs.Ytkokbmmffkpclaa
