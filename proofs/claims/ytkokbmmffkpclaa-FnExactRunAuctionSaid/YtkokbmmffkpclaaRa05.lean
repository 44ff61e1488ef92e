/- Ra05: the texts LotWith LotSell LotSellZ StepCat LotPut LotMake, joined into one file. -/
import Derived.Deep.DeepCutAuto
import Derived.Deep.RegionLawGrows
import Derived.Test.YtkokbmmffkpclaaRa01
import Derived.Test.YtkokbmmffkpclaaRa03
import Derived.Test.YtkokbmmffkpclaaRa04

set_option linter.unusedVariables false

/- A lot of a list is another one, in the reference. (Printed by gen_lotmake.py) -/
namespace Go.Proofs.Ytkokbmmffkpclaa
open Go.RowKit

/-- Lots of the call's own, as a result. -/
def GivesL (w : World) (r : List Lot) (e : Ending) (w' : World) : Prop := ∃ A c, e = .returned (.slice A r.length c) ∧ OwnL w' w.heap.size A c r ∧ Below w.heap.size w w'
set_option maxRecDepth 100000 in
set_option maxHeartbeats 4000000 in
theorem l29With_any (A : Option Addr) (c : Nat) (l : List Lot) (j : Nat) (x : Lot) (w : World) (h : LotsR w w.heap.size A l) (hn : l.length ≤ 8) (hj : j < l.length) :
    Calls Try.prog 32 #[.slice A l.length c, .int .i64 j, x.val] w (GivesL w (l.set j x)) := by
  have b0 := (Below.refl w.heap.size w).alloc (Nat.le_refl _) (.cells #[.int .i64 x.i, .int .i64 x.r, .int .i64 x.s, .int .i64 x.h, .int .i64 x.b] 44)
  have L0 := Lies.new w 44 #[.int .i64 x.i, .int .i64 x.r, .int .i64 x.s, .int .i64 x.h, .int .i64 x.b]
  have hz0 : (0 : Int) ≤ (j : Int) := by omega
  have hal := ((Below.refl (w.alloc (.cells #[.int .i64 x.i, .int .i64 x.r, .int .i64 x.s, .int .i64 x.h, .int .i64 x.b] 44)).heap.size (w.alloc (.cells #[.int .i64 x.i, .int .i64 x.r, .int .i64 x.s, .int .i64 x.h, .int .i64 x.b] 44))).alloc (Nat.le_refl _) (.cells #[] 44))
  have HO : Hid (((w.alloc (.cells #[.int .i64 x.i, .int .i64 x.r, .int .i64 x.s, .int .i64 x.h, .int .i64 x.b] 44)).alloc (.cells #[] 44)).ownsRow w.heap.size 44 5 (.slice (some ⟨w.heap.size + 1, 0, none⟩) 0 0) 0 []) := owns_empty (Lies.new1 w (.cells #[.int .i64 x.i, .int .i64 x.r, .int .i64 x.s, .int .i64 x.h, .int .i64 x.b] 44) 44 #[]) (by omega)
  have b1 := b0.trans (hal.mono b0.size)
  have L1 := L0.below hal L0.lt
  have HR := Lib.hid (SlcR.below h b1)
  have L0s := L0.lt
  obtain ⟨bl, off, rfl, hbl, hcell⟩ := h.el (by omega)
  clear hcell
  have b1s := b1.size
  go_enter Try.func32, Try.ntmps32
  go_upto_region 2 with (at_builtin; refine wpList_cat rfl _ _ 26 rfl 44 _ 5 40 Try.underlying26 infoLot rfl (by omega) (by omega) w.heap.size _ 0 [] rfl HO w.heap.size (some ⟨bl, off, none⟩) l.length c (l.flatMap Lot.enc) rfl HR lot_cells (by omega) b1.size ?_; intro v' w1 hown gr1 hb2 _)
  have L2 := L1.kept gr1 (by show some w.heap.size ≠ some (w.heap.size + 1); simp)
  have H1 := hown.out
  rw [Nat.zero_add, List.nil_append] at H1
  obtain ⟨A1, c1, rfl⟩ := ownsRow_slice H1
  have b2 := b1.trans hb2
  clear hown gr1 hb2 HO HR L0 L1 hal b0
  obtain ⟨gO, rfl, hgO, hgO', hcO⟩ := OwnL.block H1 (by omega)
  obtain ⟨y, hxe⟩ : ∃ y, l[j] = y := ⟨_, rfl⟩
  obtain ⟨K0, B0, y1, y2⟩ := OwnL.set H1 hj 0 (by decide) (.int .i64 x.i) (⟨x.i, y.r, y.s, y.h, y.b⟩) (by rw [hxe]; rfl)
  clear y1 y2
  simp only [Nat.add_zero] at K0 B0
  obtain ⟨y3, y4, F0, Z0⟩ := OwnL.set H1 hj 0 (by decide) (.int .i64 0) ⟨0, y.r, y.s, y.h, y.b⟩ (by rw [hxe]; rfl)
  clear y3 y4
  obtain ⟨K1, B1, y1, y2⟩ := OwnL.set K0 (by rw [List.length_set]; exact hj) 1 (by decide) (.int .i64 x.r) (⟨x.i, x.r, y.s, y.h, y.b⟩) (by rw [List.getElem_set_self]; rfl)
  clear y1 y2
  rw [List.set_set] at K1
  obtain ⟨y3, y4, F1, Z1⟩ := OwnL.set H1 hj 1 (by decide) (.int .i64 0) ⟨y.i, 0, y.s, y.h, y.b⟩ (by rw [hxe]; rfl)
  clear y3 y4
  obtain ⟨K2, B2, y1, y2⟩ := OwnL.set K1 (by rw [List.length_set]; exact hj) 2 (by decide) (.int .i64 x.s) (⟨x.i, x.r, x.s, y.h, y.b⟩) (by rw [List.getElem_set_self]; rfl)
  clear y1 y2
  rw [List.set_set] at K2
  obtain ⟨y3, y4, F2, Z2⟩ := OwnL.set H1 hj 2 (by decide) (.int .i64 0) ⟨y.i, y.r, 0, y.h, y.b⟩ (by rw [hxe]; rfl)
  clear y3 y4
  obtain ⟨K3, B3, y1, y2⟩ := OwnL.set K2 (by rw [List.length_set]; exact hj) 3 (by decide) (.int .i64 x.h) (⟨x.i, x.r, x.s, x.h, y.b⟩) (by rw [List.getElem_set_self]; rfl)
  clear y1 y2
  rw [List.set_set] at K3
  obtain ⟨y3, y4, F3, Z3⟩ := OwnL.set H1 hj 3 (by decide) (.int .i64 0) ⟨y.i, y.r, y.s, 0, y.b⟩ (by rw [hxe]; rfl)
  clear y3 y4
  obtain ⟨K4, B4, y1, y2⟩ := OwnL.set K3 (by rw [List.length_set]; exact hj) 4 (by decide) (.int .i64 x.b) (x) (by rw [List.getElem_set_self]; rfl)
  clear y1 y2
  rw [List.set_set] at K4
  obtain ⟨y3, y4, F4, Z4⟩ := OwnL.set H1 hj 4 (by decide) (.int .i64 0) ⟨y.i, y.r, y.s, y.h, 0⟩ (by rw [hxe]; rfl)
  clear y3 y4
  simp only [Nat.add_zero] at F0 Z0
  rw [hxe] at Z0 Z1 Z2 Z3 Z4
  simp only [Lot.enc, List.getElem?_cons_zero, List.getElem?_cons_succ] at Z0 Z1 Z2 Z3 Z4
  have hK := Lib.hid K4
  have hB5 := Lib.hid (b2.trans (B0.trans (B1.trans (B2.trans (B3.trans B4)))))
  clear K0 K1 K2 K3 K4 B0 B1 B2 B3 B4 H1 b2
  have s0 := L2.cell 0
  have s1 := L2.cell 1
  have s2 := L2.cell 2
  have s3 := L2.cell 3
  have s4 := L2.cell 4
  simp only [List.getElem?_cons_zero, List.getElem?_cons_succ] at s0 s1 s2 s3 s4
  go_wp2
  refine bodyPost_ret (v := .slice (some ⟨gO, 0, none⟩) l.length c1) (by simp [results, Try.results32, go_sem, *]) rfl ⟨some ⟨gO, 0, none⟩, c1, by rw [List.length_set], hK.out, hB5.out⟩
end Go.Proofs.Ytkokbmmffkpclaa

/- A step with the open lot, in the reference. (Printed by gen_lotmake.py) -/
namespace Go.Proofs.Ytkokbmmffkpclaa
open Go.RowKit

set_option maxRecDepth 100000 in
set_option maxHeartbeats 4000000 in
theorem sell_none4 (A : Option Addr) (c : Nat) (l : List Lot) (i b v : Int) (w : World) (h : LotsR w w.heap.size A l) (G : GoodL l) (ho : openIx l < 0) :
    Calls Try.prog 28 #[.slice A l.length c, .agg #[.int .i64 4, .int .i64 i, .int .i64 b, .int .i64 v]] w (GivesMk w none) := by
  obtain ⟨o, hoe⟩ : ∃ o, openIx l = o := ⟨_, rfl⟩
  rw [hoe] at ho
  have HOE := Lib.hid hoe
  clear hoe
  have b0 := (Below.refl w.heap.size w).alloc (Nat.le_refl _) (.cells #[.int .i64 4, .int .i64 i, .int .i64 b, .int .i64 v] 40)
  have b0s := b0.size
  have L0 := Lies.new w 40 #[.int .i64 4, .int .i64 i, .int .i64 b, .int .i64 v]
  have hW := SlcR.up h b0 (Nat.le_refl _)
  have len := G.len
  go_enter Try.func28, Try.ntmps28
  go_wp2_with fail
  generalize w.alloc (.cells #[.int .i64 4, .int .i64 i, .int .i64 b, .int .i64 v] 40) = W at b0 b0s L0 hW ⊢
  generalize hgb : w.heap.size = g at L0 ⊢
  rw [hgb] at b0 b0s
  refine (l29Open_any A c l W hW).mono ?_
  rintro e w1 ⟨he, hb1⟩
  rw [HOE.out] at he
  subst he
  have L1 := L0.below hb1 L0.lt
  have hgW := L0.lt
  have s0 := L1.cell 0
  have s1 := L1.cell 1
  have s2 := L1.cell 2
  have s3 := L1.cell 3
  simp only [List.getElem?_cons_zero, List.getElem?_cons_succ] at s0 s1 s2 s3
  go_wp2
  refine bodyPost_ret (v := .tuple #[.slice (some ⟨w1.heap.size, 0, none⟩) 0 0, .bool false]) (by simp [results, Try.results28, go_sem, *]) rfl (GivesMk.fail ?_)
  rw [hgb]
  exact b0.trans ((bthen hb1 ((Below.refl _ _).alloc (Nat.le_refl _) (.cells #[] 44))).mono b0s)
set_option maxRecDepth 100000 in
set_option maxHeartbeats 4000000 in
theorem sell_none5 (A : Option Addr) (c : Nat) (l : List Lot) (i b v : Int) (w : World) (h : LotsR w w.heap.size A l) (G : GoodL l) (ho : openIx l < 0) :
    Calls Try.prog 28 #[.slice A l.length c, .agg #[.int .i64 5, .int .i64 i, .int .i64 b, .int .i64 v]] w (GivesMk w none) := by
  obtain ⟨o, hoe⟩ : ∃ o, openIx l = o := ⟨_, rfl⟩
  rw [hoe] at ho
  have HOE := Lib.hid hoe
  clear hoe
  have b0 := (Below.refl w.heap.size w).alloc (Nat.le_refl _) (.cells #[.int .i64 5, .int .i64 i, .int .i64 b, .int .i64 v] 40)
  have b0s := b0.size
  have L0 := Lies.new w 40 #[.int .i64 5, .int .i64 i, .int .i64 b, .int .i64 v]
  have hW := SlcR.up h b0 (Nat.le_refl _)
  have len := G.len
  go_enter Try.func28, Try.ntmps28
  go_wp2_with fail
  generalize w.alloc (.cells #[.int .i64 5, .int .i64 i, .int .i64 b, .int .i64 v] 40) = W at b0 b0s L0 hW ⊢
  generalize hgb : w.heap.size = g at L0 ⊢
  rw [hgb] at b0 b0s
  refine (l29Open_any A c l W hW).mono ?_
  rintro e w1 ⟨he, hb1⟩
  rw [HOE.out] at he
  subst he
  have L1 := L0.below hb1 L0.lt
  have hgW := L0.lt
  have s0 := L1.cell 0
  have s1 := L1.cell 1
  have s2 := L1.cell 2
  have s3 := L1.cell 3
  simp only [List.getElem?_cons_zero, List.getElem?_cons_succ] at s0 s1 s2 s3
  go_wp2
  refine bodyPost_ret (v := .tuple #[.slice (some ⟨w1.heap.size, 0, none⟩) 0 0, .bool false]) (by simp [results, Try.results28, go_sem, *]) rfl (GivesMk.fail ?_)
  rw [hgb]
  exact b0.trans ((bthen hb1 ((Below.refl _ _).alloc (Nat.le_refl _) (.cells #[] 44))).mono b0s)
set_option maxRecDepth 100000 in
set_option maxHeartbeats 4000000 in
theorem sell_bid (A : Option Addr) (c : Nat) (l : List Lot) (i b v : Int) (w : World) (h : LotsR w w.heap.size A l) (G : GoodL l) (j : Nat) (hj : j < l.length) (ho : openIx l = j) :
    Calls Try.prog 28 #[.slice A l.length c, .agg #[.int .i64 4, .int .i64 i, .int .i64 b, .int .i64 v]] w (GivesMk w (if leastV l[j] ≤ v ∧ b ≠ l[j].b then some (l.set j (bidL l[j] ⟨4, i, b, v⟩)) else none)) := by
  have hz0 : (0 : Int) ≤ (j : Int) := by omega
  have hzi : ¬ (j : Int) < 0 := by omega
  obtain ⟨x, hxe⟩ : ∃ x, l[j] = x := ⟨_, rfl⟩
  rw [hxe]
  have hxk := G.all x (by rw [← hxe]; exact List.getElem_mem hj)
  have hxh := inR_iff.1 (lot_ok_iff.1 hxk).1.2.2.1
  have LB := fun W => l29Least_any x W hxh.1 hxh.2
  obtain ⟨m, hm⟩ : ∃ m, leastV x = m := ⟨_, rfl⟩
  rw [hm] at LB ⊢
  clear hm hxh hxk
  obtain ⟨d1, hd1⟩ : ∃ d, decide (m ≤ v) = d := ⟨_, rfl⟩
  obtain ⟨d2, hd2⟩ : ∃ d, (b != x.b) = d := ⟨_, rfl⟩
  obtain ⟨R, hR⟩ : ∃ R, (if m ≤ v ∧ b ≠ x.b then some (l.set j (bidL x ⟨4, i, b, v⟩)) else none) = R := ⟨_, rfl⟩
  have HR : Hid (R = if (d1 && d2) = true then some (l.set j (bidL x ⟨4, i, b, v⟩)) else none) := by
    rw [Hid, ← hR, ← hd1, ← hd2]
    simp
  rw [hR]
  clear hR
  have HLB := Lib.hid LB
  clear LB
  have HOE := Lib.hid ho
  clear ho
  have b0 := (Below.refl w.heap.size w).alloc (Nat.le_refl _) (.cells #[.int .i64 4, .int .i64 i, .int .i64 b, .int .i64 v] 40)
  have b0s := b0.size
  have L0 := Lies.new w 40 #[.int .i64 4, .int .i64 i, .int .i64 b, .int .i64 v]
  have hW := SlcR.up h b0 (Nat.le_refl _)
  have len := G.len
  go_enter Try.func28, Try.ntmps28
  go_wp2_with fail
  generalize w.alloc (.cells #[.int .i64 4, .int .i64 i, .int .i64 b, .int .i64 v] 40) = W at b0 b0s L0 hW ⊢
  generalize hgb : w.heap.size = g at L0 ⊢
  rw [hgb] at b0 b0s
  refine (l29Open_any A c l W hW).mono ?_
  rintro e w1 ⟨he, hb1⟩
  rw [HOE.out] at he
  subst he
  have L1 := L0.below hb1 L0.lt
  have hgW := L0.lt
  have s0 := L1.cell 0
  have s1 := L1.cell 1
  have s2 := L1.cell 2
  have s3 := L1.cell 3
  simp only [List.getElem?_cons_zero, List.getElem?_cons_succ] at s0 s1 s2 s3
  obtain ⟨bl, off, rfl, hbl, hcell⟩ := (LotsR.el hW) (by omega)
  have hcx := hcell j hj
  rw [hxe] at hcx
  obtain ⟨c0, c1', c2, c3, c4⟩ := LotS.up hcx hb1 hb1.size
  have q0 := c0 ⟨w1, Below.refl _ _⟩
  have q1 := c1' ⟨w1, Below.refl _ _⟩
  have q2 := c2 ⟨w1, Below.refl _ _⟩
  have q3 := c3 ⟨w1, Below.refl _ _⟩
  have q4 := c4 ⟨w1, Below.refl _ _⟩
  clear hcx hcell
  go_upto_region 5 with fail
  have P2 := Lies.new w1 44 #[.int .i64 x.i, .int .i64 x.r, .int .i64 x.s, .int .i64 x.h, .int .i64 x.b]
  have hal := (Below.refl w1.heap.size w1).alloc (Nat.le_refl _) (.cells #[.int .i64 x.i, .int .i64 x.r, .int .i64 x.s, .int .i64 x.h, .int .i64 x.b] 44)
  have L2 := L1.below hal L1.lt
  have b2 := bthen hb1 hal
  have hp := hb1.size
  generalize hw2 : w1.alloc (.cells #[.int .i64 x.i, .int .i64 x.r, .int .i64 x.s, .int .i64 x.h, .int .i64 x.b] 44) = w2 at P2 hal L2 b2 ⊢
  clear hw2 hal s0 s1 s2 s3 q0 q1 q2 q3 q4 c0 c1' c2 c3 c4 L1
  generalize w1.heap.size = p at P2 hp ⊢
  have s0 := L2.cell 0
  have s1 := L2.cell 1
  have s2 := L2.cell 2
  have s3 := L2.cell 3
  simp only [List.getElem?_cons_zero, List.getElem?_cons_succ] at s0 s1 s2 s3
  go_upto_region 6 with fail
  cases d1
  all_goals
    refine wp_region_factsR (fun _ => (fun W9 => Below w2.heap.size w2 W9)) (fun _ w1 w2 => Below w1.heap.size w1 w2) (by kernel_rfl) (by kernel_rfl) (by kernel_rfl) (Below.refl _ _).drew ?_
    simp only [fillOps, Act.put, List.setIfInBounds_toArray, List.set_cons_zero, List.set_cons_succ, Nat.zero_add, Nat.reduceAdd]
    apply wpFactsR_val
    case h1 =>
      intro vs L9 w9 hG9 hC9 hB K9 hK9
      simp only [Act.put, List.setIfInBounds_toArray, List.set_cons_zero, List.set_cons_succ] at hK9
      go_simp
      exact hK9 _ _ rfl hC9 (Below.refl _ _)
    apply wpFactsR_val
    case h1 =>
      intro vs L9 w9 hG9 hC9 hB K9 hK9
      have d0 := FactN.eq (hB 0 _ (by kernel_rfl) (by kernel_rfl) rfl (by decide))
      simp only [d0] at hK9 ⊢
      have q0 : w9.cell? ⟨g, 3, none⟩ = some (.int .i64 v) := (L2.below hC9 L2.lt).cell 3
      simp only [Act.put, List.setIfInBounds_toArray, List.set_cons_zero, List.set_cons_succ] at hK9
      go_simp
      exact hK9 _ _ rfl hC9 (Below.refl _ _)
    apply wpFactsR_val
    case h1 =>
      intro vs L9 w9 hG9 hC9 hB K9 hK9
      have q0 : w9.cell? ⟨p, 0, none⟩ = some (.int .i64 x.i) := (P2.below hC9 P2.lt).cell 0
      have q1 : w9.cell? ⟨p, 1, none⟩ = some (.int .i64 x.r) := (P2.below hC9 P2.lt).cell 1
      have q2 : w9.cell? ⟨p, 2, none⟩ = some (.int .i64 x.s) := (P2.below hC9 P2.lt).cell 2
      have q3 : w9.cell? ⟨p, 3, none⟩ = some (.int .i64 x.h) := (P2.below hC9 P2.lt).cell 3
      have q4 : w9.cell? ⟨p, 4, none⟩ = some (.int .i64 x.b) := (P2.below hC9 P2.lt).cell 4
      simp only [Act.put, List.setIfInBounds_toArray, List.set_cons_zero, List.set_cons_succ] at hK9
      go_simp
      exact hK9 _ _ rfl hC9 (Below.refl _ _)
    refine wpFactsR_val (.int .i64 m) (fun vs L9 w9 hG9 hC9 hB K9 hK9 => ?_) ?_
    next =>
      have d2 := FactN.eq (hB 2 _ (by kernel_rfl) (by kernel_rfl) rfl (by decide))
      simp only [d2] at hK9 ⊢
      simp only [Act.put, List.setIfInBounds_toArray, List.set_cons_zero, List.set_cons_succ] at hK9
      go_simp
      refine (HLB.out w9).mono ?_
      rintro en w8 ⟨rfl, hb8⟩
      exact hK9 _ _ rfl (hC9.trans (hb8.mono hC9.size)) (hb8)
    apply wpFactsR_val
    case h1 =>
      intro vs L9 w9 hG9 hC9 hB K9 hK9
      have d1 := FactN.eq (hB 1 _ (by kernel_rfl) (by kernel_rfl) rfl (by decide))
      have d3 := FactN.eq (hB 3 _ (by kernel_rfl) (by kernel_rfl) rfl (by decide))
      simp only [d1, d3] at hK9 ⊢
      simp only [Act.put, List.setIfInBounds_toArray, List.set_cons_zero, List.set_cons_succ] at hK9
      go_simp
      exact hK9 _ _ rfl hC9 (Below.refl _ _)
    apply wpFactsR_val
    case h1 =>
      intro vs L9 w9 hG9 hC9 hB K9 hK9
      have d4 := FactN.eq (hB 4 _ (by kernel_rfl) (by kernel_rfl) rfl (by decide))
      simp only [d4] at hK9 ⊢
      simp only [Act.put, List.setIfInBounds_toArray, List.set_cons_zero, List.set_cons_succ] at hK9
      go_simp
      exact hK9 _ _ rfl hC9 (Below.refl _ _)
    apply wpFactsR_val
    case h1 =>
      intro vs L9 w9 hG9 hC9 hB K9 hK9
      have d5 := FactN.eq (hB 5 _ (by kernel_rfl) (by kernel_rfl) rfl (by decide))
      simp only [d5] at hK9 ⊢
      simp only [Act.put, List.setIfInBounds_toArray, List.set_cons_zero, List.set_cons_succ] at hK9
      go_simp
      exact hK9 _ _ rfl hC9 (Below.refl _ _)
    apply wpFactsR_val
    case h1 =>
      intro vs L9 w9 hG9 hC9 hB K9 hK9
      have d6 := FactN.eq (hB 6 _ (by kernel_rfl) (by kernel_rfl) rfl (by decide))
      have d5 := FactN.eq (hB 5 _ (by kernel_rfl) (by kernel_rfl) rfl (by decide))
      simp only [d6, d5] at hK9 ⊢
      have q0 : w9.cell? ⟨g, 2, none⟩ = some (.int .i64 b) := (L2.below hC9 L2.lt).cell 2
      simp only [Act.put, List.setIfInBounds_toArray, List.set_cons_zero, List.set_cons_succ] at hK9
      go_simp
      exact hK9 _ _ rfl hC9 (Below.refl _ _)
    apply wpFactsR_val
    case h1 =>
      intro vs L9 w9 hG9 hC9 hB K9 hK9
      have d5 := FactN.eq (hB 5 _ (by kernel_rfl) (by kernel_rfl) rfl (by decide))
      simp only [d5] at hK9 ⊢
      simp only [Act.put, List.setIfInBounds_toArray, List.set_cons_zero, List.set_cons_succ] at hK9
      go_simp
      exact hK9 _ _ rfl hC9 (Below.refl _ _)
    apply wpFactsR_val
    case h1 =>
      intro vs L9 w9 hG9 hC9 hB K9 hK9
      have d8 := FactN.eq (hB 8 _ (by kernel_rfl) (by kernel_rfl) rfl (by decide))
      have d5 := FactN.eq (hB 5 _ (by kernel_rfl) (by kernel_rfl) rfl (by decide))
      simp only [d8, d5] at hK9 ⊢
      have q0 : w9.cell? ⟨p, 4, none⟩ = some (.int .i64 x.b) := (P2.below hC9 P2.lt).cell 4
      simp only [Act.put, List.setIfInBounds_toArray, List.set_cons_zero, List.set_cons_succ] at hK9
      go_simp
      exact hK9 _ _ rfl hC9 (Below.refl _ _)
    apply wpFactsR_val
    case h1 =>
      intro vs L9 w9 hG9 hC9 hB K9 hK9
      have d7 := FactN.eq (hB 7 _ (by kernel_rfl) (by kernel_rfl) rfl (by decide))
      have d9 := FactN.eq (hB 9 _ (by kernel_rfl) (by kernel_rfl) rfl (by decide))
      have d5 := FactN.eq (hB 5 _ (by kernel_rfl) (by kernel_rfl) rfl (by decide))
      simp only [d7, d9, d5] at hK9 ⊢
      simp only [Act.put, List.setIfInBounds_toArray, List.set_cons_zero, List.set_cons_succ] at hK9
      go_simp
      exact hK9 _ _ rfl hC9 (Below.refl _ _)
    apply wpFactsR_val
    case h1 =>
      intro vs L9 w9 hG9 hC9 hB K9 hK9
      have d5 := FactN.eq (hB 5 _ (by kernel_rfl) (by kernel_rfl) rfl (by decide))
      have d10 := FactN.eq (hB 10 _ (by kernel_rfl) (by kernel_rfl) rfl (by decide))
      simp only [d5, d10] at hK9 ⊢
      simp only [Act.put, List.setIfInBounds_toArray, List.set_cons_zero, List.set_cons_succ] at hK9
      go_simp
      exact hK9 _ _ rfl hC9 (Below.refl _ _)
    apply wpFactsR_val
    case h1 =>
      intro vs L9 w9 hG9 hC9 hB K9 hK9
      have d11 := FactN.eq (hB 11 _ (by kernel_rfl) (by kernel_rfl) rfl (by decide))
      simp only [d11] at hK9 ⊢
      simp only [Act.put, List.setIfInBounds_toArray, List.set_cons_zero, List.set_cons_succ] at hK9
      go_simp
      exact hK9 _ _ rfl hC9 (Below.refl _ _)
    refine wpFactsR_nil fun vs L9 w9 hL9 hC9 hB => ?_
    have d12 := FactN.eq (hB 12 _ rfl rfl (by decide))
    simp only [d12]
    clear hB d12
    have L3 := L2.below hC9 L2.lt
    have P3 := P2.below hC9 P2.lt
    have b3 := bthen b2 hC9
    have hW3 : LotsR w9 W.heap.size _ l := SlcR.below hW b3
    clear s0 s1 s2 s3 L2 P2 b2 hC9
    obtain ⟨w4, h49⟩ : ∃ x, x = w9 := ⟨_, rfl⟩
    subst h49
    have s0 := L3.cell 0
    have s1 := L3.cell 1
    have s2 := L3.cell 2
    have s3 := L3.cell 3
    simp only [List.getElem?_cons_zero, List.getElem?_cons_succ] at s0 s1 s2 s3
    have p0 := P3.cell 0
    have p1 := P3.cell 1
    have p2 := P3.cell 2
    have p3 := P3.cell 3
    have p4 := P3.cell 4
    simp only [List.getElem?_cons_zero, List.getElem?_cons_succ] at p0 p1 p2 p3 p4
    have f0 := P3.frozen 0
    have f1 := P3.frozen 1
    have f2 := P3.frozen 2
    have f3 := P3.frozen 3
    have f4 := P3.frozen 4
    have hpp := P3.lt
    have P4 := (P3.set 3 (.int .i64 v)).set 4 (.int .i64 b)
    simp only [List.set_cons_zero, List.set_cons_succ] at P4
    have b4 := (b3.setCell (p := ⟨p, 3, none⟩) hp (.int .i64 v)).setCell (p := ⟨p, 4, none⟩) hp (.int .i64 b)
    go_upto_region 9 with fail
    generalize hw5 : (w4.setCell ⟨p, 3, none⟩ (.int .i64 v)).setCell ⟨p, 4, none⟩ (.int .i64 b) = w5 at P4 b4 ⊢
    have hW5 : LotsR w5 w5.heap.size _ l := SlcR.up hW b4 (Nat.le_refl _)
    clear hw5 hW3 L3 P3 b3 s0 s1 s2 s3 p0 p1 p2 p3 p4 f0 f1 f2 f3 f4
    have p0 := P4.cell 0
    have p1 := P4.cell 1
    have p2 := P4.cell 2
    have p3 := P4.cell 3
    have p4 := P4.cell 4
    simp only [List.getElem?_cons_zero, List.getElem?_cons_succ] at p0 p1 p2 p3 p4
    go_wp2_with fail
    refine (l29With_any (some ⟨bl, off, none⟩) c l j (bidL x ⟨4, i, b, v⟩) w5 hW5 (by omega) hj).mono ?_
    rintro e w6 ⟨A6, c6, rfl, h6, hb6⟩
    have hz9 := b4.size
    have b6 := bthen' b4 hb6 b4.size
    have hl3 : (l.set j (bidL x ⟨4, i, b, v⟩)).length = l.length := List.length_set
    have HO6 := Lib.hid h6
    clear h6 P4 hW5 b4 hb6 p0 p1 p2 p3 p4
  next =>
    obtain rfl : R = none := by simpa using HR.out
    go_wp2
    refine bodyPost_ret (v := .tuple #[.slice A6 (l.set j (bidL x ⟨4, i, b, v⟩)).length c6, .bool false]) (by simp [results, Try.results28, go_sem, *]) rfl (GivesMk.fail ?_)
    rw [hgb]
    exact b0.trans ((b6).mono b0s)
  next =>
    cases d2
    next =>
      obtain rfl : R = none := by simpa using HR.out
      go_wp2
      refine bodyPost_ret (v := .tuple #[.slice A6 (l.set j (bidL x ⟨4, i, b, v⟩)).length c6, .bool false]) (by simp [results, Try.results28, go_sem, *]) rfl (GivesMk.fail ?_)
      rw [hgb]
      exact b0.trans ((b6).mono b0s)
    next =>
      obtain rfl : R = some (l.set j (bidL x ⟨4, i, b, v⟩)) := by simpa using HR.out
      go_wp2
      refine bodyPost_ret (v := .tuple #[.slice A6 (l.set j (bidL x ⟨4, i, b, v⟩)).length c6, .bool true]) (by simp [results, Try.results28, go_sem, *]) rfl (GivesMk.yes rfl (ownsRow_lower HO6.out (by rw [hgb]; exact Nat.le_trans b0s hz9)) ?_)
      rw [hgb]
      exact b0.trans ((b6).mono b0s)
set_option maxRecDepth 100000 in
set_option maxHeartbeats 4000000 in
theorem sell_knock (A : Option Addr) (c : Nat) (l : List Lot) (i b v : Int) (w : World) (h : LotsR w w.heap.size A l) (G : GoodL l) (j : Nat) (hj : j < l.length) (ho : openIx l = j) :
    Calls Try.prog 28 #[.slice A l.length c, .agg #[.int .i64 5, .int .i64 i, .int .i64 b, .int .i64 v]] w (GivesMk w (some (l.set j (knockL l[j])))) := by
  have hz0 : (0 : Int) ≤ (j : Int) := by omega
  have hzi : ¬ (j : Int) < 0 := by omega
  obtain ⟨x, hxe⟩ : ∃ x, l[j] = x := ⟨_, rfl⟩
  rw [hxe]
  have HOE := Lib.hid ho
  clear ho
  have b0 := (Below.refl w.heap.size w).alloc (Nat.le_refl _) (.cells #[.int .i64 5, .int .i64 i, .int .i64 b, .int .i64 v] 40)
  have b0s := b0.size
  have L0 := Lies.new w 40 #[.int .i64 5, .int .i64 i, .int .i64 b, .int .i64 v]
  have hW := SlcR.up h b0 (Nat.le_refl _)
  have len := G.len
  go_enter Try.func28, Try.ntmps28
  go_wp2_with fail
  generalize w.alloc (.cells #[.int .i64 5, .int .i64 i, .int .i64 b, .int .i64 v] 40) = W at b0 b0s L0 hW ⊢
  generalize hgb : w.heap.size = g at L0 ⊢
  rw [hgb] at b0 b0s
  refine (l29Open_any A c l W hW).mono ?_
  rintro e w1 ⟨he, hb1⟩
  rw [HOE.out] at he
  subst he
  have L1 := L0.below hb1 L0.lt
  have hgW := L0.lt
  have s0 := L1.cell 0
  have s1 := L1.cell 1
  have s2 := L1.cell 2
  have s3 := L1.cell 3
  simp only [List.getElem?_cons_zero, List.getElem?_cons_succ] at s0 s1 s2 s3
  obtain ⟨bl, off, rfl, hbl, hcell⟩ := (LotsR.el hW) (by omega)
  have hcx := hcell j hj
  rw [hxe] at hcx
  obtain ⟨c0, c1', c2, c3, c4⟩ := LotS.up hcx hb1 hb1.size
  have q0 := c0 ⟨w1, Below.refl _ _⟩
  have q1 := c1' ⟨w1, Below.refl _ _⟩
  have q2 := c2 ⟨w1, Below.refl _ _⟩
  have q3 := c3 ⟨w1, Below.refl _ _⟩
  have q4 := c4 ⟨w1, Below.refl _ _⟩
  clear hcx hcell
  go_upto_region 5 with fail
  have P2 := Lies.new w1 44 #[.int .i64 x.i, .int .i64 x.r, .int .i64 x.s, .int .i64 x.h, .int .i64 x.b]
  have hal := (Below.refl w1.heap.size w1).alloc (Nat.le_refl _) (.cells #[.int .i64 x.i, .int .i64 x.r, .int .i64 x.s, .int .i64 x.h, .int .i64 x.b] 44)
  have L2 := L1.below hal L1.lt
  have b2 := bthen hb1 hal
  have hp := hb1.size
  generalize hw2 : w1.alloc (.cells #[.int .i64 x.i, .int .i64 x.r, .int .i64 x.s, .int .i64 x.h, .int .i64 x.b] 44) = w2 at P2 hal L2 b2 ⊢
  clear hw2 hal s0 s1 s2 s3 q0 q1 q2 q3 q4 c0 c1' c2 c3 c4 L1
  generalize w1.heap.size = p at P2 hp ⊢
  have s0 := L2.cell 0
  have s1 := L2.cell 1
  have s2 := L2.cell 2
  have s3 := L2.cell 3
  simp only [List.getElem?_cons_zero, List.getElem?_cons_succ] at s0 s1 s2 s3
  have p0 := P2.cell 0
  have p1 := P2.cell 1
  have p2 := P2.cell 2
  have p3 := P2.cell 3
  have p4 := P2.cell 4
  simp only [List.getElem?_cons_zero, List.getElem?_cons_succ] at p0 p1 p2 p3 p4
  have f0 := P2.frozen 0
  have f1 := P2.frozen 1
  have f2 := P2.frozen 2
  have f3 := P2.frozen 3
  have f4 := P2.frozen 4
  have P3 := P2.set 2 (.int .i64 3)
  have L3 := L2.other (p := ⟨p, 2, none⟩) (by show g ≠ p; omega) (.int .i64 3)
  simp only [List.set_cons_zero, List.set_cons_succ] at P3
  have b3 := b2.setCell (p := ⟨p, 2, none⟩) hp (.int .i64 3)
  go_upto_region 11 with fail
  generalize hw3 : w2.setCell ⟨p, 2, none⟩ (.int .i64 3) = w3 at P3 L3 b3 ⊢
  clear hw3 P2 L2 b2 s0 s1 s2 s3 p0 p1 p2 p3 p4 f0 f1 f2 f3 f4
  have p0 := P3.cell 0
  have p1 := P3.cell 1
  have p2 := P3.cell 2
  have p3 := P3.cell 3
  have p4 := P3.cell 4
  simp only [List.getElem?_cons_zero, List.getElem?_cons_succ] at p0 p1 p2 p3 p4
  have f0 := P3.frozen 0
  have f1 := P3.frozen 1
  have f2 := P3.frozen 2
  have f3 := P3.frozen 3
  have f4 := P3.frozen 4
  by_cases h1 : 1 ≤ x.h
  next =>
    by_cases h2 : x.r ≤ x.h
    next =>
      have P4 := P3.set 2 (.int .i64 2)
      simp only [List.set_cons_zero, List.set_cons_succ] at P4
      have b4 := b3.setCell (p := ⟨p, 2, none⟩) hp (.int .i64 2)
      go_upto_region 13 with fail
      generalize hw4 : w3.setCell ⟨p, 2, none⟩ (.int .i64 2) = w4 at P4 b4 ⊢
      clear hw4 P3 L3 b3
      clear p0 p1 p2 p3 p4 f0 f1 f2 f3 f4
      have p0 := P4.cell 0
      have p1 := P4.cell 1
      have p2 := P4.cell 2
      have p3 := P4.cell 3
      have p4 := P4.cell 4
      simp only [List.getElem?_cons_zero, List.getElem?_cons_succ] at p0 p1 p2 p3 p4
      have hW5 : LotsR w4 w4.heap.size _ l := SlcR.up hW b4 (Nat.le_refl _)
      have hkn : (⟨x.i, x.r, 2, x.h, x.b⟩ : Lot) = knockL x := by unfold knockL; simp [*]
      have HKN := Lib.hid hkn
      clear hkn
      go_wp2_with fail
      refine (l29With_any (some ⟨bl, off, none⟩) c l j ⟨x.i, x.r, 2, x.h, x.b⟩ w4 hW5 (by omega) hj).mono ?_
      rintro e w6 ⟨A6, c6, rfl, h6, hb6⟩
      have hz9 := b4.size
      have b6 := bthen' b4 hb6 b4.size
      rw [HKN.out] at h6
      have HO6 := Lib.hid h6
      clear h6 P4 hW5 b4 hb6 p0 p1 p2 p3 p4
      go_wp2
      refine bodyPost_ret (v := .tuple #[.slice A6 l.length c6, .bool true]) (by simp [results, Try.results28, go_sem, *]) rfl (GivesMk.yes List.length_set (ownsRow_lower HO6.out (by rw [hgb]; exact Nat.le_trans b0s hz9)) ?_)
      rw [hgb]
      exact b0.trans ((b6).mono b0s)
    next =>
      go_upto_region 13 with fail
      clear p0 p1 p2 p3 p4 f0 f1 f2 f3 f4
      have p0 := P3.cell 0
      have p1 := P3.cell 1
      have p2 := P3.cell 2
      have p3 := P3.cell 3
      have p4 := P3.cell 4
      simp only [List.getElem?_cons_zero, List.getElem?_cons_succ] at p0 p1 p2 p3 p4
      have hW5 : LotsR w3 w3.heap.size _ l := SlcR.up hW b3 (Nat.le_refl _)
      have hkn : (⟨x.i, x.r, 3, x.h, x.b⟩ : Lot) = knockL x := by unfold knockL; simp [*]
      have HKN := Lib.hid hkn
      clear hkn
      go_wp2_with fail
      refine (l29With_any (some ⟨bl, off, none⟩) c l j ⟨x.i, x.r, 3, x.h, x.b⟩ w3 hW5 (by omega) hj).mono ?_
      rintro e w6 ⟨A6, c6, rfl, h6, hb6⟩
      have hz9 := b3.size
      have b6 := bthen' b3 hb6 b3.size
      rw [HKN.out] at h6
      have HO6 := Lib.hid h6
      clear h6 P3 hW5 b3 hb6 p0 p1 p2 p3 p4
      go_wp2
      refine bodyPost_ret (v := .tuple #[.slice A6 l.length c6, .bool true]) (by simp [results, Try.results28, go_sem, *]) rfl (GivesMk.yes List.length_set (ownsRow_lower HO6.out (by rw [hgb]; exact Nat.le_trans b0s hz9)) ?_)
      rw [hgb]
      exact b0.trans ((b6).mono b0s)
  next =>
    go_upto_region 13 with fail
    clear p0 p1 p2 p3 p4 f0 f1 f2 f3 f4
    have p0 := P3.cell 0
    have p1 := P3.cell 1
    have p2 := P3.cell 2
    have p3 := P3.cell 3
    have p4 := P3.cell 4
    simp only [List.getElem?_cons_zero, List.getElem?_cons_succ] at p0 p1 p2 p3 p4
    have hW5 : LotsR w3 w3.heap.size _ l := SlcR.up hW b3 (Nat.le_refl _)
    have hkn : (⟨x.i, x.r, 3, x.h, x.b⟩ : Lot) = knockL x := by unfold knockL; simp [*]
    have HKN := Lib.hid hkn
    clear hkn
    go_wp2_with fail
    refine (l29With_any (some ⟨bl, off, none⟩) c l j ⟨x.i, x.r, 3, x.h, x.b⟩ w3 hW5 (by omega) hj).mono ?_
    rintro e w6 ⟨A6, c6, rfl, h6, hb6⟩
    have hz9 := b3.size
    have b6 := bthen' b3 hb6 b3.size
    rw [HKN.out] at h6
    have HO6 := Lib.hid h6
    clear h6 P3 hW5 b3 hb6 p0 p1 p2 p3 p4
    go_wp2
    refine bodyPost_ret (v := .tuple #[.slice A6 l.length c6, .bool true]) (by simp [results, Try.results28, go_sem, *]) rfl (GivesMk.yes List.length_set (ownsRow_lower HO6.out (by rw [hgb]; exact Nat.le_trans b0s hz9)) ?_)
    rw [hgb]
    exact b0.trans ((b6).mono b0s)
end Go.Proofs.Ytkokbmmffkpclaa

/- A step with the open lot, in the reference: both kinds. (Printed by gen_lotmake.py) -/
namespace Go.Proofs.Ytkokbmmffkpclaa
open Go.RowKit

theorem l29Sell_any (A : Option Addr) (c : Nat) (l : List Lot) (k i b v : Int) (w : World) (h : LotsR w w.heap.size A l) (G : GoodL l) (hk : k = 4 ∨ k = 5) :
    Calls Try.prog 28 #[.slice A l.length c, (⟨k, i, b, v⟩ : ASt).val] w (GivesMk w (stepL l ⟨k, i, b, v⟩)) := by
  rcases hk with rfl | rfl
  · by_cases ho : openIx l < 0
    · rw [step4_none ho]; exact sell_none4 A c l i b v w h G ho
    · obtain ⟨j, ho', hj⟩ := open_at ho
      rw [step4_bid ho' hj]; exact sell_bid A c l i b v w h G j hj ho'
  · by_cases ho : openIx l < 0
    · rw [step5_none ho]; exact sell_none5 A c l i b v w h G ho
    · obtain ⟨j, ho', hj⟩ := open_at ho
      rw [step5_knock ho' hj]; exact sell_knock A c l i b v w h G j hj ho'
end Go.Proofs.Ytkokbmmffkpclaa

/- 'append([]T{}, xs...)' as one operation of a drawn region. -/
namespace Go.Proofs.Ytkokbmmffkpclaa
open Go.RowKit

/-- 'append([]T{}, xs...)' as one operation of a drawn region: no older block turns. -/
theorem stepCat {P : Program} {ops : Array Oper} {tm : Array Value} {o : Oper} {a : Act} {w : World} {K : Act → World → Prop} {Q : Exit → Act → World → Prop} {E : Prop}
    (hg : o.guard = none) (s x : Operand) (t : TypeId) (ho : o.op = .call { callee := .builtin .append, args := #[s, x], argTypes := #[t, t] })
    (e : TypeId) (z : Value) (k bytes : Nat) (ht : P.underlying t = some (.slice e)) (hinfo : (P.info? e).map (fun i => (i.zero, i.size, i.bytes)) = some (some z, k, bytes)) (hzs : z.cells.size = k) (hsz : 0 < k) (hby : bytes ≤ 1000)
    (B g : Nat) (hs : a.eval s = .slice (some ⟨g, 0, none⟩) 0 0) (hL : Lies w g e []) (hB : B ≤ g)
    (S : Nat) (A : Option Addr) (m c : Nat) (cs : List Value) (hx : a.eval x = .slice A m c) (hr : SlcR w S k A m cs) (h1 : ∀ u ∈ cs, u.oneCell' = true) (hm : m ≤ 1000000)
    (h : ∀ v' w', w'.ownsRow B e k v' m cs → Below w.heap.size w w' → K (a.put o.dst v') w') : if Region.wanted o (yielded ops tm) = true then o.wp P a w K Q else E := by
  have hw : ∀ tm : Array Value, Region.wanted o (yielded ops tm) = true := fun tm => by simp [Region.wanted, hg]
  rw [if_pos (hw _)]
  obtain ⟨i, hi, hz, hs', hb⟩ := info_parts hinfo
  have hbytes : (0 + m) * bytes ≤ 140737488355328 := by have := Nat.mul_le_mul (show 0 + m ≤ 1000000 by omega) hby; omega
  have hlt := hL.lt
  rcases Nat.eq_zero_or_pos m with h0 | h0
  · subst h0
    have hc0 : cs = [] := List.eq_nil_of_length_eq_zero (by simpa using hr.len)
    subst hc0
    have hown : w.ownsRow B e k (.slice (some ⟨g, 0, none⟩) 0 0) 0 [] := owns_empty hL hB
    have hrun : (Builtin.append_ #[t, t] o.type #[.slice (some ⟨g, 0, none⟩) 0 0, .slice A 0 c]).run P w = .ok (.slice (some ⟨g, 0, none⟩) 0 0) w := by
      rcases A with _ | ad
      · exact run_cat_nil w B t o.type e i k ht hi _ 0 [] hown c
      · simp [Builtin.append_, run_underlying ht, sizeOf, typeInfo, hi, Builtin.lenOf, Builtin.firstCells, loadCells, loadCellsFrom, storeCells]
    unfold Oper.wp execOp
    simp only [ho, resolve, invoke, builtin, Sem.run_bind, Sem.run_pure, Result.andThen_ok, List.map_toArray, List.map_cons, List.map_nil, hs, hx, hrun]
    exact h _ _ hown (Below.refl _ _)
  · obtain ⟨b, off, rfl, hlt', hcell⟩ := hr.at_ h0
    have key := step_append_grows (P := P) (ops := ops) (a := a) (w := w) (K := K) (Q := Q) (E := E) hg s x t ho e i z k bytes ht hi hz hs' hb hzs hsz (some ⟨g, 0, none⟩) 0 0 [] hs (by simp) (by simp) (by simp) ⟨b, off, none⟩ m c cs hx hr.len (fun j u hu => by rw [addr_add]; exact hcell j u hu) h1 (by omega) (by unfold maxLen; omega) hbytes (fun v' w' h2 h3 => by
      rw [Nat.zero_add, List.nil_append] at h2
      exact h v' w' (ownsRow_lower h2 (by omega)) ((Below.refl _ _).grown h3 (Nat.le_refl _) (fun j hj => by cases hj)))
    rw [if_pos (hw _)] at key
    exact key

end Go.Proofs.Ytkokbmmffkpclaa

/- A new lot in its place, in the reference. (Printed by gen_lotmake.py) -/
namespace Go.Proofs.Ytkokbmmffkpclaa
open Go.RowKit

theorem posL_cons {r : Lot} {l : List Lot} {id : Int} : posL (r :: l) id = if r.i < id then posL l id + 1 else 0 := by
  unfold posL; rw [List.takeWhile_cons]; by_cases h : r.i < id <;> simp [h]
theorem posL_step {l : List Lot} {id : Int} {k : Nat} (h : k < l.length) : posL (l.drop k) id = if l[k].i < id then posL (l.drop (k + 1)) id + 1 else 0 := by
  rw [List.drop_eq_getElem_cons h, posL_cons]
theorem infoLot_size : (Try.prog.info? 44).map (·.size) = some 5 := by kernel_rfl
set_option maxRecDepth 100000 in
set_option maxHeartbeats 4000000 in
theorem l29Put_any (A : Option Addr) (c : Nat) (l : List Lot) (id va : Int) (w : World) (h : LotsR w w.heap.size A l) (hn : l.length ≤ 8) (hc : l.length ≤ c) :
    Calls Try.prog 30 #[.slice A l.length c, .int .i64 id, .int .i64 va] w (GivesL w (insL l id va)) := by
  have hl := h.big
  have hrd := h.el
  have HF : Hid (0 + posL (l.drop 0) id = posL l id) := by rw [Hid, Nat.zero_add, List.drop_zero]
  have HIN := Lib.hid (show insL l id va = l.take (posL l id) ++ ⟨id, va, 0, 0, 0⟩ :: l.drop (posL l id) from rfl)
  go_enter Try.func30, Try.ntmps30
  go_wp2
  go_loopw [7] (fun i wr => ∃ (k : Nat), k ≤ l.length ∧ i = .int .i64 k ∧ (∃ q : Since w.heap.size w, wr = q.val) ∧ Hid (k + posL (l.drop k) id = posL l id)) (fun i _ => l.length - (intOf i).toNat)
  case atStart => exact ⟨0, Nat.zero_le _, rfl, ⟨Since.start _ _, rfl⟩, HF⟩
  case round =>
    obtain ⟨k, hk, rfl, ⟨q, rfl⟩, HR⟩ := hrel
    have key : (∃ hlt : k < l.length, l[k].i < id) ∨ posL l id = k := by
      rcases Nat.lt_or_ge k l.length with hlt | hge
      · by_cases hi : l[k].i < id
        · exact .inl ⟨hlt, hi⟩
        · right; rw [← HR.out, posL_step hlt, if_neg hi]; omega
      · right; rw [← HR.out, List.drop_eq_nil_of_le hge]; rfl
    rcases key with ⟨hlt, hi⟩ | hp
    · obtain ⟨b, off, rfl, hb, hcell⟩ := hrd (by omega)
      obtain ⟨c0, c1, c2, c3, c4⟩ := hcell k hlt
      have hy : Hid (k + 1 + posL (l.drop (k + 1)) id = posL l id) := by rw [Hid, ← HR.out, posL_step hlt, if_pos hi]; omega
      obtain ⟨x, hxe⟩ : ∃ x, x = l[k] := ⟨_, rfl⟩
      rw [← hxe] at c0 hi
      clear hxe hcell hrd c1 c2 c3 c4
      go_wp2
      go_roundw
      case rel => exact ⟨k + 1, by omega, by go_num, ⟨q, rfl⟩, hy⟩
      case measure => simp [intOf]; omega
    have hex : ∀ hlt : k < l.length, ¬ l[k].i < id := fun hlt hi => by
      have := HR.out; rw [posL_step hlt, if_pos hi] at this; omega
    rw [hp] at HIN
    have HX : Hid (∀ hlt : k < l.length, ¬ l[k].i < id) := hex
    have HRD := Lib.hid hrd
    clear hex hrd hp HR HF
    have hB : ∀ (tm : Array Value), True := fun _ => trivial
    rcases Nat.lt_or_ge k l.length with hlt | hge
    · obtain ⟨b, off, rfl, hb, hcell⟩ := HRD.out (by omega)
      obtain ⟨c0, c1, c2, c3, c4⟩ := hcell k hlt
      have hx := HX.out hlt
      obtain ⟨x, hxe⟩ : ∃ x, x = l[k] := ⟨_, rfl⟩
      rw [← hxe] at c0 hx
      clear hxe hcell c1 c2 c3 c4 HX
      go_upto_region 4 with fail
      clear c0 hx hb
      refine wp_region_factsR (fun _ => (fun W9 => Below w.heap.size w W9)) (fun i w1 w2 => i ∉ [9, 13] → Below w1.heap.size w1 w2) (by kernel_rfl) (by kernel_rfl) (by kernel_rfl) q.below.drew ?_
      simp only [fillOps, Act.put, List.setIfInBounds_toArray, List.set_cons_zero, List.set_cons_succ, Nat.zero_add, Nat.reduceAdd]
      refine wpFactsR_some [9, 13] (fun v w9 => ∃ g, v = .slice (some ⟨g, 0, none⟩) 0 0 ∧ w.heap.size ≤ g ∧ Lies w9 g 44 []) ?_ (fun vs L9 w9 hG9 hC9 hB K9 hK9 => ?_) ?_
      next =>
        intro i9 hi9 hb9 ha9 v w1 w2 hv hT9
        have hb := hT9 (fun hm => by
          simp only [List.mem_cons, List.not_mem_nil, or_false] at hm hb9
          rcases hm with rfl | rfl
          · exact hb9 (by simp)
          · exact hb9 (by simp))
        obtain ⟨g, e, hg, hl⟩ := hv
        exact ⟨g, e, hg, hl.below hb hl.lt⟩
      next =>
        simp only [Act.put, List.setIfInBounds_toArray, List.set_cons_zero, List.set_cons_succ] at hK9
        go_simp
        exact hK9 _ _ _ rfl ⟨_, rfl, hC9.size, Lies.new w9 44 #[]⟩ (hC9.alloc hC9.size _) (fun _ => (Below.refl _ _).alloc (Nat.le_refl _) _)
      apply wpFactsR_val
      case h1 =>
        intro vs L9 w9 hG9 hC9 hB K9 hK9
        simp only [Act.put, List.setIfInBounds_toArray, List.set_cons_zero, List.set_cons_succ] at hK9
        go_simp
        exact hK9 _ _ rfl hC9 (fun _ => Below.refl _ _)
      apply wpFactsR_val
      case h1 =>
        intro vs L9 w9 hG9 hC9 hB K9 hK9
        simp only [Act.put, List.setIfInBounds_toArray, List.set_cons_zero, List.set_cons_succ] at hK9
        go_simp
        exact hK9 _ _ rfl hC9 (fun _ => Below.refl _ _)
      apply wpFactsR_val
      case h1 =>
        intro vs L9 w9 hG9 hC9 hB K9 hK9
        have d1 := FactN.eq (hB 1 _ (by kernel_rfl) (by kernel_rfl) rfl (by decide))
        have d2 := FactN.eq (hB 2 _ (by kernel_rfl) (by kernel_rfl) rfl (by decide))
        simp only [d1, d2] at hK9 ⊢
        simp only [Act.put, List.setIfInBounds_toArray, List.set_cons_zero, List.set_cons_succ] at hK9
        refine step_sliceTo rfl 26 44 (.tmp 24) (.tmp 25) rfl Try.underlying26 5 infoLot_size (some ⟨b, off, none⟩) l.length c k (by rfl) (by rfl) hk hc ?_
        exact hK9 _ _ rfl hC9 (fun _ => Below.refl _ _)
      refine wpFactsR_some [9, 13] (fun v w9 => ∃ A c, v = .slice A (k) c ∧ w9.ownsRow w.heap.size 44 5 (.slice A (k) c) (k) ((l.flatMap Lot.enc).take (k * 5))) ?_ (fun vs L9 w9 hG9 hC9 hB K9 hK9 => ?_) ?_
      next =>
        intro i9 hi9 hb9 ha9 v w1 w2 hv hT9
        have hb := hT9 (fun hm => by
          simp only [List.mem_cons, List.not_mem_nil, or_false] at hm hb9
          rcases hm with rfl | rfl
          · exact hb9 (by simp)
          · exact hb9 (by simp))
        obtain ⟨A, c, e, ho⟩ := hv
        exact ⟨A, c, e, ownsRow_below ho hb⟩
      next =>
        have d3 := FactN.eq (hB 3 _ (by kernel_rfl) (by kernel_rfl) rfl (by decide))
        simp only [d3] at hK9 ⊢
        simp only [Act.put, List.setIfInBounds_toArray, List.set_cons_zero, List.set_cons_succ] at hK9
        obtain ⟨g, e0, hg, hl⟩ := hB 0 _ (by kernel_rfl) (by kernel_rfl) rfl (by decide)
        simp only [e0] at hK9 ⊢
        refine stepCat rfl (.tmp 23) (.tmp 26) 26 rfl 44 _ 5 40 Try.underlying26 infoLot rfl (by omega) (by omega) w.heap.size g (by rfl) hl hg w.heap.size (some ⟨b, off, none⟩) k c _ (by rfl) (SlcR.take (SlcR.below h hC9) k hk) (fun u hu => lot_cells u (List.mem_of_mem_take hu)) (by omega) ?_
        intro v' w' ho hb
        obtain ⟨A', c', rfl⟩ := ownsRow_slice ho
        exact hK9 _ _ _ rfl ⟨A', c', rfl, ho⟩ (hC9.trans (hb.mono hC9.size)) (fun _ => hb)
      apply wpFactsR_val
      case h1 =>
        intro vs L9 w9 hG9 hC9 hB K9 hK9
        simp only [Act.put, List.setIfInBounds_toArray, List.set_cons_zero, List.set_cons_succ] at hK9
        go_simp
        exact hK9 _ _ rfl hC9 (fun _ => Below.refl _ _)
      apply wpFactsR_val
      case h1 =>
        intro vs L9 w9 hG9 hC9 hB K9 hK9
        simp only [Act.put, List.setIfInBounds_toArray, List.set_cons_zero, List.set_cons_succ] at hK9
        go_simp
        exact hK9 _ _ rfl hC9 (fun _ => Below.refl _ _)
      apply wpFactsR_val
      case h1 =>
        intro vs L9 w9 hG9 hC9 hB K9 hK9
        have d5 := FactN.eq (hB 5 _ (by kernel_rfl) (by kernel_rfl) rfl (by decide))
        have d6 := FactN.eq (hB 6 _ (by kernel_rfl) (by kernel_rfl) rfl (by decide))
        simp only [d5, d6] at hK9 ⊢
        simp only [Act.put, List.setIfInBounds_toArray, List.set_cons_zero, List.set_cons_succ] at hK9
        go_simp
        exact hK9 _ _ rfl hC9 (fun _ => Below.refl _ _)
      refine wpFactsR_some [9, 13] (fun v w9 => ∃ g c, v = .slice (some ⟨g, 0, none⟩) 1 c ∧ Lies w9 g 44 [.int .i64 id, .int .i64 va, .int .i64 0, .int .i64 0, .int .i64 0]) ?_ (fun vs L9 w9 hG9 hC9 hB K9 hK9 => ?_) ?_
      next =>
        intro i9 hi9 hb9 ha9 v w1 w2 hv hT9
        have hb := hT9 (fun hm => by
          simp only [List.mem_cons, List.not_mem_nil, or_false] at hm hb9
          rcases hm with rfl | rfl
          · exact hb9 (by simp)
          · exact hb9 (by simp))
        obtain ⟨g, c, e, hl⟩ := hv
        exact ⟨g, c, e, hl.below hb hl.lt⟩
      next =>
        have d7 := FactN.eq (hB 7 _ (by kernel_rfl) (by kernel_rfl) rfl (by decide))
        simp only [d7] at hK9 ⊢
        simp only [Act.put, List.setIfInBounds_toArray, List.set_cons_zero, List.set_cons_succ] at hK9
        go_simp
        exact hK9 _ _ _ rfl ⟨_, _, rfl, Lies.new w9 44 #[.int .i64 id, .int .i64 va, .int .i64 0, .int .i64 0, .int .i64 0]⟩ (hC9.alloc hC9.size _) (fun _ => (Below.refl _ _).alloc (Nat.le_refl _) _)
      refine wpFactsR_some [13] (fun v w9 => ∃ A c, v = .slice A (k + 1) c ∧ w9.ownsRow w.heap.size 44 5 (.slice A (k + 1) c) (k + 1) ((l.flatMap Lot.enc).take (k * 5) ++ [.int .i64 id, .int .i64 va, .int .i64 0, .int .i64 0, .int .i64 0])) ?_ (fun vs L9 w9 hG9 hC9 hB K9 hK9 => ?_) ?_
      next =>
        intro i9 hi9 hb9 ha9 v w1 w2 hv hT9
        have hb := hT9 (fun hm => by
          simp only [List.mem_cons, List.not_mem_nil, or_false] at hm hb9
          rcases hm with rfl | rfl
          · exact hi9 rfl
          · exact hb9 (by simp))
        obtain ⟨A, c, e, ho⟩ := hv
        exact ⟨A, c, e, ownsRow_below ho hb⟩
      next =>
        simp only [Act.put, List.setIfInBounds_toArray, List.set_cons_zero, List.set_cons_succ] at hK9
        obtain ⟨A, c, e5, ho⟩ := hB 4 _ (by kernel_rfl) (by kernel_rfl) rfl (by decide)
        obtain ⟨g, c9, e9, hl⟩ := hB 8 _ (by kernel_rfl) (by kernel_rfl) rfl (by decide)
        simp only [e5, e9] at hK9 ⊢
        refine step_cat rfl (.tmp 27) (.tmp 31) 26 rfl 44 _ 5 40 Try.underlying26 infoLot rfl (by omega) (by omega) w.heap.size _ k _ (by rfl) ho w9.heap.size (some ⟨g, 0, none⟩) 1 c9 [.int .i64 id, .int .i64 va, .int .i64 0, .int .i64 0, .int .i64 0] (by rfl) (hl.reads rfl (by omega)) (by simp [Value.oneCell']) (by omega) hC9.size ?_
        intro A' c' w' ho' _ hb
        exact hK9 _ _ _ rfl ⟨A', c', rfl, ho'⟩ (hC9.trans hb) (fun hq => (hq (by decide)).elim)
      apply wpFactsR_val
      case h1 =>
        intro vs L9 w9 hG9 hC9 hB K9 hK9
        simp only [Act.put, List.setIfInBounds_toArray, List.set_cons_zero, List.set_cons_succ] at hK9
        go_simp
        exact hK9 _ _ rfl hC9 (fun _ => Below.refl _ _)
      apply wpFactsR_val
      case h1 =>
        intro vs L9 w9 hG9 hC9 hB K9 hK9
        simp only [Act.put, List.setIfInBounds_toArray, List.set_cons_zero, List.set_cons_succ] at hK9
        go_simp
        exact hK9 _ _ rfl hC9 (fun _ => Below.refl _ _)
      refine wpFactsR_some [] (fun v w9 => ∃ A, v = .slice A (l.length - k) (c - k) ∧ ∀ W9, Below w.heap.size w W9 → SlcR W9 w.heap.size 5 A (l.length - k) ((l.flatMap Lot.enc).drop (k * 5))) ?_ (fun vs L9 w9 hG9 hC9 hB K9 hK9 => ?_) ?_
      next =>
        intro i9 hi9 hb9 ha9 v w1 w2 hv hT9
        exact hv
      next =>
        have d10 := FactN.eq (hB 10 _ (by kernel_rfl) (by kernel_rfl) rfl (by decide))
        have d11 := FactN.eq (hB 11 _ (by kernel_rfl) (by kernel_rfl) rfl (by decide))
        simp only [d10, d11] at hK9 ⊢
        simp only [Act.put, List.setIfInBounds_toArray, List.set_cons_zero, List.set_cons_succ] at hK9
        refine step_sliceFrom rfl 26 44 (.tmp 33) (.tmp 34) rfl Try.underlying26 5 infoLot_size (some ⟨b, off, none⟩) l.length c k (by rfl) (by rfl) hk hc ?_
        intro A' hA9
        exact hK9 _ _ _ rfl ⟨A', rfl, fun W9 hW => hA9 _ _ _ (SlcR.below h hW)⟩ hC9 (fun _ => Below.refl _ _)
      refine wpFactsR_some [] (fun v w9 => ∃ A c, v = .slice A (k + 1 + (l.length - k)) c ∧ w9.ownsRow w.heap.size 44 5 (.slice A (k + 1 + (l.length - k)) c) (k + 1 + (l.length - k)) (((l.flatMap Lot.enc).take (k * 5) ++ [.int .i64 id, .int .i64 va, .int .i64 0, .int .i64 0, .int .i64 0]) ++ (l.flatMap Lot.enc).drop (k * 5))) ?_ (fun vs L9 w9 hG9 hC9 hB K9 hK9 => ?_) ?_
      next =>
        intro i9 hi9 hb9 ha9 v w1 w2 hv hT9
        have hb := hT9 (fun hm => by
          simp only [List.mem_cons, List.not_mem_nil, or_false] at hm hb9
          rcases hm with rfl | rfl
          · exact absurd (ha9.symm.trans (show ahead .any _ _ _ _ = true by kernel_rfl)) (by decide)
          · exact hi9 rfl)
        obtain ⟨A, c, e, ho⟩ := hv
        exact ⟨A, c, e, ownsRow_below ho hb⟩
      next =>
        simp only [Act.put, List.setIfInBounds_toArray, List.set_cons_zero, List.set_cons_succ] at hK9
        obtain ⟨A, c, e10, ho⟩ := hB 9 _ (by kernel_rfl) (by kernel_rfl) rfl (by decide)
        obtain ⟨A14, e14, hr⟩ := hB 12 _ (by kernel_rfl) (by kernel_rfl) rfl (by decide)
        simp only [e10, e14] at hK9 ⊢
        refine step_cat rfl (.tmp 32) (.tmp 35) 26 rfl 44 _ 5 40 Try.underlying26 infoLot rfl (by omega) (by omega) w.heap.size _ (k + 1) _ (by rfl) ho w.heap.size A14 (l.length - k) (_ - k) _ (by rfl) (hr w9 hC9) (fun u hu => lot_cells u (List.mem_of_mem_drop hu)) (by omega) hC9.size ?_
        intro A' c' w' ho' _ hb
        exact hK9 _ _ _ rfl ⟨A', c', rfl, ho'⟩ (hC9.trans hb) (fun hq => (hq (by decide)).elim)
      refine wpFactsR_pair [] 13 (fun u v _ => v = u ∧ ∃ A c, u = .slice A (k + 1 + (l.length - k)) c) (by kernel_rfl) ?_ (fun vs L9 w9 hG9 hC9 hB K9 hK9 => ?_) ?_
      next =>
        intro i9 hi9 hb9 ha9 u v w1 w2 hv hT9
        exact hv
      next =>
        obtain ⟨A, c, e0, ho⟩ := hB 13 _ (by kernel_rfl) (by kernel_rfl) rfl (by decide)
        simp only [e0] at hK9 ⊢
        go_simp
        exact hK9 _ _ _ rfl ⟨rfl, A, c, rfl⟩ hC9 (fun _ => Below.refl _ _)
      refine wpFactsR_nil fun vs L9 w9 hL9 hC9 hB => ?_
      have ⟨e14, A8, c8, e13⟩ : vs 14 = vs 13 ∧ ∃ A c, vs 13 = .slice A (k + 1 + (l.length - k)) c := hB 14 _ rfl rfl (by decide)
      obtain ⟨A9, c9, e13', ho⟩ : ∃ A c, vs 13 = .slice A (k + 1 + (l.length - k)) c ∧ w9.ownsRow w.heap.size 44 5 (.slice A (k + 1 + (l.length - k)) c) (k + 1 + (l.length - k)) (((l.flatMap Lot.enc).take (k * 5) ++ [Value.int .i64 id, Value.int .i64 va, Value.int .i64 0, Value.int .i64 0, Value.int .i64 0]) ++ (l.flatMap Lot.enc).drop (k * 5)) := hB 13 _ rfl rfl (by decide)
      rw [e13'] at e14
      simp only [e14]
      clear hB e13 e13' e14
      have hlen : (insL l id va).length = k + 1 + (l.length - k) := by rw [HIN.out]; simp; omega
      have hcs : (insL l id va).flatMap Lot.enc = ((l.flatMap Lot.enc).take (k * 5) ++ [Value.int .i64 id, Value.int .i64 va, Value.int .i64 0, Value.int .i64 0, Value.int .i64 0]) ++ (l.flatMap Lot.enc).drop (k * 5) := by
        rw [HIN.out, List.flatMap_append, List.flatMap_cons, flat_takeL, flat_dropL, List.append_assoc]; rfl
      have HO := Lib.hid ho
      clear ho
      go_wp2
      refine bodyPost_ret (v := .slice A9 (k + 1 + (l.length - k)) c9) (by simp [results, Try.results30, go_sem, *]) rfl ⟨A9, c9, by rw [hlen], ?_, hC9⟩
      unfold OwnL
      rw [hcs, hlen]
      exact HO.out
    · have hlt : ¬ k < l.length := by omega
      clear hge
      clear HX HRD
      go_upto_region 4 with fail
      refine wp_region_factsR (fun _ => (fun W9 => Below w.heap.size w W9)) (fun i w1 w2 => i ∉ [9, 13] → Below w1.heap.size w1 w2) (by kernel_rfl) (by kernel_rfl) (by kernel_rfl) q.below.drew ?_
      simp only [fillOps, Act.put, List.setIfInBounds_toArray, List.set_cons_zero, List.set_cons_succ, Nat.zero_add, Nat.reduceAdd]
      refine wpFactsR_some [9, 13] (fun v w9 => ∃ g, v = .slice (some ⟨g, 0, none⟩) 0 0 ∧ w.heap.size ≤ g ∧ Lies w9 g 44 []) ?_ (fun vs L9 w9 hG9 hC9 hB K9 hK9 => ?_) ?_
      next =>
        intro i9 hi9 hb9 ha9 v w1 w2 hv hT9
        have hb := hT9 (fun hm => by
          simp only [List.mem_cons, List.not_mem_nil, or_false] at hm hb9
          rcases hm with rfl | rfl
          · exact hb9 (by simp)
          · exact hb9 (by simp))
        obtain ⟨g, e, hg, hl⟩ := hv
        exact ⟨g, e, hg, hl.below hb hl.lt⟩
      next =>
        simp only [Act.put, List.setIfInBounds_toArray, List.set_cons_zero, List.set_cons_succ] at hK9
        go_simp
        exact hK9 _ _ _ rfl ⟨_, rfl, hC9.size, Lies.new w9 44 #[]⟩ (hC9.alloc hC9.size _) (fun _ => (Below.refl _ _).alloc (Nat.le_refl _) _)
      apply wpFactsR_val
      case h1 =>
        intro vs L9 w9 hG9 hC9 hB K9 hK9
        simp only [Act.put, List.setIfInBounds_toArray, List.set_cons_zero, List.set_cons_succ] at hK9
        go_simp
        exact hK9 _ _ rfl hC9 (fun _ => Below.refl _ _)
      apply wpFactsR_val
      case h1 =>
        intro vs L9 w9 hG9 hC9 hB K9 hK9
        simp only [Act.put, List.setIfInBounds_toArray, List.set_cons_zero, List.set_cons_succ] at hK9
        go_simp
        exact hK9 _ _ rfl hC9 (fun _ => Below.refl _ _)
      apply wpFactsR_val
      case h1 =>
        intro vs L9 w9 hG9 hC9 hB K9 hK9
        have d1 := FactN.eq (hB 1 _ (by kernel_rfl) (by kernel_rfl) rfl (by decide))
        have d2 := FactN.eq (hB 2 _ (by kernel_rfl) (by kernel_rfl) rfl (by decide))
        simp only [d1, d2] at hK9 ⊢
        simp only [Act.put, List.setIfInBounds_toArray, List.set_cons_zero, List.set_cons_succ] at hK9
        refine step_sliceTo rfl 26 44 (.tmp 24) (.tmp 25) rfl Try.underlying26 5 infoLot_size A l.length c k (by rfl) (by rfl) hk hc ?_
        exact hK9 _ _ rfl hC9 (fun _ => Below.refl _ _)
      refine wpFactsR_some [9, 13] (fun v w9 => ∃ A c, v = .slice A (k) c ∧ w9.ownsRow w.heap.size 44 5 (.slice A (k) c) (k) ((l.flatMap Lot.enc).take (k * 5))) ?_ (fun vs L9 w9 hG9 hC9 hB K9 hK9 => ?_) ?_
      next =>
        intro i9 hi9 hb9 ha9 v w1 w2 hv hT9
        have hb := hT9 (fun hm => by
          simp only [List.mem_cons, List.not_mem_nil, or_false] at hm hb9
          rcases hm with rfl | rfl
          · exact hb9 (by simp)
          · exact hb9 (by simp))
        obtain ⟨A, c, e, ho⟩ := hv
        exact ⟨A, c, e, ownsRow_below ho hb⟩
      next =>
        have d3 := FactN.eq (hB 3 _ (by kernel_rfl) (by kernel_rfl) rfl (by decide))
        simp only [d3] at hK9 ⊢
        simp only [Act.put, List.setIfInBounds_toArray, List.set_cons_zero, List.set_cons_succ] at hK9
        obtain ⟨g, e0, hg, hl⟩ := hB 0 _ (by kernel_rfl) (by kernel_rfl) rfl (by decide)
        simp only [e0] at hK9 ⊢
        refine stepCat rfl (.tmp 23) (.tmp 26) 26 rfl 44 _ 5 40 Try.underlying26 infoLot rfl (by omega) (by omega) w.heap.size g (by rfl) hl hg w.heap.size A k c _ (by rfl) (SlcR.take (SlcR.below h hC9) k hk) (fun u hu => lot_cells u (List.mem_of_mem_take hu)) (by omega) ?_
        intro v' w' ho hb
        obtain ⟨A', c', rfl⟩ := ownsRow_slice ho
        exact hK9 _ _ _ rfl ⟨A', c', rfl, ho⟩ (hC9.trans (hb.mono hC9.size)) (fun _ => hb)
      apply wpFactsR_val
      case h1 =>
        intro vs L9 w9 hG9 hC9 hB K9 hK9
        simp only [Act.put, List.setIfInBounds_toArray, List.set_cons_zero, List.set_cons_succ] at hK9
        go_simp
        exact hK9 _ _ rfl hC9 (fun _ => Below.refl _ _)
      apply wpFactsR_val
      case h1 =>
        intro vs L9 w9 hG9 hC9 hB K9 hK9
        simp only [Act.put, List.setIfInBounds_toArray, List.set_cons_zero, List.set_cons_succ] at hK9
        go_simp
        exact hK9 _ _ rfl hC9 (fun _ => Below.refl _ _)
      apply wpFactsR_val
      case h1 =>
        intro vs L9 w9 hG9 hC9 hB K9 hK9
        have d5 := FactN.eq (hB 5 _ (by kernel_rfl) (by kernel_rfl) rfl (by decide))
        have d6 := FactN.eq (hB 6 _ (by kernel_rfl) (by kernel_rfl) rfl (by decide))
        simp only [d5, d6] at hK9 ⊢
        simp only [Act.put, List.setIfInBounds_toArray, List.set_cons_zero, List.set_cons_succ] at hK9
        go_simp
        exact hK9 _ _ rfl hC9 (fun _ => Below.refl _ _)
      refine wpFactsR_some [9, 13] (fun v w9 => ∃ g c, v = .slice (some ⟨g, 0, none⟩) 1 c ∧ Lies w9 g 44 [.int .i64 id, .int .i64 va, .int .i64 0, .int .i64 0, .int .i64 0]) ?_ (fun vs L9 w9 hG9 hC9 hB K9 hK9 => ?_) ?_
      next =>
        intro i9 hi9 hb9 ha9 v w1 w2 hv hT9
        have hb := hT9 (fun hm => by
          simp only [List.mem_cons, List.not_mem_nil, or_false] at hm hb9
          rcases hm with rfl | rfl
          · exact hb9 (by simp)
          · exact hb9 (by simp))
        obtain ⟨g, c, e, hl⟩ := hv
        exact ⟨g, c, e, hl.below hb hl.lt⟩
      next =>
        have d7 := FactN.eq (hB 7 _ (by kernel_rfl) (by kernel_rfl) rfl (by decide))
        simp only [d7] at hK9 ⊢
        simp only [Act.put, List.setIfInBounds_toArray, List.set_cons_zero, List.set_cons_succ] at hK9
        go_simp
        exact hK9 _ _ _ rfl ⟨_, _, rfl, Lies.new w9 44 #[.int .i64 id, .int .i64 va, .int .i64 0, .int .i64 0, .int .i64 0]⟩ (hC9.alloc hC9.size _) (fun _ => (Below.refl _ _).alloc (Nat.le_refl _) _)
      refine wpFactsR_some [13] (fun v w9 => ∃ A c, v = .slice A (k + 1) c ∧ w9.ownsRow w.heap.size 44 5 (.slice A (k + 1) c) (k + 1) ((l.flatMap Lot.enc).take (k * 5) ++ [.int .i64 id, .int .i64 va, .int .i64 0, .int .i64 0, .int .i64 0])) ?_ (fun vs L9 w9 hG9 hC9 hB K9 hK9 => ?_) ?_
      next =>
        intro i9 hi9 hb9 ha9 v w1 w2 hv hT9
        have hb := hT9 (fun hm => by
          simp only [List.mem_cons, List.not_mem_nil, or_false] at hm hb9
          rcases hm with rfl | rfl
          · exact hi9 rfl
          · exact hb9 (by simp))
        obtain ⟨A, c, e, ho⟩ := hv
        exact ⟨A, c, e, ownsRow_below ho hb⟩
      next =>
        simp only [Act.put, List.setIfInBounds_toArray, List.set_cons_zero, List.set_cons_succ] at hK9
        obtain ⟨A, c, e5, ho⟩ := hB 4 _ (by kernel_rfl) (by kernel_rfl) rfl (by decide)
        obtain ⟨g, c9, e9, hl⟩ := hB 8 _ (by kernel_rfl) (by kernel_rfl) rfl (by decide)
        simp only [e5, e9] at hK9 ⊢
        refine step_cat rfl (.tmp 27) (.tmp 31) 26 rfl 44 _ 5 40 Try.underlying26 infoLot rfl (by omega) (by omega) w.heap.size _ k _ (by rfl) ho w9.heap.size (some ⟨g, 0, none⟩) 1 c9 [.int .i64 id, .int .i64 va, .int .i64 0, .int .i64 0, .int .i64 0] (by rfl) (hl.reads rfl (by omega)) (by simp [Value.oneCell']) (by omega) hC9.size ?_
        intro A' c' w' ho' _ hb
        exact hK9 _ _ _ rfl ⟨A', c', rfl, ho'⟩ (hC9.trans hb) (fun hq => (hq (by decide)).elim)
      apply wpFactsR_val
      case h1 =>
        intro vs L9 w9 hG9 hC9 hB K9 hK9
        simp only [Act.put, List.setIfInBounds_toArray, List.set_cons_zero, List.set_cons_succ] at hK9
        go_simp
        exact hK9 _ _ rfl hC9 (fun _ => Below.refl _ _)
      apply wpFactsR_val
      case h1 =>
        intro vs L9 w9 hG9 hC9 hB K9 hK9
        simp only [Act.put, List.setIfInBounds_toArray, List.set_cons_zero, List.set_cons_succ] at hK9
        go_simp
        exact hK9 _ _ rfl hC9 (fun _ => Below.refl _ _)
      refine wpFactsR_some [] (fun v w9 => ∃ A, v = .slice A (l.length - k) (c - k) ∧ ∀ W9, Below w.heap.size w W9 → SlcR W9 w.heap.size 5 A (l.length - k) ((l.flatMap Lot.enc).drop (k * 5))) ?_ (fun vs L9 w9 hG9 hC9 hB K9 hK9 => ?_) ?_
      next =>
        intro i9 hi9 hb9 ha9 v w1 w2 hv hT9
        exact hv
      next =>
        have d10 := FactN.eq (hB 10 _ (by kernel_rfl) (by kernel_rfl) rfl (by decide))
        have d11 := FactN.eq (hB 11 _ (by kernel_rfl) (by kernel_rfl) rfl (by decide))
        simp only [d10, d11] at hK9 ⊢
        simp only [Act.put, List.setIfInBounds_toArray, List.set_cons_zero, List.set_cons_succ] at hK9
        refine step_sliceFrom rfl 26 44 (.tmp 33) (.tmp 34) rfl Try.underlying26 5 infoLot_size A l.length c k (by rfl) (by rfl) hk hc ?_
        intro A' hA9
        exact hK9 _ _ _ rfl ⟨A', rfl, fun W9 hW => hA9 _ _ _ (SlcR.below h hW)⟩ hC9 (fun _ => Below.refl _ _)
      refine wpFactsR_some [] (fun v w9 => ∃ A c, v = .slice A (k + 1 + (l.length - k)) c ∧ w9.ownsRow w.heap.size 44 5 (.slice A (k + 1 + (l.length - k)) c) (k + 1 + (l.length - k)) (((l.flatMap Lot.enc).take (k * 5) ++ [.int .i64 id, .int .i64 va, .int .i64 0, .int .i64 0, .int .i64 0]) ++ (l.flatMap Lot.enc).drop (k * 5))) ?_ (fun vs L9 w9 hG9 hC9 hB K9 hK9 => ?_) ?_
      next =>
        intro i9 hi9 hb9 ha9 v w1 w2 hv hT9
        have hb := hT9 (fun hm => by
          simp only [List.mem_cons, List.not_mem_nil, or_false] at hm hb9
          rcases hm with rfl | rfl
          · exact absurd (ha9.symm.trans (show ahead .any _ _ _ _ = true by kernel_rfl)) (by decide)
          · exact hi9 rfl)
        obtain ⟨A, c, e, ho⟩ := hv
        exact ⟨A, c, e, ownsRow_below ho hb⟩
      next =>
        simp only [Act.put, List.setIfInBounds_toArray, List.set_cons_zero, List.set_cons_succ] at hK9
        obtain ⟨A, c, e10, ho⟩ := hB 9 _ (by kernel_rfl) (by kernel_rfl) rfl (by decide)
        obtain ⟨A14, e14, hr⟩ := hB 12 _ (by kernel_rfl) (by kernel_rfl) rfl (by decide)
        simp only [e10, e14] at hK9 ⊢
        refine step_cat rfl (.tmp 32) (.tmp 35) 26 rfl 44 _ 5 40 Try.underlying26 infoLot rfl (by omega) (by omega) w.heap.size _ (k + 1) _ (by rfl) ho w.heap.size A14 (l.length - k) (_ - k) _ (by rfl) (hr w9 hC9) (fun u hu => lot_cells u (List.mem_of_mem_drop hu)) (by omega) hC9.size ?_
        intro A' c' w' ho' _ hb
        exact hK9 _ _ _ rfl ⟨A', c', rfl, ho'⟩ (hC9.trans hb) (fun hq => (hq (by decide)).elim)
      refine wpFactsR_pair [] 13 (fun u v _ => v = u ∧ ∃ A c, u = .slice A (k + 1 + (l.length - k)) c) (by kernel_rfl) ?_ (fun vs L9 w9 hG9 hC9 hB K9 hK9 => ?_) ?_
      next =>
        intro i9 hi9 hb9 ha9 u v w1 w2 hv hT9
        exact hv
      next =>
        obtain ⟨A, c, e0, ho⟩ := hB 13 _ (by kernel_rfl) (by kernel_rfl) rfl (by decide)
        simp only [e0] at hK9 ⊢
        go_simp
        exact hK9 _ _ _ rfl ⟨rfl, A, c, rfl⟩ hC9 (fun _ => Below.refl _ _)
      refine wpFactsR_nil fun vs L9 w9 hL9 hC9 hB => ?_
      have ⟨e14, A8, c8, e13⟩ : vs 14 = vs 13 ∧ ∃ A c, vs 13 = .slice A (k + 1 + (l.length - k)) c := hB 14 _ rfl rfl (by decide)
      obtain ⟨A9, c9, e13', ho⟩ : ∃ A c, vs 13 = .slice A (k + 1 + (l.length - k)) c ∧ w9.ownsRow w.heap.size 44 5 (.slice A (k + 1 + (l.length - k)) c) (k + 1 + (l.length - k)) (((l.flatMap Lot.enc).take (k * 5) ++ [Value.int .i64 id, Value.int .i64 va, Value.int .i64 0, Value.int .i64 0, Value.int .i64 0]) ++ (l.flatMap Lot.enc).drop (k * 5)) := hB 13 _ rfl rfl (by decide)
      rw [e13'] at e14
      simp only [e14]
      clear hB e13 e13' e14
      have hlen : (insL l id va).length = k + 1 + (l.length - k) := by rw [HIN.out]; simp; omega
      have hcs : (insL l id va).flatMap Lot.enc = ((l.flatMap Lot.enc).take (k * 5) ++ [Value.int .i64 id, Value.int .i64 va, Value.int .i64 0, Value.int .i64 0, Value.int .i64 0]) ++ (l.flatMap Lot.enc).drop (k * 5) := by
        rw [HIN.out, List.flatMap_append, List.flatMap_cons, flat_takeL, flat_dropL, List.append_assoc]; rfl
      have HO := Lib.hid ho
      clear ho
      go_wp2
      refine bodyPost_ret (v := .slice A9 (k + 1 + (l.length - k)) c9) (by simp [results, Try.results30, go_sem, *]) rfl ⟨A9, c9, by rw [hlen], ?_, hC9⟩
      unfold OwnL
      rw [hcs, hlen]
      exact HO.out
end Go.Proofs.Ytkokbmmffkpclaa

/- A step of an auction in the reference. (Printed by gen_lotmake.py) -/
namespace Go.Proofs.Ytkokbmmffkpclaa
open Go.RowKit

set_option maxRecDepth 100000 in
set_option maxHeartbeats 4000000 in
theorem make4 (A : Option Addr) (c : Nat) (l : List Lot) (i b v : Int) (w : World) (h : LotsR w w.heap.size A l) (G : GoodL l) (hc : l.length ≤ c) :
    Calls Try.prog 17 #[.slice A l.length c, .agg #[.int .i64 4, .int .i64 i, .int .i64 b, .int .i64 v]] w (GivesMk w (stepL l ⟨4, i, b, v⟩)) := by
  obtain ⟨R, hR⟩ : ∃ R, stepL l ⟨4, i, b, v⟩ = R := ⟨_, rfl⟩
  have SE := fun W hR => l29Sell_any A c l 4 i b v W hR G (by omega)
  rw [hR] at SE ⊢
  clear hR
  have b0 := (Below.refl w.heap.size w).alloc (Nat.le_refl _) (.cells #[.int .i64 4, .int .i64 i, .int .i64 b, .int .i64 v] 40)
  have b0s := b0.size
  have L0 := Lies.new w 40 #[.int .i64 4, .int .i64 i, .int .i64 b, .int .i64 v]
  have hW := SlcR.up h b0 (Nat.le_refl _)
  have len := G.len
  go_enter Try.func17, Try.ntmps17
  go_wp2_with fail
  generalize w.alloc (.cells #[.int .i64 4, .int .i64 i, .int .i64 b, .int .i64 v] 40) = W at b0 b0s L0 hW ⊢
  generalize hgb : w.heap.size = g at L0 ⊢
  rw [hgb] at b0 b0s
  refine (SE W hW).mono ?_
  rintro e w1 ⟨v1, rfl, hv1, hb1⟩
  obtain ⟨d, hd⟩ : ∃ d, R.isSome = d := ⟨_, rfl⟩
  rw [hd]
  have HV := Lib.hid hv1
  clear hv1
  go_wp2
  refine bodyPost_ret (v := .tuple #[v1, .bool d]) (by simp [results, Try.results17, go_sem, *]) rfl ⟨v1, by rw [hd], fun r hr => ?_, ?_⟩
  · obtain ⟨A1, c1, e1, h1⟩ := HV.out r hr
    exact ⟨A1, c1, e1, ownsRow_lower h1 (by rw [hgb]; exact b0s)⟩
  · rw [hgb]; exact b0.trans (hb1.mono b0s)
set_option maxRecDepth 100000 in
set_option maxHeartbeats 4000000 in
theorem make5 (A : Option Addr) (c : Nat) (l : List Lot) (i b v : Int) (w : World) (h : LotsR w w.heap.size A l) (G : GoodL l) (hc : l.length ≤ c) :
    Calls Try.prog 17 #[.slice A l.length c, .agg #[.int .i64 5, .int .i64 i, .int .i64 b, .int .i64 v]] w (GivesMk w (stepL l ⟨5, i, b, v⟩)) := by
  obtain ⟨R, hR⟩ : ∃ R, stepL l ⟨5, i, b, v⟩ = R := ⟨_, rfl⟩
  have SE := fun W hR => l29Sell_any A c l 5 i b v W hR G (by omega)
  rw [hR] at SE ⊢
  clear hR
  have b0 := (Below.refl w.heap.size w).alloc (Nat.le_refl _) (.cells #[.int .i64 5, .int .i64 i, .int .i64 b, .int .i64 v] 40)
  have b0s := b0.size
  have L0 := Lies.new w 40 #[.int .i64 5, .int .i64 i, .int .i64 b, .int .i64 v]
  have hW := SlcR.up h b0 (Nat.le_refl _)
  have len := G.len
  go_enter Try.func17, Try.ntmps17
  go_wp2_with fail
  generalize w.alloc (.cells #[.int .i64 5, .int .i64 i, .int .i64 b, .int .i64 v] 40) = W at b0 b0s L0 hW ⊢
  generalize hgb : w.heap.size = g at L0 ⊢
  rw [hgb] at b0 b0s
  refine (SE W hW).mono ?_
  rintro e w1 ⟨v1, rfl, hv1, hb1⟩
  obtain ⟨d, hd⟩ : ∃ d, R.isSome = d := ⟨_, rfl⟩
  rw [hd]
  have HV := Lib.hid hv1
  clear hv1
  go_wp2
  refine bodyPost_ret (v := .tuple #[v1, .bool d]) (by simp [results, Try.results17, go_sem, *]) rfl ⟨v1, by rw [hd], fun r hr => ?_, ?_⟩
  · obtain ⟨A1, c1, e1, h1⟩ := HV.out r hr
    exact ⟨A1, c1, e1, ownsRow_lower h1 (by rw [hgb]; exact b0s)⟩
  · rw [hgb]; exact b0.trans (hb1.mono b0s)
set_option maxRecDepth 100000 in
set_option maxHeartbeats 4000000 in
theorem make2_no (A : Option Addr) (c : Nat) (l : List Lot) (i b v : Int) (w : World) (h : LotsR w w.heap.size A l) (G : GoodL l) (hc : l.length ≤ c) (hf : findIx l i < 0) :
    Calls Try.prog 17 #[.slice A l.length c, .agg #[.int .i64 2, .int .i64 i, .int .i64 b, .int .i64 v]] w (GivesMk w none) := by
  obtain ⟨o, ho⟩ : ∃ o, findIx l i = o := ⟨_, rfl⟩
  rw [ho] at hf
  have HO := Lib.hid ho
  clear ho
  have b0 := (Below.refl w.heap.size w).alloc (Nat.le_refl _) (.cells #[.int .i64 2, .int .i64 i, .int .i64 b, .int .i64 v] 40)
  have b0s := b0.size
  have L0 := Lies.new w 40 #[.int .i64 2, .int .i64 i, .int .i64 b, .int .i64 v]
  have hW := SlcR.up h b0 (Nat.le_refl _)
  have len := G.len
  go_enter Try.func17, Try.ntmps17
  go_wp2_with fail
  generalize w.alloc (.cells #[.int .i64 2, .int .i64 i, .int .i64 b, .int .i64 v] 40) = W at b0 b0s L0 hW ⊢
  generalize hgb : w.heap.size = g at L0 ⊢
  rw [hgb] at b0 b0s
  refine (l29Find_any A c l i W hW).mono ?_
  rintro e w1 ⟨he, hb1⟩
  rw [HO.out] at he
  subst he
  have L1 := L0.below hb1 L0.lt
  have hW1 := SlcR.then hW hb1
  have s0 := L1.cell 0
  have s1 := L1.cell 1
  have s2 := L1.cell 2
  have s3 := L1.cell 3
  simp only [List.getElem?_cons_zero, List.getElem?_cons_succ] at s0 s1 s2 s3
  go_wp2
  refine bodyPost_ret (v := .tuple #[.slice (some ⟨w1.heap.size, 0, none⟩) 0 0, .bool false]) (by simp [results, Try.results17, go_sem, *]) rfl (GivesMk.fail ?_)
  rw [hgb]
  exact b0.trans ((bthen hb1 ((Below.refl _ _).alloc (Nat.le_refl _) (.cells #[] 44))).mono b0s)
set_option maxRecDepth 100000 in
set_option maxHeartbeats 4000000 in
theorem make3_no (A : Option Addr) (c : Nat) (l : List Lot) (i b v : Int) (w : World) (h : LotsR w w.heap.size A l) (G : GoodL l) (hc : l.length ≤ c) (hf : findIx l i < 0) :
    Calls Try.prog 17 #[.slice A l.length c, .agg #[.int .i64 3, .int .i64 i, .int .i64 b, .int .i64 v]] w (GivesMk w none) := by
  obtain ⟨o, ho⟩ : ∃ o, findIx l i = o := ⟨_, rfl⟩
  rw [ho] at hf
  have HO := Lib.hid ho
  clear ho
  have b0 := (Below.refl w.heap.size w).alloc (Nat.le_refl _) (.cells #[.int .i64 3, .int .i64 i, .int .i64 b, .int .i64 v] 40)
  have b0s := b0.size
  have L0 := Lies.new w 40 #[.int .i64 3, .int .i64 i, .int .i64 b, .int .i64 v]
  have hW := SlcR.up h b0 (Nat.le_refl _)
  have len := G.len
  go_enter Try.func17, Try.ntmps17
  go_wp2_with fail
  generalize w.alloc (.cells #[.int .i64 3, .int .i64 i, .int .i64 b, .int .i64 v] 40) = W at b0 b0s L0 hW ⊢
  generalize hgb : w.heap.size = g at L0 ⊢
  rw [hgb] at b0 b0s
  refine (l29Find_any A c l i W hW).mono ?_
  rintro e w1 ⟨he, hb1⟩
  rw [HO.out] at he
  subst he
  have L1 := L0.below hb1 L0.lt
  have hW1 := SlcR.then hW hb1
  have s0 := L1.cell 0
  have s1 := L1.cell 1
  have s2 := L1.cell 2
  have s3 := L1.cell 3
  simp only [List.getElem?_cons_zero, List.getElem?_cons_succ] at s0 s1 s2 s3
  go_wp2
  refine bodyPost_ret (v := .tuple #[.slice (some ⟨w1.heap.size, 0, none⟩) 0 0, .bool false]) (by simp [results, Try.results17, go_sem, *]) rfl (GivesMk.fail ?_)
  rw [hgb]
  exact b0.trans ((bthen hb1 ((Below.refl _ _).alloc (Nat.le_refl _) (.cells #[] 44))).mono b0s)
set_option maxRecDepth 100000 in
set_option maxHeartbeats 4000000 in
theorem make6_no (A : Option Addr) (c : Nat) (l : List Lot) (i b v : Int) (w : World) (h : LotsR w w.heap.size A l) (G : GoodL l) (hc : l.length ≤ c) (hf : findIx l i < 0) :
    Calls Try.prog 17 #[.slice A l.length c, .agg #[.int .i64 6, .int .i64 i, .int .i64 b, .int .i64 v]] w (GivesMk w none) := by
  obtain ⟨o, ho⟩ : ∃ o, findIx l i = o := ⟨_, rfl⟩
  rw [ho] at hf
  have HO := Lib.hid ho
  clear ho
  have b0 := (Below.refl w.heap.size w).alloc (Nat.le_refl _) (.cells #[.int .i64 6, .int .i64 i, .int .i64 b, .int .i64 v] 40)
  have b0s := b0.size
  have L0 := Lies.new w 40 #[.int .i64 6, .int .i64 i, .int .i64 b, .int .i64 v]
  have hW := SlcR.up h b0 (Nat.le_refl _)
  have len := G.len
  go_enter Try.func17, Try.ntmps17
  go_wp2_with fail
  generalize w.alloc (.cells #[.int .i64 6, .int .i64 i, .int .i64 b, .int .i64 v] 40) = W at b0 b0s L0 hW ⊢
  generalize hgb : w.heap.size = g at L0 ⊢
  rw [hgb] at b0 b0s
  refine (l29Find_any A c l i W hW).mono ?_
  rintro e w1 ⟨he, hb1⟩
  rw [HO.out] at he
  subst he
  have L1 := L0.below hb1 L0.lt
  have hW1 := SlcR.then hW hb1
  have s0 := L1.cell 0
  have s1 := L1.cell 1
  have s2 := L1.cell 2
  have s3 := L1.cell 3
  simp only [List.getElem?_cons_zero, List.getElem?_cons_succ] at s0 s1 s2 s3
  go_wp2
  refine bodyPost_ret (v := .tuple #[.slice (some ⟨w1.heap.size, 0, none⟩) 0 0, .bool false]) (by simp [results, Try.results17, go_sem, *]) rfl (GivesMk.fail ?_)
  rw [hgb]
  exact b0.trans ((bthen hb1 ((Below.refl _ _).alloc (Nat.le_refl _) (.cells #[] 44))).mono b0s)
set_option maxRecDepth 100000 in
set_option maxHeartbeats 4000000 in
theorem make1_no (A : Option Addr) (c : Nat) (l : List Lot) (i b v : Int) (w : World) (h : LotsR w w.heap.size A l) (G : GoodL l) (hc : l.length ≤ c) (hf : 0 ≤ findIx l i) :
    Calls Try.prog 17 #[.slice A l.length c, .agg #[.int .i64 1, .int .i64 i, .int .i64 b, .int .i64 v]] w (GivesMk w none) := by
  obtain ⟨o, ho⟩ : ∃ o, findIx l i = o := ⟨_, rfl⟩
  rw [ho] at hf
  have HO := Lib.hid ho
  clear ho
  have hdc : decide (o < 0) = false := decide_eq_false (by omega)
  have b0 := (Below.refl w.heap.size w).alloc (Nat.le_refl _) (.cells #[.int .i64 1, .int .i64 i, .int .i64 b, .int .i64 v] 40)
  have b0s := b0.size
  have L0 := Lies.new w 40 #[.int .i64 1, .int .i64 i, .int .i64 b, .int .i64 v]
  have hW := SlcR.up h b0 (Nat.le_refl _)
  have len := G.len
  go_enter Try.func17, Try.ntmps17
  go_wp2_with fail
  generalize w.alloc (.cells #[.int .i64 1, .int .i64 i, .int .i64 b, .int .i64 v] 40) = W at b0 b0s L0 hW ⊢
  generalize hgb : w.heap.size = g at L0 ⊢
  rw [hgb] at b0 b0s
  refine (l29Find_any A c l i W hW).mono ?_
  rintro e w1 ⟨he, hb1⟩
  rw [HO.out] at he
  subst he
  have L1 := L0.below hb1 L0.lt
  have hW1 := SlcR.then hW hb1
  have s0 := L1.cell 0
  have s1 := L1.cell 1
  have s2 := L1.cell 2
  have s3 := L1.cell 3
  simp only [List.getElem?_cons_zero, List.getElem?_cons_succ] at s0 s1 s2 s3
  go_wp2_with fail
  refine (l29Put_any A c l i v w1 hW1 (by omega) hc).mono ?_
  rintro e w2 ⟨A2, c2, rfl, h2, hb2⟩
  clear h2
  go_wp2
  refine bodyPost_ret (v := .tuple #[.slice A2 (insL l i v).length c2, .bool false]) (by simp [results, Try.results17, go_sem, *]) rfl (GivesMk.fail ?_)
  rw [hgb]
  exact b0.trans ((bthen hb1 hb2).mono b0s)
set_option maxRecDepth 100000 in
set_option maxHeartbeats 4000000 in
theorem make1_yes (A : Option Addr) (c : Nat) (l : List Lot) (i b v : Int) (w : World) (h : LotsR w w.heap.size A l) (G : GoodL l) (hc : l.length ≤ c) (hf : findIx l i < 0) :
    Calls Try.prog 17 #[.slice A l.length c, .agg #[.int .i64 1, .int .i64 i, .int .i64 b, .int .i64 v]] w (GivesMk w (if goodLots (insL l i v) then some (insL l i v) else none)) := by
  obtain ⟨d, hd⟩ : ∃ d, goodLots (insL l i v) = d := ⟨_, rfl⟩
  obtain ⟨R, hR⟩ : ∃ R, (if goodLots (insL l i v) then some (insL l i v) else none) = R := ⟨_, rfl⟩
  have HR : Hid (R = if d = true then some (insL l i v) else none) := by rw [Hid, ← hR, ← hd]
  rw [hR]
  clear hR
  obtain ⟨o, ho⟩ : ∃ o, findIx l i = o := ⟨_, rfl⟩
  rw [ho] at hf
  have HO := Lib.hid ho
  clear ho
  have hdc : decide (o < 0) = true := decide_eq_true (by omega)
  have b0 := (Below.refl w.heap.size w).alloc (Nat.le_refl _) (.cells #[.int .i64 1, .int .i64 i, .int .i64 b, .int .i64 v] 40)
  have b0s := b0.size
  have L0 := Lies.new w 40 #[.int .i64 1, .int .i64 i, .int .i64 b, .int .i64 v]
  have hW := SlcR.up h b0 (Nat.le_refl _)
  have len := G.len
  go_enter Try.func17, Try.ntmps17
  go_wp2_with fail
  generalize w.alloc (.cells #[.int .i64 1, .int .i64 i, .int .i64 b, .int .i64 v] 40) = W at b0 b0s L0 hW ⊢
  generalize hgb : w.heap.size = g at L0 ⊢
  rw [hgb] at b0 b0s
  refine (l29Find_any A c l i W hW).mono ?_
  rintro e w1 ⟨he, hb1⟩
  rw [HO.out] at he
  subst he
  have L1 := L0.below hb1 L0.lt
  have hW1 := SlcR.then hW hb1
  have s0 := L1.cell 0
  have s1 := L1.cell 1
  have s2 := L1.cell 2
  have s3 := L1.cell 3
  simp only [List.getElem?_cons_zero, List.getElem?_cons_succ] at s0 s1 s2 s3
  go_wp2_with fail
  refine (l29Put_any A c l i v w1 hW1 (by omega) hc).mono ?_
  rintro e w2 ⟨A2, c2, rfl, h2, hb2⟩
  have GD := l29Good_any A2 c2 (insL l i v) w2 h2.reads
  rw [hd] at GD
  clear hd
  go_wp2_with fail
  refine GD.mono ?_
  rintro e w3 ⟨rfl, hb3⟩
  have HF := Lib.hid (h2.below hb3)
  clear h2 GD
  cases d
  next =>
    obtain rfl : R = none := by simpa using HR.out
    go_wp2
    refine bodyPost_ret (v := .tuple #[.slice A2 (insL l i v).length c2, .bool false]) (by simp [results, Try.results17, go_sem, *]) rfl (GivesMk.fail ?_)
    rw [hgb]
    exact b0.trans ((bthen hb1 (bthen hb2 hb3)).mono b0s)
  next =>
    obtain rfl : R = some (insL l i v) := by simpa using HR.out
    go_wp2
    refine bodyPost_ret (v := .tuple #[.slice A2 (insL l i v).length c2, .bool true]) (by simp [results, Try.results17, go_sem, *]) rfl (GivesMk.yes rfl (ownsRow_lower HF.out (by rw [hgb]; exact Nat.le_trans b0s hb1.size)) ?_)
    rw [hgb]
    exact b0.trans ((bthen hb1 (bthen hb2 hb3)).mono b0s)
set_option maxRecDepth 100000 in
set_option maxHeartbeats 4000000 in
theorem make3_yes (A : Option Addr) (c : Nat) (l : List Lot) (i b v : Int) (w : World) (h : LotsR w w.heap.size A l) (G : GoodL l) (hc : l.length ≤ c) (j : Nat) (hj : j < l.length) (hf : findIx l i = j) :
    Calls Try.prog 17 #[.slice A l.length c, .agg #[.int .i64 3, .int .i64 i, .int .i64 b, .int .i64 v]] w (GivesMk w (if l[j].s = 0 ∧ openIx l < 0 then some (l.set j (openL l[j])) else none)) := by
  obtain ⟨oi, hoi⟩ : ∃ oi, openIx l = oi := ⟨_, rfl⟩
  rw [hoi]
  have HOI := Lib.hid hoi
  clear hoi
  obtain ⟨x, hxe⟩ : ∃ x, l[j] = x := ⟨_, rfl⟩
  rw [hxe]
  obtain ⟨d, hd⟩ : ∃ d, (x.s == 0) = d := ⟨_, rfl⟩
  obtain ⟨R, hR⟩ : ∃ R, (if x.s = 0 ∧ oi < 0 then some (l.set j (openL x)) else none) = R := ⟨_, rfl⟩
  have HR : Hid (R = if d = true ∧ oi < 0 then some (l.set j (openL x)) else none) := by
    rw [Hid, ← hR, ← hd]
    simp
  rw [hR]
  clear hR
  have hz0 : (0 : Int) ≤ (j : Int) := by omega
  have hzi : ¬ (j : Int) < 0 := by omega
  have HO := Lib.hid hf
  clear hf
  have b0 := (Below.refl w.heap.size w).alloc (Nat.le_refl _) (.cells #[.int .i64 3, .int .i64 i, .int .i64 b, .int .i64 v] 40)
  have b0s := b0.size
  have L0 := Lies.new w 40 #[.int .i64 3, .int .i64 i, .int .i64 b, .int .i64 v]
  have hW := SlcR.up h b0 (Nat.le_refl _)
  have len := G.len
  go_enter Try.func17, Try.ntmps17
  go_wp2_with fail
  generalize w.alloc (.cells #[.int .i64 3, .int .i64 i, .int .i64 b, .int .i64 v] 40) = W at b0 b0s L0 hW ⊢
  generalize hgb : w.heap.size = g at L0 ⊢
  rw [hgb] at b0 b0s
  refine (l29Find_any A c l i W hW).mono ?_
  rintro e w1 ⟨he, hb1⟩
  rw [HO.out] at he
  subst he
  have L1 := L0.below hb1 L0.lt
  have hW1 := SlcR.then hW hb1
  have s0 := L1.cell 0
  have s1 := L1.cell 1
  have s2 := L1.cell 2
  have s3 := L1.cell 3
  simp only [List.getElem?_cons_zero, List.getElem?_cons_succ] at s0 s1 s2 s3
  obtain ⟨bl, off, rfl, hbl, hcell⟩ := (LotsR.el hW1) (by omega)
  have hcx := hcell j hj
  rw [hxe] at hcx
  obtain ⟨c0, c1', c2, c3, c4⟩ := hcx
  have q0 := c0 ⟨w1, Below.refl _ _⟩
  have q1 := c1' ⟨w1, Below.refl _ _⟩
  have q2 := c2 ⟨w1, Below.refl _ _⟩
  have q3 := c3 ⟨w1, Below.refl _ _⟩
  have q4 := c4 ⟨w1, Below.refl _ _⟩
  clear hcell
  go_upto_region 11 with fail
  have P2 := Lies.new w1 44 #[.int .i64 x.i, .int .i64 x.r, .int .i64 x.s, .int .i64 x.h, .int .i64 x.b]
  have hal := (Below.refl w1.heap.size w1).alloc (Nat.le_refl _) (.cells #[.int .i64 x.i, .int .i64 x.r, .int .i64 x.s, .int .i64 x.h, .int .i64 x.b] 44)
  have L2 := L1.below hal L1.lt
  have b2 := bthen hb1 hal
  have hp := hb1.size
  generalize hw2 : w1.alloc (.cells #[.int .i64 x.i, .int .i64 x.r, .int .i64 x.s, .int .i64 x.h, .int .i64 x.b] 44) = w2 at P2 hal L2 b2 ⊢
  clear hw2 hal s0 s1 s2 s3 q0 q1 q2 q3 q4 c0 c1' c2 c3 c4 L1
  generalize w1.heap.size = p at P2 hp ⊢
  have s0 := L2.cell 0
  have s1 := L2.cell 1
  have s2 := L2.cell 2
  have s3 := L2.cell 3
  simp only [List.getElem?_cons_zero, List.getElem?_cons_succ] at s0 s1 s2 s3
  have p0 := P2.cell 0
  have p1 := P2.cell 1
  have p2 := P2.cell 2
  have p3 := P2.cell 3
  have p4 := P2.cell 4
  simp only [List.getElem?_cons_zero, List.getElem?_cons_succ] at p0 p1 p2 p3 p4
  have hW2 : LotsR w2 w2.heap.size _ l := SlcR.up hW b2 (Nat.le_refl _)
  have hw2 := b2.size
  cases d
  next =>
    obtain rfl : R = none := by simpa using HR.out
    have f0 := P2.frozen 0
    have f1 := P2.frozen 1
    have f2 := P2.frozen 2
    have f3 := P2.frozen 3
    have f4 := P2.frozen 4
    have P3 := P2.set 2 (.int .i64 1)
    simp only [List.set_cons_zero, List.set_cons_succ] at P3
    have b3 := b2.setCell (p := ⟨p, 2, none⟩) hp (.int .i64 1)
    go_upto_region 17 with fail
    generalize hw3 : w2.setCell ⟨p, 2, none⟩ (.int .i64 1) = w3 at P3 b3 ⊢
    have hW3 : LotsR w3 w3.heap.size _ l := SlcR.up hW b3 (Nat.le_refl _)
    clear hw3 P2 L2 b2 s0 s1 s2 s3 p0 p1 p2 p3 p4 f0 f1 f2 f3 f4
    have p0 := P3.cell 0
    have p1 := P3.cell 1
    have p2 := P3.cell 2
    have p3 := P3.cell 3
    have p4 := P3.cell 4
    simp only [List.getElem?_cons_zero, List.getElem?_cons_succ] at p0 p1 p2 p3 p4
    go_wp2_with fail
    refine (l29With_any (some ⟨bl, off, none⟩) c l j (openL x) w3 hW3 (by omega) hj).mono ?_
    rintro e w6 ⟨A6, c6, rfl, h6, hb6⟩
    have hz9 := b3.size
    have b6 := bthen' b3 hb6 b3.size
    have HO6 := Lib.hid h6
    clear h6 P3 hW3 b3 hb6 p0 p1 p2 p3 p4
    go_wp2
    refine bodyPost_ret (v := .tuple #[.slice A6 l.length c6, .bool false]) (by simp [results, Try.results17, go_sem, *]) rfl (GivesMk.fail ?_)
    rw [hgb]
    exact b0.trans ((b6).mono b0s)
  next =>
    go_upto_region 15 with fail
    go_wp2_with fail
    refine (l29Open_any (some ⟨bl, off, none⟩) c l w2 hW2).mono ?_
    rintro e w2' ⟨he, hb2'⟩
    rw [HOI.out] at he
    subst he
    have P2' := P2.below hb2' P2.lt
    have L2' := L2.below hb2' L2.lt
    have b2' := bthen b2 hb2'
    clear P2 L2 b2 s0 s1 s2 s3 p0 p1 p2 p3 p4 hw2 hW2 hb2'
    have s0 := L2'.cell 0
    have s1 := L2'.cell 1
    have s2 := L2'.cell 2
    have s3 := L2'.cell 3
    simp only [List.getElem?_cons_zero, List.getElem?_cons_succ] at s0 s1 s2 s3
    have p0 := P2'.cell 0
    have p1 := P2'.cell 1
    have p2 := P2'.cell 2
    have p3 := P2'.cell 3
    have p4 := P2'.cell 4
    simp only [List.getElem?_cons_zero, List.getElem?_cons_succ] at p0 p1 p2 p3 p4
    have f0 := P2'.frozen 0
    have f1 := P2'.frozen 1
    have f2 := P2'.frozen 2
    have f3 := P2'.frozen 3
    have f4 := P2'.frozen 4
    have P3 := P2'.set 2 (.int .i64 1)
    simp only [List.set_cons_zero, List.set_cons_succ] at P3
    have b3 := b2'.setCell (p := ⟨p, 2, none⟩) hp (.int .i64 1)
    go_upto_region 17 with fail
    generalize hw3 : w2'.setCell ⟨p, 2, none⟩ (.int .i64 1) = w3 at P3 b3 ⊢
    have hW3 : LotsR w3 w3.heap.size _ l := SlcR.up hW b3 (Nat.le_refl _)
    clear hw3 P2' L2' b2' s0 s1 s2 s3 p0 p1 p2 p3 p4 f0 f1 f2 f3 f4
    have p0 := P3.cell 0
    have p1 := P3.cell 1
    have p2 := P3.cell 2
    have p3 := P3.cell 3
    have p4 := P3.cell 4
    simp only [List.getElem?_cons_zero, List.getElem?_cons_succ] at p0 p1 p2 p3 p4
    go_wp2_with fail
    refine (l29With_any (some ⟨bl, off, none⟩) c l j (openL x) w3 hW3 (by omega) hj).mono ?_
    rintro e w6 ⟨A6, c6, rfl, h6, hb6⟩
    have hz9 := b3.size
    have b6 := bthen' b3 hb6 b3.size
    have HO6 := Lib.hid h6
    clear h6 P3 hW3 b3 hb6 p0 p1 p2 p3 p4
    by_cases hdo : oi < 0
    next =>
      obtain rfl : R = some (l.set j (openL x)) := by rw [HR.out, if_pos]; exact ⟨by trivial, hdo⟩
      have hdd : decide (oi < 0) = true := decide_eq_true hdo
      go_wp2
      refine bodyPost_ret (v := .tuple #[.slice A6 l.length c6, .bool true]) (by simp [results, Try.results17, go_sem, *]) rfl (GivesMk.yes List.length_set (ownsRow_lower HO6.out (by rw [hgb]; exact Nat.le_trans b0s hz9)) ?_)
      rw [hgb]
      exact b0.trans ((b6).mono b0s)
    next =>
      obtain rfl : R = none := by rw [HR.out, if_neg]; intro h; exact hdo h.2
      have hdd : decide (oi < 0) = false := decide_eq_false hdo
      go_wp2
      refine bodyPost_ret (v := .tuple #[.slice A6 l.length c6, .bool false]) (by simp [results, Try.results17, go_sem, *]) rfl (GivesMk.fail ?_)
      rw [hgb]
      exact b0.trans ((b6).mono b0s)
end Go.Proofs.Ytkokbmmffkpclaa
