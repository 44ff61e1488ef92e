/- By07: the texts LotStBid LotStKnock LotStAdd LotStDrop LotStOpen, joined into one file. -/
import Derived.Deep.DeepCutAuto
import Derived.Test.YtkokbmmffkpclaaDoorBy05

set_option linter.unusedVariables false

/- A step of an auction in the program: bid. (Printed by gen_lotstep.py) -/
namespace Go.Proofs.YtkokbmmffkpclaaDoor
open Go.RowKit

set_option maxRecDepth 100000 in
set_option maxHeartbeats 4000000 in
theorem stepA_bid (A : Option Addr) (c : Nat) (l : List Lot) (i b v : Int) (w : World) (h : LotsR w w.heap.size A l) (G : GoodL l) (j : Nat) (hj : j < l.length) (ho : openIx l = j) (hs : ASt.ok ⟨4, i, b, v⟩ = true) :
    Calls Tryd.prog 36 #[.slice A l.length c, .agg #[.int .i64 4, .int .i64 i, .int .i64 b, .int .i64 v]] w (GivesMk w (if leastV l[j] ≤ v ∧ b ≠ l[j].b then some (l.set j (bidL l[j] ⟨4, i, b, v⟩)) else none)) := by
  have hoi : decide (0 ≤ openIx l) = true := decide_eq_true (by omega)
  have hx1 : l[j].s = 1 := by
    obtain ⟨h1, h2, h3⟩ := idx_at (f := isOpen) (l := l) (by show ¬ openIx l < 0; omega)
    have e : (idxFrom isOpen 0 l).toNat = j := by have : openIx l = idxFrom isOpen 0 l := rfl; omega
    simp only [e] at h2
    exact eq_of_beq h2
  have GD := good_bid G hj (s := ⟨4, i, b, v⟩) hx1 rfl hs
  have OP := fun W hR => openLot_any A c l W hR
  rw [ho] at OP hoi
  have hz0 : (0 : Int) ≤ (j : Int) := by omega
  have hzi : ¬ (j : Int) < 0 := by omega
  obtain ⟨x, hxe⟩ : ∃ x, l[j] = x := ⟨_, rfl⟩
  rw [hxe] at GD hx1 ⊢
  have hxk := G.all x (by rw [← hxe]; exact List.getElem_mem hj)
  have hxh := inR_iff.1 (lot_ok_iff.1 hxk).1.2.2.1
  have LB := fun W => leastBid_any x W hxh.1 hxh.2
  obtain ⟨m, hm⟩ : ∃ m, leastV x = m := ⟨_, rfl⟩
  rw [hm] at LB ⊢
  clear hm hxh hxk hx1
  obtain ⟨d1, hd1⟩ : ∃ d, decide (m ≤ v) = d := ⟨_, rfl⟩
  obtain ⟨d2, hd2⟩ : ∃ d, (b != x.b) = d := ⟨_, rfl⟩
  obtain ⟨R, hR⟩ : ∃ R, (if m ≤ v ∧ b ≠ x.b then some (l.set j (bidL x ⟨4, i, b, v⟩)) else none) = R := ⟨_, rfl⟩
  have HR : Hid (R = if (d1 && d2) = true then some (l.set j (bidL x ⟨4, i, b, v⟩)) else none) := by
    rw [Hid, ← hR, ← hd1, ← hd2]
    simp
  rw [hR]
  clear hR
  replace OP := Lib.hid OP
  replace GD := Lib.hid GD
  have HLB := Lib.hid LB
  have b0 := (Below.refl w.heap.size w).alloc (Nat.le_refl _) (.cells #[.int .i64 4, .int .i64 i, .int .i64 b, .int .i64 v] 39)
  have b0s := b0.size
  have L0 := Lies.new w 39 #[.int .i64 4, .int .i64 i, .int .i64 b, .int .i64 v]
  have hW := SlcR.up h b0 (Nat.le_refl _)
  have len := G.len
  have BS := fun W hR => bsId_any A c l i W hR G
  go_enter Tryd.func36, Tryd.ntmps36
  go_wp2_with fail
  generalize w.alloc (.cells #[.int .i64 4, .int .i64 i, .int .i64 b, .int .i64 v] 39) = W at b0 b0s L0 hW ⊢
  generalize hgb : w.heap.size = g at L0 ⊢
  rw [hgb] at b0 b0s
  refine (cloneLot_any A c l W hW (by omega)).mono ?_
  rintro e w1 ⟨A1, c1, rfl, hO1, hb1⟩
  have L1 := L0.below hb1 L0.lt
  have s0 := L1.cell 0
  have s1 := L1.cell 1
  have s2 := L1.cell 2
  have s3 := L1.cell 3
  simp only [List.getElem?_cons_zero, List.getElem?_cons_succ] at s0 s1 s2 s3
  have HO1 := Lib.hid hO1; clear hO1
  go_wp2_with fail
  refine (BS w1 (SlcR.up hW hb1 (Nat.le_refl _))).mono ?_
  rintro e w2 ⟨rfl, hb2⟩
  have L2 := L1.below hb2 L1.lt
  clear s0 s1 s2 s3
  have s0 := L2.cell 0
  have s1 := L2.cell 1
  have s2 := L2.cell 2
  have s3 := L2.cell 3
  simp only [List.getElem?_cons_zero, List.getElem?_cons_succ] at s0 s1 s2 s3
  have hgW := L0.lt
  go_wp2_with fail
  refine (OP.out w2 (SlcR.up hW (bthen hb1 hb2) (Nat.le_refl _))).mono ?_
  rintro e w3 ⟨rfl, hb3⟩
  have L3 := L2.below hb3 L2.lt
  have hR3 := SlcR.up hW (bthen hb1 (bthen hb2 hb3)) (Nat.le_refl _)
  have HO3 : OwnL w3 W.heap.size A1 c1 l := ownsRow_below HO1.out (bthen hb2 hb3)
  have b3 : Below W.heap.size W w3 := bthen hb1 (bthen hb2 hb3)
  clear s0 s1 s2 s3 L0 L1 L2 HO1
  have s0 := L3.cell 0
  have s1 := L3.cell 1
  have s2 := L3.cell 2
  have s3 := L3.cell 3
  simp only [List.getElem?_cons_zero, List.getElem?_cons_succ] at s0 s1 s2 s3
  obtain ⟨gO, rfl, hgO, hgO', hcO⟩ := OwnL.block HO3 (by omega)
  have hR3' : LotsR w3 W.heap.size A l := SlcR.below hW b3
  obtain ⟨bl, off, rfl, hbl, hcell⟩ := hR3'.el (by omega)
  have hcx := hcell j hj
  rw [hxe] at hcx
  obtain ⟨c0, c1', c2, c3, c4⟩ := LotS.up hcx (Below.refl _ _) b3.size
  clear hcx hcell hR3 hR3' hW h BS
  clear LB
  cases d1
  all_goals
    go_upto_region 19 with fail
    refine wp_region_factsR (fun _ => (fun W9 => Below w3.heap.size w3 W9)) (fun _ w1 w2 => Below w1.heap.size w1 w2) (by kernel_rfl) (by kernel_rfl) (by kernel_rfl) (Below.refl _ _).drew ?_
    simp only [fillOps, Act.put, List.setIfInBounds_toArray, List.set_cons_zero, List.set_cons_succ, Nat.zero_add, Nat.reduceAdd]
    apply wpFactsR_val
    case h1 =>
      intro vs L9 w9 hG9 hC9 hB K9 hK9
      simp only [Act.put, List.setIfInBounds_toArray, List.set_cons_zero, List.set_cons_succ] at hK9
      go_simp
      exact hK9 _ _ rfl hC9 (Below.refl _ _)
    apply wpFactsR_val
    case h1 =>
      intro vs L9 w9 hG9 hC9 hB K9 hK9
      have d0 := FactN.eq (hB 0 _ (by kernel_rfl) (by kernel_rfl) rfl (by decide))
      simp only [d0] at hK9 ⊢
      have q0 : w9.cell? ⟨g, 3, none⟩ = some (.int .i64 v) := (L3.below hC9 L3.lt).cell 3
      simp only [Act.put, List.setIfInBounds_toArray, List.set_cons_zero, List.set_cons_succ] at hK9
      go_simp
      exact hK9 _ _ rfl hC9 (Below.refl _ _)
    apply wpFactsR_val
    case h1 =>
      intro vs L9 w9 hG9 hC9 hB K9 hK9
      simp only [Act.put, List.setIfInBounds_toArray, List.set_cons_zero, List.set_cons_succ] at hK9
      go_simp
      exact hK9 _ _ rfl hC9 (Below.refl _ _)
    apply wpFactsR_val
    case h1 =>
      intro vs L9 w9 hG9 hC9 hB K9 hK9
      simp only [Act.put, List.setIfInBounds_toArray, List.set_cons_zero, List.set_cons_succ] at hK9
      go_simp
      exact hK9 _ _ rfl hC9 (Below.refl _ _)
    apply wpFactsR_val
    case h1 =>
      intro vs L9 w9 hG9 hC9 hB K9 hK9
      have d2 := FactN.eq (hB 2 _ (by kernel_rfl) (by kernel_rfl) rfl (by decide))
      have d3 := FactN.eq (hB 3 _ (by kernel_rfl) (by kernel_rfl) rfl (by decide))
      simp only [d2, d3] at hK9 ⊢
      simp only [Act.put, List.setIfInBounds_toArray, List.set_cons_zero, List.set_cons_succ] at hK9
      go_simp
      exact hK9 _ _ rfl hC9 (Below.refl _ _)
    apply wpFactsR_val
    case h1 =>
      intro vs L9 w9 hG9 hC9 hB K9 hK9
      have d4 := FactN.eq (hB 4 _ (by kernel_rfl) (by kernel_rfl) rfl (by decide))
      simp only [d4] at hK9 ⊢
      have q0 : w9.cell? ⟨bl, off + j * 5, none⟩ = some (.int .i64 x.i) := c0 ⟨w9, hC9⟩
      have q1 : w9.cell? ⟨bl, off + j * 5 + 1, none⟩ = some (.int .i64 x.r) := c1' ⟨w9, hC9⟩
      have q2 : w9.cell? ⟨bl, off + j * 5 + 2, none⟩ = some (.int .i64 x.s) := c2 ⟨w9, hC9⟩
      have q3 : w9.cell? ⟨bl, off + j * 5 + 3, none⟩ = some (.int .i64 x.h) := c3 ⟨w9, hC9⟩
      have q4 : w9.cell? ⟨bl, off + j * 5 + 4, none⟩ = some (.int .i64 x.b) := c4 ⟨w9, hC9⟩
      simp only [Act.put, List.setIfInBounds_toArray, List.set_cons_zero, List.set_cons_succ] at hK9
      go_simp
      exact hK9 _ _ rfl hC9 (Below.refl _ _)
    refine wpFactsR_val (.int .i64 m) (fun vs L9 w9 hG9 hC9 hB K9 hK9 => ?_) ?_
    next =>
      have d5 := FactN.eq (hB 5 _ (by kernel_rfl) (by kernel_rfl) rfl (by decide))
      simp only [d5] at hK9 ⊢
      simp only [Act.put, List.setIfInBounds_toArray, List.set_cons_zero, List.set_cons_succ] at hK9
      go_simp
      refine (HLB.out w9).mono ?_
      rintro en w8 ⟨rfl, hb8⟩
      exact hK9 _ _ rfl (hC9.trans (hb8.mono hC9.size)) (hb8)
    apply wpFactsR_val
    case h1 =>
      intro vs L9 w9 hG9 hC9 hB K9 hK9
      have d1 := FactN.eq (hB 1 _ (by kernel_rfl) (by kernel_rfl) rfl (by decide))
      have d6 := FactN.eq (hB 6 _ (by kernel_rfl) (by kernel_rfl) rfl (by decide))
      simp only [d1, d6] at hK9 ⊢
      simp only [Act.put, List.setIfInBounds_toArray, List.set_cons_zero, List.set_cons_succ] at hK9
      go_simp
      exact hK9 _ _ rfl hC9 (Below.refl _ _)
    apply wpFactsR_val
    case h1 =>
      intro vs L9 w9 hG9 hC9 hB K9 hK9
      have d7 := FactN.eq (hB 7 _ (by kernel_rfl) (by kernel_rfl) rfl (by decide))
      simp only [d7] at hK9 ⊢
      simp only [Act.put, List.setIfInBounds_toArray, List.set_cons_zero, List.set_cons_succ] at hK9
      go_simp
      exact hK9 _ _ rfl hC9 (Below.refl _ _)
    apply wpFactsR_val
    case h1 =>
      intro vs L9 w9 hG9 hC9 hB K9 hK9
      have d8 := FactN.eq (hB 8 _ (by kernel_rfl) (by kernel_rfl) rfl (by decide))
      simp only [d8] at hK9 ⊢
      simp only [Act.put, List.setIfInBounds_toArray, List.set_cons_zero, List.set_cons_succ] at hK9
      go_simp
      exact hK9 _ _ rfl hC9 (Below.refl _ _)
    apply wpFactsR_val
    case h1 =>
      intro vs L9 w9 hG9 hC9 hB K9 hK9
      have d9 := FactN.eq (hB 9 _ (by kernel_rfl) (by kernel_rfl) rfl (by decide))
      have d8 := FactN.eq (hB 8 _ (by kernel_rfl) (by kernel_rfl) rfl (by decide))
      simp only [d9, d8] at hK9 ⊢
      have q0 : w9.cell? ⟨g, 2, none⟩ = some (.int .i64 b) := (L3.below hC9 L3.lt).cell 2
      simp only [Act.put, List.setIfInBounds_toArray, List.set_cons_zero, List.set_cons_succ] at hK9
      go_simp
      exact hK9 _ _ rfl hC9 (Below.refl _ _)
    apply wpFactsR_val
    case h1 =>
      intro vs L9 w9 hG9 hC9 hB K9 hK9
      have d8 := FactN.eq (hB 8 _ (by kernel_rfl) (by kernel_rfl) rfl (by decide))
      simp only [d8] at hK9 ⊢
      simp only [Act.put, List.setIfInBounds_toArray, List.set_cons_zero, List.set_cons_succ] at hK9
      go_simp
      exact hK9 _ _ rfl hC9 (Below.refl _ _)
    apply wpFactsR_val
    case h1 =>
      intro vs L9 w9 hG9 hC9 hB K9 hK9
      have d8 := FactN.eq (hB 8 _ (by kernel_rfl) (by kernel_rfl) rfl (by decide))
      simp only [d8] at hK9 ⊢
      simp only [Act.put, List.setIfInBounds_toArray, List.set_cons_zero, List.set_cons_succ] at hK9
      go_simp
      exact hK9 _ _ rfl hC9 (Below.refl _ _)
    apply wpFactsR_val
    case h1 =>
      intro vs L9 w9 hG9 hC9 hB K9 hK9
      have d11 := FactN.eq (hB 11 _ (by kernel_rfl) (by kernel_rfl) rfl (by decide))
      have d12 := FactN.eq (hB 12 _ (by kernel_rfl) (by kernel_rfl) rfl (by decide))
      have d8 := FactN.eq (hB 8 _ (by kernel_rfl) (by kernel_rfl) rfl (by decide))
      simp only [d11, d12, d8] at hK9 ⊢
      simp only [Act.put, List.setIfInBounds_toArray, List.set_cons_zero, List.set_cons_succ] at hK9
      go_simp
      exact hK9 _ _ rfl hC9 (Below.refl _ _)
    apply wpFactsR_val
    case h1 =>
      intro vs L9 w9 hG9 hC9 hB K9 hK9
      have d13 := FactN.eq (hB 13 _ (by kernel_rfl) (by kernel_rfl) rfl (by decide))
      have d8 := FactN.eq (hB 8 _ (by kernel_rfl) (by kernel_rfl) rfl (by decide))
      simp only [d13, d8] at hK9 ⊢
      simp only [Act.put, List.setIfInBounds_toArray, List.set_cons_zero, List.set_cons_succ] at hK9
      go_simp
      exact hK9 _ _ rfl hC9 (Below.refl _ _)
    apply wpFactsR_val
    case h1 =>
      intro vs L9 w9 hG9 hC9 hB K9 hK9
      have d14 := FactN.eq (hB 14 _ (by kernel_rfl) (by kernel_rfl) rfl (by decide))
      have d8 := FactN.eq (hB 8 _ (by kernel_rfl) (by kernel_rfl) rfl (by decide))
      simp only [d14, d8] at hK9 ⊢
      have q4 : w9.cell? ⟨bl, off + j * 5 + 4, none⟩ = some (.int .i64 x.b) := c4 ⟨w9, hC9⟩
      simp only [Act.put, List.setIfInBounds_toArray, List.set_cons_zero, List.set_cons_succ] at hK9
      go_simp
      exact hK9 _ _ rfl hC9 (Below.refl _ _)
    apply wpFactsR_val
    case h1 =>
      intro vs L9 w9 hG9 hC9 hB K9 hK9
      have d10 := FactN.eq (hB 10 _ (by kernel_rfl) (by kernel_rfl) rfl (by decide))
      have d15 := FactN.eq (hB 15 _ (by kernel_rfl) (by kernel_rfl) rfl (by decide))
      have d8 := FactN.eq (hB 8 _ (by kernel_rfl) (by kernel_rfl) rfl (by decide))
      simp only [d10, d15, d8] at hK9 ⊢
      simp only [Act.put, List.setIfInBounds_toArray, List.set_cons_zero, List.set_cons_succ] at hK9
      go_simp
      exact hK9 _ _ rfl hC9 (Below.refl _ _)
    apply wpFactsR_val
    case h1 =>
      intro vs L9 w9 hG9 hC9 hB K9 hK9
      have d8 := FactN.eq (hB 8 _ (by kernel_rfl) (by kernel_rfl) rfl (by decide))
      have d16 := FactN.eq (hB 16 _ (by kernel_rfl) (by kernel_rfl) rfl (by decide))
      simp only [d8, d16] at hK9 ⊢
      simp only [Act.put, List.setIfInBounds_toArray, List.set_cons_zero, List.set_cons_succ] at hK9
      go_simp
      exact hK9 _ _ rfl hC9 (Below.refl _ _)
    apply wpFactsR_val
    case h1 =>
      intro vs L9 w9 hG9 hC9 hB K9 hK9
      have d17 := FactN.eq (hB 17 _ (by kernel_rfl) (by kernel_rfl) rfl (by decide))
      simp only [d17] at hK9 ⊢
      simp only [Act.put, List.setIfInBounds_toArray, List.set_cons_zero, List.set_cons_succ] at hK9
      go_simp
      exact hK9 _ _ rfl hC9 (Below.refl _ _)
    refine wpFactsR_nil fun vs L9 w9 hL9 hC9 hB => ?_
    have d18 := FactN.eq (hB 18 _ rfl rfl (by decide))
    simp only [d18]
    clear hB d18
    have L4 := L3.below hC9 L3.lt
    have HO4 := ownsRow_below HO3 hC9
    have b4 := bthen b3 hC9
    have hw4 := b4.size
    clear s0 s1 s2 s3 L3 HO3 b3 hb1 hb2 hb3 c0 c1' c2 c3 c4 hC9
    obtain ⟨w4, h49⟩ : ∃ x, x = w9 := ⟨_, rfl⟩
    subst h49
    go_upto_region 20 with fail
    refine wp_region_factsR (Sw 10 (fun W9 => Below w4.heap.size w4 W9) (fun W9 => Below W.heap.size w4 W9)) (fun i w1 w2 => i ∉ [10, 13] → Below w1.heap.size w1 w2) (by kernel_rfl) (by kernel_rfl) (by kernel_rfl) (Sw.start (Below.refl _ _).drew) ?_
    simp only [fillOps, Act.put, List.setIfInBounds_toArray, List.set_cons_zero, List.set_cons_succ, Nat.zero_add, Nat.reduceAdd]
    apply wpFactsR_val
    case h1 =>
      intro vs L9 w9 hG9 hC9 hB K9 hK9
      replace hC9 := hC9.before hG9 (by kernel_rfl)
      simp only [Act.put, List.setIfInBounds_toArray, List.set_cons_zero, List.set_cons_succ] at hK9
      go_simp
      exact hK9 _ _ rfl (Sw.stay hG9 (by kernel_rfl) (by decide) hC9) (fun _ => Below.refl _ _)
    apply wpFactsR_val
    case h1 =>
      intro vs L9 w9 hG9 hC9 hB K9 hK9
      replace hC9 := hC9.before hG9 (by kernel_rfl)
      simp only [Act.put, List.setIfInBounds_toArray, List.set_cons_zero, List.set_cons_succ] at hK9
      go_simp
      exact hK9 _ _ rfl (Sw.stay hG9 (by kernel_rfl) (by decide) hC9) (fun _ => Below.refl _ _)
    apply wpFactsR_val
    case h1 =>
      intro vs L9 w9 hG9 hC9 hB K9 hK9
      simp only [Act.put, List.setIfInBounds_toArray, List.set_cons_zero, List.set_cons_succ] at hK9
      have HC9 := Lib.hid hC9
      clear hC9
      go_simp
      exact hK9 _ _ rfl (Sw.both (by decide) (fun h => h) (fun h => h) HC9.out) (fun _ => Below.refl _ _)
    apply wpFactsR_val
    case h1 =>
      intro vs L9 w9 hG9 hC9 hB K9 hK9
      simp only [Act.put, List.setIfInBounds_toArray, List.set_cons_zero, List.set_cons_succ] at hK9
      have HC9 := Lib.hid hC9
      clear hC9
      go_simp
      exact hK9 _ _ rfl (Sw.both (by decide) (fun h => h) (fun h => h) HC9.out) (fun _ => Below.refl _ _)
    apply wpFactsR_val
    case h1 =>
      intro vs L9 w9 hG9 hC9 hB K9 hK9
      replace hC9 := hC9.before hG9 (by kernel_rfl)
      simp only [Act.put, List.setIfInBounds_toArray, List.set_cons_zero, List.set_cons_succ] at hK9
      go_simp
      exact hK9 _ _ rfl (Sw.stay hG9 (by kernel_rfl) (by decide) hC9) (fun _ => Below.refl _ _)
    apply wpFactsR_val
    case h1 =>
      intro vs L9 w9 hG9 hC9 hB K9 hK9
      replace hC9 := hC9.before hG9 (by kernel_rfl)
      have d4 := FactN.eq (hB 4 _ (by kernel_rfl) (by kernel_rfl) rfl (by decide))
      simp only [d4] at hK9 ⊢
      have q0 : w9.cell? ⟨g, 3, none⟩ = some (.int .i64 v) := (L4.below hC9 L4.lt).cell 3
      simp only [Act.put, List.setIfInBounds_toArray, List.set_cons_zero, List.set_cons_succ] at hK9
      go_simp
      exact hK9 _ _ rfl (Sw.stay hG9 (by kernel_rfl) (by decide) hC9) (fun _ => Below.refl _ _)
    apply wpFactsR_val
    case h1 =>
      intro vs L9 w9 hG9 hC9 hB K9 hK9
      simp only [Act.put, List.setIfInBounds_toArray, List.set_cons_zero, List.set_cons_succ] at hK9
      have HC9 := Lib.hid hC9
      clear hC9
      go_simp
      exact hK9 _ _ rfl (Sw.both (by decide) (fun h => h) (fun h => h) HC9.out) (fun _ => Below.refl _ _)
    apply wpFactsR_val
    case h1 =>
      intro vs L9 w9 hG9 hC9 hB K9 hK9
      have d6 := FactN.eq (hB 6 _ (by kernel_rfl) (by kernel_rfl) rfl (by decide))
      simp only [d6] at hK9 ⊢
      have q0 : w9.cell? ⟨g, 2, none⟩ = some (.int .i64 b) := (L4.below (Sw.either hC9 (fun h => h.mono hw4) (fun h => h)) hgW).cell 2
      simp only [Act.put, List.setIfInBounds_toArray, List.set_cons_zero, List.set_cons_succ] at hK9
      have HC9 := Lib.hid hC9
      clear hC9
      go_simp
      exact hK9 _ _ rfl (Sw.both (by decide) (fun h => h) (fun h => h) HC9.out) (fun _ => Below.refl _ _)
    apply wpFactsR_val
    case h1 =>
      intro vs L9 w9 hG9 hC9 hB K9 hK9
      replace hC9 := hC9.before hG9 (by kernel_rfl)
      have d0 := FactN.eq (hB 0 _ (by kernel_rfl) (by kernel_rfl) rfl (by decide))
      have d1 := FactN.eq (hB 1 _ (by kernel_rfl) (by kernel_rfl) rfl (by decide))
      simp only [d0, d1] at hK9 ⊢
      simp only [Act.put, List.setIfInBounds_toArray, List.set_cons_zero, List.set_cons_succ] at hK9
      go_simp
      exact hK9 _ _ rfl (Sw.stay hG9 (by kernel_rfl) (by decide) hC9) (fun _ => Below.refl _ _)
    apply wpFactsR_val
    case h1 =>
      intro vs L9 w9 hG9 hC9 hB K9 hK9
      replace hC9 := hC9.before hG9 (by kernel_rfl)
      have d8 := FactN.eq (hB 8 _ (by kernel_rfl) (by kernel_rfl) rfl (by decide))
      simp only [d8] at hK9 ⊢
      simp only [Act.put, List.setIfInBounds_toArray, List.set_cons_zero, List.set_cons_succ] at hK9
      go_simp
      exact hK9 _ _ rfl (Sw.stay hG9 (by kernel_rfl) (by decide) hC9) (fun _ => Below.refl _ _)
    refine wpFactsR_some [13] (fun _ w9 => OwnL w9 W.heap.size (some ⟨gO, 0, none⟩) c1 (l.set j ⟨x.i, x.r, x.s, v, x.b⟩)) ?_ (fun vs L9 w9 hG9 hC9 hB K9 hK9 => ?_) ?_
    next =>
      intro i9 hi9 hb9 ha9 v w1 w2 hv hT9
      have hb := hT9 (fun hm => by
        simp only [List.mem_cons, List.not_mem_nil, or_false] at hm hb9
        rcases hm with rfl | rfl
        · exact hi9 rfl
        · exact hb9 (by simp))
      exact ownsRow_below hv hb
    next =>
      replace hC9 := hC9.here hG9
      have d5 := FactN.eq (hB 5 _ (by kernel_rfl) (by kernel_rfl) rfl (by decide))
      have d9 := FactN.eq (hB 9 _ (by kernel_rfl) (by kernel_rfl) rfl (by decide))
      simp only [d5, d9] at hK9 ⊢
      simp only [Act.put, List.setIfInBounds_toArray, List.set_cons_zero, List.set_cons_succ] at hK9
      obtain ⟨K1, K2, K3, K4⟩ := OwnL.set (ownsRow_below HO4 hC9) hj 3 (by decide) (.int .i64 v) ⟨x.i, x.r, x.s, v, x.b⟩ (by rw [hxe]; rfl)
      rw [hxe] at K4
      simp only [Lot.enc, List.getElem?_cons_zero, List.getElem?_cons_succ] at K4
      go_simp
      exact hK9 _ undef _ rfl K1 (Sw.turn ((hC9.mono hw4).trans K2)) (fun hq => (hq (by decide)).elim)
    apply wpFactsR_val
    case h1 =>
      intro vs L9 w9 hG9 hC9 hB K9 hK9
      replace hC9 := hC9.after hG9 (by kernel_rfl)
      have d2 := FactN.eq (hB 2 _ (by kernel_rfl) (by kernel_rfl) rfl (by decide))
      have d3 := FactN.eq (hB 3 _ (by kernel_rfl) (by kernel_rfl) rfl (by decide))
      simp only [d2, d3] at hK9 ⊢
      simp only [Act.put, List.setIfInBounds_toArray, List.set_cons_zero, List.set_cons_succ] at hK9
      go_simp
      exact hK9 _ _ rfl (Sw.on hG9 (by kernel_rfl) hC9) (fun _ => Below.refl _ _)
    apply wpFactsR_val
    case h1 =>
      intro vs L9 w9 hG9 hC9 hB K9 hK9
      replace hC9 := hC9.after hG9 (by kernel_rfl)
      have d11 := FactN.eq (hB 11 _ (by kernel_rfl) (by kernel_rfl) rfl (by decide))
      simp only [d11] at hK9 ⊢
      simp only [Act.put, List.setIfInBounds_toArray, List.set_cons_zero, List.set_cons_succ] at hK9
      go_simp
      exact hK9 _ _ rfl (Sw.on hG9 (by kernel_rfl) hC9) (fun _ => Below.refl _ _)
    refine wpFactsR_some [] (fun _ w9 => OwnL w9 W.heap.size (some ⟨gO, 0, none⟩) c1 (l.set j (bidL x ⟨4, i, b, v⟩))) ?_ (fun vs L9 w9 hG9 hC9 hB K9 hK9 => ?_) ?_
    next =>
      intro i9 hi9 hb9 ha9 v w1 w2 hv hT9
      have hb := hT9 (fun hm => by
        simp only [List.mem_cons, List.not_mem_nil, or_false] at hm hb9
        rcases hm with rfl | rfl
        · exact absurd (ha9.symm.trans (show ahead .any _ _ _ _ = true by kernel_rfl)) (by decide)
        · exact hi9 rfl)
      exact ownsRow_below hv hb
    next =>
      replace hC9 := hC9.after hG9 (by kernel_rfl)
      have d7 := FactN.eq (hB 7 _ (by kernel_rfl) (by kernel_rfl) rfl (by decide))
      have d12 := FactN.eq (hB 12 _ (by kernel_rfl) (by kernel_rfl) rfl (by decide))
      simp only [d7, d12] at hK9 ⊢
      simp only [Act.put, List.setIfInBounds_toArray, List.set_cons_zero, List.set_cons_succ] at hK9
      have hv := hB 10 _ (by kernel_rfl) (by kernel_rfl) rfl (by decide)
      obtain ⟨K1, K2, K3, K4⟩ := OwnL.set hv (by rw [List.length_set]; exact hj) 4 (by decide) (.int .i64 b) (bidL x ⟨4, i, b, v⟩) (by rw [List.getElem_set_self]; rfl)
      rw [List.getElem_set_self] at K4
      simp only [Lot.enc, List.getElem?_cons_zero, List.getElem?_cons_succ] at K4
      rw [List.set_set] at K1
      go_simp
      exact hK9 _ undef _ rfl K1 (Sw.on hG9 (by kernel_rfl) (hC9.trans K2)) (fun hq => (hq (by decide)).elim)
    refine wpFactsR_nil fun vs L9 w9 hL9 hC9 hB => ?_
    replace hC9 := hC9.done hL9 (by decide)
    have HF : OwnL w9 W.heap.size (some ⟨gO, 0, none⟩) c1 (l.set j (bidL x ⟨4, i, b, v⟩)) := hB 13 _ rfl rfl (by decide)
    have GD := GD.out
    clear hB OP HLB HO4
    go_upto_region 28 with fail
  next =>
    obtain rfl : R = none := by simpa using HR.out
    go_wp2
    refine bodyPost_ret (v := .tuple #[.slice none 0 0, .bool false]) (by simp [results, Tryd.results36, go_sem, *]) rfl (GivesMk.fail ?_)
    rw [hgb]
    exact b0.trans ((b4.trans hC9).mono b0s)
  next =>
    cases d2
    next =>
      obtain rfl : R = none := by simpa using HR.out
      go_wp2
      refine bodyPost_ret (v := .tuple #[.slice none 0 0, .bool false]) (by simp [results, Tryd.results36, go_sem, *]) rfl (GivesMk.fail ?_)
      rw [hgb]
      exact b0.trans ((b4.trans hC9).mono b0s)
    next =>
      obtain rfl : R = some (l.set j (bidL x ⟨4, i, b, v⟩)) := by simpa using HR.out
      have IA := isAuction_any (some ⟨gO, 0, none⟩) c1 (l.set j (bidL x ⟨4, i, b, v⟩)) w9 (OwnL.reads HF)
      rw [List.length_set, GD] at IA
      go_wp2_with fail
      refine IA.mono ?_
      rintro e w10 ⟨rfl, hb10⟩
      have HF10 := HF.below hb10
      clear IA HF
      go_wp2
      refine bodyPost_ret (v := .tuple #[.slice (some ⟨gO, 0, none⟩) l.length c1, .bool true]) (by simp [results, Tryd.results36, go_sem, *]) rfl (GivesMk.yes (by rw [List.length_set]) (ownsRow_lower HF10 (by rw [hgb]; exact b0s)) ?_)
      rw [hgb]
      exact b0.trans ((b4.trans (bthen' hC9 hb10 (b4.trans hC9).size)).mono b0s)
end Go.Proofs.YtkokbmmffkpclaaDoor

/- A step of an auction in the program: knock. (Printed by gen_lotstep.py) -/
namespace Go.Proofs.YtkokbmmffkpclaaDoor
open Go.RowKit

set_option maxRecDepth 100000 in
set_option maxHeartbeats 4000000 in
theorem stepA_knock (A : Option Addr) (c : Nat) (l : List Lot) (i b v : Int) (w : World) (h : LotsR w w.heap.size A l) (G : GoodL l) (j : Nat) (hj : j < l.length) (ho : openIx l = j) :
    Calls Tryd.prog 36 #[.slice A l.length c, .agg #[.int .i64 5, .int .i64 i, .int .i64 b, .int .i64 v]] w (GivesMk w (some (l.set j (knockL l[j])))) := by
  have hoi : decide (0 ≤ openIx l) = true := decide_eq_true (by omega)
  have hx1 : l[j].s = 1 := by
    obtain ⟨h1, h2, h3⟩ := idx_at (f := isOpen) (l := l) (by show ¬ openIx l < 0; omega)
    have e : (idxFrom isOpen 0 l).toNat = j := by have : openIx l = idxFrom isOpen 0 l := rfl; omega
    simp only [e] at h2
    exact eq_of_beq h2
  have GD := good_knock G hj hx1
  clear hx1
  have OP := fun W hR => openLot_any A c l W hR
  rw [ho] at OP hoi
  have hz0 : (0 : Int) ≤ (j : Int) := by omega
  have hzi : ¬ (j : Int) < 0 := by omega
  obtain ⟨x, hxe⟩ : ∃ x, l[j] = x := ⟨_, rfl⟩
  rw [hxe] at GD ⊢
  obtain ⟨d, hd⟩ : ∃ d, decide (1 ≤ x.h ∧ x.r ≤ x.h) = d := ⟨_, rfl⟩
  have hkn : knockL x = ⟨x.i, x.r, if d then 2 else 3, x.h, x.b⟩ := by unfold knockL; rw [← hd]; simp
  replace OP := Lib.hid OP
  replace GD := Lib.hid GD
  have HK := Lib.hid hkn
  clear hkn
  have b0 := (Below.refl w.heap.size w).alloc (Nat.le_refl _) (.cells #[.int .i64 5, .int .i64 i, .int .i64 b, .int .i64 v] 39)
  have b0s := b0.size
  have L0 := Lies.new w 39 #[.int .i64 5, .int .i64 i, .int .i64 b, .int .i64 v]
  have hW := SlcR.up h b0 (Nat.le_refl _)
  have len := G.len
  have BS := fun W hR => bsId_any A c l i W hR G
  go_enter Tryd.func36, Tryd.ntmps36
  go_wp2_with fail
  generalize w.alloc (.cells #[.int .i64 5, .int .i64 i, .int .i64 b, .int .i64 v] 39) = W at b0 b0s L0 hW ⊢
  generalize hgb : w.heap.size = g at L0 ⊢
  rw [hgb] at b0 b0s
  refine (cloneLot_any A c l W hW (by omega)).mono ?_
  rintro e w1 ⟨A1, c1, rfl, hO1, hb1⟩
  have L1 := L0.below hb1 L0.lt
  have s0 := L1.cell 0
  have s1 := L1.cell 1
  have s2 := L1.cell 2
  have s3 := L1.cell 3
  simp only [List.getElem?_cons_zero, List.getElem?_cons_succ] at s0 s1 s2 s3
  have HO1 := Lib.hid hO1; clear hO1
  go_wp2_with fail
  refine (BS w1 (SlcR.up hW hb1 (Nat.le_refl _))).mono ?_
  rintro e w2 ⟨rfl, hb2⟩
  have L2 := L1.below hb2 L1.lt
  clear s0 s1 s2 s3
  have s0 := L2.cell 0
  have s1 := L2.cell 1
  have s2 := L2.cell 2
  have s3 := L2.cell 3
  simp only [List.getElem?_cons_zero, List.getElem?_cons_succ] at s0 s1 s2 s3
  have hgW := L0.lt
  go_wp2_with fail
  refine (OP.out w2 (SlcR.up hW (bthen hb1 hb2) (Nat.le_refl _))).mono ?_
  rintro e w3 ⟨rfl, hb3⟩
  have L3 := L2.below hb3 L2.lt
  have hR3 := SlcR.up hW (bthen hb1 (bthen hb2 hb3)) (Nat.le_refl _)
  have HO3 : OwnL w3 W.heap.size A1 c1 l := ownsRow_below HO1.out (bthen hb2 hb3)
  have b3 : Below W.heap.size W w3 := bthen hb1 (bthen hb2 hb3)
  clear s0 s1 s2 s3 L0 L1 L2 HO1
  have s0 := L3.cell 0
  have s1 := L3.cell 1
  have s2 := L3.cell 2
  have s3 := L3.cell 3
  simp only [List.getElem?_cons_zero, List.getElem?_cons_succ] at s0 s1 s2 s3
  obtain ⟨gO, rfl, hgO, hgO', hcO⟩ := OwnL.block HO3 (by omega)
  have hR3' : LotsR w3 W.heap.size A l := SlcR.below hW b3
  obtain ⟨bl, off, rfl, hbl, hcell⟩ := hR3'.el (by omega)
  have hcx := hcell j hj
  rw [hxe] at hcx
  obtain ⟨c0, c1', c2, c3, c4⟩ := LotS.up hcx (Below.refl _ _) b3.size
  clear hcx hcell hR3 hR3' hW h BS
  obtain ⟨K1, K2, K3, K4⟩ := OwnL.set HO3 hj 2 (by decide) (.int .i64 3) (⟨x.i, x.r, 3, x.h, x.b⟩) (by rw [hxe]; rfl)
  rw [hxe] at K4
  simp only [Lot.enc, List.getElem?_cons_zero, List.getElem?_cons_succ] at K4
  go_upto_region 23 with fail
  have b4 := b3.trans K2
  have HO4 := K1
  have v3 := (c3 ⟨w3, Below.refl _ _⟩)
  have v1 := (c1' ⟨w3, Below.refl _ _⟩)
  replace v3 := (World.cell?_of_block (K2.block bl hbl)).trans v3
  replace v1 := (World.cell?_of_block (K2.block bl hbl)).trans v1
  have hw4 := b4.size
  have K5 := K2.size
  clear HO3 L3 c0 c1' c2 c3 c4 s0 s1 s2 s3 b3 K1 K2 K3 K4 hb1 hb2 hb3
  generalize w3.setCell ⟨gO, j * 5 + 2, none⟩ (.int .i64 3) = w4 at b4 HO4 v3 v1 hw4 K5 ⊢
  have hbl4 : bl < w4.heap.size := by omega
  refine wp_region_factsR (fun _ => (fun W9 => Below w4.heap.size w4 W9)) (fun _ w1 w2 => Below w1.heap.size w1 w2) (by kernel_rfl) (by kernel_rfl) (by kernel_rfl) (Below.refl _ _).drew ?_
  simp only [fillOps, Act.put, List.setIfInBounds_toArray, List.set_cons_zero, List.set_cons_succ, Nat.zero_add, Nat.reduceAdd]
  apply wpFactsR_val
  case h1 =>
    intro vs L9 w9 hG9 hC9 hB K9 hK9
    simp only [Act.put, List.setIfInBounds_toArray, List.set_cons_zero, List.set_cons_succ] at hK9
    go_simp
    exact hK9 _ _ rfl hC9 (Below.refl _ _)
  apply wpFactsR_val
  case h1 =>
    intro vs L9 w9 hG9 hC9 hB K9 hK9
    simp only [Act.put, List.setIfInBounds_toArray, List.set_cons_zero, List.set_cons_succ] at hK9
    go_simp
    exact hK9 _ _ rfl hC9 (Below.refl _ _)
  apply wpFactsR_val
  case h1 =>
    intro vs L9 w9 hG9 hC9 hB K9 hK9
    have d0 := FactN.eq (hB 0 _ (by kernel_rfl) (by kernel_rfl) rfl (by decide))
    have d1 := FactN.eq (hB 1 _ (by kernel_rfl) (by kernel_rfl) rfl (by decide))
    simp only [d0, d1] at hK9 ⊢
    simp only [Act.put, List.setIfInBounds_toArray, List.set_cons_zero, List.set_cons_succ] at hK9
    go_simp
    exact hK9 _ _ rfl hC9 (Below.refl _ _)
  apply wpFactsR_val
  case h1 =>
    intro vs L9 w9 hG9 hC9 hB K9 hK9
    have d2 := FactN.eq (hB 2 _ (by kernel_rfl) (by kernel_rfl) rfl (by decide))
    simp only [d2] at hK9 ⊢
    simp only [Act.put, List.setIfInBounds_toArray, List.set_cons_zero, List.set_cons_succ] at hK9
    go_simp
    exact hK9 _ _ rfl hC9 (Below.refl _ _)
  apply wpFactsR_val
  case h1 =>
    intro vs L9 w9 hG9 hC9 hB K9 hK9
    have d3 := FactN.eq (hB 3 _ (by kernel_rfl) (by kernel_rfl) rfl (by decide))
    simp only [d3] at hK9 ⊢
    have q0 : w9.cell? ⟨bl, off + j * 5 + 3, none⟩ = some (.int .i64 x.h) := (hC9.cell hbl4).trans v3
    simp only [Act.put, List.setIfInBounds_toArray, List.set_cons_zero, List.set_cons_succ] at hK9
    go_simp
    exact hK9 _ _ rfl hC9 (Below.refl _ _)
  apply wpFactsR_val
  case h1 =>
    intro vs L9 w9 hG9 hC9 hB K9 hK9
    simp only [Act.put, List.setIfInBounds_toArray, List.set_cons_zero, List.set_cons_succ] at hK9
    go_simp
    exact hK9 _ _ rfl hC9 (Below.refl _ _)
  apply wpFactsR_val
  case h1 =>
    intro vs L9 w9 hG9 hC9 hB K9 hK9
    simp only [Act.put, List.setIfInBounds_toArray, List.set_cons_zero, List.set_cons_succ] at hK9
    go_simp
    exact hK9 _ _ rfl hC9 (Below.refl _ _)
  apply wpFactsR_val
  case h1 =>
    intro vs L9 w9 hG9 hC9 hB K9 hK9
    have d5 := FactN.eq (hB 5 _ (by kernel_rfl) (by kernel_rfl) rfl (by decide))
    have d6 := FactN.eq (hB 6 _ (by kernel_rfl) (by kernel_rfl) rfl (by decide))
    simp only [d5, d6] at hK9 ⊢
    simp only [Act.put, List.setIfInBounds_toArray, List.set_cons_zero, List.set_cons_succ] at hK9
    go_simp
    exact hK9 _ _ rfl hC9 (Below.refl _ _)
  apply wpFactsR_val
  case h1 =>
    intro vs L9 w9 hG9 hC9 hB K9 hK9
    have d7 := FactN.eq (hB 7 _ (by kernel_rfl) (by kernel_rfl) rfl (by decide))
    simp only [d7] at hK9 ⊢
    simp only [Act.put, List.setIfInBounds_toArray, List.set_cons_zero, List.set_cons_succ] at hK9
    go_simp
    exact hK9 _ _ rfl hC9 (Below.refl _ _)
  apply wpFactsR_val
  case h1 =>
    intro vs L9 w9 hG9 hC9 hB K9 hK9
    have d8 := FactN.eq (hB 8 _ (by kernel_rfl) (by kernel_rfl) rfl (by decide))
    simp only [d8] at hK9 ⊢
    have q0 : w9.cell? ⟨bl, off + j * 5 + 1, none⟩ = some (.int .i64 x.r) := (hC9.cell hbl4).trans v1
    simp only [Act.put, List.setIfInBounds_toArray, List.set_cons_zero, List.set_cons_succ] at hK9
    go_simp
    exact hK9 _ _ rfl hC9 (Below.refl _ _)
  apply wpFactsR_val
  case h1 =>
    intro vs L9 w9 hG9 hC9 hB K9 hK9
    have d9 := FactN.eq (hB 9 _ (by kernel_rfl) (by kernel_rfl) rfl (by decide))
    simp only [d9] at hK9 ⊢
    simp only [Act.put, List.setIfInBounds_toArray, List.set_cons_zero, List.set_cons_succ] at hK9
    go_simp
    exact hK9 _ _ rfl hC9 (Below.refl _ _)
  apply wpFactsR_val
  case h1 =>
    intro vs L9 w9 hG9 hC9 hB K9 hK9
    have d4 := FactN.eq (hB 4 _ (by kernel_rfl) (by kernel_rfl) rfl (by decide))
    have d10 := FactN.eq (hB 10 _ (by kernel_rfl) (by kernel_rfl) rfl (by decide))
    simp only [d4, d10] at hK9 ⊢
    simp only [Act.put, List.setIfInBounds_toArray, List.set_cons_zero, List.set_cons_succ] at hK9
    go_simp
    exact hK9 _ _ rfl hC9 (Below.refl _ _)
  refine wpFactsR_nil fun vs L9 w9 hL9 hC9 hB => ?_
  have d11 := FactN.eq (hB 11 _ rfl rfl (by decide))
  have hdd : decide ((if 1 < x.r then x.r else 1) ≤ x.h) = d := by rw [← hd, decide_eq_decide]; split <;> omega
  rw [hdd] at d11
  simp only [d11]
  have HO5 := ownsRow_below HO4 hC9
  have b5 := bthen' b4 hC9 hw4
  clear hB d11 HO4 v3 v1 b4 hdd hC9
  have GD := GD.out
  have hl3 : (l.set j (knockL x)).length = l.length := List.length_set
  obtain ⟨K1, K2, K3, K4⟩ := OwnL.set HO5 (by rw [List.length_set]; exact hj) 2 (by decide) (.int .i64 2) (⟨x.i, x.r, 2, x.h, x.b⟩) (by rw [List.getElem_set_self]; rfl)
  rw [List.getElem_set_self] at K4
  simp only [Lot.enc, List.getElem?_cons_zero, List.getElem?_cons_succ] at K4
  rw [List.set_set] at K1
  cases d
  next =>
    have HF : OwnL w9 W.heap.size (some ⟨gO, 0, none⟩) c1 (l.set j (knockL x)) := by rw [HK.out]; exact HO5
    clear K1 K2 K3 K4 HO5 HK
    go_upto_region 28 with fail
    have IA := isAuction_any (some ⟨gO, 0, none⟩) c1 (l.set j (knockL x)) w9 (OwnL.reads HF)
    rw [hl3, GD] at IA
    go_wp2_with fail
    refine IA.mono ?_
    rintro e w10 ⟨rfl, hb10⟩
    have HF10 := HF.below hb10
    clear IA HF
    go_wp2
    refine bodyPost_ret (v := .tuple #[.slice (some ⟨gO, 0, none⟩) (l.length) c1, .bool true]) (by simp [results, Tryd.results36, go_sem, *]) rfl (GivesMk.yes hl3 (ownsRow_lower HF10 (by rw [hgb]; exact b0s)) ?_)
    rw [hgb]
    exact b0.trans ((bthen' (b5) hb10 (b5).size).mono b0s)
  next =>
    have hKn : knockL x = ⟨x.i, x.r, 2, x.h, x.b⟩ := HK.out
    rw [← hKn] at K1
    have HF := Lib.hid K1
    have b6 := b5.trans K2
    clear HK hKn HO5 b5
    go_upto_region 28 with fail
    clear K1 K2 K3 K4
    have HF := HF.out
    generalize w9.setCell ⟨gO, j * 5 + 2, none⟩ (.int .i64 2) = w6 at b6 HF ⊢
    have IA := isAuction_any (some ⟨gO, 0, none⟩) c1 (l.set j (knockL x)) w6 (OwnL.reads HF)
    rw [hl3, GD] at IA
    go_wp2_with fail
    refine IA.mono ?_
    rintro e w10 ⟨rfl, hb10⟩
    have HF10 := HF.below hb10
    clear IA HF
    go_wp2
    refine bodyPost_ret (v := .tuple #[.slice (some ⟨gO, 0, none⟩) (l.length) c1, .bool true]) (by simp [results, Tryd.results36, go_sem, *]) rfl (GivesMk.yes hl3 (ownsRow_lower HF10 (by rw [hgb]; exact b0s)) ?_)
    rw [hgb]
    exact b0.trans ((bthen' (b6) hb10 (b6).size).mono b0s)
end Go.Proofs.YtkokbmmffkpclaaDoor

/- A step of an auction in the program: add. (Printed by gen_lotstep.py) -/
namespace Go.Proofs.YtkokbmmffkpclaaDoor
open Go.RowKit

set_option maxRecDepth 100000 in
set_option maxHeartbeats 4000000 in
theorem stepB_add (A : Option Addr) (c : Nat) (l : List Lot) (i b v : Int) (w : World) (h : LotsR w w.heap.size A l) (G : GoodL l) (ho : findIx l i < 0) :
    Calls Tryd.prog 36 #[.slice A l.length c, .agg #[.int .i64 1, .int .i64 i, .int .i64 b, .int .i64 v]] w (GivesMk w (if goodLots (insL l i v) then some (insL l i v) else none)) := by
  have hoi : decide (0 ≤ findIx l i) = false := decide_eq_false (by omega)
  obtain ⟨d, hd⟩ : ∃ d, goodLots (insL l i v) = d := ⟨_, rfl⟩
  obtain ⟨R, hR⟩ : ∃ R, (if goodLots (insL l i v) then some (insL l i v) else none) = R := ⟨_, rfl⟩
  have HR : Hid (R = if d = true then some (insL l i v) else none) := by rw [Hid, ← hR, ← hd]
  rw [hR]
  clear hR
  have hpl := (find_pos G i).2.1
  have b0 := (Below.refl w.heap.size w).alloc (Nat.le_refl _) (.cells #[.int .i64 1, .int .i64 i, .int .i64 b, .int .i64 v] 39)
  have b0s := b0.size
  have L0 := Lies.new w 39 #[.int .i64 1, .int .i64 i, .int .i64 b, .int .i64 v]
  have hW := SlcR.up h b0 (Nat.le_refl _)
  have len := G.len
  have BS := fun W hR => bsId_any A c l i W hR G
  simp only [hoi] at BS
  clear hoi
  have hy := Lib.hid (show insL l i v = l.take (posL l i) ++ ⟨i, v, 0, 0, 0⟩ :: l.drop (posL l i) from rfl)
  have hd := Lib.hid hd
  obtain ⟨p, hp⟩ : ∃ p, posL l i = p := ⟨_, rfl⟩
  rw [hp] at BS hpl hy
  clear hp
  go_enter Tryd.func36, Tryd.ntmps36
  go_wp2_with fail
  generalize w.alloc (.cells #[.int .i64 1, .int .i64 i, .int .i64 b, .int .i64 v] 39) = W at b0 b0s L0 hW ⊢
  generalize hgb : w.heap.size = g at L0 ⊢
  rw [hgb] at b0 b0s
  refine (cloneLot_any A c l W hW (by omega)).mono ?_
  rintro e w1 ⟨A1, c1, rfl, hO1, hb1⟩
  have L1 := L0.below hb1 L0.lt
  have s0 := L1.cell 0
  have s1 := L1.cell 1
  have s2 := L1.cell 2
  have s3 := L1.cell 3
  simp only [List.getElem?_cons_zero, List.getElem?_cons_succ] at s0 s1 s2 s3
  have HO1 := Lib.hid hO1; clear hO1
  go_wp2_with fail
  refine (BS w1 (SlcR.up hW hb1 (Nat.le_refl _))).mono ?_
  rintro e w2 ⟨rfl, hb2⟩
  have L2 := L1.below hb2 L1.lt
  clear s0 s1 s2 s3
  have HO2 : OwnL w2 W.heap.size A1 c1 l := ownsRow_below HO1.out hb2
  have b2 : Below W.heap.size W w2 := bthen hb1 hb2
  clear hW h BS hb1 hb2 L0 L1 HO1
  have s0 := L2.cell 0
  have s1 := L2.cell 1
  have s2 := L2.cell 2
  have s3 := L2.cell 3
  simp only [List.getElem?_cons_zero, List.getElem?_cons_succ] at s0 s1 s2 s3
  go_wp2_with fail
  have hxn := Lies.new w2 41 #[.int .i64 i, .int .i64 v, .int .i64 0, .int .i64 0, .int .i64 0]
  have al2 := (Below.refl w2.heap.size w2).alloc (Nat.le_refl _) (.cells #[.int .i64 i, .int .i64 v, .int .i64 0, .int .i64 0, .int .i64 0] 41)
  have HO3 := ownsRow_below HO2 al2
  have b3 := bthen b2 al2
  have hne : (Value.slice A1 l.length c1).ownBlock ≠ some w2.heap.size := fun e => by have := (HO2.lt _ e).2; omega
  refine (insLot_any W.heap.size (.slice A1 l.length c1) l.length (l.flatMap Lot.enc) _ HO3 (by omega) p hpl ⟨i, v, 0, 0, 0⟩ w2.heap.size 1 hxn hne b3.size lot_cells).mono ?_
  rintro e w3 ⟨v', rfl, ho3, gr3⟩
  obtain ⟨A3, c3', rfl⟩ := ownsRow_slice ho3
  have hl3 : (insL l i v).length = l.length + 1 := by rw [hy.out]; simp; omega
  have HF : OwnL w3 W.heap.size A3 c3' (insL l i v) := by
    have e : (insL l i v).flatMap Lot.enc = (l.flatMap Lot.enc).take (p * 5) ++ (⟨i, v, 0, 0, 0⟩ : Lot).enc ++ (l.flatMap Lot.enc).drop (p * 5) := by
      rw [hy.out, List.flatMap_append, List.flatMap_cons, flat_takeL, flat_dropL, List.append_assoc]
    unfold OwnL
    rw [e, hl3]
    exact ho3
  have b4 : Below W.heap.size W w3 := b3.trans ((Below.refl _ _).grown gr3 b3.size (fun g hg => (HO2.lt g hg).1))
  clear ho3 gr3 HO2 HO3 L2 s0 s1 s2 s3 b2 b3 hxn al2 hne
  have IA := isAuction_any A3 c3' (insL l i v) w3 (OwnL.reads HF)
  rw [hl3, hd.out] at IA
  go_wp2_with fail
  refine IA.mono ?_
  rintro e w10 ⟨rfl, hb10⟩
  have HF10 := HF.below hb10
  clear IA HF
  cases d
  next =>
    obtain rfl : R = none := by simpa using HR.out
    go_wp2
    refine bodyPost_ret (v := .tuple #[.slice none 0 0, .bool false]) (by simp [results, Tryd.results36, go_sem, *]) rfl (GivesMk.fail ?_)
    rw [hgb]
    exact b0.trans ((bthen' b4 hb10 b4.size).mono b0s)
  next =>
    obtain rfl : R = some (insL l i v) := by simpa using HR.out
    go_wp2
    refine bodyPost_ret (v := .tuple #[.slice A3 (l.length + 1) c3', .bool true]) (by simp [results, Tryd.results36, go_sem, *]) rfl (GivesMk.yes hl3 (ownsRow_lower HF10 (by rw [hgb]; exact b0s)) ?_)
    rw [hgb]
    exact b0.trans ((bthen' b4 hb10 b4.size).mono b0s)
end Go.Proofs.YtkokbmmffkpclaaDoor

/- A step of an auction in the program: drop. (Printed by gen_lotstep.py) -/
namespace Go.Proofs.YtkokbmmffkpclaaDoor
open Go.RowKit

set_option maxRecDepth 100000 in
set_option maxHeartbeats 4000000 in
theorem stepB_drop (A : Option Addr) (c : Nat) (l : List Lot) (i b v : Int) (w : World) (h : LotsR w w.heap.size A l) (G : GoodL l) (j : Nat) (hj : j < l.length) (hf : findIx l i = j) :
    Calls Tryd.prog 36 #[.slice A l.length c, .agg #[.int .i64 2, .int .i64 i, .int .i64 b, .int .i64 v]] w (GivesMk w (if l[j].s = 0 then some (delL l j) else none)) := by
  have hp : posL l i = j := by have := (find_pos G i).1 (by omega); omega
  have hz0 : (0 : Int) ≤ (j : Int) := by omega
  have hfi : decide ((0 : Int) ≤ (j : Int)) = true := decide_eq_true hz0
  have GD := Lib.hid (good_del G j)
  obtain ⟨x, hxe⟩ : ∃ x, l[j] = x := ⟨_, rfl⟩
  rw [hxe]
  obtain ⟨d, hd⟩ : ∃ d, (x.s == 0) = d := ⟨_, rfl⟩
  obtain ⟨R, hR⟩ : ∃ R, (if x.s = 0 then some (delL l j) else none) = R := ⟨_, rfl⟩
  have HR : Hid (R = if d = true then some (delL l j) else none) := by
    rw [Hid, ← hR, ← hd]
    simp
  rw [hR]
  clear hR
  have b0 := (Below.refl w.heap.size w).alloc (Nat.le_refl _) (.cells #[.int .i64 2, .int .i64 i, .int .i64 b, .int .i64 v] 39)
  have b0s := b0.size
  have L0 := Lies.new w 39 #[.int .i64 2, .int .i64 i, .int .i64 b, .int .i64 v]
  have hW := SlcR.up h b0 (Nat.le_refl _)
  have len := G.len
  have BS := fun W hR => bsId_any A c l i W hR G
  simp only [hp, hf, hfi] at BS
  clear hp hf
  go_enter Tryd.func36, Tryd.ntmps36
  go_wp2_with fail
  generalize w.alloc (.cells #[.int .i64 2, .int .i64 i, .int .i64 b, .int .i64 v] 39) = W at b0 b0s L0 hW ⊢
  generalize hgb : w.heap.size = g at L0 ⊢
  rw [hgb] at b0 b0s
  refine (cloneLot_any A c l W hW (by omega)).mono ?_
  rintro e w1 ⟨A1, c1, rfl, hO1, hb1⟩
  have L1 := L0.below hb1 L0.lt
  have s0 := L1.cell 0
  have s1 := L1.cell 1
  have s2 := L1.cell 2
  have s3 := L1.cell 3
  simp only [List.getElem?_cons_zero, List.getElem?_cons_succ] at s0 s1 s2 s3
  have HO1 := Lib.hid hO1; clear hO1
  go_wp2_with fail
  refine (BS w1 (SlcR.up hW hb1 (Nat.le_refl _))).mono ?_
  rintro e w2 ⟨rfl, hb2⟩
  have L2 := L1.below hb2 L1.lt
  clear s0 s1 s2 s3
  have hgW := L0.lt
  have hR2 : LotsR w2 W.heap.size A l := SlcR.below hW (bthen hb1 hb2)
  have HO2 : OwnL w2 W.heap.size A1 c1 l := ownsRow_below HO1.out hb2
  have b2 : Below W.heap.size W w2 := bthen hb1 hb2
  obtain ⟨gO, rfl, hgO, hgO', hcO⟩ := OwnL.block HO2 (by omega)
  obtain ⟨bl, off, rfl, hbl, hcell⟩ := hR2.el (by omega)
  have hcx := hcell j hj
  rw [hxe] at hcx
  obtain ⟨c0, c1', c2, c3, c4⟩ := LotS.up hcx (Below.refl _ _) b2.size
  clear hcx hcell hR2 hW h BS hb1 hb2 L0 L1 HO1
  have s0 := L2.cell 0
  have s1 := L2.cell 1
  have s2 := L2.cell 2
  have s3 := L2.cell 3
  simp only [List.getElem?_cons_zero, List.getElem?_cons_succ] at s0 s1 s2 s3
  have q2 := c2 ⟨w2, Below.refl _ _⟩
  go_wp2_with fail
  refine (delLot_any W.heap.size (.slice (some ⟨gO, 0, none⟩) l.length c1) l.length (l.flatMap Lot.enc) w2 HO2 (by omega) j hj lot_cells).mono ?_
  rintro e w3 ⟨v', rfl, ho3, gr3, _⟩
  obtain ⟨A3, c3', rfl⟩ := ownsRow_slice ho3
  have hl3 : (delL l j).length = l.length - 1 := by unfold delL; simp; omega
  have HF : OwnL w3 W.heap.size A3 c3' (delL l j) := by
    unfold OwnL delL
    rw [List.flatMap_append, flat_takeL, flat_dropL, show (j + 1) * 5 = j * 5 + 5 by omega]
    unfold delL at hl3
    rw [hl3]
    exact ho3
  have b3 : Below W.heap.size W w3 := b2.trans ((Below.refl _ _).grown gr3 (by omega) (by rintro _ ⟨⟩; exact hgO))
  clear ho3 gr3 HO2 L2 c0 c1' c2 c3 c4 q2 s0 s1 s2 s3 b2
  have GD := GD.out
  go_upto_region 28 with fail
  cases d
  next =>
    obtain rfl : R = none := by simpa using HR.out
    go_wp2
    refine bodyPost_ret (v := .tuple #[.slice none 0 0, .bool false]) (by simp [results, Tryd.results36, go_sem, *]) rfl (GivesMk.fail ?_)
    rw [hgb]
    exact b0.trans ((b3).mono b0s)
  next =>
    obtain rfl : R = some (delL l j) := by simpa using HR.out
    have IA := isAuction_any A3 c3' (delL l j) w3 (OwnL.reads HF)
    rw [hl3, GD] at IA
    go_wp2_with fail
    refine IA.mono ?_
    rintro e w10 ⟨rfl, hb10⟩
    have HF10 := HF.below hb10
    clear IA HF
    go_wp2
    refine bodyPost_ret (v := .tuple #[.slice A3 (l.length - 1) c3', .bool true]) (by simp [results, Tryd.results36, go_sem, *]) rfl (GivesMk.yes hl3 (ownsRow_lower HF10 (by rw [hgb]; exact b0s)) ?_)
    rw [hgb]
    exact b0.trans ((bthen' (b3) hb10 (b3).size).mono b0s)
end Go.Proofs.YtkokbmmffkpclaaDoor

/- A step of an auction in the program: open. (Printed by gen_lotstep.py) -/
namespace Go.Proofs.YtkokbmmffkpclaaDoor
open Go.RowKit

set_option maxRecDepth 100000 in
set_option maxHeartbeats 4000000 in
theorem stepB_open (A : Option Addr) (c : Nat) (l : List Lot) (i b v : Int) (w : World) (h : LotsR w w.heap.size A l) (G : GoodL l) (j : Nat) (hj : j < l.length) (hf : findIx l i = j) :
    Calls Tryd.prog 36 #[.slice A l.length c, .agg #[.int .i64 3, .int .i64 i, .int .i64 b, .int .i64 v]] w (GivesMk w (if l[j].s = 0 ∧ openIx l < 0 then some (l.set j (openL l[j])) else none)) := by
  have hp : posL l i = j := by have := (find_pos G i).1 (by omega); omega
  have hz0 : (0 : Int) ≤ (j : Int) := by omega
  have hfi : decide ((0 : Int) ≤ (j : Int)) = true := decide_eq_true hz0
  have GD := fun h => good_open G hj h
  obtain ⟨x, hxe⟩ : ∃ x, l[j] = x := ⟨_, rfl⟩
  rw [hxe] at GD ⊢
  obtain ⟨d, hd⟩ : ∃ d, (x.s == 0) = d := ⟨_, rfl⟩
  obtain ⟨R, hR⟩ : ∃ R, (if x.s = 0 ∧ openIx l < 0 then some (l.set j (openL x)) else none) = R := ⟨_, rfl⟩
  have HR : Hid (R = if d = true ∧ openIx l < 0 then some (l.set j (openL x)) else none) := by
    rw [Hid, ← hR, ← hd]
    simp
  have GD : Hid (d = true → goodLots (l.set j (openL x)) = decide (openIx l < 0)) := fun h => GD (by rw [← hd] at h; exact eq_of_beq h)
  rw [hR]
  clear hR
  have b0 := (Below.refl w.heap.size w).alloc (Nat.le_refl _) (.cells #[.int .i64 3, .int .i64 i, .int .i64 b, .int .i64 v] 39)
  have b0s := b0.size
  have L0 := Lies.new w 39 #[.int .i64 3, .int .i64 i, .int .i64 b, .int .i64 v]
  have hW := SlcR.up h b0 (Nat.le_refl _)
  have len := G.len
  have BS := fun W hR => bsId_any A c l i W hR G
  simp only [hp, hf, hfi] at BS
  clear hp hf
  go_enter Tryd.func36, Tryd.ntmps36
  go_wp2_with fail
  generalize w.alloc (.cells #[.int .i64 3, .int .i64 i, .int .i64 b, .int .i64 v] 39) = W at b0 b0s L0 hW ⊢
  generalize hgb : w.heap.size = g at L0 ⊢
  rw [hgb] at b0 b0s
  refine (cloneLot_any A c l W hW (by omega)).mono ?_
  rintro e w1 ⟨A1, c1, rfl, hO1, hb1⟩
  have L1 := L0.below hb1 L0.lt
  have s0 := L1.cell 0
  have s1 := L1.cell 1
  have s2 := L1.cell 2
  have s3 := L1.cell 3
  simp only [List.getElem?_cons_zero, List.getElem?_cons_succ] at s0 s1 s2 s3
  have HO1 := Lib.hid hO1; clear hO1
  go_wp2_with fail
  refine (BS w1 (SlcR.up hW hb1 (Nat.le_refl _))).mono ?_
  rintro e w2 ⟨rfl, hb2⟩
  have L2 := L1.below hb2 L1.lt
  clear s0 s1 s2 s3
  have hgW := L0.lt
  have hR2 : LotsR w2 W.heap.size A l := SlcR.below hW (bthen hb1 hb2)
  have HO2 : OwnL w2 W.heap.size A1 c1 l := ownsRow_below HO1.out hb2
  have b2 : Below W.heap.size W w2 := bthen hb1 hb2
  obtain ⟨gO, rfl, hgO, hgO', hcO⟩ := OwnL.block HO2 (by omega)
  obtain ⟨bl, off, rfl, hbl, hcell⟩ := hR2.el (by omega)
  have hcx := hcell j hj
  rw [hxe] at hcx
  obtain ⟨c0, c1', c2, c3, c4⟩ := LotS.up hcx (Below.refl _ _) b2.size
  clear hcx hcell hR2 hW h BS hb1 hb2 L0 L1 HO1
  have s0 := L2.cell 0
  have s1 := L2.cell 1
  have s2 := L2.cell 2
  have s3 := L2.cell 3
  simp only [List.getElem?_cons_zero, List.getElem?_cons_succ] at s0 s1 s2 s3
  have q2 := c2 ⟨w2, Below.refl _ _⟩
  obtain ⟨K1, K2, K3, K4⟩ := OwnL.set HO2 hj 2 (by decide) (.int .i64 1) (openL x) (by rw [hxe]; rfl)
  rw [hxe] at K4
  simp only [Lot.enc, List.getElem?_cons_zero, List.getElem?_cons_succ] at K4
  have hl3 : (l.set j (openL x)).length = l.length := List.length_set
  go_upto_region 28 with fail
  have b3 := b2.trans K2
  have HF := Lib.hid K1
  clear HO2 L2 c0 c1' c2 c3 c4 q2 s0 s1 s2 s3 b2 K1 K2 K3 K4
  generalize w2.setCell ⟨gO, j * 5 + 2, none⟩ (.int .i64 1) = w3 at b3 HF ⊢
  cases d
  next =>
    obtain rfl : R = none := by simpa using HR.out
    go_wp2
    refine bodyPost_ret (v := .tuple #[.slice none 0 0, .bool false]) (by simp [results, Tryd.results36, go_sem, *]) rfl (GivesMk.fail ?_)
    rw [hgb]
    exact b0.trans ((b3).mono b0s)
  next =>
    have GD := GD.out rfl
    obtain ⟨d2, hd2⟩ : ∃ d2, decide (openIx l < 0) = d2 := ⟨_, rfl⟩
    rw [hd2] at GD
    have HF := HF.out
    have IA := isAuction_any (some ⟨gO, 0, none⟩) c1 (l.set j (openL x)) w3 (OwnL.reads HF)
    rw [hl3, GD] at IA
    go_wp2_with fail
    refine IA.mono ?_
    rintro e w10 ⟨rfl, hb10⟩
    have HF10 := HF.below hb10
    clear IA HF
    cases d2
    next =>
      obtain rfl : R = none := by rw [HR.out, if_neg]; intro h; exact absurd (decide_eq_true h.2) (by rw [hd2]; decide)
      go_wp2
      refine bodyPost_ret (v := .tuple #[.slice none 0 0, .bool false]) (by simp [results, Tryd.results36, go_sem, *]) rfl (GivesMk.fail ?_)
      rw [hgb]
      exact b0.trans ((bthen' b3 hb10 b3.size).mono b0s)
    next =>
      obtain rfl : R = some (l.set j (openL x)) := by rw [HR.out, if_pos]; exact ⟨by trivial, of_decide_eq_true hd2⟩
      go_wp2
      refine bodyPost_ret (v := .tuple #[.slice (some ⟨gO, 0, none⟩) l.length c1, .bool true]) (by simp [results, Tryd.results36, go_sem, *]) rfl (GivesMk.yes hl3 (ownsRow_lower HF10 (by rw [hgb]; exact b0s)) ?_)
      rw [hgb]
      exact b0.trans ((bthen' b3 hb10 b3.size).mono b0s)
end Go.Proofs.YtkokbmmffkpclaaDoor
