/- By10: the texts LotMake2 BuyLeast, joined into one file. -/
import Derived.Test.YtkokbmmffkpclaaDoorBy06
import Derived.Test.YtkokbmmffkpclaaDoorBy08
import Derived.Test.YtkokbmmffkpclaaDoorBy09

set_option linter.unusedVariables false

/- A step of an auction in the reference: a lot is dropped, or waits again. (Printed by gen_lotmake.py) -/
namespace Go.Proofs.YtkokbmmffkpclaaDoor
open Go.RowKit

set_option maxRecDepth 100000 in
set_option maxHeartbeats 4000000 in
theorem make2_yes (A : Option Addr) (c : Nat) (l : List Lot) (i b v : Int) (w : World) (h : LotsR w w.heap.size A l) (G : GoodL l) (hc : l.length ≤ c) (j : Nat) (hj : j < l.length) (hf : findIx l i = j) :
    Calls Tryd.prog 57 #[.slice A l.length c, .agg #[.int .i64 2, .int .i64 i, .int .i64 b, .int .i64 v]] w (GivesMk w (if l[j].s = 0 then some (delL l j) else none)) := by
  obtain ⟨x, hxe⟩ : ∃ x, l[j] = x := ⟨_, rfl⟩
  rw [hxe]
  obtain ⟨d, hd⟩ : ∃ d, (x.s == 0) = d := ⟨_, rfl⟩
  obtain ⟨R, hR⟩ : ∃ R, (if x.s = 0 then some (delL l j) else none) = R := ⟨_, rfl⟩
  have HR : Hid (R = if d = true then some (delL l j) else none) := by
    rw [Hid, ← hR, ← hd]
    simp
  rw [hR]
  clear hR
  have hz0 : (0 : Int) ≤ (j : Int) := by omega
  have hzi : ¬ (j : Int) < 0 := by omega
  have HO := Lib.hid hf
  clear hf
  have b0 := (Below.refl w.heap.size w).alloc (Nat.le_refl _) (.cells #[.int .i64 2, .int .i64 i, .int .i64 b, .int .i64 v] 39)
  have b0s := b0.size
  have L0 := Lies.new w 39 #[.int .i64 2, .int .i64 i, .int .i64 b, .int .i64 v]
  have hW := SlcR.up h b0 (Nat.le_refl _)
  have len := G.len
  go_enter Tryd.func57, Tryd.ntmps57
  go_wp2_with fail
  generalize w.alloc (.cells #[.int .i64 2, .int .i64 i, .int .i64 b, .int .i64 v] 39) = W at b0 b0s L0 hW ⊢
  generalize hgb : w.heap.size = g at L0 ⊢
  rw [hgb] at b0 b0s
  refine (l29Find_any A c l i W hW).mono ?_
  rintro e w1 ⟨he, hb1⟩
  rw [HO.out] at he
  subst he
  have L1 := L0.below hb1 L0.lt
  have hW1 := SlcR.then hW hb1
  have s0 := L1.cell 0
  have s1 := L1.cell 1
  have s2 := L1.cell 2
  have s3 := L1.cell 3
  simp only [List.getElem?_cons_zero, List.getElem?_cons_succ] at s0 s1 s2 s3
  obtain ⟨bl, off, rfl, hbl, hcell⟩ := (LotsR.el hW1) (by omega)
  have hcx := hcell j hj
  rw [hxe] at hcx
  obtain ⟨c0, c1', c2, c3, c4⟩ := hcx
  have q0 := c0 ⟨w1, Below.refl _ _⟩
  have q1 := c1' ⟨w1, Below.refl _ _⟩
  have q2 := c2 ⟨w1, Below.refl _ _⟩
  have q3 := c3 ⟨w1, Below.refl _ _⟩
  have q4 := c4 ⟨w1, Below.refl _ _⟩
  clear hcell
  go_upto_region 11 with fail
  have P2 := Lies.new w1 41 #[.int .i64 x.i, .int .i64 x.r, .int .i64 x.s, .int .i64 x.h, .int .i64 x.b]
  have hal := (Below.refl w1.heap.size w1).alloc (Nat.le_refl _) (.cells #[.int .i64 x.i, .int .i64 x.r, .int .i64 x.s, .int .i64 x.h, .int .i64 x.b] 41)
  have L2 := L1.below hal L1.lt
  have b2 := bthen hb1 hal
  have hp := hb1.size
  generalize hw2 : w1.alloc (.cells #[.int .i64 x.i, .int .i64 x.r, .int .i64 x.s, .int .i64 x.h, .int .i64 x.b] 41) = w2 at P2 hal L2 b2 ⊢
  clear hw2 hal s0 s1 s2 s3 q0 q1 q2 q3 q4 c0 c1' c2 c3 c4 L1
  generalize w1.heap.size = p at P2 hp ⊢
  have s0 := L2.cell 0
  have s1 := L2.cell 1
  have s2 := L2.cell 2
  have s3 := L2.cell 3
  simp only [List.getElem?_cons_zero, List.getElem?_cons_succ] at s0 s1 s2 s3
  have p0 := P2.cell 0
  have p1 := P2.cell 1
  have p2 := P2.cell 2
  have p3 := P2.cell 3
  have p4 := P2.cell 4
  simp only [List.getElem?_cons_zero, List.getElem?_cons_succ] at p0 p1 p2 p3 p4
  have hW2 : LotsR w2 w2.heap.size _ l := SlcR.up hW b2 (Nat.le_refl _)
  have hw2 := b2.size
  have hj1 : j + 1 ≤ l.length := hj
  have hjl : j ≤ l.length := Nat.le_of_lt hj
  have i3 : IntKind.i64.wrap ((j : Int) + 1) = ((j + 1 : Nat) : Int) := by rw [IntWalk.i64_in _ (by omega)]; rfl
  go_upto_region 13 with fail
  refine wp_region_factsR (fun _ => (fun W9 => Below w2.heap.size w2 W9)) (fun i w1 w2 => i ∉ [9] → Below w1.heap.size w1 w2) (by kernel_rfl) (by kernel_rfl) (by kernel_rfl) (Below.refl _ _).drew ?_
  simp only [fillOps, Act.put, List.setIfInBounds_toArray, List.set_cons_zero, List.set_cons_succ, Nat.zero_add, Nat.reduceAdd]
  refine wpFactsR_some [9] (fun v w9 => ∃ g, v = .slice (some ⟨g, 0, none⟩) 0 0 ∧ w2.heap.size ≤ g ∧ Lies w9 g 41 []) ?_ (fun vs L9 w9 hG9 hC9 hB K9 hK9 => ?_) ?_
  next =>
    intro i9 hi9 hb9 ha9 v w1 w2 hv hT9
    have hb := hT9 (fun hm => by
      simp only [List.mem_cons, List.not_mem_nil, or_false] at hm hb9
      subst hm
      · exact hb9 (by simp))
    obtain ⟨g, e, hg, hl⟩ := hv
    exact ⟨g, e, hg, hl.below hb hl.lt⟩
  next =>
    simp only [Act.put, List.setIfInBounds_toArray, List.set_cons_zero, List.set_cons_succ] at hK9
    go_simp
    exact hK9 _ _ _ rfl ⟨_, rfl, hC9.size, Lies.new w9 41 #[]⟩ (hC9.alloc hC9.size _) (fun _ => (Below.refl _ _).alloc (Nat.le_refl _) _)
  apply wpFactsR_val
  case h1 =>
    intro vs L9 w9 hG9 hC9 hB K9 hK9
    simp only [Act.put, List.setIfInBounds_toArray, List.set_cons_zero, List.set_cons_succ] at hK9
    go_simp
    exact hK9 _ _ rfl hC9 (fun _ => Below.refl _ _)
  apply wpFactsR_val
  case h1 =>
    intro vs L9 w9 hG9 hC9 hB K9 hK9
    simp only [Act.put, List.setIfInBounds_toArray, List.set_cons_zero, List.set_cons_succ] at hK9
    go_simp
    exact hK9 _ _ rfl hC9 (fun _ => Below.refl _ _)
  apply wpFactsR_val
  case h1 =>
    intro vs L9 w9 hG9 hC9 hB K9 hK9
    have d1 := FactN.eq (hB 1 _ (by kernel_rfl) (by kernel_rfl) rfl (by decide))
    have d2 := FactN.eq (hB 2 _ (by kernel_rfl) (by kernel_rfl) rfl (by decide))
    simp only [d1, d2] at hK9 ⊢
    simp only [Act.put, List.setIfInBounds_toArray, List.set_cons_zero, List.set_cons_succ] at hK9
    refine step_sliceTo rfl 24 41 (.tmp 60) (.tmp 61) rfl Tryd.underlying24 5 infoLot_size (some ⟨bl, off, none⟩) l.length c j (by rfl) (by rfl) hjl hc ?_
    exact hK9 _ _ rfl hC9 (fun _ => Below.refl _ _)
  refine wpFactsR_some [9] (fun v w9 => ∃ A c, v = .slice A (j) c ∧ w9.ownsRow w2.heap.size 41 5 (.slice A (j) c) (j) ((l.flatMap Lot.enc).take (j * 5))) ?_ (fun vs L9 w9 hG9 hC9 hB K9 hK9 => ?_) ?_
  next =>
    intro i9 hi9 hb9 ha9 v w1 w2 hv hT9
    have hb := hT9 (fun hm => by
      simp only [List.mem_cons, List.not_mem_nil, or_false] at hm hb9
      subst hm
      · exact hb9 (by simp))
    obtain ⟨A, c, e, ho⟩ := hv
    exact ⟨A, c, e, ownsRow_below ho hb⟩
  next =>
    have d3 := FactN.eq (hB 3 _ (by kernel_rfl) (by kernel_rfl) rfl (by decide))
    simp only [d3] at hK9 ⊢
    simp only [Act.put, List.setIfInBounds_toArray, List.set_cons_zero, List.set_cons_succ] at hK9
    obtain ⟨g, e0, hg, hl⟩ := hB 0 _ (by kernel_rfl) (by kernel_rfl) rfl (by decide)
    simp only [e0] at hK9 ⊢
    refine stepCat rfl (.tmp 59) (.tmp 62) 24 rfl 41 _ 5 40 Tryd.underlying24 infoLot rfl (by omega) (by omega) w2.heap.size g (by rfl) hl hg w2.heap.size (some ⟨bl, off, none⟩) j c _ (by rfl) (SlcR.take (SlcR.below hW2 hC9) j hjl) (fun u hu => lot_cells u (List.mem_of_mem_take hu)) (by omega) ?_
    intro v' w' ho hb
    obtain ⟨A', c', rfl⟩ := ownsRow_slice ho
    exact hK9 _ _ _ rfl ⟨A', c', rfl, ho⟩ (hC9.trans (hb.mono hC9.size)) (fun _ => hb)
  apply wpFactsR_val
  case h1 =>
    intro vs L9 w9 hG9 hC9 hB K9 hK9
    simp only [Act.put, List.setIfInBounds_toArray, List.set_cons_zero, List.set_cons_succ] at hK9
    go_simp
    exact hK9 _ _ rfl hC9 (fun _ => Below.refl _ _)
  apply wpFactsR_val
  case h1 =>
    intro vs L9 w9 hG9 hC9 hB K9 hK9
    simp only [Act.put, List.setIfInBounds_toArray, List.set_cons_zero, List.set_cons_succ] at hK9
    go_simp
    exact hK9 _ _ rfl hC9 (fun _ => Below.refl _ _)
  apply wpFactsR_val
  case h1 =>
    intro vs L9 w9 hG9 hC9 hB K9 hK9
    have d6 := FactN.eq (hB 6 _ (by kernel_rfl) (by kernel_rfl) rfl (by decide))
    simp only [d6] at hK9 ⊢
    simp only [Act.put, List.setIfInBounds_toArray, List.set_cons_zero, List.set_cons_succ] at hK9
    go_simp
    exact hK9 _ _ rfl hC9 (fun _ => Below.refl _ _)
  refine wpFactsR_some [] (fun v w9 => ∃ A, v = .slice A (l.length - (j + 1)) (c - (j + 1)) ∧ ∀ W9, Below w2.heap.size w2 W9 → SlcR W9 w2.heap.size 5 A (l.length - (j + 1)) ((l.flatMap Lot.enc).drop ((j + 1) * 5))) ?_ (fun vs L9 w9 hG9 hC9 hB K9 hK9 => ?_) ?_
  next =>
    intro i9 hi9 hb9 ha9 v w1 w2 hv hT9
    exact hv
  next =>
    have d5 := FactN.eq (hB 5 _ (by kernel_rfl) (by kernel_rfl) rfl (by decide))
    have d7 := FactN.eq (hB 7 _ (by kernel_rfl) (by kernel_rfl) rfl (by decide))
    simp only [d5, d7] at hK9 ⊢
    simp only [Act.put, List.setIfInBounds_toArray, List.set_cons_zero, List.set_cons_succ] at hK9
    refine step_sliceFrom rfl 24 41 (.tmp 64) (.tmp 66) rfl Tryd.underlying24 5 infoLot_size (some ⟨bl, off, none⟩) l.length c (j + 1) (by rfl) (by rfl) hj1 hc ?_
    intro A' hA9
    exact hK9 _ _ _ rfl ⟨A', rfl, fun W9 hW => hA9 _ _ _ (SlcR.below hW2 hW)⟩ hC9 (fun _ => Below.refl _ _)
  refine wpFactsR_some [] (fun v w9 => ∃ A c, v = .slice A (j + (l.length - (j + 1))) c ∧ w9.ownsRow w2.heap.size 41 5 (.slice A (j + (l.length - (j + 1))) c) (j + (l.length - (j + 1))) ((l.flatMap Lot.enc).take (j * 5) ++ (l.flatMap Lot.enc).drop ((j + 1) * 5))) ?_ (fun vs L9 w9 hG9 hC9 hB K9 hK9 => ?_) ?_
  next =>
    intro i9 hi9 hb9 ha9 v w1 w2 hv hT9
    have hb := hT9 (fun hm => by
      simp only [List.mem_cons, List.not_mem_nil, or_false] at hm hb9
      subst hm
      · exact hi9 rfl)
    obtain ⟨A, c, e, ho⟩ := hv
    exact ⟨A, c, e, ownsRow_below ho hb⟩
  next =>
    simp only [Act.put, List.setIfInBounds_toArray, List.set_cons_zero, List.set_cons_succ] at hK9
    obtain ⟨A, c, e10, ho⟩ := hB 4 _ (by kernel_rfl) (by kernel_rfl) rfl (by decide)
    obtain ⟨A14, e14, hr⟩ := hB 8 _ (by kernel_rfl) (by kernel_rfl) rfl (by decide)
    simp only [e10, e14] at hK9 ⊢
    refine step_cat rfl (.tmp 63) (.tmp 67) 24 rfl 41 _ 5 40 Tryd.underlying24 infoLot rfl (by omega) (by omega) w2.heap.size _ j _ (by rfl) ho w2.heap.size A14 (l.length - (j + 1)) (_ - (j + 1)) _ (by rfl) (hr w9 hC9) (fun u hu => lot_cells u (List.mem_of_mem_drop hu)) (by omega) hC9.size ?_
    intro A' c' w' ho' _ hb
    exact hK9 _ _ _ rfl ⟨A', c', rfl, ho'⟩ (hC9.trans hb) (fun hq => (hq (by decide)).elim)
  apply wpFactsR_val
  case h1 =>
    intro vs L9 w9 hG9 hC9 hB K9 hK9
    simp only [Act.put, List.setIfInBounds_toArray, List.set_cons_zero, List.set_cons_succ] at hK9
    go_simp
    exact hK9 _ _ rfl hC9 (fun _ => Below.refl _ _)
  apply wpFactsR_val
  case h1 =>
    intro vs L9 w9 hG9 hC9 hB K9 hK9
    have d10 := FactN.eq (hB 10 _ (by kernel_rfl) (by kernel_rfl) rfl (by decide))
    simp only [d10] at hK9 ⊢
    have q0 : w9.cell? ⟨p, 2, none⟩ = some (.int .i64 x.s) := (P2.below hC9 P2.lt).cell 2
    simp only [Act.put, List.setIfInBounds_toArray, List.set_cons_zero, List.set_cons_succ] at hK9
    go_simp
    exact hK9 _ _ rfl hC9 (fun _ => Below.refl _ _)
  apply wpFactsR_val
  case h1 =>
    intro vs L9 w9 hG9 hC9 hB K9 hK9
    have d11 := FactN.eq (hB 11 _ (by kernel_rfl) (by kernel_rfl) rfl (by decide))
    simp only [d11] at hK9 ⊢
    simp only [Act.put, List.setIfInBounds_toArray, List.set_cons_zero, List.set_cons_succ] at hK9
    go_simp
    exact hK9 _ _ rfl hC9 (fun _ => Below.refl _ _)
  refine wpFactsR_pair [] 9 (fun u v _ => v = u ∧ ∃ A c, u = .slice A (j + (l.length - (j + 1))) c) (by kernel_rfl) ?_ (fun vs L9 w9 hG9 hC9 hB K9 hK9 => ?_) ?_
  next =>
    intro i9 hi9 hb9 ha9 u v w1 w2 hv hT9
    exact hv
  next =>
    obtain ⟨A, c, e0, ho⟩ := hB 9 _ (by kernel_rfl) (by kernel_rfl) rfl (by decide)
    simp only [e0] at hK9 ⊢
    go_simp
    exact hK9 _ _ _ rfl ⟨rfl, A, c, rfl⟩ hC9 (fun _ => Below.refl _ _)
  apply wpFactsR_val
  case h1 =>
    intro vs L9 w9 hG9 hC9 hB K9 hK9
    have d12 := FactN.eq (hB 12 _ (by kernel_rfl) (by kernel_rfl) rfl (by decide))
    simp only [d12] at hK9 ⊢
    simp only [Act.put, List.setIfInBounds_toArray, List.set_cons_zero, List.set_cons_succ] at hK9
    go_simp
    exact hK9 _ _ rfl hC9 (fun _ => Below.refl _ _)
  refine wpFactsR_nil fun vs L9 w9 hL9 hC9 hB => ?_
  have ⟨e13, A8, c8, e9⟩ : vs 13 = vs 9 ∧ ∃ A c, vs 9 = .slice A (j + (l.length - (j + 1))) c := hB 13 _ rfl rfl (by decide)
  obtain ⟨A9, c9, e9', ho⟩ : ∃ A c, vs 9 = .slice A (j + (l.length - (j + 1))) c ∧ w9.ownsRow w2.heap.size 41 5 (.slice A (j + (l.length - (j + 1))) c) (j + (l.length - (j + 1))) ((l.flatMap Lot.enc).take (j * 5) ++ (l.flatMap Lot.enc).drop ((j + 1) * 5)) := hB 9 _ rfl rfl (by decide)
  have d14 := FactN.eq (hB 14 _ rfl rfl (by decide))
  rw [e9'] at e13
  simp only [e13, d14]
  clear hB e13 e9 e9' d14
  have hlen : (delL l j).length = j + (l.length - (j + 1)) := by unfold delL; simp; omega
  have hcs : (delL l j).flatMap Lot.enc = (l.flatMap Lot.enc).take (j * 5) ++ (l.flatMap Lot.enc).drop ((j + 1) * 5) := by
    unfold delL; rw [List.flatMap_append, flat_takeL, flat_dropL]
  rw [← hcs, ← hlen] at ho
  rw [← hlen]
  have HF := Lib.hid ho
  have b3 := bthen b2 hC9
  clear ho hcs
  cases d
  next =>
    obtain rfl : R = none := by simpa using HR.out
    go_wp2
    refine bodyPost_ret (v := .tuple #[.slice A9 (delL l j).length c9, .bool false]) (by simp [results, Tryd.results57, go_sem, *]) rfl (GivesMk.fail ?_)
    rw [hgb]
    exact b0.trans ((b3).mono b0s)
  next =>
    obtain rfl : R = some (delL l j) := by simpa using HR.out
    go_wp2
    refine bodyPost_ret (v := .tuple #[.slice A9 (delL l j).length c9, .bool true]) (by simp [results, Tryd.results57, go_sem, *]) rfl (GivesMk.yes rfl (ownsRow_lower HF.out (by rw [hgb]; exact Nat.le_trans b0s hw2)) ?_)
    rw [hgb]
    exact b0.trans ((b3).mono b0s)
set_option maxRecDepth 100000 in
set_option maxHeartbeats 4000000 in
theorem make6_yes (A : Option Addr) (c : Nat) (l : List Lot) (i b v : Int) (w : World) (h : LotsR w w.heap.size A l) (G : GoodL l) (hc : l.length ≤ c) (j : Nat) (hj : j < l.length) (hf : findIx l i = j) :
    Calls Tryd.prog 57 #[.slice A l.length c, .agg #[.int .i64 6, .int .i64 i, .int .i64 b, .int .i64 v]] w (GivesMk w (if l[j].s = 3 then some (l.set j (againL l[j])) else none)) := by
  obtain ⟨x, hxe⟩ : ∃ x, l[j] = x := ⟨_, rfl⟩
  rw [hxe]
  obtain ⟨d, hd⟩ : ∃ d, (x.s == 3) = d := ⟨_, rfl⟩
  obtain ⟨R, hR⟩ : ∃ R, (if x.s = 3 then some (l.set j (againL x)) else none) = R := ⟨_, rfl⟩
  have HR : Hid (R = if d = true then some (l.set j (againL x)) else none) := by
    rw [Hid, ← hR, ← hd]
    simp
  rw [hR]
  clear hR
  have hz0 : (0 : Int) ≤ (j : Int) := by omega
  have hzi : ¬ (j : Int) < 0 := by omega
  have HO := Lib.hid hf
  clear hf
  have b0 := (Below.refl w.heap.size w).alloc (Nat.le_refl _) (.cells #[.int .i64 6, .int .i64 i, .int .i64 b, .int .i64 v] 39)
  have b0s := b0.size
  have L0 := Lies.new w 39 #[.int .i64 6, .int .i64 i, .int .i64 b, .int .i64 v]
  have hW := SlcR.up h b0 (Nat.le_refl _)
  have len := G.len
  go_enter Tryd.func57, Tryd.ntmps57
  go_wp2_with fail
  generalize w.alloc (.cells #[.int .i64 6, .int .i64 i, .int .i64 b, .int .i64 v] 39) = W at b0 b0s L0 hW ⊢
  generalize hgb : w.heap.size = g at L0 ⊢
  rw [hgb] at b0 b0s
  refine (l29Find_any A c l i W hW).mono ?_
  rintro e w1 ⟨he, hb1⟩
  rw [HO.out] at he
  subst he
  have L1 := L0.below hb1 L0.lt
  have hW1 := SlcR.then hW hb1
  have s0 := L1.cell 0
  have s1 := L1.cell 1
  have s2 := L1.cell 2
  have s3 := L1.cell 3
  simp only [List.getElem?_cons_zero, List.getElem?_cons_succ] at s0 s1 s2 s3
  obtain ⟨bl, off, rfl, hbl, hcell⟩ := (LotsR.el hW1) (by omega)
  have hcx := hcell j hj
  rw [hxe] at hcx
  obtain ⟨c0, c1', c2, c3, c4⟩ := hcx
  have q0 := c0 ⟨w1, Below.refl _ _⟩
  have q1 := c1' ⟨w1, Below.refl _ _⟩
  have q2 := c2 ⟨w1, Below.refl _ _⟩
  have q3 := c3 ⟨w1, Below.refl _ _⟩
  have q4 := c4 ⟨w1, Below.refl _ _⟩
  clear hcell
  go_upto_region 11 with fail
  have P2 := Lies.new w1 41 #[.int .i64 x.i, .int .i64 x.r, .int .i64 x.s, .int .i64 x.h, .int .i64 x.b]
  have hal := (Below.refl w1.heap.size w1).alloc (Nat.le_refl _) (.cells #[.int .i64 x.i, .int .i64 x.r, .int .i64 x.s, .int .i64 x.h, .int .i64 x.b] 41)
  have L2 := L1.below hal L1.lt
  have b2 := bthen hb1 hal
  have hp := hb1.size
  generalize hw2 : w1.alloc (.cells #[.int .i64 x.i, .int .i64 x.r, .int .i64 x.s, .int .i64 x.h, .int .i64 x.b] 41) = w2 at P2 hal L2 b2 ⊢
  clear hw2 hal s0 s1 s2 s3 q0 q1 q2 q3 q4 c0 c1' c2 c3 c4 L1
  generalize w1.heap.size = p at P2 hp ⊢
  have s0 := L2.cell 0
  have s1 := L2.cell 1
  have s2 := L2.cell 2
  have s3 := L2.cell 3
  simp only [List.getElem?_cons_zero, List.getElem?_cons_succ] at s0 s1 s2 s3
  have p0 := P2.cell 0
  have p1 := P2.cell 1
  have p2 := P2.cell 2
  have p3 := P2.cell 3
  have p4 := P2.cell 4
  simp only [List.getElem?_cons_zero, List.getElem?_cons_succ] at p0 p1 p2 p3 p4
  have hW2 : LotsR w2 w2.heap.size _ l := SlcR.up hW b2 (Nat.le_refl _)
  have hw2 := b2.size
  go_upto_region 18 with fail
  refine wp_region_factsR (fun _ => (fun W9 => Below w2.heap.size w2 W9)) (fun _ w1 w2 => Below w1.heap.size w1 w2) (by kernel_rfl) (by kernel_rfl) (by kernel_rfl) (Below.refl _ _).drew ?_
  simp only [fillOps, Act.put, List.setIfInBounds_toArray, List.set_cons_zero, List.set_cons_succ, Nat.zero_add, Nat.reduceAdd]
  apply wpFactsR_val
  case h1 =>
    intro vs L9 w9 hG9 hC9 hB K9 hK9
    simp only [Act.put, List.setIfInBounds_toArray, List.set_cons_zero, List.set_cons_succ] at hK9
    go_simp
    exact hK9 _ _ rfl hC9 (Below.refl _ _)
  apply wpFactsR_val
  case h1 =>
    intro vs L9 w9 hG9 hC9 hB K9 hK9
    simp only [Act.put, List.setIfInBounds_toArray, List.set_cons_zero, List.set_cons_succ] at hK9
    go_simp
    exact hK9 _ _ rfl hC9 (Below.refl _ _)
  apply wpFactsR_val
  case h1 =>
    intro vs L9 w9 hG9 hC9 hB K9 hK9
    simp only [Act.put, List.setIfInBounds_toArray, List.set_cons_zero, List.set_cons_succ] at hK9
    go_simp
    exact hK9 _ _ rfl hC9 (Below.refl _ _)
  apply wpFactsR_val
  case h1 =>
    intro vs L9 w9 hG9 hC9 hB K9 hK9
    have d2 := FactN.eq (hB 2 _ (by kernel_rfl) (by kernel_rfl) rfl (by decide))
    simp only [d2] at hK9 ⊢
    have q0 : w9.cell? ⟨p, 0, none⟩ = some (.int .i64 x.i) := (P2.below hC9 P2.lt).cell 0
    simp only [Act.put, List.setIfInBounds_toArray, List.set_cons_zero, List.set_cons_succ] at hK9
    go_simp
    exact hK9 _ _ rfl hC9 (Below.refl _ _)
  apply wpFactsR_val
  case h1 =>
    intro vs L9 w9 hG9 hC9 hB K9 hK9
    simp only [Act.put, List.setIfInBounds_toArray, List.set_cons_zero, List.set_cons_succ] at hK9
    go_simp
    exact hK9 _ _ rfl hC9 (Below.refl _ _)
  apply wpFactsR_val
  case h1 =>
    intro vs L9 w9 hG9 hC9 hB K9 hK9
    have d4 := FactN.eq (hB 4 _ (by kernel_rfl) (by kernel_rfl) rfl (by decide))
    simp only [d4] at hK9 ⊢
    have q0 : w9.cell? ⟨p, 1, none⟩ = some (.int .i64 x.r) := (P2.below hC9 P2.lt).cell 1
    simp only [Act.put, List.setIfInBounds_toArray, List.set_cons_zero, List.set_cons_succ] at hK9
    go_simp
    exact hK9 _ _ rfl hC9 (Below.refl _ _)
  apply wpFactsR_val
  case h1 =>
    intro vs L9 w9 hG9 hC9 hB K9 hK9
    have d3 := FactN.eq (hB 3 _ (by kernel_rfl) (by kernel_rfl) rfl (by decide))
    have d5 := FactN.eq (hB 5 _ (by kernel_rfl) (by kernel_rfl) rfl (by decide))
    simp only [d3, d5] at hK9 ⊢
    simp only [Act.put, List.setIfInBounds_toArray, List.set_cons_zero, List.set_cons_succ] at hK9
    go_simp
    exact hK9 _ _ rfl hC9 (Below.refl _ _)
  refine wpFactsR_some [] (fun v w9 => ∃ A c, v = .slice A l.length c ∧ OwnL w9 w2.heap.size A c (l.set j (againL x))) ?_ (fun vs L9 w9 hG9 hC9 hB K9 hK9 => ?_) ?_
  next =>
    intro i9 hi9 hb9 ha9 v w1 w2 hv hT9
    have hb := hT9
    obtain ⟨A, c, e, ho⟩ := hv
    exact ⟨A, c, e, ownsRow_below ho hb⟩
  next =>
    have d0 := FactN.eq (hB 0 _ (by kernel_rfl) (by kernel_rfl) rfl (by decide))
    have d1 := FactN.eq (hB 1 _ (by kernel_rfl) (by kernel_rfl) rfl (by decide))
    have d6 := FactN.eq (hB 6 _ (by kernel_rfl) (by kernel_rfl) rfl (by decide))
    simp only [d0, d1, d6] at hK9 ⊢
    simp only [Act.put, List.setIfInBounds_toArray, List.set_cons_zero, List.set_cons_succ] at hK9
    go_simp
    refine (l29With_any (some ⟨bl, off, none⟩) c l j (againL x) w9 (SlcR.up hW2 hC9 (Nat.le_refl _)) (by omega) hj).mono ?_
    rintro e w8 ⟨A, c, rfl, ho, hb8⟩
    exact hK9 _ _ _ rfl ⟨A, c, by rw [List.length_set], ownsRow_lower ho hC9.size⟩ (hC9.trans (hb8.mono hC9.size)) (hb8)
  apply wpFactsR_val
  case h1 =>
    intro vs L9 w9 hG9 hC9 hB K9 hK9
    simp only [Act.put, List.setIfInBounds_toArray, List.set_cons_zero, List.set_cons_succ] at hK9
    go_simp
    exact hK9 _ _ rfl hC9 (Below.refl _ _)
  apply wpFactsR_val
  case h1 =>
    intro vs L9 w9 hG9 hC9 hB K9 hK9
    have d8 := FactN.eq (hB 8 _ (by kernel_rfl) (by kernel_rfl) rfl (by decide))
    simp only [d8] at hK9 ⊢
    have q0 : w9.cell? ⟨p, 2, none⟩ = some (.int .i64 x.s) := (P2.below hC9 P2.lt).cell 2
    simp only [Act.put, List.setIfInBounds_toArray, List.set_cons_zero, List.set_cons_succ] at hK9
    go_simp
    exact hK9 _ _ rfl hC9 (Below.refl _ _)
  apply wpFactsR_val
  case h1 =>
    intro vs L9 w9 hG9 hC9 hB K9 hK9
    have d9 := FactN.eq (hB 9 _ (by kernel_rfl) (by kernel_rfl) rfl (by decide))
    simp only [d9] at hK9 ⊢
    simp only [Act.put, List.setIfInBounds_toArray, List.set_cons_zero, List.set_cons_succ] at hK9
    go_simp
    exact hK9 _ _ rfl hC9 (Below.refl _ _)
  refine wpFactsR_pair [] 7 (fun u v _ => v = u ∧ ∃ A c, u = .slice A l.length c) (by kernel_rfl) ?_ (fun vs L9 w9 hG9 hC9 hB K9 hK9 => ?_) ?_
  next =>
    intro i9 hi9 hb9 ha9 u v w1 w2 hv hT9
    exact hv
  next =>
    obtain ⟨A, c, e0, ho⟩ := hB 7 _ (by kernel_rfl) (by kernel_rfl) rfl (by decide)
    simp only [e0] at hK9 ⊢
    go_simp
    exact hK9 _ _ _ rfl ⟨rfl, A, c, rfl⟩ hC9 (Below.refl _ _)
  apply wpFactsR_val
  case h1 =>
    intro vs L9 w9 hG9 hC9 hB K9 hK9
    have d10 := FactN.eq (hB 10 _ (by kernel_rfl) (by kernel_rfl) rfl (by decide))
    simp only [d10] at hK9 ⊢
    simp only [Act.put, List.setIfInBounds_toArray, List.set_cons_zero, List.set_cons_succ] at hK9
    go_simp
    exact hK9 _ _ rfl hC9 (Below.refl _ _)
  refine wpFactsR_nil fun vs L9 w9 hL9 hC9 hB => ?_
  have ⟨e13, A8, c8, e9⟩ : vs 11 = vs 7 ∧ ∃ A c, vs 7 = .slice A l.length c := hB 11 _ rfl rfl (by decide)
  obtain ⟨A9, c9, e9', ho⟩ : ∃ A c, vs 7 = .slice A l.length c ∧ OwnL w9 w2.heap.size A c (l.set j (againL x)) := hB 7 _ rfl rfl (by decide)
  have d14 := FactN.eq (hB 12 _ rfl rfl (by decide))
  rw [e9'] at e13
  simp only [e13, d14]
  clear hB e13 e9 e9' d14
  have HF := Lib.hid ho
  have b3 := bthen b2 hC9
  clear ho
  cases d
  next =>
    obtain rfl : R = none := by simpa using HR.out
    go_wp2
    refine bodyPost_ret (v := .tuple #[.slice A9 l.length c9, .bool false]) (by simp [results, Tryd.results57, go_sem, *]) rfl (GivesMk.fail ?_)
    rw [hgb]
    exact b0.trans ((b3).mono b0s)
  next =>
    obtain rfl : R = some (l.set j (againL x)) := by simpa using HR.out
    go_wp2
    refine bodyPost_ret (v := .tuple #[.slice A9 l.length c9, .bool true]) (by simp [results, Tryd.results57, go_sem, *]) rfl (GivesMk.yes List.length_set (ownsRow_lower HF.out (by rw [hgb]; exact Nat.le_trans b0s hw2)) ?_)
    rw [hgb]
    exact b0.trans ((b3).mono b0s)
theorem specMakeA_any (A : Option Addr) (c : Nat) (l : List Lot) (s : ASt) (w : World) (h : LotsR w w.heap.size A l) (G : GoodL l) (hc : l.length ≤ c) (hs : s.ok = true) :
    Calls Tryd.prog 57 #[.slice A l.length c, s.val] w (GivesMk w (stepL l s)) := by
  obtain ⟨k, i, b, v⟩ := s
  have hk : k = 1 ∨ k = 2 ∨ k = 3 ∨ k = 4 ∨ k = 5 ∨ k = 6 := kinds hs
  rcases hk with rfl | rfl | rfl | rfl | rfl | rfl
  · by_cases hf : findIx l i < 0
    · rw [step1_add hf]; exact make1_yes A c l i b v w h G hc hf
    · rw [step1_none (by omega)]; exact make1_no A c l i b v w h G hc (by omega)
  · by_cases hf : findIx l i < 0
    · rw [stepF_none (by omega) hf]; exact make2_no A c l i b v w h G hc hf
    · obtain ⟨j, hf', hj⟩ := find_at hf
      rw [step2_drop hf' hj]; exact make2_yes A c l i b v w h G hc j hj hf'
  · by_cases hf : findIx l i < 0
    · rw [stepF_none (by omega) hf]; exact make3_no A c l i b v w h G hc hf
    · obtain ⟨j, hf', hj⟩ := find_at hf
      rw [step3_open hf' hj]; exact make3_yes A c l i b v w h G hc j hj hf'
  · exact make4 A c l i b v w h G hc
  · exact make5 A c l i b v w h G hc
  · by_cases hf : findIx l i < 0
    · rw [stepF_none (by omega) hf]; exact make6_no A c l i b v w h G hc hf
    · obtain ⟨j, hf', hj⟩ := find_at hf
      rw [step6_again hf' hj]; exact make6_yes A c l i b v w h G hc j hj hf'
end Go.Proofs.YtkokbmmffkpclaaDoor

/- The least bid; one step, checked. (Printed by gen_buy.py) -/
namespace Go.Proofs.YtkokbmmffkpclaaDoor
open Go.RowKit


def leastOk (l : List Lot) : Bool := goodLots l && decide (0 ≤ openIx l) && decide (leastV (atL l (openIx l)) ≤ 99999)
def leastR (l : List Lot) : Int := if leastOk l then leastV (atL l (openIx l)) else 0
theorem least_bad {l : List Lot} (h : goodLots l = false ∨ openIx l < 0 ∨ 99999 < leastV (atL l (openIx l))) : leastOk l = false ∧ leastR l = 0 := by
  have key : leastOk l = false := by
    unfold leastOk
    rcases h with h | h | h
    · rw [h]; rfl
    · rw [decide_eq_false (show ¬ 0 ≤ openIx l by omega), Bool.and_false, Bool.false_and]
    · rw [decide_eq_false (show ¬ leastV (atL l (openIx l)) ≤ 99999 by omega), Bool.and_false]
  exact ⟨key, by unfold leastR; rw [key]; rfl⟩
theorem least_yes {l : List Lot} (h : goodLots l = true) (h1 : 0 ≤ openIx l) (h2 : leastV (atL l (openIx l)) ≤ 99999) : leastOk l = true ∧ leastR l = leastV (atL l (openIx l)) := by
  have key : leastOk l = true := by unfold leastOk; rw [h, decide_eq_true h1, decide_eq_true h2]; rfl
  exact ⟨key, by unfold leastR; rw [key]; rfl⟩
def stepA (l : List Lot) (s : ASt) : Option (List Lot) := if goodLots l && s.ok then stepL l s else none

set_option maxRecDepth 100000 in
set_option maxHeartbeats 4000000 in
theorem implLeast_any (A : Option Addr) (c : Nat) (l : List Lot) (w : World) (h : LotsR w w.heap.size A l) :
    Calls Tryd.prog 16 #[.slice A l.length c] w (GivesN w (leastR l) (leastOk l)) := by
  have VA := fun W hW => isAuction_any A c l W hW
  have OX := fun W hW => openLot_any A c l W hW
  have HB := Lib.hid (fun h9 => least_bad (l := l) h9)
  have HY := Lib.hid (fun h7 h8 h9 => least_yes (l := l) h7 h8 h9)
  obtain ⟨rv, hrv⟩ : ∃ r, leastR l = r := ⟨_, rfl⟩
  obtain ⟨ro, hro⟩ : ∃ r, leastOk l = r := ⟨_, rfl⟩
  rw [hrv, hro] at HB HY ⊢
  clear hrv hro
  obtain ⟨g1, hg1⟩ : ∃ g, goodLots l = g := ⟨_, rfl⟩
  obtain ⟨ox, hox⟩ : ∃ x, openIx l = x := ⟨_, rfl⟩
  rw [hg1] at VA HB HY
  have HG := Lib.hid hg1
  have HOX := Lib.hid hox
  rw [hox] at HB HY
  clear hg1 hox
  go_enter Tryd.func16, Tryd.ntmps16
  go_wp2_with fail
  refine (VA w h).mono ?_
  rintro e w1 ⟨rfl, hb1⟩
  have hR1 : LotsR w1 w1.heap.size A l := SlcR.then h hb1

  cases g1
  next =>
    have HE := HB.out (.inl rfl)
    go_wp2
    refine bodyPost_ret (v := .tuple #[.int .i64 0, .bool false]) (by simp [results, Tryd.results16, go_sem, *]) rfl (GivesN.mk HE.2 HE.1 hb1)
  next =>
    go_wp2_with fail
    refine (OX w1 hR1).mono ?_
    rintro e w2 ⟨he, hb2⟩
    rw [HOX.out] at he
    subst he
    have b2 := bthen hb1 hb2
    have hR2 : LotsR w2 w2.heap.size A l := SlcR.then hR1 hb2

    by_cases hxn : ox < 0
    next =>
      have HE := HB.out (.inr (.inl hxn))
      go_wp2
      refine bodyPost_ret (v := .tuple #[.int .i64 0, .bool false]) (by simp [results, Tryd.results16, go_sem, *]) rfl (GivesN.mk HE.2 HE.1 b2)
    next =>
      have hoxn : ¬ ox < 0 := by omega
      obtain ⟨j, hj1, hj⟩ := open_at (l := l) (by rw [HOX.out]; exact hoxn)
      rw [HOX.out] at hj1
      subst hj1
      have G := goodL_iff.1 HG.out
      obtain ⟨bA, off, rfl, hbA, hcell⟩ := LotsR.el h (by omega)
      have hcx := hcell j hj
      have hat : atL l ((j : Nat) : Int) = l[j] := atL_eq rfl hj
      rw [hat] at HB HY
      have hxk := G.all l[j] (List.getElem_mem hj)
      obtain ⟨x, hxe⟩ : ∃ x, l[j] = x := ⟨_, rfl⟩
      rw [hxe] at hcx HB HY hxk
      have hxh := inR_iff.1 (lot_ok_iff.1 hxk).1.2.2.1
      have LB := fun W => leastBid_any x W hxh.1 hxh.2
      obtain ⟨m, hm⟩ : ∃ m, leastV x = m := ⟨_, rfl⟩
      rw [hm] at LB HB HY
      clear hm hxh hxk hat hxe hcell
      obtain ⟨c0, c1, c2, c3, c4⟩ := hcx
      have q0 := c0 ⟨w2, b2⟩
      have q1 := c1 ⟨w2, b2⟩
      have q2 := c2 ⟨w2, b2⟩
      have q3 := c3 ⟨w2, b2⟩
      have q4 := c4 ⟨w2, b2⟩
      simp only at q0 q1 q2 q3 q4
      have hj0 : (0 : Int) ≤ (j : Int) := by omega
      go_wp2_with fail
      refine (LB w2).mono ?_
      rintro e w3 ⟨rfl, hb3⟩
      have b3 := bthen b2 hb3
      clear q0 q1 q2 q3 q4
      by_cases hm9 : 99999 < m
      next =>
        have HE := HB.out (.inr (.inr hm9))
        go_wp2
        refine bodyPost_ret (v := .tuple #[.int .i64 0, .bool false]) (by simp [results, Tryd.results16, go_sem, *]) rfl (GivesN.mk HE.2 HE.1 b3)
      next =>
        have HE := HY.out (by trivial) (by omega) (by omega)
        have q0 := c0 ⟨w3, b3⟩
        have q1 := c1 ⟨w3, b3⟩
        have q2 := c2 ⟨w3, b3⟩
        have q3 := c3 ⟨w3, b3⟩
        have q4 := c4 ⟨w3, b3⟩
        simp only at q0 q1 q2 q3 q4
        go_wp2_with fail
        refine (LB w3).mono ?_
        rintro e w4 ⟨rfl, hb4⟩
        have HE1 := Lib.hid HE.1
        have HE2 := Lib.hid HE.2
        clear HE
        go_wp2
        refine bodyPost_ret (v := .tuple #[.int .i64 m, .bool true]) (by simp [results, Tryd.results16, go_sem, *]) rfl (GivesN.mk HE2.out HE1.out (bthen b3 hb4))

set_option maxRecDepth 100000 in
set_option maxHeartbeats 4000000 in
theorem specLeast_any (A : Option Addr) (c : Nat) (l : List Lot) (w : World) (h : LotsR w w.heap.size A l) :
    Calls Tryd.prog 17 #[.slice A l.length c] w (GivesN w (leastR l) (leastOk l)) := by
  have VA := fun W hW => l29Good_any A c l W hW
  have OX := fun W hW => l29Open_any A c l W hW
  have HB := Lib.hid (fun h9 => least_bad (l := l) h9)
  have HY := Lib.hid (fun h7 h8 h9 => least_yes (l := l) h7 h8 h9)
  obtain ⟨rv, hrv⟩ : ∃ r, leastR l = r := ⟨_, rfl⟩
  obtain ⟨ro, hro⟩ : ∃ r, leastOk l = r := ⟨_, rfl⟩
  rw [hrv, hro] at HB HY ⊢
  clear hrv hro
  obtain ⟨g1, hg1⟩ : ∃ g, goodLots l = g := ⟨_, rfl⟩
  obtain ⟨ox, hox⟩ : ∃ x, openIx l = x := ⟨_, rfl⟩
  rw [hg1] at VA HB HY
  have HG := Lib.hid hg1
  have HOX := Lib.hid hox
  rw [hox] at HB HY
  clear hg1 hox
  go_enter Tryd.func17, Tryd.ntmps17
  go_wp2_with fail
  refine (OX w h).mono ?_
  rintro e w1 ⟨he, hb1⟩
  rw [HOX.out] at he
  subst he
  have hR1 : LotsR w1 w1.heap.size A l := SlcR.then h hb1

  go_wp2_with fail
  refine (VA w1 hR1).mono ?_
  rintro e w2 ⟨rfl, hb2⟩
  have b2 := bthen hb1 hb2
  have hR2 : LotsR w2 w2.heap.size A l := SlcR.then hR1 hb2

  cases g1
  next =>
    have HE := HB.out (.inl rfl)
    go_wp2
    refine bodyPost_ret (v := .tuple #[.int .i64 0, .bool false]) (by simp [results, Tryd.results17, go_sem, *]) rfl (GivesN.mk HE.2 HE.1 b2)
  next =>
    by_cases hxn : ox < 0
    next =>
      have HE := HB.out (.inr (.inl hxn))
      go_wp2
      refine bodyPost_ret (v := .tuple #[.int .i64 0, .bool false]) (by simp [results, Tryd.results17, go_sem, *]) rfl (GivesN.mk HE.2 HE.1 b2)
    next =>
      have hoxn : ¬ ox < 0 := by omega
      obtain ⟨j, hj1, hj⟩ := open_at (l := l) (by rw [HOX.out]; exact hoxn)
      rw [HOX.out] at hj1
      subst hj1
      have G := goodL_iff.1 HG.out
      obtain ⟨bA, off, rfl, hbA, hcell⟩ := LotsR.el h (by omega)
      have hcx := hcell j hj
      have hat : atL l ((j : Nat) : Int) = l[j] := atL_eq rfl hj
      rw [hat] at HB HY
      have hxk := G.all l[j] (List.getElem_mem hj)
      obtain ⟨x, hxe⟩ : ∃ x, l[j] = x := ⟨_, rfl⟩
      rw [hxe] at hcx HB HY hxk
      have hxh := inR_iff.1 (lot_ok_iff.1 hxk).1.2.2.1
      have LB := fun W => l29Least_any x W hxh.1 hxh.2
      obtain ⟨m, hm⟩ : ∃ m, leastV x = m := ⟨_, rfl⟩
      rw [hm] at LB HB HY
      clear hm hxh hxk hat hxe hcell
      obtain ⟨c0, c1, c2, c3, c4⟩ := hcx
      have q0 := c0 ⟨w2, b2⟩
      have q1 := c1 ⟨w2, b2⟩
      have q2 := c2 ⟨w2, b2⟩
      have q3 := c3 ⟨w2, b2⟩
      have q4 := c4 ⟨w2, b2⟩
      simp only at q0 q1 q2 q3 q4
      have hj0 : (0 : Int) ≤ (j : Int) := by omega
      go_wp2_with fail
      refine (LB w2).mono ?_
      rintro e w3 ⟨rfl, hb3⟩
      have b3 := bthen b2 hb3
      clear q0 q1 q2 q3 q4
      by_cases hm9 : 99999 < m
      next =>
        have HE := HB.out (.inr (.inr hm9))
        go_wp2
        refine bodyPost_ret (v := .tuple #[.int .i64 0, .bool false]) (by simp [results, Tryd.results17, go_sem, *]) rfl (GivesN.mk HE.2 HE.1 b3)
      next =>
        have HE := HY.out (by trivial) (by omega) (by omega)
        have q0 := c0 ⟨w3, b3⟩
        have q1 := c1 ⟨w3, b3⟩
        have q2 := c2 ⟨w3, b3⟩
        have q3 := c3 ⟨w3, b3⟩
        have q4 := c4 ⟨w3, b3⟩
        simp only at q0 q1 q2 q3 q4
        go_wp2_with fail
        refine (LB w3).mono ?_
        rintro e w4 ⟨rfl, hb4⟩
        have HE1 := Lib.hid HE.1
        have HE2 := Lib.hid HE.2
        clear HE
        go_wp2
        refine bodyPost_ret (v := .tuple #[.int .i64 m, .bool true]) (by simp [results, Tryd.results17, go_sem, *]) rfl (GivesN.mk HE2.out HE1.out (bthen b3 hb4))

set_option maxRecDepth 100000 in
set_option maxHeartbeats 4000000 in
theorem implStepAuc_any (A : Option Addr) (c : Nat) (l : List Lot) (s : ASt) (w : World) (h : LotsR w w.heap.size A l) :
    Calls Tryd.prog 18 #[.slice A l.length c, s.val] w (GivesMk w (stepA l s)) := by
  have b0 := (Below.refl w.heap.size w).alloc (Nat.le_refl _) (.cells #[.int .i64 s.k, .int .i64 s.i, .int .i64 s.b, .int .i64 s.v] 39)
  have L0 := Lies.new w 39 #[.int .i64 s.k, .int .i64 s.i, .int .i64 s.b, .int .i64 s.v]
  have hW : LotsR _ _ A l := SlcR.then h b0
  have VA := fun W hW => isAuction_any A c l W hW
  have SA := fun W => isAuctionStep_any s W
  obtain ⟨g1, hg1⟩ : ∃ g, goodLots l = g := ⟨_, rfl⟩
  obtain ⟨g2, hg2⟩ : ∃ g, s.ok = g := ⟨_, rfl⟩
  rw [hg1] at VA
  rw [hg2] at SA
  have HG := Lib.hid hg1
  have HS := Lib.hid hg2
  have HR : Hid (stepA l s = if g1 && g2 then stepL l s else none) := by rw [Hid, ← hg1, ← hg2]; rfl
  clear hg1 hg2
  obtain ⟨R, hR⟩ : ∃ R, stepA l s = R := ⟨_, rfl⟩
  rw [hR] at HR ⊢
  clear hR
  go_enter Tryd.func18, Tryd.ntmps18
  go_wp2_with fail
  generalize w.alloc (.cells #[.int .i64 s.k, .int .i64 s.i, .int .i64 s.b, .int .i64 s.v] 39) = W at b0 L0 hW ⊢
  refine (VA W hW).mono ?_
  rintro e w1 ⟨rfl, hb1⟩
  have L1 := L0.below hb1 L0.lt
  have hR1 : LotsR w1 w1.heap.size A l := SlcR.then hW hb1
  have b1 := bthen b0 hb1
  clear L0 hW b0
  have s0 := L1.cell 0
  have s1 := L1.cell 1
  have s2 := L1.cell 2
  have s3 := L1.cell 3
  simp only [List.getElem?_cons_zero, List.getElem?_cons_succ] at s0 s1 s2 s3
  cases g1
  · obtain rfl : R = none := HR.out
    go_wp2
    refine bodyPost_ret (v := .tuple #[.slice none 0 0, .bool false]) (by simp [results, Tryd.results18, go_sem, *]) rfl (GivesMk.fail b1)
  · go_wp2_with fail
    refine (SA w1).mono ?_
    rintro e w2 ⟨rfl, hb2⟩
    have L2 := L1.below hb2 L1.lt
    have hR2 : LotsR w2 w2.heap.size A l := SlcR.then hR1 hb2
    have b2 := bthen b1 hb2
    clear L1 hR1 s0 s1 s2 s3
    have s0 := L2.cell 0
    have s1 := L2.cell 1
    have s2 := L2.cell 2
    have s3 := L2.cell 3
    simp only [List.getElem?_cons_zero, List.getElem?_cons_succ] at s0 s1 s2 s3
    cases g2
    · obtain rfl : R = none := HR.out
      go_wp2
      refine bodyPost_ret (v := .tuple #[.slice none 0 0, .bool false]) (by simp [results, Tryd.results18, go_sem, *]) rfl (GivesMk.fail b2)
    · have HR' : Hid (R = stepL l s) := HR.out
      have CS := implStepA_any A c l s w2 hR2 (goodL_iff.1 HG.out) HS.out
      rw [← HR'.out] at CS
      go_wp2_with fail
      refine CS.mono ?_
      rintro e w3 ⟨v3, rfl, hv3, hb3⟩
      have b3 := bthen b2 hb3
      clear L2 hR2 s0 s1 s2 s3 CS
      cases R with
      | none =>
        simp only [Option.isSome_none]
        clear hv3
        go_wp2
        refine bodyPost_ret (v := .tuple #[v3, .bool false]) (by simp [results, Tryd.results18, go_sem, *]) rfl (GivesMk.fail b3)
      | some r =>
        obtain ⟨A3, c3, rfl, ho3⟩ := hv3 r rfl
        have HO3 := Lib.hid ho3
        clear hv3 ho3
        simp only [Option.isSome_some]
        go_wp2
        refine bodyPost_ret (v := .tuple #[.slice A3 r.length c3, .bool true]) (by simp [results, Tryd.results18, go_sem, *]) rfl (GivesMk.yes rfl (ownsRow_lower HO3.out b2.size) b3)

set_option maxRecDepth 100000 in
set_option maxHeartbeats 4000000 in
theorem specStepAuc_any (A : Option Addr) (c : Nat) (l : List Lot) (s : ASt) (w : World) (h : LotsR w w.heap.size A l) (hc : l.length ≤ c) :
    Calls Tryd.prog 41 #[.slice A l.length c, s.val] w (GivesMk w (stepA l s)) := by
  have b0 := (Below.refl w.heap.size w).alloc (Nat.le_refl _) (.cells #[.int .i64 s.k, .int .i64 s.i, .int .i64 s.b, .int .i64 s.v] 39)
  have L0 := Lies.new w 39 #[.int .i64 s.k, .int .i64 s.i, .int .i64 s.b, .int .i64 s.v]
  have hW : LotsR _ _ A l := SlcR.then h b0
  have VA := fun W hW => l29Good_any A c l W hW
  have SA := fun W => l29Step_any s W
  obtain ⟨g1, hg1⟩ : ∃ g, goodLots l = g := ⟨_, rfl⟩
  obtain ⟨g2, hg2⟩ : ∃ g, s.ok = g := ⟨_, rfl⟩
  rw [hg1] at VA
  rw [hg2] at SA
  have HG := Lib.hid hg1
  have HS := Lib.hid hg2
  have HR : Hid (stepA l s = if g1 && g2 then stepL l s else none) := by rw [Hid, ← hg1, ← hg2]; rfl
  clear hg1 hg2
  obtain ⟨R, hR⟩ : ∃ R, stepA l s = R := ⟨_, rfl⟩
  rw [hR] at HR ⊢
  clear hR
  go_enter Tryd.func41, Tryd.ntmps41
  go_wp2_with fail
  generalize w.alloc (.cells #[.int .i64 s.k, .int .i64 s.i, .int .i64 s.b, .int .i64 s.v] 39) = W at b0 L0 hW ⊢
  refine (VA W hW).mono ?_
  rintro e w1 ⟨rfl, hb1⟩
  have L1 := L0.below hb1 L0.lt
  have hR1 : LotsR w1 w1.heap.size A l := SlcR.then hW hb1
  have b1 := bthen b0 hb1
  clear L0 hW b0
  have s0 := L1.cell 0
  have s1 := L1.cell 1
  have s2 := L1.cell 2
  have s3 := L1.cell 3
  simp only [List.getElem?_cons_zero, List.getElem?_cons_succ] at s0 s1 s2 s3
  cases g1
  · obtain rfl : R = none := HR.out
    go_wp2
    refine bodyPost_ret (v := .tuple #[.slice (some ⟨w1.heap.size, 0, none⟩) 0 0, .bool false]) (by simp [results, Tryd.results41, go_sem, *]) rfl (GivesMk.fail (bthen b1 ((Below.refl _ _).alloc (Nat.le_refl _) (.cells #[] 41))))
  · go_wp2_with fail
    refine (SA w1).mono ?_
    rintro e w2 ⟨rfl, hb2⟩
    have L2 := L1.below hb2 L1.lt
    have hR2 : LotsR w2 w2.heap.size A l := SlcR.then hR1 hb2
    have b2 := bthen b1 hb2
    clear L1 hR1 s0 s1 s2 s3
    have s0 := L2.cell 0
    have s1 := L2.cell 1
    have s2 := L2.cell 2
    have s3 := L2.cell 3
    simp only [List.getElem?_cons_zero, List.getElem?_cons_succ] at s0 s1 s2 s3
    cases g2
    · obtain rfl : R = none := HR.out
      go_wp2
      refine bodyPost_ret (v := .tuple #[.slice (some ⟨w2.heap.size, 0, none⟩) 0 0, .bool false]) (by simp [results, Tryd.results41, go_sem, *]) rfl (GivesMk.fail (bthen b2 ((Below.refl _ _).alloc (Nat.le_refl _) (.cells #[] 41))))
    · have HR' : Hid (R = stepL l s) := HR.out
      have CS := specMakeA_any A c l s w2 hR2 (goodL_iff.1 HG.out) hc HS.out
      rw [← HR'.out] at CS
      go_wp2_with fail
      refine CS.mono ?_
      rintro e w3 ⟨v3, rfl, hv3, hb3⟩
      have b3 := bthen b2 hb3
      clear L2 hR2 s0 s1 s2 s3 CS
      cases R with
      | none =>
        simp only [Option.isSome_none]
        clear hv3
        go_wp2
        refine bodyPost_ret (v := .tuple #[.slice (some ⟨w3.heap.size, 0, none⟩) 0 0, .bool false]) (by simp [results, Tryd.results41, go_sem, *]) rfl (GivesMk.fail (bthen b3 ((Below.refl _ _).alloc (Nat.le_refl _) (.cells #[] 41))))
      | some r =>
        obtain ⟨A3, c3, rfl, ho3⟩ := hv3 r rfl
        have HO3 := Lib.hid ho3
        clear hv3 ho3
        simp only [Option.isSome_some]
        go_wp2
        refine bodyPost_ret (v := .tuple #[.slice A3 r.length c3, .bool true]) (by simp [results, Tryd.results41, go_sem, *]) rfl (GivesMk.yes rfl (ownsRow_lower HO3.out b2.size) b3)

end Go.Proofs.YtkokbmmffkpclaaDoor
