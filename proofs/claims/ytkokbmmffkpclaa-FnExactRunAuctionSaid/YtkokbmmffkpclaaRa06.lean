/- Ra06: the texts LotMake2 RunAS LawAuc Open, joined into one file. -/
import Derived.ProofKit
import Derived.ChangeOld
import Derived.ShutString
import Derived.OpenShut
import Derived.Deep.Slices
import Derived.Deep.Fields
import Derived.Test.YtkokbmmffkpclaaRa01
import Derived.Test.YtkokbmmffkpclaaRa04
import Derived.Test.YtkokbmmffkpclaaRa05

set_option linter.unusedVariables false

/- A step of an auction in the reference: a lot is dropped, or waits again. (Printed by gen_lotmake.py) -/
namespace Go.Proofs.Ytkokbmmffkpclaa
open Go.RowKit

set_option maxRecDepth 100000 in
set_option maxHeartbeats 4000000 in
theorem make2_yes (A : Option Addr) (c : Nat) (l : List Lot) (i b v : Int) (w : World) (h : LotsR w w.heap.size A l) (G : GoodL l) (hc : l.length ≤ c) (j : Nat) (hj : j < l.length) (hf : findIx l i = j) :
    Calls Try.prog 17 #[.slice A l.length c, .agg #[.int .i64 2, .int .i64 i, .int .i64 b, .int .i64 v]] w (GivesMk w (if l[j].s = 0 then some (delL l j) else none)) := by
  obtain ⟨x, hxe⟩ : ∃ x, l[j] = x := ⟨_, rfl⟩
  rw [hxe]
  obtain ⟨d, hd⟩ : ∃ d, (x.s == 0) = d := ⟨_, rfl⟩
  obtain ⟨R, hR⟩ : ∃ R, (if x.s = 0 then some (delL l j) else none) = R := ⟨_, rfl⟩
  have HR : Hid (R = if d = true then some (delL l j) else none) := by
    rw [Hid, ← hR, ← hd]
    simp
  rw [hR]
  clear hR
  have hz0 : (0 : Int) ≤ (j : Int) := by omega
  have hzi : ¬ (j : Int) < 0 := by omega
  have HO := Lib.hid hf
  clear hf
  have b0 := (Below.refl w.heap.size w).alloc (Nat.le_refl _) (.cells #[.int .i64 2, .int .i64 i, .int .i64 b, .int .i64 v] 40)
  have b0s := b0.size
  have L0 := Lies.new w 40 #[.int .i64 2, .int .i64 i, .int .i64 b, .int .i64 v]
  have hW := SlcR.up h b0 (Nat.le_refl _)
  have len := G.len
  go_enter Try.func17, Try.ntmps17
  go_wp2_with fail
  generalize w.alloc (.cells #[.int .i64 2, .int .i64 i, .int .i64 b, .int .i64 v] 40) = W at b0 b0s L0 hW ⊢
  generalize hgb : w.heap.size = g at L0 ⊢
  rw [hgb] at b0 b0s
  refine (l29Find_any A c l i W hW).mono ?_
  rintro e w1 ⟨he, hb1⟩
  rw [HO.out] at he
  subst he
  have L1 := L0.below hb1 L0.lt
  have hW1 := SlcR.then hW hb1
  have s0 := L1.cell 0
  have s1 := L1.cell 1
  have s2 := L1.cell 2
  have s3 := L1.cell 3
  simp only [List.getElem?_cons_zero, List.getElem?_cons_succ] at s0 s1 s2 s3
  obtain ⟨bl, off, rfl, hbl, hcell⟩ := (LotsR.el hW1) (by omega)
  have hcx := hcell j hj
  rw [hxe] at hcx
  obtain ⟨c0, c1', c2, c3, c4⟩ := hcx
  have q0 := c0 ⟨w1, Below.refl _ _⟩
  have q1 := c1' ⟨w1, Below.refl _ _⟩
  have q2 := c2 ⟨w1, Below.refl _ _⟩
  have q3 := c3 ⟨w1, Below.refl _ _⟩
  have q4 := c4 ⟨w1, Below.refl _ _⟩
  clear hcell
  go_upto_region 11 with fail
  have P2 := Lies.new w1 44 #[.int .i64 x.i, .int .i64 x.r, .int .i64 x.s, .int .i64 x.h, .int .i64 x.b]
  have hal := (Below.refl w1.heap.size w1).alloc (Nat.le_refl _) (.cells #[.int .i64 x.i, .int .i64 x.r, .int .i64 x.s, .int .i64 x.h, .int .i64 x.b] 44)
  have L2 := L1.below hal L1.lt
  have b2 := bthen hb1 hal
  have hp := hb1.size
  generalize hw2 : w1.alloc (.cells #[.int .i64 x.i, .int .i64 x.r, .int .i64 x.s, .int .i64 x.h, .int .i64 x.b] 44) = w2 at P2 hal L2 b2 ⊢
  clear hw2 hal s0 s1 s2 s3 q0 q1 q2 q3 q4 c0 c1' c2 c3 c4 L1
  generalize w1.heap.size = p at P2 hp ⊢
  have s0 := L2.cell 0
  have s1 := L2.cell 1
  have s2 := L2.cell 2
  have s3 := L2.cell 3
  simp only [List.getElem?_cons_zero, List.getElem?_cons_succ] at s0 s1 s2 s3
  have p0 := P2.cell 0
  have p1 := P2.cell 1
  have p2 := P2.cell 2
  have p3 := P2.cell 3
  have p4 := P2.cell 4
  simp only [List.getElem?_cons_zero, List.getElem?_cons_succ] at p0 p1 p2 p3 p4
  have hW2 : LotsR w2 w2.heap.size _ l := SlcR.up hW b2 (Nat.le_refl _)
  have hw2 := b2.size
  have hj1 : j + 1 ≤ l.length := hj
  have hjl : j ≤ l.length := Nat.le_of_lt hj
  have i3 : IntKind.i64.wrap ((j : Int) + 1) = ((j + 1 : Nat) : Int) := by rw [IntWalk.i64_in _ (by omega)]; rfl
  go_upto_region 13 with fail
  refine wp_region_factsR (fun _ => (fun W9 => Below w2.heap.size w2 W9)) (fun i w1 w2 => i ∉ [9] → Below w1.heap.size w1 w2) (by kernel_rfl) (by kernel_rfl) (by kernel_rfl) (Below.refl _ _).drew ?_
  simp only [fillOps, Act.put, List.setIfInBounds_toArray, List.set_cons_zero, List.set_cons_succ, Nat.zero_add, Nat.reduceAdd]
  refine wpFactsR_some [9] (fun v w9 => ∃ g, v = .slice (some ⟨g, 0, none⟩) 0 0 ∧ w2.heap.size ≤ g ∧ Lies w9 g 44 []) ?_ (fun vs L9 w9 hG9 hC9 hB K9 hK9 => ?_) ?_
  next =>
    intro i9 hi9 hb9 ha9 v w1 w2 hv hT9
    have hb := hT9 (fun hm => by
      simp only [List.mem_cons, List.not_mem_nil, or_false] at hm hb9
      subst hm
      · exact hb9 (by simp))
    obtain ⟨g, e, hg, hl⟩ := hv
    exact ⟨g, e, hg, hl.below hb hl.lt⟩
  next =>
    simp only [Act.put, List.setIfInBounds_toArray, List.set_cons_zero, List.set_cons_succ] at hK9
    go_simp
    exact hK9 _ _ _ rfl ⟨_, rfl, hC9.size, Lies.new w9 44 #[]⟩ (hC9.alloc hC9.size _) (fun _ => (Below.refl _ _).alloc (Nat.le_refl _) _)
  apply wpFactsR_val
  case h1 =>
    intro vs L9 w9 hG9 hC9 hB K9 hK9
    simp only [Act.put, List.setIfInBounds_toArray, List.set_cons_zero, List.set_cons_succ] at hK9
    go_simp
    exact hK9 _ _ rfl hC9 (fun _ => Below.refl _ _)
  apply wpFactsR_val
  case h1 =>
    intro vs L9 w9 hG9 hC9 hB K9 hK9
    simp only [Act.put, List.setIfInBounds_toArray, List.set_cons_zero, List.set_cons_succ] at hK9
    go_simp
    exact hK9 _ _ rfl hC9 (fun _ => Below.refl _ _)
  apply wpFactsR_val
  case h1 =>
    intro vs L9 w9 hG9 hC9 hB K9 hK9
    have d1 := FactN.eq (hB 1 _ (by kernel_rfl) (by kernel_rfl) rfl (by decide))
    have d2 := FactN.eq (hB 2 _ (by kernel_rfl) (by kernel_rfl) rfl (by decide))
    simp only [d1, d2] at hK9 ⊢
    simp only [Act.put, List.setIfInBounds_toArray, List.set_cons_zero, List.set_cons_succ] at hK9
    refine step_sliceTo rfl 26 44 (.tmp 60) (.tmp 61) rfl Try.underlying26 5 infoLot_size (some ⟨bl, off, none⟩) l.length c j (by rfl) (by rfl) hjl hc ?_
    exact hK9 _ _ rfl hC9 (fun _ => Below.refl _ _)
  refine wpFactsR_some [9] (fun v w9 => ∃ A c, v = .slice A (j) c ∧ w9.ownsRow w2.heap.size 44 5 (.slice A (j) c) (j) ((l.flatMap Lot.enc).take (j * 5))) ?_ (fun vs L9 w9 hG9 hC9 hB K9 hK9 => ?_) ?_
  next =>
    intro i9 hi9 hb9 ha9 v w1 w2 hv hT9
    have hb := hT9 (fun hm => by
      simp only [List.mem_cons, List.not_mem_nil, or_false] at hm hb9
      subst hm
      · exact hb9 (by simp))
    obtain ⟨A, c, e, ho⟩ := hv
    exact ⟨A, c, e, ownsRow_below ho hb⟩
  next =>
    have d3 := FactN.eq (hB 3 _ (by kernel_rfl) (by kernel_rfl) rfl (by decide))
    simp only [d3] at hK9 ⊢
    simp only [Act.put, List.setIfInBounds_toArray, List.set_cons_zero, List.set_cons_succ] at hK9
    obtain ⟨g, e0, hg, hl⟩ := hB 0 _ (by kernel_rfl) (by kernel_rfl) rfl (by decide)
    simp only [e0] at hK9 ⊢
    refine stepCat rfl (.tmp 59) (.tmp 62) 26 rfl 44 _ 5 40 Try.underlying26 infoLot rfl (by omega) (by omega) w2.heap.size g (by rfl) hl hg w2.heap.size (some ⟨bl, off, none⟩) j c _ (by rfl) (SlcR.take (SlcR.below hW2 hC9) j hjl) (fun u hu => lot_cells u (List.mem_of_mem_take hu)) (by omega) ?_
    intro v' w' ho hb
    obtain ⟨A', c', rfl⟩ := ownsRow_slice ho
    exact hK9 _ _ _ rfl ⟨A', c', rfl, ho⟩ (hC9.trans (hb.mono hC9.size)) (fun _ => hb)
  apply wpFactsR_val
  case h1 =>
    intro vs L9 w9 hG9 hC9 hB K9 hK9
    simp only [Act.put, List.setIfInBounds_toArray, List.set_cons_zero, List.set_cons_succ] at hK9
    go_simp
    exact hK9 _ _ rfl hC9 (fun _ => Below.refl _ _)
  apply wpFactsR_val
  case h1 =>
    intro vs L9 w9 hG9 hC9 hB K9 hK9
    simp only [Act.put, List.setIfInBounds_toArray, List.set_cons_zero, List.set_cons_succ] at hK9
    go_simp
    exact hK9 _ _ rfl hC9 (fun _ => Below.refl _ _)
  apply wpFactsR_val
  case h1 =>
    intro vs L9 w9 hG9 hC9 hB K9 hK9
    have d6 := FactN.eq (hB 6 _ (by kernel_rfl) (by kernel_rfl) rfl (by decide))
    simp only [d6] at hK9 ⊢
    simp only [Act.put, List.setIfInBounds_toArray, List.set_cons_zero, List.set_cons_succ] at hK9
    go_simp
    exact hK9 _ _ rfl hC9 (fun _ => Below.refl _ _)
  refine wpFactsR_some [] (fun v w9 => ∃ A, v = .slice A (l.length - (j + 1)) (c - (j + 1)) ∧ ∀ W9, Below w2.heap.size w2 W9 → SlcR W9 w2.heap.size 5 A (l.length - (j + 1)) ((l.flatMap Lot.enc).drop ((j + 1) * 5))) ?_ (fun vs L9 w9 hG9 hC9 hB K9 hK9 => ?_) ?_
  next =>
    intro i9 hi9 hb9 ha9 v w1 w2 hv hT9
    exact hv
  next =>
    have d5 := FactN.eq (hB 5 _ (by kernel_rfl) (by kernel_rfl) rfl (by decide))
    have d7 := FactN.eq (hB 7 _ (by kernel_rfl) (by kernel_rfl) rfl (by decide))
    simp only [d5, d7] at hK9 ⊢
    simp only [Act.put, List.setIfInBounds_toArray, List.set_cons_zero, List.set_cons_succ] at hK9
    refine step_sliceFrom rfl 26 44 (.tmp 64) (.tmp 66) rfl Try.underlying26 5 infoLot_size (some ⟨bl, off, none⟩) l.length c (j + 1) (by rfl) (by rfl) hj1 hc ?_
    intro A' hA9
    exact hK9 _ _ _ rfl ⟨A', rfl, fun W9 hW => hA9 _ _ _ (SlcR.below hW2 hW)⟩ hC9 (fun _ => Below.refl _ _)
  refine wpFactsR_some [] (fun v w9 => ∃ A c, v = .slice A (j + (l.length - (j + 1))) c ∧ w9.ownsRow w2.heap.size 44 5 (.slice A (j + (l.length - (j + 1))) c) (j + (l.length - (j + 1))) ((l.flatMap Lot.enc).take (j * 5) ++ (l.flatMap Lot.enc).drop ((j + 1) * 5))) ?_ (fun vs L9 w9 hG9 hC9 hB K9 hK9 => ?_) ?_
  next =>
    intro i9 hi9 hb9 ha9 v w1 w2 hv hT9
    have hb := hT9 (fun hm => by
      simp only [List.mem_cons, List.not_mem_nil, or_false] at hm hb9
      subst hm
      · exact hi9 rfl)
    obtain ⟨A, c, e, ho⟩ := hv
    exact ⟨A, c, e, ownsRow_below ho hb⟩
  next =>
    simp only [Act.put, List.setIfInBounds_toArray, List.set_cons_zero, List.set_cons_succ] at hK9
    obtain ⟨A, c, e10, ho⟩ := hB 4 _ (by kernel_rfl) (by kernel_rfl) rfl (by decide)
    obtain ⟨A14, e14, hr⟩ := hB 8 _ (by kernel_rfl) (by kernel_rfl) rfl (by decide)
    simp only [e10, e14] at hK9 ⊢
    refine step_cat rfl (.tmp 63) (.tmp 67) 26 rfl 44 _ 5 40 Try.underlying26 infoLot rfl (by omega) (by omega) w2.heap.size _ j _ (by rfl) ho w2.heap.size A14 (l.length - (j + 1)) (_ - (j + 1)) _ (by rfl) (hr w9 hC9) (fun u hu => lot_cells u (List.mem_of_mem_drop hu)) (by omega) hC9.size ?_
    intro A' c' w' ho' _ hb
    exact hK9 _ _ _ rfl ⟨A', c', rfl, ho'⟩ (hC9.trans hb) (fun hq => (hq (by decide)).elim)
  apply wpFactsR_val
  case h1 =>
    intro vs L9 w9 hG9 hC9 hB K9 hK9
    simp only [Act.put, List.setIfInBounds_toArray, List.set_cons_zero, List.set_cons_succ] at hK9
    go_simp
    exact hK9 _ _ rfl hC9 (fun _ => Below.refl _ _)
  apply wpFactsR_val
  case h1 =>
    intro vs L9 w9 hG9 hC9 hB K9 hK9
    have d10 := FactN.eq (hB 10 _ (by kernel_rfl) (by kernel_rfl) rfl (by decide))
    simp only [d10] at hK9 ⊢
    have q0 : w9.cell? ⟨p, 2, none⟩ = some (.int .i64 x.s) := (P2.below hC9 P2.lt).cell 2
    simp only [Act.put, List.setIfInBounds_toArray, List.set_cons_zero, List.set_cons_succ] at hK9
    go_simp
    exact hK9 _ _ rfl hC9 (fun _ => Below.refl _ _)
  apply wpFactsR_val
  case h1 =>
    intro vs L9 w9 hG9 hC9 hB K9 hK9
    have d11 := FactN.eq (hB 11 _ (by kernel_rfl) (by kernel_rfl) rfl (by decide))
    simp only [d11] at hK9 ⊢
    simp only [Act.put, List.setIfInBounds_toArray, List.set_cons_zero, List.set_cons_succ] at hK9
    go_simp
    exact hK9 _ _ rfl hC9 (fun _ => Below.refl _ _)
  refine wpFactsR_pair [] 9 (fun u v _ => v = u ∧ ∃ A c, u = .slice A (j + (l.length - (j + 1))) c) (by kernel_rfl) ?_ (fun vs L9 w9 hG9 hC9 hB K9 hK9 => ?_) ?_
  next =>
    intro i9 hi9 hb9 ha9 u v w1 w2 hv hT9
    exact hv
  next =>
    obtain ⟨A, c, e0, ho⟩ := hB 9 _ (by kernel_rfl) (by kernel_rfl) rfl (by decide)
    simp only [e0] at hK9 ⊢
    go_simp
    exact hK9 _ _ _ rfl ⟨rfl, A, c, rfl⟩ hC9 (fun _ => Below.refl _ _)
  apply wpFactsR_val
  case h1 =>
    intro vs L9 w9 hG9 hC9 hB K9 hK9
    have d12 := FactN.eq (hB 12 _ (by kernel_rfl) (by kernel_rfl) rfl (by decide))
    simp only [d12] at hK9 ⊢
    simp only [Act.put, List.setIfInBounds_toArray, List.set_cons_zero, List.set_cons_succ] at hK9
    go_simp
    exact hK9 _ _ rfl hC9 (fun _ => Below.refl _ _)
  refine wpFactsR_nil fun vs L9 w9 hL9 hC9 hB => ?_
  have ⟨e13, A8, c8, e9⟩ : vs 13 = vs 9 ∧ ∃ A c, vs 9 = .slice A (j + (l.length - (j + 1))) c := hB 13 _ rfl rfl (by decide)
  obtain ⟨A9, c9, e9', ho⟩ : ∃ A c, vs 9 = .slice A (j + (l.length - (j + 1))) c ∧ w9.ownsRow w2.heap.size 44 5 (.slice A (j + (l.length - (j + 1))) c) (j + (l.length - (j + 1))) ((l.flatMap Lot.enc).take (j * 5) ++ (l.flatMap Lot.enc).drop ((j + 1) * 5)) := hB 9 _ rfl rfl (by decide)
  have d14 := FactN.eq (hB 14 _ rfl rfl (by decide))
  rw [e9'] at e13
  simp only [e13, d14]
  clear hB e13 e9 e9' d14
  have hlen : (delL l j).length = j + (l.length - (j + 1)) := by unfold delL; simp; omega
  have hcs : (delL l j).flatMap Lot.enc = (l.flatMap Lot.enc).take (j * 5) ++ (l.flatMap Lot.enc).drop ((j + 1) * 5) := by
    unfold delL; rw [List.flatMap_append, flat_takeL, flat_dropL]
  rw [← hcs, ← hlen] at ho
  rw [← hlen]
  have HF := Lib.hid ho
  have b3 := bthen b2 hC9
  clear ho hcs
  cases d
  next =>
    obtain rfl : R = none := by simpa using HR.out
    go_wp2
    refine bodyPost_ret (v := .tuple #[.slice A9 (delL l j).length c9, .bool false]) (by simp [results, Try.results17, go_sem, *]) rfl (GivesMk.fail ?_)
    rw [hgb]
    exact b0.trans ((b3).mono b0s)
  next =>
    obtain rfl : R = some (delL l j) := by simpa using HR.out
    go_wp2
    refine bodyPost_ret (v := .tuple #[.slice A9 (delL l j).length c9, .bool true]) (by simp [results, Try.results17, go_sem, *]) rfl (GivesMk.yes rfl (ownsRow_lower HF.out (by rw [hgb]; exact Nat.le_trans b0s hw2)) ?_)
    rw [hgb]
    exact b0.trans ((b3).mono b0s)
set_option maxRecDepth 100000 in
set_option maxHeartbeats 4000000 in
theorem make6_yes (A : Option Addr) (c : Nat) (l : List Lot) (i b v : Int) (w : World) (h : LotsR w w.heap.size A l) (G : GoodL l) (hc : l.length ≤ c) (j : Nat) (hj : j < l.length) (hf : findIx l i = j) :
    Calls Try.prog 17 #[.slice A l.length c, .agg #[.int .i64 6, .int .i64 i, .int .i64 b, .int .i64 v]] w (GivesMk w (if l[j].s = 3 then some (l.set j (againL l[j])) else none)) := by
  obtain ⟨x, hxe⟩ : ∃ x, l[j] = x := ⟨_, rfl⟩
  rw [hxe]
  obtain ⟨d, hd⟩ : ∃ d, (x.s == 3) = d := ⟨_, rfl⟩
  obtain ⟨R, hR⟩ : ∃ R, (if x.s = 3 then some (l.set j (againL x)) else none) = R := ⟨_, rfl⟩
  have HR : Hid (R = if d = true then some (l.set j (againL x)) else none) := by
    rw [Hid, ← hR, ← hd]
    simp
  rw [hR]
  clear hR
  have hz0 : (0 : Int) ≤ (j : Int) := by omega
  have hzi : ¬ (j : Int) < 0 := by omega
  have HO := Lib.hid hf
  clear hf
  have b0 := (Below.refl w.heap.size w).alloc (Nat.le_refl _) (.cells #[.int .i64 6, .int .i64 i, .int .i64 b, .int .i64 v] 40)
  have b0s := b0.size
  have L0 := Lies.new w 40 #[.int .i64 6, .int .i64 i, .int .i64 b, .int .i64 v]
  have hW := SlcR.up h b0 (Nat.le_refl _)
  have len := G.len
  go_enter Try.func17, Try.ntmps17
  go_wp2_with fail
  generalize w.alloc (.cells #[.int .i64 6, .int .i64 i, .int .i64 b, .int .i64 v] 40) = W at b0 b0s L0 hW ⊢
  generalize hgb : w.heap.size = g at L0 ⊢
  rw [hgb] at b0 b0s
  refine (l29Find_any A c l i W hW).mono ?_
  rintro e w1 ⟨he, hb1⟩
  rw [HO.out] at he
  subst he
  have L1 := L0.below hb1 L0.lt
  have hW1 := SlcR.then hW hb1
  have s0 := L1.cell 0
  have s1 := L1.cell 1
  have s2 := L1.cell 2
  have s3 := L1.cell 3
  simp only [List.getElem?_cons_zero, List.getElem?_cons_succ] at s0 s1 s2 s3
  obtain ⟨bl, off, rfl, hbl, hcell⟩ := (LotsR.el hW1) (by omega)
  have hcx := hcell j hj
  rw [hxe] at hcx
  obtain ⟨c0, c1', c2, c3, c4⟩ := hcx
  have q0 := c0 ⟨w1, Below.refl _ _⟩
  have q1 := c1' ⟨w1, Below.refl _ _⟩
  have q2 := c2 ⟨w1, Below.refl _ _⟩
  have q3 := c3 ⟨w1, Below.refl _ _⟩
  have q4 := c4 ⟨w1, Below.refl _ _⟩
  clear hcell
  go_upto_region 11 with fail
  have P2 := Lies.new w1 44 #[.int .i64 x.i, .int .i64 x.r, .int .i64 x.s, .int .i64 x.h, .int .i64 x.b]
  have hal := (Below.refl w1.heap.size w1).alloc (Nat.le_refl _) (.cells #[.int .i64 x.i, .int .i64 x.r, .int .i64 x.s, .int .i64 x.h, .int .i64 x.b] 44)
  have L2 := L1.below hal L1.lt
  have b2 := bthen hb1 hal
  have hp := hb1.size
  generalize hw2 : w1.alloc (.cells #[.int .i64 x.i, .int .i64 x.r, .int .i64 x.s, .int .i64 x.h, .int .i64 x.b] 44) = w2 at P2 hal L2 b2 ⊢
  clear hw2 hal s0 s1 s2 s3 q0 q1 q2 q3 q4 c0 c1' c2 c3 c4 L1
  generalize w1.heap.size = p at P2 hp ⊢
  have s0 := L2.cell 0
  have s1 := L2.cell 1
  have s2 := L2.cell 2
  have s3 := L2.cell 3
  simp only [List.getElem?_cons_zero, List.getElem?_cons_succ] at s0 s1 s2 s3
  have p0 := P2.cell 0
  have p1 := P2.cell 1
  have p2 := P2.cell 2
  have p3 := P2.cell 3
  have p4 := P2.cell 4
  simp only [List.getElem?_cons_zero, List.getElem?_cons_succ] at p0 p1 p2 p3 p4
  have hW2 : LotsR w2 w2.heap.size _ l := SlcR.up hW b2 (Nat.le_refl _)
  have hw2 := b2.size
  go_upto_region 18 with fail
  refine wp_region_factsR (fun _ => (fun W9 => Below w2.heap.size w2 W9)) (fun _ w1 w2 => Below w1.heap.size w1 w2) (by kernel_rfl) (by kernel_rfl) (by kernel_rfl) (Below.refl _ _).drew ?_
  simp only [fillOps, Act.put, List.setIfInBounds_toArray, List.set_cons_zero, List.set_cons_succ, Nat.zero_add, Nat.reduceAdd]
  apply wpFactsR_val
  case h1 =>
    intro vs L9 w9 hG9 hC9 hB K9 hK9
    simp only [Act.put, List.setIfInBounds_toArray, List.set_cons_zero, List.set_cons_succ] at hK9
    go_simp
    exact hK9 _ _ rfl hC9 (Below.refl _ _)
  apply wpFactsR_val
  case h1 =>
    intro vs L9 w9 hG9 hC9 hB K9 hK9
    simp only [Act.put, List.setIfInBounds_toArray, List.set_cons_zero, List.set_cons_succ] at hK9
    go_simp
    exact hK9 _ _ rfl hC9 (Below.refl _ _)
  apply wpFactsR_val
  case h1 =>
    intro vs L9 w9 hG9 hC9 hB K9 hK9
    simp only [Act.put, List.setIfInBounds_toArray, List.set_cons_zero, List.set_cons_succ] at hK9
    go_simp
    exact hK9 _ _ rfl hC9 (Below.refl _ _)
  apply wpFactsR_val
  case h1 =>
    intro vs L9 w9 hG9 hC9 hB K9 hK9
    have d2 := FactN.eq (hB 2 _ (by kernel_rfl) (by kernel_rfl) rfl (by decide))
    simp only [d2] at hK9 ⊢
    have q0 : w9.cell? ⟨p, 0, none⟩ = some (.int .i64 x.i) := (P2.below hC9 P2.lt).cell 0
    simp only [Act.put, List.setIfInBounds_toArray, List.set_cons_zero, List.set_cons_succ] at hK9
    go_simp
    exact hK9 _ _ rfl hC9 (Below.refl _ _)
  apply wpFactsR_val
  case h1 =>
    intro vs L9 w9 hG9 hC9 hB K9 hK9
    simp only [Act.put, List.setIfInBounds_toArray, List.set_cons_zero, List.set_cons_succ] at hK9
    go_simp
    exact hK9 _ _ rfl hC9 (Below.refl _ _)
  apply wpFactsR_val
  case h1 =>
    intro vs L9 w9 hG9 hC9 hB K9 hK9
    have d4 := FactN.eq (hB 4 _ (by kernel_rfl) (by kernel_rfl) rfl (by decide))
    simp only [d4] at hK9 ⊢
    have q0 : w9.cell? ⟨p, 1, none⟩ = some (.int .i64 x.r) := (P2.below hC9 P2.lt).cell 1
    simp only [Act.put, List.setIfInBounds_toArray, List.set_cons_zero, List.set_cons_succ] at hK9
    go_simp
    exact hK9 _ _ rfl hC9 (Below.refl _ _)
  apply wpFactsR_val
  case h1 =>
    intro vs L9 w9 hG9 hC9 hB K9 hK9
    have d3 := FactN.eq (hB 3 _ (by kernel_rfl) (by kernel_rfl) rfl (by decide))
    have d5 := FactN.eq (hB 5 _ (by kernel_rfl) (by kernel_rfl) rfl (by decide))
    simp only [d3, d5] at hK9 ⊢
    simp only [Act.put, List.setIfInBounds_toArray, List.set_cons_zero, List.set_cons_succ] at hK9
    go_simp
    exact hK9 _ _ rfl hC9 (Below.refl _ _)
  refine wpFactsR_some [] (fun v w9 => ∃ A c, v = .slice A l.length c ∧ OwnL w9 w2.heap.size A c (l.set j (againL x))) ?_ (fun vs L9 w9 hG9 hC9 hB K9 hK9 => ?_) ?_
  next =>
    intro i9 hi9 hb9 ha9 v w1 w2 hv hT9
    have hb := hT9
    obtain ⟨A, c, e, ho⟩ := hv
    exact ⟨A, c, e, ownsRow_below ho hb⟩
  next =>
    have d0 := FactN.eq (hB 0 _ (by kernel_rfl) (by kernel_rfl) rfl (by decide))
    have d1 := FactN.eq (hB 1 _ (by kernel_rfl) (by kernel_rfl) rfl (by decide))
    have d6 := FactN.eq (hB 6 _ (by kernel_rfl) (by kernel_rfl) rfl (by decide))
    simp only [d0, d1, d6] at hK9 ⊢
    simp only [Act.put, List.setIfInBounds_toArray, List.set_cons_zero, List.set_cons_succ] at hK9
    go_simp
    refine (l29With_any (some ⟨bl, off, none⟩) c l j (againL x) w9 (SlcR.up hW2 hC9 (Nat.le_refl _)) (by omega) hj).mono ?_
    rintro e w8 ⟨A, c, rfl, ho, hb8⟩
    exact hK9 _ _ _ rfl ⟨A, c, by rw [List.length_set], ownsRow_lower ho hC9.size⟩ (hC9.trans (hb8.mono hC9.size)) (hb8)
  apply wpFactsR_val
  case h1 =>
    intro vs L9 w9 hG9 hC9 hB K9 hK9
    simp only [Act.put, List.setIfInBounds_toArray, List.set_cons_zero, List.set_cons_succ] at hK9
    go_simp
    exact hK9 _ _ rfl hC9 (Below.refl _ _)
  apply wpFactsR_val
  case h1 =>
    intro vs L9 w9 hG9 hC9 hB K9 hK9
    have d8 := FactN.eq (hB 8 _ (by kernel_rfl) (by kernel_rfl) rfl (by decide))
    simp only [d8] at hK9 ⊢
    have q0 : w9.cell? ⟨p, 2, none⟩ = some (.int .i64 x.s) := (P2.below hC9 P2.lt).cell 2
    simp only [Act.put, List.setIfInBounds_toArray, List.set_cons_zero, List.set_cons_succ] at hK9
    go_simp
    exact hK9 _ _ rfl hC9 (Below.refl _ _)
  apply wpFactsR_val
  case h1 =>
    intro vs L9 w9 hG9 hC9 hB K9 hK9
    have d9 := FactN.eq (hB 9 _ (by kernel_rfl) (by kernel_rfl) rfl (by decide))
    simp only [d9] at hK9 ⊢
    simp only [Act.put, List.setIfInBounds_toArray, List.set_cons_zero, List.set_cons_succ] at hK9
    go_simp
    exact hK9 _ _ rfl hC9 (Below.refl _ _)
  refine wpFactsR_pair [] 7 (fun u v _ => v = u ∧ ∃ A c, u = .slice A l.length c) (by kernel_rfl) ?_ (fun vs L9 w9 hG9 hC9 hB K9 hK9 => ?_) ?_
  next =>
    intro i9 hi9 hb9 ha9 u v w1 w2 hv hT9
    exact hv
  next =>
    obtain ⟨A, c, e0, ho⟩ := hB 7 _ (by kernel_rfl) (by kernel_rfl) rfl (by decide)
    simp only [e0] at hK9 ⊢
    go_simp
    exact hK9 _ _ _ rfl ⟨rfl, A, c, rfl⟩ hC9 (Below.refl _ _)
  apply wpFactsR_val
  case h1 =>
    intro vs L9 w9 hG9 hC9 hB K9 hK9
    have d10 := FactN.eq (hB 10 _ (by kernel_rfl) (by kernel_rfl) rfl (by decide))
    simp only [d10] at hK9 ⊢
    simp only [Act.put, List.setIfInBounds_toArray, List.set_cons_zero, List.set_cons_succ] at hK9
    go_simp
    exact hK9 _ _ rfl hC9 (Below.refl _ _)
  refine wpFactsR_nil fun vs L9 w9 hL9 hC9 hB => ?_
  have ⟨e13, A8, c8, e9⟩ : vs 11 = vs 7 ∧ ∃ A c, vs 7 = .slice A l.length c := hB 11 _ rfl rfl (by decide)
  obtain ⟨A9, c9, e9', ho⟩ : ∃ A c, vs 7 = .slice A l.length c ∧ OwnL w9 w2.heap.size A c (l.set j (againL x)) := hB 7 _ rfl rfl (by decide)
  have d14 := FactN.eq (hB 12 _ rfl rfl (by decide))
  rw [e9'] at e13
  simp only [e13, d14]
  clear hB e13 e9 e9' d14
  have HF := Lib.hid ho
  have b3 := bthen b2 hC9
  clear ho
  cases d
  next =>
    obtain rfl : R = none := by simpa using HR.out
    go_wp2
    refine bodyPost_ret (v := .tuple #[.slice A9 l.length c9, .bool false]) (by simp [results, Try.results17, go_sem, *]) rfl (GivesMk.fail ?_)
    rw [hgb]
    exact b0.trans ((b3).mono b0s)
  next =>
    obtain rfl : R = some (l.set j (againL x)) := by simpa using HR.out
    go_wp2
    refine bodyPost_ret (v := .tuple #[.slice A9 l.length c9, .bool true]) (by simp [results, Try.results17, go_sem, *]) rfl (GivesMk.yes List.length_set (ownsRow_lower HF.out (by rw [hgb]; exact Nat.le_trans b0s hw2)) ?_)
    rw [hgb]
    exact b0.trans ((b3).mono b0s)
theorem specMakeA_any (A : Option Addr) (c : Nat) (l : List Lot) (s : ASt) (w : World) (h : LotsR w w.heap.size A l) (G : GoodL l) (hc : l.length ≤ c) (hs : s.ok = true) :
    Calls Try.prog 17 #[.slice A l.length c, s.val] w (GivesMk w (stepL l s)) := by
  obtain ⟨k, i, b, v⟩ := s
  have hk : k = 1 ∨ k = 2 ∨ k = 3 ∨ k = 4 ∨ k = 5 ∨ k = 6 := kinds hs
  rcases hk with rfl | rfl | rfl | rfl | rfl | rfl
  · by_cases hf : findIx l i < 0
    · rw [step1_add hf]; exact make1_yes A c l i b v w h G hc hf
    · rw [step1_none (by omega)]; exact make1_no A c l i b v w h G hc (by omega)
  · by_cases hf : findIx l i < 0
    · rw [stepF_none (by omega) hf]; exact make2_no A c l i b v w h G hc hf
    · obtain ⟨j, hf', hj⟩ := find_at hf
      rw [step2_drop hf' hj]; exact make2_yes A c l i b v w h G hc j hj hf'
  · by_cases hf : findIx l i < 0
    · rw [stepF_none (by omega) hf]; exact make3_no A c l i b v w h G hc hf
    · obtain ⟨j, hf', hj⟩ := find_at hf
      rw [step3_open hf' hj]; exact make3_yes A c l i b v w h G hc j hj hf'
  · exact make4 A c l i b v w h G hc
  · exact make5 A c l i b v w h G hc
  · by_cases hf : findIx l i < 0
    · rw [stepF_none (by omega) hf]; exact make6_no A c l i b v w h G hc hf
    · obtain ⟨j, hf', hj⟩ := find_at hf
      rw [step6_again hf' hj]; exact make6_yes A c l i b v w h G hc j hj hf'
end Go.Proofs.Ytkokbmmffkpclaa

/- RunAuction, in the reference. (Printed by gen_runa.py) -/
namespace Go.Proofs.Ytkokbmmffkpclaa
open Go.RowKit


set_option maxRecDepth 100000 in
set_option maxHeartbeats 4000000 in
theorem specRunA_any (A : Option Addr) (c : Nat) (l : List Lot) (D : Option Addr) (d : Nat) (ss : List ASt) (w : World) (h : LotsR w w.heap.size A l) (hs : AStsR w w.heap.size D ss) :
    Calls Try.prog 6 #[.slice A l.length c, .slice D ss.length d] w (GivesA w (runA l ss)) := by
  have hl := hs.big
  have cV := fun W h => l29Good_any A c l W h
  cases hg : goodLots l
  · have HN : Hid (runA l ss = ([], 0, false)) := by unfold runA Hid; rw [if_neg (by rw [hg]; simp)]
    rw [hg] at cV
    go_enter Try.func6, Try.ntmps6
    go_wp2_with fail
    refine (cV w h).mono ?_
    rintro e w1 ⟨rfl, hb1⟩
    clear cV hg
    go_wp2
    refine bodyPost_ret (v := .tuple #[.slice (some ⟨w1.heap.size, 0, none⟩) 0 0, .int .i64 0, .bool false]) (by simp [results, Try.results6, go_sem, *]) rfl (GivesA.mk HN.out rfl (owns_empty (Lies.new w1 44 #[]) hb1.size) (bthen hb1 ((Below.refl _ _).alloc (Nat.le_refl _) (.cells #[] 44))))
  · have G := goodL_iff.1 hg
    have len := G.len
    rw [hg] at cV
    by_cases hlen : ss.length ≤ 40
    · have HN : Hid (runA l ss = ((runL ss l 0).1, (runL ss l 0).2, true)) := by unfold runA Hid; rw [if_pos ⟨hg, hlen⟩]
      have hrd := AStsR.el hs
      clear hg
      go_enter Try.func6, Try.ntmps6
      go_wp2_with fail
      refine (cV w h).mono ?_
      rintro e w1 ⟨rfl, hb1⟩
      have hR1 := SlcR.then h hb1
      clear cV
      have HO : Hid ((w1.alloc (.cells #[] 44)).ownsRow w1.heap.size 44 5 (.slice (some ⟨w1.heap.size, 0, none⟩) 0 0) 0 []) := owns_empty (Lies.new w1 44 #[]) (Nat.le_refl _)
      have b1 := (Below.refl w1.heap.size w1).alloc (Nat.le_refl _) (.cells #[] 44)
      have HRr := Lib.hid (SlcR.below hR1 b1)
      go_upto_region 4 with (at_builtin; refine wpList_cat rfl _ _ 26 rfl 44 _ 5 40 Try.underlying26 infoLot rfl (by omega) (by omega) w1.heap.size _ 0 [] rfl HO w1.heap.size A l.length c (l.flatMap Lot.enc) rfl HRr lot_cells (by omega) b1.size ?_; intro v' w2 hown _ hb2 _)
      have hO2 := hown.out
      rw [Nat.zero_add, List.nil_append] at hO2
      obtain ⟨A2, c2, rfl⟩ := ownsRow_slice hO2
      replace hb2 := b1.trans hb2
      clear HO HRr hown b1
      have HI0 : Hid (OwnL w2 w.heap.size A2 c2 l) := ownsRow_lower hO2 hb1.size
      have b2 := bthen hb1 hb2
      have HG0 := Lib.hid G
      have hn0 : Hid (runL (ss.drop 0) l 0 = runL ss l 0) := rfl
      clear hO2 hb2 hR1 G hb1
      go_wp2_with fail
      go_loopw [7, 8, 9, 10, 11] (fun now made i _ _ wr => ∃ (k : Nat) (r : List Lot) (n : Int) (A7 : Option Addr) (c7 : Nat), k ≤ ss.length ∧ i = .int .i64 k ∧ made = .int .i64 n ∧ now = .slice A7 r.length c7 ∧ (0 ≤ n ∧ n ≤ k) ∧ Hid (GoodL r) ∧ Hid (OwnL wr w.heap.size A7 c7 r) ∧ Below w.heap.size w wr ∧ Hid (runL (ss.drop k) r n = runL ss l 0)) (fun _ _ i _ _ _ => ss.length - (intOf i).toNat)
      case atStart => exact ⟨0, l, 0, A2, c2, Nat.zero_le _, rfl, rfl, rfl, by omega, HG0, HI0, b2, hn0⟩
      case round =>
        clear b2 HI0 HG0 hn0
        obtain ⟨k, r, n, A7, c7, hk, rfl, rfl, rfl, ⟨n1, n2⟩, HG, HI, hbr, HR⟩ := hrel
        by_cases hlt : k < ss.length
        · obtain ⟨b, off, rfl, hb, hcell⟩ := hrd (by omega)
          obtain ⟨c0, c1, c2', c3⟩ := hcell k hlt
          have hN := runL_none (l := r) (n := n) hlt
          have hS := fun r' => runL_some (l := r) (n := n) (r := r') hlt
          obtain ⟨s, hse⟩ : ∃ s, s = ss[k] := ⟨_, rfl⟩
          rw [← hse] at c0 c1 c2' c3 hN hS
          clear hse hcell hrd
          obtain ⟨kd, id, bd, va⟩ := s
          simp only at c0 c1 c2' c3
          obtain ⟨q, rfl⟩ : ∃ q : Since w.heap.size w, wr = q.val := ⟨⟨wr, hbr⟩, rfl⟩
          have d0 := c0 q
          have d1 := c1 q
          have d2 := c2' q
          have d3 := c3 q
          have D0 : Hid (∀ {W}, Below w.heap.size w W → W.cell? _ = _) := fun hq => c0 ⟨_, hq⟩
          have D1 : Hid (∀ {W}, Below w.heap.size w W → W.cell? _ = _) := fun hq => c1 ⟨_, hq⟩
          have D2 : Hid (∀ {W}, Below w.heap.size w W → W.cell? _ = _) := fun hq => c2' ⟨_, hq⟩
          have D3 : Hid (∀ {W}, Below w.heap.size w W → W.cell? _ = _) := fun hq => c3 ⟨_, hq⟩
          have cK := fun W => l29Step_any ⟨kd, id, bd, va⟩ W
          have HN0 := Lib.hid hN
          have HS0 := Lib.hid hS
          clear c0 c1 c2' c3 hN hS
          cases hok : ASt.ok ⟨kd, id, bd, va⟩
          · rw [hok] at cK
            have HE : Hid (runL (ss.drop (k + 1)) r n = runL ss l 0) := by rw [← HN0.out (by rw [hok]; rfl)]; exact HR.out
            clear HN0 HS0 hok
            go_wp2_with fail
            refine (cK q.val).mono ?_
            rintro e w5 ⟨rfl, h45⟩
            clear d0 d1 d2 d3
            clear cK
            go_wp2
            go_roundw
            case rel => exact ⟨k + 1, r, n, A7, c7, by omega, by go_num, rfl, rfl, by omega, HG, Lib.hid (HI.out.below h45), q.below.trans (h45.mono q.size), HE⟩
            case measure => simp [intOf]; omega
          · rw [hok] at cK
            have hcap := ownsRow_cap HI.out
            have cS := fun W hW => specMakeA_any A7 c7 r ⟨kd, id, bd, va⟩ W hW HG.out hcap hok
            go_wp2_with fail
            refine (cK q.val).mono ?_
            rintro e w5 ⟨rfl, h45⟩
            clear d0 d1 d2 d3
            have HI5 := HI.out.below h45
            have q5 := q.below.trans (h45.mono q.size)
            have d0 := D0.out q5
            have d1 := D1.out q5
            have d2 := D2.out q5
            have d3 := D3.out q5
            go_wp2_with fail
            refine (cS w5 HI5.reads).mono ?_
            rintro e w6 ⟨v6, rfl, hv6, hb6⟩
            have HI6 := Lib.hid (HI5.below hb6)
            have q6 := q5.trans (hb6.mono q5.size)
            clear HI5 HI cS cK
            cases hd : stepL r ⟨kd, id, bd, va⟩ with
            | none =>
              have HE : Hid (runL (ss.drop (k + 1)) r n = runL ss l 0) := by rw [← HN0.out (by rw [hok, if_pos rfl]; exact hd)]; exact HR.out
              rw [hd] at hv6
              clear HN0 HS0 hok hd hv6 HR
              simp only [Option.isSome_none]
              go_wp2
              go_roundw
              case rel => exact ⟨k + 1, r, n, A7, c7, by omega, by go_num, rfl, rfl, by omega, HG, HI6, q6, HE⟩
              case measure => simp [intOf]; omega
            | some r' =>
              have HE : Hid (runL (ss.drop (k + 1)) r' (n + 1) = runL ss l 0) := by rw [← HS0.out r' hok hd]; exact HR.out
              have HG2 := Lib.hid (stepL_good HG.out hok hd)
              obtain ⟨A8, c8, rfl, ho8⟩ := hv6 r' hd
              have HI8 : Hid (OwnL w6 w.heap.size A8 c8 r') := ownsRow_lower ho8 q5.size
              have hw1 : IntKind.i64.wrap (n + 1) = n + 1 := IntWalk.i64_in _ (by omega)
              clear HN0 HS0 hok hd hv6 HR HG ho8
              simp only [Option.isSome_some]
              go_wp2
              go_roundw
              case rel => exact ⟨k + 1, r', n + 1, A8, c8, by omega, by go_num, rfl, rfl, by omega, HG2, HI8, q6, HE⟩
              case measure => simp [intOf]; omega
        · have hk0 : ss.drop k = [] := List.drop_eq_nil_of_le (by omega)
          have HR' := HR.out
          rw [hk0] at HR'
          have HRn : Hid (runA l ss = (r, n, true)) := by rw [Hid, HN.out, ← HR']; rfl
          clear hrd hk0 HR' HR
          go_wp2
          refine bodyPost_ret (v := .tuple #[.slice A7 r.length c7, .int .i64 n, .bool true]) (by simp [results, Try.results6, go_sem, *]) rfl (GivesA.mk HRn.out rfl HI.out hbr)
    · have HN : Hid (runA l ss = ([], 0, false)) := by unfold runA Hid; rw [if_neg (by omega)]
      have hlen' : (40 : Int) < (ss.length : Int) := by omega
      clear hg
      go_enter Try.func6, Try.ntmps6
      go_wp2_with fail
      refine (cV w h).mono ?_
      rintro e w1 ⟨rfl, hb1⟩
      clear cV
      go_wp2
      refine bodyPost_ret (v := .tuple #[.slice (some ⟨w1.heap.size, 0, none⟩) 0 0, .int .i64 0, .bool false]) (by simp [results, Try.results6, go_sem, *]) rfl (GivesA.mk HN.out rfl (owns_empty (Lies.new w1 44 #[]) hb1.size) (bthen hb1 ((Below.refl _ _).alloc (Nat.le_refl _) (.cells #[] 44))))
end Go.Proofs.Ytkokbmmffkpclaa

/- The law of RunAuction. (Printed by gen_lawauc.py) -/
namespace Go.Proofs.Ytkokbmmffkpclaa
open Go.RowKit

theorem Lies.ownS {w : World} {g : Nat} {t : TypeId} {cs : List Value} (h : Lies w g t cs) {k n : Nat} (hl : cs.length = n * k) (hn : n ≤ 9223372036854775807) : OwnS w g t k (some ⟨g, 0, none⟩) n cs :=
  ⟨hl, hn, .inr ⟨g, [], rfl, Nat.le_refl _, by rw [List.append_nil]; exact h⟩⟩
theorem runL_good : ∀ (ss : List ASt) (l : List Lot) (n : Int), GoodL l → GoodL (runL ss l n).1
  | [], _, _, G => G
  | s :: t, l, n, G => by
    unfold runL
    split
    · rename_i hk
      cases hd : stepL l s with
      | none => exact runL_good t l n G
      | some r => exact runL_good t r (n + 1) (stepL_good G hk hd)
    · exact runL_good t l n G
theorem runA_len (l : List Lot) (ss : List ASt) : (runA l ss).1.length ≤ 8 := by
  unfold runA
  split
  · rename_i h; exact (runL_good ss l 0 (goodL_iff.1 h.1)).len
  · exact Nat.zero_le _

set_option maxHeartbeats 4000000 in
theorem lawAuc_any (A : Option Addr) (c : Nat) (l : List Lot) (D : Option Addr) (d : Nat) (m : List ASt) (w : World) (h : LotsR w w.heap.size A l) (h' : AStsR w w.heap.size D m) :
    Calls Try.prog 3 #[.slice A l.length c, .slice D m.length d] w fun e w' => e = .returned (.bool true) ∧ Below w.heap.size w w' := by
  have hl := h.big
  have hm := h'.big
  by_cases hbig : (l.length : Int) ≤ 1048576
  · have HS : lessen 1048576 l.length = 1048576 - l.length := by unfold lessen; rw [if_pos (by omega)]
    have HZ := Lib.hid HS; clear HS
    by_cases hbig' : (l.length : Int) + m.length ≤ 1048576
    · have HS' : lessen (1048576 - l.length) m.length = 1048576 - l.length - m.length := by unfold lessen; rw [if_pos (by omega)]
      have HY := Lib.hid HS'; clear HS'
      obtain ⟨rs, n, ok, hR⟩ : ∃ rs n ok, runA l m = (rs, n, ok) := ⟨_, _, _, rfl⟩
      have hlen : rs.length ≤ 8 := by have := runA_len l m; rw [hR] at this; exact this
      have cS : ∀ A c D d w, LotsR w w.heap.size A l → AStsR w w.heap.size D m → Calls Try.prog 6 #[.slice A l.length c, .slice D m.length d] w fun e w' => ∃ A c, e = .returned (.tuple #[.slice A rs.length c, .int .i64 n, .bool ok]) ∧ OwnL w' w.heap.size A c rs ∧ Below w.heap.size w w' := fun A c D d w h h' => by
        have := specRunA_any A c l D d m w h h'
        rw [hR] at this
        exact this
      have cI : ∀ A c D d w, LotsR w w.heap.size A l → AStsR w w.heap.size D m → Calls Try.prog 9 #[.slice A l.length c, .slice D m.length d] w fun e w' => ∃ A c, e = .returned (.tuple #[.slice A rs.length c, .int .i64 n, .bool ok]) ∧ OwnL w' w.heap.size A c rs ∧ Below w.heap.size w w' := fun A c D d w h h' => by
        have := implRunA_any A c l D d m w h h'
        rw [hR] at this
        exact this
      clear hR
      have hni : (n != n) = false := by simp
      have hbn : (ok != ok) = false := by simp
      have HQ : Hid (sameLots rs rs = true) := by unfold sameLots Hid; exact decide_eq_true rfl
      have HL : Hid (sameLots l l = true) := by unfold sameLots Hid; exact decide_eq_true rfl
      have HM : Hid (sameASts m m = true) := by unfold sameASts Hid; exact decide_eq_true rfl
      have hR : Hid (rs.length ≤ 9223372036854775807) := by unfold Hid; omega
      have rle : rs.length ≤ 9223372036854775807 := hR.out
      go_enter Try.func3, Try.ntmps3
      go_wp2_with fail
      refine (szLots_any A _ c _ _ hl (by omega) (by omega)).mono ?_
      rintro e w0 ⟨rfl, rfl⟩
      rw [HZ.out]
      go_wp2_with fail
      refine (szASts_any D _ d _ _ hm (by omega) (by omega)).mono ?_
      rintro e w0 ⟨rfl, rfl⟩
      rw [HY.out]
      go_wp2_with fail
      refine (toLots_any A c l _ h (by omega)).mono ?_
      rintro e w1 ⟨g1, rfl, hg1, hl1, k1⟩
      go_wp2_with fail
      refine (toASts_any D d m _ (h'.then k1) (by omega)).mono ?_
      rintro e w2 ⟨g2, rfl, hg2, hl2, hb2⟩
      have k2 := bthen k1 hb2
      go_wp2_with fail
      refine (cS _ _ _ _ _ (lies_lots (hl1.below hb2 hl1.lt) hl) (lies_aSts hl2 hm)).mono ?_
      rintro e w3 ⟨A3, c3, rfl, own3, hb3⟩
      have o3 := OwnL.reads own3
      have k3 := bthen k2 hb3
      go_wp2_with fail
      refine (toLots_any A c l _ (h.then k3) (by omega)).mono ?_
      rintro e w4 ⟨g4, rfl, hg4, hl4, hb4⟩
      have k4 := bthen k3 hb4
      go_wp2_with fail
      refine (toASts_any D d m _ (h'.then k4) (by omega)).mono ?_
      rintro e w5 ⟨g5, rfl, hg5, hl5, hb5⟩
      have k5 := bthen k4 hb5
      have x0 := hl4.below hb5 hl4.lt
      go_wp2_with fail
      refine (cI _ _ _ _ _ (lies_lots x0 hl) (lies_aSts hl5 hm)).mono ?_
      rintro e w6 ⟨A6, c6, rfl, own6, hb6⟩
      have k6 := bthen k5 hb6
      have o6 := OwnS.of own6
      have x0 := x0.below hb6 x0.lt
      have x1 := hl5.below hb6 hl5.lt
      have s3 : w3.heap.size ≤ w6.heap.size := Nat.le_trans hb4.size (Nat.le_trans hb5.size hb6.size)
      have r3 : LotsR w6 w3.heap.size A3 rs := o3.below (hb4.trans ((hb5.mono hb4.size).trans (hb6.mono (Nat.le_trans hb4.size hb5.size))))
      have g45 : g4 < g5 := Nat.lt_of_lt_of_le hl4.lt hg5
      have lt5 : g5 < w5.heap.size := hl5.lt
      have lt4 : g4 < w5.heap.size := Nat.lt_of_lt_of_le hl4.lt hb5.size

      have s := s3
      have r := r3
      go_wp2_with fail
      refine (eqLots_any _ _ _ _ rs rs _ o6.reads (r.mono s)).mono ?_
      rintro e w7 ⟨rfl, hb7⟩
      have k7 := bthen k6 hb7
      have o7 := o6.then hb7
      have r7 : LotsR w7 w3.heap.size A3 rs := r.below (hb7.mono s)
      have s : w3.heap.size ≤ w7.heap.size := Nat.le_trans s hb7.size
      have r := r7
      have x0 := x0.below hb7 x0.lt
      have x1 := x1.below hb7 x1.lt
      rw [HQ.out]
      go_wp2_with fail
      refine (toLots_any A c l _ (h.then k7) (by omega)).mono ?_
      rintro e w8 ⟨g8, rfl, hg8, hl8, hb8⟩
      have k8 := bthen k7 hb8
      have o8 := o7.then hb8
      have r8 : LotsR w8 w3.heap.size A3 rs := r.below (hb8.mono s)
      have s : w3.heap.size ≤ w8.heap.size := Nat.le_trans s hb8.size
      have r := r8
      have x0 := x0.below hb8 x0.lt
      have x1 := x1.below hb8 x1.lt
      go_wp2_with fail
      refine (eqLots_any _ _ _ _ l l _ (lies_lots x0 hl) (lies_lots hl8 hl)).mono ?_
      rintro e w9 ⟨rfl, hb9⟩
      have k9 := bthen k8 hb9
      have o9 := o8.then hb9
      have r9 : LotsR w9 w3.heap.size A3 rs := r.below (hb9.mono s)
      have s : w3.heap.size ≤ w9.heap.size := Nat.le_trans s hb9.size
      have r := r9
      have x0 := x0.below hb9 x0.lt
      have x1 := x1.below hb9 x1.lt
      rw [HL.out]
      go_wp2_with fail
      refine (toASts_any D d m _ (h'.then k9) (by omega)).mono ?_
      rintro e w10 ⟨g10, rfl, hg10, hl10, hb10⟩
      have k10 := bthen k9 hb10
      have o10 := o9.then hb10
      have r10 : LotsR w10 w3.heap.size A3 rs := r.below (hb10.mono s)
      have s : w3.heap.size ≤ w10.heap.size := Nat.le_trans s hb10.size
      have r := r10
      have x0 := x0.below hb10 x0.lt
      have x1 := x1.below hb10 x1.lt
      go_wp2_with fail
      refine (eqASts_any _ _ _ _ m m _ (lies_aSts x1 hm) (lies_aSts hl10 hm)).mono ?_
      rintro e w11 ⟨rfl, hb11⟩
      have k11 := bthen k10 hb11
      have o11 := o10.then hb11
      have r11 : LotsR w11 w3.heap.size A3 rs := r.below (hb11.mono s)
      have s : w3.heap.size ≤ w11.heap.size := Nat.le_trans s hb11.size
      have r := r11
      have x0 := x0.below hb11 x0.lt
      have x1 := x1.below hb11 x1.lt
      rw [HM.out]
      have q0 := x0.ownS (flat_len Lot.enc 5 Lot.enc_len l) hl
      go_wp2_with fail
      refine (markLots_any _ _ l.length _ 1 _ _ (by omega) (by omega) (by omega) q0).mono ?_
      rintro e w12 ⟨rfl, _, gr12⟩
      have gr12 : w11.grownBy w12 (some g4) := gr12
      have k12 : Below w.heap.size w w12 := k11.grown gr12 k11.size (by rintro _ ⟨⟩; have := k3.size; have := k4.size; omega)
      have o12 := o11.kept gr12 lt4
      have r : LotsR w12 w3.heap.size A3 rs := r.keep fun p hp => grown_cell gr12 p (by omega) (by intro e; injection e; have := hb4.size; omega)
      have s : w3.heap.size ≤ w12.heap.size := Nat.le_trans s gr12.size
      have x1 := x1.kept gr12 (by intro e; injection e; omega)
      have q1 := x1.ownS (flat_len ASt.enc 4 ASt.enc_len m) hm
      go_wp2_with fail
      refine (markASts_any _ _ m.length _ _ _ _ (by omega) (by omega) (by omega) q1).mono ?_
      rintro e w13 ⟨rfl, _, gr13⟩
      have gr13 : w12.grownBy w13 (some g5) := gr13
      have k13 : Below w.heap.size w w13 := k12.grown gr13 k12.size (by rintro _ ⟨⟩; have := k3.size; have := k4.size; omega)
      have o13 := o12.kept gr13 lt5
      have r : LotsR w13 w3.heap.size A3 rs := r.keep fun p hp => grown_cell gr13 p (by omega) (by intro e; injection e; have := hb4.size; omega)
      have s : w3.heap.size ≤ w13.heap.size := Nat.le_trans s gr13.size
      have hneg : ((1 : Int) + 5 * (l.length : Int) + 4 * (m.length : Int) < 0) = False := eq_false (by omega)
      go_wp2_with fail
      refine (eqLots_any _ _ _ _ rs rs _ o13.reads (r.mono s)).mono ?_
      rintro e w14 ⟨rfl, hb14⟩
      have k14 := bthen k13 hb14
      have o14 := o13.then hb14
      have r14 : LotsR w14 w3.heap.size A3 rs := r.below (hb14.mono s)
      have s : w3.heap.size ≤ w14.heap.size := Nat.le_trans s hb14.size
      have r := r14
      rw [HQ.out]
      go_wp2_with fail
      refine (markLots_any _ _ rs.length _ 1 _ _ (by omega) (by omega) (by omega) o14).mono ?_
      rintro e w15 ⟨rfl, o15, gr15⟩
      have k15 : Below w.heap.size w w15 := k14.grown gr15 k14.size (by intro g hg; exact Nat.le_trans k5.size (o14.at_ge g hg))
      have r : LotsR w15 w3.heap.size A3 rs := r.keep fun p hp => grown_cell gr15 p (by omega) (by intro e; have := o14.at_ge _ e.symm; have := hb4.size; have := hb5.size; omega)
      have s : w3.heap.size ≤ w15.heap.size := Nat.le_trans s gr15.size
      go_wp2_with fail
      refine (heldLots_any _ _ rs.length 1 _ (by omega) (by omega) (by omega) o15.reads).mono ?_
      rintro e w16 ⟨rfl, hb16⟩
      have k16 := bthen k15 hb16
      have o16 := o15.then hb16
      have r16 : LotsR w16 w3.heap.size A3 rs := r.below (hb16.mono s)
      have s : w3.heap.size ≤ w16.heap.size := Nat.le_trans s hb16.size
      have r := r16
      go_wp2_with fail
      refine (toLots_any A c l _ (h.then k16) (by omega)).mono ?_
      rintro e w17 ⟨g17, rfl, hg17, hl17, hb17⟩
      have k17 := bthen k16 hb17
      have o17 := o16.then hb17
      have r17 : LotsR w17 w3.heap.size A3 rs := r.below (hb17.mono s)
      have s : w3.heap.size ≤ w17.heap.size := Nat.le_trans s hb17.size
      have r := r17
      go_wp2_with fail
      refine (toASts_any D d m _ (h'.then k17) (by omega)).mono ?_
      rintro e w18 ⟨g18, rfl, hg18, hl18, hb18⟩
      have k18 := bthen k17 hb18
      have o18 := o17.then hb18
      have r18 : LotsR w18 w3.heap.size A3 rs := r.below (hb18.mono s)
      have s : w3.heap.size ≤ w18.heap.size := Nat.le_trans s hb18.size
      have r := r18
      go_wp2_with fail
      refine (cI _ _ _ _ _ (lies_lots (hl17.below hb18 hl17.lt) hl) (lies_aSts hl18 hm)).mono ?_
      rintro e w19 ⟨A19, c19, rfl, own19, hb19⟩
      have k19 := bthen k18 hb19
      have o19 := o18.then hb19
      have r19 : LotsR w19 w3.heap.size A3 rs := r.below (hb19.mono s)
      have s : w3.heap.size ≤ w19.heap.size := Nat.le_trans s hb19.size
      have r := r19
      have z19 := OwnS.of own19
      go_wp2_with fail
      refine (eqLots_any _ _ _ _ rs rs _ z19.reads (r.mono s)).mono ?_
      rintro e w20 ⟨rfl, hb20⟩
      have k20 := bthen k19 hb20
      have o20 := o19.then hb20
      have r20 : LotsR w20 w3.heap.size A3 rs := r.below (hb20.mono s)
      have s : w3.heap.size ≤ w20.heap.size := Nat.le_trans s hb20.size
      have r := r20
      rw [HQ.out]
      go_wp2_with fail
      refine (heldLots_any _ _ rs.length 1 _ (by omega) (by omega) (by omega) o20.reads).mono ?_
      rintro e w21 ⟨rfl, hb21⟩
      have k21 := bthen k20 hb21
      go_wp2_with fail
      go_ret
      exact ⟨rfl, k21⟩
    · have HS' : lessen (1048576 - l.length) m.length = -1 := by unfold lessen; rw [if_neg (by omega)]
      have HY := Lib.hid HS'; clear HS'
      go_enter Try.func3, Try.ntmps3
      go_wp2_with fail
      refine (szLots_any A _ c _ _ hl (by omega) (by omega)).mono ?_
      rintro e w0 ⟨rfl, rfl⟩
      rw [HZ.out]
      go_wp2_with fail
      refine (szASts_any D _ d _ _ hm (by omega) (by omega)).mono ?_
      rintro e w0 ⟨rfl, rfl⟩
      rw [HY.out]
      go_wp2_with fail
      go_ret
      exact ⟨rfl, Below.refl _ _⟩
  · have HS : lessen 1048576 l.length = -1 := by unfold lessen; rw [if_neg (by omega)]
    have HZ := Lib.hid HS; clear HS
    go_enter Try.func3, Try.ntmps3
    go_wp2_with fail
    refine (szLots_any A _ c _ _ hl (by omega) (by omega)).mono ?_
    rintro e w0 ⟨rfl, rfl⟩
    rw [HZ.out]
    go_wp2_with fail
    go_ret
    exact ⟨rfl, Below.refl _ _⟩
end Go.Proofs.Ytkokbmmffkpclaa

/- Arguments that came in: from the reader's own reading to plain words (no program in sight). -/
namespace Go.Proofs.Ytkokbmmffkpclaa
open Go.ChangeShapes Go.WideShapes Go.ChangeAt Go.RowKit Go.Deep

section
variable {H : Type} {enc : TypeId × Value → H} {P : Program} {w : World} {base : Nat} {spare : Nat → Bool} {held : Bool}

/-- The fields of a struct of one-cell fields: place by place. -/
theorem trod_fields {e : TypeId} {fs : Array Field} {n : Nat} {cs : List Value} {x : DataW H × List MemPlace} (he : P.underlying e = some (.struct fs)) (hone : oneCellFields P fs = true) (hC : P.cellsOf e = fs.size)
    (h : DataW.trod enc P w base spare held n e cs = some x) :
    cs.length = fs.size ∧ ∀ (j : Nat) (f : Field), fs[j]? = some f → ∃ v m y, cs[j]? = some v ∧ DataW.trod enc P w base spare held m f.type [v] = some y := by
  obtain ⟨ys, n', _, _, hlen, hyl, hf⟩ := DataW.trod_struct he h
  refine ⟨by rw [hlen, hC], fun j f hj => ?_⟩
  obtain ⟨ho, hk⟩ := hone_of hone j f hj
  have hjl : j < fs.size := (Array.getElem?_eq_some_iff.1 hj).1
  have hjc : j < cs.length := by rw [hlen, hC]; exact hjl
  have h1 := hf j f hj
  rw [ho, hk, List.drop_eq_getElem_cons hjc] at h1
  have hys : ys[j]? = some (ys[j]'(by omega)) := List.getElem?_eq_getElem (by omega)
  exact ⟨_, n', _, List.getElem?_eq_getElem hjc, h1.trans hys⟩

theorem cell_spot {w : World} {a : Addr} {u : Value} (h : w.cell? a = some u) : ∃ b off, a = ⟨b, off, none⟩ ∧ b < w.heap.size := by
  obtain ⟨b, off, sp⟩ := a
  cases sp with
  | none => exact ⟨b, off, rfl, block_lt_of_cell h⟩
  | some s =>
    simp only [World.cell?] at h
    split at h <;> simp_all

/-- A slice that came in, whatever its elements: k cells each; what the reader knows of an element's cells. -/
theorem trod_slc {t e : TypeId} {k n : Nat} {v : Value} {x : DataW H × List MemPlace} (ht : P.underlying t = some (.slice e)) (hk : P.cellsOf e = k) (hk0 : 0 < k)
    (h : DataW.trod enc P w base spare held n t [v] = some x) :
    ∃ A len cap, v = .slice A len cap ∧ ∃ css : List (List Value), css.length = len ∧ SlcR w w.heap.size k A len css.flatten ∧
      ∀ cs ∈ css, cs.length = k ∧ ∃ m y, DataW.trod enc P w base spare held m e cs = some y := by
  rcases open_slice ht h with ⟨h0, _⟩ | ⟨a, len, cap, m, n', D, Pl, hcs, hb, hl, hm, hmm, hx, hi⟩
  · have : v = .slice none 0 0 := by simpa using h0
    exact ⟨none, 0, 0, this, [], rfl, SlcR.nil _ _ _ _, by simp⟩
  · have hv : v = .slice (some a) len cap := by simpa using hcs
    have hle : len ≤ m := by rw [hmm]; split <;> omega
    rw [hk] at hi
    have hsel : ∀ i : Nat, ∃ cs : List Value, cs.length = k ∧ (i < len → (∀ j u, cs[j]? = some u → w.cell? ((a.add (i * k)).add j) = some u) ∧ ∃ m y, DataW.trod enc P w base spare held m e cs = some y) := fun i => by
      by_cases hlt : i < len
      · obtain ⟨cs', hc, ht'⟩ := hi i (by omega)
        obtain ⟨_, hcl, hat⟩ := World.cells?_some hc
        exact ⟨cs', hcl, fun _ => ⟨fun j u hu => by
          have hj : j < cs'.length := (List.getElem?_eq_some_iff.1 hu).1
          rw [hat j (by omega), hu], _, _, ht'⟩⟩
      · exact ⟨List.replicate k undef, by simp, fun h => absurd h hlt⟩
    obtain ⟨f, hf⟩ := Classical.axiomOfChoice hsel
    have hfk : ∀ i, (f i).length = k := fun i => (hf i).1
    have hlen := flat_len f k hfk (List.range len)
    rw [List.length_range, List.flatMap_def] at hlen
    refine ⟨some a, len, cap, hv, (List.range len).map f, by simp, ⟨hlen, by unfold maxLen at hm; omega, fun hpos => ?_⟩, ?_⟩
    · have h00 : (f 0)[0]? = some ((f 0)[0]'(by rw [hfk]; exact hk0)) := List.getElem?_eq_getElem _
      have hc0 := ((hf 0).2 hpos).1 0 _ h00
      rw [Nat.zero_mul] at hc0
      obtain ⟨b, off, rfl, hb'⟩ := cell_spot (a := a) hc0
      refine ⟨b, off, rfl, hb', fun j u hu => ?_⟩
      have hj : j < len * k := by rw [← hlen]; exact (List.getElem?_eq_some_iff.1 hu).1
      have hi' : j / k < len := Nat.div_lt_of_lt_mul (by rw [Nat.mul_comm]; exact hj)
      have hr : j % k < k := Nat.mod_lt _ hk0
      have e : j = j / k * k + j % k := by rw [Nat.mul_comm]; exact (Nat.div_add_mod j k).symm
      have hat := flat_at f k hfk (List.range len) (j / k) (by simpa using hi') (j % k) hr
      rw [List.flatMap_def, ← e, List.getElem_range, hu] at hat
      have hc := ((hf (j / k)).2 hi').1 (j % k) u hat.symm
      have hadd : ((⟨b, off, none⟩ : Addr).add (j / k * k)).add (j % k) = ⟨b, off + j, none⟩ := by
        unfold Addr.add
        by_cases h1 : j / k * k = 0 <;> by_cases h2 : j % k = 0 <;> simp [h1, h2] <;> omega
      rw [hadd] at hc
      exact hc
    · intro cs hcs
      obtain ⟨i, hi, rfl⟩ := List.mem_map.1 hcs
      exact ⟨hfk i, ((hf i).2 (List.mem_range.1 hi)).2⟩
end

/-- A list of lists of cells, each the image of something. -/
theorem lift_list {α : Type} (enc : α → List Value) : ∀ css : List (List Value), (∀ cs ∈ css, ∃ x, cs = enc x) → ∃ l : List α, css.flatten = l.flatMap enc ∧ l.length = css.length
  | [], _ => ⟨[], rfl, rfl⟩
  | cs :: css, h => by
    obtain ⟨x, hx⟩ := h cs (by simp)
    obtain ⟨l, hl, hn⟩ := lift_list enc css (fun c hc => h c (by simp [hc]))
    exact ⟨x :: l, by simp [hl, hx], by simp [hn]⟩

section
variable {H : Type} {enc : TypeId × Value → H} {P : Program} {w : World} {base : Nat} {spare : Nat → Bool} {held : Bool}
/-- A field that is an int. -/
theorem trod_i64 {t : TypeId} {n : Nat} {v : Value} {x : DataW H × List MemPlace} (ht : P.underlying t = some (.int .i64)) (h : DataW.trod enc P w base spare held n t [v] = some x) :
    ∃ m : Int, v = .int .i64 m ∧ -9223372036854775808 ≤ m ∧ m ≤ 9223372036854775807 := by
  obtain ⟨m, e, _, hw⟩ := DataW.trod_int ht h
  refine ⟨m, by simpa using e, ?_⟩
  simp [Lit.wf, IntKind.min, IntKind.max, IntKind.signed, IntKind.bits] at hw
  omega
end

/-- Structs of ints alone. -/
def intFields (P : Program) (fs : Array Field) : Bool := fs.all fun f => match P.underlying f.type with | some (.int .i64) => true | _ => false
theorem intFields_at {P : Program} {fs : Array Field} (h : intFields P fs = true) (j : Nat) (f : Field) (hj : fs[j]? = some f) : P.underlying f.type = some (.int .i64) := by
  have := (Array.all_eq_true_iff_forall_mem.1 h) f (Array.mem_of_getElem? hj)
  split at this
  · assumption
  · cases this

section
variable {H : Type} {enc : TypeId × Value → H} {P : Program} {w : World} {base : Nat} {spare : Nat → Bool} {held : Bool}
theorem trod_int_cells {e : TypeId} {fs : Array Field} {n k : Nat} {cs : List Value} {x : DataW H × List MemPlace} (he : P.underlying e = some (.struct fs)) (hone : oneCellFields P fs = true) (hC : P.cellsOf e = fs.size) (hint : intFields P fs = true) (hk : fs.size = k)
    (h : DataW.trod enc P w base spare held n e cs = some x) : ∃ ns : List Int, ns.length = k ∧ cs = ns.map (Value.int .i64) := by
  obtain ⟨hl, hf⟩ := trod_fields he hone hC h
  subst hk
  refine ⟨cs.map fun v => match v with | .int _ m => m | _ => 0, by simpa using hl, List.ext_getElem? fun j => ?_⟩
  rw [List.getElem?_map, List.getElem?_map]
  by_cases hj : j < cs.length
  · obtain ⟨v, m, y, hv, hy⟩ := hf j (fs[j]'(by omega)) (Array.getElem?_eq_getElem (by omega))
    obtain ⟨z, rfl, _, _⟩ := trod_i64 (intFields_at hint j _ (Array.getElem?_eq_getElem (by omega))) hy
    rw [hv]; rfl
  · rw [List.getElem?_eq_none (by omega)]; rfl

/-- A struct of ints, by value. -/
theorem open_int_struct {t : TypeId} {fs : Array Field} {k b0 : Nat} {r : Reach} {v : Value} {d : DataW H} {p : List MemPlace} (he : P.underlying t = some (.struct fs)) (hone : oneCellFields P fs = true) (hC : P.cellsOf t = fs.size) (hint : intFields P fs = true) (hk : fs.size = k)
    (hv : Value.okWide P w r b0 t v) (h : DataW.Trod enc P w base spare held t v d p) : ∃ ns : List Int, ns.length = k ∧ v = .agg (ns.map (Value.int .i64)).toArray := by
  obtain ⟨cs, rfl, hsz⟩ := okWide_struct he hv
  obtain ⟨n, hn⟩ := h
  obtain ⟨ns, hl, hc⟩ := trod_int_cells he hone hC hint hk hn
  refine ⟨ns, hl, ?_⟩
  rw [← hc]; simp [Value.cells]

/-- A slice of structs of ints. -/
theorem open_int_structs {α : Type} (en : α → List Value) {t e : TypeId} {fs : Array Field} {k b0 : Nat} {r : Reach} {v : Value} {d : DataW H} {p : List MemPlace} (ht : P.underlying t = some (.slice e)) (he : P.underlying e = some (.struct fs)) (hone : oneCellFields P fs = true) (hC : P.cellsOf e = fs.size) (hint : intFields P fs = true) (hk : fs.size = k) (hk0 : 0 < k)
    (hen : ∀ ns : List Int, ns.length = k → ∃ x, ns.map (Value.int .i64) = en x)
    (hv : Value.okWide P w r b0 t v) (h : DataW.Trod enc P w base spare held t v d p) : ∃ A c, ∃ l : List α, v = .slice A l.length c ∧ SlcR w w.heap.size k A l.length (l.flatMap en) := by
  obtain ⟨A, len, cap, rfl⟩ := okWide_slice ht hv
  obtain ⟨n, hn⟩ := h
  obtain ⟨A', len', cap', e', css, hl, hS, hcs⟩ := trod_slc ht (hC.trans hk) hk0 hn
  injection e' with e1 e2 e3
  subst e1; subst e2; subst e3
  obtain ⟨l, hfl, hll⟩ := lift_list en css (fun cs hc => by
    obtain ⟨hlen, m, y, hy⟩ := hcs cs hc
    obtain ⟨ns, hn', hc'⟩ := trod_int_cells he hone hC hint hk hy
    obtain ⟨x, hx⟩ := hen ns hn'
    exact ⟨x, by rw [hc', hx]⟩)
  refine ⟨A, cap, l, by rw [hll, hl], ?_⟩
  rw [hll, hl, ← hfl]; exact hS
end
theorem i64_lo {n : Int} (h : (Lit.int .i64 n).wf = true) : -9223372036854775808 ≤ n := by
  simp [Lit.wf, IntKind.min, IntKind.max, IntKind.signed, IntKind.bits] at h; omega
theorem i64_hi {n : Int} (h : (Lit.int .i64 n).wf = true) : n ≤ 9223372036854775807 := by
  simp [Lit.wf, IntKind.min, IntKind.max, IntKind.signed, IntKind.bits] at h; omega
end Go.Proofs.Ytkokbmmffkpclaa
