/- By09: the texts LotPut LotMake, joined into one file. -/
import Derived.Test.YtkokbmmffkpclaaDoorBy08

set_option linter.unusedVariables false

/- A new lot in its place, in the reference. (Printed by gen_lotmake.py) -/
namespace Go.Proofs.YtkokbmmffkpclaaDoor
open Go.RowKit

theorem posL_cons {r : Lot} {l : List Lot} {id : Int} : posL (r :: l) id = if r.i < id then posL l id + 1 else 0 := by
  unfold posL; rw [List.takeWhile_cons]; by_cases h : r.i < id <;> simp [h]
theorem posL_step {l : List Lot} {id : Int} {k : Nat} (h : k < l.length) : posL (l.drop k) id = if l[k].i < id then posL (l.drop (k + 1)) id + 1 else 0 := by
  rw [List.drop_eq_getElem_cons h, posL_cons]
theorem infoLot_size : (Tryd.prog.info? 41).map (·.size) = some 5 := by kernel_rfl
set_option maxRecDepth 100000 in
set_option maxHeartbeats 4000000 in
theorem l29Put_any (A : Option Addr) (c : Nat) (l : List Lot) (id va : Int) (w : World) (h : LotsR w w.heap.size A l) (hn : l.length ≤ 8) (hc : l.length ≤ c) :
    Calls Tryd.prog 66 #[.slice A l.length c, .int .i64 id, .int .i64 va] w (GivesL w (insL l id va)) := by
  have hl := h.big
  have hrd := h.el
  have HF : Hid (0 + posL (l.drop 0) id = posL l id) := by rw [Hid, Nat.zero_add, List.drop_zero]
  have HIN := Lib.hid (show insL l id va = l.take (posL l id) ++ ⟨id, va, 0, 0, 0⟩ :: l.drop (posL l id) from rfl)
  go_enter Tryd.func66, Tryd.ntmps66
  go_wp2
  go_loopw [7] (fun i wr => ∃ (k : Nat), k ≤ l.length ∧ i = .int .i64 k ∧ (∃ q : Since w.heap.size w, wr = q.val) ∧ Hid (k + posL (l.drop k) id = posL l id)) (fun i _ => l.length - (intOf i).toNat)
  case atStart => exact ⟨0, Nat.zero_le _, rfl, ⟨Since.start _ _, rfl⟩, HF⟩
  case round =>
    obtain ⟨k, hk, rfl, ⟨q, rfl⟩, HR⟩ := hrel
    have key : (∃ hlt : k < l.length, l[k].i < id) ∨ posL l id = k := by
      rcases Nat.lt_or_ge k l.length with hlt | hge
      · by_cases hi : l[k].i < id
        · exact .inl ⟨hlt, hi⟩
        · right; rw [← HR.out, posL_step hlt, if_neg hi]; omega
      · right; rw [← HR.out, List.drop_eq_nil_of_le hge]; rfl
    rcases key with ⟨hlt, hi⟩ | hp
    · obtain ⟨b, off, rfl, hb, hcell⟩ := hrd (by omega)
      obtain ⟨c0, c1, c2, c3, c4⟩ := hcell k hlt
      have hy : Hid (k + 1 + posL (l.drop (k + 1)) id = posL l id) := by rw [Hid, ← HR.out, posL_step hlt, if_pos hi]; omega
      obtain ⟨x, hxe⟩ : ∃ x, x = l[k] := ⟨_, rfl⟩
      rw [← hxe] at c0 hi
      clear hxe hcell hrd c1 c2 c3 c4
      go_wp2
      go_roundw
      case rel => exact ⟨k + 1, by omega, by go_num, ⟨q, rfl⟩, hy⟩
      case measure => simp [intOf]; omega
    have hex : ∀ hlt : k < l.length, ¬ l[k].i < id := fun hlt hi => by
      have := HR.out; rw [posL_step hlt, if_pos hi] at this; omega
    rw [hp] at HIN
    have HX : Hid (∀ hlt : k < l.length, ¬ l[k].i < id) := hex
    have HRD := Lib.hid hrd
    clear hex hrd hp HR HF
    have hB : ∀ (tm : Array Value), True := fun _ => trivial
    rcases Nat.lt_or_ge k l.length with hlt | hge
    · obtain ⟨b, off, rfl, hb, hcell⟩ := HRD.out (by omega)
      obtain ⟨c0, c1, c2, c3, c4⟩ := hcell k hlt
      have hx := HX.out hlt
      obtain ⟨x, hxe⟩ : ∃ x, x = l[k] := ⟨_, rfl⟩
      rw [← hxe] at c0 hx
      clear hxe hcell c1 c2 c3 c4 HX
      go_upto_region 4 with fail
      clear c0 hx hb
      refine wp_region_factsR (fun _ => (fun W9 => Below w.heap.size w W9)) (fun i w1 w2 => i ∉ [9, 13] → Below w1.heap.size w1 w2) (by kernel_rfl) (by kernel_rfl) (by kernel_rfl) q.below.drew ?_
      simp only [fillOps, Act.put, List.setIfInBounds_toArray, List.set_cons_zero, List.set_cons_succ, Nat.zero_add, Nat.reduceAdd]
      refine wpFactsR_some [9, 13] (fun v w9 => ∃ g, v = .slice (some ⟨g, 0, none⟩) 0 0 ∧ w.heap.size ≤ g ∧ Lies w9 g 41 []) ?_ (fun vs L9 w9 hG9 hC9 hB K9 hK9 => ?_) ?_
      next =>
        intro i9 hi9 hb9 ha9 v w1 w2 hv hT9
        have hb := hT9 (fun hm => by
          simp only [List.mem_cons, List.not_mem_nil, or_false] at hm hb9
          rcases hm with rfl | rfl
          · exact hb9 (by simp)
          · exact hb9 (by simp))
        obtain ⟨g, e, hg, hl⟩ := hv
        exact ⟨g, e, hg, hl.below hb hl.lt⟩
      next =>
        simp only [Act.put, List.setIfInBounds_toArray, List.set_cons_zero, List.set_cons_succ] at hK9
        go_simp
        exact hK9 _ _ _ rfl ⟨_, rfl, hC9.size, Lies.new w9 41 #[]⟩ (hC9.alloc hC9.size _) (fun _ => (Below.refl _ _).alloc (Nat.le_refl _) _)
      apply wpFactsR_val
      case h1 =>
        intro vs L9 w9 hG9 hC9 hB K9 hK9
        simp only [Act.put, List.setIfInBounds_toArray, List.set_cons_zero, List.set_cons_succ] at hK9
        go_simp
        exact hK9 _ _ rfl hC9 (fun _ => Below.refl _ _)
      apply wpFactsR_val
      case h1 =>
        intro vs L9 w9 hG9 hC9 hB K9 hK9
        simp only [Act.put, List.setIfInBounds_toArray, List.set_cons_zero, List.set_cons_succ] at hK9
        go_simp
        exact hK9 _ _ rfl hC9 (fun _ => Below.refl _ _)
      apply wpFactsR_val
      case h1 =>
        intro vs L9 w9 hG9 hC9 hB K9 hK9
        have d1 := FactN.eq (hB 1 _ (by kernel_rfl) (by kernel_rfl) rfl (by decide))
        have d2 := FactN.eq (hB 2 _ (by kernel_rfl) (by kernel_rfl) rfl (by decide))
        simp only [d1, d2] at hK9 ⊢
        simp only [Act.put, List.setIfInBounds_toArray, List.set_cons_zero, List.set_cons_succ] at hK9
        refine step_sliceTo rfl 24 41 (.tmp 24) (.tmp 25) rfl Tryd.underlying24 5 infoLot_size (some ⟨b, off, none⟩) l.length c k (by rfl) (by rfl) hk hc ?_
        exact hK9 _ _ rfl hC9 (fun _ => Below.refl _ _)
      refine wpFactsR_some [9, 13] (fun v w9 => ∃ A c, v = .slice A (k) c ∧ w9.ownsRow w.heap.size 41 5 (.slice A (k) c) (k) ((l.flatMap Lot.enc).take (k * 5))) ?_ (fun vs L9 w9 hG9 hC9 hB K9 hK9 => ?_) ?_
      next =>
        intro i9 hi9 hb9 ha9 v w1 w2 hv hT9
        have hb := hT9 (fun hm => by
          simp only [List.mem_cons, List.not_mem_nil, or_false] at hm hb9
          rcases hm with rfl | rfl
          · exact hb9 (by simp)
          · exact hb9 (by simp))
        obtain ⟨A, c, e, ho⟩ := hv
        exact ⟨A, c, e, ownsRow_below ho hb⟩
      next =>
        have d3 := FactN.eq (hB 3 _ (by kernel_rfl) (by kernel_rfl) rfl (by decide))
        simp only [d3] at hK9 ⊢
        simp only [Act.put, List.setIfInBounds_toArray, List.set_cons_zero, List.set_cons_succ] at hK9
        obtain ⟨g, e0, hg, hl⟩ := hB 0 _ (by kernel_rfl) (by kernel_rfl) rfl (by decide)
        simp only [e0] at hK9 ⊢
        refine stepCat rfl (.tmp 23) (.tmp 26) 24 rfl 41 _ 5 40 Tryd.underlying24 infoLot rfl (by omega) (by omega) w.heap.size g (by rfl) hl hg w.heap.size (some ⟨b, off, none⟩) k c _ (by rfl) (SlcR.take (SlcR.below h hC9) k hk) (fun u hu => lot_cells u (List.mem_of_mem_take hu)) (by omega) ?_
        intro v' w' ho hb
        obtain ⟨A', c', rfl⟩ := ownsRow_slice ho
        exact hK9 _ _ _ rfl ⟨A', c', rfl, ho⟩ (hC9.trans (hb.mono hC9.size)) (fun _ => hb)
      apply wpFactsR_val
      case h1 =>
        intro vs L9 w9 hG9 hC9 hB K9 hK9
        simp only [Act.put, List.setIfInBounds_toArray, List.set_cons_zero, List.set_cons_succ] at hK9
        go_simp
        exact hK9 _ _ rfl hC9 (fun _ => Below.refl _ _)
      apply wpFactsR_val
      case h1 =>
        intro vs L9 w9 hG9 hC9 hB K9 hK9
        simp only [Act.put, List.setIfInBounds_toArray, List.set_cons_zero, List.set_cons_succ] at hK9
        go_simp
        exact hK9 _ _ rfl hC9 (fun _ => Below.refl _ _)
      apply wpFactsR_val
      case h1 =>
        intro vs L9 w9 hG9 hC9 hB K9 hK9
        have d5 := FactN.eq (hB 5 _ (by kernel_rfl) (by kernel_rfl) rfl (by decide))
        have d6 := FactN.eq (hB 6 _ (by kernel_rfl) (by kernel_rfl) rfl (by decide))
        simp only [d5, d6] at hK9 ⊢
        simp only [Act.put, List.setIfInBounds_toArray, List.set_cons_zero, List.set_cons_succ] at hK9
        go_simp
        exact hK9 _ _ rfl hC9 (fun _ => Below.refl _ _)
      refine wpFactsR_some [9, 13] (fun v w9 => ∃ g c, v = .slice (some ⟨g, 0, none⟩) 1 c ∧ Lies w9 g 41 [.int .i64 id, .int .i64 va, .int .i64 0, .int .i64 0, .int .i64 0]) ?_ (fun vs L9 w9 hG9 hC9 hB K9 hK9 => ?_) ?_
      next =>
        intro i9 hi9 hb9 ha9 v w1 w2 hv hT9
        have hb := hT9 (fun hm => by
          simp only [List.mem_cons, List.not_mem_nil, or_false] at hm hb9
          rcases hm with rfl | rfl
          · exact hb9 (by simp)
          · exact hb9 (by simp))
        obtain ⟨g, c, e, hl⟩ := hv
        exact ⟨g, c, e, hl.below hb hl.lt⟩
      next =>
        have d7 := FactN.eq (hB 7 _ (by kernel_rfl) (by kernel_rfl) rfl (by decide))
        simp only [d7] at hK9 ⊢
        simp only [Act.put, List.setIfInBounds_toArray, List.set_cons_zero, List.set_cons_succ] at hK9
        go_simp
        exact hK9 _ _ _ rfl ⟨_, _, rfl, Lies.new w9 41 #[.int .i64 id, .int .i64 va, .int .i64 0, .int .i64 0, .int .i64 0]⟩ (hC9.alloc hC9.size _) (fun _ => (Below.refl _ _).alloc (Nat.le_refl _) _)
      refine wpFactsR_some [13] (fun v w9 => ∃ A c, v = .slice A (k + 1) c ∧ w9.ownsRow w.heap.size 41 5 (.slice A (k + 1) c) (k + 1) ((l.flatMap Lot.enc).take (k * 5) ++ [.int .i64 id, .int .i64 va, .int .i64 0, .int .i64 0, .int .i64 0])) ?_ (fun vs L9 w9 hG9 hC9 hB K9 hK9 => ?_) ?_
      next =>
        intro i9 hi9 hb9 ha9 v w1 w2 hv hT9
        have hb := hT9 (fun hm => by
          simp only [List.mem_cons, List.not_mem_nil, or_false] at hm hb9
          rcases hm with rfl | rfl
          · exact hi9 rfl
          · exact hb9 (by simp))
        obtain ⟨A, c, e, ho⟩ := hv
        exact ⟨A, c, e, ownsRow_below ho hb⟩
      next =>
        simp only [Act.put, List.setIfInBounds_toArray, List.set_cons_zero, List.set_cons_succ] at hK9
        obtain ⟨A, c, e5, ho⟩ := hB 4 _ (by kernel_rfl) (by kernel_rfl) rfl (by decide)
        obtain ⟨g, c9, e9, hl⟩ := hB 8 _ (by kernel_rfl) (by kernel_rfl) rfl (by decide)
        simp only [e5, e9] at hK9 ⊢
        refine step_cat rfl (.tmp 27) (.tmp 31) 24 rfl 41 _ 5 40 Tryd.underlying24 infoLot rfl (by omega) (by omega) w.heap.size _ k _ (by rfl) ho w9.heap.size (some ⟨g, 0, none⟩) 1 c9 [.int .i64 id, .int .i64 va, .int .i64 0, .int .i64 0, .int .i64 0] (by rfl) (hl.reads rfl (by omega)) (by simp [Value.oneCell']) (by omega) hC9.size ?_
        intro A' c' w' ho' _ hb
        exact hK9 _ _ _ rfl ⟨A', c', rfl, ho'⟩ (hC9.trans hb) (fun hq => (hq (by decide)).elim)
      apply wpFactsR_val
      case h1 =>
        intro vs L9 w9 hG9 hC9 hB K9 hK9
        simp only [Act.put, List.setIfInBounds_toArray, List.set_cons_zero, List.set_cons_succ] at hK9
        go_simp
        exact hK9 _ _ rfl hC9 (fun _ => Below.refl _ _)
      apply wpFactsR_val
      case h1 =>
        intro vs L9 w9 hG9 hC9 hB K9 hK9
        simp only [Act.put, List.setIfInBounds_toArray, List.set_cons_zero, List.set_cons_succ] at hK9
        go_simp
        exact hK9 _ _ rfl hC9 (fun _ => Below.refl _ _)
      refine wpFactsR_some [] (fun v w9 => ∃ A, v = .slice A (l.length - k) (c - k) ∧ ∀ W9, Below w.heap.size w W9 → SlcR W9 w.heap.size 5 A (l.length - k) ((l.flatMap Lot.enc).drop (k * 5))) ?_ (fun vs L9 w9 hG9 hC9 hB K9 hK9 => ?_) ?_
      next =>
        intro i9 hi9 hb9 ha9 v w1 w2 hv hT9
        exact hv
      next =>
        have d10 := FactN.eq (hB 10 _ (by kernel_rfl) (by kernel_rfl) rfl (by decide))
        have d11 := FactN.eq (hB 11 _ (by kernel_rfl) (by kernel_rfl) rfl (by decide))
        simp only [d10, d11] at hK9 ⊢
        simp only [Act.put, List.setIfInBounds_toArray, List.set_cons_zero, List.set_cons_succ] at hK9
        refine step_sliceFrom rfl 24 41 (.tmp 33) (.tmp 34) rfl Tryd.underlying24 5 infoLot_size (some ⟨b, off, none⟩) l.length c k (by rfl) (by rfl) hk hc ?_
        intro A' hA9
        exact hK9 _ _ _ rfl ⟨A', rfl, fun W9 hW => hA9 _ _ _ (SlcR.below h hW)⟩ hC9 (fun _ => Below.refl _ _)
      refine wpFactsR_some [] (fun v w9 => ∃ A c, v = .slice A (k + 1 + (l.length - k)) c ∧ w9.ownsRow w.heap.size 41 5 (.slice A (k + 1 + (l.length - k)) c) (k + 1 + (l.length - k)) (((l.flatMap Lot.enc).take (k * 5) ++ [.int .i64 id, .int .i64 va, .int .i64 0, .int .i64 0, .int .i64 0]) ++ (l.flatMap Lot.enc).drop (k * 5))) ?_ (fun vs L9 w9 hG9 hC9 hB K9 hK9 => ?_) ?_
      next =>
        intro i9 hi9 hb9 ha9 v w1 w2 hv hT9
        have hb := hT9 (fun hm => by
          simp only [List.mem_cons, List.not_mem_nil, or_false] at hm hb9
          rcases hm with rfl | rfl
          · exact absurd (ha9.symm.trans (show ahead .any _ _ _ _ = true by kernel_rfl)) (by decide)
          · exact hi9 rfl)
        obtain ⟨A, c, e, ho⟩ := hv
        exact ⟨A, c, e, ownsRow_below ho hb⟩
      next =>
        simp only [Act.put, List.setIfInBounds_toArray, List.set_cons_zero, List.set_cons_succ] at hK9
        obtain ⟨A, c, e10, ho⟩ := hB 9 _ (by kernel_rfl) (by kernel_rfl) rfl (by decide)
        obtain ⟨A14, e14, hr⟩ := hB 12 _ (by kernel_rfl) (by kernel_rfl) rfl (by decide)
        simp only [e10, e14] at hK9 ⊢
        refine step_cat rfl (.tmp 32) (.tmp 35) 24 rfl 41 _ 5 40 Tryd.underlying24 infoLot rfl (by omega) (by omega) w.heap.size _ (k + 1) _ (by rfl) ho w.heap.size A14 (l.length - k) (_ - k) _ (by rfl) (hr w9 hC9) (fun u hu => lot_cells u (List.mem_of_mem_drop hu)) (by omega) hC9.size ?_
        intro A' c' w' ho' _ hb
        exact hK9 _ _ _ rfl ⟨A', c', rfl, ho'⟩ (hC9.trans hb) (fun hq => (hq (by decide)).elim)
      refine wpFactsR_pair [] 13 (fun u v _ => v = u ∧ ∃ A c, u = .slice A (k + 1 + (l.length - k)) c) (by kernel_rfl) ?_ (fun vs L9 w9 hG9 hC9 hB K9 hK9 => ?_) ?_
      next =>
        intro i9 hi9 hb9 ha9 u v w1 w2 hv hT9
        exact hv
      next =>
        obtain ⟨A, c, e0, ho⟩ := hB 13 _ (by kernel_rfl) (by kernel_rfl) rfl (by decide)
        simp only [e0] at hK9 ⊢
        go_simp
        exact hK9 _ _ _ rfl ⟨rfl, A, c, rfl⟩ hC9 (fun _ => Below.refl _ _)
      refine wpFactsR_nil fun vs L9 w9 hL9 hC9 hB => ?_
      have ⟨e14, A8, c8, e13⟩ : vs 14 = vs 13 ∧ ∃ A c, vs 13 = .slice A (k + 1 + (l.length - k)) c := hB 14 _ rfl rfl (by decide)
      obtain ⟨A9, c9, e13', ho⟩ : ∃ A c, vs 13 = .slice A (k + 1 + (l.length - k)) c ∧ w9.ownsRow w.heap.size 41 5 (.slice A (k + 1 + (l.length - k)) c) (k + 1 + (l.length - k)) (((l.flatMap Lot.enc).take (k * 5) ++ [Value.int .i64 id, Value.int .i64 va, Value.int .i64 0, Value.int .i64 0, Value.int .i64 0]) ++ (l.flatMap Lot.enc).drop (k * 5)) := hB 13 _ rfl rfl (by decide)
      rw [e13'] at e14
      simp only [e14]
      clear hB e13 e13' e14
      have hlen : (insL l id va).length = k + 1 + (l.length - k) := by rw [HIN.out]; simp; omega
      have hcs : (insL l id va).flatMap Lot.enc = ((l.flatMap Lot.enc).take (k * 5) ++ [Value.int .i64 id, Value.int .i64 va, Value.int .i64 0, Value.int .i64 0, Value.int .i64 0]) ++ (l.flatMap Lot.enc).drop (k * 5) := by
        rw [HIN.out, List.flatMap_append, List.flatMap_cons, flat_takeL, flat_dropL, List.append_assoc]; rfl
      have HO := Lib.hid ho
      clear ho
      go_wp2
      refine bodyPost_ret (v := .slice A9 (k + 1 + (l.length - k)) c9) (by simp [results, Tryd.results66, go_sem, *]) rfl ⟨A9, c9, by rw [hlen], ?_, hC9⟩
      unfold OwnL
      rw [hcs, hlen]
      exact HO.out
    · have hlt : ¬ k < l.length := by omega
      clear hge
      clear HX HRD
      go_upto_region 4 with fail
      refine wp_region_factsR (fun _ => (fun W9 => Below w.heap.size w W9)) (fun i w1 w2 => i ∉ [9, 13] → Below w1.heap.size w1 w2) (by kernel_rfl) (by kernel_rfl) (by kernel_rfl) q.below.drew ?_
      simp only [fillOps, Act.put, List.setIfInBounds_toArray, List.set_cons_zero, List.set_cons_succ, Nat.zero_add, Nat.reduceAdd]
      refine wpFactsR_some [9, 13] (fun v w9 => ∃ g, v = .slice (some ⟨g, 0, none⟩) 0 0 ∧ w.heap.size ≤ g ∧ Lies w9 g 41 []) ?_ (fun vs L9 w9 hG9 hC9 hB K9 hK9 => ?_) ?_
      next =>
        intro i9 hi9 hb9 ha9 v w1 w2 hv hT9
        have hb := hT9 (fun hm => by
          simp only [List.mem_cons, List.not_mem_nil, or_false] at hm hb9
          rcases hm with rfl | rfl
          · exact hb9 (by simp)
          · exact hb9 (by simp))
        obtain ⟨g, e, hg, hl⟩ := hv
        exact ⟨g, e, hg, hl.below hb hl.lt⟩
      next =>
        simp only [Act.put, List.setIfInBounds_toArray, List.set_cons_zero, List.set_cons_succ] at hK9
        go_simp
        exact hK9 _ _ _ rfl ⟨_, rfl, hC9.size, Lies.new w9 41 #[]⟩ (hC9.alloc hC9.size _) (fun _ => (Below.refl _ _).alloc (Nat.le_refl _) _)
      apply wpFactsR_val
      case h1 =>
        intro vs L9 w9 hG9 hC9 hB K9 hK9
        simp only [Act.put, List.setIfInBounds_toArray, List.set_cons_zero, List.set_cons_succ] at hK9
        go_simp
        exact hK9 _ _ rfl hC9 (fun _ => Below.refl _ _)
      apply wpFactsR_val
      case h1 =>
        intro vs L9 w9 hG9 hC9 hB K9 hK9
        simp only [Act.put, List.setIfInBounds_toArray, List.set_cons_zero, List.set_cons_succ] at hK9
        go_simp
        exact hK9 _ _ rfl hC9 (fun _ => Below.refl _ _)
      apply wpFactsR_val
      case h1 =>
        intro vs L9 w9 hG9 hC9 hB K9 hK9
        have d1 := FactN.eq (hB 1 _ (by kernel_rfl) (by kernel_rfl) rfl (by decide))
        have d2 := FactN.eq (hB 2 _ (by kernel_rfl) (by kernel_rfl) rfl (by decide))
        simp only [d1, d2] at hK9 ⊢
        simp only [Act.put, List.setIfInBounds_toArray, List.set_cons_zero, List.set_cons_succ] at hK9
        refine step_sliceTo rfl 24 41 (.tmp 24) (.tmp 25) rfl Tryd.underlying24 5 infoLot_size A l.length c k (by rfl) (by rfl) hk hc ?_
        exact hK9 _ _ rfl hC9 (fun _ => Below.refl _ _)
      refine wpFactsR_some [9, 13] (fun v w9 => ∃ A c, v = .slice A (k) c ∧ w9.ownsRow w.heap.size 41 5 (.slice A (k) c) (k) ((l.flatMap Lot.enc).take (k * 5))) ?_ (fun vs L9 w9 hG9 hC9 hB K9 hK9 => ?_) ?_
      next =>
        intro i9 hi9 hb9 ha9 v w1 w2 hv hT9
        have hb := hT9 (fun hm => by
          simp only [List.mem_cons, List.not_mem_nil, or_false] at hm hb9
          rcases hm with rfl | rfl
          · exact hb9 (by simp)
          · exact hb9 (by simp))
        obtain ⟨A, c, e, ho⟩ := hv
        exact ⟨A, c, e, ownsRow_below ho hb⟩
      next =>
        have d3 := FactN.eq (hB 3 _ (by kernel_rfl) (by kernel_rfl) rfl (by decide))
        simp only [d3] at hK9 ⊢
        simp only [Act.put, List.setIfInBounds_toArray, List.set_cons_zero, List.set_cons_succ] at hK9
        obtain ⟨g, e0, hg, hl⟩ := hB 0 _ (by kernel_rfl) (by kernel_rfl) rfl (by decide)
        simp only [e0] at hK9 ⊢
        refine stepCat rfl (.tmp 23) (.tmp 26) 24 rfl 41 _ 5 40 Tryd.underlying24 infoLot rfl (by omega) (by omega) w.heap.size g (by rfl) hl hg w.heap.size A k c _ (by rfl) (SlcR.take (SlcR.below h hC9) k hk) (fun u hu => lot_cells u (List.mem_of_mem_take hu)) (by omega) ?_
        intro v' w' ho hb
        obtain ⟨A', c', rfl⟩ := ownsRow_slice ho
        exact hK9 _ _ _ rfl ⟨A', c', rfl, ho⟩ (hC9.trans (hb.mono hC9.size)) (fun _ => hb)
      apply wpFactsR_val
      case h1 =>
        intro vs L9 w9 hG9 hC9 hB K9 hK9
        simp only [Act.put, List.setIfInBounds_toArray, List.set_cons_zero, List.set_cons_succ] at hK9
        go_simp
        exact hK9 _ _ rfl hC9 (fun _ => Below.refl _ _)
      apply wpFactsR_val
      case h1 =>
        intro vs L9 w9 hG9 hC9 hB K9 hK9
        simp only [Act.put, List.setIfInBounds_toArray, List.set_cons_zero, List.set_cons_succ] at hK9
        go_simp
        exact hK9 _ _ rfl hC9 (fun _ => Below.refl _ _)
      apply wpFactsR_val
      case h1 =>
        intro vs L9 w9 hG9 hC9 hB K9 hK9
        have d5 := FactN.eq (hB 5 _ (by kernel_rfl) (by kernel_rfl) rfl (by decide))
        have d6 := FactN.eq (hB 6 _ (by kernel_rfl) (by kernel_rfl) rfl (by decide))
        simp only [d5, d6] at hK9 ⊢
        simp only [Act.put, List.setIfInBounds_toArray, List.set_cons_zero, List.set_cons_succ] at hK9
        go_simp
        exact hK9 _ _ rfl hC9 (fun _ => Below.refl _ _)
      refine wpFactsR_some [9, 13] (fun v w9 => ∃ g c, v = .slice (some ⟨g, 0, none⟩) 1 c ∧ Lies w9 g 41 [.int .i64 id, .int .i64 va, .int .i64 0, .int .i64 0, .int .i64 0]) ?_ (fun vs L9 w9 hG9 hC9 hB K9 hK9 => ?_) ?_
      next =>
        intro i9 hi9 hb9 ha9 v w1 w2 hv hT9
        have hb := hT9 (fun hm => by
          simp only [List.mem_cons, List.not_mem_nil, or_false] at hm hb9
          rcases hm with rfl | rfl
          · exact hb9 (by simp)
          · exact hb9 (by simp))
        obtain ⟨g, c, e, hl⟩ := hv
        exact ⟨g, c, e, hl.below hb hl.lt⟩
      next =>
        have d7 := FactN.eq (hB 7 _ (by kernel_rfl) (by kernel_rfl) rfl (by decide))
        simp only [d7] at hK9 ⊢
        simp only [Act.put, List.setIfInBounds_toArray, List.set_cons_zero, List.set_cons_succ] at hK9
        go_simp
        exact hK9 _ _ _ rfl ⟨_, _, rfl, Lies.new w9 41 #[.int .i64 id, .int .i64 va, .int .i64 0, .int .i64 0, .int .i64 0]⟩ (hC9.alloc hC9.size _) (fun _ => (Below.refl _ _).alloc (Nat.le_refl _) _)
      refine wpFactsR_some [13] (fun v w9 => ∃ A c, v = .slice A (k + 1) c ∧ w9.ownsRow w.heap.size 41 5 (.slice A (k + 1) c) (k + 1) ((l.flatMap Lot.enc).take (k * 5) ++ [.int .i64 id, .int .i64 va, .int .i64 0, .int .i64 0, .int .i64 0])) ?_ (fun vs L9 w9 hG9 hC9 hB K9 hK9 => ?_) ?_
      next =>
        intro i9 hi9 hb9 ha9 v w1 w2 hv hT9
        have hb := hT9 (fun hm => by
          simp only [List.mem_cons, List.not_mem_nil, or_false] at hm hb9
          rcases hm with rfl | rfl
          · exact hi9 rfl
          · exact hb9 (by simp))
        obtain ⟨A, c, e, ho⟩ := hv
        exact ⟨A, c, e, ownsRow_below ho hb⟩
      next =>
        simp only [Act.put, List.setIfInBounds_toArray, List.set_cons_zero, List.set_cons_succ] at hK9
        obtain ⟨A, c, e5, ho⟩ := hB 4 _ (by kernel_rfl) (by kernel_rfl) rfl (by decide)
        obtain ⟨g, c9, e9, hl⟩ := hB 8 _ (by kernel_rfl) (by kernel_rfl) rfl (by decide)
        simp only [e5, e9] at hK9 ⊢
        refine step_cat rfl (.tmp 27) (.tmp 31) 24 rfl 41 _ 5 40 Tryd.underlying24 infoLot rfl (by omega) (by omega) w.heap.size _ k _ (by rfl) ho w9.heap.size (some ⟨g, 0, none⟩) 1 c9 [.int .i64 id, .int .i64 va, .int .i64 0, .int .i64 0, .int .i64 0] (by rfl) (hl.reads rfl (by omega)) (by simp [Value.oneCell']) (by omega) hC9.size ?_
        intro A' c' w' ho' _ hb
        exact hK9 _ _ _ rfl ⟨A', c', rfl, ho'⟩ (hC9.trans hb) (fun hq => (hq (by decide)).elim)
      apply wpFactsR_val
      case h1 =>
        intro vs L9 w9 hG9 hC9 hB K9 hK9
        simp only [Act.put, List.setIfInBounds_toArray, List.set_cons_zero, List.set_cons_succ] at hK9
        go_simp
        exact hK9 _ _ rfl hC9 (fun _ => Below.refl _ _)
      apply wpFactsR_val
      case h1 =>
        intro vs L9 w9 hG9 hC9 hB K9 hK9
        simp only [Act.put, List.setIfInBounds_toArray, List.set_cons_zero, List.set_cons_succ] at hK9
        go_simp
        exact hK9 _ _ rfl hC9 (fun _ => Below.refl _ _)
      refine wpFactsR_some [] (fun v w9 => ∃ A, v = .slice A (l.length - k) (c - k) ∧ ∀ W9, Below w.heap.size w W9 → SlcR W9 w.heap.size 5 A (l.length - k) ((l.flatMap Lot.enc).drop (k * 5))) ?_ (fun vs L9 w9 hG9 hC9 hB K9 hK9 => ?_) ?_
      next =>
        intro i9 hi9 hb9 ha9 v w1 w2 hv hT9
        exact hv
      next =>
        have d10 := FactN.eq (hB 10 _ (by kernel_rfl) (by kernel_rfl) rfl (by decide))
        have d11 := FactN.eq (hB 11 _ (by kernel_rfl) (by kernel_rfl) rfl (by decide))
        simp only [d10, d11] at hK9 ⊢
        simp only [Act.put, List.setIfInBounds_toArray, List.set_cons_zero, List.set_cons_succ] at hK9
        refine step_sliceFrom rfl 24 41 (.tmp 33) (.tmp 34) rfl Tryd.underlying24 5 infoLot_size A l.length c k (by rfl) (by rfl) hk hc ?_
        intro A' hA9
        exact hK9 _ _ _ rfl ⟨A', rfl, fun W9 hW => hA9 _ _ _ (SlcR.below h hW)⟩ hC9 (fun _ => Below.refl _ _)
      refine wpFactsR_some [] (fun v w9 => ∃ A c, v = .slice A (k + 1 + (l.length - k)) c ∧ w9.ownsRow w.heap.size 41 5 (.slice A (k + 1 + (l.length - k)) c) (k + 1 + (l.length - k)) (((l.flatMap Lot.enc).take (k * 5) ++ [.int .i64 id, .int .i64 va, .int .i64 0, .int .i64 0, .int .i64 0]) ++ (l.flatMap Lot.enc).drop (k * 5))) ?_ (fun vs L9 w9 hG9 hC9 hB K9 hK9 => ?_) ?_
      next =>
        intro i9 hi9 hb9 ha9 v w1 w2 hv hT9
        have hb := hT9 (fun hm => by
          simp only [List.mem_cons, List.not_mem_nil, or_false] at hm hb9
          rcases hm with rfl | rfl
          · exact absurd (ha9.symm.trans (show ahead .any _ _ _ _ = true by kernel_rfl)) (by decide)
          · exact hi9 rfl)
        obtain ⟨A, c, e, ho⟩ := hv
        exact ⟨A, c, e, ownsRow_below ho hb⟩
      next =>
        simp only [Act.put, List.setIfInBounds_toArray, List.set_cons_zero, List.set_cons_succ] at hK9
        obtain ⟨A, c, e10, ho⟩ := hB 9 _ (by kernel_rfl) (by kernel_rfl) rfl (by decide)
        obtain ⟨A14, e14, hr⟩ := hB 12 _ (by kernel_rfl) (by kernel_rfl) rfl (by decide)
        simp only [e10, e14] at hK9 ⊢
        refine step_cat rfl (.tmp 32) (.tmp 35) 24 rfl 41 _ 5 40 Tryd.underlying24 infoLot rfl (by omega) (by omega) w.heap.size _ (k + 1) _ (by rfl) ho w.heap.size A14 (l.length - k) (_ - k) _ (by rfl) (hr w9 hC9) (fun u hu => lot_cells u (List.mem_of_mem_drop hu)) (by omega) hC9.size ?_
        intro A' c' w' ho' _ hb
        exact hK9 _ _ _ rfl ⟨A', c', rfl, ho'⟩ (hC9.trans hb) (fun hq => (hq (by decide)).elim)
      refine wpFactsR_pair [] 13 (fun u v _ => v = u ∧ ∃ A c, u = .slice A (k + 1 + (l.length - k)) c) (by kernel_rfl) ?_ (fun vs L9 w9 hG9 hC9 hB K9 hK9 => ?_) ?_
      next =>
        intro i9 hi9 hb9 ha9 u v w1 w2 hv hT9
        exact hv
      next =>
        obtain ⟨A, c, e0, ho⟩ := hB 13 _ (by kernel_rfl) (by kernel_rfl) rfl (by decide)
        simp only [e0] at hK9 ⊢
        go_simp
        exact hK9 _ _ _ rfl ⟨rfl, A, c, rfl⟩ hC9 (fun _ => Below.refl _ _)
      refine wpFactsR_nil fun vs L9 w9 hL9 hC9 hB => ?_
      have ⟨e14, A8, c8, e13⟩ : vs 14 = vs 13 ∧ ∃ A c, vs 13 = .slice A (k + 1 + (l.length - k)) c := hB 14 _ rfl rfl (by decide)
      obtain ⟨A9, c9, e13', ho⟩ : ∃ A c, vs 13 = .slice A (k + 1 + (l.length - k)) c ∧ w9.ownsRow w.heap.size 41 5 (.slice A (k + 1 + (l.length - k)) c) (k + 1 + (l.length - k)) (((l.flatMap Lot.enc).take (k * 5) ++ [Value.int .i64 id, Value.int .i64 va, Value.int .i64 0, Value.int .i64 0, Value.int .i64 0]) ++ (l.flatMap Lot.enc).drop (k * 5)) := hB 13 _ rfl rfl (by decide)
      rw [e13'] at e14
      simp only [e14]
      clear hB e13 e13' e14
      have hlen : (insL l id va).length = k + 1 + (l.length - k) := by rw [HIN.out]; simp; omega
      have hcs : (insL l id va).flatMap Lot.enc = ((l.flatMap Lot.enc).take (k * 5) ++ [Value.int .i64 id, Value.int .i64 va, Value.int .i64 0, Value.int .i64 0, Value.int .i64 0]) ++ (l.flatMap Lot.enc).drop (k * 5) := by
        rw [HIN.out, List.flatMap_append, List.flatMap_cons, flat_takeL, flat_dropL, List.append_assoc]; rfl
      have HO := Lib.hid ho
      clear ho
      go_wp2
      refine bodyPost_ret (v := .slice A9 (k + 1 + (l.length - k)) c9) (by simp [results, Tryd.results66, go_sem, *]) rfl ⟨A9, c9, by rw [hlen], ?_, hC9⟩
      unfold OwnL
      rw [hcs, hlen]
      exact HO.out
end Go.Proofs.YtkokbmmffkpclaaDoor

/- A step of an auction in the reference. (Printed by gen_lotmake.py) -/
namespace Go.Proofs.YtkokbmmffkpclaaDoor
open Go.RowKit

set_option maxRecDepth 100000 in
set_option maxHeartbeats 4000000 in
theorem make4 (A : Option Addr) (c : Nat) (l : List Lot) (i b v : Int) (w : World) (h : LotsR w w.heap.size A l) (G : GoodL l) (hc : l.length ≤ c) :
    Calls Tryd.prog 57 #[.slice A l.length c, .agg #[.int .i64 4, .int .i64 i, .int .i64 b, .int .i64 v]] w (GivesMk w (stepL l ⟨4, i, b, v⟩)) := by
  obtain ⟨R, hR⟩ : ∃ R, stepL l ⟨4, i, b, v⟩ = R := ⟨_, rfl⟩
  have SE := fun W hR => l29Sell_any A c l 4 i b v W hR G (by omega)
  rw [hR] at SE ⊢
  clear hR
  have b0 := (Below.refl w.heap.size w).alloc (Nat.le_refl _) (.cells #[.int .i64 4, .int .i64 i, .int .i64 b, .int .i64 v] 39)
  have b0s := b0.size
  have L0 := Lies.new w 39 #[.int .i64 4, .int .i64 i, .int .i64 b, .int .i64 v]
  have hW := SlcR.up h b0 (Nat.le_refl _)
  have len := G.len
  go_enter Tryd.func57, Tryd.ntmps57
  go_wp2_with fail
  generalize w.alloc (.cells #[.int .i64 4, .int .i64 i, .int .i64 b, .int .i64 v] 39) = W at b0 b0s L0 hW ⊢
  generalize hgb : w.heap.size = g at L0 ⊢
  rw [hgb] at b0 b0s
  refine (SE W hW).mono ?_
  rintro e w1 ⟨v1, rfl, hv1, hb1⟩
  obtain ⟨d, hd⟩ : ∃ d, R.isSome = d := ⟨_, rfl⟩
  rw [hd]
  have HV := Lib.hid hv1
  clear hv1
  go_wp2
  refine bodyPost_ret (v := .tuple #[v1, .bool d]) (by simp [results, Tryd.results57, go_sem, *]) rfl ⟨v1, by rw [hd], fun r hr => ?_, ?_⟩
  · obtain ⟨A1, c1, e1, h1⟩ := HV.out r hr
    exact ⟨A1, c1, e1, ownsRow_lower h1 (by rw [hgb]; exact b0s)⟩
  · rw [hgb]; exact b0.trans (hb1.mono b0s)
set_option maxRecDepth 100000 in
set_option maxHeartbeats 4000000 in
theorem make5 (A : Option Addr) (c : Nat) (l : List Lot) (i b v : Int) (w : World) (h : LotsR w w.heap.size A l) (G : GoodL l) (hc : l.length ≤ c) :
    Calls Tryd.prog 57 #[.slice A l.length c, .agg #[.int .i64 5, .int .i64 i, .int .i64 b, .int .i64 v]] w (GivesMk w (stepL l ⟨5, i, b, v⟩)) := by
  obtain ⟨R, hR⟩ : ∃ R, stepL l ⟨5, i, b, v⟩ = R := ⟨_, rfl⟩
  have SE := fun W hR => l29Sell_any A c l 5 i b v W hR G (by omega)
  rw [hR] at SE ⊢
  clear hR
  have b0 := (Below.refl w.heap.size w).alloc (Nat.le_refl _) (.cells #[.int .i64 5, .int .i64 i, .int .i64 b, .int .i64 v] 39)
  have b0s := b0.size
  have L0 := Lies.new w 39 #[.int .i64 5, .int .i64 i, .int .i64 b, .int .i64 v]
  have hW := SlcR.up h b0 (Nat.le_refl _)
  have len := G.len
  go_enter Tryd.func57, Tryd.ntmps57
  go_wp2_with fail
  generalize w.alloc (.cells #[.int .i64 5, .int .i64 i, .int .i64 b, .int .i64 v] 39) = W at b0 b0s L0 hW ⊢
  generalize hgb : w.heap.size = g at L0 ⊢
  rw [hgb] at b0 b0s
  refine (SE W hW).mono ?_
  rintro e w1 ⟨v1, rfl, hv1, hb1⟩
  obtain ⟨d, hd⟩ : ∃ d, R.isSome = d := ⟨_, rfl⟩
  rw [hd]
  have HV := Lib.hid hv1
  clear hv1
  go_wp2
  refine bodyPost_ret (v := .tuple #[v1, .bool d]) (by simp [results, Tryd.results57, go_sem, *]) rfl ⟨v1, by rw [hd], fun r hr => ?_, ?_⟩
  · obtain ⟨A1, c1, e1, h1⟩ := HV.out r hr
    exact ⟨A1, c1, e1, ownsRow_lower h1 (by rw [hgb]; exact b0s)⟩
  · rw [hgb]; exact b0.trans (hb1.mono b0s)
set_option maxRecDepth 100000 in
set_option maxHeartbeats 4000000 in
theorem make2_no (A : Option Addr) (c : Nat) (l : List Lot) (i b v : Int) (w : World) (h : LotsR w w.heap.size A l) (G : GoodL l) (hc : l.length ≤ c) (hf : findIx l i < 0) :
    Calls Tryd.prog 57 #[.slice A l.length c, .agg #[.int .i64 2, .int .i64 i, .int .i64 b, .int .i64 v]] w (GivesMk w none) := by
  obtain ⟨o, ho⟩ : ∃ o, findIx l i = o := ⟨_, rfl⟩
  rw [ho] at hf
  have HO := Lib.hid ho
  clear ho
  have b0 := (Below.refl w.heap.size w).alloc (Nat.le_refl _) (.cells #[.int .i64 2, .int .i64 i, .int .i64 b, .int .i64 v] 39)
  have b0s := b0.size
  have L0 := Lies.new w 39 #[.int .i64 2, .int .i64 i, .int .i64 b, .int .i64 v]
  have hW := SlcR.up h b0 (Nat.le_refl _)
  have len := G.len
  go_enter Tryd.func57, Tryd.ntmps57
  go_wp2_with fail
  generalize w.alloc (.cells #[.int .i64 2, .int .i64 i, .int .i64 b, .int .i64 v] 39) = W at b0 b0s L0 hW ⊢
  generalize hgb : w.heap.size = g at L0 ⊢
  rw [hgb] at b0 b0s
  refine (l29Find_any A c l i W hW).mono ?_
  rintro e w1 ⟨he, hb1⟩
  rw [HO.out] at he
  subst he
  have L1 := L0.below hb1 L0.lt
  have hW1 := SlcR.then hW hb1
  have s0 := L1.cell 0
  have s1 := L1.cell 1
  have s2 := L1.cell 2
  have s3 := L1.cell 3
  simp only [List.getElem?_cons_zero, List.getElem?_cons_succ] at s0 s1 s2 s3
  go_wp2
  refine bodyPost_ret (v := .tuple #[.slice (some ⟨w1.heap.size, 0, none⟩) 0 0, .bool false]) (by simp [results, Tryd.results57, go_sem, *]) rfl (GivesMk.fail ?_)
  rw [hgb]
  exact b0.trans ((bthen hb1 ((Below.refl _ _).alloc (Nat.le_refl _) (.cells #[] 41))).mono b0s)
set_option maxRecDepth 100000 in
set_option maxHeartbeats 4000000 in
theorem make3_no (A : Option Addr) (c : Nat) (l : List Lot) (i b v : Int) (w : World) (h : LotsR w w.heap.size A l) (G : GoodL l) (hc : l.length ≤ c) (hf : findIx l i < 0) :
    Calls Tryd.prog 57 #[.slice A l.length c, .agg #[.int .i64 3, .int .i64 i, .int .i64 b, .int .i64 v]] w (GivesMk w none) := by
  obtain ⟨o, ho⟩ : ∃ o, findIx l i = o := ⟨_, rfl⟩
  rw [ho] at hf
  have HO := Lib.hid ho
  clear ho
  have b0 := (Below.refl w.heap.size w).alloc (Nat.le_refl _) (.cells #[.int .i64 3, .int .i64 i, .int .i64 b, .int .i64 v] 39)
  have b0s := b0.size
  have L0 := Lies.new w 39 #[.int .i64 3, .int .i64 i, .int .i64 b, .int .i64 v]
  have hW := SlcR.up h b0 (Nat.le_refl _)
  have len := G.len
  go_enter Tryd.func57, Tryd.ntmps57
  go_wp2_with fail
  generalize w.alloc (.cells #[.int .i64 3, .int .i64 i, .int .i64 b, .int .i64 v] 39) = W at b0 b0s L0 hW ⊢
  generalize hgb : w.heap.size = g at L0 ⊢
  rw [hgb] at b0 b0s
  refine (l29Find_any A c l i W hW).mono ?_
  rintro e w1 ⟨he, hb1⟩
  rw [HO.out] at he
  subst he
  have L1 := L0.below hb1 L0.lt
  have hW1 := SlcR.then hW hb1
  have s0 := L1.cell 0
  have s1 := L1.cell 1
  have s2 := L1.cell 2
  have s3 := L1.cell 3
  simp only [List.getElem?_cons_zero, List.getElem?_cons_succ] at s0 s1 s2 s3
  go_wp2
  refine bodyPost_ret (v := .tuple #[.slice (some ⟨w1.heap.size, 0, none⟩) 0 0, .bool false]) (by simp [results, Tryd.results57, go_sem, *]) rfl (GivesMk.fail ?_)
  rw [hgb]
  exact b0.trans ((bthen hb1 ((Below.refl _ _).alloc (Nat.le_refl _) (.cells #[] 41))).mono b0s)
set_option maxRecDepth 100000 in
set_option maxHeartbeats 4000000 in
theorem make6_no (A : Option Addr) (c : Nat) (l : List Lot) (i b v : Int) (w : World) (h : LotsR w w.heap.size A l) (G : GoodL l) (hc : l.length ≤ c) (hf : findIx l i < 0) :
    Calls Tryd.prog 57 #[.slice A l.length c, .agg #[.int .i64 6, .int .i64 i, .int .i64 b, .int .i64 v]] w (GivesMk w none) := by
  obtain ⟨o, ho⟩ : ∃ o, findIx l i = o := ⟨_, rfl⟩
  rw [ho] at hf
  have HO := Lib.hid ho
  clear ho
  have b0 := (Below.refl w.heap.size w).alloc (Nat.le_refl _) (.cells #[.int .i64 6, .int .i64 i, .int .i64 b, .int .i64 v] 39)
  have b0s := b0.size
  have L0 := Lies.new w 39 #[.int .i64 6, .int .i64 i, .int .i64 b, .int .i64 v]
  have hW := SlcR.up h b0 (Nat.le_refl _)
  have len := G.len
  go_enter Tryd.func57, Tryd.ntmps57
  go_wp2_with fail
  generalize w.alloc (.cells #[.int .i64 6, .int .i64 i, .int .i64 b, .int .i64 v] 39) = W at b0 b0s L0 hW ⊢
  generalize hgb : w.heap.size = g at L0 ⊢
  rw [hgb] at b0 b0s
  refine (l29Find_any A c l i W hW).mono ?_
  rintro e w1 ⟨he, hb1⟩
  rw [HO.out] at he
  subst he
  have L1 := L0.below hb1 L0.lt
  have hW1 := SlcR.then hW hb1
  have s0 := L1.cell 0
  have s1 := L1.cell 1
  have s2 := L1.cell 2
  have s3 := L1.cell 3
  simp only [List.getElem?_cons_zero, List.getElem?_cons_succ] at s0 s1 s2 s3
  go_wp2
  refine bodyPost_ret (v := .tuple #[.slice (some ⟨w1.heap.size, 0, none⟩) 0 0, .bool false]) (by simp [results, Tryd.results57, go_sem, *]) rfl (GivesMk.fail ?_)
  rw [hgb]
  exact b0.trans ((bthen hb1 ((Below.refl _ _).alloc (Nat.le_refl _) (.cells #[] 41))).mono b0s)
set_option maxRecDepth 100000 in
set_option maxHeartbeats 4000000 in
theorem make1_no (A : Option Addr) (c : Nat) (l : List Lot) (i b v : Int) (w : World) (h : LotsR w w.heap.size A l) (G : GoodL l) (hc : l.length ≤ c) (hf : 0 ≤ findIx l i) :
    Calls Tryd.prog 57 #[.slice A l.length c, .agg #[.int .i64 1, .int .i64 i, .int .i64 b, .int .i64 v]] w (GivesMk w none) := by
  obtain ⟨o, ho⟩ : ∃ o, findIx l i = o := ⟨_, rfl⟩
  rw [ho] at hf
  have HO := Lib.hid ho
  clear ho
  have hdc : decide (o < 0) = false := decide_eq_false (by omega)
  have b0 := (Below.refl w.heap.size w).alloc (Nat.le_refl _) (.cells #[.int .i64 1, .int .i64 i, .int .i64 b, .int .i64 v] 39)
  have b0s := b0.size
  have L0 := Lies.new w 39 #[.int .i64 1, .int .i64 i, .int .i64 b, .int .i64 v]
  have hW := SlcR.up h b0 (Nat.le_refl _)
  have len := G.len
  go_enter Tryd.func57, Tryd.ntmps57
  go_wp2_with fail
  generalize w.alloc (.cells #[.int .i64 1, .int .i64 i, .int .i64 b, .int .i64 v] 39) = W at b0 b0s L0 hW ⊢
  generalize hgb : w.heap.size = g at L0 ⊢
  rw [hgb] at b0 b0s
  refine (l29Find_any A c l i W hW).mono ?_
  rintro e w1 ⟨he, hb1⟩
  rw [HO.out] at he
  subst he
  have L1 := L0.below hb1 L0.lt
  have hW1 := SlcR.then hW hb1
  have s0 := L1.cell 0
  have s1 := L1.cell 1
  have s2 := L1.cell 2
  have s3 := L1.cell 3
  simp only [List.getElem?_cons_zero, List.getElem?_cons_succ] at s0 s1 s2 s3
  go_wp2_with fail
  refine (l29Put_any A c l i v w1 hW1 (by omega) hc).mono ?_
  rintro e w2 ⟨A2, c2, rfl, h2, hb2⟩
  clear h2
  go_wp2
  refine bodyPost_ret (v := .tuple #[.slice A2 (insL l i v).length c2, .bool false]) (by simp [results, Tryd.results57, go_sem, *]) rfl (GivesMk.fail ?_)
  rw [hgb]
  exact b0.trans ((bthen hb1 hb2).mono b0s)
set_option maxRecDepth 100000 in
set_option maxHeartbeats 4000000 in
theorem make1_yes (A : Option Addr) (c : Nat) (l : List Lot) (i b v : Int) (w : World) (h : LotsR w w.heap.size A l) (G : GoodL l) (hc : l.length ≤ c) (hf : findIx l i < 0) :
    Calls Tryd.prog 57 #[.slice A l.length c, .agg #[.int .i64 1, .int .i64 i, .int .i64 b, .int .i64 v]] w (GivesMk w (if goodLots (insL l i v) then some (insL l i v) else none)) := by
  obtain ⟨d, hd⟩ : ∃ d, goodLots (insL l i v) = d := ⟨_, rfl⟩
  obtain ⟨R, hR⟩ : ∃ R, (if goodLots (insL l i v) then some (insL l i v) else none) = R := ⟨_, rfl⟩
  have HR : Hid (R = if d = true then some (insL l i v) else none) := by rw [Hid, ← hR, ← hd]
  rw [hR]
  clear hR
  obtain ⟨o, ho⟩ : ∃ o, findIx l i = o := ⟨_, rfl⟩
  rw [ho] at hf
  have HO := Lib.hid ho
  clear ho
  have hdc : decide (o < 0) = true := decide_eq_true (by omega)
  have b0 := (Below.refl w.heap.size w).alloc (Nat.le_refl _) (.cells #[.int .i64 1, .int .i64 i, .int .i64 b, .int .i64 v] 39)
  have b0s := b0.size
  have L0 := Lies.new w 39 #[.int .i64 1, .int .i64 i, .int .i64 b, .int .i64 v]
  have hW := SlcR.up h b0 (Nat.le_refl _)
  have len := G.len
  go_enter Tryd.func57, Tryd.ntmps57
  go_wp2_with fail
  generalize w.alloc (.cells #[.int .i64 1, .int .i64 i, .int .i64 b, .int .i64 v] 39) = W at b0 b0s L0 hW ⊢
  generalize hgb : w.heap.size = g at L0 ⊢
  rw [hgb] at b0 b0s
  refine (l29Find_any A c l i W hW).mono ?_
  rintro e w1 ⟨he, hb1⟩
  rw [HO.out] at he
  subst he
  have L1 := L0.below hb1 L0.lt
  have hW1 := SlcR.then hW hb1
  have s0 := L1.cell 0
  have s1 := L1.cell 1
  have s2 := L1.cell 2
  have s3 := L1.cell 3
  simp only [List.getElem?_cons_zero, List.getElem?_cons_succ] at s0 s1 s2 s3
  go_wp2_with fail
  refine (l29Put_any A c l i v w1 hW1 (by omega) hc).mono ?_
  rintro e w2 ⟨A2, c2, rfl, h2, hb2⟩
  have GD := l29Good_any A2 c2 (insL l i v) w2 h2.reads
  rw [hd] at GD
  clear hd
  go_wp2_with fail
  refine GD.mono ?_
  rintro e w3 ⟨rfl, hb3⟩
  have HF := Lib.hid (h2.below hb3)
  clear h2 GD
  cases d
  next =>
    obtain rfl : R = none := by simpa using HR.out
    go_wp2
    refine bodyPost_ret (v := .tuple #[.slice A2 (insL l i v).length c2, .bool false]) (by simp [results, Tryd.results57, go_sem, *]) rfl (GivesMk.fail ?_)
    rw [hgb]
    exact b0.trans ((bthen hb1 (bthen hb2 hb3)).mono b0s)
  next =>
    obtain rfl : R = some (insL l i v) := by simpa using HR.out
    go_wp2
    refine bodyPost_ret (v := .tuple #[.slice A2 (insL l i v).length c2, .bool true]) (by simp [results, Tryd.results57, go_sem, *]) rfl (GivesMk.yes rfl (ownsRow_lower HF.out (by rw [hgb]; exact Nat.le_trans b0s hb1.size)) ?_)
    rw [hgb]
    exact b0.trans ((bthen hb1 (bthen hb2 hb3)).mono b0s)
set_option maxRecDepth 100000 in
set_option maxHeartbeats 4000000 in
theorem make3_yes (A : Option Addr) (c : Nat) (l : List Lot) (i b v : Int) (w : World) (h : LotsR w w.heap.size A l) (G : GoodL l) (hc : l.length ≤ c) (j : Nat) (hj : j < l.length) (hf : findIx l i = j) :
    Calls Tryd.prog 57 #[.slice A l.length c, .agg #[.int .i64 3, .int .i64 i, .int .i64 b, .int .i64 v]] w (GivesMk w (if l[j].s = 0 ∧ openIx l < 0 then some (l.set j (openL l[j])) else none)) := by
  obtain ⟨oi, hoi⟩ : ∃ oi, openIx l = oi := ⟨_, rfl⟩
  rw [hoi]
  have HOI := Lib.hid hoi
  clear hoi
  obtain ⟨x, hxe⟩ : ∃ x, l[j] = x := ⟨_, rfl⟩
  rw [hxe]
  obtain ⟨d, hd⟩ : ∃ d, (x.s == 0) = d := ⟨_, rfl⟩
  obtain ⟨R, hR⟩ : ∃ R, (if x.s = 0 ∧ oi < 0 then some (l.set j (openL x)) else none) = R := ⟨_, rfl⟩
  have HR : Hid (R = if d = true ∧ oi < 0 then some (l.set j (openL x)) else none) := by
    rw [Hid, ← hR, ← hd]
    simp
  rw [hR]
  clear hR
  have hz0 : (0 : Int) ≤ (j : Int) := by omega
  have hzi : ¬ (j : Int) < 0 := by omega
  have HO := Lib.hid hf
  clear hf
  have b0 := (Below.refl w.heap.size w).alloc (Nat.le_refl _) (.cells #[.int .i64 3, .int .i64 i, .int .i64 b, .int .i64 v] 39)
  have b0s := b0.size
  have L0 := Lies.new w 39 #[.int .i64 3, .int .i64 i, .int .i64 b, .int .i64 v]
  have hW := SlcR.up h b0 (Nat.le_refl _)
  have len := G.len
  go_enter Tryd.func57, Tryd.ntmps57
  go_wp2_with fail
  generalize w.alloc (.cells #[.int .i64 3, .int .i64 i, .int .i64 b, .int .i64 v] 39) = W at b0 b0s L0 hW ⊢
  generalize hgb : w.heap.size = g at L0 ⊢
  rw [hgb] at b0 b0s
  refine (l29Find_any A c l i W hW).mono ?_
  rintro e w1 ⟨he, hb1⟩
  rw [HO.out] at he
  subst he
  have L1 := L0.below hb1 L0.lt
  have hW1 := SlcR.then hW hb1
  have s0 := L1.cell 0
  have s1 := L1.cell 1
  have s2 := L1.cell 2
  have s3 := L1.cell 3
  simp only [List.getElem?_cons_zero, List.getElem?_cons_succ] at s0 s1 s2 s3
  obtain ⟨bl, off, rfl, hbl, hcell⟩ := (LotsR.el hW1) (by omega)
  have hcx := hcell j hj
  rw [hxe] at hcx
  obtain ⟨c0, c1', c2, c3, c4⟩ := hcx
  have q0 := c0 ⟨w1, Below.refl _ _⟩
  have q1 := c1' ⟨w1, Below.refl _ _⟩
  have q2 := c2 ⟨w1, Below.refl _ _⟩
  have q3 := c3 ⟨w1, Below.refl _ _⟩
  have q4 := c4 ⟨w1, Below.refl _ _⟩
  clear hcell
  go_upto_region 11 with fail
  have P2 := Lies.new w1 41 #[.int .i64 x.i, .int .i64 x.r, .int .i64 x.s, .int .i64 x.h, .int .i64 x.b]
  have hal := (Below.refl w1.heap.size w1).alloc (Nat.le_refl _) (.cells #[.int .i64 x.i, .int .i64 x.r, .int .i64 x.s, .int .i64 x.h, .int .i64 x.b] 41)
  have L2 := L1.below hal L1.lt
  have b2 := bthen hb1 hal
  have hp := hb1.size
  generalize hw2 : w1.alloc (.cells #[.int .i64 x.i, .int .i64 x.r, .int .i64 x.s, .int .i64 x.h, .int .i64 x.b] 41) = w2 at P2 hal L2 b2 ⊢
  clear hw2 hal s0 s1 s2 s3 q0 q1 q2 q3 q4 c0 c1' c2 c3 c4 L1
  generalize w1.heap.size = p at P2 hp ⊢
  have s0 := L2.cell 0
  have s1 := L2.cell 1
  have s2 := L2.cell 2
  have s3 := L2.cell 3
  simp only [List.getElem?_cons_zero, List.getElem?_cons_succ] at s0 s1 s2 s3
  have p0 := P2.cell 0
  have p1 := P2.cell 1
  have p2 := P2.cell 2
  have p3 := P2.cell 3
  have p4 := P2.cell 4
  simp only [List.getElem?_cons_zero, List.getElem?_cons_succ] at p0 p1 p2 p3 p4
  have hW2 : LotsR w2 w2.heap.size _ l := SlcR.up hW b2 (Nat.le_refl _)
  have hw2 := b2.size
  cases d
  next =>
    obtain rfl : R = none := by simpa using HR.out
    have f0 := P2.frozen 0
    have f1 := P2.frozen 1
    have f2 := P2.frozen 2
    have f3 := P2.frozen 3
    have f4 := P2.frozen 4
    have P3 := P2.set 2 (.int .i64 1)
    simp only [List.set_cons_zero, List.set_cons_succ] at P3
    have b3 := b2.setCell (p := ⟨p, 2, none⟩) hp (.int .i64 1)
    go_upto_region 17 with fail
    generalize hw3 : w2.setCell ⟨p, 2, none⟩ (.int .i64 1) = w3 at P3 b3 ⊢
    have hW3 : LotsR w3 w3.heap.size _ l := SlcR.up hW b3 (Nat.le_refl _)
    clear hw3 P2 L2 b2 s0 s1 s2 s3 p0 p1 p2 p3 p4 f0 f1 f2 f3 f4
    have p0 := P3.cell 0
    have p1 := P3.cell 1
    have p2 := P3.cell 2
    have p3 := P3.cell 3
    have p4 := P3.cell 4
    simp only [List.getElem?_cons_zero, List.getElem?_cons_succ] at p0 p1 p2 p3 p4
    go_wp2_with fail
    refine (l29With_any (some ⟨bl, off, none⟩) c l j (openL x) w3 hW3 (by omega) hj).mono ?_
    rintro e w6 ⟨A6, c6, rfl, h6, hb6⟩
    have hz9 := b3.size
    have b6 := bthen' b3 hb6 b3.size
    have HO6 := Lib.hid h6
    clear h6 P3 hW3 b3 hb6 p0 p1 p2 p3 p4
    go_wp2
    refine bodyPost_ret (v := .tuple #[.slice A6 l.length c6, .bool false]) (by simp [results, Tryd.results57, go_sem, *]) rfl (GivesMk.fail ?_)
    rw [hgb]
    exact b0.trans ((b6).mono b0s)
  next =>
    go_upto_region 15 with fail
    go_wp2_with fail
    refine (l29Open_any (some ⟨bl, off, none⟩) c l w2 hW2).mono ?_
    rintro e w2' ⟨he, hb2'⟩
    rw [HOI.out] at he
    subst he
    have P2' := P2.below hb2' P2.lt
    have L2' := L2.below hb2' L2.lt
    have b2' := bthen b2 hb2'
    clear P2 L2 b2 s0 s1 s2 s3 p0 p1 p2 p3 p4 hw2 hW2 hb2'
    have s0 := L2'.cell 0
    have s1 := L2'.cell 1
    have s2 := L2'.cell 2
    have s3 := L2'.cell 3
    simp only [List.getElem?_cons_zero, List.getElem?_cons_succ] at s0 s1 s2 s3
    have p0 := P2'.cell 0
    have p1 := P2'.cell 1
    have p2 := P2'.cell 2
    have p3 := P2'.cell 3
    have p4 := P2'.cell 4
    simp only [List.getElem?_cons_zero, List.getElem?_cons_succ] at p0 p1 p2 p3 p4
    have f0 := P2'.frozen 0
    have f1 := P2'.frozen 1
    have f2 := P2'.frozen 2
    have f3 := P2'.frozen 3
    have f4 := P2'.frozen 4
    have P3 := P2'.set 2 (.int .i64 1)
    simp only [List.set_cons_zero, List.set_cons_succ] at P3
    have b3 := b2'.setCell (p := ⟨p, 2, none⟩) hp (.int .i64 1)
    go_upto_region 17 with fail
    generalize hw3 : w2'.setCell ⟨p, 2, none⟩ (.int .i64 1) = w3 at P3 b3 ⊢
    have hW3 : LotsR w3 w3.heap.size _ l := SlcR.up hW b3 (Nat.le_refl _)
    clear hw3 P2' L2' b2' s0 s1 s2 s3 p0 p1 p2 p3 p4 f0 f1 f2 f3 f4
    have p0 := P3.cell 0
    have p1 := P3.cell 1
    have p2 := P3.cell 2
    have p3 := P3.cell 3
    have p4 := P3.cell 4
    simp only [List.getElem?_cons_zero, List.getElem?_cons_succ] at p0 p1 p2 p3 p4
    go_wp2_with fail
    refine (l29With_any (some ⟨bl, off, none⟩) c l j (openL x) w3 hW3 (by omega) hj).mono ?_
    rintro e w6 ⟨A6, c6, rfl, h6, hb6⟩
    have hz9 := b3.size
    have b6 := bthen' b3 hb6 b3.size
    have HO6 := Lib.hid h6
    clear h6 P3 hW3 b3 hb6 p0 p1 p2 p3 p4
    by_cases hdo : oi < 0
    next =>
      obtain rfl : R = some (l.set j (openL x)) := by rw [HR.out, if_pos]; exact ⟨by trivial, hdo⟩
      have hdd : decide (oi < 0) = true := decide_eq_true hdo
      go_wp2
      refine bodyPost_ret (v := .tuple #[.slice A6 l.length c6, .bool true]) (by simp [results, Tryd.results57, go_sem, *]) rfl (GivesMk.yes List.length_set (ownsRow_lower HO6.out (by rw [hgb]; exact Nat.le_trans b0s hz9)) ?_)
      rw [hgb]
      exact b0.trans ((b6).mono b0s)
    next =>
      obtain rfl : R = none := by rw [HR.out, if_neg]; intro h; exact hdo h.2
      have hdd : decide (oi < 0) = false := decide_eq_false hdo
      go_wp2
      refine bodyPost_ret (v := .tuple #[.slice A6 l.length c6, .bool false]) (by simp [results, Tryd.results57, go_sem, *]) rfl (GivesMk.fail ?_)
      rw [hgb]
      exact b0.trans ((b6).mono b0s)
end Go.Proofs.YtkokbmmffkpclaaDoor
