/- Fc05: the texts DrawPut DrawPhr DrawV, joined into one file. -/
import Derived.Test.YtchkjiadnackaaaFc02
import Derived.Test.YtchkjiadnackaaaFc04

set_option linter.unusedVariables false

/- The reference's l1Put gives some row of ints. (Printed by gen_dput.py) -/
namespace Go.Proofs.Ytchkjiadnackaaa
open Go.RowKit

theorem infoI_size : (Try.prog.info? 3).map (·.size) = some 1 := by kernel_rfl
/-- A row of ints: the one that came, or a new one of at most one more. -/
def PutInts (w : World) (A : Option Addr) (l : List Int) (e : Ending) (w' : World) : Prop :=
  ∃ (A' : Option Addr) (c' : Nat) (l' : List Int), e = .returned (.slice A' l'.length c') ∧ l'.length ≤ l.length + 1 ∧ l'.length ≤ c' ∧ Below w.heap.size w w' ∧ ((A' = A ∧ l' = l) ∨ OwnS w' w.heap.size 3 1 A' l'.length (encIs l'))

set_option maxRecDepth 100000 in
set_option maxHeartbeats 8000000 in
set_option linter.unusedVariables false in
theorem l1Put_any (A0 : Option Addr) (cc : Nat) (l : List Int) (n : Int) (w : World) (hn : l.length ≤ 1000) (hcap : l.length ≤ cc) (h : IntsR w w.heap.size A0 l) :
    Calls Try.prog 72 #[.slice A0 l.length cc, .int .i64 n] w (PutInts w A0 l) := by
  have hl := h.big
  have hrd := h.ints
  go_enter Try.func72, Try.ntmps72
  go_wp2
  go_loopw [5] (fun i wr => ∃ k : Nat, k ≤ l.length ∧ i = .int .i64 k ∧ (∃ q : Since w.heap.size w, wr = q.val)) (fun i _ => l.length - (intOf i).toNat)
  case atStart => exact ⟨0, Nat.zero_le _, rfl, ⟨Since.start _ _, rfl⟩⟩
  case round =>
    obtain ⟨k, hj5, rfl, ⟨q, rfl⟩⟩ := hrel
    by_cases hlt : k < l.length
    · obtain ⟨b, off, rfl, hb, hcell⟩ := hrd (by omega)
      have c0 := hcell k hlt
      obtain ⟨x, hxe⟩ : ∃ x, l[k] = x := ⟨_, rfl⟩
      rw [hxe] at c0
      clear hcell hrd hxe
      by_cases hx : x < n
      · go_wp2
        go_roundw
        case rel => exact ⟨k + 1, by omega, by go_num, ⟨q, rfl⟩⟩
        case measure => simp [intOf]; omega
      · by_cases hx2 : x = n
        · subst hx2
          go_wp2
          go_ret
          exact ⟨_, cc, l, rfl, by omega, hcap, q.below, .inl ⟨rfl, rfl⟩⟩
        · have hbe : (x == n) = false := by rw [beq_eq_false_iff_ne]; exact hx2
          go_upto_region 6 with fail
          try rw [hbe]
          clear hx2 hx hbe
          obtain ⟨W5, hW5⟩ : ∃ W5, q.val = W5 := ⟨_, rfl⟩
          have b5 : Below w.heap.size w W5 := by rw [← hW5]; exact q.below
          have HSL : Hid (SlcR W5 W5.heap.size 1 (some ⟨b, off, none⟩) l.length (encIs l)) := (SlcR.below h b5).mono b5.size
          rw [hW5]
          clear hW5
          refine wp_region_factsR (fun _ => (fun W9 => Below W5.heap.size W5 W9)) (fun i w1 w2 => i ∉ [7, 11] → Below w1.heap.size w1 w2) (by kernel_rfl) (by kernel_rfl) (by kernel_rfl) (Below.refl _ _).drew ?_
          simp only [fillOps, Act.put, List.setIfInBounds_toArray, List.set_cons_zero, List.set_cons_succ, Nat.zero_add, Nat.reduceAdd]
          refine wpFactsR_some [7, 11] (fun v w9 => ∃ g, v = .slice (some ⟨g, 0, none⟩) 0 0 ∧ W5.heap.size ≤ g ∧ Lies w9 g 3 []) ?_ (fun vs L9 w9 hG9 hC9 hB K9 hK9 => ?_) ?_
          next =>
            intro i9 hi9 hb9 ha9 v w1 w2 hv hT9
            have hb := hT9 (fun hm => by
              simp only [List.mem_cons, List.not_mem_nil, or_false] at hm hb9
              rcases hm with rfl | rfl
              · exact hb9 (by simp)
              · exact hb9 (by simp))
            obtain ⟨g, e, hg, hl⟩ := hv
            exact ⟨g, e, hg, hl.below hb hl.lt⟩
          next =>
            simp only [Act.put, List.setIfInBounds_toArray, List.set_cons_zero, List.set_cons_succ] at hK9
            go_simp
            exact hK9 _ _ _ rfl ⟨_, rfl, hC9.size, Lies.new w9 3 #[]⟩ (hC9.alloc hC9.size _) (fun _ => (Below.refl _ _).alloc (Nat.le_refl _) _)
          apply wpFactsR_val
          case h1 =>
            intro vs L9 w9 hG9 hC9 hB K9 hK9
            simp only [Act.put, List.setIfInBounds_toArray, List.set_cons_zero, List.set_cons_succ] at hK9
            go_simp
            exact hK9 _ _ rfl hC9 (fun _ => Below.refl _ _)
          apply wpFactsR_val
          case h1 =>
            intro vs L9 w9 hG9 hC9 hB K9 hK9
            simp only [Act.put, List.setIfInBounds_toArray, List.set_cons_zero, List.set_cons_succ] at hK9
            go_simp
            exact hK9 _ _ rfl hC9 (fun _ => Below.refl _ _)
          apply wpFactsR_val
          case h1 =>
            intro vs L9 w9 hG9 hC9 hB K9 hK9
            have d1 := FactN.eq (hB 1 _ (by kernel_rfl) (by kernel_rfl) rfl (by decide))
            have d2 := FactN.eq (hB 2 _ (by kernel_rfl) (by kernel_rfl) rfl (by decide))
            simp only [d1, d2] at hK9 ⊢
            simp only [Act.put, List.setIfInBounds_toArray, List.set_cons_zero, List.set_cons_succ] at hK9
            refine step_sliceTo rfl 36 3 (.tmp 34) (.tmp 35) rfl Try.underlying36 1 infoI_size (some ⟨b, off, none⟩) l.length cc k (by rfl) (by rfl) hj5 hcap ?_
            exact hK9 _ _ rfl hC9 (fun _ => Below.refl _ _)
          refine wpFactsR_some [7, 11] (fun v w9 => ∃ A c, v = .slice A (k) c ∧ w9.ownsRow W5.heap.size 3 1 (.slice A (k) c) (k) ((encIs l).take (k * 1))) ?_ (fun vs L9 w9 hG9 hC9 hB K9 hK9 => ?_) ?_
          next =>
            intro i9 hi9 hb9 ha9 v w1 w2 hv hT9
            have hb := hT9 (fun hm => by
              simp only [List.mem_cons, List.not_mem_nil, or_false] at hm hb9
              rcases hm with rfl | rfl
              · exact hb9 (by simp)
              · exact hb9 (by simp))
            obtain ⟨A, c, e, ho⟩ := hv
            exact ⟨A, c, e, ownsRow_below ho hb⟩
          next =>
            have d3 := FactN.eq (hB 3 _ (by kernel_rfl) (by kernel_rfl) rfl (by decide))
            simp only [d3] at hK9 ⊢
            simp only [Act.put, List.setIfInBounds_toArray, List.set_cons_zero, List.set_cons_succ] at hK9
            obtain ⟨g, e0, hg, hl⟩ := hB 0 _ (by kernel_rfl) (by kernel_rfl) rfl (by decide)
            simp only [e0] at hK9 ⊢
            refine stepCat rfl (.tmp 33) (.tmp 36) 36 rfl 3 _ 1 8 Try.underlying36 infoI rfl (by omega) (by omega) W5.heap.size g (by rfl) hl hg W5.heap.size (some ⟨b, off, none⟩) (k) cc _ (by rfl) (SlcR.take (SlcR.below HSL.out hC9) (k) hj5) (fun u hu => ints_one u (List.mem_of_mem_take hu)) (by omega) ?_
            intro v' w' ho hb
            obtain ⟨A', c', rfl⟩ := ownsRow_slice ho
            exact hK9 _ _ _ rfl ⟨A', c', rfl, ho⟩ (hC9.trans (hb.mono hC9.size)) (fun _ => hb)
          apply wpFactsR_val
          case h1 =>
            intro vs L9 w9 hG9 hC9 hB K9 hK9
            simp only [Act.put, List.setIfInBounds_toArray, List.set_cons_zero, List.set_cons_succ] at hK9
            go_simp
            exact hK9 _ _ rfl hC9 (fun _ => Below.refl _ _)
          refine wpFactsR_some [7, 11] (fun v w9 => ∃ g c, v = .slice (some ⟨g, 0, none⟩) 1 c ∧ Lies w9 g 3 [.int .i64 n]) ?_ (fun vs L9 w9 hG9 hC9 hB K9 hK9 => ?_) ?_
          next =>
            intro i9 hi9 hb9 ha9 v w1 w2 hv hT9
            have hb := hT9 (fun hm => by
              simp only [List.mem_cons, List.not_mem_nil, or_false] at hm hb9
              rcases hm with rfl | rfl
              · exact hb9 (by simp)
              · exact hb9 (by simp))
            obtain ⟨g, c, e, hl⟩ := hv
            exact ⟨g, c, e, hl.below hb hl.lt⟩
          next =>
            have d5 := FactN.eq (hB 5 _ (by kernel_rfl) (by kernel_rfl) rfl (by decide))
            simp only [d5] at hK9 ⊢
            simp only [Act.put, List.setIfInBounds_toArray, List.set_cons_zero, List.set_cons_succ] at hK9
            go_simp
            exact hK9 _ _ _ rfl ⟨_, _, rfl, Lies.new w9 3 #[.int .i64 n]⟩ (hC9.alloc hC9.size _) (fun _ => (Below.refl _ _).alloc (Nat.le_refl _) _)
          refine wpFactsR_some [11] (fun v w9 => ∃ A c, v = .slice A (k + 1) c ∧ w9.ownsRow W5.heap.size 3 1 (.slice A (k + 1) c) (k + 1) ((encIs l).take (k * 1) ++ [.int .i64 n])) ?_ (fun vs L9 w9 hG9 hC9 hB K9 hK9 => ?_) ?_
          next =>
            intro i9 hi9 hb9 ha9 v w1 w2 hv hT9
            have hb := hT9 (fun hm => by
              simp only [List.mem_cons, List.not_mem_nil, or_false] at hm hb9
              rcases hm with rfl | rfl
              · exact hi9 rfl
              · exact hb9 (by simp))
            obtain ⟨A, c, e, ho⟩ := hv
            exact ⟨A, c, e, ownsRow_below ho hb⟩
          next =>
            simp only [Act.put, List.setIfInBounds_toArray, List.set_cons_zero, List.set_cons_succ] at hK9
            obtain ⟨A, c, e4, ho⟩ := hB 4 _ (by kernel_rfl) (by kernel_rfl) rfl (by decide)
            obtain ⟨g, c9, e6, hl⟩ := hB 6 _ (by kernel_rfl) (by kernel_rfl) rfl (by decide)
            simp only [e4, e6] at hK9 ⊢
            refine step_cat rfl (.tmp 37) (.tmp 39) 36 rfl 3 _ 1 8 Try.underlying36 infoI rfl (by omega) (by omega) W5.heap.size _ (k) _ (by rfl) ho w9.heap.size (some ⟨g, 0, none⟩) 1 c9 [.int .i64 n] (by rfl) (hl.reads rfl (by omega)) (by simp [Value.oneCell']) (by omega) hC9.size ?_
            intro A' c' w' ho' _ hb
            exact hK9 _ _ _ rfl ⟨A', c', rfl, ho'⟩ (hC9.trans hb) (fun hq => (hq (by decide)).elim)
          apply wpFactsR_val
          case h1 =>
            intro vs L9 w9 hG9 hC9 hB K9 hK9
            simp only [Act.put, List.setIfInBounds_toArray, List.set_cons_zero, List.set_cons_succ] at hK9
            go_simp
            exact hK9 _ _ rfl hC9 (fun _ => Below.refl _ _)
          apply wpFactsR_val
          case h1 =>
            intro vs L9 w9 hG9 hC9 hB K9 hK9
            simp only [Act.put, List.setIfInBounds_toArray, List.set_cons_zero, List.set_cons_succ] at hK9
            go_simp
            exact hK9 _ _ rfl hC9 (fun _ => Below.refl _ _)
          refine wpFactsR_some [] (fun v w9 => ∃ A, v = .slice A (l.length - k) (cc - k) ∧ ∀ W9, Below W5.heap.size W5 W9 → SlcR W9 W5.heap.size 1 A (l.length - k) ((encIs l).drop (k * 1))) ?_ (fun vs L9 w9 hG9 hC9 hB K9 hK9 => ?_) ?_
          next =>
            intro i9 hi9 hb9 ha9 v w1 w2 hv hT9
            exact hv
          next =>
            have d8 := FactN.eq (hB 8 _ (by kernel_rfl) (by kernel_rfl) rfl (by decide))
            have d9 := FactN.eq (hB 9 _ (by kernel_rfl) (by kernel_rfl) rfl (by decide))
            simp only [d8, d9] at hK9 ⊢
            simp only [Act.put, List.setIfInBounds_toArray, List.set_cons_zero, List.set_cons_succ] at hK9
            refine step_sliceFrom rfl 36 3 (.tmp 41) (.tmp 42) rfl Try.underlying36 1 infoI_size (some ⟨b, off, none⟩) l.length cc k (by rfl) (by rfl) hj5 hcap ?_
            intro A' hA9
            exact hK9 _ _ _ rfl ⟨A', rfl, fun W9 hW => hA9 _ _ _ (SlcR.below HSL.out hW)⟩ hC9 (fun _ => Below.refl _ _)
          refine wpFactsR_some [] (fun v w9 => ∃ A c, v = .slice A (k + 1 + (l.length - k)) c ∧ w9.ownsRow W5.heap.size 3 1 (.slice A (k + 1 + (l.length - k)) c) (k + 1 + (l.length - k)) (((encIs l).take (k * 1) ++ [.int .i64 n]) ++ (encIs l).drop (k * 1))) ?_ (fun vs L9 w9 hG9 hC9 hB K9 hK9 => ?_) ?_
          next =>
            intro i9 hi9 hb9 ha9 v w1 w2 hv hT9
            have hb := hT9 (fun hm => by
              simp only [List.mem_cons, List.not_mem_nil, or_false] at hm hb9
              rcases hm with rfl | rfl
              · exact absurd (ha9.symm.trans (show ahead .any _ _ _ _ = true by kernel_rfl)) (by decide)
              · exact hi9 rfl)
            obtain ⟨A, c, e, ho⟩ := hv
            exact ⟨A, c, e, ownsRow_below ho hb⟩
          next =>
            simp only [Act.put, List.setIfInBounds_toArray, List.set_cons_zero, List.set_cons_succ] at hK9
            obtain ⟨A, c, e7, ho⟩ := hB 7 _ (by kernel_rfl) (by kernel_rfl) rfl (by decide)
            obtain ⟨A10, e10, hr⟩ := hB 10 _ (by kernel_rfl) (by kernel_rfl) rfl (by decide)
            simp only [e7, e10] at hK9 ⊢
            refine step_cat rfl (.tmp 40) (.tmp 43) 36 rfl 3 _ 1 8 Try.underlying36 infoI rfl (by omega) (by omega) W5.heap.size _ (k + 1) _ (by rfl) ho W5.heap.size A10 (l.length - k) (cc - k) _ (by rfl) (hr w9 hC9) (fun u hu => ints_one u (List.mem_of_mem_drop hu)) (by omega) hC9.size ?_
            intro A' c' w' ho' _ hb
            exact hK9 _ _ _ rfl ⟨A', c', rfl, ho'⟩ (hC9.trans hb) (fun hq => (hq (by decide)).elim)
          refine wpFactsR_some [] (fun v w9 => ∃ A c, v = .slice A (k + 1 + (l.length - k)) c ∧ w9.ownsRow W5.heap.size 3 1 (.slice A (k + 1 + (l.length - k)) c) (k + 1 + (l.length - k)) (((encIs l).take (k * 1) ++ [.int .i64 n]) ++ (encIs l).drop (k * 1))) ?_ (fun vs L9 w9 hG9 hC9 hB K9 hK9 => ?_) ?_
          next =>
            intro i9 hi9 hb9 ha9 v w1 w2 hv hT9
            have hb := hT9 (fun hm => by
              simp only [List.mem_cons, List.not_mem_nil, or_false] at hm hb9
              rcases hm with rfl | rfl
              · exact absurd (ha9.symm.trans (show ahead .any _ _ _ _ = true by kernel_rfl)) (by decide)
              · exact absurd (ha9.symm.trans (show ahead .any _ _ _ _ = true by kernel_rfl)) (by decide))
            obtain ⟨A, c, e, ho⟩ := hv
            exact ⟨A, c, e, ownsRow_below ho hb⟩
          next =>
            simp only [Act.put, List.setIfInBounds_toArray, List.set_cons_zero, List.set_cons_succ] at hK9
            obtain ⟨A, c, e11, ho⟩ := hB 11 _ (by kernel_rfl) (by kernel_rfl) rfl (by decide)
            simp only [e11] at hK9 ⊢
            go_simp
            exact hK9 _ _ _ rfl ⟨A, c, rfl, ho⟩ hC9 (fun _ => Below.refl _ _)
          refine wpFactsR_nil fun vs Lq W7 hL9 hC7 hB => ?_
          obtain ⟨A7, c7, e12, ho7⟩ := hB 12 _ rfl rfl (by decide)
          simp only [e12]
          clear hB hL9 e12
          have hnl : k + 1 + (l.length - k) = (l.take (k) ++ n :: l.drop (k)).length := by simp; omega
          rw [hnl] at ho7 ⊢
          have hcs : ((encIs l).take (k * 1) ++ [.int .i64 n]) ++ (encIs l).drop (k * 1) = encIs (l.take (k) ++ n :: l.drop (k)) := by simp [List.map_take, List.map_drop]
          rw [hcs] at ho7
          have HB := Lib.hid (b5.trans (hC7.mono b5.size))
          have HO := Lib.hid (ownsRow_lower ho7 b5.size)
          have HNL := Lib.hid hnl
          clear ho7 hC7 hnl hcs HSL
          go_wp2_with fail
          go_ret
          exact ⟨A7, c7, _, rfl, by rw [← HNL.out]; omega, ownsRow_cap HO.out, HB.out, .inr (OwnS.of HO.out)⟩
    · clear hrd
      go_upto_region 6 with fail
      obtain ⟨W5, hW5⟩ : ∃ W5, q.val = W5 := ⟨_, rfl⟩
      have b5 : Below w.heap.size w W5 := by rw [← hW5]; exact q.below
      have HSL : Hid (SlcR W5 W5.heap.size 1 A0 l.length (encIs l)) := (SlcR.below h b5).mono b5.size
      rw [hW5]
      clear hW5
      refine wp_region_factsR (fun _ => (fun W9 => Below W5.heap.size W5 W9)) (fun i w1 w2 => i ∉ [7, 11] → Below w1.heap.size w1 w2) (by kernel_rfl) (by kernel_rfl) (by kernel_rfl) (Below.refl _ _).drew ?_
      simp only [fillOps, Act.put, List.setIfInBounds_toArray, List.set_cons_zero, List.set_cons_succ, Nat.zero_add, Nat.reduceAdd]
      refine wpFactsR_some [7, 11] (fun v w9 => ∃ g, v = .slice (some ⟨g, 0, none⟩) 0 0 ∧ W5.heap.size ≤ g ∧ Lies w9 g 3 []) ?_ (fun vs L9 w9 hG9 hC9 hB K9 hK9 => ?_) ?_
      next =>
        intro i9 hi9 hb9 ha9 v w1 w2 hv hT9
        have hb := hT9 (fun hm => by
          simp only [List.mem_cons, List.not_mem_nil, or_false] at hm hb9
          rcases hm with rfl | rfl
          · exact hb9 (by simp)
          · exact hb9 (by simp))
        obtain ⟨g, e, hg, hl⟩ := hv
        exact ⟨g, e, hg, hl.below hb hl.lt⟩
      next =>
        simp only [Act.put, List.setIfInBounds_toArray, List.set_cons_zero, List.set_cons_succ] at hK9
        go_simp
        exact hK9 _ _ _ rfl ⟨_, rfl, hC9.size, Lies.new w9 3 #[]⟩ (hC9.alloc hC9.size _) (fun _ => (Below.refl _ _).alloc (Nat.le_refl _) _)
      apply wpFactsR_val
      case h1 =>
        intro vs L9 w9 hG9 hC9 hB K9 hK9
        simp only [Act.put, List.setIfInBounds_toArray, List.set_cons_zero, List.set_cons_succ] at hK9
        go_simp
        exact hK9 _ _ rfl hC9 (fun _ => Below.refl _ _)
      apply wpFactsR_val
      case h1 =>
        intro vs L9 w9 hG9 hC9 hB K9 hK9
        simp only [Act.put, List.setIfInBounds_toArray, List.set_cons_zero, List.set_cons_succ] at hK9
        go_simp
        exact hK9 _ _ rfl hC9 (fun _ => Below.refl _ _)
      apply wpFactsR_val
      case h1 =>
        intro vs L9 w9 hG9 hC9 hB K9 hK9
        have d1 := FactN.eq (hB 1 _ (by kernel_rfl) (by kernel_rfl) rfl (by decide))
        have d2 := FactN.eq (hB 2 _ (by kernel_rfl) (by kernel_rfl) rfl (by decide))
        simp only [d1, d2] at hK9 ⊢
        simp only [Act.put, List.setIfInBounds_toArray, List.set_cons_zero, List.set_cons_succ] at hK9
        refine step_sliceTo rfl 36 3 (.tmp 34) (.tmp 35) rfl Try.underlying36 1 infoI_size A0 l.length cc k (by rfl) (by rfl) hj5 hcap ?_
        exact hK9 _ _ rfl hC9 (fun _ => Below.refl _ _)
      refine wpFactsR_some [7, 11] (fun v w9 => ∃ A c, v = .slice A (k) c ∧ w9.ownsRow W5.heap.size 3 1 (.slice A (k) c) (k) ((encIs l).take (k * 1))) ?_ (fun vs L9 w9 hG9 hC9 hB K9 hK9 => ?_) ?_
      next =>
        intro i9 hi9 hb9 ha9 v w1 w2 hv hT9
        have hb := hT9 (fun hm => by
          simp only [List.mem_cons, List.not_mem_nil, or_false] at hm hb9
          rcases hm with rfl | rfl
          · exact hb9 (by simp)
          · exact hb9 (by simp))
        obtain ⟨A, c, e, ho⟩ := hv
        exact ⟨A, c, e, ownsRow_below ho hb⟩
      next =>
        have d3 := FactN.eq (hB 3 _ (by kernel_rfl) (by kernel_rfl) rfl (by decide))
        simp only [d3] at hK9 ⊢
        simp only [Act.put, List.setIfInBounds_toArray, List.set_cons_zero, List.set_cons_succ] at hK9
        obtain ⟨g, e0, hg, hl⟩ := hB 0 _ (by kernel_rfl) (by kernel_rfl) rfl (by decide)
        simp only [e0] at hK9 ⊢
        refine stepCat rfl (.tmp 33) (.tmp 36) 36 rfl 3 _ 1 8 Try.underlying36 infoI rfl (by omega) (by omega) W5.heap.size g (by rfl) hl hg W5.heap.size A0 (k) cc _ (by rfl) (SlcR.take (SlcR.below HSL.out hC9) (k) hj5) (fun u hu => ints_one u (List.mem_of_mem_take hu)) (by omega) ?_
        intro v' w' ho hb
        obtain ⟨A', c', rfl⟩ := ownsRow_slice ho
        exact hK9 _ _ _ rfl ⟨A', c', rfl, ho⟩ (hC9.trans (hb.mono hC9.size)) (fun _ => hb)
      apply wpFactsR_val
      case h1 =>
        intro vs L9 w9 hG9 hC9 hB K9 hK9
        simp only [Act.put, List.setIfInBounds_toArray, List.set_cons_zero, List.set_cons_succ] at hK9
        go_simp
        exact hK9 _ _ rfl hC9 (fun _ => Below.refl _ _)
      refine wpFactsR_some [7, 11] (fun v w9 => ∃ g c, v = .slice (some ⟨g, 0, none⟩) 1 c ∧ Lies w9 g 3 [.int .i64 n]) ?_ (fun vs L9 w9 hG9 hC9 hB K9 hK9 => ?_) ?_
      next =>
        intro i9 hi9 hb9 ha9 v w1 w2 hv hT9
        have hb := hT9 (fun hm => by
          simp only [List.mem_cons, List.not_mem_nil, or_false] at hm hb9
          rcases hm with rfl | rfl
          · exact hb9 (by simp)
          · exact hb9 (by simp))
        obtain ⟨g, c, e, hl⟩ := hv
        exact ⟨g, c, e, hl.below hb hl.lt⟩
      next =>
        have d5 := FactN.eq (hB 5 _ (by kernel_rfl) (by kernel_rfl) rfl (by decide))
        simp only [d5] at hK9 ⊢
        simp only [Act.put, List.setIfInBounds_toArray, List.set_cons_zero, List.set_cons_succ] at hK9
        go_simp
        exact hK9 _ _ _ rfl ⟨_, _, rfl, Lies.new w9 3 #[.int .i64 n]⟩ (hC9.alloc hC9.size _) (fun _ => (Below.refl _ _).alloc (Nat.le_refl _) _)
      refine wpFactsR_some [11] (fun v w9 => ∃ A c, v = .slice A (k + 1) c ∧ w9.ownsRow W5.heap.size 3 1 (.slice A (k + 1) c) (k + 1) ((encIs l).take (k * 1) ++ [.int .i64 n])) ?_ (fun vs L9 w9 hG9 hC9 hB K9 hK9 => ?_) ?_
      next =>
        intro i9 hi9 hb9 ha9 v w1 w2 hv hT9
        have hb := hT9 (fun hm => by
          simp only [List.mem_cons, List.not_mem_nil, or_false] at hm hb9
          rcases hm with rfl | rfl
          · exact hi9 rfl
          · exact hb9 (by simp))
        obtain ⟨A, c, e, ho⟩ := hv
        exact ⟨A, c, e, ownsRow_below ho hb⟩
      next =>
        simp only [Act.put, List.setIfInBounds_toArray, List.set_cons_zero, List.set_cons_succ] at hK9
        obtain ⟨A, c, e4, ho⟩ := hB 4 _ (by kernel_rfl) (by kernel_rfl) rfl (by decide)
        obtain ⟨g, c9, e6, hl⟩ := hB 6 _ (by kernel_rfl) (by kernel_rfl) rfl (by decide)
        simp only [e4, e6] at hK9 ⊢
        refine step_cat rfl (.tmp 37) (.tmp 39) 36 rfl 3 _ 1 8 Try.underlying36 infoI rfl (by omega) (by omega) W5.heap.size _ (k) _ (by rfl) ho w9.heap.size (some ⟨g, 0, none⟩) 1 c9 [.int .i64 n] (by rfl) (hl.reads rfl (by omega)) (by simp [Value.oneCell']) (by omega) hC9.size ?_
        intro A' c' w' ho' _ hb
        exact hK9 _ _ _ rfl ⟨A', c', rfl, ho'⟩ (hC9.trans hb) (fun hq => (hq (by decide)).elim)
      apply wpFactsR_val
      case h1 =>
        intro vs L9 w9 hG9 hC9 hB K9 hK9
        simp only [Act.put, List.setIfInBounds_toArray, List.set_cons_zero, List.set_cons_succ] at hK9
        go_simp
        exact hK9 _ _ rfl hC9 (fun _ => Below.refl _ _)
      apply wpFactsR_val
      case h1 =>
        intro vs L9 w9 hG9 hC9 hB K9 hK9
        simp only [Act.put, List.setIfInBounds_toArray, List.set_cons_zero, List.set_cons_succ] at hK9
        go_simp
        exact hK9 _ _ rfl hC9 (fun _ => Below.refl _ _)
      refine wpFactsR_some [] (fun v w9 => ∃ A, v = .slice A (l.length - k) (cc - k) ∧ ∀ W9, Below W5.heap.size W5 W9 → SlcR W9 W5.heap.size 1 A (l.length - k) ((encIs l).drop (k * 1))) ?_ (fun vs L9 w9 hG9 hC9 hB K9 hK9 => ?_) ?_
      next =>
        intro i9 hi9 hb9 ha9 v w1 w2 hv hT9
        exact hv
      next =>
        have d8 := FactN.eq (hB 8 _ (by kernel_rfl) (by kernel_rfl) rfl (by decide))
        have d9 := FactN.eq (hB 9 _ (by kernel_rfl) (by kernel_rfl) rfl (by decide))
        simp only [d8, d9] at hK9 ⊢
        simp only [Act.put, List.setIfInBounds_toArray, List.set_cons_zero, List.set_cons_succ] at hK9
        refine step_sliceFrom rfl 36 3 (.tmp 41) (.tmp 42) rfl Try.underlying36 1 infoI_size A0 l.length cc k (by rfl) (by rfl) hj5 hcap ?_
        intro A' hA9
        exact hK9 _ _ _ rfl ⟨A', rfl, fun W9 hW => hA9 _ _ _ (SlcR.below HSL.out hW)⟩ hC9 (fun _ => Below.refl _ _)
      refine wpFactsR_some [] (fun v w9 => ∃ A c, v = .slice A (k + 1 + (l.length - k)) c ∧ w9.ownsRow W5.heap.size 3 1 (.slice A (k + 1 + (l.length - k)) c) (k + 1 + (l.length - k)) (((encIs l).take (k * 1) ++ [.int .i64 n]) ++ (encIs l).drop (k * 1))) ?_ (fun vs L9 w9 hG9 hC9 hB K9 hK9 => ?_) ?_
      next =>
        intro i9 hi9 hb9 ha9 v w1 w2 hv hT9
        have hb := hT9 (fun hm => by
          simp only [List.mem_cons, List.not_mem_nil, or_false] at hm hb9
          rcases hm with rfl | rfl
          · exact absurd (ha9.symm.trans (show ahead .any _ _ _ _ = true by kernel_rfl)) (by decide)
          · exact hi9 rfl)
        obtain ⟨A, c, e, ho⟩ := hv
        exact ⟨A, c, e, ownsRow_below ho hb⟩
      next =>
        simp only [Act.put, List.setIfInBounds_toArray, List.set_cons_zero, List.set_cons_succ] at hK9
        obtain ⟨A, c, e7, ho⟩ := hB 7 _ (by kernel_rfl) (by kernel_rfl) rfl (by decide)
        obtain ⟨A10, e10, hr⟩ := hB 10 _ (by kernel_rfl) (by kernel_rfl) rfl (by decide)
        simp only [e7, e10] at hK9 ⊢
        refine step_cat rfl (.tmp 40) (.tmp 43) 36 rfl 3 _ 1 8 Try.underlying36 infoI rfl (by omega) (by omega) W5.heap.size _ (k + 1) _ (by rfl) ho W5.heap.size A10 (l.length - k) (cc - k) _ (by rfl) (hr w9 hC9) (fun u hu => ints_one u (List.mem_of_mem_drop hu)) (by omega) hC9.size ?_
        intro A' c' w' ho' _ hb
        exact hK9 _ _ _ rfl ⟨A', c', rfl, ho'⟩ (hC9.trans hb) (fun hq => (hq (by decide)).elim)
      refine wpFactsR_some [] (fun v w9 => ∃ A c, v = .slice A (k + 1 + (l.length - k)) c ∧ w9.ownsRow W5.heap.size 3 1 (.slice A (k + 1 + (l.length - k)) c) (k + 1 + (l.length - k)) (((encIs l).take (k * 1) ++ [.int .i64 n]) ++ (encIs l).drop (k * 1))) ?_ (fun vs L9 w9 hG9 hC9 hB K9 hK9 => ?_) ?_
      next =>
        intro i9 hi9 hb9 ha9 v w1 w2 hv hT9
        have hb := hT9 (fun hm => by
          simp only [List.mem_cons, List.not_mem_nil, or_false] at hm hb9
          rcases hm with rfl | rfl
          · exact absurd (ha9.symm.trans (show ahead .any _ _ _ _ = true by kernel_rfl)) (by decide)
          · exact absurd (ha9.symm.trans (show ahead .any _ _ _ _ = true by kernel_rfl)) (by decide))
        obtain ⟨A, c, e, ho⟩ := hv
        exact ⟨A, c, e, ownsRow_below ho hb⟩
      next =>
        simp only [Act.put, List.setIfInBounds_toArray, List.set_cons_zero, List.set_cons_succ] at hK9
        obtain ⟨A, c, e11, ho⟩ := hB 11 _ (by kernel_rfl) (by kernel_rfl) rfl (by decide)
        simp only [e11] at hK9 ⊢
        go_simp
        exact hK9 _ _ _ rfl ⟨A, c, rfl, ho⟩ hC9 (fun _ => Below.refl _ _)
      refine wpFactsR_nil fun vs Lq W7 hL9 hC7 hB => ?_
      obtain ⟨A7, c7, e12, ho7⟩ := hB 12 _ rfl rfl (by decide)
      simp only [e12]
      clear hB hL9 e12
      have hnl : k + 1 + (l.length - k) = (l.take (k) ++ n :: l.drop (k)).length := by simp; omega
      rw [hnl] at ho7 ⊢
      have hcs : ((encIs l).take (k * 1) ++ [.int .i64 n]) ++ (encIs l).drop (k * 1) = encIs (l.take (k) ++ n :: l.drop (k)) := by simp [List.map_take, List.map_drop]
      rw [hcs] at ho7
      have HB := Lib.hid (b5.trans (hC7.mono b5.size))
      have HO := Lib.hid (ownsRow_lower ho7 b5.size)
      have HNL := Lib.hid hnl
      clear ho7 hC7 hnl hcs HSL
      go_wp2_with fail
      go_ret
      exact ⟨A7, c7, _, rfl, by rw [← HNL.out]; omega, ownsRow_cap HO.out, HB.out, .inr (OwnS.of HO.out)⟩
end Go.Proofs.Ytchkjiadnackaaa

/- The reference draws a phrase. (Printed by gen_dphr.py) -/
namespace Go.Proofs.Ytchkjiadnackaaa
open Go.RowKit

theorem OwnS.ne {w w' : World} {B : Nat} {t : TypeId} {k : Nat} {A : Option Addr} {n g : Nat} {cs : List Value} (h : OwnS w B t k A n cs) (hg : w.grownBy w' (some g)) (hne : ∀ b, A.map (·.block) = some b → b ≠ g) : OwnS w' B t k A n cs := by
  obtain ⟨hl, hn, h0 | ⟨q, rest, hA, hq, hh⟩⟩ := h
  · exact ⟨hl, hn, .inl h0⟩
  · exact ⟨hl, hn, .inr ⟨q, rest, hA, hq, hh.kept hg (by intro e; injection e with e; exact hne q (by rw [hA]; rfl) e)⟩⟩
theorem OwnS.ge {w : World} {B : Nat} {t : TypeId} {k : Nat} {A : Option Addr} {n : Nat} {cs : List Value} (h : OwnS w B t k A n cs) : ∀ b, A.map (·.block) = some b → B ≤ b := by
  obtain ⟨hl, hn, ⟨h0, _⟩ | ⟨q, rest, hA, hq, hh⟩⟩ := h
  · subst h0; intro b e; cases e
  · subst hA; intro b e; injection e with e; subst e; exact hq
theorem OwnS.gr {w w' : World} {B : Nat} {t : TypeId} {k : Nat} {A : Option Addr} {n g : Nat} {cs : List Value} (h : OwnS w B t k A n cs) (hg : w.grownBy w' (some g)) (hB : g < B) : OwnS w' B t k A n cs :=
  h.ne hg fun b e => by have := h.ge b e; omega
/-- A row of another type stands elsewhere. -/
theorem OwnS.off {w : World} {B : Nat} {t t' : TypeId} {k : Nat} {A : Option Addr} {n g : Nat} {cs cs' : List Value} (h : OwnS w B t k A n cs) (hL : Lies w g t' cs') (hne : t ≠ t') : ∀ b, A.map (·.block) = some b → b ≠ g := by
  obtain ⟨hl, hn, ⟨h0, _⟩ | ⟨q, rest, hA, hq, hh⟩⟩ := h
  · subst h0; intro b e; cases e
  · subst hA; intro b e; injection e with e; subst e
    intro e; subst e
    have h1 := hh.symm.trans hL
    injection h1 with h1; injection h1 with h1 h2
    exact hne h2
theorem Dr.ownS {w W W9 : World} {g : Nat} {A : Option Addr} {bs : List UInt8} {cap m K n : Nat} {X : List Nat} {R : List Room} {L : Nat → Bool} {B : Nat} {t : TypeId} {k : Nat} {A' : Option Addr} {n' : Nat} {cs : List Value} (h : Dr w W g A bs cap m K n X R L W9) (ho : OwnS W B t k A' n' cs) (hX : ∀ b, A'.map (·.block) = some b → b ∉ X) : OwnS W9 B t k A' n' cs := by
  obtain ⟨hl, hn, h0 | ⟨q, rest, hA, hq, hh⟩⟩ := ho
  · exact ⟨hl, hn, .inl h0⟩
  · exact ⟨hl, hn, .inr ⟨q, rest, hA, hq, h.lies hh (hX q (by rw [hA]; rfl))⟩⟩
theorem OwnS.lit (W : World) (B : Nat) (l : List Int) (hB : B ≤ W.heap.size) (hn : l.length ≤ 1000000) : OwnS (W.alloc (.cells (encIs l).toArray 3)) B 3 1 (some ⟨W.heap.size, 0, none⟩) l.length (encIs l) :=
  ⟨by rw [encIs_len], by omega, .inr ⟨_, [], rfl, hB, by have := Lies.new W 3 (encIs l).toArray; simpa using this⟩⟩
theorem ne_int_ph : 3 ≠ 42 := by decide
/-- A phrase while it is drawn: block h holds it; g4 waits for the result. -/
structure PSt (w W wx : World) (g : Nat) (A : Option Addr) (bs : List UInt8) (cap m g4 h : Nat) (x : Ph) : Prop where
  env : Env w wx g A bs cap m
  out : Lies wx g4 42 [.int .i64 0, .int .i64 0, .slice none 0 0, .int .i64 0]
  now : Lies wx h 42 x.enc
  own : OwnS wx W.heap.size 3 1 x.A x.f.length (encIs x.f)
  cp : x.f.length ≤ x.cap
  gr : W.grownBy wx (some g)
section
variable {w W wx wy : World} {g : Nat} {A : Option Addr} {bs : List UInt8} {cap m m' g4 h : Nat} {x : Ph}
theorem PSt.mono (S : PSt w W wx g A bs cap m g4 h x) (hm : m ≤ m') : PSt w W wx g A bs cap m' g4 h x := { S with env := S.env.mono hm }
theorem PSt.next (S : PSt w W wx g A bs cap m g4 h x) (E : Env w wy g A bs cap m') (hg : wx.grownBy wy (some g)) (h1 : g < W.heap.size) (h4 : g ≠ g4) (h5 : g ≠ h) : PSt w W wy g A bs cap m' g4 h x :=
  ⟨E, S.out.kept hg (by intro e; injection e with e; exact h4 e.symm), S.now.kept hg (by intro e; injection e with e; exact h5 e.symm), S.own.gr hg h1, S.cp, grown_trans S.gr hg⟩
theorem PSt.alloc (S : PSt w W wx g A bs cap m g4 h x) (o : Obj) : PSt w W (wx.alloc o) g A bs cap m g4 h x :=
  ⟨S.env.alloc o, S.out.alloc o, S.now.alloc o, S.own.ne (g := wx.heap.size) (World.grownBy_alloc wx o _) (fun b e => by
    obtain ⟨_, _, ⟨h0, _⟩ | ⟨q, rest, hA, hq, hh⟩⟩ := S.own
    · rw [h0] at e; cases e
    · rw [hA] at e; injection e with e; have h9 := hh.lt; simp only at e; omega), S.cp, grown_trans S.gr (World.grownBy_alloc wx o _)⟩
/-- The phrase's block holds another one. -/
theorem PSt.put {y : Ph} (S : PSt w W wx g A bs cap m g4 h x) (hg : wx.grownBy wy (some h)) (hL : Lies wy h 42 y.enc) (ho : OwnS wx W.heap.size 3 1 y.A y.f.length (encIs y.f)) (hc : y.f.length ≤ y.cap) (hw : w.heap.size ≤ h) (hW : W.heap.size ≤ h) (hgh : g < h) (h4 : g4 ≠ h) : PSt w W wy g A bs cap m g4 h y :=
  ⟨S.env.wrote hg hw hgh, S.out.kept hg (by intro e; injection e with e; exact h4 e), hL, ho.ne hg (ho.off S.now ne_int_ph), hc, grown_own S.gr hg hW⟩
end

set_option maxRecDepth 100000 in
set_option maxHeartbeats 8000000 in
set_option linter.unusedVariables false in
theorem phrase30_any (g : Nat) (A : Option Addr) (bs : List UInt8) (cap m : Nat) (w W : World) (hm : m ≤ 800000000) (E0 : Env w W g A bs cap m) :
    Calls Try.prog 63 #[.pointer (some ⟨g, 0, none⟩)] W fun e w' => ∃ x : Ph, e = .returned x.val ∧ x.f.length ≤ 9 ∧ OwnS w' W.heap.size 3 1 x.A x.f.length (encIs x.f) ∧ Env w w' g A bs cap (m + 100) ∧ W.grownBy w' (some g) := by
  have hgW := E0.lt
  have hwW := E0.gr.size
  go_enter Try.func63, Try.ntmps63
  go_wp2_with fail
  have E1 := E0.alloc (.cells #[.int .i64 0, .int .i64 0, .slice none 0 0, .int .i64 0] 42)
  have L4 := Lies.new W 42 #[.int .i64 0, .int .i64 0, .slice none 0 0, .int .i64 0]
  have G1 := World.grownBy_alloc W (.cells #[.int .i64 0, .int .i64 0, .slice none 0 0, .int .i64 0] 42) (some g)
  generalize W.alloc (.cells #[.int .i64 0, .int .i64 0, .slice none 0 0, .int .i64 0] 42) = W1 at E1 L4 G1 ⊢
  have HG := Lib.hid G1; clear G1 E0
  obtain ⟨g4, hg4⟩ : ∃ g4, W.heap.size = g4 := ⟨_, rfl⟩
  have h4 : g < g4 ∧ w.heap.size ≤ g4 := by omega
  rw [hg4] at L4
  rw [hg4]
  have HQ := Lib.hid hg4
  clear hg4 hgW hwW
  refine (pick_env E1 3 (by omega) (by omega)).mono ?_
  rintro e W2 ⟨x0, rfl, hx0, E2, gr⟩
  replace L4 := L4.kept gr (by intro e; injection e; omega)
  replace HG := Lib.hid (grown_trans HG.out gr)
  clear gr E1
  have hw0 : IntKind.i64.wrap (1 + (x0 : Int)) = 1 + (x0 : Int) := IntWalk.i64_in _ (by omega)
  go_wp2_with fail
  have Li := Lies.new W2 3 #[.int .i64 1, .int .i64 1, .int .i64 2, .int .i64 12, .int .i64 60, .int .i64 99]
  have Ei := E2.alloc (.cells #[.int .i64 1, .int .i64 1, .int .i64 2, .int .i64 12, .int .i64 60, .int .i64 99] 3)
  replace L4 := L4.alloc (.cells #[.int .i64 1, .int .i64 1, .int .i64 2, .int .i64 12, .int .i64 60, .int .i64 99] 3)
  replace HG := Lib.hid (grown_trans HG.out (World.grownBy_alloc W2 (.cells #[.int .i64 1, .int .i64 1, .int .i64 2, .int .i64 12, .int .i64 60, .int .i64 99] 3) (some g)))
  have hl := E2.lt
  generalize W2.alloc (.cells #[.int .i64 1, .int .i64 1, .int .i64 2, .int .i64 12, .int .i64 60, .int .i64 99] 3) = Wi at Li Ei HG L4 ⊢
  generalize W2.heap.size = gi at Li hl ⊢
  refine (among_lies Ei gi 6 [1, 1, 2, 12, 60, 99] rfl Li (by omega) (by omega) (by omega) (by omega)).mono ?_
  rintro e W3 ⟨x1, rfl, E3, gr⟩
  replace L4 := L4.kept gr (by intro e; injection e; omega)
  replace HG := Lib.hid (grown_trans HG.out gr)
  clear gr Ei Li hl E2
  go_wp2_with fail
  have Li := Lies.new W3 3 #[.int .i64 0, .int .i64 0, .int .i64 5, .int .i64 120, .int .i64 999999]
  have Ei := E3.alloc (.cells #[.int .i64 0, .int .i64 0, .int .i64 5, .int .i64 120, .int .i64 999999] 3)
  replace L4 := L4.alloc (.cells #[.int .i64 0, .int .i64 0, .int .i64 5, .int .i64 120, .int .i64 999999] 3)
  replace HG := Lib.hid (grown_trans HG.out (World.grownBy_alloc W3 (.cells #[.int .i64 0, .int .i64 0, .int .i64 5, .int .i64 120, .int .i64 999999] 3) (some g)))
  have hl := E3.lt
  generalize W3.alloc (.cells #[.int .i64 0, .int .i64 0, .int .i64 5, .int .i64 120, .int .i64 999999] 3) = Wi at Li Ei HG L4 ⊢
  generalize W3.heap.size = gi at Li hl ⊢
  refine (among_lies Ei gi 5 [0, 0, 5, 120, 999999] rfl Li (by omega) (by omega) (by omega) (by omega)).mono ?_
  rintro e W4 ⟨x2, rfl, E4, gr⟩
  replace L4 := L4.kept gr (by intro e; injection e; omega)
  replace HG := Lib.hid (grown_trans HG.out gr)
  clear gr Ei Li hl E3
  go_wp2_with fail
  have L5 := Lies.new W4 42 #[.int .i64 (1 + (x0 : Int)), .int .i64 x1, .slice none 0 0, .int .i64 x2]
  have E5 := E4.alloc (.cells #[.int .i64 (1 + (x0 : Int)), .int .i64 x1, .slice none 0 0, .int .i64 x2] 42)
  have h45 := L4.lt
  replace L4 := L4.alloc (.cells #[.int .i64 (1 + (x0 : Int)), .int .i64 x1, .slice none 0 0, .int .i64 x2] 42)
  replace HG := Lib.hid (grown_trans HG.out (World.grownBy_alloc W4 (.cells #[.int .i64 (1 + (x0 : Int)), .int .i64 x1, .slice none 0 0, .int .i64 x2] 42) (some g)))
  have h55 := L5.lt
  generalize W4.alloc (.cells #[.int .i64 (1 + (x0 : Int)), .int .i64 x1, .slice none 0 0, .int .i64 x2] 42) = W5 at E5 L5 L4 HG h55 ⊢
  generalize W4.heap.size = g5 at L5 h45 h55 ⊢
  have S5 : PSt w W W5 g A bs cap (m + 2 + 2 + 2) g4 g5 { s := 1 + (x0 : Int), c := x1, f := [], p := x2, A := none, cap := 0 } := ⟨E5, L4, L5, ⟨rfl, by simp, .inl ⟨rfl, rfl⟩⟩, Nat.le_refl _, HG.out⟩
  clear E4 E5 L5 L4 HG hw0
  have hgg : g < W.heap.size := by have := HQ.out; omega
  have hgg4 : g ≠ g4 := by omega
  have hgg5 : g ≠ g5 := by omega
  have hW5 : W.heap.size ≤ g5 := by have := HQ.out; omega
  have hne45 : g4 ≠ g5 := by omega
  refine (pick_env S5.env 4 (by omega) (by omega)).mono ?_
  rintro e W6 ⟨n, rfl, hn, E6, gr⟩
  have HS := Lib.hid ((S5.next E6 gr hgg hgg4 hgg5).mono (show _ ≤ m + 10 + 20 * (3 - n) by omega))
  clear gr E6 S5
  go_wp2_with fail
  go_loopw [4] (fun i wr => ∃ (k : Nat) (x : Ph), k ≤ 3 ∧ i = .int .i64 k ∧ x.f.length + k ≤ 3 ∧ Hid (PSt w W wr g A bs cap (m + 10 + 20 * (3 - k)) g4 g5 x)) (fun i _ => (intOf i).toNat)
  case atStart => exact ⟨n, _, by omega, rfl, by simp; omega, HS⟩
  case round =>
    clear HS hn
    obtain ⟨k, x, hk, rfl, hl, HS⟩ := hrel
    by_cases hlt : 0 < k
    · obtain ⟨k, rfl⟩ : ∃ q, k = q + 1 := ⟨k - 1, by omega⟩
      clear hlt
      have hi0 : (0 : Int) < ((k + 1 : Nat) : Int) := by omega
      have K5 := HS.out.now
      have HX : Hid (∀ b, x.A.map (·.block) = some b → b ∉ [g, g5]) := fun b e hm => by
        have h1 := HS.out.own.ge b e
        have h2 := HS.out.own.off K5 ne_int_ph b e
        simp only [List.mem_cons, List.not_mem_nil, or_false] at hm
        omega
      go_upto_region 5 with fail
      refine wp_region_factsR (Dr w wr g A bs cap (m + 10 + 20 * (3 - (k + 1))) 2 8 [g, g5] [Room.lies 7 g5 42 [.int .i64 x.s, .int .i64 x.c, .slice x.A x.f.length x.cap, .int .i64 x.p]]) (fun i w1 w2 => i ∉ [7] → w1.grownBy w2 (some g)) (by kernel_rfl) (by kernel_rfl) (by kernel_rfl) (Dr.start HS.out.env (fun p hp => by simp only [List.mem_singleton] at hp; subst hp; exact ⟨by intro e; injection e; omega, K5⟩)) ?_
      simp only [fillOps, Act.put, List.setIfInBounds_toArray, List.set_cons_zero, List.set_cons_succ, Nat.zero_add, Nat.reduceAdd]
      apply wpFactsR_val
      case h1 =>
        intro vs L9 w9 hG9 hC9 hB K9 hK9
        simp only [Act.put, List.setIfInBounds_toArray, List.set_cons_zero, List.set_cons_succ] at hK9
        go_simp
        exact hK9 _ _ rfl (hC9.stay hG9.self (by decide)) (fun _ => World.grownBy.refl _ _)
      apply wpFactsR_val
      case h1 =>
        intro vs L9 w9 hG9 hC9 hB K9 hK9
        have d0 := FactN.eq (hB 0 _ (by kernel_rfl) (by kernel_rfl) rfl (by decide))
        simp only [d0] at hK9 ⊢
        have q0 : w9.cell? ⟨g5, 2, none⟩ = some (.slice x.A x.f.length x.cap) := ((hC9.room (Room.lies 7 g5 42 [.int .i64 x.s, .int .i64 x.c, .slice x.A x.f.length x.cap, .int .i64 x.p]) (by simp)).2 (hG9.open_ 7 (by kernel_rfl))).cell 2
        simp only [Act.put, List.setIfInBounds_toArray, List.set_cons_zero, List.set_cons_succ] at hK9
        go_simp
        exact hK9 _ _ rfl (hC9.stay hG9.self (by decide)) (fun _ => World.grownBy.refl _ _)
      apply wpFactsR_val
      case h1 =>
        intro vs L9 w9 hG9 hC9 hB K9 hK9
        simp only [Act.put, List.setIfInBounds_toArray, List.set_cons_zero, List.set_cons_succ] at hK9
        go_simp
        exact hK9 _ _ rfl (hC9.stay hG9.self (by decide)) (fun _ => World.grownBy.refl _ _)
      refine wpFactsR_some [7] (fun v w9 => ∃ (b : Nat) (l : List Int), v = .slice (some ⟨b, 0, none⟩) 4 4 ∧ l.length = 4 ∧ Lies w9 b 3 (encIs l) ∧ b ≠ g) ?_ (fun vs L9 w9 hG9 hC9 hB K9 hK9 => ?_) ?_
      next =>
        intro i9 hi9 hb9 ha9 v w1 w2 hv hT9
        have hb := hT9 (fun hm => by
          simp only [List.mem_cons, List.not_mem_nil, or_false] at hm hb9
          subst hm
          · exact hb9 (by simp))
        obtain ⟨b, l, q1, q2, q3, q4⟩ := hv
        exact ⟨b, l, q1, q2, q3.kept hb (by intro e; injection e with e; exact q4 e), q4⟩
      next =>
        simp only [Act.put, List.setIfInBounds_toArray, List.set_cons_zero, List.set_cons_succ] at hK9
        go_simp
        exact hK9 _ _ _ rfl ⟨w9.heap.size, [1, 2, 5, 9], rfl, rfl, Lies.new w9 3 _, by have := hC9.env.lt; omega⟩ (hC9.alloc hG9.self (by decide) _) (fun _ => World.grownBy_alloc _ _ _)
      refine wpFactsR_some [] (fun v _ => ∃ z : Int, v = .int .i64 z) ?_ (fun vs L9 w9 hG9 hC9 hB K9 hK9 => ?_) ?_
      next =>
        intro i9 hi9 hb9 ha9 v w1 w2 hv hT9
        exact hv
      next =>
        have d2 := FactN.eq (hB 2 _ (by kernel_rfl) (by kernel_rfl) rfl (by decide))
        simp only [d2] at hK9 ⊢
        simp only [Act.put, List.setIfInBounds_toArray, List.set_cons_zero, List.set_cons_succ] at hK9
        obtain ⟨b3, l3, e3, el3, eL3, en3⟩ := hB 3 _ (by kernel_rfl) (by kernel_rfl) rfl (by decide)
        simp only [e3] at hK9 ⊢
        go_simp
        refine (among_lies hC9.env b3 4 l3 el3 eL3 en3 (by omega) (by omega) (by have := hC9.cnt; omega)).mono ?_
        rintro en w8 ⟨x8, rfl, hE8, hg8⟩
        exact hK9 _ _ _ rfl ⟨_, rfl⟩ (hC9.call hG9.self (by decide) hE8 (by have := hC9.cnt; omega) hg8 (by simp)) (fun _ => hg8)
      refine wpFactsR_some [7] (fun v w9 => ∃ (A5 : Option Addr) (c5 : Nat) (l5 : List Int), v = .slice A5 l5.length c5 ∧ l5.length ≤ x.f.length + 1 ∧ l5.length ≤ c5 ∧ OwnS w9 W.heap.size 3 1 A5 l5.length (encIs l5) ∧ (∀ b, A5.map (·.block) = some b → b ≠ g5)) ?_ (fun vs L9 w9 hG9 hC9 hB K9 hK9 => ?_) ?_
      next =>
        intro i9 hi9 hb9 ha9 v w1 w2 hv hT9
        have hb := hT9 (fun hm => by
          simp only [List.mem_cons, List.not_mem_nil, or_false] at hm hb9
          subst hm
          · exact hb9 (by simp))
        obtain ⟨A5, c5, l5, q1, q2, q3, q4, q5⟩ := hv
        exact ⟨A5, c5, l5, q1, q2, q3, q4.gr hb (by omega), q5⟩
      next =>
        have d1 := FactN.eq (hB 1 _ (by kernel_rfl) (by kernel_rfl) rfl (by decide))
        simp only [d1] at hK9 ⊢
        simp only [Act.put, List.setIfInBounds_toArray, List.set_cons_zero, List.set_cons_succ] at hK9
        obtain ⟨z4, e4⟩ := hB 4 _ (by kernel_rfl) (by kernel_rfl) rfl (by decide)
        simp only [e4] at hK9 ⊢
        go_simp
        have HO9 := Lib.hid (hC9.ownS HS.out.own HX.out)
        have hwS : W.heap.size ≤ w9.heap.size := Nat.le_trans HS.out.gr.size hC9.size
        have h5S : g5 < w9.heap.size := Nat.lt_of_lt_of_le K5.lt hC9.size
        refine (l1Put_any x.A x.cap x.f z4 w9 (by omega) HS.out.cp HO9.out.reads).mono ?_
        rintro en w8 ⟨A8, c8, l8, rfl, hl8, hc8, hb8, hor⟩
        have o8 : OwnS w8 W.heap.size 3 1 A8 l8.length (encIs l8) := by
          rcases hor with ⟨e1, e2⟩ | h8
          · subst e1; subst e2; exact HO9.out.then hb8
          · exact h8.lower hwS
        have n8 : ∀ b, A8.map (·.block) = some b → b ≠ g5 := by
          rcases hor with ⟨e1, e2⟩ | h8
          · subst e1; intro b e h; exact HX.out b e (by simp [h])
          · intro b e; have := h8.ge b e; omega
        exact hK9 _ _ _ rfl ⟨A8, c8, l8, rfl, hl8, hc8, o8, n8⟩ (hC9.below hG9.self (by decide) hb8) (fun _ => grownAny hb8 _)
      apply wpFactsR_val
      case h1 =>
        intro vs L9 w9 hG9 hC9 hB K9 hK9
        simp only [Act.put, List.setIfInBounds_toArray, List.set_cons_zero, List.set_cons_succ] at hK9
        go_simp
        exact hK9 _ _ rfl (hC9.stay hG9.self (by decide)) (fun _ => World.grownBy.refl _ _)
      refine wpFactsR_some [] (fun _ w9 => ∃ (A5 : Option Addr) (c5 : Nat) (l5 : List Int), l5.length ≤ x.f.length + 1 ∧ l5.length ≤ c5 ∧ OwnS w9 W.heap.size 3 1 A5 l5.length (encIs l5) ∧ Lies w9 g5 42 [.int .i64 x.s, .int .i64 x.c, .slice A5 l5.length c5, .int .i64 x.p]) ?_ (fun vs L9 w9 hG9 hC9 hB K9 hK9 => ?_) ?_
      next =>
        intro i9 hi9 hb9 ha9 v w1 w2 hv hT9
        have hb := hT9 (fun hm => by
          simp only [List.mem_cons, List.not_mem_nil, or_false] at hm hb9
          subst hm
          · exact hi9 rfl)
        obtain ⟨A5, c5, l5, q1, q2, q3, q4⟩ := hv
        exact ⟨A5, c5, l5, q1, q2, q3.gr hb (by omega), q4.kept hb (by intro e; injection e; omega)⟩
      next =>
        have d6 := FactN.eq (hB 6 _ (by kernel_rfl) (by kernel_rfl) rfl (by decide))
        simp only [d6] at hK9 ⊢
        simp only [Act.put, List.setIfInBounds_toArray, List.set_cons_zero, List.set_cons_succ] at hK9
        obtain ⟨A5, c5, l5, e5, h51, h52, o5, n5⟩ := hB 5 _ (by kernel_rfl) (by kernel_rfl) rfl (by decide)
        simp only [e5] at hK9 ⊢
        have hL9 : Lies w9 g5 42 [.int .i64 x.s, .int .i64 x.c, .slice x.A x.f.length x.cap, .int .i64 x.p] := (hC9.room (Room.lies 7 g5 42 [.int .i64 x.s, .int .i64 x.c, .slice x.A x.f.length x.cap, .int .i64 x.p]) (by simp)).2 hG9.self
        have y0 := hL9.cell 0
        have y1 := hL9.cell 1
        have y2 := hL9.cell 2
        have y3 := hL9.cell 3
        simp only [List.getElem?_cons_zero, List.getElem?_cons_succ] at y0 y1 y2 y3
        have f0 := hL9.frozen 0
        have f1 := hL9.frozen 1
        have f2 := hL9.frozen 2
        have f3 := hL9.frozen 3
        have hN9 : Lies _ g5 42 [.int .i64 x.s, .int .i64 x.c, .slice A5 l5.length c5, .int .i64 x.p] := (hL9.set 2 (.slice A5 l5.length c5))
        have hG8 := Lib.hid (grown_set (g := g5) (i := 2) (u := .slice A5 l5.length c5) (World.grownBy.refl w9 (some g5)))
        have hN8 := Lib.hid hN9
        clear hN9 hL9
        go_simp
        exact hK9 _ undef _ rfl ⟨A5, c5, l5, h51, h52, o5.ne hG8.out n5, hN8.out⟩ (hC9.wrote hG9.self (by decide) hG8.out (fun b e => by injection e with e; subst e; exact ⟨(by omega), (by omega), .inl (by simp)⟩) (by intro p hp e; simp only [List.mem_cons, List.not_mem_nil, or_false] at hp; first | (subst hp; exact .inl rfl) | (rcases hp with rfl | rfl <;> first | exact .inl rfl | exact absurd (Option.some.inj e) (by omega)))) (fun hq => (hq (by decide)).elim)
      refine wpFactsR_nil fun vs Lq W7 hL9 hC7 hB => ?_
      obtain ⟨A5, c5, l5, h51, h52, o5, K7⟩ := hB 7 _ rfl rfl (by decide)
      clear hB hL9
      have S7 : PSt w W W7 g A bs cap (m + 10 + 20 * (3 - (k + 1)) + 2 * 8) g4 g5 { s := x.s, c := x.c, f := l5, p := x.p, A := A5, cap := c5 } :=
        ⟨hC7.le, hC7.lies HS.out.out (by simp only [List.mem_cons, List.not_mem_nil, or_false]; omega), K7, o5, h52, drawn_gr HS.out.gr hC7 (by intro k hk hne; simp only [List.mem_cons, List.not_mem_nil, or_false] at hk; omega) HS.out.env⟩
      have HS7 := Lib.hid (S7.mono (show _ ≤ m + 10 + 20 * (3 - k) by omega))
      clear S7 hC7 K7 o5 HS K5 HX
      go_wp2_with fail
      go_roundw
      case rel => exact ⟨k, _, by omega, by go_num, by simp only; omega, HS7⟩
      case measure => simp [intOf] <;> omega
    · obtain rfl : k = 0 := by omega
      clear hlt
      have hi0 : ¬ (0 : Int) < ((0 : Nat) : Int) := by omega
      go_wp2_with fail
      refine (one_env HS.out.env 2 (by omega) (by omega)).mono ?_
      rintro e W7 ⟨q, rfl, E7, gr⟩
      have S7 := (HS.out.next E7 gr hgg hgg4 hgg5).mono (show _ ≤ m + 80 by omega)
      have hl3 : x.f.length ≤ 3 := by omega
      clear gr E7 HS hi0 hl
      cases q
      · have S8 := S7
        clear S7
        go_wp2_with fail
        refine (pick_env S8.env 100 (by omega) (by omega)).mono ?_
        rintro e W9 ⟨n, rfl, hn, E9, gr⟩
        have S9 := S8.next E9 gr hgg hgg4 hgg5
        clear gr E9 S8
        have hc : n = 0 ∨ n = 1 ∨ n = 2 ∨ n = 3 ∨ n = 4 ∨ 5 ≤ n := by omega
        clear hn
        rcases hc with rfl | rfl | rfl | rfl | rfl | h5
        · -- case 0
          go_wp2_with fail
          have hl := S9.env.lt
          have Li := Lies.new W9 3 #[.int .i64 0, .int .i64 4]
          have Si := S9.alloc (.cells #[.int .i64 0, .int .i64 4] 3)
          generalize W9.alloc (.cells #[.int .i64 0, .int .i64 4] 3) = Wi at Li Si ⊢
          generalize W9.heap.size = gi at Li hl ⊢
          refine (among_lies Si.env gi 2 [0, 4] rfl Li (by omega) (by omega) (by omega) (by omega)).mono ?_
          rintro e W10 ⟨y, rfl, E10, gr⟩
          have S10 := Si.next E10 gr hgg hgg4 hgg5
          clear gr Li hl Si S9 E10
          have K10 := S10.now
          simp only [Ph.enc] at K10
          have k0 := K10.cell 0
          have k1 := K10.cell 1
          have k2 := K10.cell 2
          have k3 := K10.cell 3
          simp only [List.getElem?_cons_zero, List.getElem?_cons_succ] at k0 k1 k2 k3
          have fk0 := K10.frozen 0
          have fk1 := K10.frozen 1
          have fk2 := K10.frozen 2
          have fk3 := K10.frozen 3
          have gw : W10.grownBy (W10.setCell ⟨g5, 0, none⟩ (.int .i64 y)) (some g5) := grown_set (World.grownBy.refl _ _)
          have kw : Lies (W10.setCell ⟨g5, 0, none⟩ (.int .i64 y)) g5 42 (Ph.enc { x with s := y }) := K10.set 0 (.int .i64 y)
          have HS11 := Lib.hid (S10.put gw kw S10.own S10.cp (by omega) hW5 (by omega) hne45)
          clear gw kw K10
          have HS10 := Lib.hid S10
          clear S10
          go_upto_region 19 with fail
          obtain ⟨W11, hW11⟩ : ∃ W11, W10.setCell ⟨g5, 0, none⟩ (.int .i64 y) = W11 := ⟨_, rfl⟩
          rw [hW11] at HS11 ⊢
          have S11 := HS11.out
          clear hW11 HS10 HS11 k0 k1 k2 k3 fk0 fk1 fk2 fk3
          have D5 := S11.now
          simp only [Ph.enc] at D5
          have D4 := S11.out
          have d0 := D5.cell 0
          have d1 := D5.cell 1
          have d2 := D5.cell 2
          have d3 := D5.cell 3
          simp only [List.getElem?_cons_zero, List.getElem?_cons_succ] at d0 d1 d2 d3
          have e0 := D4.cell 0
          have e1 := D4.cell 1
          have e2 := D4.cell 2
          have e3 := D4.cell 3
          simp only [List.getElem?_cons_zero, List.getElem?_cons_succ] at e0 e1 e2 e3
          have f0 := D4.frozen 0
          have f1 := D4.frozen 1
          have f2 := D4.frozen 2
          have f3 := D4.frozen 3
          have HT := Lib.hid S11
          clear D5 D4 S11
          repeat (first | go_values | go_skip | go_guarded | go_step | go_upon | simp only [])
          refine bodyPost_ret (v := (({ x with s := y } : Ph) : Ph).val) (by simp [results, Try.results63, go_sem, *]) rfl ⟨({ x with s := y } : Ph), rfl, by first | omega | (simp only; omega) | simp, ?_, ?_, ?_⟩
          · exact HT.out.own.ne (g := g4) (grown_set (grown_set (grown_set (grown_set (World.grownBy.refl _ _))))) (HT.out.own.off HT.out.out ne_int_ph)
          · exact (HT.out.env.wrote (h := g4) (grown_set (grown_set (grown_set (grown_set (World.grownBy.refl _ _))))) h4.2 h4.1).mono (by omega)
          · exact grown_own HT.out.gr (b := g4) (grown_set (grown_set (grown_set (grown_set (World.grownBy.refl _ _))))) (by have := HQ.out; omega)
        · -- case 1
          go_wp2_with fail
          have hl := S9.env.lt
          have Li := Lies.new W9 3 #[.int .i64 0, .int .i64 100]
          have Si := S9.alloc (.cells #[.int .i64 0, .int .i64 100] 3)
          generalize W9.alloc (.cells #[.int .i64 0, .int .i64 100] 3) = Wi at Li Si ⊢
          generalize W9.heap.size = gi at Li hl ⊢
          refine (among_lies Si.env gi 2 [0, 100] rfl Li (by omega) (by omega) (by omega) (by omega)).mono ?_
          rintro e W10 ⟨y, rfl, E10, gr⟩
          have S10 := Si.next E10 gr hgg hgg4 hgg5
          clear gr Li hl Si S9 E10
          have K10 := S10.now
          simp only [Ph.enc] at K10
          have k0 := K10.cell 0
          have k1 := K10.cell 1
          have k2 := K10.cell 2
          have k3 := K10.cell 3
          simp only [List.getElem?_cons_zero, List.getElem?_cons_succ] at k0 k1 k2 k3
          have fk0 := K10.frozen 0
          have fk1 := K10.frozen 1
          have fk2 := K10.frozen 2
          have fk3 := K10.frozen 3
          have gw : W10.grownBy (W10.setCell ⟨g5, 1, none⟩ (.int .i64 y)) (some g5) := grown_set (World.grownBy.refl _ _)
          have kw : Lies (W10.setCell ⟨g5, 1, none⟩ (.int .i64 y)) g5 42 (Ph.enc { x with c := y }) := K10.set 1 (.int .i64 y)
          have HS11 := Lib.hid (S10.put gw kw S10.own S10.cp (by omega) hW5 (by omega) hne45)
          clear gw kw K10
          have HS10 := Lib.hid S10
          clear S10
          go_upto_region 19 with fail
          obtain ⟨W11, hW11⟩ : ∃ W11, W10.setCell ⟨g5, 1, none⟩ (.int .i64 y) = W11 := ⟨_, rfl⟩
          rw [hW11] at HS11 ⊢
          have S11 := HS11.out
          clear hW11 HS10 HS11 k0 k1 k2 k3 fk0 fk1 fk2 fk3
          have D5 := S11.now
          simp only [Ph.enc] at D5
          have D4 := S11.out
          have d0 := D5.cell 0
          have d1 := D5.cell 1
          have d2 := D5.cell 2
          have d3 := D5.cell 3
          simp only [List.getElem?_cons_zero, List.getElem?_cons_succ] at d0 d1 d2 d3
          have e0 := D4.cell 0
          have e1 := D4.cell 1
          have e2 := D4.cell 2
          have e3 := D4.cell 3
          simp only [List.getElem?_cons_zero, List.getElem?_cons_succ] at e0 e1 e2 e3
          have f0 := D4.frozen 0
          have f1 := D4.frozen 1
          have f2 := D4.frozen 2
          have f3 := D4.frozen 3
          have HT := Lib.hid S11
          clear D5 D4 S11
          repeat (first | go_values | go_skip | go_guarded | go_step | go_upon | simp only [])
          refine bodyPost_ret (v := (({ x with c := y } : Ph) : Ph).val) (by simp [results, Try.results63, go_sem, *]) rfl ⟨({ x with c := y } : Ph), rfl, by first | omega | (simp only; omega) | simp, ?_, ?_, ?_⟩
          · exact HT.out.own.ne (g := g4) (grown_set (grown_set (grown_set (grown_set (World.grownBy.refl _ _))))) (HT.out.own.off HT.out.out ne_int_ph)
          · exact (HT.out.env.wrote (h := g4) (grown_set (grown_set (grown_set (grown_set (World.grownBy.refl _ _))))) h4.2 h4.1).mono (by omega)
          · exact grown_own HT.out.gr (b := g4) (grown_set (grown_set (grown_set (grown_set (World.grownBy.refl _ _))))) (by have := HQ.out; omega)
        · -- case 2
          go_wp2_with fail
          have hl := S9.env.lt
          have Li := Lies.new W9 3 #[.int .i64 0, .int .i64 10, .int .i64 5]
          have Si := S9.alloc (.cells #[.int .i64 0, .int .i64 10, .int .i64 5] 3)
          generalize W9.alloc (.cells #[.int .i64 0, .int .i64 10, .int .i64 5] 3) = Wi at Li Si ⊢
          generalize W9.heap.size = gi at Li hl ⊢
          refine (among_lies Si.env gi 3 [0, 10, 5] rfl Li (by omega) (by omega) (by omega) (by omega)).mono ?_
          rintro e W10 ⟨y, rfl, E10, gr⟩
          have S10 := Si.next E10 gr hgg hgg4 hgg5
          clear gr Li hl Si S9 E10
          have Sa := S10.alloc (.cells #[.int .i64 y, .int .i64 5] 3)
          have Oa : OwnS (W10.alloc (.cells #[.int .i64 y, .int .i64 5] 3)) W.heap.size 3 1 (some ⟨W10.heap.size, 0, none⟩) 2 (encIs [y, 5]) := OwnS.lit W10 W.heap.size [y, 5] (Nat.le_trans S10.gr.size (Nat.le_refl _)) (by simp)
          have K10 := Sa.now
          simp only [Ph.enc] at K10
          have k0 := K10.cell 0
          have k1 := K10.cell 1
          have k2 := K10.cell 2
          have k3 := K10.cell 3
          simp only [List.getElem?_cons_zero, List.getElem?_cons_succ] at k0 k1 k2 k3
          have fk0 := K10.frozen 0
          have fk1 := K10.frozen 1
          have fk2 := K10.frozen 2
          have fk3 := K10.frozen 3
          have HSa := Lib.hid Sa
          have HOa := Lib.hid Oa
          have HKa := Lib.hid K10
          clear Sa Oa S10 K10
          go_upto_region 19 with fail
          have gw : (W10.alloc (.cells #[.int .i64 y, .int .i64 5] 3)).grownBy ((W10.alloc (.cells #[.int .i64 y, .int .i64 5] 3)).setCell ⟨g5, 2, none⟩ (.slice (some ⟨W10.heap.size, 0, none⟩) 2 2)) (some g5) := grown_set (World.grownBy.refl _ _)
          have kw : Lies ((W10.alloc (.cells #[.int .i64 y, .int .i64 5] 3)).setCell ⟨g5, 2, none⟩ (.slice (some ⟨W10.heap.size, 0, none⟩) 2 2)) g5 42 (Ph.enc { x with f := [y, 5], A := some ⟨W10.heap.size, 0, none⟩, cap := 2 }) := HKa.out.set 2 (.slice (some ⟨W10.heap.size, 0, none⟩) 2 2)
          have HS11 := Lib.hid (HSa.out.put gw kw HOa.out (by simp) (by omega) hW5 (by omega) hne45)
          clear gw kw
          obtain ⟨W11, hW11⟩ : ∃ W11, (W10.alloc (.cells #[.int .i64 y, .int .i64 5] 3)).setCell ⟨g5, 2, none⟩ (.slice (some ⟨W10.heap.size, 0, none⟩) 2 2) = W11 := ⟨_, rfl⟩
          rw [hW11] at HS11 ⊢
          have S11 := HS11.out
          clear hW11 HS11 HSa HOa HKa k0 k1 k2 k3 fk0 fk1 fk2 fk3
          have D5 := S11.now
          simp only [Ph.enc] at D5
          have D4 := S11.out
          have d0 := D5.cell 0
          have d1 := D5.cell 1
          have d2 := D5.cell 2
          have d3 := D5.cell 3
          simp only [List.getElem?_cons_zero, List.getElem?_cons_succ] at d0 d1 d2 d3
          have e0 := D4.cell 0
          have e1 := D4.cell 1
          have e2 := D4.cell 2
          have e3 := D4.cell 3
          simp only [List.getElem?_cons_zero, List.getElem?_cons_succ] at e0 e1 e2 e3
          have f0 := D4.frozen 0
          have f1 := D4.frozen 1
          have f2 := D4.frozen 2
          have f3 := D4.frozen 3
          have HT := Lib.hid S11
          clear D5 D4 S11
          repeat (first | go_values | go_skip | go_guarded | go_step | go_upon | simp only [])
          refine bodyPost_ret (v := (({ x with f := [y, 5], A := some ⟨W10.heap.size, 0, none⟩, cap := 2 } : Ph) : Ph).val) (by simp [results, Try.results63, go_sem, *]) rfl ⟨({ x with f := [y, 5], A := some ⟨W10.heap.size, 0, none⟩, cap := 2 } : Ph), rfl, by first | omega | (simp only; omega) | simp, ?_, ?_, ?_⟩
          · exact HT.out.own.ne (g := g4) (grown_set (grown_set (grown_set (grown_set (World.grownBy.refl _ _))))) (HT.out.own.off HT.out.out ne_int_ph)
          · exact (HT.out.env.wrote (h := g4) (grown_set (grown_set (grown_set (grown_set (World.grownBy.refl _ _))))) h4.2 h4.1).mono (by omega)
          · exact grown_own HT.out.gr (b := g4) (grown_set (grown_set (grown_set (grown_set (World.grownBy.refl _ _))))) (by have := HQ.out; omega)
        · -- case 3
          go_wp2_with fail
          have hl := S9.env.lt
          have Li := Lies.new W9 3 #[.int .i64 (-1), .int .i64 1000000]
          have Si := S9.alloc (.cells #[.int .i64 (-1), .int .i64 1000000] 3)
          generalize W9.alloc (.cells #[.int .i64 (-1), .int .i64 1000000] 3) = Wi at Li Si ⊢
          generalize W9.heap.size = gi at Li hl ⊢
          refine (among_lies Si.env gi 2 [-1, 1000000] rfl Li (by omega) (by omega) (by omega) (by omega)).mono ?_
          rintro e W10 ⟨y, rfl, E10, gr⟩
          have S10 := Si.next E10 gr hgg hgg4 hgg5
          clear gr Li hl Si S9 E10
          have K10 := S10.now
          simp only [Ph.enc] at K10
          have k0 := K10.cell 0
          have k1 := K10.cell 1
          have k2 := K10.cell 2
          have k3 := K10.cell 3
          simp only [List.getElem?_cons_zero, List.getElem?_cons_succ] at k0 k1 k2 k3
          have fk0 := K10.frozen 0
          have fk1 := K10.frozen 1
          have fk2 := K10.frozen 2
          have fk3 := K10.frozen 3
          have gw : W10.grownBy (W10.setCell ⟨g5, 3, none⟩ (.int .i64 y)) (some g5) := grown_set (World.grownBy.refl _ _)
          have kw : Lies (W10.setCell ⟨g5, 3, none⟩ (.int .i64 y)) g5 42 (Ph.enc { x with p := y }) := K10.set 3 (.int .i64 y)
          have HS11 := Lib.hid (S10.put gw kw S10.own S10.cp (by omega) hW5 (by omega) hne45)
          clear gw kw K10
          have HS10 := Lib.hid S10
          clear S10
          go_upto_region 19 with fail
          obtain ⟨W11, hW11⟩ : ∃ W11, W10.setCell ⟨g5, 3, none⟩ (.int .i64 y) = W11 := ⟨_, rfl⟩
          rw [hW11] at HS11 ⊢
          have S11 := HS11.out
          clear hW11 HS10 HS11 k0 k1 k2 k3 fk0 fk1 fk2 fk3
          have D5 := S11.now
          simp only [Ph.enc] at D5
          have D4 := S11.out
          have d0 := D5.cell 0
          have d1 := D5.cell 1
          have d2 := D5.cell 2
          have d3 := D5.cell 3
          simp only [List.getElem?_cons_zero, List.getElem?_cons_succ] at d0 d1 d2 d3
          have e0 := D4.cell 0
          have e1 := D4.cell 1
          have e2 := D4.cell 2
          have e3 := D4.cell 3
          simp only [List.getElem?_cons_zero, List.getElem?_cons_succ] at e0 e1 e2 e3
          have f0 := D4.frozen 0
          have f1 := D4.frozen 1
          have f2 := D4.frozen 2
          have f3 := D4.frozen 3
          have HT := Lib.hid S11
          clear D5 D4 S11
          repeat (first | go_values | go_skip | go_guarded | go_step | go_upon | simp only [])
          refine bodyPost_ret (v := (({ x with p := y } : Ph) : Ph).val) (by simp [results, Try.results63, go_sem, *]) rfl ⟨({ x with p := y } : Ph), rfl, by first | omega | (simp only; omega) | simp, ?_, ?_, ?_⟩
          · exact HT.out.own.ne (g := g4) (grown_set (grown_set (grown_set (grown_set (World.grownBy.refl _ _))))) (HT.out.own.off HT.out.out ne_int_ph)
          · exact (HT.out.env.wrote (h := g4) (grown_set (grown_set (grown_set (grown_set (World.grownBy.refl _ _))))) h4.2 h4.1).mono (by omega)
          · exact grown_own HT.out.gr (b := g4) (grown_set (grown_set (grown_set (grown_set (World.grownBy.refl _ _))))) (by have := HQ.out; omega)
        · -- case 4
          have S10 := S9
          clear S9
          have Sa := S10.alloc (.cells #[.int .i64 1, .int .i64 2, .int .i64 3, .int .i64 4, .int .i64 5, .int .i64 6, .int .i64 7, .int .i64 8, .int .i64 9] 3)
          have Oa : OwnS (W9.alloc (.cells #[.int .i64 1, .int .i64 2, .int .i64 3, .int .i64 4, .int .i64 5, .int .i64 6, .int .i64 7, .int .i64 8, .int .i64 9] 3)) W.heap.size 3 1 (some ⟨W9.heap.size, 0, none⟩) 9 (encIs [1, 2, 3, 4, 5, 6, 7, 8, 9]) := OwnS.lit W9 W.heap.size [1, 2, 3, 4, 5, 6, 7, 8, 9] (Nat.le_trans S10.gr.size (Nat.le_refl _)) (by simp)
          have K10 := Sa.now
          simp only [Ph.enc] at K10
          have k0 := K10.cell 0
          have k1 := K10.cell 1
          have k2 := K10.cell 2
          have k3 := K10.cell 3
          simp only [List.getElem?_cons_zero, List.getElem?_cons_succ] at k0 k1 k2 k3
          have fk0 := K10.frozen 0
          have fk1 := K10.frozen 1
          have fk2 := K10.frozen 2
          have fk3 := K10.frozen 3
          have HSa := Lib.hid Sa
          have HOa := Lib.hid Oa
          have HKa := Lib.hid K10
          clear Sa Oa S10 K10
          go_upto_region 19 with fail
          have gw : (W9.alloc (.cells #[.int .i64 1, .int .i64 2, .int .i64 3, .int .i64 4, .int .i64 5, .int .i64 6, .int .i64 7, .int .i64 8, .int .i64 9] 3)).grownBy ((W9.alloc (.cells #[.int .i64 1, .int .i64 2, .int .i64 3, .int .i64 4, .int .i64 5, .int .i64 6, .int .i64 7, .int .i64 8, .int .i64 9] 3)).setCell ⟨g5, 2, none⟩ (.slice (some ⟨W9.heap.size, 0, none⟩) 9 9)) (some g5) := grown_set (World.grownBy.refl _ _)
          have kw : Lies ((W9.alloc (.cells #[.int .i64 1, .int .i64 2, .int .i64 3, .int .i64 4, .int .i64 5, .int .i64 6, .int .i64 7, .int .i64 8, .int .i64 9] 3)).setCell ⟨g5, 2, none⟩ (.slice (some ⟨W9.heap.size, 0, none⟩) 9 9)) g5 42 (Ph.enc { x with f := [1, 2, 3, 4, 5, 6, 7, 8, 9], A := some ⟨W9.heap.size, 0, none⟩, cap := 9 }) := HKa.out.set 2 (.slice (some ⟨W9.heap.size, 0, none⟩) 9 9)
          have HS11 := Lib.hid (HSa.out.put gw kw HOa.out (by simp) (by omega) hW5 (by omega) hne45)
          clear gw kw
          obtain ⟨W11, hW11⟩ : ∃ W11, (W9.alloc (.cells #[.int .i64 1, .int .i64 2, .int .i64 3, .int .i64 4, .int .i64 5, .int .i64 6, .int .i64 7, .int .i64 8, .int .i64 9] 3)).setCell ⟨g5, 2, none⟩ (.slice (some ⟨W9.heap.size, 0, none⟩) 9 9) = W11 := ⟨_, rfl⟩
          rw [hW11] at HS11 ⊢
          have S11 := HS11.out
          clear hW11 HS11 HSa HOa HKa k0 k1 k2 k3 fk0 fk1 fk2 fk3
          have D5 := S11.now
          simp only [Ph.enc] at D5
          have D4 := S11.out
          have d0 := D5.cell 0
          have d1 := D5.cell 1
          have d2 := D5.cell 2
          have d3 := D5.cell 3
          simp only [List.getElem?_cons_zero, List.getElem?_cons_succ] at d0 d1 d2 d3
          have e0 := D4.cell 0
          have e1 := D4.cell 1
          have e2 := D4.cell 2
          have e3 := D4.cell 3
          simp only [List.getElem?_cons_zero, List.getElem?_cons_succ] at e0 e1 e2 e3
          have f0 := D4.frozen 0
          have f1 := D4.frozen 1
          have f2 := D4.frozen 2
          have f3 := D4.frozen 3
          have HT := Lib.hid S11
          clear D5 D4 S11
          repeat (first | go_values | go_skip | go_guarded | go_step | go_upon | simp only [])
          refine bodyPost_ret (v := (({ x with f := [1, 2, 3, 4, 5, 6, 7, 8, 9], A := some ⟨W9.heap.size, 0, none⟩, cap := 9 } : Ph) : Ph).val) (by simp [results, Try.results63, go_sem, *]) rfl ⟨({ x with f := [1, 2, 3, 4, 5, 6, 7, 8, 9], A := some ⟨W9.heap.size, 0, none⟩, cap := 9 } : Ph), rfl, by first | omega | (simp only; omega) | simp, ?_, ?_, ?_⟩
          · exact HT.out.own.ne (g := g4) (grown_set (grown_set (grown_set (grown_set (World.grownBy.refl _ _))))) (HT.out.own.off HT.out.out ne_int_ph)
          · exact (HT.out.env.wrote (h := g4) (grown_set (grown_set (grown_set (grown_set (World.grownBy.refl _ _))))) h4.2 h4.1).mono (by omega)
          · exact grown_own HT.out.gr (b := g4) (grown_set (grown_set (grown_set (grown_set (World.grownBy.refl _ _))))) (by have := HQ.out; omega)
        · -- case 5
          have b0 : ((n : Int) == 0) = false := by rw [beq_eq_false_iff_ne]; omega
          have b1 : ((n : Int) == 1) = false := by rw [beq_eq_false_iff_ne]; omega
          have b2 : ((n : Int) == 2) = false := by rw [beq_eq_false_iff_ne]; omega
          have b3 : ((n : Int) == 3) = false := by rw [beq_eq_false_iff_ne]; omega
          have b4 : ((n : Int) == 4) = false := by rw [beq_eq_false_iff_ne]; omega
          have HS9 := Lib.hid S9
          clear S9 h5
          go_upto_region 19 with fail
          have S11 := HS9.out
          clear HS9 b0 b1 b2 b3 b4
          have D5 := S11.now
          simp only [Ph.enc] at D5
          have D4 := S11.out
          have d0 := D5.cell 0
          have d1 := D5.cell 1
          have d2 := D5.cell 2
          have d3 := D5.cell 3
          simp only [List.getElem?_cons_zero, List.getElem?_cons_succ] at d0 d1 d2 d3
          have e0 := D4.cell 0
          have e1 := D4.cell 1
          have e2 := D4.cell 2
          have e3 := D4.cell 3
          simp only [List.getElem?_cons_zero, List.getElem?_cons_succ] at e0 e1 e2 e3
          have f0 := D4.frozen 0
          have f1 := D4.frozen 1
          have f2 := D4.frozen 2
          have f3 := D4.frozen 3
          have HT := Lib.hid S11
          clear D5 D4 S11
          repeat (first | go_values | go_skip | go_guarded | go_step | go_upon | simp only [])
          refine bodyPost_ret (v := (x : Ph).val) (by simp [results, Try.results63, go_sem, *]) rfl ⟨x, rfl, by first | omega | (simp only; omega) | simp, ?_, ?_, ?_⟩
          · exact HT.out.own.ne (g := g4) (grown_set (grown_set (grown_set (grown_set (World.grownBy.refl _ _))))) (HT.out.own.off HT.out.out ne_int_ph)
          · exact (HT.out.env.wrote (h := g4) (grown_set (grown_set (grown_set (grown_set (World.grownBy.refl _ _))))) h4.2 h4.1).mono (by omega)
          · exact grown_own HT.out.gr (b := g4) (grown_set (grown_set (grown_set (grown_set (World.grownBy.refl _ _))))) (by have := HQ.out; omega)
      · have S10 := S7
        clear S7
        have Sa := S10.alloc (.cells #[] 3)
        have Oa : OwnS (W7.alloc (.cells #[] 3)) W.heap.size 3 1 (some ⟨W7.heap.size, 0, none⟩) 0 (encIs []) := OwnS.lit W7 W.heap.size [] (Nat.le_trans S10.gr.size (Nat.le_refl _)) (by simp)
        have K10 := Sa.now
        simp only [Ph.enc] at K10
        have k0 := K10.cell 0
        have k1 := K10.cell 1
        have k2 := K10.cell 2
        have k3 := K10.cell 3
        simp only [List.getElem?_cons_zero, List.getElem?_cons_succ] at k0 k1 k2 k3
        have fk0 := K10.frozen 0
        have fk1 := K10.frozen 1
        have fk2 := K10.frozen 2
        have fk3 := K10.frozen 3
        have HSa := Lib.hid Sa
        have HOa := Lib.hid Oa
        have HKa := Lib.hid K10
        clear Sa Oa S10 K10
        go_upto_region 8 with fail
        have gw : (W7.alloc (.cells #[] 3)).grownBy ((W7.alloc (.cells #[] 3)).setCell ⟨g5, 2, none⟩ (.slice (some ⟨W7.heap.size, 0, none⟩) 0 0)) (some g5) := grown_set (World.grownBy.refl _ _)
        have kw : Lies ((W7.alloc (.cells #[] 3)).setCell ⟨g5, 2, none⟩ (.slice (some ⟨W7.heap.size, 0, none⟩) 0 0)) g5 42 (Ph.enc { x with f := [], A := some ⟨W7.heap.size, 0, none⟩, cap := 0 }) := HKa.out.set 2 (.slice (some ⟨W7.heap.size, 0, none⟩) 0 0)
        have HS11 := Lib.hid (HSa.out.put gw kw HOa.out (by simp) (by omega) hW5 (by omega) hne45)
        clear gw kw
        obtain ⟨W11, hW11⟩ : ∃ W11, (W7.alloc (.cells #[] 3)).setCell ⟨g5, 2, none⟩ (.slice (some ⟨W7.heap.size, 0, none⟩) 0 0) = W11 := ⟨_, rfl⟩
        rw [hW11] at HS11 ⊢
        have S11 := HS11.out
        clear hW11 HS11 HSa HOa HKa k0 k1 k2 k3 fk0 fk1 fk2 fk3
        have S8 := S11
        clear S11
        go_wp2_with fail
        have hl0 : ([] : List Int).length ≤ 3 := by simp
        obtain ⟨x, hx⟩ : ∃ y : Ph, ({ x with f := [], A := some ⟨W7.heap.size, 0, none⟩, cap := 0 } : Ph) = y := ⟨_, rfl⟩
        have hl3 : x.f.length ≤ 3 := by rw [← hx]; simp
        rw [hx] at S8
        clear hx hl0
        refine (pick_env S8.env 100 (by omega) (by omega)).mono ?_
        rintro e W9 ⟨n, rfl, hn, E9, gr⟩
        have S9 := S8.next E9 gr hgg hgg4 hgg5
        clear gr E9 S8
        have hc : n = 0 ∨ n = 1 ∨ n = 2 ∨ n = 3 ∨ n = 4 ∨ 5 ≤ n := by omega
        clear hn
        rcases hc with rfl | rfl | rfl | rfl | rfl | h5
        · -- case 0
          go_wp2_with fail
          have hl := S9.env.lt
          have Li := Lies.new W9 3 #[.int .i64 0, .int .i64 4]
          have Si := S9.alloc (.cells #[.int .i64 0, .int .i64 4] 3)
          generalize W9.alloc (.cells #[.int .i64 0, .int .i64 4] 3) = Wi at Li Si ⊢
          generalize W9.heap.size = gi at Li hl ⊢
          refine (among_lies Si.env gi 2 [0, 4] rfl Li (by omega) (by omega) (by omega) (by omega)).mono ?_
          rintro e W10 ⟨y, rfl, E10, gr⟩
          have S10 := Si.next E10 gr hgg hgg4 hgg5
          clear gr Li hl Si S9 E10
          have K10 := S10.now
          simp only [Ph.enc] at K10
          have k0 := K10.cell 0
          have k1 := K10.cell 1
          have k2 := K10.cell 2
          have k3 := K10.cell 3
          simp only [List.getElem?_cons_zero, List.getElem?_cons_succ] at k0 k1 k2 k3
          have fk0 := K10.frozen 0
          have fk1 := K10.frozen 1
          have fk2 := K10.frozen 2
          have fk3 := K10.frozen 3
          have gw : W10.grownBy (W10.setCell ⟨g5, 0, none⟩ (.int .i64 y)) (some g5) := grown_set (World.grownBy.refl _ _)
          have kw : Lies (W10.setCell ⟨g5, 0, none⟩ (.int .i64 y)) g5 42 (Ph.enc { x with s := y }) := K10.set 0 (.int .i64 y)
          have HS11 := Lib.hid (S10.put gw kw S10.own S10.cp (by omega) hW5 (by omega) hne45)
          clear gw kw K10
          have HS10 := Lib.hid S10
          clear S10
          go_upto_region 19 with fail
          obtain ⟨W11, hW11⟩ : ∃ W11, W10.setCell ⟨g5, 0, none⟩ (.int .i64 y) = W11 := ⟨_, rfl⟩
          rw [hW11] at HS11 ⊢
          have S11 := HS11.out
          clear hW11 HS10 HS11 k0 k1 k2 k3 fk0 fk1 fk2 fk3
          have D5 := S11.now
          simp only [Ph.enc] at D5
          have D4 := S11.out
          have d0 := D5.cell 0
          have d1 := D5.cell 1
          have d2 := D5.cell 2
          have d3 := D5.cell 3
          simp only [List.getElem?_cons_zero, List.getElem?_cons_succ] at d0 d1 d2 d3
          have e0 := D4.cell 0
          have e1 := D4.cell 1
          have e2 := D4.cell 2
          have e3 := D4.cell 3
          simp only [List.getElem?_cons_zero, List.getElem?_cons_succ] at e0 e1 e2 e3
          have f0 := D4.frozen 0
          have f1 := D4.frozen 1
          have f2 := D4.frozen 2
          have f3 := D4.frozen 3
          have HT := Lib.hid S11
          clear D5 D4 S11
          repeat (first | go_values | go_skip | go_guarded | go_step | go_upon | simp only [])
          refine bodyPost_ret (v := (({ x with s := y } : Ph) : Ph).val) (by simp [results, Try.results63, go_sem, *]) rfl ⟨({ x with s := y } : Ph), rfl, by first | omega | (simp only; omega) | simp, ?_, ?_, ?_⟩
          · exact HT.out.own.ne (g := g4) (grown_set (grown_set (grown_set (grown_set (World.grownBy.refl _ _))))) (HT.out.own.off HT.out.out ne_int_ph)
          · exact (HT.out.env.wrote (h := g4) (grown_set (grown_set (grown_set (grown_set (World.grownBy.refl _ _))))) h4.2 h4.1).mono (by omega)
          · exact grown_own HT.out.gr (b := g4) (grown_set (grown_set (grown_set (grown_set (World.grownBy.refl _ _))))) (by have := HQ.out; omega)
        · -- case 1
          go_wp2_with fail
          have hl := S9.env.lt
          have Li := Lies.new W9 3 #[.int .i64 0, .int .i64 100]
          have Si := S9.alloc (.cells #[.int .i64 0, .int .i64 100] 3)
          generalize W9.alloc (.cells #[.int .i64 0, .int .i64 100] 3) = Wi at Li Si ⊢
          generalize W9.heap.size = gi at Li hl ⊢
          refine (among_lies Si.env gi 2 [0, 100] rfl Li (by omega) (by omega) (by omega) (by omega)).mono ?_
          rintro e W10 ⟨y, rfl, E10, gr⟩
          have S10 := Si.next E10 gr hgg hgg4 hgg5
          clear gr Li hl Si S9 E10
          have K10 := S10.now
          simp only [Ph.enc] at K10
          have k0 := K10.cell 0
          have k1 := K10.cell 1
          have k2 := K10.cell 2
          have k3 := K10.cell 3
          simp only [List.getElem?_cons_zero, List.getElem?_cons_succ] at k0 k1 k2 k3
          have fk0 := K10.frozen 0
          have fk1 := K10.frozen 1
          have fk2 := K10.frozen 2
          have fk3 := K10.frozen 3
          have gw : W10.grownBy (W10.setCell ⟨g5, 1, none⟩ (.int .i64 y)) (some g5) := grown_set (World.grownBy.refl _ _)
          have kw : Lies (W10.setCell ⟨g5, 1, none⟩ (.int .i64 y)) g5 42 (Ph.enc { x with c := y }) := K10.set 1 (.int .i64 y)
          have HS11 := Lib.hid (S10.put gw kw S10.own S10.cp (by omega) hW5 (by omega) hne45)
          clear gw kw K10
          have HS10 := Lib.hid S10
          clear S10
          go_upto_region 19 with fail
          obtain ⟨W11, hW11⟩ : ∃ W11, W10.setCell ⟨g5, 1, none⟩ (.int .i64 y) = W11 := ⟨_, rfl⟩
          rw [hW11] at HS11 ⊢
          have S11 := HS11.out
          clear hW11 HS10 HS11 k0 k1 k2 k3 fk0 fk1 fk2 fk3
          have D5 := S11.now
          simp only [Ph.enc] at D5
          have D4 := S11.out
          have d0 := D5.cell 0
          have d1 := D5.cell 1
          have d2 := D5.cell 2
          have d3 := D5.cell 3
          simp only [List.getElem?_cons_zero, List.getElem?_cons_succ] at d0 d1 d2 d3
          have e0 := D4.cell 0
          have e1 := D4.cell 1
          have e2 := D4.cell 2
          have e3 := D4.cell 3
          simp only [List.getElem?_cons_zero, List.getElem?_cons_succ] at e0 e1 e2 e3
          have f0 := D4.frozen 0
          have f1 := D4.frozen 1
          have f2 := D4.frozen 2
          have f3 := D4.frozen 3
          have HT := Lib.hid S11
          clear D5 D4 S11
          repeat (first | go_values | go_skip | go_guarded | go_step | go_upon | simp only [])
          refine bodyPost_ret (v := (({ x with c := y } : Ph) : Ph).val) (by simp [results, Try.results63, go_sem, *]) rfl ⟨({ x with c := y } : Ph), rfl, by first | omega | (simp only; omega) | simp, ?_, ?_, ?_⟩
          · exact HT.out.own.ne (g := g4) (grown_set (grown_set (grown_set (grown_set (World.grownBy.refl _ _))))) (HT.out.own.off HT.out.out ne_int_ph)
          · exact (HT.out.env.wrote (h := g4) (grown_set (grown_set (grown_set (grown_set (World.grownBy.refl _ _))))) h4.2 h4.1).mono (by omega)
          · exact grown_own HT.out.gr (b := g4) (grown_set (grown_set (grown_set (grown_set (World.grownBy.refl _ _))))) (by have := HQ.out; omega)
        · -- case 2
          go_wp2_with fail
          have hl := S9.env.lt
          have Li := Lies.new W9 3 #[.int .i64 0, .int .i64 10, .int .i64 5]
          have Si := S9.alloc (.cells #[.int .i64 0, .int .i64 10, .int .i64 5] 3)
          generalize W9.alloc (.cells #[.int .i64 0, .int .i64 10, .int .i64 5] 3) = Wi at Li Si ⊢
          generalize W9.heap.size = gi at Li hl ⊢
          refine (among_lies Si.env gi 3 [0, 10, 5] rfl Li (by omega) (by omega) (by omega) (by omega)).mono ?_
          rintro e W10 ⟨y, rfl, E10, gr⟩
          have S10 := Si.next E10 gr hgg hgg4 hgg5
          clear gr Li hl Si S9 E10
          have Sa := S10.alloc (.cells #[.int .i64 y, .int .i64 5] 3)
          have Oa : OwnS (W10.alloc (.cells #[.int .i64 y, .int .i64 5] 3)) W.heap.size 3 1 (some ⟨W10.heap.size, 0, none⟩) 2 (encIs [y, 5]) := OwnS.lit W10 W.heap.size [y, 5] (Nat.le_trans S10.gr.size (Nat.le_refl _)) (by simp)
          have K10 := Sa.now
          simp only [Ph.enc] at K10
          have k0 := K10.cell 0
          have k1 := K10.cell 1
          have k2 := K10.cell 2
          have k3 := K10.cell 3
          simp only [List.getElem?_cons_zero, List.getElem?_cons_succ] at k0 k1 k2 k3
          have fk0 := K10.frozen 0
          have fk1 := K10.frozen 1
          have fk2 := K10.frozen 2
          have fk3 := K10.frozen 3
          have HSa := Lib.hid Sa
          have HOa := Lib.hid Oa
          have HKa := Lib.hid K10
          clear Sa Oa S10 K10
          go_upto_region 19 with fail
          have gw : (W10.alloc (.cells #[.int .i64 y, .int .i64 5] 3)).grownBy ((W10.alloc (.cells #[.int .i64 y, .int .i64 5] 3)).setCell ⟨g5, 2, none⟩ (.slice (some ⟨W10.heap.size, 0, none⟩) 2 2)) (some g5) := grown_set (World.grownBy.refl _ _)
          have kw : Lies ((W10.alloc (.cells #[.int .i64 y, .int .i64 5] 3)).setCell ⟨g5, 2, none⟩ (.slice (some ⟨W10.heap.size, 0, none⟩) 2 2)) g5 42 (Ph.enc { x with f := [y, 5], A := some ⟨W10.heap.size, 0, none⟩, cap := 2 }) := HKa.out.set 2 (.slice (some ⟨W10.heap.size, 0, none⟩) 2 2)
          have HS11 := Lib.hid (HSa.out.put gw kw HOa.out (by simp) (by omega) hW5 (by omega) hne45)
          clear gw kw
          obtain ⟨W11, hW11⟩ : ∃ W11, (W10.alloc (.cells #[.int .i64 y, .int .i64 5] 3)).setCell ⟨g5, 2, none⟩ (.slice (some ⟨W10.heap.size, 0, none⟩) 2 2) = W11 := ⟨_, rfl⟩
          rw [hW11] at HS11 ⊢
          have S11 := HS11.out
          clear hW11 HS11 HSa HOa HKa k0 k1 k2 k3 fk0 fk1 fk2 fk3
          have D5 := S11.now
          simp only [Ph.enc] at D5
          have D4 := S11.out
          have d0 := D5.cell 0
          have d1 := D5.cell 1
          have d2 := D5.cell 2
          have d3 := D5.cell 3
          simp only [List.getElem?_cons_zero, List.getElem?_cons_succ] at d0 d1 d2 d3
          have e0 := D4.cell 0
          have e1 := D4.cell 1
          have e2 := D4.cell 2
          have e3 := D4.cell 3
          simp only [List.getElem?_cons_zero, List.getElem?_cons_succ] at e0 e1 e2 e3
          have f0 := D4.frozen 0
          have f1 := D4.frozen 1
          have f2 := D4.frozen 2
          have f3 := D4.frozen 3
          have HT := Lib.hid S11
          clear D5 D4 S11
          repeat (first | go_values | go_skip | go_guarded | go_step | go_upon | simp only [])
          refine bodyPost_ret (v := (({ x with f := [y, 5], A := some ⟨W10.heap.size, 0, none⟩, cap := 2 } : Ph) : Ph).val) (by simp [results, Try.results63, go_sem, *]) rfl ⟨({ x with f := [y, 5], A := some ⟨W10.heap.size, 0, none⟩, cap := 2 } : Ph), rfl, by first | omega | (simp only; omega) | simp, ?_, ?_, ?_⟩
          · exact HT.out.own.ne (g := g4) (grown_set (grown_set (grown_set (grown_set (World.grownBy.refl _ _))))) (HT.out.own.off HT.out.out ne_int_ph)
          · exact (HT.out.env.wrote (h := g4) (grown_set (grown_set (grown_set (grown_set (World.grownBy.refl _ _))))) h4.2 h4.1).mono (by omega)
          · exact grown_own HT.out.gr (b := g4) (grown_set (grown_set (grown_set (grown_set (World.grownBy.refl _ _))))) (by have := HQ.out; omega)
        · -- case 3
          go_wp2_with fail
          have hl := S9.env.lt
          have Li := Lies.new W9 3 #[.int .i64 (-1), .int .i64 1000000]
          have Si := S9.alloc (.cells #[.int .i64 (-1), .int .i64 1000000] 3)
          generalize W9.alloc (.cells #[.int .i64 (-1), .int .i64 1000000] 3) = Wi at Li Si ⊢
          generalize W9.heap.size = gi at Li hl ⊢
          refine (among_lies Si.env gi 2 [-1, 1000000] rfl Li (by omega) (by omega) (by omega) (by omega)).mono ?_
          rintro e W10 ⟨y, rfl, E10, gr⟩
          have S10 := Si.next E10 gr hgg hgg4 hgg5
          clear gr Li hl Si S9 E10
          have K10 := S10.now
          simp only [Ph.enc] at K10
          have k0 := K10.cell 0
          have k1 := K10.cell 1
          have k2 := K10.cell 2
          have k3 := K10.cell 3
          simp only [List.getElem?_cons_zero, List.getElem?_cons_succ] at k0 k1 k2 k3
          have fk0 := K10.frozen 0
          have fk1 := K10.frozen 1
          have fk2 := K10.frozen 2
          have fk3 := K10.frozen 3
          have gw : W10.grownBy (W10.setCell ⟨g5, 3, none⟩ (.int .i64 y)) (some g5) := grown_set (World.grownBy.refl _ _)
          have kw : Lies (W10.setCell ⟨g5, 3, none⟩ (.int .i64 y)) g5 42 (Ph.enc { x with p := y }) := K10.set 3 (.int .i64 y)
          have HS11 := Lib.hid (S10.put gw kw S10.own S10.cp (by omega) hW5 (by omega) hne45)
          clear gw kw K10
          have HS10 := Lib.hid S10
          clear S10
          go_upto_region 19 with fail
          obtain ⟨W11, hW11⟩ : ∃ W11, W10.setCell ⟨g5, 3, none⟩ (.int .i64 y) = W11 := ⟨_, rfl⟩
          rw [hW11] at HS11 ⊢
          have S11 := HS11.out
          clear hW11 HS10 HS11 k0 k1 k2 k3 fk0 fk1 fk2 fk3
          have D5 := S11.now
          simp only [Ph.enc] at D5
          have D4 := S11.out
          have d0 := D5.cell 0
          have d1 := D5.cell 1
          have d2 := D5.cell 2
          have d3 := D5.cell 3
          simp only [List.getElem?_cons_zero, List.getElem?_cons_succ] at d0 d1 d2 d3
          have e0 := D4.cell 0
          have e1 := D4.cell 1
          have e2 := D4.cell 2
          have e3 := D4.cell 3
          simp only [List.getElem?_cons_zero, List.getElem?_cons_succ] at e0 e1 e2 e3
          have f0 := D4.frozen 0
          have f1 := D4.frozen 1
          have f2 := D4.frozen 2
          have f3 := D4.frozen 3
          have HT := Lib.hid S11
          clear D5 D4 S11
          repeat (first | go_values | go_skip | go_guarded | go_step | go_upon | simp only [])
          refine bodyPost_ret (v := (({ x with p := y } : Ph) : Ph).val) (by simp [results, Try.results63, go_sem, *]) rfl ⟨({ x with p := y } : Ph), rfl, by first | omega | (simp only; omega) | simp, ?_, ?_, ?_⟩
          · exact HT.out.own.ne (g := g4) (grown_set (grown_set (grown_set (grown_set (World.grownBy.refl _ _))))) (HT.out.own.off HT.out.out ne_int_ph)
          · exact (HT.out.env.wrote (h := g4) (grown_set (grown_set (grown_set (grown_set (World.grownBy.refl _ _))))) h4.2 h4.1).mono (by omega)
          · exact grown_own HT.out.gr (b := g4) (grown_set (grown_set (grown_set (grown_set (World.grownBy.refl _ _))))) (by have := HQ.out; omega)
        · -- case 4
          have S10 := S9
          clear S9
          have Sa := S10.alloc (.cells #[.int .i64 1, .int .i64 2, .int .i64 3, .int .i64 4, .int .i64 5, .int .i64 6, .int .i64 7, .int .i64 8, .int .i64 9] 3)
          have Oa : OwnS (W9.alloc (.cells #[.int .i64 1, .int .i64 2, .int .i64 3, .int .i64 4, .int .i64 5, .int .i64 6, .int .i64 7, .int .i64 8, .int .i64 9] 3)) W.heap.size 3 1 (some ⟨W9.heap.size, 0, none⟩) 9 (encIs [1, 2, 3, 4, 5, 6, 7, 8, 9]) := OwnS.lit W9 W.heap.size [1, 2, 3, 4, 5, 6, 7, 8, 9] (Nat.le_trans S10.gr.size (Nat.le_refl _)) (by simp)
          have K10 := Sa.now
          simp only [Ph.enc] at K10
          have k0 := K10.cell 0
          have k1 := K10.cell 1
          have k2 := K10.cell 2
          have k3 := K10.cell 3
          simp only [List.getElem?_cons_zero, List.getElem?_cons_succ] at k0 k1 k2 k3
          have fk0 := K10.frozen 0
          have fk1 := K10.frozen 1
          have fk2 := K10.frozen 2
          have fk3 := K10.frozen 3
          have HSa := Lib.hid Sa
          have HOa := Lib.hid Oa
          have HKa := Lib.hid K10
          clear Sa Oa S10 K10
          go_upto_region 19 with fail
          have gw : (W9.alloc (.cells #[.int .i64 1, .int .i64 2, .int .i64 3, .int .i64 4, .int .i64 5, .int .i64 6, .int .i64 7, .int .i64 8, .int .i64 9] 3)).grownBy ((W9.alloc (.cells #[.int .i64 1, .int .i64 2, .int .i64 3, .int .i64 4, .int .i64 5, .int .i64 6, .int .i64 7, .int .i64 8, .int .i64 9] 3)).setCell ⟨g5, 2, none⟩ (.slice (some ⟨W9.heap.size, 0, none⟩) 9 9)) (some g5) := grown_set (World.grownBy.refl _ _)
          have kw : Lies ((W9.alloc (.cells #[.int .i64 1, .int .i64 2, .int .i64 3, .int .i64 4, .int .i64 5, .int .i64 6, .int .i64 7, .int .i64 8, .int .i64 9] 3)).setCell ⟨g5, 2, none⟩ (.slice (some ⟨W9.heap.size, 0, none⟩) 9 9)) g5 42 (Ph.enc { x with f := [1, 2, 3, 4, 5, 6, 7, 8, 9], A := some ⟨W9.heap.size, 0, none⟩, cap := 9 }) := HKa.out.set 2 (.slice (some ⟨W9.heap.size, 0, none⟩) 9 9)
          have HS11 := Lib.hid (HSa.out.put gw kw HOa.out (by simp) (by omega) hW5 (by omega) hne45)
          clear gw kw
          obtain ⟨W11, hW11⟩ : ∃ W11, (W9.alloc (.cells #[.int .i64 1, .int .i64 2, .int .i64 3, .int .i64 4, .int .i64 5, .int .i64 6, .int .i64 7, .int .i64 8, .int .i64 9] 3)).setCell ⟨g5, 2, none⟩ (.slice (some ⟨W9.heap.size, 0, none⟩) 9 9) = W11 := ⟨_, rfl⟩
          rw [hW11] at HS11 ⊢
          have S11 := HS11.out
          clear hW11 HS11 HSa HOa HKa k0 k1 k2 k3 fk0 fk1 fk2 fk3
          have D5 := S11.now
          simp only [Ph.enc] at D5
          have D4 := S11.out
          have d0 := D5.cell 0
          have d1 := D5.cell 1
          have d2 := D5.cell 2
          have d3 := D5.cell 3
          simp only [List.getElem?_cons_zero, List.getElem?_cons_succ] at d0 d1 d2 d3
          have e0 := D4.cell 0
          have e1 := D4.cell 1
          have e2 := D4.cell 2
          have e3 := D4.cell 3
          simp only [List.getElem?_cons_zero, List.getElem?_cons_succ] at e0 e1 e2 e3
          have f0 := D4.frozen 0
          have f1 := D4.frozen 1
          have f2 := D4.frozen 2
          have f3 := D4.frozen 3
          have HT := Lib.hid S11
          clear D5 D4 S11
          repeat (first | go_values | go_skip | go_guarded | go_step | go_upon | simp only [])
          refine bodyPost_ret (v := (({ x with f := [1, 2, 3, 4, 5, 6, 7, 8, 9], A := some ⟨W9.heap.size, 0, none⟩, cap := 9 } : Ph) : Ph).val) (by simp [results, Try.results63, go_sem, *]) rfl ⟨({ x with f := [1, 2, 3, 4, 5, 6, 7, 8, 9], A := some ⟨W9.heap.size, 0, none⟩, cap := 9 } : Ph), rfl, by first | omega | (simp only; omega) | simp, ?_, ?_, ?_⟩
          · exact HT.out.own.ne (g := g4) (grown_set (grown_set (grown_set (grown_set (World.grownBy.refl _ _))))) (HT.out.own.off HT.out.out ne_int_ph)
          · exact (HT.out.env.wrote (h := g4) (grown_set (grown_set (grown_set (grown_set (World.grownBy.refl _ _))))) h4.2 h4.1).mono (by omega)
          · exact grown_own HT.out.gr (b := g4) (grown_set (grown_set (grown_set (grown_set (World.grownBy.refl _ _))))) (by have := HQ.out; omega)
        · -- case 5
          have b0 : ((n : Int) == 0) = false := by rw [beq_eq_false_iff_ne]; omega
          have b1 : ((n : Int) == 1) = false := by rw [beq_eq_false_iff_ne]; omega
          have b2 : ((n : Int) == 2) = false := by rw [beq_eq_false_iff_ne]; omega
          have b3 : ((n : Int) == 3) = false := by rw [beq_eq_false_iff_ne]; omega
          have b4 : ((n : Int) == 4) = false := by rw [beq_eq_false_iff_ne]; omega
          have HS9 := Lib.hid S9
          clear S9 h5
          go_upto_region 19 with fail
          have S11 := HS9.out
          clear HS9 b0 b1 b2 b3 b4
          have D5 := S11.now
          simp only [Ph.enc] at D5
          have D4 := S11.out
          have d0 := D5.cell 0
          have d1 := D5.cell 1
          have d2 := D5.cell 2
          have d3 := D5.cell 3
          simp only [List.getElem?_cons_zero, List.getElem?_cons_succ] at d0 d1 d2 d3
          have e0 := D4.cell 0
          have e1 := D4.cell 1
          have e2 := D4.cell 2
          have e3 := D4.cell 3
          simp only [List.getElem?_cons_zero, List.getElem?_cons_succ] at e0 e1 e2 e3
          have f0 := D4.frozen 0
          have f1 := D4.frozen 1
          have f2 := D4.frozen 2
          have f3 := D4.frozen 3
          have HT := Lib.hid S11
          clear D5 D4 S11
          repeat (first | go_values | go_skip | go_guarded | go_step | go_upon | simp only [])
          refine bodyPost_ret (v := (x : Ph).val) (by simp [results, Try.results63, go_sem, *]) rfl ⟨x, rfl, by first | omega | (simp only; omega) | simp, ?_, ?_, ?_⟩
          · exact HT.out.own.ne (g := g4) (grown_set (grown_set (grown_set (grown_set (World.grownBy.refl _ _))))) (HT.out.own.off HT.out.out ne_int_ph)
          · exact (HT.out.env.wrote (h := g4) (grown_set (grown_set (grown_set (grown_set (World.grownBy.refl _ _))))) h4.2 h4.1).mono (by omega)
          · exact grown_own HT.out.gr (b := g4) (grown_set (grown_set (grown_set (grown_set (World.grownBy.refl _ _))))) (by have := HQ.out; omega)
end Go.Proofs.Ytchkjiadnackaaa

/- A drawing starts and ends. -/
namespace Go.Proofs.Ytchkjiadnackaaa
open Go.RowKit

theorem grown_belowR {w w' : World} {g : Nat} (hg : w.grownBy w' (some g)) (h : w.heap.size ≤ g) : Below w.heap.size w w' :=
  ⟨hg.os, hg.tape, hg.output, hg.size, fun k hk => hg.block k hk (by intro e; injection e; omega)⟩
theorem cur_start {w : World} {A : Option Addr} {cap : Nat} {bs : List UInt8} (hr : BytesR w w.heap.size A bs) : Env (w.alloc (.cells #[.slice A bs.length cap, .int .i64 0, .int .u64 0] 63)) (w.alloc (.cells #[.slice A bs.length cap, .int .i64 0, .int .u64 0] 63)) w.heap.size A bs cap 0 :=
  have b1 : Below w.heap.size w (w.alloc (.cells #[.slice A bs.length cap, .int .i64 0, .int .u64 0] 63)) := (Below.refl w.heap.size w).alloc (Nat.le_refl _) (.cells #[.slice A bs.length cap, .int .i64 0, .int .u64 0] 63)
  ⟨⟨0, 0, Lies.new w 63 #[.slice A bs.length cap, .int .i64 0, .int .u64 0], Nat.le_refl _, by omega, by omega⟩, SlcR.below hr b1, World.grownBy.refl _ _⟩
end Go.Proofs.Ytchkjiadnackaaa
