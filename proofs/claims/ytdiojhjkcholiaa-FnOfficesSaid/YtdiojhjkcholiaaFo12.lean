/- Fo12: the texts LawStep LawStepZ RunP, joined into one file. -/
import Derived.Test.YtdiojhjkcholiaaFo07
import Derived.Test.YtdiojhjkcholiaaFo10
import Derived.Test.YtdiojhjkcholiaaFo11

/- The law FnExactStepOffice: the walk, for any contents that both give. (Printed by gen_lawoff.py) -/
namespace Go.Proofs.Ytdiojhjkcholiaa
open Go.RowKit

set_option maxRecDepth 100000 in
set_option maxHeartbeats 4000000 in
set_option linter.unusedVariables false in
theorem lawStep_of (x : Off) (kd st pe va : Int) (y : Oc) (b : Bool) (w : World) (h : OffR w w.heap.size x) (yt : y.t.length ≤ 1000000) (yo : y.o.length ≤ 1000000)
    (hS : ∀ {v : Value} (W : World), InV W x.c v → Calls Try.prog 13 #[v, .agg #[.int .i64 kd, .int .i64 st, .int .i64 pe, .int .i64 va]] W (GivesR W y b))
    (hI : ∀ {v : Value} (W : World), InV W x.c v → Calls Try.prog 16 #[v, .agg #[.int .i64 kd, .int .i64 st, .int .i64 pe, .int .i64 va]] W (GivesR W y b)) :
    Calls Try.prog 4 #[x.val, .agg #[.int .i64 kd, .int .i64 st, .int .i64 pe, .int .i64 va]] w fun e w' => e = .returned (.bool true) ∧ Below w.heap.size w w' := by
  have hl1 := h.ts.big
  have hl2 := h.os.big
  have b0 := ((Below.refl w.heap.size w).alloc (Nat.le_refl _) (.cells #[.slice x.TA x.t.length x.tc, .slice x.OA x.o.length x.oc, .int .i64 x.got, .int .i64 x.sold, .int .i64 x.missed] 38)).alloc (by simp) (.cells #[.int .i64 kd, .int .i64 st, .int .i64 pe, .int .i64 va] 40)
  have L0 := (Lies.new w 38 #[.slice x.TA x.t.length x.tc, .slice x.OA x.o.length x.oc, .int .i64 x.got, .int .i64 x.sold, .int .i64 x.missed]).alloc (.cells #[.int .i64 kd, .int .i64 st, .int .i64 pe, .int .i64 va] 40)
  have E0 := Lies.new1 w (.cells #[.slice x.TA x.t.length x.tc, .slice x.OA x.o.length x.oc, .int .i64 x.got, .int .i64 x.sold, .int .i64 x.missed] 38) 40 #[.int .i64 kd, .int .i64 st, .int .i64 pe, .int .i64 va]
  by_cases hbig : ((x.t.length + x.o.length : Nat) : Int) ≤ 1048576
  · have HS : lessen 1048576 (x.t.length + x.o.length) = 1048576 - ((x.t.length + x.o.length : Nat) : Int) := by unfold lessen; rw [if_pos (by omega)]
    have HZ := Lib.hid HS; clear HS
    have hn : x.t.length ≤ 1048576 := by omega
    have hm : x.o.length ≤ 1048576 := by omega
    have hbo : (b != b) = false := by simp
    go_enter Try.func4, Try.ntmps4
    go_wp2_with fail
    generalize ((w.alloc (.cells #[.slice x.TA x.t.length x.tc, .slice x.OA x.o.length x.oc, .int .i64 x.got, .int .i64 x.sold, .int .i64 x.missed] 38)).alloc (.cells #[.int .i64 kd, .int .i64 st, .int .i64 pe, .int .i64 va] 40)) = W at b0 L0 E0 ⊢
    have hW := h.up b0 (Nat.le_refl _)
    refine (szOffice_any x _ _ hl1 hl2 (by omega) (by omega)).mono ?_
    rintro e w1 ⟨rfl, hb1⟩
    rw [HZ.out]
    have L1 := L0.below hb1 L0.lt
    have E1 := E0.below hb1 E0.lt
    have hR_w1 := hW.then hb1
    have B1 := b0.trans (hb1.mono b0.size)
    clear L0 E0 b0 hW hb1 h
    go_wp2_with fail
    clear hbig HZ
    refine wp_region_factsR (fun _ => (fun W9 => Below w1.heap.size w1 W9)) (fun i w1 w2 => i ∉ [9] → Below w1.heap.size w1 w2) (by kernel_rfl) (by kernel_rfl) (by kernel_rfl) (Below.refl _ _).drew ?_
    simp only [fillOps, Act.put, List.setIfInBounds_toArray, List.set_cons_zero, List.set_cons_succ, Nat.zero_add, Nat.reduceAdd]
    apply wpFactsR_val
    case h1 =>
      intro vs L9 w9 hG9 hC9 hB K9 hK9
      have q0 : w9.cell? ⟨w.heap.size, 0, none⟩ = some (.slice x.TA x.t.length x.tc) := (L1.below hC9 L1.lt).cell 0
      have q1 : w9.cell? ⟨w.heap.size, 1, none⟩ = some (.slice x.OA x.o.length x.oc) := (L1.below hC9 L1.lt).cell 1
      have q2 : w9.cell? ⟨w.heap.size, 2, none⟩ = some (.int .i64 x.got) := (L1.below hC9 L1.lt).cell 2
      have q3 : w9.cell? ⟨w.heap.size, 3, none⟩ = some (.int .i64 x.sold) := (L1.below hC9 L1.lt).cell 3
      have q4 : w9.cell? ⟨w.heap.size, 4, none⟩ = some (.int .i64 x.missed) := (L1.below hC9 L1.lt).cell 4
      simp only [Act.put, List.setIfInBounds_toArray, List.set_cons_zero, List.set_cons_succ] at hK9
      go_simp
      exact hK9 _ _ rfl hC9 (fun _ => Below.refl _ _)
    refine wpFactsR_some [9] (fun v w9 => InV w9 x.c v) ?sa1 (fun vs L9 w9 hG9 hC9 hB K9 hK9 => ?ha1) ?ra1
    case sa1 =>
      intro i9 hi9 hb9 ha9 v w1 w2 hv hT9
      have hb := hT9 (fun hm => by
        simp only [List.mem_cons, List.not_mem_nil, or_false] at hm hb9
        subst hm
        · exact hb9 (by simp))
      exact hv.below hb
    case ha1 =>
      have d0 := FactN.eq (hB 0 _ (by kernel_rfl) (by kernel_rfl) rfl (by decide))
      simp only [d0] at hK9 ⊢
      simp only [Act.put, List.setIfInBounds_toArray, List.set_cons_zero, List.set_cons_succ] at hK9
      go_simp
      refine (toOfficeV x w9 (hR_w1.then hC9) hn hm).mono ?_
      rintro en w8 ⟨v8, rfl, hv8, hb8⟩
      exact hK9 _ _ _ rfl hv8 (hC9.trans (hb8.mono hC9.size)) (fun _ => hb8)
    apply wpFactsR_val
    case h1 =>
      intro vs L9 w9 hG9 hC9 hB K9 hK9
      have q0 : w9.cell? ⟨(w.heap.size + 1), 0, none⟩ = some (.int .i64 kd) := (E1.below hC9 E1.lt).cell 0
      have q1 : w9.cell? ⟨(w.heap.size + 1), 1, none⟩ = some (.int .i64 st) := (E1.below hC9 E1.lt).cell 1
      have q2 : w9.cell? ⟨(w.heap.size + 1), 2, none⟩ = some (.int .i64 pe) := (E1.below hC9 E1.lt).cell 2
      have q3 : w9.cell? ⟨(w.heap.size + 1), 3, none⟩ = some (.int .i64 va) := (E1.below hC9 E1.lt).cell 3
      simp only [Act.put, List.setIfInBounds_toArray, List.set_cons_zero, List.set_cons_succ] at hK9
      go_simp
      exact hK9 _ _ rfl hC9 (fun _ => Below.refl _ _)
    refine wpFactsR_val (.agg #[.int .i64 kd, .int .i64 st, .int .i64 pe, .int .i64 va]) (fun vs L9 w9 hG9 hC9 hB K9 hK9 => ?ha3) ?ra3
    case ha3 =>
      have d2 := FactN.eq (hB 2 _ (by kernel_rfl) (by kernel_rfl) rfl (by decide))
      simp only [d2] at hK9 ⊢
      go_simp
      refine (toStp_any ⟨kd, st, pe, va⟩ w9).mono ?_
      rintro en w8 ⟨rfl, hb8⟩
      exact hK9 _ _ rfl (hC9.trans (hb8.mono hC9.size)) (fun _ => hb8)
    refine wpFactsR_some [9] (fun v w9 => ∃ u, v = .tuple #[u, .bool b] ∧ OwnV w9 w1.heap.size y u) ?sa4 (fun vs L9 w9 hG9 hC9 hB K9 hK9 => ?ha4) ?ra4
    case sa4 =>
      intro i9 hi9 hb9 ha9 v w1 w2 hv hT9
      have hb := hT9 (fun hm => by
        simp only [List.mem_cons, List.not_mem_nil, or_false] at hm hb9
        subst hm
        · exact hb9 (by simp))
      obtain ⟨u, q1, q2⟩ := hv
      exact ⟨u, q1, q2.below hb⟩
    case ha4 =>
      have d3 := FactN.eq (hB 3 _ (by kernel_rfl) (by kernel_rfl) rfl (by decide))
      simp only [d3] at hK9 ⊢
      simp only [Act.put, List.setIfInBounds_toArray, List.set_cons_zero, List.set_cons_succ] at hK9
      have h1 := hB 1 _ (by kernel_rfl) (by kernel_rfl) rfl (by decide)
      go_simp
      refine (hS w9 h1).mono ?_
      rintro en w8 ⟨v8, rfl, hv8, hb8⟩
      exact hK9 _ _ _ rfl ⟨v8, rfl, hv8.lower hC9.size⟩ (hC9.trans (hb8.mono hC9.size)) (fun _ => hb8)
    refine wpFactsR_pair [] 4 (fun u v _ => v = u ∧ ∃ q, u = .tuple #[q, .bool b]) (by kernel_rfl) ?sa5 (fun vs L9 w9 hG9 hC9 hB K9 hK9 => ?ha5) ?ra5
    case sa5 =>
      intro i9 hi9 hb9 ha9 u v w1 w2 hv hT9
      exact hv
    case ha5 =>
      obtain ⟨u5, e5, h5⟩ := hB 4 _ (by kernel_rfl) (by kernel_rfl) rfl (by decide)
      simp only [e5] at hK9 ⊢
      go_simp
      exact hK9 _ _ _ rfl ⟨rfl, u5, rfl⟩ hC9 (fun _ => Below.refl _ _)
    refine wpFactsR_some [9] (fun v w9 => OwnV w9 w1.heap.size y v) ?sa6 (fun vs L9 w9 hG9 hC9 hB K9 hK9 => ?ha6) ?ra6
    case sa6 =>
      intro i9 hi9 hb9 ha9 v w1 w2 hv hT9
      have hb := hT9 (fun hm => by
        simp only [List.mem_cons, List.not_mem_nil, or_false] at hm hb9
        subst hm
        · exact hb9 (by simp))
      exact hv.below hb
    case ha6 =>
      simp only [Act.put, List.setIfInBounds_toArray, List.set_cons_zero, List.set_cons_succ] at hK9
      obtain ⟨q5, _⟩ := hB 5 _ (by kernel_rfl) (by kernel_rfl) rfl (by decide)
      obtain ⟨u4, e4, h4⟩ := hB 4 _ (by kernel_rfl) (by kernel_rfl) rfl (by decide)
      simp only [q5, e4] at hK9 ⊢
      go_simp
      exact hK9 _ _ _ rfl h4 hC9 (fun _ => Below.refl _ _)
    refine wpFactsR_val (.bool b) (fun vs L9 w9 hG9 hC9 hB K9 hK9 => ?ha7) ?ra7
    case ha7 =>
      obtain ⟨q5, u4, e4⟩ := hB 5 _ (by kernel_rfl) (by kernel_rfl) rfl (by decide)
      simp only [q5, e4] at hK9 ⊢
      go_simp
      exact hK9 _ _ rfl hC9 (fun _ => Below.refl _ _)
    refine wpFactsR_some [9] (fun v w9 => ∃ g9, v = .pointer (some ⟨g9, 0, none⟩) ∧ w1.heap.size ≤ g9 ∧ Lies w9 g9 25 [.slice none 0 0, .slice none 0 0, .int .i64 0, .int .i64 0, .int .i64 0]) ?sa8 (fun vs L9 w9 hG9 hC9 hB K9 hK9 => ?ha8) ?ra8
    case sa8 =>
      intro i9 hi9 hb9 ha9 v w1 w2 hv hT9
      have hb := hT9 (fun hm => by
        simp only [List.mem_cons, List.not_mem_nil, or_false] at hm hb9
        subst hm
        · exact hb9 (by simp))
      obtain ⟨g9, q1, q2, q3⟩ := hv
      exact ⟨g9, q1, q2, q3.below hb q3.lt⟩
    case ha8 =>
      simp only [Act.put, List.setIfInBounds_toArray, List.set_cons_zero, List.set_cons_succ] at hK9
      go_simp
      have hb8 := (Below.refl w9.heap.size w9).alloc (Nat.le_refl _) (.cells #[.slice none 0 0, .slice none 0 0, .int .i64 0, .int .i64 0, .int .i64 0] 25)
      exact hK9 _ _ _ rfl ⟨_, rfl, hC9.size, Lies.new w9 25 #[.slice none 0 0, .slice none 0 0, .int .i64 0, .int .i64 0, .int .i64 0]⟩ (hC9.trans (hb8.mono hC9.size)) (fun _ => hb8)
    refine wpFactsR_pair [] 8 (fun u _ w9 => ∃ g9, u = .pointer (some ⟨g9, 0, none⟩) ∧ OffIn w9 w1.heap.size g9 y) (by kernel_rfl) ?sa9 (fun vs L9 w9 hG9 hC9 hB K9 hK9 => ?ha9) ?ra9
    case sa9 =>
      intro i9 hi9 hb9 ha9 u v w1 w2 hv hT9
      have hb := hT9 (fun hm => by
        simp only [List.mem_cons, List.not_mem_nil, or_false] at hm hb9
        subst hm
        · exact hi9 rfl)
      obtain ⟨g9, q1, q2⟩ := hv
      exact ⟨g9, q1, q2.then hb⟩
    case ha9 =>
      obtain ⟨g9, hv9, hg9, hA9⟩ := hB 8 _ (by kernel_rfl) (by kernel_rfl) rfl (by decide)
      obtain ⟨TA, tc, OA, oc, e15, h1, h2⟩ := hB 6 _ (by kernel_rfl) (by kernel_rfl) rfl (by decide)
      simp only [hv9, e15] at hK9 ⊢
      have z0 := hA9.cell 0
      have z1 := hA9.cell 1
      have z2 := hA9.cell 2
      have z3 := hA9.cell 3
      have z4 := hA9.cell 4
      simp only [List.getElem?_cons_zero, List.getElem?_cons_succ] at z0 z1 z2 z3 z4
      have f0 := hA9.frozen 0
      have f1 := hA9.frozen 1
      have f2 := hA9.frozen 2
      have f3 := hA9.frozen 3
      have f4 := hA9.frozen 4
      have hS9 := Lib.hid (OwnV.store h1 h2 hA9 hg9)
      have hD9 := Lib.hid (hC9.trans (stOff_below (v0 := .slice TA y.t.length tc) (v1 := .slice OA y.o.length oc) (v2 := .int .i64 y.got) (v3 := .int .i64 y.sold) (v4 := .int .i64 y.missed) hA9 hg9))
      clear h1 h2 hA9
      go_simp
      exact hK9 _ undef _ rfl ⟨g9, rfl, hS9.out⟩ hD9.out (fun hq => (hq (by decide)).elim)
    apply wpFactsR_val
    case h1 =>
      intro vs L9 w9 hG9 hC9 hB K9 hK9
      have d7 := FactN.eq (hB 7 _ (by kernel_rfl) (by kernel_rfl) rfl (by decide))
      simp only [d7] at hK9 ⊢
      simp only [Act.put, List.setIfInBounds_toArray, List.set_cons_zero, List.set_cons_succ] at hK9
      go_simp
      exact hK9 _ _ rfl hC9 (fun _ => Below.refl _ _)
    refine wpFactsR_nil fun vs L9 w2 hL9 hC_w2 hB => ?_
    obtain ⟨g6, hvg, P6⟩ := hB 9 _ rfl rfl (by decide)
    have dl10 := FactN.eq (hB 10 _ rfl rfl (by decide))
    simp only [hvg, dl10]
    clear hB hL9 hvg dl10
    have B2 := B1.trans (hC_w2.mono B1.size)
    have L2 := L1.below hC_w2 L1.lt
    have E2 := E1.below hC_w2 E1.lt
    have hR_w2 := hR_w1.then hC_w2
    have g12 := hC_w2.size
    have gl1 := L1.lt
    have gl2 := E1.lt
    obtain ⟨TA6, tc6, OA6, oc6, P6⟩ := P6
    have K6 := P6.lies
    have R6 : OffR w2 w2.heap.size (y.at TA6 tc6 OA6 oc6) := offR_row P6.t P6.o
    clear P6 L1 E1 hR_w1 hC_w2 hS
    have c0 := L2.cell 0
    have c1 := L2.cell 1
    have c2 := L2.cell 2
    have c3 := L2.cell 3
    have c4 := L2.cell 4
    simp only [List.getElem?_cons_zero, List.getElem?_cons_succ] at c0 c1 c2 c3 c4
    go_wp2_with fail
    refine (toOffice_any x _ hR_w2 hn hm).mono ?_
    rintro e w3 ⟨p1, p2, rfl, hp1, hp2, hl1, hl2, hb3⟩
    have L8 := Lies.new w3 25 #[.slice (some ⟨p1, 0, none⟩) x.t.length x.t.length, .slice (some ⟨p2, 0, none⟩) x.o.length x.o.length, .int .i64 x.got, .int .i64 x.sold, .int .i64 x.missed]
    have q1 := hl1.alloc (.cells #[.slice (some ⟨p1, 0, none⟩) x.t.length x.t.length, .slice (some ⟨p2, 0, none⟩) x.o.length x.o.length, .int .i64 x.got, .int .i64 x.sold, .int .i64 x.missed] 25)
    have q2 := hl2.alloc (.cells #[.slice (some ⟨p1, 0, none⟩) x.t.length x.t.length, .slice (some ⟨p2, 0, none⟩) x.o.length x.o.length, .int .i64 x.got, .int .i64 x.sold, .int .i64 x.missed] 25)
    have hal := (Below.refl w3.heap.size w3).alloc (Nat.le_refl _) (.cells #[.slice (some ⟨p1, 0, none⟩) x.t.length x.t.length, .slice (some ⟨p2, 0, none⟩) x.o.length x.o.length, .int .i64 x.got, .int .i64 x.sold, .int .i64 x.missed] 25)
    have hb34 := bthen hb3 hal
    have g8 := hl2.lt
    have g23 := hb3.size
    clear c0 c1 c2 c3 c4 hl1 hl2
    go_wp2_with fail
    generalize w3.alloc (.cells #[.slice (some ⟨p1, 0, none⟩) x.t.length x.t.length, .slice (some ⟨p2, 0, none⟩) x.o.length x.o.length, .int .i64 x.got, .int .i64 x.sold, .int .i64 x.missed] 25) = w4 at L8 q1 q2 hal hb34 ⊢
    generalize w3.heap.size = g8' at L8 g8 g23 hal ⊢
    have B4 := B2.trans (hb34.mono B2.size)
    have L4 := L2.below hb34 L2.lt
    have E4 := E2.below hb34 E2.lt
    have K64 := K6.below hb34 K6.lt
    have gk6 := K6.lt
    have R64 := R6.below hb34
    have g48 := L8.lt
    clear L2 E2 K6 R6 hal hb3
    refine wp_region_factsR (fun _ => (fun W9 => Below w4.heap.size w4 W9)) (fun i w1 w2 => i ∉ [8] → Below w1.heap.size w1 w2) (by kernel_rfl) (by kernel_rfl) (by kernel_rfl) (Below.refl _ _).drew ?_
    simp only [fillOps, Act.put, List.setIfInBounds_toArray, List.set_cons_zero, List.set_cons_succ, Nat.zero_add, Nat.reduceAdd]
    apply wpFactsR_val
    case h1 =>
      intro vs L9 w9 hG9 hC9 hB K9 hK9
      have q0 : w9.cell? ⟨g8', 0, none⟩ = some (.slice (some ⟨p1, 0, none⟩) x.t.length x.t.length) := (L8.below hC9 L8.lt).cell 0
      have q1 : w9.cell? ⟨g8', 1, none⟩ = some (.slice (some ⟨p2, 0, none⟩) x.o.length x.o.length) := (L8.below hC9 L8.lt).cell 1
      have q2 : w9.cell? ⟨g8', 2, none⟩ = some (.int .i64 x.got) := (L8.below hC9 L8.lt).cell 2
      have q3 : w9.cell? ⟨g8', 3, none⟩ = some (.int .i64 x.sold) := (L8.below hC9 L8.lt).cell 3
      have q4 : w9.cell? ⟨g8', 4, none⟩ = some (.int .i64 x.missed) := (L8.below hC9 L8.lt).cell 4
      simp only [Act.put, List.setIfInBounds_toArray, List.set_cons_zero, List.set_cons_succ] at hK9
      go_simp
      exact hK9 _ _ rfl hC9 (fun _ => Below.refl _ _)
    apply wpFactsR_val
    case h1 =>
      intro vs L9 w9 hG9 hC9 hB K9 hK9
      have q0 : w9.cell? ⟨(w.heap.size + 1), 0, none⟩ = some (.int .i64 kd) := (E4.below hC9 E4.lt).cell 0
      have q1 : w9.cell? ⟨(w.heap.size + 1), 1, none⟩ = some (.int .i64 st) := (E4.below hC9 E4.lt).cell 1
      have q2 : w9.cell? ⟨(w.heap.size + 1), 2, none⟩ = some (.int .i64 pe) := (E4.below hC9 E4.lt).cell 2
      have q3 : w9.cell? ⟨(w.heap.size + 1), 3, none⟩ = some (.int .i64 va) := (E4.below hC9 E4.lt).cell 3
      simp only [Act.put, List.setIfInBounds_toArray, List.set_cons_zero, List.set_cons_succ] at hK9
      go_simp
      exact hK9 _ _ rfl hC9 (fun _ => Below.refl _ _)
    refine wpFactsR_val (.agg #[.int .i64 kd, .int .i64 st, .int .i64 pe, .int .i64 va]) (fun vs L9 w9 hG9 hC9 hB K9 hK9 => ?hb2) ?rb2
    case hb2 =>
      have d1 := FactN.eq (hB 1 _ (by kernel_rfl) (by kernel_rfl) rfl (by decide))
      simp only [d1] at hK9 ⊢
      go_simp
      refine (toStp_any ⟨kd, st, pe, va⟩ w9).mono ?_
      rintro en w8 ⟨rfl, hb8⟩
      exact hK9 _ _ rfl (hC9.trans (hb8.mono hC9.size)) (fun _ => hb8)
    refine wpFactsR_some [8] (fun v w9 => ∃ u, v = .tuple #[u, .bool b] ∧ OwnV w9 w4.heap.size y u) ?sb3 (fun vs L9 w9 hG9 hC9 hB K9 hK9 => ?hb3) ?rb3
    case sb3 =>
      intro i9 hi9 hb9 ha9 v w1 w2 hv hT9
      have hb := hT9 (fun hm => by
        simp only [List.mem_cons, List.not_mem_nil, or_false] at hm hb9
        subst hm
        · exact hb9 (by simp))
      obtain ⟨u, q1, q2⟩ := hv
      exact ⟨u, q1, q2.below hb⟩
    case hb3 =>
      have d0 := FactN.eq (hB 0 _ (by kernel_rfl) (by kernel_rfl) rfl (by decide))
      have d2 := FactN.eq (hB 2 _ (by kernel_rfl) (by kernel_rfl) rfl (by decide))
      simp only [d0, d2] at hK9 ⊢
      simp only [Act.put, List.setIfInBounds_toArray, List.set_cons_zero, List.set_cons_succ] at hK9
      go_simp
      refine (hI w9 (InV.copy (q1.below hC9 q1.lt) (q2.below hC9 q2.lt) hn hm)).mono ?_
      rintro en w8 ⟨v8, rfl, hv8, hb8⟩
      exact hK9 _ _ _ rfl ⟨v8, rfl, hv8.lower hC9.size⟩ (hC9.trans (hb8.mono hC9.size)) (fun _ => hb8)
    refine wpFactsR_pair [] 3 (fun u v _ => v = u ∧ ∃ q, u = .tuple #[q, .bool b]) (by kernel_rfl) ?sb4 (fun vs L9 w9 hG9 hC9 hB K9 hK9 => ?hb4) ?rb4
    case sb4 =>
      intro i9 hi9 hb9 ha9 u v w1 w2 hv hT9
      exact hv
    case hb4 =>
      obtain ⟨u5, e5, h5⟩ := hB 3 _ (by kernel_rfl) (by kernel_rfl) rfl (by decide)
      simp only [e5] at hK9 ⊢
      go_simp
      exact hK9 _ _ _ rfl ⟨rfl, u5, rfl⟩ hC9 (fun _ => Below.refl _ _)
    refine wpFactsR_some [8] (fun v w9 => OwnV w9 w4.heap.size y v) ?sb5 (fun vs L9 w9 hG9 hC9 hB K9 hK9 => ?hb5) ?rb5
    case sb5 =>
      intro i9 hi9 hb9 ha9 v w1 w2 hv hT9
      have hb := hT9 (fun hm => by
        simp only [List.mem_cons, List.not_mem_nil, or_false] at hm hb9
        subst hm
        · exact hb9 (by simp))
      exact hv.below hb
    case hb5 =>
      simp only [Act.put, List.setIfInBounds_toArray, List.set_cons_zero, List.set_cons_succ] at hK9
      obtain ⟨q5, _⟩ := hB 4 _ (by kernel_rfl) (by kernel_rfl) rfl (by decide)
      obtain ⟨u4, e4, h4⟩ := hB 3 _ (by kernel_rfl) (by kernel_rfl) rfl (by decide)
      simp only [q5, e4] at hK9 ⊢
      go_simp
      exact hK9 _ _ _ rfl h4 hC9 (fun _ => Below.refl _ _)
    refine wpFactsR_val (.bool b) (fun vs L9 w9 hG9 hC9 hB K9 hK9 => ?hb6) ?rb6
    case hb6 =>
      obtain ⟨q5, u4, e4⟩ := hB 4 _ (by kernel_rfl) (by kernel_rfl) rfl (by decide)
      simp only [q5, e4] at hK9 ⊢
      go_simp
      exact hK9 _ _ rfl hC9 (fun _ => Below.refl _ _)
    refine wpFactsR_some [8] (fun v w9 => ∃ g9, v = .pointer (some ⟨g9, 0, none⟩) ∧ w4.heap.size ≤ g9 ∧ Lies w9 g9 25 [.slice none 0 0, .slice none 0 0, .int .i64 0, .int .i64 0, .int .i64 0]) ?sb7 (fun vs L9 w9 hG9 hC9 hB K9 hK9 => ?hb7) ?rb7
    case sb7 =>
      intro i9 hi9 hb9 ha9 v w1 w2 hv hT9
      have hb := hT9 (fun hm => by
        simp only [List.mem_cons, List.not_mem_nil, or_false] at hm hb9
        subst hm
        · exact hb9 (by simp))
      obtain ⟨g9, q1, q2, q3⟩ := hv
      exact ⟨g9, q1, q2, q3.below hb q3.lt⟩
    case hb7 =>
      simp only [Act.put, List.setIfInBounds_toArray, List.set_cons_zero, List.set_cons_succ] at hK9
      go_simp
      have hb8 := (Below.refl w9.heap.size w9).alloc (Nat.le_refl _) (.cells #[.slice none 0 0, .slice none 0 0, .int .i64 0, .int .i64 0, .int .i64 0] 25)
      exact hK9 _ _ _ rfl ⟨_, rfl, hC9.size, Lies.new w9 25 #[.slice none 0 0, .slice none 0 0, .int .i64 0, .int .i64 0, .int .i64 0]⟩ (hC9.trans (hb8.mono hC9.size)) (fun _ => hb8)
    refine wpFactsR_pair [] 7 (fun u _ w9 => ∃ g9, u = .pointer (some ⟨g9, 0, none⟩) ∧ OffIn w9 w4.heap.size g9 y) (by kernel_rfl) ?sb8 (fun vs L9 w9 hG9 hC9 hB K9 hK9 => ?hb8) ?rb8
    case sb8 =>
      intro i9 hi9 hb9 ha9 u v w1 w2 hv hT9
      have hb := hT9 (fun hm => by
        simp only [List.mem_cons, List.not_mem_nil, or_false] at hm hb9
        subst hm
        · exact hi9 rfl)
      obtain ⟨g9, q1, q2⟩ := hv
      exact ⟨g9, q1, q2.then hb⟩
    case hb8 =>
      obtain ⟨g9, hv9, hg9, hA9⟩ := hB 7 _ (by kernel_rfl) (by kernel_rfl) rfl (by decide)
      obtain ⟨TA, tc, OA, oc, e15, h1, h2⟩ := hB 5 _ (by kernel_rfl) (by kernel_rfl) rfl (by decide)
      simp only [hv9, e15] at hK9 ⊢
      have z0 := hA9.cell 0
      have z1 := hA9.cell 1
      have z2 := hA9.cell 2
      have z3 := hA9.cell 3
      have z4 := hA9.cell 4
      simp only [List.getElem?_cons_zero, List.getElem?_cons_succ] at z0 z1 z2 z3 z4
      have f0 := hA9.frozen 0
      have f1 := hA9.frozen 1
      have f2 := hA9.frozen 2
      have f3 := hA9.frozen 3
      have f4 := hA9.frozen 4
      have hS9 := Lib.hid (OwnV.store h1 h2 hA9 hg9)
      have hD9 := Lib.hid (hC9.trans (stOff_below (v0 := .slice TA y.t.length tc) (v1 := .slice OA y.o.length oc) (v2 := .int .i64 y.got) (v3 := .int .i64 y.sold) (v4 := .int .i64 y.missed) hA9 hg9))
      clear h1 h2 hA9
      go_simp
      exact hK9 _ undef _ rfl ⟨g9, rfl, hS9.out⟩ hD9.out (fun hq => (hq (by decide)).elim)
    apply wpFactsR_val
    case h1 =>
      intro vs L9 w9 hG9 hC9 hB K9 hK9
      have d6 := FactN.eq (hB 6 _ (by kernel_rfl) (by kernel_rfl) rfl (by decide))
      simp only [d6] at hK9 ⊢
      simp only [Act.put, List.setIfInBounds_toArray, List.set_cons_zero, List.set_cons_succ] at hK9
      go_simp
      exact hK9 _ _ rfl hC9 (fun _ => Below.refl _ _)
    refine wpFactsR_nil fun vs L9 w5 hL9 hC_w5 hB => ?_
    obtain ⟨g9, hvg, P9⟩ := hB 8 _ rfl rfl (by decide)
    have dl9 := FactN.eq (hB 9 _ rfl rfl (by decide))
    simp only [hvg, dl9]
    clear hB hL9 hvg dl9
    have B5 := B4.trans (hC_w5.mono B4.size)
    have L5 := L4.below hC_w5 L4.lt
    have E5 := E4.below hC_w5 E4.lt
    have K65 := K64.below hC_w5 K64.lt
    have hb25 := bthen hb34 hC_w5
    have R65 := R64.below (hC_w5.mono hb34.size)
    have M8 := L8.below hC_w5 L8.lt
    have q15 := q1.below hC_w5 q1.lt
    have q25 := q2.below hC_w5 q2.lt
    have g45 := hC_w5.size
    obtain ⟨TA9, tc9, OA9, oc9, P9⟩ := P9
    have K9 := P9.lies
    have O9 := OwnS.of P9.t
    have U9 := OwnS.of P9.o
    have g9h := P9.hg
    have HE := Lib.hid (fun W TA OA TA' OA' tc oc tc' oc' h h' => @eqOwn y TA OA TA' OA' tc oc tc' oc' W h h')
    clear P9 L4 E4 K64 R64 L8 q1 q2 hC_w5
    have c0 := K9.cell 0
    have c1 := K9.cell 1
    have c2 := K9.cell 2
    have c3 := K9.cell 3
    have c4 := K9.cell 4
    simp only [List.getElem?_cons_zero, List.getElem?_cons_succ] at c0 c1 c2 c3 c4
    have d0 := K65.cell 0
    have d1 := K65.cell 1
    have d2 := K65.cell 2
    have d3 := K65.cell 3
    have d4 := K65.cell 4
    simp only [List.getElem?_cons_zero, List.getElem?_cons_succ] at d0 d1 d2 d3 d4
    go_wp2_with fail
    refine (HE.out w5 TA9 OA9 TA6 OA6 tc9 oc9 tc6 oc6 (offR_own O9 U9) (R65.mono (by omega))).mono ?_
    rintro e w6 ⟨rfl, hb6⟩
    clear c0 c1 c2 c3 c4 d0 d1 d2 d3 d4
    have B6 := B5.trans (hb6.mono B5.size)
    have L6 := L5.below hb6 L5.lt
    have E6 := E5.below hb6 E5.lt
    have K66 := K65.below hb6 K65.lt
    have R66 := R65.below (hb6.mono (by omega))
    have N8 := M8.below hb6 M8.lt
    have q16 := q15.below hb6 q15.lt
    have q26 := q25.below hb6 q25.lt
    have K96 := K9.below hb6 K9.lt
    have O96 := O9.then hb6
    have U96 := U9.then hb6
    have hb26 := bthen hb25 hb6
    have hR_w6 := hR_w2.then hb26
    have g56 := hb6.size
    clear L5 E5 K65 R65 M8 q15 q25 K9 O9 U9 B5 hb6 B4
    go_wp2_with fail
    refine wp_region_factsR (fun _ => (fun W9 => Below w6.heap.size w6 W9)) (fun _ w1 w2 => Below w1.heap.size w1 w2) (by kernel_rfl) (by kernel_rfl) (by kernel_rfl) (Below.refl _ _).drew ?_
    simp only [fillOps, Act.put, List.setIfInBounds_toArray, List.set_cons_zero, List.set_cons_succ, Nat.zero_add, Nat.reduceAdd]
    apply wpFactsR_val
    case h1 =>
      intro vs L9 w9 hG9 hC9 hB K9 hK9
      have q0 : w9.cell? ⟨g8', 0, none⟩ = some (.slice (some ⟨p1, 0, none⟩) x.t.length x.t.length) := (N8.below hC9 N8.lt).cell 0
      have q1 : w9.cell? ⟨g8', 1, none⟩ = some (.slice (some ⟨p2, 0, none⟩) x.o.length x.o.length) := (N8.below hC9 N8.lt).cell 1
      have q2 : w9.cell? ⟨g8', 2, none⟩ = some (.int .i64 x.got) := (N8.below hC9 N8.lt).cell 2
      have q3 : w9.cell? ⟨g8', 3, none⟩ = some (.int .i64 x.sold) := (N8.below hC9 N8.lt).cell 3
      have q4 : w9.cell? ⟨g8', 4, none⟩ = some (.int .i64 x.missed) := (N8.below hC9 N8.lt).cell 4
      simp only [Act.put, List.setIfInBounds_toArray, List.set_cons_zero, List.set_cons_succ] at hK9
      go_simp
      exact hK9 _ _ rfl hC9 (Below.refl _ _)
    apply wpFactsR_val
    case h1 =>
      intro vs L9 w9 hG9 hC9 hB K9 hK9
      have q0 : w9.cell? ⟨w.heap.size, 0, none⟩ = some (.slice x.TA x.t.length x.tc) := (L6.below hC9 L6.lt).cell 0
      have q1 : w9.cell? ⟨w.heap.size, 1, none⟩ = some (.slice x.OA x.o.length x.oc) := (L6.below hC9 L6.lt).cell 1
      have q2 : w9.cell? ⟨w.heap.size, 2, none⟩ = some (.int .i64 x.got) := (L6.below hC9 L6.lt).cell 2
      have q3 : w9.cell? ⟨w.heap.size, 3, none⟩ = some (.int .i64 x.sold) := (L6.below hC9 L6.lt).cell 3
      have q4 : w9.cell? ⟨w.heap.size, 4, none⟩ = some (.int .i64 x.missed) := (L6.below hC9 L6.lt).cell 4
      simp only [Act.put, List.setIfInBounds_toArray, List.set_cons_zero, List.set_cons_succ] at hK9
      go_simp
      exact hK9 _ _ rfl hC9 (Below.refl _ _)
    refine wpFactsR_some [] (fun v w9 => InV w9 x.c v) ?su2 (fun vs L9 w9 hG9 hC9 hB K9 hK9 => ?hu2) ?ru2
    case su2 =>
      intro i9 hi9 hb9 ha9 v w1 w2 hv hT9
      have hb := hT9
      exact hv.below hb
    case hu2 =>
      have d1 := FactN.eq (hB 1 _ (by kernel_rfl) (by kernel_rfl) rfl (by decide))
      simp only [d1] at hK9 ⊢
      simp only [Act.put, List.setIfInBounds_toArray, List.set_cons_zero, List.set_cons_succ] at hK9
      go_simp
      refine (toOfficeV x w9 (hR_w6.then hC9) hn hm).mono ?_
      rintro en w8 ⟨v8, rfl, hv8, hb8⟩
      exact hK9 _ _ _ rfl hv8 (hC9.trans (hb8.mono hC9.size)) hb8
    refine wpFactsR_val (.bool true) (fun vs L9 w9 hG9 hC9 hB K9 hK9 => ?hu3) ?ru3
    case hu3 =>
      have d0 := FactN.eq (hB 0 _ (by kernel_rfl) (by kernel_rfl) rfl (by decide))
      simp only [d0] at hK9 ⊢
      have h1 := hB 2 _ (by kernel_rfl) (by kernel_rfl) rfl (by decide)
      go_simp
      refine (eqOfficeV (InV.copy (q16.below hC9 q16.lt) (q26.below hC9 q26.lt) hn hm) h1).mono ?_
      rintro en w8 ⟨rfl, hb8⟩
      exact hK9 _ _ rfl (hC9.trans (hb8.mono hC9.size)) hb8
    apply wpFactsR_val
    case h1 =>
      intro vs L9 w9 hG9 hC9 hB K9 hK9
      have d3 := FactN.eq (hB 3 _ (by kernel_rfl) (by kernel_rfl) rfl (by decide))
      simp only [d3] at hK9 ⊢
      simp only [Act.put, List.setIfInBounds_toArray, List.set_cons_zero, List.set_cons_succ] at hK9
      go_simp
      exact hK9 _ _ rfl hC9 (Below.refl _ _)
    refine wpFactsR_nil fun vs L9 w7 hL9 hb7 hB => ?_
    have dl := FactN.eq (hB 4 _ rfl rfl (by decide))
    simp only [dl]
    clear hB hL9 dl
    have B7 := B6.trans (hb7.mono B6.size)
    have K67 := K66.below hb7 K66.lt
    have R67 := R66.below (hb7.mono (by omega))
    have N87 := N8.below hb7 N8.lt
    have q17 := q16.below hb7 q16.lt
    have q27 := q26.below hb7 q26.lt
    have K97 := K96.below hb7 K96.lt
    have O97 := O96.then hb7
    have U97 := U96.then hb7
    have Hb2 := bthen hb26 hb7
    have L7 := L6.below hb7 L6.lt
    have E7 := E6.below hb7 E6.lt
    have g67 := hb7.size
    clear L6 E6 K66 R66 N8 q16 q26 K96 O96 U96 B6 hb7 hR_w6
    have c0 := N87.cell 0
    have c1 := N87.cell 1
    have c2 := N87.cell 2
    have c3 := N87.cell 3
    have c4 := N87.cell 4
    simp only [List.getElem?_cons_zero, List.getElem?_cons_succ] at c0 c1 c2 c3 c4
    go_wp2_with fail
    refine (markOffice_any x p1 p2 w2.heap.size g8' w7 hn hm hp1 hp2 g8 (by omega) q17 q27).mono ?_
    rintro e w8 ⟨⟨k1, rfl, hk1⟩, hm8⟩
    clear c0 c1 c2 c3 c4
    have hb8 := hm8.below (show w2.heap.size ≤ w7.heap.size by omega)
    have B8 := B7.trans (hb8.mono B2.size)
    have K68 := hm8.lies K67 (.inl gk6)
    have R68 := R67.below hb8
    have K98 := hm8.lies K97 (.inr (by omega))
    have O98 := hm8.own O97 (by omega)
    have U98 := hm8.own U97 (by omega)
    have L8 := hm8.lies L7 (.inl (by omega))
    have E8 := hm8.lies E7 (.inl (by omega))
    have g78 := hm8.size
    clear K67 R67 N87 q17 q27 K97 O97 U97 L7 E7 hm8 B7
    have c0 := K98.cell 0
    have c1 := K98.cell 1
    have c2 := K98.cell 2
    have c3 := K98.cell 3
    have c4 := K98.cell 4
    simp only [List.getElem?_cons_zero, List.getElem?_cons_succ] at c0 c1 c2 c3 c4
    have d0 := K68.cell 0
    have d1 := K68.cell 1
    have d2 := K68.cell 2
    have d3 := K68.cell 3
    have d4 := K68.cell 4
    simp only [List.getElem?_cons_zero, List.getElem?_cons_succ] at d0 d1 d2 d3 d4
    go_wp2_with fail
    refine (HE.out w8 TA9 OA9 TA6 OA6 tc9 oc9 tc6 oc6 (offR_own O98 U98) (R68.mono (by omega))).mono ?_
    rintro e w9 ⟨rfl, hb9⟩
    clear c0 c1 c2 c3 c4 d0 d1 d2 d3 d4
    have B9 := B8.trans (hb9.mono B8.size)
    have K69 := K68.below hb9 K68.lt
    have R69 := R68.below (hb9.mono (by omega))
    have K99 := K98.below hb9 K98.lt
    have O99 := O98.then hb9
    have U99 := U98.then hb9
    have L9 := L8.below hb9 L8.lt
    have E9 := E8.below hb9 E8.lt
    have g89 := hb9.size
    clear K68 R68 K98 O98 U98 L8 E8 B8
    obtain ⟨mk, hmk⟩ : ∃ mk : Int, 1 + 2 * (y.t.length : Int) + 3 * (y.o.length : Int) = mk := ⟨_, rfl⟩
    have hmk0 : 0 ≤ mk := by omega
    have hmm : (mk != mk) = false := by simp
    have HH := fun W h h' => heldOwn_any TA9 OA9 tc9 oc9 y.t.length y.o.length y.got y.sold y.missed 1 W (by omega) (by omega) yt yo h h'
    simp only [hmk] at HH
    have HH := Lib.hid HH
    have c0 := K99.cell 0
    have c1 := K99.cell 1
    have c2 := K99.cell 2
    have c3 := K99.cell 3
    have c4 := K99.cell 4
    simp only [List.getElem?_cons_zero, List.getElem?_cons_succ] at c0 c1 c2 c3 c4
    go_wp2_with fail
    refine (markOwn_any TA9 OA9 tc9 oc9 y.t.length y.o.length w4.heap.size y.got y.sold y.missed 1 _ _ w9 (by omega) (by omega) yt yo (by omega) O99 U99).mono ?_
    rintro e w10 ⟨rfl, O10, U10, hb10, hK10⟩
    rw [hmk]
    clear hmk
    clear c0 c1 c2 c3 c4
    have B10 := B9.trans (hb10.mono (by omega))
    have K610 := hK10 _ _ K69
    have K910 := hK10 _ _ K99
    have R610 := R69.below (hb10.mono (by omega))
    have L10 := L9.below hb10 (by omega)
    have E10 := E9.below hb10 (by omega)
    have g910 := hb10.size
    clear K69 K99 R69 L9 E9 B9 O99 U99 hK10
    have c0 := K910.cell 0
    have c1 := K910.cell 1
    have c2 := K910.cell 2
    have c3 := K910.cell 3
    have c4 := K910.cell 4
    simp only [List.getElem?_cons_zero, List.getElem?_cons_succ] at c0 c1 c2 c3 c4
    go_wp2_with fail
    refine (HH.out w10 O10.reads U10.reads).mono ?_
    rintro e w11 ⟨rfl, hb11⟩
    clear c0 c1 c2 c3 c4
    have B11 := B10.trans (hb11.mono B10.size)
    have K611 := K610.below hb11 K610.lt
    have K911 := K910.below hb11 K910.lt
    have R611 := R610.below (hb11.mono (by omega))
    have L11 := L10.below hb11 L10.lt
    have E11 := E10.below hb11 E10.lt
    have O11 := O10.then hb11
    have U11 := U10.then hb11
    have hR_w11 := hR_w2.then ((((Hb2.trans hb8).trans (hb9.mono (by omega))).trans (hb10.mono (by omega))).trans (hb11.mono (by omega)))
    have g1011 := hb11.size
    clear K610 K910 R610 L10 E10 O10 U10 B10 hb8 hb9 hb10 hb11 Hb2 hR_w2
    go_wp2_with fail
    refine wp_region_factsR (fun _ => (fun W9 => Below w11.heap.size w11 W9)) (fun i w1 w2 => i ∉ [9] → Below w1.heap.size w1 w2) (by kernel_rfl) (by kernel_rfl) (by kernel_rfl) (Below.refl _ _).drew ?_
    simp only [fillOps, Act.put, List.setIfInBounds_toArray, List.set_cons_zero, List.set_cons_succ, Nat.zero_add, Nat.reduceAdd]
    apply wpFactsR_val
    case h1 =>
      intro vs L9 w9 hG9 hC9 hB K9 hK9
      have q0 : w9.cell? ⟨w.heap.size, 0, none⟩ = some (.slice x.TA x.t.length x.tc) := (L11.below hC9 L11.lt).cell 0
      have q1 : w9.cell? ⟨w.heap.size, 1, none⟩ = some (.slice x.OA x.o.length x.oc) := (L11.below hC9 L11.lt).cell 1
      have q2 : w9.cell? ⟨w.heap.size, 2, none⟩ = some (.int .i64 x.got) := (L11.below hC9 L11.lt).cell 2
      have q3 : w9.cell? ⟨w.heap.size, 3, none⟩ = some (.int .i64 x.sold) := (L11.below hC9 L11.lt).cell 3
      have q4 : w9.cell? ⟨w.heap.size, 4, none⟩ = some (.int .i64 x.missed) := (L11.below hC9 L11.lt).cell 4
      simp only [Act.put, List.setIfInBounds_toArray, List.set_cons_zero, List.set_cons_succ] at hK9
      go_simp
      exact hK9 _ _ rfl hC9 (fun _ => Below.refl _ _)
    refine wpFactsR_some [9] (fun v w9 => InV w9 x.c v) ?st1 (fun vs L9 w9 hG9 hC9 hB K9 hK9 => ?ht1) ?rt1
    case st1 =>
      intro i9 hi9 hb9 ha9 v w1 w2 hv hT9
      have hb := hT9 (fun hm => by
        simp only [List.mem_cons, List.not_mem_nil, or_false] at hm hb9
        subst hm
        · exact hb9 (by simp))
      exact hv.below hb
    case ht1 =>
      have d0 := FactN.eq (hB 0 _ (by kernel_rfl) (by kernel_rfl) rfl (by decide))
      simp only [d0] at hK9 ⊢
      simp only [Act.put, List.setIfInBounds_toArray, List.set_cons_zero, List.set_cons_succ] at hK9
      go_simp
      refine (toOfficeV x w9 (hR_w11.then hC9) hn hm).mono ?_
      rintro en w8 ⟨v8, rfl, hv8, hb8⟩
      exact hK9 _ _ _ rfl hv8 (hC9.trans (hb8.mono hC9.size)) (fun _ => hb8)
    apply wpFactsR_val
    case h1 =>
      intro vs L9 w9 hG9 hC9 hB K9 hK9
      have q0 : w9.cell? ⟨(w.heap.size + 1), 0, none⟩ = some (.int .i64 kd) := (E11.below hC9 E11.lt).cell 0
      have q1 : w9.cell? ⟨(w.heap.size + 1), 1, none⟩ = some (.int .i64 st) := (E11.below hC9 E11.lt).cell 1
      have q2 : w9.cell? ⟨(w.heap.size + 1), 2, none⟩ = some (.int .i64 pe) := (E11.below hC9 E11.lt).cell 2
      have q3 : w9.cell? ⟨(w.heap.size + 1), 3, none⟩ = some (.int .i64 va) := (E11.below hC9 E11.lt).cell 3
      simp only [Act.put, List.setIfInBounds_toArray, List.set_cons_zero, List.set_cons_succ] at hK9
      go_simp
      exact hK9 _ _ rfl hC9 (fun _ => Below.refl _ _)
    refine wpFactsR_val (.agg #[.int .i64 kd, .int .i64 st, .int .i64 pe, .int .i64 va]) (fun vs L9 w9 hG9 hC9 hB K9 hK9 => ?ht3) ?rt3
    case ht3 =>
      have d2 := FactN.eq (hB 2 _ (by kernel_rfl) (by kernel_rfl) rfl (by decide))
      simp only [d2] at hK9 ⊢
      go_simp
      refine (toStp_any ⟨kd, st, pe, va⟩ w9).mono ?_
      rintro en w8 ⟨rfl, hb8⟩
      exact hK9 _ _ rfl (hC9.trans (hb8.mono hC9.size)) (fun _ => hb8)
    refine wpFactsR_some [9] (fun v w9 => ∃ u, v = .tuple #[u, .bool b] ∧ OwnV w9 w11.heap.size y u) ?st4 (fun vs L9 w9 hG9 hC9 hB K9 hK9 => ?ht4) ?rt4
    case st4 =>
      intro i9 hi9 hb9 ha9 v w1 w2 hv hT9
      have hb := hT9 (fun hm => by
        simp only [List.mem_cons, List.not_mem_nil, or_false] at hm hb9
        subst hm
        · exact hb9 (by simp))
      obtain ⟨u, q1, q2⟩ := hv
      exact ⟨u, q1, q2.below hb⟩
    case ht4 =>
      have d3 := FactN.eq (hB 3 _ (by kernel_rfl) (by kernel_rfl) rfl (by decide))
      simp only [d3] at hK9 ⊢
      simp only [Act.put, List.setIfInBounds_toArray, List.set_cons_zero, List.set_cons_succ] at hK9
      have h1 := hB 1 _ (by kernel_rfl) (by kernel_rfl) rfl (by decide)
      go_simp
      refine (hI w9 h1).mono ?_
      rintro en w8 ⟨v8, rfl, hv8, hb8⟩
      exact hK9 _ _ _ rfl ⟨v8, rfl, hv8.lower hC9.size⟩ (hC9.trans (hb8.mono hC9.size)) (fun _ => hb8)
    refine wpFactsR_pair [] 4 (fun u v _ => v = u ∧ ∃ q, u = .tuple #[q, .bool b]) (by kernel_rfl) ?st5 (fun vs L9 w9 hG9 hC9 hB K9 hK9 => ?ht5) ?rt5
    case st5 =>
      intro i9 hi9 hb9 ha9 u v w1 w2 hv hT9
      exact hv
    case ht5 =>
      obtain ⟨u5, e5, h5⟩ := hB 4 _ (by kernel_rfl) (by kernel_rfl) rfl (by decide)
      simp only [e5] at hK9 ⊢
      go_simp
      exact hK9 _ _ _ rfl ⟨rfl, u5, rfl⟩ hC9 (fun _ => Below.refl _ _)
    refine wpFactsR_some [9] (fun v w9 => OwnV w9 w11.heap.size y v) ?st6 (fun vs L9 w9 hG9 hC9 hB K9 hK9 => ?ht6) ?rt6
    case st6 =>
      intro i9 hi9 hb9 ha9 v w1 w2 hv hT9
      have hb := hT9 (fun hm => by
        simp only [List.mem_cons, List.not_mem_nil, or_false] at hm hb9
        subst hm
        · exact hb9 (by simp))
      exact hv.below hb
    case ht6 =>
      simp only [Act.put, List.setIfInBounds_toArray, List.set_cons_zero, List.set_cons_succ] at hK9
      obtain ⟨q5, _⟩ := hB 5 _ (by kernel_rfl) (by kernel_rfl) rfl (by decide)
      obtain ⟨u4, e4, h4⟩ := hB 4 _ (by kernel_rfl) (by kernel_rfl) rfl (by decide)
      simp only [q5, e4] at hK9 ⊢
      go_simp
      exact hK9 _ _ _ rfl h4 hC9 (fun _ => Below.refl _ _)
    refine wpFactsR_val (.bool b) (fun vs L9 w9 hG9 hC9 hB K9 hK9 => ?ht7) ?rt7
    case ht7 =>
      obtain ⟨q5, u4, e4⟩ := hB 5 _ (by kernel_rfl) (by kernel_rfl) rfl (by decide)
      simp only [q5, e4] at hK9 ⊢
      go_simp
      exact hK9 _ _ rfl hC9 (fun _ => Below.refl _ _)
    refine wpFactsR_some [9] (fun v w9 => ∃ g9, v = .pointer (some ⟨g9, 0, none⟩) ∧ w11.heap.size ≤ g9 ∧ Lies w9 g9 25 [.slice none 0 0, .slice none 0 0, .int .i64 0, .int .i64 0, .int .i64 0]) ?st8 (fun vs L9 w9 hG9 hC9 hB K9 hK9 => ?ht8) ?rt8
    case st8 =>
      intro i9 hi9 hb9 ha9 v w1 w2 hv hT9
      have hb := hT9 (fun hm => by
        simp only [List.mem_cons, List.not_mem_nil, or_false] at hm hb9
        subst hm
        · exact hb9 (by simp))
      obtain ⟨g9, q1, q2, q3⟩ := hv
      exact ⟨g9, q1, q2, q3.below hb q3.lt⟩
    case ht8 =>
      simp only [Act.put, List.setIfInBounds_toArray, List.set_cons_zero, List.set_cons_succ] at hK9
      go_simp
      have hb8 := (Below.refl w9.heap.size w9).alloc (Nat.le_refl _) (.cells #[.slice none 0 0, .slice none 0 0, .int .i64 0, .int .i64 0, .int .i64 0] 25)
      exact hK9 _ _ _ rfl ⟨_, rfl, hC9.size, Lies.new w9 25 #[.slice none 0 0, .slice none 0 0, .int .i64 0, .int .i64 0, .int .i64 0]⟩ (hC9.trans (hb8.mono hC9.size)) (fun _ => hb8)
    refine wpFactsR_pair [] 8 (fun u _ w9 => ∃ g9, u = .pointer (some ⟨g9, 0, none⟩) ∧ OffIn w9 w11.heap.size g9 y) (by kernel_rfl) ?st9 (fun vs L9 w9 hG9 hC9 hB K9 hK9 => ?ht9) ?rt9
    case st9 =>
      intro i9 hi9 hb9 ha9 u v w1 w2 hv hT9
      have hb := hT9 (fun hm => by
        simp only [List.mem_cons, List.not_mem_nil, or_false] at hm hb9
        subst hm
        · exact hi9 rfl)
      obtain ⟨g9, q1, q2⟩ := hv
      exact ⟨g9, q1, q2.then hb⟩
    case ht9 =>
      obtain ⟨g9, hv9, hg9, hA9⟩ := hB 8 _ (by kernel_rfl) (by kernel_rfl) rfl (by decide)
      obtain ⟨TA, tc, OA, oc, e15, h1, h2⟩ := hB 6 _ (by kernel_rfl) (by kernel_rfl) rfl (by decide)
      simp only [hv9, e15] at hK9 ⊢
      have z0 := hA9.cell 0
      have z1 := hA9.cell 1
      have z2 := hA9.cell 2
      have z3 := hA9.cell 3
      have z4 := hA9.cell 4
      simp only [List.getElem?_cons_zero, List.getElem?_cons_succ] at z0 z1 z2 z3 z4
      have f0 := hA9.frozen 0
      have f1 := hA9.frozen 1
      have f2 := hA9.frozen 2
      have f3 := hA9.frozen 3
      have f4 := hA9.frozen 4
      have hS9 := Lib.hid (OwnV.store h1 h2 hA9 hg9)
      have hD9 := Lib.hid (hC9.trans (stOff_below (v0 := .slice TA y.t.length tc) (v1 := .slice OA y.o.length oc) (v2 := .int .i64 y.got) (v3 := .int .i64 y.sold) (v4 := .int .i64 y.missed) hA9 hg9))
      clear h1 h2 hA9
      go_simp
      exact hK9 _ undef _ rfl ⟨g9, rfl, hS9.out⟩ hD9.out (fun hq => (hq (by decide)).elim)
    apply wpFactsR_val
    case h1 =>
      intro vs L9 w9 hG9 hC9 hB K9 hK9
      have d7 := FactN.eq (hB 7 _ (by kernel_rfl) (by kernel_rfl) rfl (by decide))
      simp only [d7] at hK9 ⊢
      simp only [Act.put, List.setIfInBounds_toArray, List.set_cons_zero, List.set_cons_succ] at hK9
      go_simp
      exact hK9 _ _ rfl hC9 (fun _ => Below.refl _ _)
    refine wpFactsR_nil fun vs L9 w12 hL9 hC_w12 hB => ?_
    obtain ⟨g14, hvg, P14⟩ := hB 9 _ rfl rfl (by decide)
    have dl10 := FactN.eq (hB 10 _ rfl rfl (by decide))
    simp only [hvg, dl10]
    clear hB hL9 hvg dl10
    have B12 := B11.trans (hC_w12.mono B11.size)
    have K612 := K611.below hC_w12 K611.lt
    have K912 := K911.below hC_w12 K911.lt
    have R612 := R611.below (hC_w12.mono (by omega))
    have O12 := O11.then hC_w12
    have U12 := U11.then hC_w12
    have g1112 := hC_w12.size
    obtain ⟨TA4, tc4, OA4, oc4, P14⟩ := P14
    have K4 := P14.lies
    have R4 : OffR w12 w12.heap.size (y.at TA4 tc4 OA4 oc4) := offR_row P14.t P14.o
    clear P14 K611 K911 R611 L11 E11 O11 U11 B11 hI hR_w11
    have c0 := K4.cell 0
    have c1 := K4.cell 1
    have c2 := K4.cell 2
    have c3 := K4.cell 3
    have c4 := K4.cell 4
    simp only [List.getElem?_cons_zero, List.getElem?_cons_succ] at c0 c1 c2 c3 c4
    have d0 := K612.cell 0
    have d1 := K612.cell 1
    have d2 := K612.cell 2
    have d3 := K612.cell 3
    have d4 := K612.cell 4
    simp only [List.getElem?_cons_zero, List.getElem?_cons_succ] at d0 d1 d2 d3 d4
    go_wp2_with fail
    refine (HE.out w12 TA4 OA4 TA6 OA6 tc4 oc4 tc6 oc6 R4 (R612.mono (by omega))).mono ?_
    rintro e w13 ⟨rfl, hb13⟩
    clear c0 c1 c2 c3 c4 d0 d1 d2 d3 d4
    have B13 := B12.trans (hb13.mono B12.size)
    have K913 := K912.below hb13 K912.lt
    have O13 := O12.then hb13
    have U13 := U12.then hb13
    clear K612 K912 R612 O12 U12 K4 R4 B12 HE
    have c0 := K913.cell 0
    have c1 := K913.cell 1
    have c2 := K913.cell 2
    have c3 := K913.cell 3
    have c4 := K913.cell 4
    simp only [List.getElem?_cons_zero, List.getElem?_cons_succ] at c0 c1 c2 c3 c4
    go_wp2_with fail
    refine (HH.out w13 O13.reads U13.reads).mono ?_
    rintro e w14 ⟨rfl, hb14⟩
    clear c0 c1 c2 c3 c4 K913 O13 U13
    go_wp2
    go_ret
    exact ⟨rfl, B13.trans (hb14.mono B13.size)⟩
  · have HS : lessen 1048576 (x.t.length + x.o.length) = -1 := by unfold lessen; rw [if_neg (by omega)]
    have HZ := Lib.hid HS; clear HS
    go_enter Try.func4, Try.ntmps4
    go_wp2_with fail
    generalize ((w.alloc (.cells #[.slice x.TA x.t.length x.tc, .slice x.OA x.o.length x.oc, .int .i64 x.got, .int .i64 x.sold, .int .i64 x.missed] 38)).alloc (.cells #[.int .i64 kd, .int .i64 st, .int .i64 pe, .int .i64 va] 40)) = W at b0 L0 E0 ⊢
    refine (szOffice_any x _ _ hl1 hl2 (by omega) (by omega)).mono ?_
    rintro e w1 ⟨rfl, hb1⟩
    rw [HZ.out]
    go_wp2
    go_ret
    exact ⟨rfl, b0.trans (hb1.mono b0.size)⟩
end Go.Proofs.Ytdiojhjkcholiaa

/- The law FnExactStepOffice holds. -/
namespace Go.Proofs.Ytdiojhjkcholiaa
open Go.RowKit

theorem specStepV (x : Off) (s : Stp) {v : Value} (W : World) (h : InV W x.c v) : Calls Try.prog 13 #[v, s.val] W (GivesR W (resOf (tryD x.c s)) (tryD x.c s).isSome) := by
  obtain ⟨X, rfl, hc, hr, hcap⟩ := h
  rw [← hc]
  exact (specStep_any X s W hr hcap).mono fun _ _ h => h.r
theorem implStepV (x : Off) (s : Stp) {v : Value} (W : World) (h : InV W x.c v) : Calls Try.prog 16 #[v, s.val] W (GivesR W (resOf (tryD x.c s)) (tryD x.c s).isSome) := by
  obtain ⟨X, rfl, hc, hr, hcap⟩ := h
  rw [← hc]
  exact (implStepOffice_any X s W hr).mono fun _ _ h => h.r
theorem lawStepOffice_any (x : Off) (s : Stp) (w : World) (h : OffR w w.heap.size x) :
    Calls Try.prog 4 #[x.val, s.val] w fun e w' => e = .returned (.bool true) ∧ Below w.heap.size w w' := by
  obtain ⟨kd, st, pe, va⟩ := s
  exact lawStep_of x kd st pe va _ _ w h tryD_len.1 tryD_len.2 (fun W h => specStepV x ⟨kd, st, pe, va⟩ W h) (fun W h => implStepV x ⟨kd, st, pe, va⟩ W h)
end Go.Proofs.Ytdiojhjkcholiaa

/- Steps of an office one after the other (no program in sight), and what a run gives. -/
namespace Go.Proofs.Ytdiojhjkcholiaa
open Go.RowKit

def nextD (y : Oc) (s : Stp) : Option Oc := if s.ok then stepD y s else none
/-- Contents and the number of steps made, from y and n on. -/
def runGo : Oc → Int → List Stp → Oc × Int
  | y, n, [] => (y, n)
  | y, n, s :: l => match nextD y s with
    | some r => runGo r (n + 1) l
    | none => runGo y n l
theorem runGo_none {y : Oc} {n : Int} {l : List Stp} {k : Nat} (h : k < l.length) (hd : nextD y l[k] = none) : runGo y n (l.drop k) = runGo y n (l.drop (k + 1)) := by
  rw [List.drop_eq_getElem_cons h, runGo, hd]
theorem runGo_some {y r : Oc} {n : Int} {l : List Stp} {k : Nat} (h : k < l.length) (hd : nextD y l[k] = some r) : runGo y n (l.drop k) = runGo r (n + 1) (l.drop (k + 1)) := by
  rw [List.drop_eq_getElem_cons h, runGo, hd]
theorem fin_good {r r' : Oc} (h : Oc.fin r = some r') : r'.good = true := by
  unfold Oc.fin at h
  split at h
  · rename_i hg; injection h with h; rw [← h]; exact hg
  · cases h
theorem stepD_good {y r : Oc} {s : Stp} (h : stepD y s = some r) : r.good = true := by
  unfold stepD at h
  split at h
  · exact fin_good h
  split at h
  · cases h
  split at h
  · exact fin_good h
  split at h
  · cases h
  split at h
  · exact fin_good h
  split at h
  · split at h <;> exact fin_good h
  split at h <;> exact fin_good h
theorem nextD_good {y r : Oc} {s : Stp} (h : nextD y s = some r) : r.good = true := by
  unfold nextD at h
  split at h
  · exact stepD_good h
  · cases h
theorem Oc.good_off {y : Oc} (h : y.good = true) (TA : Option Addr) (tc : Nat) (OA : Option Addr) (oc : Nat) : Good (y.at TA tc OA oc) := by
  have G : Good (y.at none 0 none 0) := good_iff.1 h
  exact ⟨G.tl, G.ol, G.g, G.s, G.m, G.ts, G.os, G.sum⟩
theorem runGo_good : ∀ (l : List Stp) (y : Oc) (n : Int), y.good = true → (runGo y n l).1.good = true
  | [], _, _, h => h
  | s :: l, y, n, h => by
    rw [runGo]
    cases hd : nextD y s with
    | none => exact runGo_good l y n h
    | some r => exact runGo_good l r (n + 1) (nextD_good hd)
def runR (y : Oc) (l : List Stp) : Oc × Int × Bool := if y.good && decide (l.length ≤ 40) then ((runGo y 0 l).1, (runGo y 0 l).2, true) else (Oc.zero, 0, false)
theorem runR_bad {x : Off} {l : List Stp} (h : goodOff x = false) : runR x.c l = (Oc.zero, 0, false) := by
  unfold runR; rw [show x.c.good = false from h]; rfl
theorem runR_long {y : Oc} {l : List Stp} (h : ¬ l.length ≤ 40) : runR y l = (Oc.zero, 0, false) := by
  unfold runR; rw [decide_eq_false h, Bool.and_false]; rfl
theorem runR_good {x : Off} {l : List Stp} (h : goodOff x = true) (hl : l.length ≤ 40) : runR x.c l = ((runGo x.c 0 l).1, (runGo x.c 0 l).2, true) := by
  unfold runR; rw [show x.c.good = true from h, decide_eq_true hl]; rfl
theorem good_lens {y : Oc} (h : y.good = true) : y.t.length ≤ 1000000 ∧ y.o.length ≤ 1000000 := by
  have G : Good (y.at none 0 none 0) := good_iff.1 h
  exact ⟨Nat.le_trans G.tl (by omega), Nat.le_trans G.ol (by omega)⟩
theorem runR_len (y : Oc) (l : List Stp) : (runR y l).1.t.length ≤ 1000000 ∧ (runR y l).1.o.length ≤ 1000000 := by
  unfold runR
  split
  · rename_i h
    rw [Bool.and_eq_true] at h
    exact good_lens (runGo_good l y 0 h.1)
  · exact ⟨by simp [Oc.zero], by simp [Oc.zero]⟩
/-- A call gives an office of its own, a number, and whether there is one. -/
def GivesN (w : World) (R : Oc × Int × Bool) (e : Ending) (w' : World) : Prop := ∃ v, e = .returned (.tuple #[v, .int .i64 R.2.1, .bool R.2.2]) ∧ OwnV w' w.heap.size R.1 v ∧ Below w.heap.size w w'
end Go.Proofs.Ytdiojhjkcholiaa
