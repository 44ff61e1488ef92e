/- Sp03: the texts SortC Cur CurEnv Draw SortI SortT MergeI SortU SortB, joined into one file. -/
import Derived.Deep.DeepCutAuto
import Derived.Laws.BitsAllLaws
import Derived.StillTailTactics
import Derived.Test.YtchkjiadnackaaaSp01
import Derived.Test.YtchkjiadnackaaaSp02

set_option linter.unusedVariables false

/- The order of SortPhrases, in the program: the comparing closure. (Printed by gen_sortc.py) -/
namespace Go.Proofs.Ytchkjiadnackaaa
open Go.RowKit

def cmpI (a b : Int) : Int := if a < b then -1 else if b < a then 1 else 0
theorem isNaN_any (a : Int) (w : World) : Calls Try.prog 60 #[.int .i64 a] w fun e w' => e = .returned (.bool false) ∧ w = w' := by
  have hv : (a != a) = false := by simp
  go_enter Try.func60, Try.ntmps60
  go_wp2
  go_ret
  exact ⟨rfl, rfl⟩
theorem compare_any (a b : Int) (w : World) : Calls Try.prog 37 #[.int .i64 a, .int .i64 b] w fun e w' => e = .returned (.int .i64 (cmpI a b)) ∧ w = w' := by
  have ha := fun W => isNaN_any a W
  have hb := fun W => isNaN_any b W
  by_cases h1 : a < b
  · have HE : Hid (cmpI a b = -1) := by unfold Hid cmpI; rw [if_pos h1]
    go_enter Try.func37, Try.ntmps37
    go_wp2_with fail
    refine (ha _).mono ?_
    rintro e w' ⟨rfl, rfl⟩
    go_wp2_with fail
    refine (hb _).mono ?_
    rintro e w' ⟨rfl, rfl⟩
    go_wp2
    go_ret
    exact ⟨by rw [HE.out]; rfl, rfl⟩
  · by_cases h2 : b < a
    · have HE : Hid (cmpI a b = 1) := by unfold Hid cmpI; rw [if_neg h1, if_pos h2]
      go_enter Try.func37, Try.ntmps37
      go_wp2_with fail
      refine (ha _).mono ?_
      rintro e w' ⟨rfl, rfl⟩
      go_wp2_with fail
      refine (hb _).mono ?_
      rintro e w' ⟨rfl, rfl⟩
      go_wp2
      go_ret
      exact ⟨by rw [HE.out]; rfl, rfl⟩
    · have HE : Hid (cmpI a b = 0) := by unfold Hid cmpI; rw [if_neg h1, if_neg h2]
      go_enter Try.func37, Try.ntmps37
      go_wp2_with fail
      refine (ha _).mono ?_
      rintro e w' ⟨rfl, rfl⟩
      go_wp2_with fail
      refine (hb _).mono ?_
      rintro e w' ⟨rfl, rfl⟩
      go_wp2
      go_ret
      exact ⟨by rw [HE.out]; rfl, rfl⟩
def orI (a b : Int) : Int := if a = 0 then b else a
theorem or3_any (a b c : Int) (g k : Nat) (w : World) (h0 : w.cell? ⟨g, 0, none⟩ = some (.int .i64 a)) (h1 : w.cell? ⟨g, 1, none⟩ = some (.int .i64 b)) (h2 : w.cell? ⟨g, 2, none⟩ = some (.int .i64 c)) :
    Calls Try.prog 36 #[.slice (some ⟨g, 0, none⟩) 3 k] w fun e w' => e = .returned (.int .i64 (orI a (orI b c))) ∧ w = w' := by
  by_cases ha : a = 0
  · have va : (a != 0) = false := by simp [ha]
    by_cases hb : b = 0
    · have vb : (b != 0) = false := by simp [hb]
      have HE : Hid (orI a (orI b c) = c) := by unfold Hid orI; rw [if_pos ha, if_pos hb]
      clear ha hb
      by_cases hc : c = 0
      · have vc : (c != 0) = false := by simp [hc]
        have HC := Lib.hid hc; clear hc
        go_enter Try.func36, Try.ntmps36
        go_wp2
        refine wp_loop_rounds 4 ?_
        rw [rounds_succ]
        go_wp2
        rw [rounds_succ]
        go_wp2
        rw [rounds_succ]
        go_wp2
        rw [rounds_succ]
        go_wp2
        go_ret
        exact ⟨by rw [HE.out, HC.out]; rfl, rfl⟩
      · have vc : (c != 0) = true := by simp [hc]
        clear hc
        go_enter Try.func36, Try.ntmps36
        go_wp2
        refine wp_loop_rounds 3 ?_
        rw [rounds_succ]
        go_wp2
        rw [rounds_succ]
        go_wp2
        rw [rounds_succ]
        go_wp2
        go_ret
        exact ⟨by rw [HE.out]; rfl, rfl⟩
    · have vb : (b != 0) = true := by simp [hb]
      have HE : Hid (orI a (orI b c) = b) := by unfold Hid orI; rw [if_pos ha, if_neg hb]
      clear ha hb
      go_enter Try.func36, Try.ntmps36
      go_wp2
      refine wp_loop_rounds 2 ?_
      rw [rounds_succ]
      go_wp2
      rw [rounds_succ]
      go_wp2
      go_ret
      exact ⟨by rw [HE.out]; rfl, rfl⟩
  · have va : (a != 0) = true := by simp [ha]
    have HE : Hid (orI a (orI b c) = a) := by unfold Hid; unfold orI; rw [if_neg ha]
    clear ha
    go_enter Try.func36, Try.ntmps36
    go_wp2
    refine wp_loop_rounds 1 ?_
    rw [rounds_succ]
    go_wp2
    go_ret
    exact ⟨by rw [HE.out]; rfl, rfl⟩
def sortC (a b : Ph) : Int := orI (cmpI a.s b.s) (orI (cmpI a.f.length b.f.length) (cmpI b.p a.p))
theorem sortC_before (a b : Ph) : decide (sortC a b < 0) = beforeD a.ph b.ph := by
  unfold sortC beforeD orI cmpI Ph.ph
  simp only
  by_cases h1 : a.s < b.s
  · have : ¬ a.s = b.s := by omega
    simp [h1, this]
  · by_cases h2 : b.s < a.s
    · have : ¬ a.s = b.s := by omega
      simp [h1, h2, this]
    · have h3 : a.s = b.s := by omega
      by_cases h4 : a.f.length < b.f.length
      · have : ¬ a.f.length = b.f.length := by omega
        simp [h3, h4, this]
      · by_cases h5 : b.f.length < a.f.length
        · have : ¬ a.f.length = b.f.length := by omega
          simp [h3, h4, h5, this]
        · have h6 : a.f.length = b.f.length := by omega
          by_cases h7 : b.p < a.p
          · simp [h3, h6, h7]
          · by_cases h8 : a.p < b.p
            · simp [h3, h6, h7, h8]
            · simp [h3, h6, h7, h8]

set_option maxRecDepth 100000 in
set_option maxHeartbeats 4000000 in
theorem sortFn_any (a b : Ph) (w : World) : Calls Try.prog 35 #[a.val, b.val] w fun e w' => e = .returned (.int .i64 (sortC a b)) ∧ Below w.heap.size w w' := by
  have LA := (Lies.new w 42 #[.int .i64 a.s, .int .i64 a.c, .slice a.A a.f.length a.cap, .int .i64 a.p]).alloc (.cells #[.int .i64 b.s, .int .i64 b.c, .slice b.A b.f.length b.cap, .int .i64 b.p] 42)
  have LB : Lies ((w.alloc (.cells #[.int .i64 a.s, .int .i64 a.c, .slice a.A a.f.length a.cap, .int .i64 a.p] 42)).alloc (.cells #[.int .i64 b.s, .int .i64 b.c, .slice b.A b.f.length b.cap, .int .i64 b.p] 42)) (w.heap.size + 1) 42 [.int .i64 b.s, .int .i64 b.c, .slice b.A b.f.length b.cap, .int .i64 b.p] := Lies.new1 w (.cells #[.int .i64 a.s, .int .i64 a.c, .slice a.A a.f.length a.cap, .int .i64 a.p] 42) 42 #[.int .i64 b.s, .int .i64 b.c, .slice b.A b.f.length b.cap, .int .i64 b.p]
  have b2 : Below w.heap.size w ((w.alloc (.cells #[.int .i64 a.s, .int .i64 a.c, .slice a.A a.f.length a.cap, .int .i64 a.p] 42)).alloc (.cells #[.int .i64 b.s, .int .i64 b.c, .slice b.A b.f.length b.cap, .int .i64 b.p] 42)) := ((Below.refl w.heap.size w).alloc (Nat.le_refl _) (.cells #[.int .i64 a.s, .int .i64 a.c, .slice a.A a.f.length a.cap, .int .i64 a.p] 42)).alloc (by simp) (.cells #[.int .i64 b.s, .int .i64 b.c, .slice b.A b.f.length b.cap, .int .i64 b.p] 42)
  go_enter Try.func35, Try.ntmps35
  go_upto_region 1 with fail
  generalize (w.alloc (.cells #[.int .i64 a.s, .int .i64 a.c, .slice a.A a.f.length a.cap, .int .i64 a.p] 42)).alloc (.cells #[.int .i64 b.s, .int .i64 b.c, .slice b.A b.f.length b.cap, .int .i64 b.p] 42) = W at LA LB b2 ⊢
  refine wp_region_factsR (fun _ => (fun W9 => Below W.heap.size W W9)) (fun _ w1 w2 => Below w1.heap.size w1 w2) (by kernel_rfl) (by kernel_rfl) (by kernel_rfl) (Below.refl _ _).drew ?_
  simp only [fillOps, Act.put, List.setIfInBounds_toArray, List.set_cons_zero, List.set_cons_succ, Nat.zero_add, Nat.reduceAdd]
  apply wpFactsR_val
  case h1 =>
    intro vs L9 w9 hG9 hC9 hB K9 hK9
    simp only [Act.put, List.setIfInBounds_toArray, List.set_cons_zero, List.set_cons_succ] at hK9
    go_simp
    exact hK9 _ _ rfl hC9 (Below.refl _ _)
  apply wpFactsR_val
  case h1 =>
    intro vs L9 w9 hG9 hC9 hB K9 hK9
    have d0 := FactN.eq (hB 0 _ (by kernel_rfl) (by kernel_rfl) rfl (by decide))
    simp only [d0] at hK9 ⊢
    have q0 : w9.cell? ⟨w.heap.size, 0, none⟩ = some (.int .i64 a.s) := (LA.below hC9 LA.lt).cell 0
    simp only [Act.put, List.setIfInBounds_toArray, List.set_cons_zero, List.set_cons_succ] at hK9
    go_simp
    exact hK9 _ _ rfl hC9 (Below.refl _ _)
  apply wpFactsR_val
  case h1 =>
    intro vs L9 w9 hG9 hC9 hB K9 hK9
    simp only [Act.put, List.setIfInBounds_toArray, List.set_cons_zero, List.set_cons_succ] at hK9
    go_simp
    exact hK9 _ _ rfl hC9 (Below.refl _ _)
  apply wpFactsR_val
  case h1 =>
    intro vs L9 w9 hG9 hC9 hB K9 hK9
    have d2 := FactN.eq (hB 2 _ (by kernel_rfl) (by kernel_rfl) rfl (by decide))
    simp only [d2] at hK9 ⊢
    have q0 : w9.cell? ⟨(w.heap.size + 1), 0, none⟩ = some (.int .i64 b.s) := (LB.below hC9 LB.lt).cell 0
    simp only [Act.put, List.setIfInBounds_toArray, List.set_cons_zero, List.set_cons_succ] at hK9
    go_simp
    exact hK9 _ _ rfl hC9 (Below.refl _ _)
  refine wpFactsR_val (.int .i64 (cmpI a.s b.s)) (fun vs L9 w9 hG9 hC9 hB K9 hK9 => ?_) ?_
  next =>
    have d1 := FactN.eq (hB 1 _ (by kernel_rfl) (by kernel_rfl) rfl (by decide))
    have d3 := FactN.eq (hB 3 _ (by kernel_rfl) (by kernel_rfl) rfl (by decide))
    simp only [d1, d3] at hK9 ⊢
    go_simp
    refine (compare_any _ _ w9).mono ?_
    rintro en w8 ⟨rfl, rfl⟩
    exact hK9 _ _ rfl hC9 (Below.refl _ _)
  apply wpFactsR_val
  case h1 =>
    intro vs L9 w9 hG9 hC9 hB K9 hK9
    simp only [Act.put, List.setIfInBounds_toArray, List.set_cons_zero, List.set_cons_succ] at hK9
    go_simp
    exact hK9 _ _ rfl hC9 (Below.refl _ _)
  apply wpFactsR_val
  case h1 =>
    intro vs L9 w9 hG9 hC9 hB K9 hK9
    have d5 := FactN.eq (hB 5 _ (by kernel_rfl) (by kernel_rfl) rfl (by decide))
    simp only [d5] at hK9 ⊢
    have q0 : w9.cell? ⟨w.heap.size, 2, none⟩ = some (.slice a.A a.f.length a.cap) := (LA.below hC9 LA.lt).cell 2
    simp only [Act.put, List.setIfInBounds_toArray, List.set_cons_zero, List.set_cons_succ] at hK9
    go_simp
    exact hK9 _ _ rfl hC9 (Below.refl _ _)
  apply wpFactsR_val
  case h1 =>
    intro vs L9 w9 hG9 hC9 hB K9 hK9
    have d6 := FactN.eq (hB 6 _ (by kernel_rfl) (by kernel_rfl) rfl (by decide))
    simp only [d6] at hK9 ⊢
    simp only [Act.put, List.setIfInBounds_toArray, List.set_cons_zero, List.set_cons_succ] at hK9
    go_simp
    exact hK9 _ _ rfl hC9 (Below.refl _ _)
  apply wpFactsR_val
  case h1 =>
    intro vs L9 w9 hG9 hC9 hB K9 hK9
    simp only [Act.put, List.setIfInBounds_toArray, List.set_cons_zero, List.set_cons_succ] at hK9
    go_simp
    exact hK9 _ _ rfl hC9 (Below.refl _ _)
  apply wpFactsR_val
  case h1 =>
    intro vs L9 w9 hG9 hC9 hB K9 hK9
    have d8 := FactN.eq (hB 8 _ (by kernel_rfl) (by kernel_rfl) rfl (by decide))
    simp only [d8] at hK9 ⊢
    have q0 : w9.cell? ⟨(w.heap.size + 1), 2, none⟩ = some (.slice b.A b.f.length b.cap) := (LB.below hC9 LB.lt).cell 2
    simp only [Act.put, List.setIfInBounds_toArray, List.set_cons_zero, List.set_cons_succ] at hK9
    go_simp
    exact hK9 _ _ rfl hC9 (Below.refl _ _)
  apply wpFactsR_val
  case h1 =>
    intro vs L9 w9 hG9 hC9 hB K9 hK9
    have d9 := FactN.eq (hB 9 _ (by kernel_rfl) (by kernel_rfl) rfl (by decide))
    simp only [d9] at hK9 ⊢
    simp only [Act.put, List.setIfInBounds_toArray, List.set_cons_zero, List.set_cons_succ] at hK9
    go_simp
    exact hK9 _ _ rfl hC9 (Below.refl _ _)
  refine wpFactsR_val (.int .i64 (cmpI a.f.length b.f.length)) (fun vs L9 w9 hG9 hC9 hB K9 hK9 => ?_) ?_
  next =>
    have d7 := FactN.eq (hB 7 _ (by kernel_rfl) (by kernel_rfl) rfl (by decide))
    have d10 := FactN.eq (hB 10 _ (by kernel_rfl) (by kernel_rfl) rfl (by decide))
    simp only [d7, d10] at hK9 ⊢
    go_simp
    refine (compare_any _ _ w9).mono ?_
    rintro en w8 ⟨rfl, rfl⟩
    exact hK9 _ _ rfl hC9 (Below.refl _ _)
  apply wpFactsR_val
  case h1 =>
    intro vs L9 w9 hG9 hC9 hB K9 hK9
    simp only [Act.put, List.setIfInBounds_toArray, List.set_cons_zero, List.set_cons_succ] at hK9
    go_simp
    exact hK9 _ _ rfl hC9 (Below.refl _ _)
  apply wpFactsR_val
  case h1 =>
    intro vs L9 w9 hG9 hC9 hB K9 hK9
    have d12 := FactN.eq (hB 12 _ (by kernel_rfl) (by kernel_rfl) rfl (by decide))
    simp only [d12] at hK9 ⊢
    have q0 : w9.cell? ⟨(w.heap.size + 1), 3, none⟩ = some (.int .i64 b.p) := (LB.below hC9 LB.lt).cell 3
    simp only [Act.put, List.setIfInBounds_toArray, List.set_cons_zero, List.set_cons_succ] at hK9
    go_simp
    exact hK9 _ _ rfl hC9 (Below.refl _ _)
  apply wpFactsR_val
  case h1 =>
    intro vs L9 w9 hG9 hC9 hB K9 hK9
    simp only [Act.put, List.setIfInBounds_toArray, List.set_cons_zero, List.set_cons_succ] at hK9
    go_simp
    exact hK9 _ _ rfl hC9 (Below.refl _ _)
  apply wpFactsR_val
  case h1 =>
    intro vs L9 w9 hG9 hC9 hB K9 hK9
    have d14 := FactN.eq (hB 14 _ (by kernel_rfl) (by kernel_rfl) rfl (by decide))
    simp only [d14] at hK9 ⊢
    have q0 : w9.cell? ⟨w.heap.size, 3, none⟩ = some (.int .i64 a.p) := (LA.below hC9 LA.lt).cell 3
    simp only [Act.put, List.setIfInBounds_toArray, List.set_cons_zero, List.set_cons_succ] at hK9
    go_simp
    exact hK9 _ _ rfl hC9 (Below.refl _ _)
  refine wpFactsR_val (.int .i64 (cmpI b.p a.p)) (fun vs L9 w9 hG9 hC9 hB K9 hK9 => ?_) ?_
  next =>
    have d13 := FactN.eq (hB 13 _ (by kernel_rfl) (by kernel_rfl) rfl (by decide))
    have d15 := FactN.eq (hB 15 _ (by kernel_rfl) (by kernel_rfl) rfl (by decide))
    simp only [d13, d15] at hK9 ⊢
    go_simp
    refine (compare_any _ _ w9).mono ?_
    rintro en w8 ⟨rfl, rfl⟩
    exact hK9 _ _ rfl hC9 (Below.refl _ _)
  refine wpFactsR_some [] (fun v w9 => ∃ g, v = .slice (some ⟨g, 0, none⟩) 3 3 ∧ Lies w9 g 3 [.int .i64 (cmpI a.s b.s), .int .i64 (cmpI a.f.length b.f.length), .int .i64 (cmpI b.p a.p)]) ?_ (fun vs L9 w9 hG9 hC9 hB K9 hK9 => ?_) ?_
  next =>
    intro i9 hi9 hb9 ha9 v w1 w2 hv hT9
    have hb := hT9
    obtain ⟨g, q1, q2⟩ := hv
    exact ⟨g, q1, q2.below hb q2.lt⟩
  next =>
    have d4 := FactN.eq (hB 4 _ (by kernel_rfl) (by kernel_rfl) rfl (by decide))
    have d11 := FactN.eq (hB 11 _ (by kernel_rfl) (by kernel_rfl) rfl (by decide))
    have d16 := FactN.eq (hB 16 _ (by kernel_rfl) (by kernel_rfl) rfl (by decide))
    simp only [d4, d11, d16] at hK9 ⊢
    simp only [Act.put, List.setIfInBounds_toArray, List.set_cons_zero, List.set_cons_succ] at hK9
    go_simp
    have hb8 := (Below.refl w9.heap.size w9).alloc (Nat.le_refl _) (.cells #[.int .i64 (cmpI a.s b.s), .int .i64 (cmpI a.f.length b.f.length), .int .i64 (cmpI b.p a.p)] 3)
    exact hK9 _ _ _ rfl ⟨_, rfl, Lies.new w9 3 #[.int .i64 (cmpI a.s b.s), .int .i64 (cmpI a.f.length b.f.length), .int .i64 (cmpI b.p a.p)]⟩ (hC9.trans (hb8.mono hC9.size)) (hb8)
  refine wpFactsR_val (.int .i64 (sortC a b)) (fun vs L9 w9 hG9 hC9 hB K9 hK9 => ?_) ?_
  next =>
    obtain ⟨g, e17, hL⟩ := hB 17 _ (by kernel_rfl) (by kernel_rfl) rfl (by decide)
    simp only [e17] at hK9 ⊢
    go_simp
    refine (or3_any _ _ _ g 3 w9 (hL.cell 0) (hL.cell 1) (hL.cell 2)).mono ?_
    rintro en w8 ⟨rfl, rfl⟩
    exact hK9 _ _ rfl hC9 (Below.refl _ _)
  apply wpFactsR_val
  case h1 =>
    intro vs L9 w9 hG9 hC9 hB K9 hK9
    have d18 := FactN.eq (hB 18 _ (by kernel_rfl) (by kernel_rfl) rfl (by decide))
    simp only [d18] at hK9 ⊢
    simp only [Act.put, List.setIfInBounds_toArray, List.set_cons_zero, List.set_cons_succ] at hK9
    go_simp
    exact hK9 _ _ rfl hC9 (Below.refl _ _)
  refine wpFactsR_nil fun vs Lq wd hL9 hbd hB => ?_
  have dl := FactN.eq (hB 19 _ rfl rfl (by decide))
  simp only [dl]
  clear hB hL9 dl
  go_wp2
  go_ret
  exact ⟨rfl, b2.trans (hbd.mono b2.size)⟩
end Go.Proofs.Ytchkjiadnackaaa

/- The drawing cursor of the reference: next, pick, one, among. -/
namespace Go.Proofs.Ytchkjiadnackaaa
open Go.RowKit

abbrev encBs (l : List UInt8) : List Value := l.map fun b => Value.int .u8 (b.toNat : Int)
theorem encBs_len (l : List UInt8) : (encBs l).length = l.length * 1 := by simp
/-- A slice of bytes reads. -/
abbrev BytesR (w : World) (B : Nat) (A : Option Addr) (l : List UInt8) : Prop := SlcR w B 1 A l.length (encBs l)

theorem grown_drew {a w : World} {row : Option Nat} (h : a.grownBy w row) : a.grownBy w.drew row := ⟨h.os, h.tape, h.output, h.size, h.block⟩
theorem grown_trans {a b c : World} {row : Option Nat} (h : a.grownBy b row) (k : b.grownBy c row) : a.grownBy c row :=
  ⟨k.os.trans h.os, k.tape.trans h.tape, k.output.trans h.output, Nat.le_trans h.size k.size, fun j hj hne => (k.block j (Nat.lt_of_lt_of_le hj h.size) hne).trans (h.block j hj hne)⟩
theorem wrap_u64 (n : Int) : 0 ≤ IntKind.u64.wrap n ∧ IntKind.u64.wrap n < 18446744073709551616 := by
  simp [IntKind.wrap, IntKind.signed, IntKind.bits]; omega

theorem and255 (E : Int) (h0 : 0 ≤ E) (h1 : E < 18446744073709551616) : ∃ b : Nat, b ≤ 255 ∧ wrap64 (bits .and .u64 E 255) = (b : Int) := by
  refine ⟨E.toNat &&& 255, Nat.and_le_right, ?_⟩
  rw [u64_and E 255 h0 h1 (by omega) (by omega)]
  have he : (255 : Int).toNat = 255 := rfl
  rw [he]
  have : E.toNat &&& 255 ≤ 255 := Nat.and_le_right
  unfold wrap64; omega

/-- A cursor at block g, over code; at most m steps made. -/
def CurS (w : World) (g : Nat) (A : Option Addr) (n cap m : Nat) : Prop :=
  ∃ (p : Nat) (seed : Int), Lies w g 63 [.slice A n cap, .int .i64 p, .int .u64 seed] ∧ p ≤ m ∧ 0 ≤ seed ∧ seed < 18446744073709551616

set_option maxHeartbeats 1000000 in
theorem next_any (g : Nat) (A : Option Addr) (cap m : Nat) (bs : List UInt8) (w : World) (hm : m ≤ 1000000000) (hc : CurS w g A bs.length cap m) (hr : BytesR w g A bs) :
    Calls Try.prog 65 #[.pointer (some ⟨g, 0, none⟩)] w fun e w' => ∃ b : Nat, e = .returned (.int .i64 b) ∧ b ≤ 255 ∧ CurS w' g A bs.length cap (m + 1) ∧ w.grownBy w' (some g) := by
  obtain ⟨p, seed, hL, hp, hs0, hs1⟩ := hc
  have hl := hr.big
  have k0 := hL.cell 0
  have k1 := hL.cell 1
  have k2 := hL.cell 2
  have f1 := hL.frozen 1
  have f2 := hL.frozen 2
  simp only [List.getElem?_cons_zero, List.getElem?_cons_succ] at k0 k1 k2
  by_cases hlt : p < bs.length
  · obtain ⟨b, off, rfl, hb, hcell⟩ := hr.at_ (by omega)
    have kc := hcell p (.int .u8 (bs[p].toNat : Int)) (by simp [hlt])
    have hx : bs[p].toNat < 256 := bs[p].toNat_lt
    generalize bs[p].toNat = x at kc hx
    clear hcell hr
    go_enter Try.func65, Try.ntmps65
    go_wp2
    go_region
    go_wp2
    go_region
    go_wp2
    go_region
    go_wp2
    · go_ret
      exact ⟨x, rfl, by omega, ⟨p + 1, _, (hL.set 1 _).set 2 _, by omega, (wrap_u64 _).1, (wrap_u64 _).2⟩, grown_drew (grown_drew (grown_drew (grown_set (grown_set (World.grownBy.refl w _)))))⟩
  · clear hr
    go_enter Try.func65, Try.ntmps65
    go_wp2
    go_region
    go_wp2
    go_region
    go_wp2
    · have hw := wrap_u64 (IntKind.u64.wrap (IntKind.u64.wrap (seed * 6364136223846793005)) + 381907)
      obtain ⟨y, hy, he⟩ := and255 (IntKind.u64.wrap (IntKind.u64.wrap (IntKind.u64.wrap (seed * 6364136223846793005)) + 381907) / 1099511627776) (Int.ediv_nonneg hw.1 (by omega)) (by omega)
      rw [he]
      go_ret
      exact ⟨y, rfl, hy, ⟨p + 1, _, (hL.set 1 _).set 2 _, by omega, hw.1, hw.2⟩, grown_drew (grown_drew (grown_set (grown_set (World.grownBy.refl w _))))⟩

theorem CurS.mono {w : World} {g : Nat} {A : Option Addr} {n cap m m' : Nat} (h : CurS w g A n cap m) (hm : m ≤ m') : CurS w g A n cap m' := by
  obtain ⟨p, s, h1, h2, h3⟩ := h
  exact ⟨p, s, h1, by omega, h3⟩
theorem CurS.lt {w : World} {g : Nat} {A : Option Addr} {n cap m : Nat} (h : CurS w g A n cap m) : g < w.heap.size := by
  obtain ⟨p, s, h1, _⟩ := h
  exact h1.lt
/-- Others than the cursor's own block read as before. -/
theorem SlcR.grown {w w' : World} {B k n g : Nat} {A : Option Addr} {cs : List Value} (h : SlcR w B k A n cs) (hg : w.grownBy w' (some g)) (hB : B ≤ g) (hgw : g < w.heap.size) : SlcR w' B k A n cs :=
  h.keep fun p hp => grown_cell hg p (by omega) (by intro e; injection e; omega)

set_option maxHeartbeats 1000000 in
theorem pick_any (g : Nat) (A : Option Addr) (cap m n : Nat) (bs : List UInt8) (w : World) (hn : n ≤ 100000) (hm : m ≤ 900000000) (hc : CurS w g A bs.length cap m) (hr : BytesR w g A bs) :
    Calls Try.prog 50 #[.pointer (some ⟨g, 0, none⟩), .int .i64 n] w fun e w' => ∃ x : Nat, e = .returned (.int .i64 x) ∧ x ≤ n - 1 ∧ CurS w' g A bs.length cap (m + 2) ∧ w.grownBy w' (some g) := by
  by_cases h1 : n ≤ 1
  · have h1' : (n : Int) ≤ 1 := by omega
    go_enter Try.func50, Try.ntmps50
    go_wp2
    go_ret
    exact ⟨0, rfl, by omega, hc.mono (by omega), World.grownBy.refl w _⟩
  · have h1' : ¬ (n : Int) ≤ 1 := by omega
    have hz : ((n : Int) == 0) = false := by rw [beq_eq_false_iff_ne]; omega
    have hz2 : (n : Int) ≠ 0 := by omega
    by_cases h2 : n ≤ 200
    · go_enter Try.func50, Try.ntmps50
      go_wp2_with fail
      refine (next_any g A cap m bs _ (by omega) hc hr).mono ?_
      rintro e w1 ⟨b, rfl, hb, hc1, hg1⟩
      go_wp2
      go_ret
      refine ⟨b % n, by rw [Int.natCast_emod]; rfl, ?_, hc1.mono (by omega), hg1⟩
      have := Nat.mod_lt b (show 0 < n by omega)
      omega
    · go_enter Try.func50, Try.ntmps50
      go_wp2_with fail
      refine (next_any g A cap m bs _ (by omega) hc hr).mono ?_
      rintro e w1 ⟨b, rfl, hb, hc1, hg1⟩
      go_wp2_with fail
      refine (next_any g A cap (m + 1) bs _ (by omega) hc1 (hr.grown hg1 (Nat.le_refl _) hc.lt)).mono ?_
      rintro e w2 ⟨b2, rfl, hb2, hc2, hg2⟩
      go_wp2
      go_ret
      refine ⟨(b * 256 + b2) % n, by rw [Int.natCast_emod]; rfl, ?_, hc2, grown_trans hg1 hg2⟩
      have := Nat.mod_lt (b * 256 + b2) (show 0 < n by omega)
      omega

theorem one_any (g : Nat) (A : Option Addr) (cap m n : Nat) (bs : List UInt8) (w : World) (hn : n ≤ 100000) (hm : m ≤ 900000000) (hc : CurS w g A bs.length cap m) (hr : BytesR w g A bs) :
    Calls Try.prog 64 #[.pointer (some ⟨g, 0, none⟩), .int .i64 n] w fun e w' => ∃ x : Bool, e = .returned (.bool x) ∧ CurS w' g A bs.length cap (m + 2) ∧ w.grownBy w' (some g) := by
  go_enter Try.func64, Try.ntmps64
  go_wp2_with fail
  refine (pick_any g A cap m n bs _ hn hm hc hr).mono ?_
  rintro e w1 ⟨b, rfl, hb, hc1, hg1⟩
  go_wp2
  go_ret
  exact ⟨_, rfl, hc1, hg1⟩

theorem among_any (g : Nat) (A A' : Option Addr) (cap c' m : Nat) (bs : List UInt8) (l : List Int) (w : World) (hl : 0 < l.length) (hl' : l.length ≤ 100000) (hm : m ≤ 900000000) (hc : CurS w g A bs.length cap m) (hr : BytesR w g A bs) (hi : IntsR w w.heap.size A' l) (hne : A'.map (·.block) ≠ some g) :
    Calls Try.prog 49 #[.pointer (some ⟨g, 0, none⟩), .slice A' l.length c'] w fun e w' => ∃ x : Int, e = .returned (.int .i64 x) ∧ x ∈ l ∧ CurS w' g A bs.length cap (m + 2) ∧ w.grownBy w' (some g) := by
  obtain ⟨b, off, rfl, hb, hcell⟩ := hi.at_ hl
  go_enter Try.func49, Try.ntmps49
  go_wp2_with fail
  refine (pick_any g A cap m l.length bs _ hl' hm hc hr).mono ?_
  rintro e w1 ⟨x, rfl, hx, hc1, hg1⟩
  have hlt : x < l.length := by omega
  have kc : w1.cell? ⟨b, off + x, none⟩ = some (.int .i64 l[x]) := by
    rw [grown_cell hg1 _ hb (by simpa using hne)]; exact hcell x _ (by simp [hlt])
  have hmem : l[x] ∈ l := List.getElem_mem hlt
  generalize l[x] = y at kc hmem
  go_wp2
  go_ret
  exact ⟨y, rfl, hmem, hc1, hg1⟩
end Go.Proofs.Ytchkjiadnackaaa

/- The drawing cursor, as drawing functions carry it. -/
namespace Go.Proofs.Ytchkjiadnackaaa
open Go.RowKit

/-- The cursor at block g, in a world W that came from w. -/
structure Env (w W : World) (g : Nat) (A : Option Addr) (bs : List UInt8) (cap m : Nat) : Prop where
  cur : CurS W g A bs.length cap m
  rd : BytesR W g A bs
  gr : w.grownBy W (some g)
section
variable {w W : World} {g : Nat} {A : Option Addr} {bs : List UInt8} {cap m : Nat}
theorem grown_alloc {a w : World} {row : Option Nat} (h : a.grownBy w row) (o : Obj) : a.grownBy (w.alloc o) row := grown_trans h (World.grownBy_alloc w o row)
theorem CurS.alloc {n : Nat} (h : CurS W g A n cap m) (o : Obj) : CurS (W.alloc o) g A n cap m := by
  obtain ⟨p, s, h1, h2⟩ := h
  exact ⟨p, s, h1.alloc o, h2⟩
theorem CurS.kept {W' : World} {n : Nat} {row : Option Nat} (h : CurS W g A n cap m) (hb : W.grownBy W' row) (hne : some g ≠ row) : CurS W' g A n cap m := by
  obtain ⟨p, s, h1, h2⟩ := h
  exact ⟨p, s, h1.kept hb hne, h2⟩
theorem Env.alloc (E : Env w W g A bs cap m) (o : Obj) : Env w (W.alloc o) g A bs cap m :=
  ⟨E.cur.alloc o, E.rd.grown (World.grownBy_alloc W o (some g)) (Nat.le_refl _) E.cur.lt, grown_alloc E.gr o⟩
theorem Env.lt (E : Env w W g A bs cap m) : g < W.heap.size := E.cur.lt
/-- A block of the call's own is written. -/
theorem Env.wrote {W' : World} {h : Nat} (E : Env w W g A bs cap m) (hb : W.grownBy W' (some h)) (hw : w.heap.size ≤ h) (hgh : g < h) : Env w W' g A bs cap m :=
  ⟨E.cur.kept hb (by intro e; injection e; omega), E.rd.keep fun p hp => grown_cell hb p (by have := E.lt; omega) (by intro e; injection e; omega),
   ⟨hb.os.trans E.gr.os, hb.tape.trans E.gr.tape, hb.output.trans E.gr.output, Nat.le_trans E.gr.size hb.size, fun j hj hn => (hb.block j (Nat.lt_of_lt_of_le hj E.gr.size) (by intro e; injection e; omega)).trans (E.gr.block j hj hn)⟩⟩
theorem Env.mono {m' : Nat} (E : Env w W g A bs cap m) (hm : m ≤ m') : Env w W g A bs cap m' := ⟨E.cur.mono hm, E.rd, E.gr⟩
theorem Env.next {W' : World} {m' : Nat} (E : Env w W g A bs cap m) (hc : CurS W' g A bs.length cap m') (hg : W.grownBy W' (some g)) : Env w W' g A bs cap m' :=
  ⟨hc, E.rd.grown hg (Nat.le_refl _) E.lt, grown_trans E.gr hg⟩
theorem Env.start (hc : CurS w g A bs.length cap m) (hr : BytesR w g A bs) : Env w w g A bs cap m := ⟨hc, hr, World.grownBy.refl w _⟩

theorem pick_env (E : Env w W g A bs cap m) (n : Nat) (hn : n ≤ 100000) (hm : m ≤ 900000000) :
    Calls Try.prog 50 #[.pointer (some ⟨g, 0, none⟩), .int .i64 n] W fun e w' => ∃ x : Nat, e = .returned (.int .i64 x) ∧ x ≤ n - 1 ∧ Env w w' g A bs cap (m + 2) ∧ W.grownBy w' (some g) :=
  (pick_any g A cap m n bs W hn hm E.cur E.rd).mono fun _ _ ⟨x, he, hx, hc, hg⟩ => ⟨x, he, hx, E.next hc hg, hg⟩
theorem one_env (E : Env w W g A bs cap m) (n : Nat) (hn : n ≤ 100000) (hm : m ≤ 900000000) :
    Calls Try.prog 64 #[.pointer (some ⟨g, 0, none⟩), .int .i64 n] W fun e w' => ∃ x : Bool, e = .returned (.bool x) ∧ Env w w' g A bs cap (m + 2) ∧ W.grownBy w' (some g) :=
  (one_any g A cap m n bs W hn hm E.cur E.rd).mono fun _ _ ⟨x, he, hc, hg⟩ => ⟨x, he, E.next hc hg, hg⟩
/-- One of a list that was built for the call. -/
theorem among_env (E : Env w W g A bs cap m) (l : List Int) (k : Nat) (hk : l.length = k) (vs : Array Value) (hv : vs.toList = encIs l) (hl : 0 < k) (hl' : k ≤ 100000) (hm : m ≤ 900000000) :
    Calls Try.prog 49 #[.pointer (some ⟨g, 0, none⟩), .slice (some ⟨W.heap.size, 0, none⟩) k k] (W.alloc (.cells vs 3)) fun e w' => ∃ x : Int, e = .returned (.int .i64 x) ∧ x ∈ l ∧ Env w w' g A bs cap (m + 2) ∧ W.grownBy w' (some g) := by
  subst hk
  have E1 := E.alloc (.cells vs 3)
  have hL := Lies.new W 3 vs
  rw [hv] at hL
  have hi : IntsR (W.alloc (.cells vs 3)) (W.alloc (.cells vs 3)).heap.size (some ⟨W.heap.size, 0, none⟩) l := hL.reads (encIs_len l) (by omega)
  refine (among_any g A _ cap _ m bs l _ hl hl' hm E1.cur E1.rd hi (by have := E.lt; intro e; injection e with e; simp only at e; omega)).mono ?_
  rintro e w' ⟨x, he, hx, hc, hg⟩
  exact ⟨x, he, hx, E1.next hc hg, grown_trans (World.grownBy_alloc W _ _) hg⟩
end
end Go.Proofs.Ytchkjiadnackaaa

/- Regions of drawing functions, on the facts law: a cursor that goes on, blocks that stay. -/
namespace Go.Proofs.Ytchkjiadnackaaa
open Go.RowKit

/-- How many of the first n operations have been. -/
def cntB (L : Nat → Bool) : Nat → Nat
  | 0 => 0
  | n + 1 => cntB L n + (if L n = true then 1 else 0)
theorem cntB_le (L : Nat → Bool) : ∀ n, cntB L n ≤ n
  | 0 => Nat.le_refl _
  | n + 1 => by have := cntB_le L n; rw [cntB]; split <;> omega
theorem cntB_same {L : Nat → Bool} {k : Nat} : ∀ n, n ≤ k → cntB (Listed.but L k) n = cntB L n
  | 0, _ => rfl
  | n + 1, h => by
    rw [cntB, cntB, cntB_same n (by omega)]
    have : Listed.but L k n = L n := by unfold Listed.but; rw [if_neg (by omega)]
    rw [this]
theorem cntB_but {L : Nat → Bool} {k : Nat} (hL : L k = false) : ∀ n, k < n → cntB (Listed.but L k) n = cntB L n + 1
  | 0, h => absurd h (by omega)
  | n + 1, h => by
    rw [cntB, cntB]
    by_cases e : n = k
    · subst e
      rw [cntB_same n (Nat.le_refl _), hL]
      have : Listed.but L n n = true := by unfold Listed.but; rw [if_pos rfl]
      rw [this]; simp
    · rw [cntB_but hL n (by omega)]
      have : Listed.but L k n = L n := by unfold Listed.but; rw [if_neg e]
      rw [this]; omega
theorem grownAny {w w' : World} (h : Below w.heap.size w w') (row : Option Nat) : w.grownBy w' row := ⟨h.os, h.tape, h.output, h.size, fun k hk _ => h.block k hk⟩
section
variable {w W : World} {g : Nat} {A : Option Addr} {bs : List UInt8} {cap m : Nat}
theorem Env.below {W' : World} (E : Env w W g A bs cap m) (h : Below W.heap.size W W') : Env w W' g A bs cap m :=
  ⟨E.cur.kept (row := none) (grownAny h _) (by simp), E.rd.keep fun p hp => h.cell (by have := E.lt; omega), grown_trans E.gr (grownAny h _)⟩
theorem Env.drew (E : Env w W g A bs cap m) : Env w W.drew g A bs cap m := ⟨E.cur, E.rd.keep fun _ _ => rfl, grown_drew E.gr⟩
/-- What holds of a block until an operation of the region has been. -/
structure Room where
  op : Nat
  blk : Option Nat
  P : World → Prop
  st : ∀ w w' row, w.grownBy w' row → (blk = none ∨ blk ≠ row) → P w → P w'
def Room.lies (k h : Nat) (t : TypeId) (cs : List Value) : Room := ⟨k, some h, fun w => Lies w h t cs, fun _ _ _ hg hb hL => hL.kept hg (hb.resolve_left (by simp))⟩
def Room.row (k B : Nat) (t : TypeId) (sz : Nat) (v : Value) (n : Nat) (xs : List Value) : Room := ⟨k, v.ownBlock, fun w => w.ownsRow B t sz v n xs, fun _ _ _ hg hb hL => hL.kept hg hb⟩
/-- The world in a drawing region: the cursor's, with all blocks as they lay, but those of X. -/
structure Dr (w W : World) (g : Nat) (A : Option Addr) (bs : List UInt8) (cap m K n : Nat) (X : List Nat) (R : List Room) (L : Nat → Bool) (W9 : World) : Prop where
  env : Env w W9 g A bs cap (m + K * cntB L n)
  size : W.heap.size ≤ W9.heap.size
  keep : ∀ k, k < W.heap.size → k ∉ X → W9.heap[k]? = W.heap[k]?
  room : ∀ p ∈ R, p.blk ≠ some g ∧ (L p.op = false → p.P W9)
variable {K n k : Nat} {X : List Nat} {R : List Room} {L : Nat → Bool} {W9 : World}
theorem Dr.start (E : Env w W g A bs cap m) (hr : ∀ p ∈ R, p.blk ≠ some g ∧ p.P W) : Dr w W g A bs cap m K n X R (fun _ => false) W.drew := by
  refine ⟨?_, Nat.le_refl _, fun _ _ _ => rfl, fun p hp => ⟨(hr p hp).1, fun _ => p.st W W.drew none (grown_drew (World.grownBy.refl W none)) (by cases p.blk <;> simp) (hr p hp).2⟩⟩
  have : cntB (fun _ => false) n = 0 := by
    induction n with
    | zero => rfl
    | succ n ih => rw [cntB, ih]; simp
  rw [this]; exact E.drew
theorem Listed.was {L : Nat → Bool} {k j : Nat} (h : Listed.but L k j = false) : L j = false ∧ j ≠ k := by
  unfold Listed.but at h
  split at h
  · cases h
  · exact ⟨h, by assumption⟩
theorem Dr.stay (h : Dr w W g A bs cap m K n X R L W9) (hL : L k = false) (hk : k < n) : Dr w W g A bs cap m K n X R (Listed.but L k) W9 :=
  ⟨h.env.mono (by rw [cntB_but hL n hk, Nat.mul_add]; omega), h.size, h.keep, fun p hp => ⟨(h.room p hp).1, fun hl => (h.room p hp).2 (Listed.was hl).1⟩⟩
theorem Dr.alloc (h : Dr w W g A bs cap m K n X R L W9) (hL : L k = false) (hk : k < n) (o : Obj) : Dr w W g A bs cap m K n X R (Listed.but L k) (W9.alloc o) :=
  ⟨(h.env.alloc o).mono (by rw [cntB_but hL n hk, Nat.mul_add]; omega), Nat.le_trans h.size (by simp), fun k hk' hX => (Below.heap_alloc W9 o k (Nat.lt_of_lt_of_le hk' h.size)).trans (h.keep k hk' hX), fun p hp => ⟨(h.room p hp).1, fun hl => p.st _ _ none (World.grownBy_alloc W9 o none) (by cases p.blk <;> simp) ((h.room p hp).2 (Listed.was hl).1)⟩⟩
theorem Dr.call {W8 : World} {m' : Nat} (h : Dr w W g A bs cap m K n X R L W9) (hL : L k = false) (hk : k < n) (E : Env w W8 g A bs cap m') (hm : m' ≤ m + K * cntB L n + K) (gr : W9.grownBy W8 (some g)) (hX : g ∈ X) : Dr w W g A bs cap m K n X R (Listed.but L k) W8 :=
  ⟨E.mono (by rw [cntB_but hL n hk, Nat.mul_add]; omega), Nat.le_trans h.size gr.size, fun k hk' hX' => (gr.block k (Nat.lt_of_lt_of_le hk' h.size) (by intro e; injection e with e; subst e; exact hX' hX)).trans (h.keep k hk' hX'), fun p hp => ⟨(h.room p hp).1, fun hl => p.st _ _ _ gr (.inr (h.room p hp).1) ((h.room p hp).2 (Listed.was hl).1)⟩⟩
theorem Dr.below {W8 : World} (h : Dr w W g A bs cap m K n X R L W9) (hL : L k = false) (hk : k < n) (hb : Below W9.heap.size W9 W8) : Dr w W g A bs cap m K n X R (Listed.but L k) W8 :=
  ⟨(h.env.below hb).mono (by rw [cntB_but hL n hk, Nat.mul_add]; omega), Nat.le_trans h.size hb.size, fun k hk' hX' => (hb.block k (Nat.lt_of_lt_of_le hk' h.size)).trans (h.keep k hk' hX'), fun p hp => ⟨(h.room p hp).1, fun hl => p.st _ _ none (grownAny hb none) (by cases p.blk <;> simp) ((h.room p hp).2 (Listed.was hl).1)⟩⟩
theorem Dr.wrote {W8 : World} {row : Option Nat} (h : Dr w W g A bs cap m K n X R L W9) (hL : L k = false) (hk : k < n) (gr : W9.grownBy W8 row) (hw : ∀ b, row = some b → w.heap.size ≤ b ∧ g < b ∧ (b ∈ X ∨ W.heap.size ≤ b)) (hr : ∀ p ∈ R, p.blk = row → p.op = k ∨ row = none) : Dr w W g A bs cap m K n X R (Listed.but L k) W8 := by
  have hE : Env w W8 g A bs cap (m + K * cntB L n) := by
    cases row with
    | none => exact ⟨h.env.cur.kept gr (by simp), h.env.rd.keep fun p hp => grown_cell gr p (by have := h.env.lt; omega) (by simp), grown_trans h.env.gr ⟨gr.os, gr.tape, gr.output, gr.size, fun j hj _ => gr.block j hj (by simp)⟩⟩
    | some b => exact h.env.wrote gr (hw b rfl).1 (hw b rfl).2.1
  refine ⟨hE.mono (by rw [cntB_but hL n hk, Nat.mul_add]; omega), Nat.le_trans h.size gr.size, fun k hk' hX' => (gr.block k (Nat.lt_of_lt_of_le hk' h.size) (by intro e; rcases (hw k e.symm).2.2 with h1 | h1; exact hX' h1; omega)).trans (h.keep k hk' hX'), fun p hp => ⟨(h.room p hp).1, fun hl => ?_⟩⟩
  obtain ⟨h1, h2⟩ := Listed.was hl
  refine p.st _ _ row gr ?_ ((h.room p hp).2 h1)
  by_cases e : p.blk = row
  · rcases hr p hp e with h3 | h3
    · exact absurd h3 h2
    · exact .inl (e.trans h3)
  · exact .inr e
theorem Dr.lies {b : Nat} {t : TypeId} {cs : List Value} (h : Dr w W g A bs cap m K n X R L W9) (hL : Lies W b t cs) (hX : b ∉ X) : Lies W9 b t cs := (h.keep b hL.lt hX).trans hL
theorem Dr.le (h : Dr w W g A bs cap m K n X R L W9) : Env w W9 g A bs cap (m + K * n) := h.env.mono (by have := Nat.mul_le_mul_left K (cntB_le L n); omega)
theorem Dr.cnt (_h : Dr w W g A bs cap m K n X R L W9) : m + K * cntB L n ≤ m + K * n := by have := Nat.mul_le_mul_left K (cntB_le L n); omega
theorem Dr.owns {B : Nat} {e : TypeId} {sz n' : Nat} {v : Value} {xs : List Value} (h : Dr w W g A bs cap m K n X R L W9) (ho : W.ownsRow B e sz v n' xs) (hX : ∀ b, v.ownBlock = some b → b ∉ X) : W9.ownsRow B e sz v n' xs := by
  obtain ⟨h1, h2 | ⟨b, c, cur, hv, hB, hh, hr⟩⟩ := ho
  · exact ⟨h1, .inl h2⟩
  · refine ⟨h1, .inr ⟨b, c, cur, hv, hB, ?_, hr⟩⟩
    have hb : b < W.heap.size := by
      rcases Nat.lt_or_ge b W.heap.size with h3 | h3
      · exact h3
      · rw [Array.getElem?_eq_none h3] at hh; cases hh
    rw [h.keep b hb (hX b (by rw [hv]; rfl))]
    exact hh
/-- A row that reads, away from the blocks of X. -/
theorem Dr.reads {k' n' : Nat} {A' : Option Addr} {cs : List Value} (h : Dr w W g A bs cap m K n X R L W9) (hr : SlcR W W.heap.size k' A' n' cs) (hX : 0 < n' → ∀ b, A'.map (·.block) = some b → b ∉ X) : SlcR W9 W9.heap.size k' A' n' cs :=
  ⟨hr.len, hr.big, fun hn => by
    obtain ⟨b, off, e, hb, hc⟩ := hr.at_ hn
    refine ⟨b, off, e, Nat.lt_of_lt_of_le hb h.size, fun j u hu => ?_⟩
    rw [World.cell?_of_block (a := ⟨b, off + j, none⟩) (h.keep b hb (hX hn b (by rw [e]; rfl)))]
    exact hc j u hu⟩
end
/-- What lay below W's end lies as it lay, but for the cursor's block. -/
theorem drawn_gr {w W W2 wx : World} {g : Nat} {A : Option Addr} {bs : List UInt8} {cap m m' K n : Nat} {X : List Nat} {R : List Room} {L : Nat → Bool} (G : W.grownBy W2 (some g)) (h : Dr w W2 g A bs cap m K n X R L wx) (hX : ∀ k ∈ X, k ≠ g → W.heap.size ≤ k) (E0 : Env w W2 g A bs cap m') : W.grownBy wx (some g) :=
  ⟨h.env.gr.os.trans (E0.gr.os.symm.trans G.os), h.env.gr.tape.trans (E0.gr.tape.symm.trans G.tape), h.env.gr.output.trans (E0.gr.output.symm.trans G.output), Nat.le_trans G.size h.size,
   fun k hk hne => (h.keep k (Nat.lt_of_lt_of_le hk G.size) (fun hm => by have := hX k hm (by intro e; subst e; exact hne rfl); omega)).trans (G.block k hk hne)⟩
theorem grown_own {W W' W'' : World} {g b : Nat} (G : W.grownBy W' (some g)) (hg : W'.grownBy W'' (some b)) (hb : W.heap.size ≤ b) : W.grownBy W'' (some g) :=
  ⟨hg.os.trans G.os, hg.tape.trans G.tape, hg.output.trans G.output, Nat.le_trans G.size hg.size, fun k hk hne => (hg.block k (Nat.lt_of_lt_of_le hk G.size) (by intro e; injection e; omega)).trans (G.block k hk hne)⟩
/-- A row that came in stands apart from the cursor and from what was made since. -/
theorem rowsX {W : World} {k n g : Nat} {A : Option Addr} {cs : List Value} {X : List Nat} (hr : SlcR W W.heap.size k A n cs) (hne : ∀ b, A.map (·.block) = some b → b ≠ g) (hX : ∀ k ∈ X, k ≠ g → W.heap.size ≤ k) : 0 < n → ∀ b, A.map (·.block) = some b → b ∉ X := fun hn b hb hm => by
  obtain ⟨b', off, e, hb', _⟩ := hr.at_ hn
  rw [e] at hb
  injection hb with hb
  simp only at hb
  subst hb
  have := hX _ hm (hne _ (by rw [e]; rfl))
  omega
theorem SlcR.gr {W W' : World} {k n g : Nat} {A : Option Addr} {cs : List Value} (hr : SlcR W W.heap.size k A n cs) (hne : ∀ b, A.map (·.block) = some b → b ≠ g) (hg : W.grownBy W' (some g)) : SlcR W' W'.heap.size k A n cs :=
  ⟨hr.len, hr.big, fun hn => by
    obtain ⟨b, off, e, hb, hc⟩ := hr.at_ hn
    refine ⟨b, off, e, Nat.lt_of_lt_of_le hb hg.size, fun j u hu => ?_⟩
    rw [World.cell?_of_block (a := ⟨b, off + j, none⟩) (hg.block b hb (by intro e'; injection e' with e'; exact hne b (by rw [e]; rfl) e'))]
    exact hc j u hu⟩
theorem len2 {l : List Value} (h : l.length = 2) : ∃ a b, l = [a, b] := by match l, h with | [a, b], _ => exact ⟨a, b, rfl⟩
theorem len3 {l : List Value} (h : l.length = 3) : ∃ a b c, l = [a, b, c] := by match l, h with | [a, b, c], _ => exact ⟨a, b, c, rfl⟩
theorem len4 {l : List Value} (h : l.length = 4) : ∃ a b c d, l = [a, b, c, d] := by match l, h with | [a, b, c, d], _ => exact ⟨a, b, c, d, rfl⟩
theorem len5 {l : List Value} (h : l.length = 5) : ∃ a b c d e, l = [a, b, c, d, e] := by match l, h with | [a, b, c, d, e], _ => exact ⟨a, b, c, d, e, rfl⟩
/-- One of a list that lies in a block. -/
theorem among_lies {w W : World} {g : Nat} {A : Option Addr} {bs : List UInt8} {cap m : Nat} (E : Env w W g A bs cap m) (b n : Nat) (l : List Int) (hl : l.length = n) (hL : Lies W b 3 (encIs l)) (hne : b ≠ g) (h0 : 0 < n) (hn : n ≤ 100000) (hm : m ≤ 900000000) :
    Calls Try.prog 49 #[.pointer (some ⟨g, 0, none⟩), .slice (some ⟨b, 0, none⟩) n n] W fun e w' => ∃ x : Int, e = .returned (.int .i64 x) ∧ Env w w' g A bs cap (m + 2) ∧ W.grownBy w' (some g) := by
  subst hl
  have hi : IntsR W W.heap.size (some ⟨b, 0, none⟩) l := hL.reads (encIs_len l) (by omega)
  exact (among_any g A _ cap _ m bs l _ h0 hn hm E.cur E.rd hi (by intro e; injection e with e; exact hne e)).mono fun _ _ ⟨x, he, _, hc, hg⟩ => ⟨x, he, E.next hc hg, hg⟩
end Go.Proofs.Ytchkjiadnackaaa

/- The library's insertion sort at phrases. (Printed by gen_sorti.py) -/
namespace Go.Proofs.Ytchkjiadnackaaa
open Go.RowKit

theorem ownsRow_capP {w : World} {B k n : Nat} {e : TypeId} {A : Option Addr} {c m : Nat} {xs : List Value} (h : w.ownsRow B e k (.slice A m c) n xs) (hn : m = n) : m ≤ c := by
  subst hn
  obtain ⟨_, ⟨h0, h1⟩ | ⟨g, cap, cur, hv, _, _, hc, _⟩⟩ := h
  · injection h0 with _ h2 h3; omega
  · injection hv with _ _ h3; omega
theorem row_cells {w : World} {B g cap n : Nat} {l : List Ph} (h : RowPh w B (.slice (some ⟨g, 0, none⟩) n cap) l) (hn : n = l.length) {j : Nat} {x : Ph} (hx : l[j]? = some x) (p : Since w.heap.size w) :
    p.val.cell? ⟨g, j * 4, none⟩ = some (.int .i64 x.s) ∧ p.val.cell? ⟨g, j * 4 + 1, none⟩ = some (.int .i64 x.c) ∧ p.val.cell? ⟨g, j * 4 + 2, none⟩ = some (.slice x.A x.f.length x.cap) ∧ p.val.cell? ⟨g, j * 4 + 3, none⟩ = some (.int .i64 x.p) := by
  subst hn
  have hj : j < l.length := (List.getElem?_eq_some_iff.1 hx).1
  have hlt := (h.row.lt g rfl).2
  have key : ∀ o u, (x.enc)[o]? = some u → o < 4 → p.val.cell? ⟨g, j * 4 + o, none⟩ = some u := fun o u hu ho => by
    rw [p.cell hlt, h.row.cellAt (j * 4 + o) (by omega), flat_at Ph.enc 4 Ph.enc_len l j hj o ho]
    have e := (List.getElem?_eq_some_iff.1 hx).2
    rw [e]; exact hu
  exact ⟨key 0 _ rfl (by omega), key 1 _ rfl (by omega), key 2 _ rfl (by omega), key 3 _ rfl (by omega)⟩
theorem insert_done {acc : List Ph} {x : Ph} {j : Nat} (_hj : j ≤ acc.length) (h : posD x.ph (acc.map Ph.ph) acc.length = j) : (rowAt acc x [] j).map Ph.ph = insD (acc.map Ph.ph) x.ph := by
  unfold rowAt insD
  rw [List.length_map, h]
  simp [List.map_take, List.map_drop]

theorem rowAt_app (acc rest : List Ph) (x : Ph) (j : Nat) : rowAt acc x [] j ++ rest = rowAt acc x rest j := by unfold rowAt; simp
def put4 (cs : List Value) (o : Nat) (x : Ph) : List Value := (((cs.set o (.int .i64 x.s)).set (o + 1) (.int .i64 x.c)).set (o + 2) (.slice x.A x.f.length x.cap)).set (o + 3) (.int .i64 x.p)
def put4W (W : World) (g o : Nat) (x : Ph) : World := (((W.setCell ⟨g, o, none⟩ (.int .i64 x.s)).setCell ⟨g, o + 1, none⟩ (.int .i64 x.c)).setCell ⟨g, o + 2, none⟩ (.slice x.A x.f.length x.cap)).setCell ⟨g, o + 3, none⟩ (.int .i64 x.p)
theorem put4_row {W : World} {B g cap n : Nat} {xs : List Value} (h : W.ownsRow B 42 4 (.slice (some ⟨g, 0, none⟩) n cap) n xs) (o : Nat) (x : Ph) : (put4W W g o x).ownsRow B 42 4 (.slice (some ⟨g, 0, none⟩) n cap) n (put4 xs o x) ∧ W.grownBy (put4W W g o x) (some g) := by
  obtain ⟨h1, g1⟩ := h.stored o (.int .i64 x.s)
  obtain ⟨h2, g2⟩ := h1.stored (o + 1) (.int .i64 x.c)
  obtain ⟨h3, g3⟩ := h2.stored (o + 2) (.slice x.A x.f.length x.cap)
  obtain ⟨h4, g4⟩ := h3.stored (o + 3) (.int .i64 x.p)
  exact ⟨h4, grown_trans (grown_trans (grown_trans g1 g2) g3) g4⟩
theorem put4_swap (a b : List Ph) (x y : Ph) : put4 (put4 ((a ++ y :: x :: b).flatMap Ph.enc) ((a.length + 1) * 4) y) (a.length * 4) x = (a ++ x :: y :: b).flatMap Ph.enc := by
  have hA : (a.flatMap Ph.enc).length = a.length * 4 := flat_len Ph.enc 4 Ph.enc_len a
  simp only [List.flatMap_append, List.flatMap_cons]
  rw [show (a.length + 1) * 4 = a.length * 4 + 4 by omega]
  generalize a.flatMap Ph.enc = A at hA ⊢
  generalize b.flatMap Ph.enc = R
  rw [← hA]
  unfold put4 Ph.enc
  simp only [Nat.add_assoc, List.cons_append, List.nil_append]
  have hs : ∀ (i : Nat) (u : Value) (r : List Value), (A ++ r).set (A.length + i) u = A ++ r.set i u := fun i u r => by rw [List.set_append, if_neg (by omega), Nat.add_sub_cancel_left]
  have hs0 : ∀ (u : Value) (r : List Value), (A ++ r).set A.length u = A ++ r.set 0 u := fun u r => by have := hs 0 u r; rwa [Nat.add_zero] at this
  simp only [hs, hs0, Nat.reduceAdd, List.set_cons_succ, List.set_cons_zero]
theorem row_frozen {w : World} {B g cap n : Nat} {e : TypeId} {xs : List Value} (h : w.ownsRow B e 4 (.slice (some ⟨g, 0, none⟩) n cap) n xs) (i : Nat) : w.frozen? ⟨g, i, none⟩ = false := by
  obtain ⟨_, h0 | ⟨g', c', cur, hv, _, hh, _⟩⟩ := h
  · cases h0.1
  · injection hv with e1 e2 e3
    injection e1 with e1; injection e1 with e1; subst e1
    exact (Lies.of hh).frozen i
/-- The cells of place o of a row. -/
theorem row_some {w : World} {B g cap n : Nat} {e : TypeId} {xs : List Value} (h : w.ownsRow B e 4 (.slice (some ⟨g, 0, none⟩) n cap) n xs) (j : Nat) (hj : j < n * 4) : ∃ u, w.cell? ⟨g, j, none⟩ = some u := by
  rw [h.cellAt j hj, List.getElem?_eq_getElem (by rw [h.1]; exact hj)]
  exact ⟨_, rfl⟩

set_option maxRecDepth 100000 in
set_option maxHeartbeats 4000000 in
set_option linter.unusedVariables false in
theorem insertion_any (l : List Ph) (g cap B : Nat) (w : World) (hB : B ≤ w.heap.size) (hl0 : 1 ≤ l.length) (hl : l.length ≤ 1000) (h : RowPh w B (.slice (some ⟨g, 0, none⟩) l.length cap) l) :
    Calls Try.prog 70 #[.slice (some ⟨g, 0, none⟩) l.length cap, .int .i64 0, .int .i64 l.length, .func (.func 35) #[] #[]] w fun e w' => ∃ (v : Value) (m : List Ph), e = .returned v ∧ m.map Ph.ph = sortD (l.map Ph.ph) ∧ RowPh w' B (.slice (some ⟨g, 0, none⟩) l.length cap) m ∧ Below B w w' := by
  have eg := Try.call35
  have hBg : B ≤ g := (h.row.lt g rfl).1
  have HH := Lib.hid h
  have HT1 : Hid ((l.take 1).map Ph.ph = sortD ((l.map Ph.ph).take 1)) := by
    cases l with
    | nil => simp at hl0
    | cons a l => rfl
  have hcap : l.length ≤ cap := ownsRow_capP h.row rfl
  clear h
  go_enter Try.func70, Try.ntmps70
  go_wp2_with fail
  go_loopw [8, 9] (fun i _ wr => ∃ (k : Nat) (acc : List Ph), (1 ≤ k ∧ k ≤ l.length) ∧ i = .int .i64 k ∧ acc.length = k ∧ Hid (acc.map Ph.ph = sortD ((l.map Ph.ph).take k)) ∧ Hid (RowPh wr B (.slice (some ⟨g, 0, none⟩) l.length cap) (acc ++ l.drop k)) ∧ Below B w wr) (fun i _ _ => l.length - (intOf i).toNat)
  case atStart => exact ⟨1, l.take 1, ⟨Nat.le_refl _, hl0⟩, rfl, by rw [List.length_take]; omega, HT1, by rw [List.take_append_drop]; exact HH, Below.refl _ _⟩
  case round =>
    clear HH HT1
    obtain ⟨k, acc, ⟨hk1, hk2⟩, rfl, hacc, HM, HR, hbr⟩ := hrel
    by_cases hlt : k < l.length
    · obtain ⟨x, hx⟩ : ∃ x, x = l[k] := ⟨_, rfl⟩
      have HR0 : Hid (RowPh wr B (.slice (some ⟨g, 0, none⟩) l.length cap) (rowAt acc x (l.drop (k + 1)) k)) := by
        have h1 := HR.out
        rw [List.drop_eq_getElem_cons hlt, ← hx] at h1
        unfold rowAt
        rw [List.take_of_length_le (by omega), List.drop_eq_nil_of_le (by omega)]
        exact h1
      have HST : Hid (sortD ((l.map Ph.ph).take (k + 1)) = insD (acc.map Ph.ph) x.ph) := by
        rw [Hid, sortD_step (by simpa using hlt), ← HM.out, hx]; simp
      have hbw := hbr.size
      clear HR HM hx
      go_wp2_with fail
      go_loopw [9] (fun jv wr2 => ∃ j : Nat, j ≤ k ∧ jv = .int .i64 j ∧ Hid (RowPh wr2 B (.slice (some ⟨g, 0, none⟩) l.length cap) (rowAt acc x (l.drop (k + 1)) j)) ∧ Hid (posD x.ph (acc.map Ph.ph) j = posD x.ph (acc.map Ph.ph) acc.length) ∧ Below B wr wr2) (fun jv _ => (intOf jv).toNat)
      case atStart => exact ⟨k, Nat.le_refl _, rfl, HR0, by rw [Hid, hacc], Below.refl _ _⟩
      case round =>
        clear HR0
        obtain ⟨j, hj, rfl, HR, HP, hb2⟩ := hrel
        have hlen : l.length = (rowAt acc x (l.drop (k + 1)) j).length := by rw [rowAt_len (by omega), List.length_drop]; omega
        by_cases hj0 : 0 < j
        · obtain ⟨j, rfl⟩ : ∃ q, j = q + 1 := ⟨j - 1, by omega⟩
          have hjl : j < acc.length := by omega
          have cx := fun p => row_cells HR.out hlen (rowAt_x (by omega)) p
          have cy := fun p => row_cells HR.out hlen (rowAt_y hjl) p
          have HPS := Lib.hid (pos_step (x := x) hjl)
          have HSP := Lib.hid (rowAt_split (x := x) (rest := l.drop (k + 1)) hjl)
          obtain ⟨y, hy⟩ : ∃ y, y = acc[j] := ⟨_, rfl⟩
          have HY : Hid ((rowAt acc x (l.drop (k + 1)) (j + 1))[j]? = some y) := by rw [Hid, hy]; exact rowAt_y hjl
          rw [← hy] at cy HPS HSP
          obtain ⟨x0, x1, x2, x3⟩ : (∀ p : Since wr.heap.size wr, p.val.cell? ⟨g, (j + 1) * 4, none⟩ = some (.int .i64 x.s)) ∧ (∀ p : Since wr.heap.size wr, p.val.cell? ⟨g, (j + 1) * 4 + 1, none⟩ = some (.int .i64 x.c)) ∧ (∀ p : Since wr.heap.size wr, p.val.cell? ⟨g, (j + 1) * 4 + 2, none⟩ = some (.slice x.A x.f.length x.cap)) ∧ (∀ p : Since wr.heap.size wr, p.val.cell? ⟨g, (j + 1) * 4 + 3, none⟩ = some (.int .i64 x.p)) := ⟨fun p => (cx p).1, fun p => (cx p).2.1, fun p => (cx p).2.2.1, fun p => (cx p).2.2.2⟩
          obtain ⟨y0, y1, y2, y3⟩ : (∀ p : Since wr.heap.size wr, p.val.cell? ⟨g, j * 4, none⟩ = some (.int .i64 y.s)) ∧ (∀ p : Since wr.heap.size wr, p.val.cell? ⟨g, j * 4 + 1, none⟩ = some (.int .i64 y.c)) ∧ (∀ p : Since wr.heap.size wr, p.val.cell? ⟨g, j * 4 + 2, none⟩ = some (.slice y.A y.f.length y.cap)) ∧ (∀ p : Since wr.heap.size wr, p.val.cell? ⟨g, j * 4 + 3, none⟩ = some (.int .i64 y.p)) := ⟨fun p => (cy p).1, fun p => (cy p).2.1, fun p => (cy p).2.2.1, fun p => (cy p).2.2.2⟩
          have HC := Lib.hid (fun p : Since wr.heap.size wr => sortFn_any x y p.val)
          have hbf := sortC_before x y
          obtain ⟨bf, hbf2⟩ : ∃ b, beforeD x.ph y.ph = b := ⟨_, rfl⟩
          rw [hbf2] at hbf HPS
          clear cx cy hy hbf2 hlen
          obtain ⟨sc, hsc⟩ : ∃ z, sortC x y = z := ⟨_, rfl⟩
          rw [hsc] at hbf
          simp only [hsc] at HC
          clear hsc
          cases bf
          · have hb' : ¬ sc < 0 := of_decide_eq_false hbf
            clear hbf
            go_wp2_with fail
            refine wp_region_since0 (by kernel_rfl) (by kernel_rfl) ?_
            repeat (any_goals (first | go_big_quiet_step ((refine calls_since (Nat.le_refl _) (HC.out _))) | (refine wpQuiet_step (fun K hK => ?_); go_simp; split <;> (refine hK _ ?_; clear hK K))))
            all_goals (refine wpQuiet_nil ?_; rintro _ ⟨q1, rfl⟩)
            have HPJ : posD x.ph (acc.map Ph.ph) acc.length = j + 1 := by
              have h1 := HPS.out
              rw [if_neg (by decide)] at h1
              rw [← HP.out, h1]
            have HM2 : Hid ((rowAt acc x [] (j + 1)).map Ph.ph = sortD ((l.map Ph.ph).take (k + 1))) := by rw [Hid, HST.out, insert_done (by omega) HPJ]
            have HR2 : Hid (RowPh q1.val B (.slice (some ⟨g, 0, none⟩) l.length cap) (rowAt acc x [] (j + 1) ++ l.drop (k + 1))) := by rw [Hid, rowAt_app]; exact HR.out.below q1.below
            have hb9 := (hbr.trans hb2).trans (q1.below.mono (by have := hb2.size; omega))
            have hln : (rowAt acc x [] (j + 1)).length = k + 1 := by rw [rowAt_len (by omega)]; simp; omega
            clear HPJ HPS HP HSP HR HST HC x0 x1 x2 x3 y0 y1 y2 y3
            go_wp2_with fail
            exact ⟨⟨k + 1, rowAt acc x [] (j + 1), ⟨by omega, by omega⟩, by go_num, hln, HM2, HR2, hb9⟩, by simp [intOf]; omega⟩
          · have hb' : sc < 0 := of_decide_eq_true hbf
            clear hbf
            go_wp2_with fail
            refine wp_region_since0 (by kernel_rfl) (by kernel_rfl) ?_
            repeat (any_goals (first | go_big_quiet_step ((refine calls_since (Nat.le_refl _) (HC.out _))) | (refine wpQuiet_step (fun K hK => ?_); go_simp; split <;> (refine hK _ ?_; clear hK K))))
            all_goals (refine wpQuiet_nil ?_; rintro _ ⟨q1, rfl⟩)
            go_wp2_with fail
            have HR6 := Lib.hid (HR.out.below q1.below)
            have hb6 := (hbr.trans hb2).trans (q1.below.mono (by have := hb2.size; omega))
            have hb26 := hb2.trans (q1.below.mono (by have := hb2.size; omega))
            have hPJ : posD x.ph (acc.map Ph.ph) j = posD x.ph (acc.map Ph.ph) acc.length := by
              have h1 := HPS.out
              rw [if_pos trivial] at h1
              rw [← HP.out, h1]
            have HPJ := Lib.hid hPJ
            have hlen6 : Hid (l.length = (rowAt acc x (l.drop (k + 1)) (j + 1)).length) := by rw [Hid]; rw [rowAt_len (by omega), List.length_drop]; omega
            have hw6 : w.heap.size ≤ q1.val.heap.size := hb6.size
            have hwr6 := q1.size
            have HSP2 := HSP
            clear HPS HP HSP HR HC x0 x1 x2 x3 y0 y1 y2 y3 hPJ hb' hb2
            generalize q1.val = W6 at HR6 hb6 hb26 hw6 hwr6 ⊢
            have yx : Hid (∀ W9, Below W6.heap.size W6 W9 → ∀ p : Since W9.heap.size W9, True) := fun _ _ _ => trivial
            clear yx
            have ROW : Hid (∀ W9, Below W6.heap.size W6 W9 → W9.ownsRow B 42 4 (.slice (some ⟨g, 0, none⟩) l.length cap) l.length ((rowAt acc x (l.drop (k + 1)) (j + 1)).flatMap Ph.enc)) := fun W9 h9 => by
              have h1 := (HR6.out.below h9).row
              rw [← hlen6.out] at h1
              exact h1
            have YC : Hid (∀ W9, Below W6.heap.size W6 W9 → W9.cell? ⟨g, j * 4, none⟩ = some (.int .i64 y.s) ∧ W9.cell? ⟨g, j * 4 + 1, none⟩ = some (.int .i64 y.c) ∧ W9.cell? ⟨g, j * 4 + 2, none⟩ = some (.slice y.A y.f.length y.cap) ∧ W9.cell? ⟨g, j * 4 + 3, none⟩ = some (.int .i64 y.p)) := fun W9 h9 =>
              row_cells (HR6.out.below h9) hlen6.out HY.out (Since.start _ _)
            have XC : Hid (∀ W9, Below W6.heap.size W6 W9 → W9.cell? ⟨g, (j + 1) * 4, none⟩ = some (.int .i64 x.s) ∧ W9.cell? ⟨g, (j + 1) * 4 + 1, none⟩ = some (.int .i64 x.c) ∧ W9.cell? ⟨g, (j + 1) * 4 + 2, none⟩ = some (.slice x.A x.f.length x.cap) ∧ W9.cell? ⟨g, (j + 1) * 4 + 3, none⟩ = some (.int .i64 x.p)) := fun W9 h9 =>
              row_cells (HR6.out.below h9) hlen6.out (rowAt_x (by omega)) (Since.start _ _)
            have hjn : j + 1 < l.length := by omega
            have hj2 : j < l.length := by omega
            refine wp_region_factsR (Sw 15 (fun W9 => Below W6.heap.size W6 W9) (fun W9 => W6.grownBy W9 (some g))) (fun i w1 w2 => i ∉ [15, 17] → Below w1.heap.size w1 w2) (by kernel_rfl) (by kernel_rfl) (by kernel_rfl) (Sw.start (Below.refl _ _).drew) ?_
            simp only [fillOps, Act.put, List.setIfInBounds_toArray, List.set_cons_zero, List.set_cons_succ, Nat.zero_add, Nat.reduceAdd]
            apply wpFactsR_val
            case h1 =>
              intro vs L9 w9 hG9 hC9 hB K9 hK9
              replace hC9 := hC9.before hG9 (by kernel_rfl)
              simp only [Act.put, List.setIfInBounds_toArray, List.set_cons_zero, List.set_cons_succ] at hK9
              go_simp
              exact hK9 _ _ rfl (Sw.stay hG9 (by kernel_rfl) (by decide) hC9) (fun _ => Below.refl _ _)
            apply wpFactsR_val
            case h1 =>
              intro vs L9 w9 hG9 hC9 hB K9 hK9
              replace hC9 := hC9.before hG9 (by kernel_rfl)
              simp only [Act.put, List.setIfInBounds_toArray, List.set_cons_zero, List.set_cons_succ] at hK9
              go_simp
              exact hK9 _ _ rfl (Sw.stay hG9 (by kernel_rfl) (by decide) hC9) (fun _ => Below.refl _ _)
            apply wpFactsR_val
            case h1 =>
              intro vs L9 w9 hG9 hC9 hB K9 hK9
              simp only [Act.put, List.setIfInBounds_toArray, List.set_cons_zero, List.set_cons_succ] at hK9
              have HC9 := Lib.hid hC9
              clear hC9
              go_simp
              exact hK9 _ _ rfl (Sw.both (by decide) (fun h => h) (fun h => h) HC9.out) (fun _ => Below.refl _ _)
            apply wpFactsR_val
            case h1 =>
              intro vs L9 w9 hG9 hC9 hB K9 hK9
              simp only [Act.put, List.setIfInBounds_toArray, List.set_cons_zero, List.set_cons_succ] at hK9
              have HC9 := Lib.hid hC9
              clear hC9
              go_simp
              exact hK9 _ _ rfl (Sw.both (by decide) (fun h => h) (fun h => h) HC9.out) (fun _ => Below.refl _ _)
            refine wpFactsR_val (.int .i64 (j : Int)) (fun vs L9 w9 hG9 hC9 hB K9 hK9 => ?_) ?_
            next =>
              have d3 := FactN.eq (hB 3 _ (by kernel_rfl) (by kernel_rfl) rfl (by decide))
              simp only [d3] at hK9 ⊢
              have hwj : IntKind.i64.wrap (j : Int) = (j : Int) := IntWalk.i64_in _ (by omega)
              have HC9 := Lib.hid hC9
              clear hC9
              go_simp
              exact hK9 _ _ rfl (Sw.both (by decide) (fun h => h) (fun h => h) HC9.out) (fun _ => Below.refl _ _)
            apply wpFactsR_val
            case h1 =>
              intro vs L9 w9 hG9 hC9 hB K9 hK9
              replace hC9 := hC9.before hG9 (by kernel_rfl)
              simp only [Act.put, List.setIfInBounds_toArray, List.set_cons_zero, List.set_cons_succ] at hK9
              go_simp
              exact hK9 _ _ rfl (Sw.stay hG9 (by kernel_rfl) (by decide) hC9) (fun _ => Below.refl _ _)
            apply wpFactsR_val
            case h1 =>
              intro vs L9 w9 hG9 hC9 hB K9 hK9
              replace hC9 := hC9.before hG9 (by kernel_rfl)
              simp only [Act.put, List.setIfInBounds_toArray, List.set_cons_zero, List.set_cons_succ] at hK9
              go_simp
              exact hK9 _ _ rfl (Sw.stay hG9 (by kernel_rfl) (by decide) hC9) (fun _ => Below.refl _ _)
            refine wpFactsR_val (.int .i64 (j : Int)) (fun vs L9 w9 hG9 hC9 hB K9 hK9 => ?_) ?_
            next =>
              replace hC9 := hC9.before hG9 (by kernel_rfl)
              have d6 := FactN.eq (hB 6 _ (by kernel_rfl) (by kernel_rfl) rfl (by decide))
              simp only [d6] at hK9 ⊢
              have hwj : IntKind.i64.wrap (j : Int) = (j : Int) := IntWalk.i64_in _ (by omega)
              go_simp
              exact hK9 _ _ rfl (Sw.stay hG9 (by kernel_rfl) (by decide) hC9) (fun _ => Below.refl _ _)
            refine wpFactsR_val (.pointer (some ⟨g, j * 4, none⟩)) (fun vs L9 w9 hG9 hC9 hB K9 hK9 => ?_) ?_
            next =>
              replace hC9 := hC9.before hG9 (by kernel_rfl)
              have d5 := FactN.eq (hB 5 _ (by kernel_rfl) (by kernel_rfl) rfl (by decide))
              have d7 := FactN.eq (hB 7 _ (by kernel_rfl) (by kernel_rfl) rfl (by decide))
              simp only [d5, d7] at hK9 ⊢
              go_simp
              exact hK9 _ _ rfl (Sw.stay hG9 (by kernel_rfl) (by decide) hC9) (fun _ => Below.refl _ _)
            refine wpFactsR_val (.agg #[.int .i64 y.s, .int .i64 y.c, .slice y.A y.f.length y.cap, .int .i64 y.p]) (fun vs L9 w9 hG9 hC9 hB K9 hK9 => ?_) ?_
            next =>
              replace hC9 := hC9.before hG9 (by kernel_rfl)
              have d8 := FactN.eq (hB 8 _ (by kernel_rfl) (by kernel_rfl) rfl (by decide))
              simp only [d8] at hK9 ⊢
              obtain ⟨q0, q1, q2, q3⟩ := YC.out w9 hC9
              go_simp
              exact hK9 _ _ rfl (Sw.stay hG9 (by kernel_rfl) (by decide) hC9) (fun _ => Below.refl _ _)
            apply wpFactsR_val
            case h1 =>
              intro vs L9 w9 hG9 hC9 hB K9 hK9
              replace hC9 := hC9.before hG9 (by kernel_rfl)
              simp only [Act.put, List.setIfInBounds_toArray, List.set_cons_zero, List.set_cons_succ] at hK9
              go_simp
              exact hK9 _ _ rfl (Sw.stay hG9 (by kernel_rfl) (by decide) hC9) (fun _ => Below.refl _ _)
            apply wpFactsR_val
            case h1 =>
              intro vs L9 w9 hG9 hC9 hB K9 hK9
              replace hC9 := hC9.before hG9 (by kernel_rfl)
              simp only [Act.put, List.setIfInBounds_toArray, List.set_cons_zero, List.set_cons_succ] at hK9
              go_simp
              exact hK9 _ _ rfl (Sw.stay hG9 (by kernel_rfl) (by decide) hC9) (fun _ => Below.refl _ _)
            refine wpFactsR_val (.pointer (some ⟨g, (j + 1) * 4, none⟩)) (fun vs L9 w9 hG9 hC9 hB K9 hK9 => ?_) ?_
            next =>
              replace hC9 := hC9.before hG9 (by kernel_rfl)
              have d10 := FactN.eq (hB 10 _ (by kernel_rfl) (by kernel_rfl) rfl (by decide))
              have d11 := FactN.eq (hB 11 _ (by kernel_rfl) (by kernel_rfl) rfl (by decide))
              simp only [d10, d11] at hK9 ⊢
              have hq1 : (0 : Int) ≤ (j : Int) + 1 := by omega
              have hq2 : (j : Int) + 1 < (l.length : Int) := by omega
              go_simp
              exact hK9 _ _ rfl (Sw.stay hG9 (by kernel_rfl) (by decide) hC9) (fun _ => Below.refl _ _)
            refine wpFactsR_val (.agg #[.int .i64 x.s, .int .i64 x.c, .slice x.A x.f.length x.cap, .int .i64 x.p]) (fun vs L9 w9 hG9 hC9 hB K9 hK9 => ?_) ?_
            next =>
              replace hC9 := hC9.before hG9 (by kernel_rfl)
              have d12 := FactN.eq (hB 12 _ (by kernel_rfl) (by kernel_rfl) rfl (by decide))
              simp only [d12] at hK9 ⊢
              obtain ⟨q0, q1, q2, q3⟩ := XC.out w9 hC9
              go_simp
              exact hK9 _ _ rfl (Sw.stay hG9 (by kernel_rfl) (by decide) hC9) (fun _ => Below.refl _ _)
            refine wpFactsR_val (.pointer (some ⟨g, (j + 1) * 4, none⟩)) (fun vs L9 w9 hG9 hC9 hB K9 hK9 => ?_) ?_
            next =>
              replace hC9 := hC9.before hG9 (by kernel_rfl)
              have d0 := FactN.eq (hB 0 _ (by kernel_rfl) (by kernel_rfl) rfl (by decide))
              have d1 := FactN.eq (hB 1 _ (by kernel_rfl) (by kernel_rfl) rfl (by decide))
              simp only [d0, d1] at hK9 ⊢
              have hq1 : (0 : Int) ≤ (j : Int) + 1 := by omega
              have hq2 : (j : Int) + 1 < (l.length : Int) := by omega
              go_simp
              exact hK9 _ _ rfl (Sw.stay hG9 (by kernel_rfl) (by decide) hC9) (fun _ => Below.refl _ _)
            refine wpFactsR_some [17] (fun _ w9 => w9.ownsRow B 42 4 (.slice (some ⟨g, 0, none⟩) l.length cap) l.length (put4 ((rowAt acc x (l.drop (k + 1)) (j + 1)).flatMap Ph.enc) ((j + 1) * 4) y)) ?_ (fun vs L9 w9 hG9 hC9 hB K9 hK9 => ?_) ?_
            next =>
              intro i9 hi9 hb9 ha9 v w1 w2 hv hT9
              have hb := hT9 (fun hm => by
                simp only [List.mem_cons, List.not_mem_nil, or_false] at hm hb9
                rcases hm with rfl | rfl
                · exact hi9 rfl
                · exact hb9 (by simp))
              exact ownsRow_below hv hb
            next =>
              replace hC9 := hC9.here hG9
              have d9 := FactN.eq (hB 9 _ (by kernel_rfl) (by kernel_rfl) rfl (by decide))
              have d14 := FactN.eq (hB 14 _ (by kernel_rfl) (by kernel_rfl) rfl (by decide))
              simp only [d9, d14] at hK9 ⊢
              simp only [Act.put] at hK9
              have ho := ROW.out w9 hC9
              obtain ⟨q0, q1, q2, q3⟩ : (∃ u, w9.cell? ⟨g, (j + 1) * 4, none⟩ = some u) ∧ (∃ u, w9.cell? ⟨g, (j + 1) * 4 + 1, none⟩ = some u) ∧ (∃ u, w9.cell? ⟨g, (j + 1) * 4 + 2, none⟩ = some u) ∧ (∃ u, w9.cell? ⟨g, (j + 1) * 4 + 3, none⟩ = some u) := ⟨row_some ho _ (by omega), row_some ho _ (by omega), row_some ho _ (by omega), row_some ho _ (by omega)⟩
              obtain ⟨u0, q0⟩ := q0
              obtain ⟨u1, q1⟩ := q1
              obtain ⟨u2, q2⟩ := q2
              obtain ⟨u3, q3⟩ := q3
              have f0 := row_frozen ho ((j + 1) * 4)
              have f1 := row_frozen ho ((j + 1) * 4 + 1)
              have f2 := row_frozen ho ((j + 1) * 4 + 2)
              have f3 := row_frozen ho ((j + 1) * 4 + 3)
              have hst := put4_row ho ((j + 1) * 4) y
              have HST9 := Lib.hid hst
              clear hst ho
              unfold put4W at HST9
              go_simp
              exact hK9 _ undef _ rfl HST9.out.1 (Sw.turn (grown_trans (grownAny hC9 (some g)) HST9.out.2)) (fun hq => (hq (by decide)).elim)
            refine wpFactsR_val (.pointer (some ⟨g, j * 4, none⟩)) (fun vs L9 w9 hG9 hC9 hB K9 hK9 => ?_) ?_
            next =>
              replace hC9 := hC9.after hG9 (by kernel_rfl)
              have d2 := FactN.eq (hB 2 _ (by kernel_rfl) (by kernel_rfl) rfl (by decide))
              have d4 := FactN.eq (hB 4 _ (by kernel_rfl) (by kernel_rfl) rfl (by decide))
              simp only [d2, d4] at hK9 ⊢
              go_simp
              exact hK9 _ _ rfl (Sw.on hG9 (by kernel_rfl) hC9) (fun _ => Below.refl _ _)
            refine wpFactsR_some [] (fun _ w9 => w9.ownsRow B 42 4 (.slice (some ⟨g, 0, none⟩) l.length cap) l.length (put4 (put4 ((rowAt acc x (l.drop (k + 1)) (j + 1)).flatMap Ph.enc) ((j + 1) * 4) y) (j * 4) x)) ?_ (fun vs L9 w9 hG9 hC9 hB K9 hK9 => ?_) ?_
            next =>
              intro i9 hi9 hb9 ha9 v w1 w2 hv hT9
              have hb := hT9 (fun hm => by
                simp only [List.mem_cons, List.not_mem_nil, or_false] at hm hb9
                rcases hm with rfl | rfl
                · exact absurd (ha9.symm.trans (show ahead .any _ _ _ _ = true by kernel_rfl)) (by decide)
                · exact hi9 rfl)
              exact ownsRow_below hv hb
            next =>
              replace hC9 := hC9.after hG9 (by kernel_rfl)
              have d13 := FactN.eq (hB 13 _ (by kernel_rfl) (by kernel_rfl) rfl (by decide))
              have d16 := FactN.eq (hB 16 _ (by kernel_rfl) (by kernel_rfl) rfl (by decide))
              simp only [d13, d16] at hK9 ⊢
              simp only [Act.put] at hK9
              have ho := (show w9.ownsRow B 42 4 (.slice (some ⟨g, 0, none⟩) l.length cap) l.length (put4 ((rowAt acc x (l.drop (k + 1)) (j + 1)).flatMap Ph.enc) ((j + 1) * 4) y) from hB 15 _ (by kernel_rfl) (by kernel_rfl) rfl (by decide))
              obtain ⟨q0, q1, q2, q3⟩ : (∃ u, w9.cell? ⟨g, j * 4, none⟩ = some u) ∧ (∃ u, w9.cell? ⟨g, j * 4 + 1, none⟩ = some u) ∧ (∃ u, w9.cell? ⟨g, j * 4 + 2, none⟩ = some u) ∧ (∃ u, w9.cell? ⟨g, j * 4 + 3, none⟩ = some u) := ⟨row_some ho _ (by omega), row_some ho _ (by omega), row_some ho _ (by omega), row_some ho _ (by omega)⟩
              obtain ⟨u0, q0⟩ := q0
              obtain ⟨u1, q1⟩ := q1
              obtain ⟨u2, q2⟩ := q2
              obtain ⟨u3, q3⟩ := q3
              have f0 := row_frozen ho (j * 4)
              have f1 := row_frozen ho (j * 4 + 1)
              have f2 := row_frozen ho (j * 4 + 2)
              have f3 := row_frozen ho (j * 4 + 3)
              have hst := put4_row ho (j * 4) x
              have HST9 := Lib.hid hst
              clear hst ho
              unfold put4W at HST9
              go_simp
              exact hK9 _ undef _ rfl HST9.out.1 (Sw.on hG9 (by kernel_rfl) (grown_trans hC9 HST9.out.2)) (fun hq => (hq (by decide)).elim)
            refine wpFactsR_nil fun vs Lq W7 hL9 hC7 hB => ?_
            have hR7 := hB 17 _ rfl rfl (by decide)
            replace hC7 := hC7.done hL9 (by decide)
            clear hB hL9
            have HR8 : Hid (RowPh W7 B (.slice (some ⟨g, 0, none⟩) l.length cap) (rowAt acc x (l.drop (k + 1)) j)) := by
              have h1 := hR7
              rw [HSP2.out.1] at h1
              have hjt : (acc.take j).length = j := by rw [List.length_take]; omega
              have e := put4_swap (acc.take j) (acc.drop (j + 1) ++ l.drop (k + 1)) x y
              rw [hjt] at e
              rw [e] at h1
              have h2 := HR6.out
              have h3 := hlen6.out
              rw [HSP2.out.1] at h2 h3
              have h4 : l.length = (acc.take j ++ x :: y :: (acc.drop (j + 1) ++ l.drop (k + 1))).length := by rw [h3]; simp
              rw [Hid, HSP2.out.2]
              refine h2.swapped ?_ hC7
              rw [← h4]
              exact h1
            have hb9 := hb26.grown hC7 (by omega) (by rintro _ ⟨⟩; exact hBg)
            clear hR7 hC7 HR6 hlen6 HSP2 ROW YC XC HY HST hb26 hb6
            go_wp2_with fail
            exact ⟨⟨j, by omega, rfl, HR8, HPJ, hb9⟩, by simp [intOf]⟩
        · obtain rfl : j = 0 := by omega
          have HPJ : posD x.ph (acc.map Ph.ph) acc.length = 0 := by rw [← HP.out]; rfl
          have HM2 : Hid ((rowAt acc x [] 0).map Ph.ph = sortD ((l.map Ph.ph).take (k + 1))) := by rw [Hid, HST.out, insert_done (by omega) HPJ]
          have hln : (rowAt acc x [] 0).length = k + 1 := by rw [rowAt_len (by omega)]; simp; omega
          have HR1 := Lib.hid HR.out
          clear HPJ HP HST hlen
          go_wp2_with fail
          refine wp_region_since0 (by kernel_rfl) (by kernel_rfl) ?_
          repeat (any_goals (first | go_big_quiet_step ((fail)) | (refine wpQuiet_step (fun K hK => ?_); go_simp; split <;> (refine hK _ ?_; clear hK K))))
          all_goals (refine wpQuiet_nil ?_; rintro _ ⟨q1, rfl⟩)
          have HR2 : Hid (RowPh q1.val B (.slice (some ⟨g, 0, none⟩) l.length cap) (rowAt acc x [] 0 ++ l.drop (k + 1))) := by rw [Hid, rowAt_app]; exact HR.out.below q1.below
          have hb9 := (hbr.trans hb2).trans (q1.below.mono (by have := hb2.size; omega))
          go_wp2_with fail
          exact ⟨⟨k + 1, rowAt acc x [] 0, ⟨by omega, by omega⟩, by go_num, hln, HM2, HR2, hb9⟩, by simp [intOf]; omega⟩
    · obtain rfl : k = l.length := by omega
      have h1 := HM.out
      have h2 := HR.out
      rw [List.take_of_length_le (by simp)] at h1
      rw [List.drop_eq_nil_of_le (Nat.le_refl _), List.append_nil] at h2
      have HM9 := Lib.hid h1
      have HR9 := Lib.hid h2
      clear h1 h2 HM HR
      go_wp2_with fail
      go_end0
      exact ⟨_, acc, rfl, HM9.out, HR9.out, hbr⟩
end Go.Proofs.Ytchkjiadnackaaa

/- The library's stable sort at phrases, short rows. -/
namespace Go.Proofs.Ytchkjiadnackaaa
open Go.RowKit

theorem insertion_none (v : Value) (w : World) : Calls Try.prog 70 #[v, .int .i64 0, .int .i64 0, .func (.func 35) #[] #[]] w fun e w' => ∃ u : Value, e = .returned u ∧ w' = w := by
  go_enter Try.func70, Try.ntmps70
  go_wp2_with fail
  go_loopw [8, 9] (fun i _ wr => i = .int .i64 1 ∧ wr = w) (fun _ _ _ => 0)
  case atStart => exact ⟨rfl, rfl⟩
  case round =>
    obtain ⟨rfl, hw⟩ := hrel
    subst hw
    go_wp2_with fail
    go_end0
    exact ⟨_, rfl, rfl⟩
/-- What a sort of a row gives. -/
def Sorts (w : World) (B : Nat) (v : Value) (l : List Ph) (e : Ending) (w' : World) : Prop := ∃ (u : Value) (m : List Ph), e = .returned u ∧ m.map Ph.ph = sortD (l.map Ph.ph) ∧ RowPh w' B v m ∧ Below B w w'
theorem insert_all (v : Value) (l : List Ph) (B : Nat) (w : World) (hB : B ≤ w.heap.size) (hl : l.length ≤ 1000) (h : RowPh w B v l) :
    Calls Try.prog 70 #[v, .int .i64 0, .int .i64 l.length, .func (.func 35) #[] #[]] w (Sorts w B v l) := by
  by_cases h0 : l = []
  · subst h0
    refine (insertion_none v w).mono ?_
    rintro e w' ⟨u, rfl, rfl⟩
    exact ⟨u, [], rfl, rfl, h, Below.refl _ _⟩
  · have hp : 0 < l.length := List.length_pos_iff.2 h0
    obtain ⟨g, cap, rfl⟩ : ∃ g cap, v = .slice (some ⟨g, 0, none⟩) l.length cap := by
      obtain ⟨_, h1 | ⟨g, cap, cur, hv, _⟩⟩ := h.row
      · have := h1.2; omega
      · exact ⟨g, cap, hv⟩
    refine (insertion_any l g cap B w hB hp hl h).mono ?_
    rintro e w' ⟨u, m, rfl, h1, h2, h3⟩
    exact ⟨u, m, rfl, h1, h2, h3⟩
theorem stable_any (v : Value) (l : List Ph) (B : Nat) (w : World) (hB : B ≤ w.heap.size) (hl : l.length ≤ 19) (h : RowPh w B v l) :
    Calls Try.prog 59 #[v, .int .i64 l.length, .func (.func 35) #[] #[]] w (Sorts w B v l) := by
  have HC := Lib.hid (insert_all v l B w hB (by omega) h)
  have HS : Hid (∀ e w', Sorts w B v l e w' → Sorts w B v l (.returned (.tuple #[])) w') := fun e w' h => by obtain ⟨u, m, _, h2⟩ := h; exact ⟨_, m, rfl, h2⟩
  have HE : Hid (∀ e w', Sorts w B v l e w' → ∃ u, e = .returned u) := fun e w' h => by obtain ⟨u, m, e, _⟩ := h; exact ⟨u, e⟩
  generalize Sorts w B v l = S at HC HS HE ⊢
  obtain ⟨n, hn⟩ : ∃ n : Nat, l.length = n := ⟨_, rfl⟩
  rw [hn] at HC hl ⊢
  have h1 : ¬ (20 : Int) ≤ (n : Int) := by omega
  have h2 : ¬ (20 : Int) < (n : Int) := by omega
  clear hn h
  go_enter Try.func59, Try.ntmps59
  go_wp2_with fail
  go_loopw [7, 8] (fun a b wr => a = .int .i64 0 ∧ b = .int .i64 20 ∧ wr = w) (fun _ _ _ => 0)
  case atStart => exact ⟨rfl, rfl, rfl⟩
  case round =>
    obtain ⟨rfl, rfl, hw⟩ := hrel
    subst hw
    go_wp2_with fail
    refine HC.out.mono ?_
    intro e w2 he
    obtain ⟨u, rfl⟩ := HE.out e w2 he
    have HR := Lib.hid (HS.out _ _ he)
    clear HC HS HE he
    go_wp2_with fail
    go_loopw [6] (fun a wr => a = .int .i64 20 ∧ wr = w2) (fun _ _ => 0)
    case atStart => exact ⟨rfl, rfl⟩
    case round =>
      obtain ⟨rfl, hw⟩ := hrel
      subst hw
      go_wp2_with fail
      go_end0
      exact HR.out
theorem sortStable_any (v : Value) (l : List Ph) (B : Nat) (w : World) (hB : B ≤ w.heap.size) (hl : l.length ≤ 19) (h : RowPh w B v l) :
    Calls Try.prog 34 #[v, .func (.func 35) #[] #[]] w (Sorts w B v l) := by
  have HC := Lib.hid (stable_any v l B w hB hl h)
  obtain ⟨A, c, rfl⟩ := ownsRow_slice h.row
  have HS : Hid (∀ e w', Sorts w B (.slice A l.length c) l e w' → Sorts w B (.slice A l.length c) l (.returned (.tuple #[])) w') := fun e w' h => by obtain ⟨u, m, _, h2⟩ := h; exact ⟨_, m, rfl, h2⟩
  have HE : Hid (∀ e w', Sorts w B (.slice A l.length c) l e w' → ∃ u, e = .returned u) := fun e w' h => by obtain ⟨u, m, e, _⟩ := h; exact ⟨u, e⟩
  generalize Sorts w B (.slice A l.length c) l = S at HC HS HE ⊢
  go_enter Try.func34, Try.ntmps34
  go_wp2_with fail
  refine HC.out.mono ?_
  intro e w2 he
  obtain ⟨u, rfl⟩ := HE.out e w2 he
  have HR := Lib.hid (HS.out _ _ he)
  go_wp2_with fail
  go_end0
  exact HR.out
end Go.Proofs.Ytchkjiadnackaaa

/- MergeAlike in the program. -/
namespace Go.Proofs.Ytchkjiadnackaaa
open Go.RowKit

/-- slices.IndexFunc over phrases, whatever the function value. -/
theorem idxPhs_any (f : Ph → Bool) (g : Nat) (lb : Array Value) (eg : ∀ args w, (callFunc g args).run Try.prog w = .ok (.enter g args) w) (A : Option Addr) (c : Nat) (l : List Ph) (w : World)
    (hf : ∀ (t : Ph) (p : Since w.heap.size w), IntsR p.val p.val.heap.size t.A t.f → Calls Try.prog g (#[t.val] ++ lb) p.val fun e w' => e = .returned (.bool (f t)) ∧ Below p.val.heap.size p.val w') (h : PhsR w w.heap.size A l) :
    Calls Try.prog 42 #[.slice A l.length c, .func (.func g) #[] lb] w fun e w' => e = .returned (.int .i64 (idxFrom f 0 l)) ∧ Below w.heap.size w w' := by
  have hl := h.slc.big
  have hrd := h.ph
  have hrf : Hid (∀ i (hi : i < l.length), IntsR w w.heap.size l[i].A l[i].f) := fun i hi => h.f hi
  have HF : Hid (idxFrom f 0 (l.drop 0) = idxFrom f 0 l) := rfl
  have HC := Lib.hid hf; clear hf
  go_enter Try.func42, Try.ntmps42
  go_wp2
  go_loopw [8] (fun i wr => ∃ (k : Nat), k ≤ l.length ∧ i = .int .i64 k ∧ (∃ q : Since w.heap.size w, wr = q.val) ∧ Hid (idxFrom f k (l.drop k) = idxFrom f 0 l)) (fun i _ => l.length - (intOf i).toNat)
  case atStart => exact ⟨0, Nat.zero_le _, rfl, ⟨Since.start _ _, rfl⟩, HF⟩
  case round =>
    obtain ⟨k, hk, rfl, ⟨q, rfl⟩, HR⟩ := hrel
    by_cases hlt : k < l.length
    · obtain ⟨b, off, rfl, hb, hcell⟩ := hrd (by omega)
      obtain ⟨c0, c1, c2, c3⟩ := hcell k hlt
      have hx : Hid (∀ p : Since w.heap.size w, IntsR p.val p.val.heap.size l[k].A l[k].f) := fun p => SlcR.up (hrf.out k hlt) p.below (Nat.le_refl _)
      have hy := fun hv => idx_yes (f := f) hlt hv
      have hn := fun hv => idx_no (f := f) hlt hv
      obtain ⟨x, hxe⟩ : ∃ x, x = l[k] := ⟨_, rfl⟩
      rw [← hxe] at c0 c1 c2 c3 hx hy hn
      clear hxe hcell hrd
      cases hv : f x
      · have HE : Hid (idxFrom f (k + 1) (l.drop (k + 1)) = idxFrom f 0 l) := by rw [← hn hv]; exact HR.out
        have hcx := fun p hp => HC.out x p hp
        rw [hv] at hcx
        clear hy hn hv
        go_wp2_with fail
        refine (calls_since (Nat.le_refl _) (hcx _ (hx.out _))).mono ?_
        rintro e w1 ⟨rfl, q1, rfl⟩
        go_wp2
        go_roundw
        case rel => exact ⟨k + 1, by omega, by go_num, ⟨q1, rfl⟩, HE⟩
        case measure => simp [intOf]; omega
      · have HE : Hid ((k : Int) = idxFrom f 0 l) := by rw [← hy hv]; exact HR.out
        have hcx := fun p hp => HC.out x p hp
        rw [hv] at hcx
        clear hy hn hv
        go_wp2_with fail
        refine (calls_since (Nat.le_refl _) (hcx _ (hx.out _))).mono ?_
        rintro e w1 ⟨rfl, q1, rfl⟩
        go_wp2
        go_ret
        exact ⟨by rw [← HE.out]; rfl, q1.below⟩
    · have HE : Hid (-1 = idxFrom f 0 l) := by
        have h1 := HR.out; rw [List.drop_eq_nil_of_le (by omega)] at h1; exact h1
      clear hrd
      go_wp2
      go_ret
      exact ⟨by rw [← HE.out]; rfl, q.below⟩

/-- The closure of MergeAlike. -/
theorem mergeFn_any (x p : Ph) (gp : Nat) (w : World) (hL : Lies w gp 42 p.enc) (hx : IntsR w w.heap.size x.A x.f) (hp : IntsR w w.heap.size p.A p.f) :
    Calls Try.prog 43 #[x.val, .pointer (some ⟨gp, 0, none⟩)] w fun e w' => e = .returned (.bool (Ph.alike p x)) ∧ Below w.heap.size w w' := by
  have b1 := (Below.refl w.heap.size w).alloc (Nat.le_refl _) (.cells #[.int .i64 x.s, .int .i64 x.c, .slice x.A x.f.length x.cap, .int .i64 x.p] 42)
  have hL1 := hL.alloc (.cells #[.int .i64 x.s, .int .i64 x.c, .slice x.A x.f.length x.cap, .int .i64 x.p] 42)
  have c0 := hL1.cell 0
  have c1 := hL1.cell 1
  have c2 := hL1.cell 2
  have c3 := hL1.cell 3
  simp only [Ph.enc, List.getElem?_cons_zero, List.getElem?_cons_succ] at c0 c1 c2 c3
  have hx1 := SlcR.up hx b1 (Nat.le_refl _)
  have hp1 := SlcR.up hp b1 (Nat.le_refl _)
  have hlt := hL.lt
  clear hL hL1
  go_enter Try.func43, Try.ntmps43
  go_wp2_with fail
  refine (alike_any p x _ hp1 hx1).mono ?_
  rintro e w1 ⟨rfl, hb1⟩
  go_wp2
  go_ret
  exact ⟨rfl, bthen b1 hb1⟩

/-- A row of phrases of the call's own, and whether there is one. -/
def GivesRow (w : World) (R : List PhD × Bool) (e : Ending) (w' : World) : Prop := ∃ A c m, e = .returned (.tuple #[.slice A m.length c, .bool R.2]) ∧ m.map Ph.ph = R.1 ∧ RowPh w' w.heap.size (.slice A m.length c) m ∧ Below w.heap.size w w'

theorem idx_ph (x : Ph) (m : List Ph) : idxFrom (fun t => Ph.alike x t) 0 m = idxFrom (alikeD x.ph) 0 (m.map Ph.ph) := by
  have : ∀ (m : List Ph) (k : Nat), idxFrom (fun t => Ph.alike x t) k m = idxFrom (alikeD x.ph) k (m.map Ph.ph) := by
    intro m
    induction m with
    | nil => intro k; rfl
    | cons y m ih => intro k; rw [List.map_cons, idxFrom, idxFrom, ih, Ph.alike_ph]
  exact this m 0
theorem mergeD_step {l : List PhD} {k : Nat} (h : k < l.length) : mergeD (l.take (k + 1)) = putD (mergeD (l.take k)) l[k] := by
  unfold mergeD; rw [List.take_succ_eq_append_getElem h, List.foldl_append]; rfl
theorem merge_apart (l : List PhD) : Apart (mergeD l) := by
  have : ∀ (l acc : List PhD), Apart acc → Apart (l.foldl putD acc) := by
    intro l
    induction l with
    | nil => intro acc h; exact h
    | cons x l ih => intro acc h; exact ih _ (h.put x)
  exact this l [] List.Pairwise.nil

set_option maxRecDepth 100000 in
set_option maxHeartbeats 4000000 in
theorem implMerge_any (A : Option Addr) (c : Nat) (l : List Ph) (w : World) (h : PhsR w w.heap.size A l) :
    Calls Try.prog 14 #[.slice A l.length c] w (GivesRow w (mergeA (l.map Ph.ph))) := by
  have hl := h.slc.big
  cases hg : goodPhs l
  · have HM : Hid (mergeA (l.map Ph.ph) = ([], false)) := by unfold mergeA Hid; rw [← good_goodD, hg]; rfl
    have HG := Lib.hid hg; clear hg
    go_enter Try.func14, Try.ntmps14
    go_wp2_with fail
    refine (arePhrases_any A c l _ h).mono ?_
    rw [HG.out]
    rintro e w1 ⟨rfl, hb1⟩
    go_wp2
    go_ret2
    rw [HM.out]
    exact ⟨none, 0, [], rfl, rfl, RowPh.nil _ _, hb1⟩
  · have hlen := good_len hg
    have HM : Hid (mergeA (l.map Ph.ph) = if goodD (mergeD (l.map Ph.ph)) = true then (mergeD (l.map Ph.ph), true) else ([], false)) := by unfold mergeA Hid; rw [← good_goodD, hg]; rfl
    have HB : Hid (∀ i (hi : i < l.length), (0 ≤ l[i].c ∧ l[i].c ≤ 99) ∧ l[i].f.length ≤ 9) := fun i hi => by
      obtain ⟨_, ⟨c1, c2⟩, hr, _⟩ := Ph.bounds (good_at hg hi)
      exact ⟨⟨by omega, c2⟩, faults9 hr⟩
    have HG := Lib.hid hg; clear hg
    have hrd := fun (W : World) (hW : PhsR W W.heap.size A l) => hW.ph
    go_enter Try.func14, Try.ntmps14
    go_wp2_with fail
    refine (arePhrases_any A c l _ h).mono ?_
    rw [HG.out]
    rintro e w1 ⟨rfl, hb1⟩
    have H1 := Lib.hid (h.then hb1)
    go_wp2
    have hw1 := hb1.size
    go_loopw [4, 6, 7, 13] (fun o _ _ i wr => ∃ (k : Nat) (A' : Option Addr) (c' : Nat) (m : List Ph), k ≤ l.length ∧ i = .int .i64 k ∧ o = .slice A' m.length c' ∧ m.length ≤ 10 ∧ (∃ q : Since w1.heap.size w1, wr = q.val) ∧ Hid (RowPh wr w1.heap.size (.slice A' m.length c') m) ∧ Hid (m.map Ph.ph = mergeD ((l.map Ph.ph).take k)) ∧ Hid (Slim k (m.map Ph.ph))) (fun _ _ _ i _ => l.length - (intOf i).toNat)
    case atStart => exact ⟨0, none, 0, [], Nat.zero_le _, rfl, rfl, by simp, ⟨Since.start _ _, rfl⟩, RowPh.nil _ _, rfl, ⟨by simp, by simp⟩⟩
    case round =>
      obtain ⟨k, A', c', m, hk, rfl, rfl, hm10, ⟨q, rfl⟩, HRow, HMap, HSl⟩ := hrel
      by_cases hlt : k < l.length
      · have hmf : ∀ (fn : Fn) (first cap : Array Value) (w : World), (Instr.makeFunc fn first cap).run Try.prog w = .ok (.func fn first cap) w := fun _ _ _ _ => rfl
        have hR0 := H1.out.then q.below
        obtain ⟨b, off, rfl, hb, hcell⟩ := hrd _ hR0 (by omega)
        obtain ⟨c0, c1, c2, c3⟩ := hcell k hlt
        have hxf : IntsR q.val q.val.heap.size l[k].A l[k].f := hR0.f hlt
        obtain ⟨⟨bc1, bc2⟩, bf⟩ := HB.out k hlt
        have HST : Hid (mergeD ((l.map Ph.ph).take (k + 1)) = putD (mergeD ((l.map Ph.ph).take k)) l[k].ph) := by
          rw [Hid, mergeD_step (by simpa using hlt)]; simp
        obtain ⟨x, hxe⟩ : ∃ x, x = l[k] := ⟨_, rfl⟩
        rw [← hxe] at c0 c1 c2 c3 hxf bc1 bc2 bf HST
        clear hxe hcell hrd hR0
        have k0 := c0 (Since.start _ _)
        have k1 := c1 (Since.start _ _)
        have k2 := c2 (Since.start _ _)
        have k3 := c3 (Since.start _ _)
        change q.val.cell? _ = _ at k0
        change q.val.cell? _ = _ at k1
        change q.val.cell? _ = _ at k2
        change q.val.cell? _ = _ at k3
        clear c0 c1 c2 c3
        have b2 := (Below.refl q.val.heap.size q.val).alloc (Nat.le_refl _) (.cells #[.int .i64 x.s, .int .i64 x.c, .slice x.A x.f.length x.cap, .int .i64 x.p] 42)
        have L2 := Lies.new q.val 42 #[.int .i64 x.s, .int .i64 x.c, .slice x.A x.f.length x.cap, .int .i64 x.p]
        have hxf2 := SlcR.up hxf b2 (Nat.le_refl _)
        have HR2 := Lib.hid (HRow.out.below b2)
        have IDX := idxPhs_any (fun t => Ph.alike x t) 43 #[.pointer (some ⟨q.val.heap.size, 0, none⟩)] Try.call43 A' c' m _ (fun t p ht => mergeFn_any t x q.val.heap.size p.val (L2.below p.below L2.lt) ht (SlcR.up hxf2 p.below (Nat.le_refl _))) (HRow.out.below b2).reads
        rw [idx_ph, HMap.out] at IDX
        have hqs := q.size
        rcases idx_spec (f := alikeD x.ph) (mergeD ((l.map Ph.ph).take k)) 0 with ⟨h1, _⟩ | ⟨i, hi, h1, _⟩
        · rw [h1] at IDX
          have HP : Hid (putD (mergeD ((l.map Ph.ph).take k)) x.ph = mergeD ((l.map Ph.ph).take k) ++ [x.ph]) := putD_new (by omega)
          clear h1
          have HIDX := Lib.hid IDX; clear IDX
          go_wp2_with fail
          generalize q.val.alloc (.cells #[.int .i64 x.s, .int .i64 x.c, .slice x.A x.f.length x.cap, .int .i64 x.p] 42) = W2 at b2 L2 hxf2 HR2 HIDX ⊢
          refine HIDX.out.mono ?_
          rintro e w3 ⟨rfl, hb3⟩
          have L3 := L2.below hb3 L2.lt
          have hxf3 := SlcR.up hxf2 hb3 (Nat.le_refl _)
          have j0 := L3.cell 0
          have j1 := L3.cell 1
          have j2 := L3.cell 2
          have j3 := L3.cell 3
          simp only [List.getElem?_cons_zero, List.getElem?_cons_succ] at j0 j1 j2 j3
          clear k0 k1 k2 k3
          go_wp2_with fail
          refine (copyPhrase_any x _ hxf3 (by omega)).mono ?_
          rintro e w4 ⟨A4, c4, rfl, hO4, hb4⟩
          have hb14 := bthen (bthen b2 hb3) hb4
          have HO4 := Lib.hid (hO4.lower (bthen b2 hb3).size); clear hO4
          have HROW := Lib.hid (ownsRow_below HRow.out.row hb14)
          have hsz4 : w1.heap.size ≤ w4.heap.size := Nat.le_trans hqs hb14.size
          clear j0 j1 j2 j3
          go_wp2_with (at_builtin; refine wpList_push (w0 := w4) rfl _ _ 24 rfl 42 _ 4 48 Try.underlying24 infoPh rfl (by omega) (by omega) w1.heap.size _ _ _ rfl HROW #[.int .i64 x.s, .int .i64 x.c, .slice A4 x.f.length c4, .int .i64 x.p] 1 _ rfl (by first | rfl | exact Array.size_push _) rfl (by simp [Value.oneCell']) (by omega) hsz4 rfl rfl rfl rfl ?_; intro v' w5 HO5 hg5 hb5)
          have HNEW := Lib.hid (RowPh.push (x := { x with A := A4, cap := c4 }) HRow.out hb14 HO4.out hqs HO5.out hg5)
          obtain ⟨A5, c5, hv5⟩ := ownsRow_slice HO5.out
          subst hv5
          go_roundw
          case rel =>
            have hml : m.length ≤ k := by have := HSl.out.1; simpa using this
            refine ⟨k + 1, A5, c5, m ++ [{ x with A := A4, cap := c4 }], by omega, by go_num, by simp, by simp; omega, ⟨(q.go (Nat.le_refl _) hb14).go' hb5, rfl⟩, by rw [Hid]; simpa using HNEW.out, ?_, ?_⟩
            · rw [Hid, HST.out, HP.out, ← HMap.out]; simp [Ph.ph]
            · have h2 := HSl.out.put (p := x.ph) ⟨bc1, bc2⟩ bf
              rw [HMap.out, HP.out, ← HMap.out] at h2
              rw [Hid]; simpa [Ph.ph] using h2
          case measure => simp [intOf]; omega
        · rw [h1, Nat.zero_add] at IDX
          have HP : Hid (putD (mergeD ((l.map Ph.ph).take k)) x.ph = addAt x.c i (mergeD ((l.map Ph.ph).take k))) := putD_old (by simpa using h1)
          clear h1
          have hi' : i < m.length := by have h2 := congrArg List.length HMap.out; simp at h2; omega
          have HIDX := Lib.hid IDX; clear IDX
          go_wp2_with fail
          generalize q.val.alloc (.cells #[.int .i64 x.s, .int .i64 x.c, .slice x.A x.f.length x.cap, .int .i64 x.p] 42) = W2 at b2 L2 hxf2 HR2 HIDX ⊢
          refine HIDX.out.mono ?_
          rintro e w3 ⟨rfl, hb3⟩
          have L3 := L2.below hb3 L2.lt
          have j1 := L3.cell 1
          simp only [List.getElem?_cons_zero, List.getElem?_cons_succ] at j1
          have HR3 := Lib.hid (HR2.out.below hb3)
          obtain ⟨g5, rfl⟩ : ∃ g, A' = some ⟨g, 0, none⟩ := by
            obtain ⟨_, h0 | ⟨g, cap, cur, hv, _⟩⟩ := HR3.out.row
            · have := h0.2; omega
            · injection hv with e1 e2 e3; exact ⟨g, e1⟩
          have hmb : Hid (0 ≤ m[i].c ∧ m[i].c ≤ 99 * (k : Int)) := by
            have h2 := HSl.out.2 m[i].ph (List.mem_map.2 ⟨m[i], List.getElem_mem hi', rfl⟩)
            exact ⟨h2.1, h2.2.1⟩
          have d1 : w3.cell? ⟨g5, i * 4 + 1, none⟩ = some (.int .i64 m[i].c) := by
            rw [HR3.out.row.cellAt _ (by omega), flat_at Ph.enc 4 Ph.enc_len m i hi' 1 (by omega)]; rfl
          have f1 : w3.frozen? ⟨g5, i * 4 + 1, none⟩ = false := HR3.out.row.frozenAt _
          have HBUMP : Hid (∀ c : Int, RowPh (w3.setCell ⟨g5, i * 4 + 1, none⟩ (.int .i64 c)) w1.heap.size (.slice (some ⟨g5, 0, none⟩) m.length c') (setC i c m)) := fun c => HR3.out.bump hi'
          have HPHC : Hid (∀ c : Int, (setC i c m).map Ph.ph = (m.map Ph.ph).take i ++ (m[i].s, c, m[i].f, m[i].p) :: (m.map Ph.ph).drop (i + 1)) := fun c => setC_ph hi'
          have HADD : Hid (addAt x.c i (m.map Ph.ph) = (m.map Ph.ph).take i ++ (m[i].s, m[i].c + x.c, m[i].f, m[i].p) :: (m.map Ph.ph).drop (i + 1)) := by
            rw [Hid, addAt_split i _ (by simpa using hi')]; simp [Ph.ph]
          have hg5 : w1.heap.size ≤ g5 := (HR3.out.row.lt g5 rfl).1
          obtain ⟨mc, hmc⟩ : ∃ mc, mc = m[i].c := ⟨_, rfl⟩
          rw [← hmc] at hmb d1 HADD
          clear hmc k0 k1 k2 k3
          have hmb1 := hmb.out.1
          have hmb2 := hmb.out.2
          have hb13 := bthen b2 hb3
          have hk10 : (k : Int) ≤ 10 := by omega
          have hi1 : (0 : Int) ≤ (i : Int) := by omega
          have hi2 : (i : Int) < (m.length : Int) := by omega
          go_wp2_with fail
          go_still_tail 10, (by kernel_rfl)
          go_wp2
          go_roundw
          case rel =>
            refine ⟨k + 1, some ⟨g5, 0, none⟩, c', setC i (mc + x.c) m, by omega, by go_num, by rw [setC_len], by rw [setC_len]; omega, ⟨(q.go (Nat.le_refl _) hb13).go' (((Below.refl _ _).setCell (p := ⟨g5, i * 4 + 1, none⟩) (by simpa using hg5) _).drew), rfl⟩, ?_, ?_, ?_⟩
            · rw [Hid, setC_len]; exact (HBUMP.out (mc + x.c)).below (Below.refl _ _).drew
            · rw [Hid, HPHC.out, HST.out, HP.out, ← HMap.out, HADD.out]
            · have h2 := HSl.out.put (p := x.ph) ⟨bc1, bc2⟩ bf
              rw [HMap.out, HP.out, ← HMap.out, HADD.out] at h2
              rw [Hid, HPHC.out]; exact h2
          case measure => simp [intOf]; omega
      · have HK : Hid (m.map Ph.ph = mergeD (l.map Ph.ph)) := by
          have h1 := HMap.out; rw [List.take_of_length_le (by simp; omega)] at h1; exact h1
        have hgm : Hid (goodPhs m = goodD (mergeD (l.map Ph.ph))) := by rw [Hid, good_goodD, HK.out]
        clear hrd
        cases hgd : goodD (mergeD (l.map Ph.ph))
        · rw [hgd] at hgm HM
          go_wp2_with fail
          refine (arePhrases_any A' c' m _ (HRow.out.reads)).mono ?_
          rw [hgm.out]
          rintro e w2 ⟨rfl, hb2⟩
          go_wp2
          go_ret2
          rw [HM.out]
          exact ⟨none, 0, [], rfl, rfl, RowPh.nil _ _, bthen hb1 (q.go (Nat.le_refl _) hb2).below⟩
        · rw [hgd] at hgm HM
          go_wp2_with fail
          refine (arePhrases_any A' c' m _ (HRow.out.reads)).mono ?_
          rw [hgm.out]
          rintro e w2 ⟨rfl, hb2⟩
          go_wp2
          go_ret2
          rw [HM.out]
          exact ⟨A', c', m, rfl, HK.out, (HRow.out.below hb2).lower hw1, bthen hb1 (q.go (Nat.le_refl _) hb2).below⟩
end Go.Proofs.Ytchkjiadnackaaa

/- SortPhrases in the program. -/
namespace Go.Proofs.Ytchkjiadnackaaa
open Go.RowKit

theorem sortD_map_take {l m : List Ph} {k : Nat} {x : Ph} {A : Option Addr} {c : Nat} (hlt : k < l.length) (hx : x = l[k]) (h : m.map Ph.ph = (l.map Ph.ph).take k) : (m ++ [{ x with A := A, cap := c }]).map Ph.ph = (l.map Ph.ph).take (k + 1) := by
  subst hx
  rw [List.take_succ_eq_append_getElem (by simpa using hlt), List.map_append, h]
  simp [Ph.ph]

set_option maxRecDepth 100000 in
set_option maxHeartbeats 4000000 in
theorem implSort_any (A : Option Addr) (c : Nat) (l : List Ph) (w : World) (h : PhsR w w.heap.size A l) :
    Calls Try.prog 8 #[.slice A l.length c] w (GivesRow w (sortA (l.map Ph.ph))) := by
  have hl := h.slc.big
  cases hg : goodPhs l
  · have HM : Hid (sortA (l.map Ph.ph) = ([], false)) := by unfold sortA Hid; rw [← good_goodD, hg]; rfl
    have HG := Lib.hid hg; clear hg
    go_enter Try.func8, Try.ntmps8
    go_wp2_with fail
    refine (arePhrases_any A c l _ h).mono ?_
    rw [HG.out]
    rintro e w1 ⟨rfl, hb1⟩
    go_wp2
    go_ret2
    rw [HM.out]
    exact ⟨none, 0, [], rfl, rfl, RowPh.nil _ _, hb1⟩
  · have hlen := good_len hg
    have HM : Hid (sortA (l.map Ph.ph) = (sortD (l.map Ph.ph), true)) := by unfold sortA Hid; rw [← good_goodD, hg]; rfl
    have HB : Hid (∀ i (hi : i < l.length), l[i].f.length ≤ 9) := fun i hi => by
      obtain ⟨_, ⟨c1, c2⟩, hr, _⟩ := Ph.bounds (good_at hg hi)
      exact faults9 hr
    have HG := Lib.hid hg; clear hg
    have hrd := fun (W : World) (hW : PhsR W W.heap.size A l) => hW.ph
    go_enter Try.func8, Try.ntmps8
    go_wp2_with fail
    refine (arePhrases_any A c l _ h).mono ?_
    rw [HG.out]
    rintro e w1 ⟨rfl, hb1⟩
    have H1 := Lib.hid (h.then hb1)
    go_wp2
    have hw1 := hb1.size
    go_loopw [4, 6, 12] (fun o _ i wr => ∃ (k : Nat) (A' : Option Addr) (c' : Nat) (m : List Ph), k ≤ l.length ∧ i = .int .i64 k ∧ o = .slice A' m.length c' ∧ m.length = k ∧ (∃ q : Since w1.heap.size w1, wr = q.val) ∧ Hid (RowPh wr w1.heap.size (.slice A' m.length c') m) ∧ Hid (m.map Ph.ph = (l.map Ph.ph).take k)) (fun _ _ i _ => l.length - (intOf i).toNat)
    case atStart => exact ⟨0, none, 0, [], Nat.zero_le _, rfl, rfl, rfl, ⟨Since.start _ _, rfl⟩, RowPh.nil _ _, rfl⟩
    case round =>
      obtain ⟨k, A', c', m, hk, rfl, rfl, hmk, ⟨q, rfl⟩, HRow, HMap⟩ := hrel
      by_cases hlt : k < l.length
      · have hR0 := H1.out.then q.below
        obtain ⟨b, off, rfl, hb, hcell⟩ := hrd _ hR0 (by omega)
        obtain ⟨c0, c1, c2, c3⟩ := hcell k hlt
        have hxf : IntsR q.val q.val.heap.size l[k].A l[k].f := hR0.f hlt
        have bf := HB.out k hlt
        have HTK : Hid (∀ (A4 : Option Addr) (c4 : Nat), (m ++ [{ l[k] with A := A4, cap := c4 }]).map Ph.ph = (l.map Ph.ph).take (k + 1)) := fun A4 c4 => sortD_map_take hlt rfl HMap.out
        obtain ⟨x, hxe⟩ : ∃ x, x = l[k] := ⟨_, rfl⟩
        rw [← hxe] at c0 c1 c2 c3 hxf bf HTK
        clear hxe hcell hrd hR0
        have k0 := c0 (Since.start _ _)
        have k1 := c1 (Since.start _ _)
        have k2 := c2 (Since.start _ _)
        have k3 := c3 (Since.start _ _)
        change q.val.cell? _ = _ at k0
        change q.val.cell? _ = _ at k1
        change q.val.cell? _ = _ at k2
        change q.val.cell? _ = _ at k3
        clear c0 c1 c2 c3
        have b2 := (Below.refl q.val.heap.size q.val).alloc (Nat.le_refl _) (.cells #[.int .i64 x.s, .int .i64 x.c, .slice x.A x.f.length x.cap, .int .i64 x.p] 42)
        have L2 := Lies.new q.val 42 #[.int .i64 x.s, .int .i64 x.c, .slice x.A x.f.length x.cap, .int .i64 x.p]
        have hxf2 := SlcR.up hxf b2 (Nat.le_refl _)
        have hqs := q.size
        have hm10 : m.length ≤ 10 := by omega
        have Hmk := Lib.hid hmk; clear hmk
        go_wp2_with fail
        refine (copyPhrase_any x _ hxf2 (by omega)).mono ?_
        rintro e w4 ⟨A4, c4, rfl, hO4, hb4⟩
        have hb14 := bthen b2 hb4
        have HO4 := Lib.hid (hO4.lower b2.size); clear hO4
        have HROW := Lib.hid (ownsRow_below HRow.out.row hb14)
        have hsz4 : w1.heap.size ≤ w4.heap.size := Nat.le_trans hqs hb14.size
        clear k0 k1 k2 k3 L2 hxf2
        go_wp2_with (at_builtin; refine wpList_push (w0 := w4) rfl _ _ 24 rfl 42 _ 4 48 Try.underlying24 infoPh rfl (by omega) (by omega) w1.heap.size _ _ _ rfl HROW #[.int .i64 x.s, .int .i64 x.c, .slice A4 x.f.length c4, .int .i64 x.p] 1 _ rfl (by first | rfl | exact Array.size_push _) rfl (by simp [Value.oneCell']) (by omega) hsz4 rfl rfl rfl rfl ?_; intro v' w5 HO5 hg5 hb5)
        have HNEW := Lib.hid (RowPh.push (x := { x with A := A4, cap := c4 }) HRow.out hb14 HO4.out hqs HO5.out hg5)
        obtain ⟨A5, c5, hv5⟩ := ownsRow_slice HO5.out
        subst hv5
        have hmk := Hmk.out
        go_roundw
        case rel =>
          exact ⟨k + 1, A5, c5, m ++ [{ x with A := A4, cap := c4 }], by omega, by go_num, by simp, by simp; omega, ⟨(q.go (Nat.le_refl _) hb14).go' hb5, rfl⟩, by rw [Hid]; simpa using HNEW.out, by rw [Hid]; exact HTK.out A4 c4⟩
        case measure => simp [intOf]; omega
      · have HK : Hid (m.map Ph.ph = l.map Ph.ph) := by
          have h1 := HMap.out; rw [List.take_of_length_le (by simp; omega)] at h1; exact h1
        have hm19 : m.length ≤ 19 := by omega
        clear hrd hmk
        go_wp2_with fail
        refine (sortStable_any (.slice A' m.length c') m w1.heap.size _ q.size hm19 HRow.out).mono ?_
        rintro e w2 ⟨u, m2, rfl, hm2, hr2, hb2⟩
        have HM2 : Hid (m2.map Ph.ph = sortD (l.map Ph.ph)) := by rw [Hid, hm2, HK.out]
        have hml : m2.length = m.length := by
          have := congrArg List.length HM2.out
          rw [sortD_len] at this
          have h3 := congrArg List.length HK.out
          simp at this h3
          omega
        have HR2 := Lib.hid (hr2.lower hw1)
        have hb9 := bthen hb1 (q.below.trans hb2)
        clear hm2 hr2 HRow HK HMap
        rw [← hml] at HR2
        have hml9 := Lib.hid hml
        clear hml
        go_wp2
        go_ret2
        rw [HM.out]
        exact ⟨A', c', m2, by rw [hml9.out]; rfl, HM2.out, HR2.out, hb9⟩
end Go.Proofs.Ytchkjiadnackaaa

/- The order of SortPhrases, in the reference. (Printed by gen_sortb.py) -/
namespace Go.Proofs.Ytchkjiadnackaaa
open Go.RowKit

set_option maxRecDepth 100000 in
set_option maxHeartbeats 4000000 in
theorem before_any (a b : Ph) (w : World) : Calls Try.prog 30 #[a.val, b.val] w fun e w' => e = .returned (.bool (beforeD a.ph b.ph)) ∧ Below w.heap.size w w' := by
  have LA := (Lies.new w 42 #[.int .i64 a.s, .int .i64 a.c, .slice a.A a.f.length a.cap, .int .i64 a.p]).alloc (.cells #[.int .i64 b.s, .int .i64 b.c, .slice b.A b.f.length b.cap, .int .i64 b.p] 42)
  have LB : Lies ((w.alloc (.cells #[.int .i64 a.s, .int .i64 a.c, .slice a.A a.f.length a.cap, .int .i64 a.p] 42)).alloc (.cells #[.int .i64 b.s, .int .i64 b.c, .slice b.A b.f.length b.cap, .int .i64 b.p] 42)) (w.heap.size + 1) 42 [.int .i64 b.s, .int .i64 b.c, .slice b.A b.f.length b.cap, .int .i64 b.p] := Lies.new1 w (.cells #[.int .i64 a.s, .int .i64 a.c, .slice a.A a.f.length a.cap, .int .i64 a.p] 42) 42 #[.int .i64 b.s, .int .i64 b.c, .slice b.A b.f.length b.cap, .int .i64 b.p]
  have bb : Below w.heap.size w ((w.alloc (.cells #[.int .i64 a.s, .int .i64 a.c, .slice a.A a.f.length a.cap, .int .i64 a.p] 42)).alloc (.cells #[.int .i64 b.s, .int .i64 b.c, .slice b.A b.f.length b.cap, .int .i64 b.p] 42)) := ((Below.refl w.heap.size w).alloc (Nat.le_refl _) (.cells #[.int .i64 a.s, .int .i64 a.c, .slice a.A a.f.length a.cap, .int .i64 a.p] 42)).alloc (by simp) (.cells #[.int .i64 b.s, .int .i64 b.c, .slice b.A b.f.length b.cap, .int .i64 b.p] 42)
  have a0 := LA.cell 0
  have a2 := LA.cell 2
  have a3 := LA.cell 3
  have b0 := LB.cell 0
  have b2 := LB.cell 2
  have b3 := LB.cell 3
  simp only [List.getElem?_cons_zero, List.getElem?_cons_succ] at a0 a2 a3 b0 b2 b3
  clear LA LB
  by_cases h1 : a.s = b.s
  · have v1 : (a.s != b.s) = false := by simp [h1]
    by_cases h2 : a.f.length = b.f.length
    · have v2 : ((a.f.length : Int) != (b.f.length : Int)) = false := by simp [h2]
      have HE : Hid (beforeD a.ph b.ph = decide (b.p < a.p)) := by unfold Hid beforeD Ph.ph; simp [h1, h2]
      clear h1 h2
      go_enter Try.func30, Try.ntmps30
      go_upto_region 1 with fail
      generalize ((w.alloc (.cells #[.int .i64 a.s, .int .i64 a.c, .slice a.A a.f.length a.cap, .int .i64 a.p] 42)).alloc (.cells #[.int .i64 b.s, .int .i64 b.c, .slice b.A b.f.length b.cap, .int .i64 b.p] 42)) = W at a0 a2 a3 b0 b2 b3 bb ⊢
      go_wp2_with fail
      go_ret
      exact ⟨by rw [HE.out]; rfl, bb⟩
    · have v2 : ((a.f.length : Int) != (b.f.length : Int)) = true := by simp; omega
      have HE : Hid (beforeD a.ph b.ph = decide (a.f.length < b.f.length)) := by unfold Hid beforeD Ph.ph; simp [h1, h2]
      clear h1 h2
      go_enter Try.func30, Try.ntmps30
      go_upto_region 1 with fail
      generalize ((w.alloc (.cells #[.int .i64 a.s, .int .i64 a.c, .slice a.A a.f.length a.cap, .int .i64 a.p] 42)).alloc (.cells #[.int .i64 b.s, .int .i64 b.c, .slice b.A b.f.length b.cap, .int .i64 b.p] 42)) = W at a0 a2 a3 b0 b2 b3 bb ⊢
      go_wp2_with fail
      go_ret
      exact ⟨by rw [HE.out]; rfl, bb⟩
  · have v1 : (a.s != b.s) = true := by simp [h1]
    have HE : Hid (beforeD a.ph b.ph = decide (a.s < b.s)) := by unfold Hid beforeD Ph.ph; simp [h1]
    clear h1
    go_enter Try.func30, Try.ntmps30
    go_upto_region 1 with fail
    generalize ((w.alloc (.cells #[.int .i64 a.s, .int .i64 a.c, .slice a.A a.f.length a.cap, .int .i64 a.p] 42)).alloc (.cells #[.int .i64 b.s, .int .i64 b.c, .slice b.A b.f.length b.cap, .int .i64 b.p] 42)) = W at a0 a2 a3 b0 b2 b3 bb ⊢
    go_wp2_with fail
    go_ret
    exact ⟨by rw [HE.out]; rfl, bb⟩
end Go.Proofs.Ytchkjiadnackaaa
