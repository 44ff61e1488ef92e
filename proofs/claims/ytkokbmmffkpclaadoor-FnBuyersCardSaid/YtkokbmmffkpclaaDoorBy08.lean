/- By08: the texts LotStAgain LotStZ StepOps LotWith LotSell LotSellZ StepCat, joined into one file. -/
import Derived.Deep.DeepCutAuto
import Derived.Deep.RegionLawGrows
import Derived.Test.YtkokbmmffkpclaaDoorBy01
import Derived.Test.YtkokbmmffkpclaaDoorBy04
import Derived.Test.YtkokbmmffkpclaaDoorBy05
import Derived.Test.YtkokbmmffkpclaaDoorBy07

set_option linter.unusedVariables false

/- A step of an auction in the program: again. (Printed by gen_lotstep.py) -/
namespace Go.Proofs.YtkokbmmffkpclaaDoor
open Go.RowKit

set_option maxRecDepth 100000 in
set_option maxHeartbeats 4000000 in
theorem stepB_again (A : Option Addr) (c : Nat) (l : List Lot) (i b v : Int) (w : World) (h : LotsR w w.heap.size A l) (G : GoodL l) (j : Nat) (hj : j < l.length) (hf : findIx l i = j) :
    Calls Tryd.prog 36 #[.slice A l.length c, .agg #[.int .i64 6, .int .i64 i, .int .i64 b, .int .i64 v]] w (GivesMk w (if l[j].s = 3 then some (l.set j (againL l[j])) else none)) := by
  have hp : posL l i = j := by have := (find_pos G i).1 (by omega); omega
  have hz0 : (0 : Int) ≤ (j : Int) := by omega
  have hfi : decide ((0 : Int) ≤ (j : Int)) = true := decide_eq_true hz0
  have hxi : l[j].i = i := by
    obtain ⟨h1, h2⟩ := (find_pos G i).2.2.2.2.1 (by omega)
    simp only [hp] at h2; exact h2
  have GD := good_again G hj
  obtain ⟨x, hxe⟩ : ∃ x, l[j] = x := ⟨_, rfl⟩
  rw [hxe] at GD hxi ⊢
  have GD := Lib.hid GD
  have hy := Lib.hid (show (⟨i, x.r, 0, 0, 0⟩ : Lot) = againL x by rw [← hxi]; rfl)
  clear hxi
  obtain ⟨d, hd⟩ : ∃ d, (x.s == 3) = d := ⟨_, rfl⟩
  obtain ⟨R, hR⟩ : ∃ R, (if x.s = 3 then some (l.set j (againL x)) else none) = R := ⟨_, rfl⟩
  have HR : Hid (R = if d = true then some (l.set j (againL x)) else none) := by
    rw [Hid, ← hR, ← hd]
    simp
  rw [hR]
  clear hR
  have b0 := (Below.refl w.heap.size w).alloc (Nat.le_refl _) (.cells #[.int .i64 6, .int .i64 i, .int .i64 b, .int .i64 v] 39)
  have b0s := b0.size
  have L0 := Lies.new w 39 #[.int .i64 6, .int .i64 i, .int .i64 b, .int .i64 v]
  have hW := SlcR.up h b0 (Nat.le_refl _)
  have len := G.len
  have BS := fun W hR => bsId_any A c l i W hR G
  simp only [hp, hf, hfi] at BS
  clear hp hf
  go_enter Tryd.func36, Tryd.ntmps36
  go_wp2_with fail
  generalize w.alloc (.cells #[.int .i64 6, .int .i64 i, .int .i64 b, .int .i64 v] 39) = W at b0 b0s L0 hW ⊢
  generalize hgb : w.heap.size = g at L0 ⊢
  rw [hgb] at b0 b0s
  refine (cloneLot_any A c l W hW (by omega)).mono ?_
  rintro e w1 ⟨A1, c1, rfl, hO1, hb1⟩
  have L1 := L0.below hb1 L0.lt
  have s0 := L1.cell 0
  have s1 := L1.cell 1
  have s2 := L1.cell 2
  have s3 := L1.cell 3
  simp only [List.getElem?_cons_zero, List.getElem?_cons_succ] at s0 s1 s2 s3
  have HO1 := Lib.hid hO1; clear hO1
  go_wp2_with fail
  refine (BS w1 (SlcR.up hW hb1 (Nat.le_refl _))).mono ?_
  rintro e w2 ⟨rfl, hb2⟩
  have L2 := L1.below hb2 L1.lt
  clear s0 s1 s2 s3
  have hgW := L0.lt
  have hR2 : LotsR w2 W.heap.size A l := SlcR.below hW (bthen hb1 hb2)
  have HO2 : OwnL w2 W.heap.size A1 c1 l := ownsRow_below HO1.out hb2
  have b2 : Below W.heap.size W w2 := bthen hb1 hb2
  obtain ⟨gO, rfl, hgO, hgO', hcO⟩ := OwnL.block HO2 (by omega)
  obtain ⟨bl, off, rfl, hbl, hcell⟩ := hR2.el (by omega)
  have hcx := hcell j hj
  rw [hxe] at hcx
  obtain ⟨c0, c1', c2, c3, c4⟩ := LotS.up hcx (Below.refl _ _) b2.size
  clear hcx hcell hR2 hW h BS hb1 hb2 L0 L1 HO1
  have s0 := L2.cell 0
  have s1 := L2.cell 1
  have s2 := L2.cell 2
  have s3 := L2.cell 3
  simp only [List.getElem?_cons_zero, List.getElem?_cons_succ] at s0 s1 s2 s3
  have q2 := c2 ⟨w2, Below.refl _ _⟩
  have hw2 := b2.size
  go_upto_region 27 with fail
  refine wp_region_factsR (Sw 11 (fun W9 => Below w2.heap.size w2 W9) (fun W9 => Below W.heap.size w2 W9 ∧ OwnL W9 W.heap.size (some ⟨gO, 0, none⟩) c1 (l.set j (againL x)))) (fun i w1 w2 => i ∉ [11] → Below w1.heap.size w1 w2) (by kernel_rfl) (by kernel_rfl) (by kernel_rfl) (Sw.start (Below.refl _ _).drew) ?_
  simp only [fillOps, Act.put, List.setIfInBounds_toArray, List.set_cons_zero, List.set_cons_succ, Nat.zero_add, Nat.reduceAdd]
  apply wpFactsR_val
  case h1 =>
    intro vs L9 w9 hG9 hC9 hB K9 hK9
    replace hC9 := hC9.before hG9 (by kernel_rfl)
    simp only [Act.put, List.setIfInBounds_toArray, List.set_cons_zero, List.set_cons_succ] at hK9
    go_simp
    exact hK9 _ _ rfl (Sw.stay hG9 (by kernel_rfl) (by decide) hC9) (fun _ => Below.refl _ _)
  apply wpFactsR_val
  case h1 =>
    intro vs L9 w9 hG9 hC9 hB K9 hK9
    replace hC9 := hC9.before hG9 (by kernel_rfl)
    simp only [Act.put, List.setIfInBounds_toArray, List.set_cons_zero, List.set_cons_succ] at hK9
    go_simp
    exact hK9 _ _ rfl (Sw.stay hG9 (by kernel_rfl) (by decide) hC9) (fun _ => Below.refl _ _)
  apply wpFactsR_val
  case h1 =>
    intro vs L9 w9 hG9 hC9 hB K9 hK9
    replace hC9 := hC9.before hG9 (by kernel_rfl)
    simp only [Act.put, List.setIfInBounds_toArray, List.set_cons_zero, List.set_cons_succ] at hK9
    go_simp
    exact hK9 _ _ rfl (Sw.stay hG9 (by kernel_rfl) (by decide) hC9) (fun _ => Below.refl _ _)
  apply wpFactsR_val
  case h1 =>
    intro vs L9 w9 hG9 hC9 hB K9 hK9
    replace hC9 := hC9.before hG9 (by kernel_rfl)
    have d2 := FactN.eq (hB 2 _ (by kernel_rfl) (by kernel_rfl) rfl (by decide))
    simp only [d2] at hK9 ⊢
    have q0 : w9.cell? ⟨g, 1, none⟩ = some (.int .i64 i) := (L2.below hC9 L2.lt).cell 1
    simp only [Act.put, List.setIfInBounds_toArray, List.set_cons_zero, List.set_cons_succ] at hK9
    go_simp
    exact hK9 _ _ rfl (Sw.stay hG9 (by kernel_rfl) (by decide) hC9) (fun _ => Below.refl _ _)
  apply wpFactsR_val
  case h1 =>
    intro vs L9 w9 hG9 hC9 hB K9 hK9
    replace hC9 := hC9.before hG9 (by kernel_rfl)
    simp only [Act.put, List.setIfInBounds_toArray, List.set_cons_zero, List.set_cons_succ] at hK9
    go_simp
    exact hK9 _ _ rfl (Sw.stay hG9 (by kernel_rfl) (by decide) hC9) (fun _ => Below.refl _ _)
  apply wpFactsR_val
  case h1 =>
    intro vs L9 w9 hG9 hC9 hB K9 hK9
    replace hC9 := hC9.before hG9 (by kernel_rfl)
    simp only [Act.put, List.setIfInBounds_toArray, List.set_cons_zero, List.set_cons_succ] at hK9
    go_simp
    exact hK9 _ _ rfl (Sw.stay hG9 (by kernel_rfl) (by decide) hC9) (fun _ => Below.refl _ _)
  apply wpFactsR_val
  case h1 =>
    intro vs L9 w9 hG9 hC9 hB K9 hK9
    replace hC9 := hC9.before hG9 (by kernel_rfl)
    have d4 := FactN.eq (hB 4 _ (by kernel_rfl) (by kernel_rfl) rfl (by decide))
    have d5 := FactN.eq (hB 5 _ (by kernel_rfl) (by kernel_rfl) rfl (by decide))
    simp only [d4, d5] at hK9 ⊢
    simp only [Act.put, List.setIfInBounds_toArray, List.set_cons_zero, List.set_cons_succ] at hK9
    go_simp
    exact hK9 _ _ rfl (Sw.stay hG9 (by kernel_rfl) (by decide) hC9) (fun _ => Below.refl _ _)
  apply wpFactsR_val
  case h1 =>
    intro vs L9 w9 hG9 hC9 hB K9 hK9
    replace hC9 := hC9.before hG9 (by kernel_rfl)
    have d6 := FactN.eq (hB 6 _ (by kernel_rfl) (by kernel_rfl) rfl (by decide))
    simp only [d6] at hK9 ⊢
    simp only [Act.put, List.setIfInBounds_toArray, List.set_cons_zero, List.set_cons_succ] at hK9
    go_simp
    exact hK9 _ _ rfl (Sw.stay hG9 (by kernel_rfl) (by decide) hC9) (fun _ => Below.refl _ _)
  apply wpFactsR_val
  case h1 =>
    intro vs L9 w9 hG9 hC9 hB K9 hK9
    replace hC9 := hC9.before hG9 (by kernel_rfl)
    have d7 := FactN.eq (hB 7 _ (by kernel_rfl) (by kernel_rfl) rfl (by decide))
    simp only [d7] at hK9 ⊢
    have q1 : w9.cell? ⟨bl, off + j * 5 + 1, none⟩ = some (.int .i64 x.r) := c1' ⟨w9, hC9⟩
    simp only [Act.put, List.setIfInBounds_toArray, List.set_cons_zero, List.set_cons_succ] at hK9
    go_simp
    exact hK9 _ _ rfl (Sw.stay hG9 (by kernel_rfl) (by decide) hC9) (fun _ => Below.refl _ _)
  apply wpFactsR_val
  case h1 =>
    intro vs L9 w9 hG9 hC9 hB K9 hK9
    replace hC9 := hC9.before hG9 (by kernel_rfl)
    have d3 := FactN.eq (hB 3 _ (by kernel_rfl) (by kernel_rfl) rfl (by decide))
    have d8 := FactN.eq (hB 8 _ (by kernel_rfl) (by kernel_rfl) rfl (by decide))
    simp only [d3, d8] at hK9 ⊢
    simp only [Act.put, List.setIfInBounds_toArray, List.set_cons_zero, List.set_cons_succ] at hK9
    go_simp
    exact hK9 _ _ rfl (Sw.stay hG9 (by kernel_rfl) (by decide) hC9) (fun _ => Below.refl _ _)
  apply wpFactsR_val
  case h1 =>
    intro vs L9 w9 hG9 hC9 hB K9 hK9
    replace hC9 := hC9.before hG9 (by kernel_rfl)
    have d0 := FactN.eq (hB 0 _ (by kernel_rfl) (by kernel_rfl) rfl (by decide))
    have d1 := FactN.eq (hB 1 _ (by kernel_rfl) (by kernel_rfl) rfl (by decide))
    simp only [d0, d1] at hK9 ⊢
    simp only [Act.put, List.setIfInBounds_toArray, List.set_cons_zero, List.set_cons_succ] at hK9
    go_simp
    exact hK9 _ _ rfl (Sw.stay hG9 (by kernel_rfl) (by decide) hC9) (fun _ => Below.refl _ _)
  refine wpFactsR_val (undef) (fun vs L9 w9 hG9 hC9 hB K9 hK9 => ?_) ?_
  next =>
    replace hC9 := hC9.here hG9
    have d9 := FactN.eq (hB 9 _ (by kernel_rfl) (by kernel_rfl) rfl (by decide))
    have d10 := FactN.eq (hB 10 _ (by kernel_rfl) (by kernel_rfl) rfl (by decide))
    simp only [d9, d10] at hK9 ⊢
    have H0 := ownsRow_below HO2 hC9
    obtain ⟨K0, B0, y1, y2⟩ := OwnL.set H0 hj 0 (by decide) (.int .i64 i) (⟨i, x.r, x.s, x.h, x.b⟩) (by rw [hxe]; rfl)
    clear y1 y2
    simp only [Nat.add_zero] at K0 B0
    obtain ⟨y3, y4, F0, Z0⟩ := OwnL.set H0 hj 0 (by decide) (.int .i64 0) ⟨0, x.r, x.s, x.h, x.b⟩ (by rw [hxe]; rfl)
    clear y3 y4
    obtain ⟨K1, B1, y1, y2⟩ := OwnL.set K0 (by rw [List.length_set]; exact hj) 1 (by decide) (.int .i64 x.r) (⟨i, x.r, x.s, x.h, x.b⟩) (by rw [List.getElem_set_self]; rfl)
    clear y1 y2
    rw [List.set_set] at K1
    obtain ⟨y3, y4, F1, Z1⟩ := OwnL.set H0 hj 1 (by decide) (.int .i64 0) ⟨x.i, 0, x.s, x.h, x.b⟩ (by rw [hxe]; rfl)
    clear y3 y4
    obtain ⟨K2, B2, y1, y2⟩ := OwnL.set K1 (by rw [List.length_set]; exact hj) 2 (by decide) (.int .i64 0) (⟨i, x.r, 0, x.h, x.b⟩) (by rw [List.getElem_set_self]; rfl)
    clear y1 y2
    rw [List.set_set] at K2
    obtain ⟨y3, y4, F2, Z2⟩ := OwnL.set H0 hj 2 (by decide) (.int .i64 0) ⟨x.i, x.r, 0, x.h, x.b⟩ (by rw [hxe]; rfl)
    clear y3 y4
    obtain ⟨K3, B3, y1, y2⟩ := OwnL.set K2 (by rw [List.length_set]; exact hj) 3 (by decide) (.int .i64 0) (⟨i, x.r, 0, 0, x.b⟩) (by rw [List.getElem_set_self]; rfl)
    clear y1 y2
    rw [List.set_set] at K3
    obtain ⟨y3, y4, F3, Z3⟩ := OwnL.set H0 hj 3 (by decide) (.int .i64 0) ⟨x.i, x.r, x.s, 0, x.b⟩ (by rw [hxe]; rfl)
    clear y3 y4
    obtain ⟨K4, B4, y1, y2⟩ := OwnL.set K3 (by rw [List.length_set]; exact hj) 4 (by decide) (.int .i64 0) (⟨i, x.r, 0, 0, 0⟩) (by rw [List.getElem_set_self]; rfl)
    clear y1 y2
    rw [List.set_set] at K4
    obtain ⟨y3, y4, F4, Z4⟩ := OwnL.set H0 hj 4 (by decide) (.int .i64 0) ⟨x.i, x.r, x.s, x.h, 0⟩ (by rw [hxe]; rfl)
    clear y3 y4
    simp only [Nat.add_zero] at F0 Z0
    rw [hxe] at Z0 Z1 Z2 Z3 Z4
    simp only [Lot.enc, List.getElem?_cons_zero, List.getElem?_cons_succ] at Z0 Z1 Z2 Z3 Z4
    rw [hy.out] at K4
    have hK := Lib.hid K4
    have hB5 := Lib.hid ((hC9.mono hw2).trans (B0.trans (B1.trans (B2.trans (B3.trans B4)))))
    clear K0 K1 K2 K3 K4 B0 B1 B2 B3 B4 H0
    go_simp
    exact hK9 _ _ rfl (Sw.turn ⟨hB5.out, hK.out⟩) (fun hq => (hq (by decide)).elim)
  refine wpFactsR_nil fun vs L9 w9 hL9 hC9 hB => ?_
  replace hC9 := hC9.done hL9 (by decide)
  obtain ⟨hC9, HF⟩ := hC9
  have hl3 : (l.set j (againL x)).length = l.length := List.length_set
  have b3 := b2.trans hC9
  have GD := GD.out
  clear hB HO2 L2 c0 c1' c2 c3 c4 q2 s0 s1 s2 s3 b2 hC9
  go_upto_region 28 with fail
  cases d
  next =>
    obtain rfl : R = none := by simpa using HR.out
    go_wp2
    refine bodyPost_ret (v := .tuple #[.slice none 0 0, .bool false]) (by simp [results, Tryd.results36, go_sem, *]) rfl (GivesMk.fail ?_)
    rw [hgb]
    exact b0.trans ((b3).mono b0s)
  next =>
    obtain rfl : R = some (l.set j (againL x)) := by simpa using HR.out
    have IA := isAuction_any (some ⟨gO, 0, none⟩) c1 (l.set j (againL x)) w9 (OwnL.reads HF)
    rw [hl3, GD] at IA
    go_wp2_with fail
    refine IA.mono ?_
    rintro e w10 ⟨rfl, hb10⟩
    have HF10 := HF.below hb10
    clear IA HF
    go_wp2
    refine bodyPost_ret (v := .tuple #[.slice (some ⟨gO, 0, none⟩) (l.length) c1, .bool true]) (by simp [results, Tryd.results36, go_sem, *]) rfl (GivesMk.yes hl3 (ownsRow_lower HF10 (by rw [hgb]; exact b0s)) ?_)
    rw [hgb]
    exact b0.trans ((bthen' (b3) hb10 (b3).size).mono b0s)
end Go.Proofs.YtkokbmmffkpclaaDoor

/- A step of an auction in the program: all kinds. -/
namespace Go.Proofs.YtkokbmmffkpclaaDoor
open Go.RowKit

theorem implStepA_any (A : Option Addr) (c : Nat) (l : List Lot) (s : ASt) (w : World) (h : LotsR w w.heap.size A l) (G : GoodL l) (hs : s.ok = true) :
    Calls Tryd.prog 36 #[.slice A l.length c, s.val] w (GivesMk w (stepL l s)) := by
  obtain ⟨k, i, b, v⟩ := s
  have hk : k = 1 ∨ k = 2 ∨ k = 3 ∨ k = 4 ∨ k = 5 ∨ k = 6 := kinds hs
  rcases hk with rfl | rfl | rfl | rfl | rfl | rfl
  · by_cases hf : findIx l i < 0
    · rw [step1_add hf]; exact stepB_add A c l i b v w h G hf
    · rw [step1_none (by omega)]; exact stepB_none1 A c l i b v w h G (by omega)
  · by_cases hf : findIx l i < 0
    · rw [stepF_none (by omega) hf]; exact stepB_none2 A c l i b v w h G hf
    · obtain ⟨j, hf', hj⟩ := find_at hf
      rw [step2_drop hf' hj]; exact stepB_drop A c l i b v w h G j hj hf'
  · by_cases hf : findIx l i < 0
    · rw [stepF_none (by omega) hf]; exact stepB_none3 A c l i b v w h G hf
    · obtain ⟨j, hf', hj⟩ := find_at hf
      rw [step3_open hf' hj]; exact stepB_open A c l i b v w h G j hj hf'
  · by_cases ho : openIx l < 0
    · rw [step4_none ho]; exact stepA_none4 A c l i b v w h G ho
    · obtain ⟨j, ho', hj⟩ := open_at ho
      rw [step4_bid ho' hj]; exact stepA_bid A c l i b v w h G j hj ho' hs
  · by_cases ho : openIx l < 0
    · rw [step5_none ho]; exact stepA_none5 A c l i b v w h G ho
    · obtain ⟨j, ho', hj⟩ := open_at ho
      rw [step5_knock ho' hj]; exact stepA_knock A c l i b v w h G j hj ho'
  · by_cases hf : findIx l i < 0
    · rw [stepF_none (by omega) hf]; exact stepB_none6 A c l i b v w h G hf
    · obtain ⟨j, hf', hj⟩ := find_at hf
      rw [step6_again hf' hj]; exact stepB_again A c l i b v w h G j hj hf'
end Go.Proofs.YtkokbmmffkpclaaDoor

/- Operations of a drawn region: slicing a slice; appending to a row of the call's own (no program in sight). -/
namespace Go.Proofs.YtkokbmmffkpclaaDoor
open Go.RowKit

section
variable {P : Program} {ops : Array Oper} {tm : Array Value} {o : Oper} {a : Act} {w : World} {K : Act → World → Prop} {Q : Exit → Act → World → Prop} {E : Prop}
theorem elem_of {t e : TypeId} (ht : P.underlying t = some (.slice e)) : P.underlying t = some (.slice (P.elem t)) ∧ P.elem t = e := by
  have : P.elem t = e := by simp [Program.elem, ht]
  exact ⟨by rw [this]; exact ht, this⟩
theorem SlcR.take {B k n : Nat} {A : Option Addr} {cs : List Value} (h : SlcR w B k A n cs) (i : Nat) (hi : i ≤ n) : SlcR w B k A i (cs.take (i * k)) := by
  have hm : i * k ≤ n * k := Nat.mul_le_mul_right k hi
  refine ⟨by rw [List.length_take, h.len]; omega, by have := h.big; omega, fun h0 => ?_⟩
  obtain ⟨b, off, e, hb, hc⟩ := h.at_ (by omega)
  exact ⟨b, off, e, hb, fun j u hu => hc j u (by rw [List.getElem?_take] at hu; split at hu; exact hu; cases hu)⟩
theorem SlcR.drop {B k n : Nat} {A A' : Option Addr} {cs : List Value} (h : SlcR w B k A n cs) (i : Nat) (hi : i ≤ n) (hA : i < n → A' = A.map fun p => p.add (i * k)) : SlcR w B k A' (n - i) (cs.drop (i * k)) := by
  refine ⟨by rw [List.length_drop, h.len, Nat.sub_mul], by have := h.big; omega, fun h0 => ?_⟩
  obtain ⟨b, off, e, hb, hc⟩ := h.at_ (by omega)
  refine ⟨b, off + i * k, ?_, hb, fun j u hu => ?_⟩
  · rw [hA (by omega), e]; simp only [Option.map_some, addr_add]
  · rw [List.getElem?_drop] at hu
    have := hc _ u hu
    rwa [Nat.add_assoc]
theorem info_size {e : TypeId} {s : Nat} (hs : (P.info? e).map (·.size) = some s) : ∃ inf, P.info? e = some inf ∧ inf.size = s := by
  cases hq : P.info? e with
  | none => simp [hq] at hs
  | some inf => exact ⟨inf, rfl, by simpa [hq] using hs⟩
theorem map_add0 (A : Option Addr) : A.map (fun p => p.add 0) = A := by cases A <;> simp [Addr.add]
theorem run_sliceTo {t e : TypeId} (ht : P.underlying t = some (.slice e)) {s : Nat} (hs : (P.info? e).map (·.size) = some s) (A : Option Addr) (n c i : Nat) (hi : i ≤ n) (hc : n ≤ c) (w : World) :
    (Instr.slice t (.slice A n c) none (some (.int .i64 (i : Int))) none).run P w = .ok (.slice A i c) w := by
  obtain ⟨h1, h2⟩ := elem_of ht
  obtain ⟨inf, hin, hsz⟩ := info_size hs
  rw [run_slice_h (P := P) (w := w) t A n c h1 .i64 (i : Int) (by omega) (by omega), h2]
  simp [sizeOf, typeInfo, hin, sliced, map_add0]
theorem run_sliceFrom {t e : TypeId} (ht : P.underlying t = some (.slice e)) {s : Nat} (hs : (P.info? e).map (·.size) = some s) (A : Option Addr) (n c i : Nat) (hi : i ≤ n) (w : World) :
    (Instr.slice t (.slice A n c) (some (.int .i64 (i : Int))) none none).run P w = .ok (.slice (if c = i then A else A.map (fun p => p.add (i * s))) (n - i) (c - i)) w := by
  obtain ⟨h1, h2⟩ := elem_of ht
  obtain ⟨inf, hin, hsz⟩ := info_size hs
  rw [run_slice_l (P := P) (w := w) t A n c h1 .i64 (i : Int) (by omega) (by omega), h2]
  simp [sizeOf, typeInfo, hin, sliced, hsz]
/-- 'xs[:i]'. -/
theorem step_sliceTo (hg : o.guard = none) (t e : TypeId) (x y : Operand) (ho : o.op = .slice t x none (some y) none) (ht : P.underlying t = some (.slice e)) (s : Nat) (hs : (P.info? e).map (·.size) = some s)
    (A : Option Addr) (n c i : Nat) (hx : a.eval x = .slice A n c) (hy : a.eval y = .int .i64 (i : Int)) (hi : i ≤ n) (hc : n ≤ c)
    (h : K (a.put o.dst (.slice A i c)) w) : if Region.wanted o (yielded ops tm) = true then o.wp P a w K Q else E := by
  have hw : ∀ tm : Array Value, Region.wanted o (yielded ops tm) = true := fun tm => by simp [Region.wanted, hg]
  rw [if_pos (hw _)]
  unfold Oper.wp execOp
  simp only [ho, hx, Option.map_some, Option.map_none, hy, run_sliceAt_slice (P := P) (w := w) t _ _ _ _ (elem_of ht).1, run_sliceTo ht hs A n c i hi hc w, Sem.run_bind, Sem.run_pure, Result.andThen_ok]
  exact h
/-- 'xs[i:]'. -/
theorem step_sliceFrom (hg : o.guard = none) (t e : TypeId) (x y : Operand) (ho : o.op = .slice t x (some y) none none) (ht : P.underlying t = some (.slice e)) (s : Nat) (hs : (P.info? e).map (·.size) = some s)
    (A : Option Addr) (n c i : Nat) (hx : a.eval x = .slice A n c) (hy : a.eval y = .int .i64 (i : Int)) (hi : i ≤ n) (hc : n ≤ c)
    (h : ∀ A', (∀ (W : World) (B : Nat) (cs : List Value), SlcR W B s A n cs → SlcR W B s A' (n - i) (cs.drop (i * s))) → K (a.put o.dst (.slice A' (n - i) (c - i))) w) : if Region.wanted o (yielded ops tm) = true then o.wp P a w K Q else E := by
  have hw : ∀ tm : Array Value, Region.wanted o (yielded ops tm) = true := fun tm => by simp [Region.wanted, hg]
  rw [if_pos (hw _)]
  unfold Oper.wp execOp
  simp only [ho, hx, Option.map_some, Option.map_none, hy, run_sliceAt_slice (P := P) (w := w) t _ _ _ _ (elem_of ht).1, run_sliceFrom ht hs A n c i hi w, Sem.run_bind, Sem.run_pure, Result.andThen_ok]
  exact h _ fun W B cs hr => hr.drop i hi fun hlt => by rw [if_neg (by omega)]
/-- 'append(s, xs...)', s the call's own. -/
theorem step_cat (hg : o.guard = none) (s x : Operand) (t : TypeId) (ho : o.op = .call { callee := .builtin .append, args := #[s, x], argTypes := #[t, t] })
    (e : TypeId) (z : Value) (k bytes : Nat) (ht : P.underlying t = some (.slice e)) (hinfo : (P.info? e).map (fun i => (i.zero, i.size, i.bytes)) = some (some z, k, bytes)) (hzs : z.cells.size = k) (hsz : 0 < k) (hby : bytes ≤ 1000)
    (B : Nat) (v : Value) (n : Nat) (xs : List Value) (hs : a.eval s = v) (hown : w.ownsRow B e k v n xs)
    (S : Nat) (A : Option Addr) (m c : Nat) (cs : List Value) (hx : a.eval x = .slice A m c) (hr : SlcR w S k A m cs) (h1 : ∀ u ∈ cs, u.oneCell' = true)
    (hn : n + m ≤ 1000000000) (hbase : B ≤ w.heap.size)
    (h : ∀ A' c' w', w'.ownsRow B e k (.slice A' (n + m) c') (n + m) (xs ++ cs) → w.grownBy w' v.ownBlock → Below B w w' → K (a.put o.dst (.slice A' (n + m) c')) w') : if Region.wanted o (yielded ops tm) = true then o.wp P a w K Q else E := by
  have hw : ∀ tm : Array Value, Region.wanted o (yielded ops tm) = true := fun tm => by simp [Region.wanted, hg]
  rw [if_pos (hw _)]
  refine wp_cat s x t ho e z k bytes ht hinfo hzs hsz hby B v n xs hs (Lib.hid hown) S A m c cs hx (Lib.hid hr) h1 hn hbase fun v' w' h2 h3 h4 _ => ?_
  obtain ⟨A', c', rfl⟩ := ownsRow_slice h2.out
  exact h A' c' w' h2.out h3 h4
theorem ownsRow_cap {B k n : Nat} {e : TypeId} {A : Option Addr} {c : Nat} {xs : List Value} (h : w.ownsRow B e k (.slice A n c) n xs) : n ≤ c := by
  obtain ⟨_, ⟨h0, h1⟩ | ⟨g, cap, cur, hv, _, _, hc, _⟩⟩ := h
  · injection h0 with _ h2 h3; omega
  · injection hv with _ _ h3; omega
end
end Go.Proofs.YtkokbmmffkpclaaDoor

/- A lot of a list is another one, in the reference. (Printed by gen_lotmake.py) -/
namespace Go.Proofs.YtkokbmmffkpclaaDoor
open Go.RowKit

/-- Lots of the call's own, as a result. -/
def GivesL (w : World) (r : List Lot) (e : Ending) (w' : World) : Prop := ∃ A c, e = .returned (.slice A r.length c) ∧ OwnL w' w.heap.size A c r ∧ Below w.heap.size w w'
set_option maxRecDepth 100000 in
set_option maxHeartbeats 4000000 in
theorem l29With_any (A : Option Addr) (c : Nat) (l : List Lot) (j : Nat) (x : Lot) (w : World) (h : LotsR w w.heap.size A l) (hn : l.length ≤ 8) (hj : j < l.length) :
    Calls Tryd.prog 67 #[.slice A l.length c, .int .i64 j, x.val] w (GivesL w (l.set j x)) := by
  have b0 := (Below.refl w.heap.size w).alloc (Nat.le_refl _) (.cells #[.int .i64 x.i, .int .i64 x.r, .int .i64 x.s, .int .i64 x.h, .int .i64 x.b] 41)
  have L0 := Lies.new w 41 #[.int .i64 x.i, .int .i64 x.r, .int .i64 x.s, .int .i64 x.h, .int .i64 x.b]
  have hz0 : (0 : Int) ≤ (j : Int) := by omega
  have hal := ((Below.refl (w.alloc (.cells #[.int .i64 x.i, .int .i64 x.r, .int .i64 x.s, .int .i64 x.h, .int .i64 x.b] 41)).heap.size (w.alloc (.cells #[.int .i64 x.i, .int .i64 x.r, .int .i64 x.s, .int .i64 x.h, .int .i64 x.b] 41))).alloc (Nat.le_refl _) (.cells #[] 41))
  have HO : Hid (((w.alloc (.cells #[.int .i64 x.i, .int .i64 x.r, .int .i64 x.s, .int .i64 x.h, .int .i64 x.b] 41)).alloc (.cells #[] 41)).ownsRow w.heap.size 41 5 (.slice (some ⟨w.heap.size + 1, 0, none⟩) 0 0) 0 []) := owns_empty (Lies.new1 w (.cells #[.int .i64 x.i, .int .i64 x.r, .int .i64 x.s, .int .i64 x.h, .int .i64 x.b] 41) 41 #[]) (by omega)
  have b1 := b0.trans (hal.mono b0.size)
  have L1 := L0.below hal L0.lt
  have HR := Lib.hid (SlcR.below h b1)
  have L0s := L0.lt
  obtain ⟨bl, off, rfl, hbl, hcell⟩ := h.el (by omega)
  clear hcell
  have b1s := b1.size
  go_enter Tryd.func67, Tryd.ntmps67
  go_upto_region 2 with (at_builtin; refine wpList_cat rfl _ _ 24 rfl 41 _ 5 40 Tryd.underlying24 infoLot rfl (by omega) (by omega) w.heap.size _ 0 [] rfl HO w.heap.size (some ⟨bl, off, none⟩) l.length c (l.flatMap Lot.enc) rfl HR lot_cells (by omega) b1.size ?_; intro v' w1 hown gr1 hb2 _)
  have L2 := L1.kept gr1 (by show some w.heap.size ≠ some (w.heap.size + 1); simp)
  have H1 := hown.out
  rw [Nat.zero_add, List.nil_append] at H1
  obtain ⟨A1, c1, rfl⟩ := ownsRow_slice H1
  have b2 := b1.trans hb2
  clear hown gr1 hb2 HO HR L0 L1 hal b0
  obtain ⟨gO, rfl, hgO, hgO', hcO⟩ := OwnL.block H1 (by omega)
  obtain ⟨y, hxe⟩ : ∃ y, l[j] = y := ⟨_, rfl⟩
  obtain ⟨K0, B0, y1, y2⟩ := OwnL.set H1 hj 0 (by decide) (.int .i64 x.i) (⟨x.i, y.r, y.s, y.h, y.b⟩) (by rw [hxe]; rfl)
  clear y1 y2
  simp only [Nat.add_zero] at K0 B0
  obtain ⟨y3, y4, F0, Z0⟩ := OwnL.set H1 hj 0 (by decide) (.int .i64 0) ⟨0, y.r, y.s, y.h, y.b⟩ (by rw [hxe]; rfl)
  clear y3 y4
  obtain ⟨K1, B1, y1, y2⟩ := OwnL.set K0 (by rw [List.length_set]; exact hj) 1 (by decide) (.int .i64 x.r) (⟨x.i, x.r, y.s, y.h, y.b⟩) (by rw [List.getElem_set_self]; rfl)
  clear y1 y2
  rw [List.set_set] at K1
  obtain ⟨y3, y4, F1, Z1⟩ := OwnL.set H1 hj 1 (by decide) (.int .i64 0) ⟨y.i, 0, y.s, y.h, y.b⟩ (by rw [hxe]; rfl)
  clear y3 y4
  obtain ⟨K2, B2, y1, y2⟩ := OwnL.set K1 (by rw [List.length_set]; exact hj) 2 (by decide) (.int .i64 x.s) (⟨x.i, x.r, x.s, y.h, y.b⟩) (by rw [List.getElem_set_self]; rfl)
  clear y1 y2
  rw [List.set_set] at K2
  obtain ⟨y3, y4, F2, Z2⟩ := OwnL.set H1 hj 2 (by decide) (.int .i64 0) ⟨y.i, y.r, 0, y.h, y.b⟩ (by rw [hxe]; rfl)
  clear y3 y4
  obtain ⟨K3, B3, y1, y2⟩ := OwnL.set K2 (by rw [List.length_set]; exact hj) 3 (by decide) (.int .i64 x.h) (⟨x.i, x.r, x.s, x.h, y.b⟩) (by rw [List.getElem_set_self]; rfl)
  clear y1 y2
  rw [List.set_set] at K3
  obtain ⟨y3, y4, F3, Z3⟩ := OwnL.set H1 hj 3 (by decide) (.int .i64 0) ⟨y.i, y.r, y.s, 0, y.b⟩ (by rw [hxe]; rfl)
  clear y3 y4
  obtain ⟨K4, B4, y1, y2⟩ := OwnL.set K3 (by rw [List.length_set]; exact hj) 4 (by decide) (.int .i64 x.b) (x) (by rw [List.getElem_set_self]; rfl)
  clear y1 y2
  rw [List.set_set] at K4
  obtain ⟨y3, y4, F4, Z4⟩ := OwnL.set H1 hj 4 (by decide) (.int .i64 0) ⟨y.i, y.r, y.s, y.h, 0⟩ (by rw [hxe]; rfl)
  clear y3 y4
  simp only [Nat.add_zero] at F0 Z0
  rw [hxe] at Z0 Z1 Z2 Z3 Z4
  simp only [Lot.enc, List.getElem?_cons_zero, List.getElem?_cons_succ] at Z0 Z1 Z2 Z3 Z4
  have hK := Lib.hid K4
  have hB5 := Lib.hid (b2.trans (B0.trans (B1.trans (B2.trans (B3.trans B4)))))
  clear K0 K1 K2 K3 K4 B0 B1 B2 B3 B4 H1 b2
  have s0 := L2.cell 0
  have s1 := L2.cell 1
  have s2 := L2.cell 2
  have s3 := L2.cell 3
  have s4 := L2.cell 4
  simp only [List.getElem?_cons_zero, List.getElem?_cons_succ] at s0 s1 s2 s3 s4
  go_wp2
  refine bodyPost_ret (v := .slice (some ⟨gO, 0, none⟩) l.length c1) (by simp [results, Tryd.results67, go_sem, *]) rfl ⟨some ⟨gO, 0, none⟩, c1, by rw [List.length_set], hK.out, hB5.out⟩
end Go.Proofs.YtkokbmmffkpclaaDoor

/- A step with the open lot, in the reference. (Printed by gen_lotmake.py) -/
namespace Go.Proofs.YtkokbmmffkpclaaDoor
open Go.RowKit

set_option maxRecDepth 100000 in
set_option maxHeartbeats 4000000 in
theorem sell_none4 (A : Option Addr) (c : Nat) (l : List Lot) (i b v : Int) (w : World) (h : LotsR w w.heap.size A l) (G : GoodL l) (ho : openIx l < 0) :
    Calls Tryd.prog 64 #[.slice A l.length c, .agg #[.int .i64 4, .int .i64 i, .int .i64 b, .int .i64 v]] w (GivesMk w none) := by
  obtain ⟨o, hoe⟩ : ∃ o, openIx l = o := ⟨_, rfl⟩
  rw [hoe] at ho
  have HOE := Lib.hid hoe
  clear hoe
  have b0 := (Below.refl w.heap.size w).alloc (Nat.le_refl _) (.cells #[.int .i64 4, .int .i64 i, .int .i64 b, .int .i64 v] 39)
  have b0s := b0.size
  have L0 := Lies.new w 39 #[.int .i64 4, .int .i64 i, .int .i64 b, .int .i64 v]
  have hW := SlcR.up h b0 (Nat.le_refl _)
  have len := G.len
  go_enter Tryd.func64, Tryd.ntmps64
  go_wp2_with fail
  generalize w.alloc (.cells #[.int .i64 4, .int .i64 i, .int .i64 b, .int .i64 v] 39) = W at b0 b0s L0 hW ⊢
  generalize hgb : w.heap.size = g at L0 ⊢
  rw [hgb] at b0 b0s
  refine (l29Open_any A c l W hW).mono ?_
  rintro e w1 ⟨he, hb1⟩
  rw [HOE.out] at he
  subst he
  have L1 := L0.below hb1 L0.lt
  have hgW := L0.lt
  have s0 := L1.cell 0
  have s1 := L1.cell 1
  have s2 := L1.cell 2
  have s3 := L1.cell 3
  simp only [List.getElem?_cons_zero, List.getElem?_cons_succ] at s0 s1 s2 s3
  go_wp2
  refine bodyPost_ret (v := .tuple #[.slice (some ⟨w1.heap.size, 0, none⟩) 0 0, .bool false]) (by simp [results, Tryd.results64, go_sem, *]) rfl (GivesMk.fail ?_)
  rw [hgb]
  exact b0.trans ((bthen hb1 ((Below.refl _ _).alloc (Nat.le_refl _) (.cells #[] 41))).mono b0s)
set_option maxRecDepth 100000 in
set_option maxHeartbeats 4000000 in
theorem sell_none5 (A : Option Addr) (c : Nat) (l : List Lot) (i b v : Int) (w : World) (h : LotsR w w.heap.size A l) (G : GoodL l) (ho : openIx l < 0) :
    Calls Tryd.prog 64 #[.slice A l.length c, .agg #[.int .i64 5, .int .i64 i, .int .i64 b, .int .i64 v]] w (GivesMk w none) := by
  obtain ⟨o, hoe⟩ : ∃ o, openIx l = o := ⟨_, rfl⟩
  rw [hoe] at ho
  have HOE := Lib.hid hoe
  clear hoe
  have b0 := (Below.refl w.heap.size w).alloc (Nat.le_refl _) (.cells #[.int .i64 5, .int .i64 i, .int .i64 b, .int .i64 v] 39)
  have b0s := b0.size
  have L0 := Lies.new w 39 #[.int .i64 5, .int .i64 i, .int .i64 b, .int .i64 v]
  have hW := SlcR.up h b0 (Nat.le_refl _)
  have len := G.len
  go_enter Tryd.func64, Tryd.ntmps64
  go_wp2_with fail
  generalize w.alloc (.cells #[.int .i64 5, .int .i64 i, .int .i64 b, .int .i64 v] 39) = W at b0 b0s L0 hW ⊢
  generalize hgb : w.heap.size = g at L0 ⊢
  rw [hgb] at b0 b0s
  refine (l29Open_any A c l W hW).mono ?_
  rintro e w1 ⟨he, hb1⟩
  rw [HOE.out] at he
  subst he
  have L1 := L0.below hb1 L0.lt
  have hgW := L0.lt
  have s0 := L1.cell 0
  have s1 := L1.cell 1
  have s2 := L1.cell 2
  have s3 := L1.cell 3
  simp only [List.getElem?_cons_zero, List.getElem?_cons_succ] at s0 s1 s2 s3
  go_wp2
  refine bodyPost_ret (v := .tuple #[.slice (some ⟨w1.heap.size, 0, none⟩) 0 0, .bool false]) (by simp [results, Tryd.results64, go_sem, *]) rfl (GivesMk.fail ?_)
  rw [hgb]
  exact b0.trans ((bthen hb1 ((Below.refl _ _).alloc (Nat.le_refl _) (.cells #[] 41))).mono b0s)
set_option maxRecDepth 100000 in
set_option maxHeartbeats 4000000 in
theorem sell_bid (A : Option Addr) (c : Nat) (l : List Lot) (i b v : Int) (w : World) (h : LotsR w w.heap.size A l) (G : GoodL l) (j : Nat) (hj : j < l.length) (ho : openIx l = j) :
    Calls Tryd.prog 64 #[.slice A l.length c, .agg #[.int .i64 4, .int .i64 i, .int .i64 b, .int .i64 v]] w (GivesMk w (if leastV l[j] ≤ v ∧ b ≠ l[j].b then some (l.set j (bidL l[j] ⟨4, i, b, v⟩)) else none)) := by
  have hz0 : (0 : Int) ≤ (j : Int) := by omega
  have hzi : ¬ (j : Int) < 0 := by omega
  obtain ⟨x, hxe⟩ : ∃ x, l[j] = x := ⟨_, rfl⟩
  rw [hxe]
  have hxk := G.all x (by rw [← hxe]; exact List.getElem_mem hj)
  have hxh := inR_iff.1 (lot_ok_iff.1 hxk).1.2.2.1
  have LB := fun W => l29Least_any x W hxh.1 hxh.2
  obtain ⟨m, hm⟩ : ∃ m, leastV x = m := ⟨_, rfl⟩
  rw [hm] at LB ⊢
  clear hm hxh hxk
  obtain ⟨d1, hd1⟩ : ∃ d, decide (m ≤ v) = d := ⟨_, rfl⟩
  obtain ⟨d2, hd2⟩ : ∃ d, (b != x.b) = d := ⟨_, rfl⟩
  obtain ⟨R, hR⟩ : ∃ R, (if m ≤ v ∧ b ≠ x.b then some (l.set j (bidL x ⟨4, i, b, v⟩)) else none) = R := ⟨_, rfl⟩
  have HR : Hid (R = if (d1 && d2) = true then some (l.set j (bidL x ⟨4, i, b, v⟩)) else none) := by
    rw [Hid, ← hR, ← hd1, ← hd2]
    simp
  rw [hR]
  clear hR
  have HLB := Lib.hid LB
  clear LB
  have HOE := Lib.hid ho
  clear ho
  have b0 := (Below.refl w.heap.size w).alloc (Nat.le_refl _) (.cells #[.int .i64 4, .int .i64 i, .int .i64 b, .int .i64 v] 39)
  have b0s := b0.size
  have L0 := Lies.new w 39 #[.int .i64 4, .int .i64 i, .int .i64 b, .int .i64 v]
  have hW := SlcR.up h b0 (Nat.le_refl _)
  have len := G.len
  go_enter Tryd.func64, Tryd.ntmps64
  go_wp2_with fail
  generalize w.alloc (.cells #[.int .i64 4, .int .i64 i, .int .i64 b, .int .i64 v] 39) = W at b0 b0s L0 hW ⊢
  generalize hgb : w.heap.size = g at L0 ⊢
  rw [hgb] at b0 b0s
  refine (l29Open_any A c l W hW).mono ?_
  rintro e w1 ⟨he, hb1⟩
  rw [HOE.out] at he
  subst he
  have L1 := L0.below hb1 L0.lt
  have hgW := L0.lt
  have s0 := L1.cell 0
  have s1 := L1.cell 1
  have s2 := L1.cell 2
  have s3 := L1.cell 3
  simp only [List.getElem?_cons_zero, List.getElem?_cons_succ] at s0 s1 s2 s3
  obtain ⟨bl, off, rfl, hbl, hcell⟩ := (LotsR.el hW) (by omega)
  have hcx := hcell j hj
  rw [hxe] at hcx
  obtain ⟨c0, c1', c2, c3, c4⟩ := LotS.up hcx hb1 hb1.size
  have q0 := c0 ⟨w1, Below.refl _ _⟩
  have q1 := c1' ⟨w1, Below.refl _ _⟩
  have q2 := c2 ⟨w1, Below.refl _ _⟩
  have q3 := c3 ⟨w1, Below.refl _ _⟩
  have q4 := c4 ⟨w1, Below.refl _ _⟩
  clear hcx hcell
  go_upto_region 5 with fail
  have P2 := Lies.new w1 41 #[.int .i64 x.i, .int .i64 x.r, .int .i64 x.s, .int .i64 x.h, .int .i64 x.b]
  have hal := (Below.refl w1.heap.size w1).alloc (Nat.le_refl _) (.cells #[.int .i64 x.i, .int .i64 x.r, .int .i64 x.s, .int .i64 x.h, .int .i64 x.b] 41)
  have L2 := L1.below hal L1.lt
  have b2 := bthen hb1 hal
  have hp := hb1.size
  generalize hw2 : w1.alloc (.cells #[.int .i64 x.i, .int .i64 x.r, .int .i64 x.s, .int .i64 x.h, .int .i64 x.b] 41) = w2 at P2 hal L2 b2 ⊢
  clear hw2 hal s0 s1 s2 s3 q0 q1 q2 q3 q4 c0 c1' c2 c3 c4 L1
  generalize w1.heap.size = p at P2 hp ⊢
  have s0 := L2.cell 0
  have s1 := L2.cell 1
  have s2 := L2.cell 2
  have s3 := L2.cell 3
  simp only [List.getElem?_cons_zero, List.getElem?_cons_succ] at s0 s1 s2 s3
  go_upto_region 6 with fail
  cases d1
  all_goals
    refine wp_region_factsR (fun _ => (fun W9 => Below w2.heap.size w2 W9)) (fun _ w1 w2 => Below w1.heap.size w1 w2) (by kernel_rfl) (by kernel_rfl) (by kernel_rfl) (Below.refl _ _).drew ?_
    simp only [fillOps, Act.put, List.setIfInBounds_toArray, List.set_cons_zero, List.set_cons_succ, Nat.zero_add, Nat.reduceAdd]
    apply wpFactsR_val
    case h1 =>
      intro vs L9 w9 hG9 hC9 hB K9 hK9
      simp only [Act.put, List.setIfInBounds_toArray, List.set_cons_zero, List.set_cons_succ] at hK9
      go_simp
      exact hK9 _ _ rfl hC9 (Below.refl _ _)
    apply wpFactsR_val
    case h1 =>
      intro vs L9 w9 hG9 hC9 hB K9 hK9
      have d0 := FactN.eq (hB 0 _ (by kernel_rfl) (by kernel_rfl) rfl (by decide))
      simp only [d0] at hK9 ⊢
      have q0 : w9.cell? ⟨g, 3, none⟩ = some (.int .i64 v) := (L2.below hC9 L2.lt).cell 3
      simp only [Act.put, List.setIfInBounds_toArray, List.set_cons_zero, List.set_cons_succ] at hK9
      go_simp
      exact hK9 _ _ rfl hC9 (Below.refl _ _)
    apply wpFactsR_val
    case h1 =>
      intro vs L9 w9 hG9 hC9 hB K9 hK9
      have q0 : w9.cell? ⟨p, 0, none⟩ = some (.int .i64 x.i) := (P2.below hC9 P2.lt).cell 0
      have q1 : w9.cell? ⟨p, 1, none⟩ = some (.int .i64 x.r) := (P2.below hC9 P2.lt).cell 1
      have q2 : w9.cell? ⟨p, 2, none⟩ = some (.int .i64 x.s) := (P2.below hC9 P2.lt).cell 2
      have q3 : w9.cell? ⟨p, 3, none⟩ = some (.int .i64 x.h) := (P2.below hC9 P2.lt).cell 3
      have q4 : w9.cell? ⟨p, 4, none⟩ = some (.int .i64 x.b) := (P2.below hC9 P2.lt).cell 4
      simp only [Act.put, List.setIfInBounds_toArray, List.set_cons_zero, List.set_cons_succ] at hK9
      go_simp
      exact hK9 _ _ rfl hC9 (Below.refl _ _)
    refine wpFactsR_val (.int .i64 m) (fun vs L9 w9 hG9 hC9 hB K9 hK9 => ?_) ?_
    next =>
      have d2 := FactN.eq (hB 2 _ (by kernel_rfl) (by kernel_rfl) rfl (by decide))
      simp only [d2] at hK9 ⊢
      simp only [Act.put, List.setIfInBounds_toArray, List.set_cons_zero, List.set_cons_succ] at hK9
      go_simp
      refine (HLB.out w9).mono ?_
      rintro en w8 ⟨rfl, hb8⟩
      exact hK9 _ _ rfl (hC9.trans (hb8.mono hC9.size)) (hb8)
    apply wpFactsR_val
    case h1 =>
      intro vs L9 w9 hG9 hC9 hB K9 hK9
      have d1 := FactN.eq (hB 1 _ (by kernel_rfl) (by kernel_rfl) rfl (by decide))
      have d3 := FactN.eq (hB 3 _ (by kernel_rfl) (by kernel_rfl) rfl (by decide))
      simp only [d1, d3] at hK9 ⊢
      simp only [Act.put, List.setIfInBounds_toArray, List.set_cons_zero, List.set_cons_succ] at hK9
      go_simp
      exact hK9 _ _ rfl hC9 (Below.refl _ _)
    apply wpFactsR_val
    case h1 =>
      intro vs L9 w9 hG9 hC9 hB K9 hK9
      have d4 := FactN.eq (hB 4 _ (by kernel_rfl) (by kernel_rfl) rfl (by decide))
      simp only [d4] at hK9 ⊢
      simp only [Act.put, List.setIfInBounds_toArray, List.set_cons_zero, List.set_cons_succ] at hK9
      go_simp
      exact hK9 _ _ rfl hC9 (Below.refl _ _)
    apply wpFactsR_val
    case h1 =>
      intro vs L9 w9 hG9 hC9 hB K9 hK9
      have d5 := FactN.eq (hB 5 _ (by kernel_rfl) (by kernel_rfl) rfl (by decide))
      simp only [d5] at hK9 ⊢
      simp only [Act.put, List.setIfInBounds_toArray, List.set_cons_zero, List.set_cons_succ] at hK9
      go_simp
      exact hK9 _ _ rfl hC9 (Below.refl _ _)
    apply wpFactsR_val
    case h1 =>
      intro vs L9 w9 hG9 hC9 hB K9 hK9
      have d6 := FactN.eq (hB 6 _ (by kernel_rfl) (by kernel_rfl) rfl (by decide))
      have d5 := FactN.eq (hB 5 _ (by kernel_rfl) (by kernel_rfl) rfl (by decide))
      simp only [d6, d5] at hK9 ⊢
      have q0 : w9.cell? ⟨g, 2, none⟩ = some (.int .i64 b) := (L2.below hC9 L2.lt).cell 2
      simp only [Act.put, List.setIfInBounds_toArray, List.set_cons_zero, List.set_cons_succ] at hK9
      go_simp
      exact hK9 _ _ rfl hC9 (Below.refl _ _)
    apply wpFactsR_val
    case h1 =>
      intro vs L9 w9 hG9 hC9 hB K9 hK9
      have d5 := FactN.eq (hB 5 _ (by kernel_rfl) (by kernel_rfl) rfl (by decide))
      simp only [d5] at hK9 ⊢
      simp only [Act.put, List.setIfInBounds_toArray, List.set_cons_zero, List.set_cons_succ] at hK9
      go_simp
      exact hK9 _ _ rfl hC9 (Below.refl _ _)
    apply wpFactsR_val
    case h1 =>
      intro vs L9 w9 hG9 hC9 hB K9 hK9
      have d8 := FactN.eq (hB 8 _ (by kernel_rfl) (by kernel_rfl) rfl (by decide))
      have d5 := FactN.eq (hB 5 _ (by kernel_rfl) (by kernel_rfl) rfl (by decide))
      simp only [d8, d5] at hK9 ⊢
      have q0 : w9.cell? ⟨p, 4, none⟩ = some (.int .i64 x.b) := (P2.below hC9 P2.lt).cell 4
      simp only [Act.put, List.setIfInBounds_toArray, List.set_cons_zero, List.set_cons_succ] at hK9
      go_simp
      exact hK9 _ _ rfl hC9 (Below.refl _ _)
    apply wpFactsR_val
    case h1 =>
      intro vs L9 w9 hG9 hC9 hB K9 hK9
      have d7 := FactN.eq (hB 7 _ (by kernel_rfl) (by kernel_rfl) rfl (by decide))
      have d9 := FactN.eq (hB 9 _ (by kernel_rfl) (by kernel_rfl) rfl (by decide))
      have d5 := FactN.eq (hB 5 _ (by kernel_rfl) (by kernel_rfl) rfl (by decide))
      simp only [d7, d9, d5] at hK9 ⊢
      simp only [Act.put, List.setIfInBounds_toArray, List.set_cons_zero, List.set_cons_succ] at hK9
      go_simp
      exact hK9 _ _ rfl hC9 (Below.refl _ _)
    apply wpFactsR_val
    case h1 =>
      intro vs L9 w9 hG9 hC9 hB K9 hK9
      have d5 := FactN.eq (hB 5 _ (by kernel_rfl) (by kernel_rfl) rfl (by decide))
      have d10 := FactN.eq (hB 10 _ (by kernel_rfl) (by kernel_rfl) rfl (by decide))
      simp only [d5, d10] at hK9 ⊢
      simp only [Act.put, List.setIfInBounds_toArray, List.set_cons_zero, List.set_cons_succ] at hK9
      go_simp
      exact hK9 _ _ rfl hC9 (Below.refl _ _)
    apply wpFactsR_val
    case h1 =>
      intro vs L9 w9 hG9 hC9 hB K9 hK9
      have d11 := FactN.eq (hB 11 _ (by kernel_rfl) (by kernel_rfl) rfl (by decide))
      simp only [d11] at hK9 ⊢
      simp only [Act.put, List.setIfInBounds_toArray, List.set_cons_zero, List.set_cons_succ] at hK9
      go_simp
      exact hK9 _ _ rfl hC9 (Below.refl _ _)
    refine wpFactsR_nil fun vs L9 w9 hL9 hC9 hB => ?_
    have d12 := FactN.eq (hB 12 _ rfl rfl (by decide))
    simp only [d12]
    clear hB d12
    have L3 := L2.below hC9 L2.lt
    have P3 := P2.below hC9 P2.lt
    have b3 := bthen b2 hC9
    have hW3 : LotsR w9 W.heap.size _ l := SlcR.below hW b3
    clear s0 s1 s2 s3 L2 P2 b2 hC9
    obtain ⟨w4, h49⟩ : ∃ x, x = w9 := ⟨_, rfl⟩
    subst h49
    have s0 := L3.cell 0
    have s1 := L3.cell 1
    have s2 := L3.cell 2
    have s3 := L3.cell 3
    simp only [List.getElem?_cons_zero, List.getElem?_cons_succ] at s0 s1 s2 s3
    have p0 := P3.cell 0
    have p1 := P3.cell 1
    have p2 := P3.cell 2
    have p3 := P3.cell 3
    have p4 := P3.cell 4
    simp only [List.getElem?_cons_zero, List.getElem?_cons_succ] at p0 p1 p2 p3 p4
    have f0 := P3.frozen 0
    have f1 := P3.frozen 1
    have f2 := P3.frozen 2
    have f3 := P3.frozen 3
    have f4 := P3.frozen 4
    have hpp := P3.lt
    have P4 := (P3.set 3 (.int .i64 v)).set 4 (.int .i64 b)
    simp only [List.set_cons_zero, List.set_cons_succ] at P4
    have b4 := (b3.setCell (p := ⟨p, 3, none⟩) hp (.int .i64 v)).setCell (p := ⟨p, 4, none⟩) hp (.int .i64 b)
    go_upto_region 9 with fail
    generalize hw5 : (w4.setCell ⟨p, 3, none⟩ (.int .i64 v)).setCell ⟨p, 4, none⟩ (.int .i64 b) = w5 at P4 b4 ⊢
    have hW5 : LotsR w5 w5.heap.size _ l := SlcR.up hW b4 (Nat.le_refl _)
    clear hw5 hW3 L3 P3 b3 s0 s1 s2 s3 p0 p1 p2 p3 p4 f0 f1 f2 f3 f4
    have p0 := P4.cell 0
    have p1 := P4.cell 1
    have p2 := P4.cell 2
    have p3 := P4.cell 3
    have p4 := P4.cell 4
    simp only [List.getElem?_cons_zero, List.getElem?_cons_succ] at p0 p1 p2 p3 p4
    go_wp2_with fail
    refine (l29With_any (some ⟨bl, off, none⟩) c l j (bidL x ⟨4, i, b, v⟩) w5 hW5 (by omega) hj).mono ?_
    rintro e w6 ⟨A6, c6, rfl, h6, hb6⟩
    have hz9 := b4.size
    have b6 := bthen' b4 hb6 b4.size
    have hl3 : (l.set j (bidL x ⟨4, i, b, v⟩)).length = l.length := List.length_set
    have HO6 := Lib.hid h6
    clear h6 P4 hW5 b4 hb6 p0 p1 p2 p3 p4
  next =>
    obtain rfl : R = none := by simpa using HR.out
    go_wp2
    refine bodyPost_ret (v := .tuple #[.slice A6 (l.set j (bidL x ⟨4, i, b, v⟩)).length c6, .bool false]) (by simp [results, Tryd.results64, go_sem, *]) rfl (GivesMk.fail ?_)
    rw [hgb]
    exact b0.trans ((b6).mono b0s)
  next =>
    cases d2
    next =>
      obtain rfl : R = none := by simpa using HR.out
      go_wp2
      refine bodyPost_ret (v := .tuple #[.slice A6 (l.set j (bidL x ⟨4, i, b, v⟩)).length c6, .bool false]) (by simp [results, Tryd.results64, go_sem, *]) rfl (GivesMk.fail ?_)
      rw [hgb]
      exact b0.trans ((b6).mono b0s)
    next =>
      obtain rfl : R = some (l.set j (bidL x ⟨4, i, b, v⟩)) := by simpa using HR.out
      go_wp2
      refine bodyPost_ret (v := .tuple #[.slice A6 (l.set j (bidL x ⟨4, i, b, v⟩)).length c6, .bool true]) (by simp [results, Tryd.results64, go_sem, *]) rfl (GivesMk.yes rfl (ownsRow_lower HO6.out (by rw [hgb]; exact Nat.le_trans b0s hz9)) ?_)
      rw [hgb]
      exact b0.trans ((b6).mono b0s)
set_option maxRecDepth 100000 in
set_option maxHeartbeats 4000000 in
theorem sell_knock (A : Option Addr) (c : Nat) (l : List Lot) (i b v : Int) (w : World) (h : LotsR w w.heap.size A l) (G : GoodL l) (j : Nat) (hj : j < l.length) (ho : openIx l = j) :
    Calls Tryd.prog 64 #[.slice A l.length c, .agg #[.int .i64 5, .int .i64 i, .int .i64 b, .int .i64 v]] w (GivesMk w (some (l.set j (knockL l[j])))) := by
  have hz0 : (0 : Int) ≤ (j : Int) := by omega
  have hzi : ¬ (j : Int) < 0 := by omega
  obtain ⟨x, hxe⟩ : ∃ x, l[j] = x := ⟨_, rfl⟩
  rw [hxe]
  have HOE := Lib.hid ho
  clear ho
  have b0 := (Below.refl w.heap.size w).alloc (Nat.le_refl _) (.cells #[.int .i64 5, .int .i64 i, .int .i64 b, .int .i64 v] 39)
  have b0s := b0.size
  have L0 := Lies.new w 39 #[.int .i64 5, .int .i64 i, .int .i64 b, .int .i64 v]
  have hW := SlcR.up h b0 (Nat.le_refl _)
  have len := G.len
  go_enter Tryd.func64, Tryd.ntmps64
  go_wp2_with fail
  generalize w.alloc (.cells #[.int .i64 5, .int .i64 i, .int .i64 b, .int .i64 v] 39) = W at b0 b0s L0 hW ⊢
  generalize hgb : w.heap.size = g at L0 ⊢
  rw [hgb] at b0 b0s
  refine (l29Open_any A c l W hW).mono ?_
  rintro e w1 ⟨he, hb1⟩
  rw [HOE.out] at he
  subst he
  have L1 := L0.below hb1 L0.lt
  have hgW := L0.lt
  have s0 := L1.cell 0
  have s1 := L1.cell 1
  have s2 := L1.cell 2
  have s3 := L1.cell 3
  simp only [List.getElem?_cons_zero, List.getElem?_cons_succ] at s0 s1 s2 s3
  obtain ⟨bl, off, rfl, hbl, hcell⟩ := (LotsR.el hW) (by omega)
  have hcx := hcell j hj
  rw [hxe] at hcx
  obtain ⟨c0, c1', c2, c3, c4⟩ := LotS.up hcx hb1 hb1.size
  have q0 := c0 ⟨w1, Below.refl _ _⟩
  have q1 := c1' ⟨w1, Below.refl _ _⟩
  have q2 := c2 ⟨w1, Below.refl _ _⟩
  have q3 := c3 ⟨w1, Below.refl _ _⟩
  have q4 := c4 ⟨w1, Below.refl _ _⟩
  clear hcx hcell
  go_upto_region 5 with fail
  have P2 := Lies.new w1 41 #[.int .i64 x.i, .int .i64 x.r, .int .i64 x.s, .int .i64 x.h, .int .i64 x.b]
  have hal := (Below.refl w1.heap.size w1).alloc (Nat.le_refl _) (.cells #[.int .i64 x.i, .int .i64 x.r, .int .i64 x.s, .int .i64 x.h, .int .i64 x.b] 41)
  have L2 := L1.below hal L1.lt
  have b2 := bthen hb1 hal
  have hp := hb1.size
  generalize hw2 : w1.alloc (.cells #[.int .i64 x.i, .int .i64 x.r, .int .i64 x.s, .int .i64 x.h, .int .i64 x.b] 41) = w2 at P2 hal L2 b2 ⊢
  clear hw2 hal s0 s1 s2 s3 q0 q1 q2 q3 q4 c0 c1' c2 c3 c4 L1
  generalize w1.heap.size = p at P2 hp ⊢
  have s0 := L2.cell 0
  have s1 := L2.cell 1
  have s2 := L2.cell 2
  have s3 := L2.cell 3
  simp only [List.getElem?_cons_zero, List.getElem?_cons_succ] at s0 s1 s2 s3
  have p0 := P2.cell 0
  have p1 := P2.cell 1
  have p2 := P2.cell 2
  have p3 := P2.cell 3
  have p4 := P2.cell 4
  simp only [List.getElem?_cons_zero, List.getElem?_cons_succ] at p0 p1 p2 p3 p4
  have f0 := P2.frozen 0
  have f1 := P2.frozen 1
  have f2 := P2.frozen 2
  have f3 := P2.frozen 3
  have f4 := P2.frozen 4
  have P3 := P2.set 2 (.int .i64 3)
  have L3 := L2.other (p := ⟨p, 2, none⟩) (by show g ≠ p; omega) (.int .i64 3)
  simp only [List.set_cons_zero, List.set_cons_succ] at P3
  have b3 := b2.setCell (p := ⟨p, 2, none⟩) hp (.int .i64 3)
  go_upto_region 11 with fail
  generalize hw3 : w2.setCell ⟨p, 2, none⟩ (.int .i64 3) = w3 at P3 L3 b3 ⊢
  clear hw3 P2 L2 b2 s0 s1 s2 s3 p0 p1 p2 p3 p4 f0 f1 f2 f3 f4
  have p0 := P3.cell 0
  have p1 := P3.cell 1
  have p2 := P3.cell 2
  have p3 := P3.cell 3
  have p4 := P3.cell 4
  simp only [List.getElem?_cons_zero, List.getElem?_cons_succ] at p0 p1 p2 p3 p4
  have f0 := P3.frozen 0
  have f1 := P3.frozen 1
  have f2 := P3.frozen 2
  have f3 := P3.frozen 3
  have f4 := P3.frozen 4
  by_cases h1 : 1 ≤ x.h
  next =>
    by_cases h2 : x.r ≤ x.h
    next =>
      have P4 := P3.set 2 (.int .i64 2)
      simp only [List.set_cons_zero, List.set_cons_succ] at P4
      have b4 := b3.setCell (p := ⟨p, 2, none⟩) hp (.int .i64 2)
      go_upto_region 13 with fail
      generalize hw4 : w3.setCell ⟨p, 2, none⟩ (.int .i64 2) = w4 at P4 b4 ⊢
      clear hw4 P3 L3 b3
      clear p0 p1 p2 p3 p4 f0 f1 f2 f3 f4
      have p0 := P4.cell 0
      have p1 := P4.cell 1
      have p2 := P4.cell 2
      have p3 := P4.cell 3
      have p4 := P4.cell 4
      simp only [List.getElem?_cons_zero, List.getElem?_cons_succ] at p0 p1 p2 p3 p4
      have hW5 : LotsR w4 w4.heap.size _ l := SlcR.up hW b4 (Nat.le_refl _)
      have hkn : (⟨x.i, x.r, 2, x.h, x.b⟩ : Lot) = knockL x := by unfold knockL; simp [*]
      have HKN := Lib.hid hkn
      clear hkn
      go_wp2_with fail
      refine (l29With_any (some ⟨bl, off, none⟩) c l j ⟨x.i, x.r, 2, x.h, x.b⟩ w4 hW5 (by omega) hj).mono ?_
      rintro e w6 ⟨A6, c6, rfl, h6, hb6⟩
      have hz9 := b4.size
      have b6 := bthen' b4 hb6 b4.size
      rw [HKN.out] at h6
      have HO6 := Lib.hid h6
      clear h6 P4 hW5 b4 hb6 p0 p1 p2 p3 p4
      go_wp2
      refine bodyPost_ret (v := .tuple #[.slice A6 l.length c6, .bool true]) (by simp [results, Tryd.results64, go_sem, *]) rfl (GivesMk.yes List.length_set (ownsRow_lower HO6.out (by rw [hgb]; exact Nat.le_trans b0s hz9)) ?_)
      rw [hgb]
      exact b0.trans ((b6).mono b0s)
    next =>
      go_upto_region 13 with fail
      clear p0 p1 p2 p3 p4 f0 f1 f2 f3 f4
      have p0 := P3.cell 0
      have p1 := P3.cell 1
      have p2 := P3.cell 2
      have p3 := P3.cell 3
      have p4 := P3.cell 4
      simp only [List.getElem?_cons_zero, List.getElem?_cons_succ] at p0 p1 p2 p3 p4
      have hW5 : LotsR w3 w3.heap.size _ l := SlcR.up hW b3 (Nat.le_refl _)
      have hkn : (⟨x.i, x.r, 3, x.h, x.b⟩ : Lot) = knockL x := by unfold knockL; simp [*]
      have HKN := Lib.hid hkn
      clear hkn
      go_wp2_with fail
      refine (l29With_any (some ⟨bl, off, none⟩) c l j ⟨x.i, x.r, 3, x.h, x.b⟩ w3 hW5 (by omega) hj).mono ?_
      rintro e w6 ⟨A6, c6, rfl, h6, hb6⟩
      have hz9 := b3.size
      have b6 := bthen' b3 hb6 b3.size
      rw [HKN.out] at h6
      have HO6 := Lib.hid h6
      clear h6 P3 hW5 b3 hb6 p0 p1 p2 p3 p4
      go_wp2
      refine bodyPost_ret (v := .tuple #[.slice A6 l.length c6, .bool true]) (by simp [results, Tryd.results64, go_sem, *]) rfl (GivesMk.yes List.length_set (ownsRow_lower HO6.out (by rw [hgb]; exact Nat.le_trans b0s hz9)) ?_)
      rw [hgb]
      exact b0.trans ((b6).mono b0s)
  next =>
    go_upto_region 13 with fail
    clear p0 p1 p2 p3 p4 f0 f1 f2 f3 f4
    have p0 := P3.cell 0
    have p1 := P3.cell 1
    have p2 := P3.cell 2
    have p3 := P3.cell 3
    have p4 := P3.cell 4
    simp only [List.getElem?_cons_zero, List.getElem?_cons_succ] at p0 p1 p2 p3 p4
    have hW5 : LotsR w3 w3.heap.size _ l := SlcR.up hW b3 (Nat.le_refl _)
    have hkn : (⟨x.i, x.r, 3, x.h, x.b⟩ : Lot) = knockL x := by unfold knockL; simp [*]
    have HKN := Lib.hid hkn
    clear hkn
    go_wp2_with fail
    refine (l29With_any (some ⟨bl, off, none⟩) c l j ⟨x.i, x.r, 3, x.h, x.b⟩ w3 hW5 (by omega) hj).mono ?_
    rintro e w6 ⟨A6, c6, rfl, h6, hb6⟩
    have hz9 := b3.size
    have b6 := bthen' b3 hb6 b3.size
    rw [HKN.out] at h6
    have HO6 := Lib.hid h6
    clear h6 P3 hW5 b3 hb6 p0 p1 p2 p3 p4
    go_wp2
    refine bodyPost_ret (v := .tuple #[.slice A6 l.length c6, .bool true]) (by simp [results, Tryd.results64, go_sem, *]) rfl (GivesMk.yes List.length_set (ownsRow_lower HO6.out (by rw [hgb]; exact Nat.le_trans b0s hz9)) ?_)
    rw [hgb]
    exact b0.trans ((b6).mono b0s)
end Go.Proofs.YtkokbmmffkpclaaDoor

/- A step with the open lot, in the reference: both kinds. (Printed by gen_lotmake.py) -/
namespace Go.Proofs.YtkokbmmffkpclaaDoor
open Go.RowKit

theorem l29Sell_any (A : Option Addr) (c : Nat) (l : List Lot) (k i b v : Int) (w : World) (h : LotsR w w.heap.size A l) (G : GoodL l) (hk : k = 4 ∨ k = 5) :
    Calls Tryd.prog 64 #[.slice A l.length c, (⟨k, i, b, v⟩ : ASt).val] w (GivesMk w (stepL l ⟨k, i, b, v⟩)) := by
  rcases hk with rfl | rfl
  · by_cases ho : openIx l < 0
    · rw [step4_none ho]; exact sell_none4 A c l i b v w h G ho
    · obtain ⟨j, ho', hj⟩ := open_at ho
      rw [step4_bid ho' hj]; exact sell_bid A c l i b v w h G j hj ho'
  · by_cases ho : openIx l < 0
    · rw [step5_none ho]; exact sell_none5 A c l i b v w h G ho
    · obtain ⟨j, ho', hj⟩ := open_at ho
      rw [step5_knock ho' hj]; exact sell_knock A c l i b v w h G j hj ho'
end Go.Proofs.YtkokbmmffkpclaaDoor

/- 'append([]T{}, xs...)' as one operation of a drawn region. -/
namespace Go.Proofs.YtkokbmmffkpclaaDoor
open Go.RowKit

/-- 'append([]T{}, xs...)' as one operation of a drawn region: no older block turns. -/
theorem stepCat {P : Program} {ops : Array Oper} {tm : Array Value} {o : Oper} {a : Act} {w : World} {K : Act → World → Prop} {Q : Exit → Act → World → Prop} {E : Prop}
    (hg : o.guard = none) (s x : Operand) (t : TypeId) (ho : o.op = .call { callee := .builtin .append, args := #[s, x], argTypes := #[t, t] })
    (e : TypeId) (z : Value) (k bytes : Nat) (ht : P.underlying t = some (.slice e)) (hinfo : (P.info? e).map (fun i => (i.zero, i.size, i.bytes)) = some (some z, k, bytes)) (hzs : z.cells.size = k) (hsz : 0 < k) (hby : bytes ≤ 1000)
    (B g : Nat) (hs : a.eval s = .slice (some ⟨g, 0, none⟩) 0 0) (hL : Lies w g e []) (hB : B ≤ g)
    (S : Nat) (A : Option Addr) (m c : Nat) (cs : List Value) (hx : a.eval x = .slice A m c) (hr : SlcR w S k A m cs) (h1 : ∀ u ∈ cs, u.oneCell' = true) (hm : m ≤ 1000000)
    (h : ∀ v' w', w'.ownsRow B e k v' m cs → Below w.heap.size w w' → K (a.put o.dst v') w') : if Region.wanted o (yielded ops tm) = true then o.wp P a w K Q else E := by
  have hw : ∀ tm : Array Value, Region.wanted o (yielded ops tm) = true := fun tm => by simp [Region.wanted, hg]
  rw [if_pos (hw _)]
  obtain ⟨i, hi, hz, hs', hb⟩ := info_parts hinfo
  have hbytes : (0 + m) * bytes ≤ 140737488355328 := by have := Nat.mul_le_mul (show 0 + m ≤ 1000000 by omega) hby; omega
  have hlt := hL.lt
  rcases Nat.eq_zero_or_pos m with h0 | h0
  · subst h0
    have hc0 : cs = [] := List.eq_nil_of_length_eq_zero (by simpa using hr.len)
    subst hc0
    have hown : w.ownsRow B e k (.slice (some ⟨g, 0, none⟩) 0 0) 0 [] := owns_empty hL hB
    have hrun : (Builtin.append_ #[t, t] o.type #[.slice (some ⟨g, 0, none⟩) 0 0, .slice A 0 c]).run P w = .ok (.slice (some ⟨g, 0, none⟩) 0 0) w := by
      rcases A with _ | ad
      · exact run_cat_nil w B t o.type e i k ht hi _ 0 [] hown c
      · simp [Builtin.append_, run_underlying ht, sizeOf, typeInfo, hi, Builtin.lenOf, Builtin.firstCells, loadCells, loadCellsFrom, storeCells]
    unfold Oper.wp execOp
    simp only [ho, resolve, invoke, builtin, Sem.run_bind, Sem.run_pure, Result.andThen_ok, List.map_toArray, List.map_cons, List.map_nil, hs, hx, hrun]
    exact h _ _ hown (Below.refl _ _)
  · obtain ⟨b, off, rfl, hlt', hcell⟩ := hr.at_ h0
    have key := step_append_grows (P := P) (ops := ops) (a := a) (w := w) (K := K) (Q := Q) (E := E) hg s x t ho e i z k bytes ht hi hz hs' hb hzs hsz (some ⟨g, 0, none⟩) 0 0 [] hs (by simp) (by simp) (by simp) ⟨b, off, none⟩ m c cs hx hr.len (fun j u hu => by rw [addr_add]; exact hcell j u hu) h1 (by omega) (by unfold maxLen; omega) hbytes (fun v' w' h2 h3 => by
      rw [Nat.zero_add, List.nil_append] at h2
      exact h v' w' (ownsRow_lower h2 (by omega)) ((Below.refl _ _).grown h3 (Nat.le_refl _) (fun j hj => by cases hj)))
    rw [if_pos (hw _)] at key
    exact key

end Go.Proofs.YtkokbmmffkpclaaDoor
