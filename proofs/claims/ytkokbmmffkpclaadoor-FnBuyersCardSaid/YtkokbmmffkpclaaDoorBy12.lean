/- By12: the texts Sale BuyQ Grown Cur CurEnv, joined into one file. -/
import Derived.Deep.DeepCutAuto
import Derived.Laws.BitsAllLaws
import Derived.Test.YtkokbmmffkpclaaDoorBy01
import Derived.Test.YtkokbmmffkpclaaDoorBy03
import Derived.Test.YtkokbmmffkpclaaDoorBy06
import Derived.Test.YtkokbmmffkpclaaDoorBy10
import Derived.Test.YtkokbmmffkpclaaDoorBy11

set_option linter.unusedVariables false

/- The text of a lot. (Printed by gen_sale.py) -/
namespace Go.Proofs.YtkokbmmffkpclaaDoor
open Go.RowKit

def stB (s : Int) : ByteArray := if s = 0 then ⟨#[119, 97, 105, 116, 115]⟩ else if s = 1 then ⟨#[111, 112, 101, 110]⟩ else if s = 2 then ⟨#[115, 111, 108, 100]⟩ else ⟨#[112, 97, 115, 115, 101, 100]⟩
theorem stB_size (s : Int) : (stB s).size ≤ 6 := by unfold stB; repeat' split
                                                    all_goals decide
def saleB (x : Lot) : List UInt8 := [108, 111, 116, 32] ++ Lib.itoa x.i ++ [32] ++ bl (stB x.s) ++ (if x.h = 0 then [] else [32] ++ Lib.itoa x.h ++ [32, 98, 121, 32] ++ Lib.itoa x.b)
def saleT (x : Lot) : ByteArray := if x.ok then ⟨(saleB x).toArray⟩ else ⟨#[]⟩
def GivesX (w : World) (T : ByteArray) (ok : Bool) (e : Ending) (w' : World) : Prop := e = .returned (.tuple #[.string T, .bool ok]) ∧ Below w.heap.size w w'
theorem GivesX.mk {w w' : World} {T T' : ByteArray} {ok ok' : Bool} (h1 : T = T') (h2 : ok = ok') (hb : Below w.heap.size w w') : GivesX w T ok (.returned (.tuple #[.string T', .bool ok'])) w' := by
  subst h1; subst h2; exact ⟨rfl, hb⟩
theorem good_one (x : Lot) : goodLots [x] = x.ok := by
  rw [Bool.eq_iff_iff, goodL_iff]
  constructor
  · intro G; exact G.all x (by simp)
  · intro h
    refine ⟨fun y hy => ?_, by simp [keysL], by simp, ?_⟩
    · have : y = x := by simpa using hy
      rw [this]; exact h
    · have : opens [x] = x.op + 0 := rfl
      rw [this]; unfold Lot.op; split <;> omega
theorem lot_bounds {x : Lot} (h : x.ok = true) : 1 ≤ x.i ∧ x.i ≤ 99 ∧ 0 ≤ x.h ∧ x.h ≤ 99999 ∧ 0 ≤ x.b ∧ x.b ≤ 999 ∧ 0 ≤ x.s ∧ x.s ≤ 3 := by
  unfold Lot.ok at h
  simp only [Bool.and_eq_true, inR_iff] at h
  obtain ⟨⟨⟨⟨⟨h1, h2⟩, h3⟩, h4⟩, h5⟩, h6⟩ := h
  have : 0 ≤ x.s ∧ x.s ≤ 3 := by
    unfold Lot.stOk at h6
    (repeat' split at h6) <;> first | omega | simp at h6
  omega
set_option maxRecDepth 100000 in
theorem und4 : Tryd.prog.underlying 62 = some (.array 4 9) := by rfl
set_option maxRecDepth 100000 in
theorem siz4 : (Tryd.prog.info? 9).map (·.size) = some 1 := by rfl
theorem idx4 (s : Int) (h0 : 0 ≤ s) (h3 : s ≤ 3) (w : World) : (Instr.index 62 (.agg #[.string ⟨#[119, 97, 105, 116, 115]⟩, .string ⟨#[111, 112, 101, 110]⟩, .string ⟨#[115, 111, 108, 100]⟩, .string ⟨#[112, 97, 115, 115, 101, 100]⟩]) (.int .i64 s)).run Tryd.prog w = .ok (.string (stB s)) w := by
  obtain ⟨i, hi, hs⟩ := Option.map_eq_some_iff.1 siz4
  have : s = 0 ∨ s = 1 ∨ s = 2 ∨ s = 3 := by omega
  rcases this with rfl | rfl | rfl | rfl <;> simp [Instr.index, asIntOf, run_underlying und4, part, sizeOf, typeInfo, hi, hs, stB]

set_option maxRecDepth 100000 in
set_option maxHeartbeats 4000000 in
theorem implSale_any (x : Lot) (w : World) (ht : Tab w) : Calls Tryd.prog 20 #[x.val] w (GivesX w (saleT x) x.ok) := by
  have VA := fun A W hW => isAuction_any A 1 [x] W hW
  rw [good_one] at VA
  have b0 := (Below.refl w.heap.size w).alloc (Nat.le_refl _) (.cells #[.int .i64 x.i, .int .i64 x.r, .int .i64 x.s, .int .i64 x.h, .int .i64 x.b] 41)
  have L0 := Lies.new w 41 #[.int .i64 x.i, .int .i64 x.r, .int .i64 x.s, .int .i64 x.h, .int .i64 x.b]
  go_enter Tryd.func20, Tryd.ntmps20
  go_wp2_with fail
  have b1 := b0.alloc (b0.size) (.cells #[.int .i64 x.i, .int .i64 x.r, .int .i64 x.s, .int .i64 x.h, .int .i64 x.b] 41)
  have M0 := Lies.new (w.alloc (.cells #[.int .i64 x.i, .int .i64 x.r, .int .i64 x.s, .int .i64 x.h, .int .i64 x.b] 41)) 41 #[.int .i64 x.i, .int .i64 x.r, .int .i64 x.s, .int .i64 x.h, .int .i64 x.b]
  have L1 := L0.below (Below.alloc (Below.refl _ _) (Nat.le_refl _) (.cells #[.int .i64 x.i, .int .i64 x.r, .int .i64 x.s, .int .i64 x.h, .int .i64 x.b] 41)) L0.lt
  clear b0 L0
  have he : (w.alloc (.cells #[.int .i64 x.i, .int .i64 x.r, .int .i64 x.s, .int .i64 x.h, .int .i64 x.b] 41)).heap.size = w.heap.size + 1 := by simp
  rw [he] at M0
  have HM := lies_lots (l := [x]) M0 (by simp)
  generalize ((w.alloc (.cells #[.int .i64 x.i, .int .i64 x.r, .int .i64 x.s, .int .i64 x.h, .int .i64 x.b] 41)).alloc (.cells #[.int .i64 x.i, .int .i64 x.r, .int .i64 x.s, .int .i64 x.h, .int .i64 x.b] 41)) = W at b1 M0 L1 HM ⊢
  clear he M0
  refine (VA _ W HM).mono ?_
  rintro e w1 ⟨rfl, hb1⟩
  replace b1 := b1.trans (hb1.mono b1.size)
  replace L1 := L1.below hb1 L1.lt
  clear VA HM hb1
  obtain ⟨v, hv⟩ : ∃ v, x.ok = v := ⟨_, rfl⟩
  rw [hv]
  have HV := Lib.hid hv
  cases v
  · clear hv
    go_wp2
    refine bodyPost_ret (v := .tuple #[.string ⟨#[]⟩, .bool false]) (by simp [results, Tryd.results20, go_sem, *]) rfl (GivesX.mk (by unfold saleT; rw [HV.out]; rfl) (by first | rfl | exact HV.out) b1)
  have hok := hv
  clear hv
  have HT : Hid (saleT x = ⟨(saleB x).toArray⟩) := by rw [Hid]; unfold saleT; rw [if_pos hok]
  obtain ⟨hi0, hi1, hh0, hh1, hc0, hc1, hs0, hs3⟩ : 1 ≤ x.i ∧ x.i ≤ 99 ∧ 0 ≤ x.h ∧ x.h ≤ 99999 ∧ 0 ≤ x.b ∧ x.b ≤ 999 ∧ 0 ≤ x.s ∧ x.s ≤ 3 := lot_bounds hok
  clear hok
  obtain ⟨t1, e1⟩ : ∃ t : ByteArray, t = ⟨(Lib.itoa x.i).toArray⟩ := ⟨_, rfl⟩
  have y1 : t1.size ≤ 100 := by rw [e1]; exact itoa_len (by omega) (by omega)
  have N1 : Hid (∀ W, Tab W → Calls Tryd.prog 38 #[.int .i64 x.i] W fun e w' => e = .returned (.string t1) ∧ Below W.heap.size W w') := by rw [e1]; exact fun W hW => itoa_any _ W (by omega) (by omega) hW
  have HE1 : Hid (bl t1 = Lib.itoa x.i) := by rw [Hid, e1, bl_mk]
  obtain ⟨t2, e2⟩ : ∃ t : ByteArray, t = ⟨(Lib.itoa x.h).toArray⟩ := ⟨_, rfl⟩
  have y2 : t2.size ≤ 100 := by rw [e2]; exact itoa_len (by omega) (by omega)
  have N2 : Hid (∀ W, Tab W → Calls Tryd.prog 38 #[.int .i64 x.h] W fun e w' => e = .returned (.string t2) ∧ Below W.heap.size W w') := by rw [e2]; exact fun W hW => itoa_any _ W (by omega) (by omega) hW
  have HE2 : Hid (bl t2 = Lib.itoa x.h) := by rw [Hid, e2, bl_mk]
  obtain ⟨t3, e3⟩ : ∃ t : ByteArray, t = ⟨(Lib.itoa x.b).toArray⟩ := ⟨_, rfl⟩
  have y3 : t3.size ≤ 100 := by rw [e3]; exact itoa_len (by omega) (by omega)
  have N3 : Hid (∀ W, Tab W → Calls Tryd.prog 38 #[.int .i64 x.b] W fun e w' => e = .returned (.string t3) ∧ Below W.heap.size W w') := by rw [e3]; exact fun W hW => itoa_any _ W (by omega) (by omega) hW
  have HE3 : Hid (bl t3 = Lib.itoa x.b) := by rw [Hid, e3, bl_mk]
  clear e1 e2 e3
  have HB : Hid (bl (stB x.s) = bl (stB x.s)) := rfl
  have yB := stB_size x.s
  obtain ⟨sb, hsb⟩ : ∃ s, stB x.s = s := ⟨_, rfl⟩
  have IX := Lib.hid (idx4 x.s hs0 hs3)
  rw [hsb] at HB yB IX
  have HSB := Lib.hid hsb
  clear hsb HB
  have hs4 : x.s < 4 := by omega
  have z1 : (⟨#[108, 111, 116, 32]⟩ : ByteArray).size = 4 := rfl
  have z2 : (⟨#[32]⟩ : ByteArray).size = 1 := rfl
  have z3 : (⟨#[32, 98, 121, 32]⟩ : ByteArray).size = 4 := rfl
  have ht1 : Tab w1 := ht.then b1
  generalize hg : w.heap.size = g at L1 ⊢
  have hge : w.heap.size ≤ g := Nat.le_of_eq hg
  clear hg
  go_wp2_with fail
  refine wp_region_factsR (fun _ => (fun W9 => Below w1.heap.size w1 W9)) (fun _ w1 w2 => Below w1.heap.size w1 w2) (by kernel_rfl) (by kernel_rfl) (by kernel_rfl) (Below.refl _ _).drew ?_
  simp only [fillOps, Act.put, List.setIfInBounds_toArray, List.set_cons_zero, List.set_cons_succ, Nat.zero_add, Nat.reduceAdd]
  apply wpFactsR_val
  case h1 =>
    intro vs L9 w9 hG9 hC9 hB K9 hK9
    simp only [Act.put, List.setIfInBounds_toArray, List.set_cons_zero, List.set_cons_succ] at hK9
    go_simp
    exact hK9 _ _ rfl hC9 (Below.refl _ _)
  apply wpFactsR_val
  case h1 =>
    intro vs L9 w9 hG9 hC9 hB K9 hK9
    have d0 := FactN.eq (hB 0 _ (by kernel_rfl) (by kernel_rfl) rfl (by decide))
    simp only [d0] at hK9 ⊢
    have q0 : w9.cell? ⟨g, 0, none⟩ = some (.int .i64 x.i) := (L1.below hC9 L1.lt).cell 0
    simp only [Act.put, List.setIfInBounds_toArray, List.set_cons_zero, List.set_cons_succ] at hK9
    go_simp
    exact hK9 _ _ rfl hC9 (Below.refl _ _)
  refine wpFactsR_val (.string t1) (fun vs L9 w9 hG9 hC9 hB K9 hK9 => ?_) ?_
  next =>
    have d1 := FactN.eq (hB 1 _ (by kernel_rfl) (by kernel_rfl) rfl (by decide))
    simp only [d1] at hK9 ⊢
    go_simp
    refine (N1.out _ (ht1.then hC9)).mono ?_
    rintro en w8 ⟨rfl, hb8⟩
    exact hK9 _ _ rfl (hC9.trans (hb8.mono hC9.size)) (hb8)
  refine wpFactsR_val (.string (⟨#[108, 111, 116, 32]⟩ ++ t1)) (fun vs L9 w9 hG9 hC9 hB K9 hK9 => ?_) ?_
  next =>
    have d2 := FactN.eq (hB 2 _ (by kernel_rfl) (by kernel_rfl) rfl (by decide))
    simp only [d2] at hK9 ⊢
    go_simp
    (first | (rw [if_neg (by first | omega | (simp only [size_app]; omega))]; go_simp) | skip)
    exact hK9 _ _ rfl hC9 (Below.refl _ _)
  refine wpFactsR_val (.string ((⟨#[108, 111, 116, 32]⟩ ++ t1) ++ ⟨#[32]⟩)) (fun vs L9 w9 hG9 hC9 hB K9 hK9 => ?_) ?_
  next =>
    have d3 := FactN.eq (hB 3 _ (by kernel_rfl) (by kernel_rfl) rfl (by decide))
    simp only [d3] at hK9 ⊢
    go_simp
    (first | (rw [if_neg (by first | omega | (simp only [size_app]; omega))]; go_simp) | skip)
    exact hK9 _ _ rfl hC9 (Below.refl _ _)
  apply wpFactsR_val
  case h1 =>
    intro vs L9 w9 hG9 hC9 hB K9 hK9
    simp only [Act.put, List.setIfInBounds_toArray, List.set_cons_zero, List.set_cons_succ] at hK9
    go_simp
    exact hK9 _ _ rfl hC9 (Below.refl _ _)
  apply wpFactsR_val
  case h1 =>
    intro vs L9 w9 hG9 hC9 hB K9 hK9
    simp only [Act.put, List.setIfInBounds_toArray, List.set_cons_zero, List.set_cons_succ] at hK9
    go_simp
    exact hK9 _ _ rfl hC9 (Below.refl _ _)
  apply wpFactsR_val
  case h1 =>
    intro vs L9 w9 hG9 hC9 hB K9 hK9
    have d6 := FactN.eq (hB 6 _ (by kernel_rfl) (by kernel_rfl) rfl (by decide))
    simp only [d6] at hK9 ⊢
    have q0 : w9.cell? ⟨g, 2, none⟩ = some (.int .i64 x.s) := (L1.below hC9 L1.lt).cell 2
    simp only [Act.put, List.setIfInBounds_toArray, List.set_cons_zero, List.set_cons_succ] at hK9
    go_simp
    exact hK9 _ _ rfl hC9 (Below.refl _ _)
  refine wpFactsR_val (.string sb) (fun vs L9 w9 hG9 hC9 hB K9 hK9 => ?_) ?_
  next =>
    have d5 := FactN.eq (hB 5 _ (by kernel_rfl) (by kernel_rfl) rfl (by decide))
    have d7 := FactN.eq (hB 7 _ (by kernel_rfl) (by kernel_rfl) rfl (by decide))
    simp only [d5, d7] at hK9 ⊢
    go_simp
    rw [IX.out]
    go_simp
    exact hK9 _ _ rfl hC9 (Below.refl _ _)
  refine wpFactsR_val (.string (((⟨#[108, 111, 116, 32]⟩ ++ t1) ++ ⟨#[32]⟩) ++ sb)) (fun vs L9 w9 hG9 hC9 hB K9 hK9 => ?_) ?_
  next =>
    have d4 := FactN.eq (hB 4 _ (by kernel_rfl) (by kernel_rfl) rfl (by decide))
    have d8 := FactN.eq (hB 8 _ (by kernel_rfl) (by kernel_rfl) rfl (by decide))
    simp only [d4, d8] at hK9 ⊢
    go_simp
    (first | (rw [if_neg (by first | omega | (simp only [size_app]; omega))]; go_simp) | skip)
    exact hK9 _ _ rfl hC9 (Below.refl _ _)
  apply wpFactsR_val
  case h1 =>
    intro vs L9 w9 hG9 hC9 hB K9 hK9
    have d9 := FactN.eq (hB 9 _ (by kernel_rfl) (by kernel_rfl) rfl (by decide))
    simp only [d9] at hK9 ⊢
    simp only [Act.put, List.setIfInBounds_toArray, List.set_cons_zero, List.set_cons_succ] at hK9
    go_simp
    exact hK9 _ _ rfl hC9 (Below.refl _ _)
  refine wpFactsR_nil fun vs LA wA hLA hCA hB => ?_
  have dl := FactN.eq (hB 10 _ rfl rfl (by decide))
  simp only [dl]
  clear hB dl
  replace b1 := b1.trans (hCA.mono b1.size)
  replace L1 := L1.below hCA L1.lt
  replace ht1 := ht1.then hCA
  have q3 := L1.cell 3
  simp only [List.getElem?_cons_zero, List.getElem?_cons_succ] at q3
  obtain ⟨v, hv⟩ : ∃ v, (x.h == 0) = v := ⟨_, rfl⟩
  cases v
  · have hz : ¬ x.h = 0 := by simpa using hv
    have hp : 0 < x.h := by omega
    have hv2 : (x.h != 0) = true := by simp [hz]
    go_wp2_with fail
    refine wp_region_factsW (fun _ => (fun W9 => Below wA.heap.size wA W9)) (fun _ w1 w2 => Below w1.heap.size w1 w2) (by kernel_rfl) (by kernel_rfl) (by kernel_rfl) (Below.refl _ _).drew ?_
    simp only [fillOps, Act.put, List.setIfInBounds_toArray, List.set_cons_zero, List.set_cons_succ, Nat.zero_add, Nat.reduceAdd]
    refine wpFactsW_val (.string ((((⟨#[108, 111, 116, 32]⟩ ++ t1) ++ ⟨#[32]⟩) ++ sb))) (fun vs L9 w9 hG9 hC9 hB K9 hK9 => ?_) ?_
    next =>
      have e11 : vs 11 = .string ((((⟨#[108, 111, 116, 32]⟩ ++ t1) ++ ⟨#[32]⟩) ++ sb)) := hG9.old 11 (by kernel_rfl)
      simp only [e11] at hK9 ⊢
      go_simp
      exact hK9 _ _ rfl hC9 (Below.refl _ _)
    apply wpFactsW_val
    case h1 =>
      intro vs L9 w9 hG9 hC9 hB K9 hK9
      simp only [Act.put, List.setIfInBounds_toArray, List.set_cons_zero, List.set_cons_succ] at hK9
      go_simp
      exact hK9 _ _ rfl hC9 (Below.refl _ _)
    apply wpFactsW_val
    case h1 =>
      intro vs L9 w9 hG9 hC9 hB K9 hK9
      have d1 := FactN.eq (hB 1 _ (by kernel_rfl) (by kernel_rfl) rfl (by decide))
      simp only [d1] at hK9 ⊢
      have q0 : w9.cell? ⟨g, 3, none⟩ = some (.int .i64 x.h) := (L1.below hC9 L1.lt).cell 3
      simp only [Act.put, List.setIfInBounds_toArray, List.set_cons_zero, List.set_cons_succ] at hK9
      go_simp
      exact hK9 _ _ rfl hC9 (Below.refl _ _)
    refine wpFactsW_val (.string t2) (fun vs L9 w9 hG9 hC9 hB K9 hK9 => ?_) ?_
    next =>
      have d2 := FactN.eq (hB 2 _ (by kernel_rfl) (by kernel_rfl) rfl (by decide))
      simp only [d2] at hK9 ⊢
      go_simp
      refine (N2.out _ (ht1.then hC9)).mono ?_
      rintro en w8 ⟨rfl, hb8⟩
      exact hK9 _ _ rfl (hC9.trans (hb8.mono hC9.size)) (hb8)
    refine wpFactsW_val (.string (⟨#[32]⟩ ++ t2)) (fun vs L9 w9 hG9 hC9 hB K9 hK9 => ?_) ?_
    next =>
      have d3 := FactN.eq (hB 3 _ (by kernel_rfl) (by kernel_rfl) rfl (by decide))
      simp only [d3] at hK9 ⊢
      go_simp
      (first | (rw [if_neg (by first | omega | (simp only [size_app]; omega))]; go_simp) | skip)
      exact hK9 _ _ rfl hC9 (Below.refl _ _)
    refine wpFactsW_val (.string ((⟨#[32]⟩ ++ t2) ++ ⟨#[32, 98, 121, 32]⟩)) (fun vs L9 w9 hG9 hC9 hB K9 hK9 => ?_) ?_
    next =>
      have d4 := FactN.eq (hB 4 _ (by kernel_rfl) (by kernel_rfl) rfl (by decide))
      simp only [d4] at hK9 ⊢
      go_simp
      (first | (rw [if_neg (by first | omega | (simp only [size_app]; omega))]; go_simp) | skip)
      exact hK9 _ _ rfl hC9 (Below.refl _ _)
    apply wpFactsW_val
    case h1 =>
      intro vs L9 w9 hG9 hC9 hB K9 hK9
      simp only [Act.put, List.setIfInBounds_toArray, List.set_cons_zero, List.set_cons_succ] at hK9
      go_simp
      exact hK9 _ _ rfl hC9 (Below.refl _ _)
    apply wpFactsW_val
    case h1 =>
      intro vs L9 w9 hG9 hC9 hB K9 hK9
      have d6 := FactN.eq (hB 6 _ (by kernel_rfl) (by kernel_rfl) rfl (by decide))
      simp only [d6] at hK9 ⊢
      have q0 : w9.cell? ⟨g, 4, none⟩ = some (.int .i64 x.b) := (L1.below hC9 L1.lt).cell 4
      simp only [Act.put, List.setIfInBounds_toArray, List.set_cons_zero, List.set_cons_succ] at hK9
      go_simp
      exact hK9 _ _ rfl hC9 (Below.refl _ _)
    refine wpFactsW_val (.string t3) (fun vs L9 w9 hG9 hC9 hB K9 hK9 => ?_) ?_
    next =>
      have d7 := FactN.eq (hB 7 _ (by kernel_rfl) (by kernel_rfl) rfl (by decide))
      simp only [d7] at hK9 ⊢
      go_simp
      refine (N3.out _ (ht1.then hC9)).mono ?_
      rintro en w8 ⟨rfl, hb8⟩
      exact hK9 _ _ rfl (hC9.trans (hb8.mono hC9.size)) (hb8)
    refine wpFactsW_val (.string (((⟨#[32]⟩ ++ t2) ++ ⟨#[32, 98, 121, 32]⟩) ++ t3)) (fun vs L9 w9 hG9 hC9 hB K9 hK9 => ?_) ?_
    next =>
      have d5 := FactN.eq (hB 5 _ (by kernel_rfl) (by kernel_rfl) rfl (by decide))
      have d8 := FactN.eq (hB 8 _ (by kernel_rfl) (by kernel_rfl) rfl (by decide))
      simp only [d5, d8] at hK9 ⊢
      go_simp
      (first | (rw [if_neg (by first | omega | (simp only [size_app]; omega))]; go_simp) | skip)
      exact hK9 _ _ rfl hC9 (Below.refl _ _)
    refine wpFactsW_val (.string ((((⟨#[108, 111, 116, 32]⟩ ++ t1) ++ ⟨#[32]⟩) ++ sb) ++ (((⟨#[32]⟩ ++ t2) ++ ⟨#[32, 98, 121, 32]⟩) ++ t3))) (fun vs L9 w9 hG9 hC9 hB K9 hK9 => ?_) ?_
    next =>
      have d0 := FactN.eq (hB 0 _ (by kernel_rfl) (by kernel_rfl) rfl (by decide))
      have d9 := FactN.eq (hB 9 _ (by kernel_rfl) (by kernel_rfl) rfl (by decide))
      simp only [d0, d9] at hK9 ⊢
      go_simp
      (first | (rw [if_neg (by first | omega | (simp only [size_app]; omega))]; go_simp) | skip)
      exact hK9 _ _ rfl hC9 (Below.refl _ _)
    apply wpFactsW_val
    case h1 =>
      intro vs L9 w9 hG9 hC9 hB K9 hK9
      have d10 := FactN.eq (hB 10 _ (by kernel_rfl) (by kernel_rfl) rfl (by decide))
      simp only [d10] at hK9 ⊢
      simp only [Act.put, List.setIfInBounds_toArray, List.set_cons_zero, List.set_cons_succ] at hK9
      go_simp
      exact hK9 _ _ rfl hC9 (Below.refl _ _)
    refine wpFactsW_nil fun vs L9 w9 hL9 hC9 hB => ?_
    have dl := FactN.eq (hB 11 _ rfl rfl (by decide))
    simp only [dl]
    clear hB dl
    replace b1 := b1.trans (hC9.mono b1.size)
    go_wp2
    refine bodyPost_ret (v := .tuple #[.string (((((⟨#[108, 111, 116, 32]⟩ ++ t1) ++ ⟨#[32]⟩) ++ sb) ++ (((⟨#[32]⟩ ++ t2) ++ ⟨#[32, 98, 121, 32]⟩) ++ t3))), .bool true]) (by simp [results, Tryd.results20, go_sem, *]) rfl (GivesX.mk (HT.out.trans (bl_ext (by simp [bl_app, bl_lit, HE1.out, HE2.out, HE3.out, HSB.out, saleB, hz])).symm) HV.out b1)
  · have hz : x.h = 0 := by simpa using hv
    have HZ := Lib.hid hz
    clear hz
    have hp : ¬ 0 < x.h := by have := HZ.out; omega
    have hv2 : (x.h != 0) = false := by simp [HZ.out]
    go_wp2
    refine bodyPost_ret (v := .tuple #[.string ((((⟨#[108, 111, 116, 32]⟩ ++ t1) ++ ⟨#[32]⟩) ++ sb)), .bool true]) (by simp [results, Tryd.results20, go_sem, *]) rfl (GivesX.mk (HT.out.trans (bl_ext (by simp [bl_app, bl_lit, HE1.out, HSB.out, saleB, HZ.out])).symm) HV.out b1)

set_option maxRecDepth 100000 in
set_option maxHeartbeats 4000000 in
theorem l29Text_any (x : Lot) (w : World) (hok : x.ok = true) : Calls Tryd.prog 40 #[x.val] w fun e w' => e = .returned (.string (saleT x)) ∧ Below w.heap.size w w' := by
  have b0 := (Below.refl w.heap.size w).alloc (Nat.le_refl _) (.cells #[.int .i64 x.i, .int .i64 x.r, .int .i64 x.s, .int .i64 x.h, .int .i64 x.b] 41)
  have L0 := Lies.new w 41 #[.int .i64 x.i, .int .i64 x.r, .int .i64 x.s, .int .i64 x.h, .int .i64 x.b]
  go_enter Tryd.func40, Tryd.ntmps40
  go_wp2_with fail
  have hok := hok
  clear hok
  have HT : Hid (saleT x = ⟨(saleB x).toArray⟩) := by rw [Hid]; unfold saleT; rw [if_pos hok]
  obtain ⟨hi0, hi1, hh0, hh1, hc0, hc1, hs0, hs3⟩ : 1 ≤ x.i ∧ x.i ≤ 99 ∧ 0 ≤ x.h ∧ x.h ≤ 99999 ∧ 0 ≤ x.b ∧ x.b ≤ 999 ∧ 0 ≤ x.s ∧ x.s ≤ 3 := lot_bounds hok
  clear hok
  obtain ⟨t1, e1⟩ : ∃ t : ByteArray, t = ⟨(Lib.itoa x.i).toArray⟩ := ⟨_, rfl⟩
  have y1 : t1.size ≤ 100 := by rw [e1]; exact itoa_len (by omega) (by omega)
  have N1 : Hid (∀ W, Calls Tryd.prog 55 #[.int .i64 x.i] W fun e w' => e = .returned (.string t1) ∧ Below W.heap.size W w') := by rw [e1]; exact fun W => l1Num_any _ W (by omega) (by omega)
  have HE1 : Hid (bl t1 = Lib.itoa x.i) := by rw [Hid, e1, bl_mk]
  obtain ⟨t2, e2⟩ : ∃ t : ByteArray, t = ⟨(Lib.itoa x.h).toArray⟩ := ⟨_, rfl⟩
  have y2 : t2.size ≤ 100 := by rw [e2]; exact itoa_len (by omega) (by omega)
  have N2 : Hid (∀ W, Calls Tryd.prog 55 #[.int .i64 x.h] W fun e w' => e = .returned (.string t2) ∧ Below W.heap.size W w') := by rw [e2]; exact fun W => l1Num_any _ W (by omega) (by omega)
  have HE2 : Hid (bl t2 = Lib.itoa x.h) := by rw [Hid, e2, bl_mk]
  obtain ⟨t3, e3⟩ : ∃ t : ByteArray, t = ⟨(Lib.itoa x.b).toArray⟩ := ⟨_, rfl⟩
  have y3 : t3.size ≤ 100 := by rw [e3]; exact itoa_len (by omega) (by omega)
  have N3 : Hid (∀ W, Calls Tryd.prog 55 #[.int .i64 x.b] W fun e w' => e = .returned (.string t3) ∧ Below W.heap.size W w') := by rw [e3]; exact fun W => l1Num_any _ W (by omega) (by omega)
  have HE3 : Hid (bl t3 = Lib.itoa x.b) := by rw [Hid, e3, bl_mk]
  clear e1 e2 e3
  have HB : Hid (bl (stB x.s) = bl (stB x.s)) := rfl
  have yB := stB_size x.s
  obtain ⟨sb, hsb⟩ : ∃ s, stB x.s = s := ⟨_, rfl⟩
  have IX := Lib.hid (idx4 x.s hs0 hs3)
  rw [hsb] at HB yB IX
  have HSB := Lib.hid hsb
  clear hsb HB
  have hs4 : x.s < 4 := by omega
  have z1 : (⟨#[108, 111, 116, 32]⟩ : ByteArray).size = 4 := rfl
  have z2 : (⟨#[32]⟩ : ByteArray).size = 1 := rfl
  have z3 : (⟨#[32, 98, 121, 32]⟩ : ByteArray).size = 4 := rfl
  generalize (w.alloc (.cells #[.int .i64 x.i, .int .i64 x.r, .int .i64 x.s, .int .i64 x.h, .int .i64 x.b] 41)) = W at b0 L0 ⊢
  have b1 := b0
  have L1 := L0
  clear b0 L0
  generalize hg : w.heap.size = g at L1 ⊢
  have hge : w.heap.size ≤ g := Nat.le_of_eq hg
  clear hg
  have CELL : Hid (∀ (W9 : World) b, Lies W9 b 9 [.string ⟨#[119, 97, 105, 116, 115]⟩, .string ⟨#[111, 112, 101, 110]⟩, .string ⟨#[115, 111, 108, 100]⟩, .string ⟨#[112, 97, 115, 115, 101, 100]⟩] → W9.cell? ⟨b, x.s.toNat, none⟩ = some (.string sb)) := by
    intro W9 b hL
    rw [← HSB.out]
    obtain h | h | h | h : x.s = 0 ∨ x.s = 1 ∨ x.s = 2 ∨ x.s = 3 := by omega
    all_goals
      rw [h]
      first | exact hL.cell 0 | exact hL.cell 1 | exact hL.cell 2 | exact hL.cell 3
  refine wp_region_factsR (fun _ => (fun W9 => Below W.heap.size W W9)) (fun _ w1 w2 => Below w1.heap.size w1 w2) (by kernel_rfl) (by kernel_rfl) (by kernel_rfl) (Below.refl _ _).drew ?_
  simp only [fillOps, Act.put, List.setIfInBounds_toArray, List.set_cons_zero, List.set_cons_succ, Nat.zero_add, Nat.reduceAdd]
  apply wpFactsR_val
  case h1 =>
    intro vs L9 w9 hG9 hC9 hB K9 hK9
    simp only [Act.put, List.setIfInBounds_toArray, List.set_cons_zero, List.set_cons_succ] at hK9
    go_simp
    exact hK9 _ _ rfl hC9 (Below.refl _ _)
  apply wpFactsR_val
  case h1 =>
    intro vs L9 w9 hG9 hC9 hB K9 hK9
    have d0 := FactN.eq (hB 0 _ (by kernel_rfl) (by kernel_rfl) rfl (by decide))
    simp only [d0] at hK9 ⊢
    have q0 : w9.cell? ⟨g, 0, none⟩ = some (.int .i64 x.i) := (L1.below hC9 L1.lt).cell 0
    simp only [Act.put, List.setIfInBounds_toArray, List.set_cons_zero, List.set_cons_succ] at hK9
    go_simp
    exact hK9 _ _ rfl hC9 (Below.refl _ _)
  refine wpFactsR_val (.string t1) (fun vs L9 w9 hG9 hC9 hB K9 hK9 => ?_) ?_
  next =>
    have d1 := FactN.eq (hB 1 _ (by kernel_rfl) (by kernel_rfl) rfl (by decide))
    simp only [d1] at hK9 ⊢
    go_simp
    refine (N1.out _).mono ?_
    rintro en w8 ⟨rfl, hb8⟩
    exact hK9 _ _ rfl (hC9.trans (hb8.mono hC9.size)) (hb8)
  refine wpFactsR_val (.string (⟨#[108, 111, 116, 32]⟩ ++ t1)) (fun vs L9 w9 hG9 hC9 hB K9 hK9 => ?_) ?_
  next =>
    have d2 := FactN.eq (hB 2 _ (by kernel_rfl) (by kernel_rfl) rfl (by decide))
    simp only [d2] at hK9 ⊢
    go_simp
    (first | (rw [if_neg (by first | omega | (simp only [size_app]; omega))]; go_simp) | skip)
    exact hK9 _ _ rfl hC9 (Below.refl _ _)
  refine wpFactsR_val (.string ((⟨#[108, 111, 116, 32]⟩ ++ t1) ++ ⟨#[32]⟩)) (fun vs L9 w9 hG9 hC9 hB K9 hK9 => ?_) ?_
  next =>
    have d3 := FactN.eq (hB 3 _ (by kernel_rfl) (by kernel_rfl) rfl (by decide))
    simp only [d3] at hK9 ⊢
    go_simp
    (first | (rw [if_neg (by first | omega | (simp only [size_app]; omega))]; go_simp) | skip)
    exact hK9 _ _ rfl hC9 (Below.refl _ _)
  refine wpFactsR_some [] (fun v w9 => ∃ b : Nat, v = .slice (some ⟨b, 0, none⟩) 4 4 ∧ Lies w9 b 9 [.string ⟨#[119, 97, 105, 116, 115]⟩, .string ⟨#[111, 112, 101, 110]⟩, .string ⟨#[115, 111, 108, 100]⟩, .string ⟨#[112, 97, 115, 115, 101, 100]⟩]) ?_ (fun vs L9 w9 hG9 hC9 hB K9 hK9 => ?_) ?_
  next =>
    intro i9 hi9 hb9 ha9 v w1 w2 hv hT9
    have hb := hT9
    obtain ⟨b, q1, q2⟩ := hv
    exact ⟨b, q1, q2.below hb q2.lt⟩
  next =>
    simp only [Act.put, List.setIfInBounds_toArray, List.set_cons_zero, List.set_cons_succ] at hK9
    go_simp
    exact hK9 _ _ _ rfl ⟨_, rfl, Lies.new w9 9 _⟩ (hC9.alloc hC9.size _) ((Below.refl _ _).alloc (Nat.le_refl _) _)
  apply wpFactsR_val
  case h1 =>
    intro vs L9 w9 hG9 hC9 hB K9 hK9
    simp only [Act.put, List.setIfInBounds_toArray, List.set_cons_zero, List.set_cons_succ] at hK9
    go_simp
    exact hK9 _ _ rfl hC9 (Below.refl _ _)
  apply wpFactsR_val
  case h1 =>
    intro vs L9 w9 hG9 hC9 hB K9 hK9
    have d6 := FactN.eq (hB 6 _ (by kernel_rfl) (by kernel_rfl) rfl (by decide))
    simp only [d6] at hK9 ⊢
    have q0 : w9.cell? ⟨g, 2, none⟩ = some (.int .i64 x.s) := (L1.below hC9 L1.lt).cell 2
    simp only [Act.put, List.setIfInBounds_toArray, List.set_cons_zero, List.set_cons_succ] at hK9
    go_simp
    exact hK9 _ _ rfl hC9 (Below.refl _ _)
  refine wpFactsR_some [] (fun v w9 => ∃ b : Nat, v = .pointer (some ⟨b, x.s.toNat, none⟩) ∧ w9.cell? ⟨b, x.s.toNat, none⟩ = some (.string sb) ∧ b < w9.heap.size) ?_ (fun vs L9 w9 hG9 hC9 hB K9 hK9 => ?_) ?_
  next =>
    intro i9 hi9 hb9 ha9 v w1 w2 hv hT9
    have hb := hT9
    obtain ⟨b, q1, q2, q3⟩ := hv
    exact ⟨b, q1, (hb.cell q3).trans q2, Nat.lt_of_lt_of_le q3 hb.size⟩
  next =>
    have d7 := FactN.eq (hB 7 _ (by kernel_rfl) (by kernel_rfl) rfl (by decide))
    simp only [d7] at hK9 ⊢
    simp only [Act.put, List.setIfInBounds_toArray, List.set_cons_zero, List.set_cons_succ] at hK9
    obtain ⟨b, q1, q2⟩ := hB 5 _ (by kernel_rfl) (by kernel_rfl) rfl (by decide)
    simp only [q1] at hK9 ⊢
    go_simp
    exact hK9 _ _ _ rfl ⟨b, rfl, CELL.out w9 b q2, q2.lt⟩ hC9 (Below.refl _ _)
  refine wpFactsR_val (.string sb) (fun vs L9 w9 hG9 hC9 hB K9 hK9 => ?_) ?_
  next =>
    obtain ⟨b, q1, q2, q3⟩ := hB 8 _ (by kernel_rfl) (by kernel_rfl) rfl (by decide)
    simp only [q1] at hK9 ⊢
    go_simp
    exact hK9 _ _ rfl hC9 (Below.refl _ _)
  refine wpFactsR_val (.string (((⟨#[108, 111, 116, 32]⟩ ++ t1) ++ ⟨#[32]⟩) ++ sb)) (fun vs L9 w9 hG9 hC9 hB K9 hK9 => ?_) ?_
  next =>
    have d4 := FactN.eq (hB 4 _ (by kernel_rfl) (by kernel_rfl) rfl (by decide))
    have d9 := FactN.eq (hB 9 _ (by kernel_rfl) (by kernel_rfl) rfl (by decide))
    simp only [d4, d9] at hK9 ⊢
    go_simp
    (first | (rw [if_neg (by first | omega | (simp only [size_app]; omega))]; go_simp) | skip)
    exact hK9 _ _ rfl hC9 (Below.refl _ _)
  apply wpFactsR_val
  case h1 =>
    intro vs L9 w9 hG9 hC9 hB K9 hK9
    have d10 := FactN.eq (hB 10 _ (by kernel_rfl) (by kernel_rfl) rfl (by decide))
    simp only [d10] at hK9 ⊢
    simp only [Act.put, List.setIfInBounds_toArray, List.set_cons_zero, List.set_cons_succ] at hK9
    go_simp
    exact hK9 _ _ rfl hC9 (Below.refl _ _)
  refine wpFactsR_nil fun vs LA wA hLA hCA hB => ?_
  have dl := FactN.eq (hB 11 _ rfl rfl (by decide))
  simp only [dl]
  clear hB dl
  replace b1 := b1.trans (hCA.mono b1.size)
  replace L1 := L1.below hCA L1.lt
  have q3 := L1.cell 3
  simp only [List.getElem?_cons_zero, List.getElem?_cons_succ] at q3
  obtain ⟨v, hv⟩ : ∃ v, (x.h == 0) = v := ⟨_, rfl⟩
  cases v
  · have hz : ¬ x.h = 0 := by simpa using hv
    have hp : 0 < x.h := by omega
    go_wp2_with fail
    refine wp_region_factsW (fun _ => (fun W9 => Below wA.heap.size wA W9)) (fun _ w1 w2 => Below w1.heap.size w1 w2) (by kernel_rfl) (by kernel_rfl) (by kernel_rfl) (Below.refl _ _).drew ?_
    simp only [fillOps, Act.put, List.setIfInBounds_toArray, List.set_cons_zero, List.set_cons_succ, Nat.zero_add, Nat.reduceAdd]
    refine wpFactsW_val (.string ((((⟨#[108, 111, 116, 32]⟩ ++ t1) ++ ⟨#[32]⟩) ++ sb))) (fun vs L9 w9 hG9 hC9 hB K9 hK9 => ?_) ?_
    next =>
      have e11 : vs 11 = .string ((((⟨#[108, 111, 116, 32]⟩ ++ t1) ++ ⟨#[32]⟩) ++ sb)) := hG9.old 11 (by kernel_rfl)
      simp only [e11] at hK9 ⊢
      go_simp
      exact hK9 _ _ rfl hC9 (Below.refl _ _)
    refine wpFactsW_val (.string ((((⟨#[108, 111, 116, 32]⟩ ++ t1) ++ ⟨#[32]⟩) ++ sb) ++ ⟨#[32]⟩)) (fun vs L9 w9 hG9 hC9 hB K9 hK9 => ?_) ?_
    next =>
      have d0 := FactN.eq (hB 0 _ (by kernel_rfl) (by kernel_rfl) rfl (by decide))
      simp only [d0] at hK9 ⊢
      go_simp
      (first | (rw [if_neg (by first | omega | (simp only [size_app]; omega))]; go_simp) | skip)
      exact hK9 _ _ rfl hC9 (Below.refl _ _)
    apply wpFactsW_val
    case h1 =>
      intro vs L9 w9 hG9 hC9 hB K9 hK9
      simp only [Act.put, List.setIfInBounds_toArray, List.set_cons_zero, List.set_cons_succ] at hK9
      go_simp
      exact hK9 _ _ rfl hC9 (Below.refl _ _)
    apply wpFactsW_val
    case h1 =>
      intro vs L9 w9 hG9 hC9 hB K9 hK9
      have d2 := FactN.eq (hB 2 _ (by kernel_rfl) (by kernel_rfl) rfl (by decide))
      simp only [d2] at hK9 ⊢
      have q0 : w9.cell? ⟨g, 3, none⟩ = some (.int .i64 x.h) := (L1.below hC9 L1.lt).cell 3
      simp only [Act.put, List.setIfInBounds_toArray, List.set_cons_zero, List.set_cons_succ] at hK9
      go_simp
      exact hK9 _ _ rfl hC9 (Below.refl _ _)
    refine wpFactsW_val (.string t2) (fun vs L9 w9 hG9 hC9 hB K9 hK9 => ?_) ?_
    next =>
      have d3 := FactN.eq (hB 3 _ (by kernel_rfl) (by kernel_rfl) rfl (by decide))
      simp only [d3] at hK9 ⊢
      go_simp
      refine (N2.out _).mono ?_
      rintro en w8 ⟨rfl, hb8⟩
      exact hK9 _ _ rfl (hC9.trans (hb8.mono hC9.size)) (hb8)
    refine wpFactsW_val (.string (((((⟨#[108, 111, 116, 32]⟩ ++ t1) ++ ⟨#[32]⟩) ++ sb) ++ ⟨#[32]⟩) ++ t2)) (fun vs L9 w9 hG9 hC9 hB K9 hK9 => ?_) ?_
    next =>
      have d1 := FactN.eq (hB 1 _ (by kernel_rfl) (by kernel_rfl) rfl (by decide))
      have d4 := FactN.eq (hB 4 _ (by kernel_rfl) (by kernel_rfl) rfl (by decide))
      simp only [d1, d4] at hK9 ⊢
      go_simp
      (first | (rw [if_neg (by first | omega | (simp only [size_app]; omega))]; go_simp) | skip)
      exact hK9 _ _ rfl hC9 (Below.refl _ _)
    refine wpFactsW_val (.string ((((((⟨#[108, 111, 116, 32]⟩ ++ t1) ++ ⟨#[32]⟩) ++ sb) ++ ⟨#[32]⟩) ++ t2) ++ ⟨#[32, 98, 121, 32]⟩)) (fun vs L9 w9 hG9 hC9 hB K9 hK9 => ?_) ?_
    next =>
      have d5 := FactN.eq (hB 5 _ (by kernel_rfl) (by kernel_rfl) rfl (by decide))
      simp only [d5] at hK9 ⊢
      go_simp
      (first | (rw [if_neg (by first | omega | (simp only [size_app]; omega))]; go_simp) | skip)
      exact hK9 _ _ rfl hC9 (Below.refl _ _)
    apply wpFactsW_val
    case h1 =>
      intro vs L9 w9 hG9 hC9 hB K9 hK9
      simp only [Act.put, List.setIfInBounds_toArray, List.set_cons_zero, List.set_cons_succ] at hK9
      go_simp
      exact hK9 _ _ rfl hC9 (Below.refl _ _)
    apply wpFactsW_val
    case h1 =>
      intro vs L9 w9 hG9 hC9 hB K9 hK9
      have d7 := FactN.eq (hB 7 _ (by kernel_rfl) (by kernel_rfl) rfl (by decide))
      simp only [d7] at hK9 ⊢
      have q0 : w9.cell? ⟨g, 4, none⟩ = some (.int .i64 x.b) := (L1.below hC9 L1.lt).cell 4
      simp only [Act.put, List.setIfInBounds_toArray, List.set_cons_zero, List.set_cons_succ] at hK9
      go_simp
      exact hK9 _ _ rfl hC9 (Below.refl _ _)
    refine wpFactsW_val (.string t3) (fun vs L9 w9 hG9 hC9 hB K9 hK9 => ?_) ?_
    next =>
      have d8 := FactN.eq (hB 8 _ (by kernel_rfl) (by kernel_rfl) rfl (by decide))
      simp only [d8] at hK9 ⊢
      go_simp
      refine (N3.out _).mono ?_
      rintro en w8 ⟨rfl, hb8⟩
      exact hK9 _ _ rfl (hC9.trans (hb8.mono hC9.size)) (hb8)
    refine wpFactsW_val (.string (((((((⟨#[108, 111, 116, 32]⟩ ++ t1) ++ ⟨#[32]⟩) ++ sb) ++ ⟨#[32]⟩) ++ t2) ++ ⟨#[32, 98, 121, 32]⟩) ++ t3)) (fun vs L9 w9 hG9 hC9 hB K9 hK9 => ?_) ?_
    next =>
      have d6 := FactN.eq (hB 6 _ (by kernel_rfl) (by kernel_rfl) rfl (by decide))
      have d9 := FactN.eq (hB 9 _ (by kernel_rfl) (by kernel_rfl) rfl (by decide))
      simp only [d6, d9] at hK9 ⊢
      go_simp
      (first | (rw [if_neg (by first | omega | (simp only [size_app]; omega))]; go_simp) | skip)
      exact hK9 _ _ rfl hC9 (Below.refl _ _)
    apply wpFactsW_val
    case h1 =>
      intro vs L9 w9 hG9 hC9 hB K9 hK9
      have d10 := FactN.eq (hB 10 _ (by kernel_rfl) (by kernel_rfl) rfl (by decide))
      simp only [d10] at hK9 ⊢
      simp only [Act.put, List.setIfInBounds_toArray, List.set_cons_zero, List.set_cons_succ] at hK9
      go_simp
      exact hK9 _ _ rfl hC9 (Below.refl _ _)
    refine wpFactsW_nil fun vs L9 w9 hL9 hC9 hB => ?_
    have dl := FactN.eq (hB 11 _ rfl rfl (by decide))
    simp only [dl]
    clear hB dl
    replace b1 := b1.trans (hC9.mono b1.size)
    go_wp2
    refine bodyPost_ret (v := .string ((((((((⟨#[108, 111, 116, 32]⟩ ++ t1) ++ ⟨#[32]⟩) ++ sb) ++ ⟨#[32]⟩) ++ t2) ++ ⟨#[32, 98, 121, 32]⟩) ++ t3))) (by simp [results, Tryd.results40, go_sem, *]) rfl ⟨by rw [show saleT x = (((((((⟨#[108, 111, 116, 32]⟩ ++ t1) ++ ⟨#[32]⟩) ++ sb) ++ ⟨#[32]⟩) ++ t2) ++ ⟨#[32, 98, 121, 32]⟩) ++ t3) from HT.out.trans (bl_ext (by simp [bl_app, bl_lit, HE1.out, HE2.out, HE3.out, HSB.out, saleB, hz])).symm], b1⟩
  · have hz : x.h = 0 := by simpa using hv
    have HZ := Lib.hid hz
    clear hz
    have hp : ¬ 0 < x.h := by have := HZ.out; omega
    go_wp2
    refine bodyPost_ret (v := .string ((((⟨#[108, 111, 116, 32]⟩ ++ t1) ++ ⟨#[32]⟩) ++ sb))) (by simp [results, Tryd.results40, go_sem, *]) rfl ⟨by rw [show saleT x = (((⟨#[108, 111, 116, 32]⟩ ++ t1) ++ ⟨#[32]⟩) ++ sb) from HT.out.trans (bl_ext (by simp [bl_app, bl_lit, HE1.out, HSB.out, saleB, HZ.out])).symm], b1⟩

theorem specSale_any (x : Lot) (w : World) : Calls Tryd.prog 21 #[x.val] w (GivesX w (saleT x) x.ok) := by
  have VA := fun W => l29One_any x W
  have b0 := (Below.refl w.heap.size w).alloc (Nat.le_refl _) (.cells #[.int .i64 x.i, .int .i64 x.r, .int .i64 x.s, .int .i64 x.h, .int .i64 x.b] 41)
  have L0 := Lies.new w 41 #[.int .i64 x.i, .int .i64 x.r, .int .i64 x.s, .int .i64 x.h, .int .i64 x.b]
  go_enter Tryd.func21, Tryd.ntmps21
  go_wp2_with fail
  refine (VA _).mono ?_
  rintro e w1 ⟨rfl, hb1⟩
  have L1 := L0.below hb1 L0.lt
  have b1 := b0.trans (hb1.mono b0.size)
  generalize (w.alloc (.cells #[.int .i64 x.i, .int .i64 x.r, .int .i64 x.s, .int .i64 x.h, .int .i64 x.b] 41)) = W at b0 L0 hb1 ⊢
  have q0 := L1.cell 0
  have q1 := L1.cell 1
  have q2 := L1.cell 2
  have q3 := L1.cell 3
  have q4 := L1.cell 4
  simp only [List.getElem?_cons_zero, List.getElem?_cons_succ] at q0 q1 q2 q3 q4
  clear L0 b0 hb1
  obtain ⟨v, hv⟩ : ∃ v, x.ok = v := ⟨_, rfl⟩
  rw [hv]
  have HV := Lib.hid hv
  cases v
  · clear hv
    go_wp2
    refine bodyPost_ret (v := .tuple #[.string ⟨#[]⟩, .bool false]) (by simp [results, Tryd.results21, go_sem, *]) rfl (GivesX.mk (by unfold saleT; rw [HV.out]; rfl) (by first | rfl | exact HV.out) b1)
  · have TX := l29Text_any x w1 hv
    clear hv
    obtain ⟨T, hT⟩ : ∃ T, saleT x = T := ⟨_, rfl⟩
    rw [hT] at TX
    have HT := Lib.hid hT
    clear hT
    go_wp2_with fail
    refine TX.mono ?_
    rintro e w2 ⟨rfl, hb2⟩
    replace b1 := b1.trans (hb2.mono b1.size)
    go_wp2
    refine bodyPost_ret (v := .tuple #[.string T, .bool true]) (by simp [results, Tryd.results21, go_sem, *]) rfl (GivesX.mk HT.out (by first | rfl | exact HV.out) b1)

end Go.Proofs.YtkokbmmffkpclaaDoor

/- FnBuyers: the plain facts of the law (no program in sight). -/
namespace Go.Proofs.YtkokbmmffkpclaaDoor
open Go.RowKit

theorem told_turn {l : List Lot} (h : goodLots l = true) : bestOk l = decide (0 < turnS l) := by
  have F := best_facts (goodL_iff.1 h)
  unfold bestOk turnS
  rw [h, Bool.true_and, if_pos rfl, Bool.eq_iff_iff, decide_eq_true_eq, decide_eq_true_eq]
  exact F.1
theorem told_good {l : List Lot} (h : bestOk l = true) : goodLots l = true := by
  unfold bestOk at h; rw [Bool.and_eq_true] at h; exact h.1
theorem told_most {l : List Lot} {z : Int} (h : bestOk l = true) (hz : buyOk l z = true) : buyOk l (bestV l) = true ∧ buyS l z ≤ buyS l (bestV l) ∧ buyS l (bestV l) ≤ turnS l := by
  have hg := told_good h
  have F := best_facts (goodL_iff.1 hg)
  have hb : 0 < (bestGo l 999).1 := by unfold bestOk at h; rw [Bool.and_eq_true, decide_eq_true_eq] at h; exact h.2
  have hv : bestV l = (bestGo l 999).1 := by unfold bestV; rw [if_pos hg]
  have hk : buyOk l (bestV l) = true := by unfold buyOk; rw [hg, Bool.true_and, hv]; exact inR_iff.2 ⟨by omega, F.2.2.2.1⟩
  have hi : 1 ≤ z ∧ z ≤ 999 := by unfold buyOk at hz; rw [Bool.and_eq_true] at hz; exact inR_iff.1 hz.2
  refine ⟨hk, ?_, ?_⟩
  · unfold buyS; rw [if_pos hz, if_pos hk, hv]; exact F.2.1 z hi.1 hi.2
  · unfold buyS turnS; rw [if_pos hk, if_pos hg]; exact F.2.2.1 _
theorem in_ok {l : List Lot} (h : goodLots l = true) {s : Int} (h0 : 0 ≤ s) (h3 : s ≤ 3) : inOk l s = true ∧ inR' l s = idsF (inSt s) l := by
  have : inOk l s = true := by unfold inOk; rw [h, Bool.true_and]; exact inR_iff.2 ⟨h0, h3⟩
  exact ⟨this, by unfold inR'; rw [if_pos this]⟩
/-- How many lots are in the first states. -/
def inCnt (l : List Lot) : Nat → Nat
  | 0 => 0
  | k + 1 => inCnt l k + (idsF (inSt k) l).length
theorem inCnt_le (l : List Lot) : ∀ k, inCnt l k ≤ k * l.length
  | 0 => by simp [inCnt]
  | k + 1 => by
    have h1 := inCnt_le l k
    have h2 := idsF_len (inSt k) l
    rw [inCnt, Nat.succ_mul]; omega
theorem inCnt_all {l : List Lot} (h : goodLots l = true) : inCnt l 4 = l.length := by
  have := states_all (l := l) (goodL_iff.1 h).all
  simp only [inCnt]
  have e0 : ((0 : Nat) : Int) = 0 := rfl
  have e1 : ((1 : Nat) : Int) = 1 := rfl
  have e2 : ((2 : Nat) : Int) = 2 := rfl
  have e3 : ((3 : Nat) : Int) = 3 := rfl
  rw [Nat.zero_add] at *
  rw [e0, e1, e2, e3]
  omega
theorem leastV_ge {x : Lot} (h : 0 ≤ x.h) : 1 ≤ leastV x := by
  unfold leastV
  split
  · omega
  · split <;> omega
theorem bid_facts {l : List Lot} (h : leastOk l = true) : ((stepA l ⟨4, 0, 1, leastR l⟩).isSome = true ∨ (stepA l ⟨4, 0, 2, leastR l⟩).isSome = true) ∧ (stepA l ⟨4, 0, 1, leastR l - 1⟩).isSome = false := by
  have h0 := h
  unfold leastOk at h
  simp only [Bool.and_eq_true, decide_eq_true_eq] at h
  obtain ⟨⟨hg, ho⟩, hle⟩ := h
  have G := goodL_iff.1 hg
  obtain ⟨j, hj, hjl⟩ := open_at (show ¬ openIx l < 0 by omega)
  have hat : atL l (openIx l) = l[j] := by rw [hj]; exact atL_eq rfl hjl
  have hr : leastR l = leastV l[j] := by rw [(least_yes hg ho hle).2, hat]
  have hv1 := leastV_ge (lot_bounds (G.all _ (List.getElem_mem hjl))).2.2.1
  rw [hat] at hle
  have key : ∀ b : Int, 1 ≤ b → b ≤ 999 → b ≠ l[j].b → (stepA l ⟨4, 0, b, leastR l⟩).isSome = true := fun b h1 h9 hne => by
    have hs : (⟨4, 0, b, leastR l⟩ : ASt).ok = true := by
      unfold ASt.ok
      simp only [hr]
      have i1 : inR b 1 999 = true := inR_iff.2 ⟨h1, h9⟩
      have i2 : inR (leastV l[j]) 1 99999 = true := inR_iff.2 ⟨hv1, hle⟩
      simp [i1, i2]
    unfold stepA
    rw [hg, hs, Bool.true_and, if_pos rfl, step4_bid hj hjl, if_pos ⟨by rw [hr]; omega, hne⟩]
    rfl
  refine ⟨?_, ?_⟩
  · by_cases hb : l[j].b = 1
    · exact .inr (key 2 (by omega) (by omega) (by omega))
    · exact .inl (key 1 (by omega) (by omega) (by omega))
  · unfold stepA
    split
    · rw [step4_bid hj hjl, if_neg (by rw [hr]; omega)]
      rfl
    · rfl
theorem least_range {l : List Lot} (h : leastOk l = true) : 1 ≤ leastR l ∧ leastR l ≤ 99999 := by
  unfold leastOk at h
  simp only [Bool.and_eq_true, decide_eq_true_eq] at h
  obtain ⟨⟨hg, ho⟩, hle⟩ := h
  obtain ⟨j, hj, hjl⟩ := open_at (show ¬ openIx l < 0 by omega)
  have hat : atL l (openIx l) = l[j] := by rw [hj]; exact atL_eq rfl hjl
  have hv1 := leastV_ge (lot_bounds ((goodL_iff.1 hg).all _ (List.getElem_mem hjl))).2.2.1
  rw [(least_yes hg ho hle).2, hat]
  rw [hat] at hle
  exact ⟨hv1, hle⟩
end Go.Proofs.YtkokbmmffkpclaaDoor

/- Worlds that grow (no program in sight). -/
namespace Go.Proofs.YtkokbmmffkpclaaDoor
open Go.RowKit

theorem grown_trans {a b c : World} {row : Option Nat} (h : a.grownBy b row) (k : b.grownBy c row) : a.grownBy c row :=
  ⟨k.os.trans h.os, k.tape.trans h.tape, k.output.trans h.output, Nat.le_trans h.size k.size, fun j hj hne => (k.block j (Nat.lt_of_lt_of_le hj h.size) hne).trans (h.block j hj hne)⟩
end Go.Proofs.YtkokbmmffkpclaaDoor

/- The drawing cursor of the reference: next, pick, one, among. -/
namespace Go.Proofs.YtkokbmmffkpclaaDoor
open Go.RowKit

abbrev encBs (l : List UInt8) : List Value := l.map fun b => Value.int .u8 (b.toNat : Int)
theorem encBs_len (l : List UInt8) : (encBs l).length = l.length * 1 := by simp
/-- A slice of bytes reads. -/
abbrev BytesR (w : World) (B : Nat) (A : Option Addr) (l : List UInt8) : Prop := SlcR w B 1 A l.length (encBs l)

theorem grown_drew {a w : World} {row : Option Nat} (h : a.grownBy w row) : a.grownBy w.drew row := ⟨h.os, h.tape, h.output, h.size, h.block⟩
theorem wrap_u64 (n : Int) : 0 ≤ IntKind.u64.wrap n ∧ IntKind.u64.wrap n < 18446744073709551616 := by
  simp [IntKind.wrap, IntKind.signed, IntKind.bits]; omega

theorem and255 (E : Int) (h0 : 0 ≤ E) (h1 : E < 18446744073709551616) : ∃ b : Nat, b ≤ 255 ∧ wrap64 (bits .and .u64 E 255) = (b : Int) := by
  refine ⟨E.toNat &&& 255, Nat.and_le_right, ?_⟩
  rw [u64_and E 255 h0 h1 (by omega) (by omega)]
  have he : (255 : Int).toNat = 255 := rfl
  rw [he]
  have : E.toNat &&& 255 ≤ 255 := Nat.and_le_right
  unfold wrap64; omega

/-- A cursor at block g, over code; at most m steps made. -/
def CurS (w : World) (g : Nat) (A : Option Addr) (n cap m : Nat) : Prop :=
  ∃ (p : Nat) (seed : Int), Lies w g 48 [.slice A n cap, .int .i64 p, .int .u64 seed] ∧ p ≤ m ∧ 0 ≤ seed ∧ seed < 18446744073709551616

set_option maxHeartbeats 1000000 in
theorem next_any (g : Nat) (A : Option Addr) (cap m : Nat) (bs : List UInt8) (w : World) (hm : m ≤ 1000000000) (hc : CurS w g A bs.length cap m) (hr : BytesR w g A bs) :
    Calls Tryd.prog 53 #[.pointer (some ⟨g, 0, none⟩)] w fun e w' => ∃ b : Nat, e = .returned (.int .i64 b) ∧ b ≤ 255 ∧ CurS w' g A bs.length cap (m + 1) ∧ w.grownBy w' (some g) := by
  obtain ⟨p, seed, hL, hp, hs0, hs1⟩ := hc
  have hl := hr.big
  have k0 := hL.cell 0
  have k1 := hL.cell 1
  have k2 := hL.cell 2
  have f1 := hL.frozen 1
  have f2 := hL.frozen 2
  simp only [List.getElem?_cons_zero, List.getElem?_cons_succ] at k0 k1 k2
  by_cases hlt : p < bs.length
  · obtain ⟨b, off, rfl, hb, hcell⟩ := hr.at_ (by omega)
    have kc := hcell p (.int .u8 (bs[p].toNat : Int)) (by simp [hlt])
    have hx : bs[p].toNat < 256 := bs[p].toNat_lt
    generalize bs[p].toNat = x at kc hx
    clear hcell hr
    go_enter Tryd.func53, Tryd.ntmps53
    go_wp2
    go_region
    go_wp2
    go_region
    go_wp2
    go_region
    go_wp2
    · go_ret
      exact ⟨x, rfl, by omega, ⟨p + 1, _, (hL.set 1 _).set 2 _, by omega, (wrap_u64 _).1, (wrap_u64 _).2⟩, grown_drew (grown_drew (grown_drew (grown_set (grown_set (World.grownBy.refl w _)))))⟩
  · clear hr
    go_enter Tryd.func53, Tryd.ntmps53
    go_wp2
    go_region
    go_wp2
    go_region
    go_wp2
    · have hw := wrap_u64 (IntKind.u64.wrap (IntKind.u64.wrap (seed * 6364136223846793005)) + 381907)
      obtain ⟨y, hy, he⟩ := and255 (IntKind.u64.wrap (IntKind.u64.wrap (IntKind.u64.wrap (seed * 6364136223846793005)) + 381907) / 1099511627776) (Int.ediv_nonneg hw.1 (by omega)) (by omega)
      rw [he]
      go_ret
      exact ⟨y, rfl, hy, ⟨p + 1, _, (hL.set 1 _).set 2 _, by omega, hw.1, hw.2⟩, grown_drew (grown_drew (grown_set (grown_set (World.grownBy.refl w _))))⟩

theorem CurS.mono {w : World} {g : Nat} {A : Option Addr} {n cap m m' : Nat} (h : CurS w g A n cap m) (hm : m ≤ m') : CurS w g A n cap m' := by
  obtain ⟨p, s, h1, h2, h3⟩ := h
  exact ⟨p, s, h1, by omega, h3⟩
theorem CurS.lt {w : World} {g : Nat} {A : Option Addr} {n cap m : Nat} (h : CurS w g A n cap m) : g < w.heap.size := by
  obtain ⟨p, s, h1, _⟩ := h
  exact h1.lt
/-- Others than the cursor's own block read as before. -/
theorem SlcR.grown {w w' : World} {B k n g : Nat} {A : Option Addr} {cs : List Value} (h : SlcR w B k A n cs) (hg : w.grownBy w' (some g)) (hB : B ≤ g) (hgw : g < w.heap.size) : SlcR w' B k A n cs :=
  h.keep fun p hp => grown_cell hg p (by omega) (by intro e; injection e; omega)

set_option maxHeartbeats 1000000 in
theorem pick_any (g : Nat) (A : Option Addr) (cap m n : Nat) (bs : List UInt8) (w : World) (hn : n ≤ 100000) (hm : m ≤ 900000000) (hc : CurS w g A bs.length cap m) (hr : BytesR w g A bs) :
    Calls Tryd.prog 37 #[.pointer (some ⟨g, 0, none⟩), .int .i64 n] w fun e w' => ∃ x : Nat, e = .returned (.int .i64 x) ∧ x ≤ n - 1 ∧ CurS w' g A bs.length cap (m + 2) ∧ w.grownBy w' (some g) := by
  by_cases h1 : n ≤ 1
  · have h1' : (n : Int) ≤ 1 := by omega
    go_enter Tryd.func37, Tryd.ntmps37
    go_wp2
    go_ret
    exact ⟨0, rfl, by omega, hc.mono (by omega), World.grownBy.refl w _⟩
  · have h1' : ¬ (n : Int) ≤ 1 := by omega
    have hz : ((n : Int) == 0) = false := by rw [beq_eq_false_iff_ne]; omega
    have hz2 : (n : Int) ≠ 0 := by omega
    by_cases h2 : n ≤ 200
    · go_enter Tryd.func37, Tryd.ntmps37
      go_wp2_with fail
      refine (next_any g A cap m bs _ (by omega) hc hr).mono ?_
      rintro e w1 ⟨b, rfl, hb, hc1, hg1⟩
      go_wp2
      go_ret
      refine ⟨b % n, by rw [Int.natCast_emod]; rfl, ?_, hc1.mono (by omega), hg1⟩
      have := Nat.mod_lt b (show 0 < n by omega)
      omega
    · go_enter Tryd.func37, Tryd.ntmps37
      go_wp2_with fail
      refine (next_any g A cap m bs _ (by omega) hc hr).mono ?_
      rintro e w1 ⟨b, rfl, hb, hc1, hg1⟩
      go_wp2_with fail
      refine (next_any g A cap (m + 1) bs _ (by omega) hc1 (hr.grown hg1 (Nat.le_refl _) hc.lt)).mono ?_
      rintro e w2 ⟨b2, rfl, hb2, hc2, hg2⟩
      go_wp2
      go_ret
      refine ⟨(b * 256 + b2) % n, by rw [Int.natCast_emod]; rfl, ?_, hc2, grown_trans hg1 hg2⟩
      have := Nat.mod_lt (b * 256 + b2) (show 0 < n by omega)
      omega

theorem one_any (g : Nat) (A : Option Addr) (cap m n : Nat) (bs : List UInt8) (w : World) (hn : n ≤ 100000) (hm : m ≤ 900000000) (hc : CurS w g A bs.length cap m) (hr : BytesR w g A bs) :
    Calls Tryd.prog 58 #[.pointer (some ⟨g, 0, none⟩), .int .i64 n] w fun e w' => ∃ x : Bool, e = .returned (.bool x) ∧ CurS w' g A bs.length cap (m + 2) ∧ w.grownBy w' (some g) := by
  go_enter Tryd.func58, Tryd.ntmps58
  go_wp2_with fail
  refine (pick_any g A cap m n bs _ hn hm hc hr).mono ?_
  rintro e w1 ⟨b, rfl, hb, hc1, hg1⟩
  go_wp2
  go_ret
  exact ⟨_, rfl, hc1, hg1⟩

theorem among_any (g : Nat) (A A' : Option Addr) (cap c' m : Nat) (bs : List UInt8) (l : List Int) (w : World) (hl : 0 < l.length) (hl' : l.length ≤ 100000) (hm : m ≤ 900000000) (hc : CurS w g A bs.length cap m) (hr : BytesR w g A bs) (hi : IntsR w w.heap.size A' l) (hne : A'.map (·.block) ≠ some g) :
    Calls Tryd.prog 23 #[.pointer (some ⟨g, 0, none⟩), .slice A' l.length c'] w fun e w' => ∃ x : Int, e = .returned (.int .i64 x) ∧ x ∈ l ∧ CurS w' g A bs.length cap (m + 2) ∧ w.grownBy w' (some g) := by
  obtain ⟨b, off, rfl, hb, hcell⟩ := hi.at_ hl
  go_enter Tryd.func23, Tryd.ntmps23
  go_wp2_with fail
  refine (pick_any g A cap m l.length bs _ hl' hm hc hr).mono ?_
  rintro e w1 ⟨x, rfl, hx, hc1, hg1⟩
  have hlt : x < l.length := by omega
  have kc : w1.cell? ⟨b, off + x, none⟩ = some (.int .i64 l[x]) := by
    rw [grown_cell hg1 _ hb (by simpa using hne)]; exact hcell x _ (by simp [hlt])
  have hmem : l[x] ∈ l := List.getElem_mem hlt
  generalize l[x] = y at kc hmem
  go_wp2
  go_ret
  exact ⟨y, rfl, hmem, hc1, hg1⟩
end Go.Proofs.YtkokbmmffkpclaaDoor

/- The drawing cursor, as drawing functions carry it. -/
namespace Go.Proofs.YtkokbmmffkpclaaDoor
open Go.RowKit

/-- The cursor at block g, in a world W that came from w. -/
structure Env (w W : World) (g : Nat) (A : Option Addr) (bs : List UInt8) (cap m : Nat) : Prop where
  cur : CurS W g A bs.length cap m
  rd : BytesR W g A bs
  gr : w.grownBy W (some g)
section
variable {w W : World} {g : Nat} {A : Option Addr} {bs : List UInt8} {cap m : Nat}
theorem grown_alloc {a w : World} {row : Option Nat} (h : a.grownBy w row) (o : Obj) : a.grownBy (w.alloc o) row := grown_trans h (World.grownBy_alloc w o row)
theorem CurS.alloc {n : Nat} (h : CurS W g A n cap m) (o : Obj) : CurS (W.alloc o) g A n cap m := by
  obtain ⟨p, s, h1, h2⟩ := h
  exact ⟨p, s, h1.alloc o, h2⟩
theorem CurS.kept {W' : World} {n : Nat} {row : Option Nat} (h : CurS W g A n cap m) (hb : W.grownBy W' row) (hne : some g ≠ row) : CurS W' g A n cap m := by
  obtain ⟨p, s, h1, h2⟩ := h
  exact ⟨p, s, h1.kept hb hne, h2⟩
theorem Env.alloc (E : Env w W g A bs cap m) (o : Obj) : Env w (W.alloc o) g A bs cap m :=
  ⟨E.cur.alloc o, E.rd.grown (World.grownBy_alloc W o (some g)) (Nat.le_refl _) E.cur.lt, grown_alloc E.gr o⟩
theorem Env.lt (E : Env w W g A bs cap m) : g < W.heap.size := E.cur.lt
/-- A block of the call's own is written. -/
theorem Env.wrote {W' : World} {h : Nat} (E : Env w W g A bs cap m) (hb : W.grownBy W' (some h)) (hw : w.heap.size ≤ h) (hgh : g < h) : Env w W' g A bs cap m :=
  ⟨E.cur.kept hb (by intro e; injection e; omega), E.rd.keep fun p hp => grown_cell hb p (by have := E.lt; omega) (by intro e; injection e; omega),
   ⟨hb.os.trans E.gr.os, hb.tape.trans E.gr.tape, hb.output.trans E.gr.output, Nat.le_trans E.gr.size hb.size, fun j hj hn => (hb.block j (Nat.lt_of_lt_of_le hj E.gr.size) (by intro e; injection e; omega)).trans (E.gr.block j hj hn)⟩⟩
theorem Env.mono {m' : Nat} (E : Env w W g A bs cap m) (hm : m ≤ m') : Env w W g A bs cap m' := ⟨E.cur.mono hm, E.rd, E.gr⟩
theorem Env.next {W' : World} {m' : Nat} (E : Env w W g A bs cap m) (hc : CurS W' g A bs.length cap m') (hg : W.grownBy W' (some g)) : Env w W' g A bs cap m' :=
  ⟨hc, E.rd.grown hg (Nat.le_refl _) E.lt, grown_trans E.gr hg⟩
theorem Env.start (hc : CurS w g A bs.length cap m) (hr : BytesR w g A bs) : Env w w g A bs cap m := ⟨hc, hr, World.grownBy.refl w _⟩

theorem pick_env (E : Env w W g A bs cap m) (n : Nat) (hn : n ≤ 100000) (hm : m ≤ 900000000) :
    Calls Tryd.prog 37 #[.pointer (some ⟨g, 0, none⟩), .int .i64 n] W fun e w' => ∃ x : Nat, e = .returned (.int .i64 x) ∧ x ≤ n - 1 ∧ Env w w' g A bs cap (m + 2) ∧ W.grownBy w' (some g) :=
  (pick_any g A cap m n bs W hn hm E.cur E.rd).mono fun _ _ ⟨x, he, hx, hc, hg⟩ => ⟨x, he, hx, E.next hc hg, hg⟩
theorem one_env (E : Env w W g A bs cap m) (n : Nat) (hn : n ≤ 100000) (hm : m ≤ 900000000) :
    Calls Tryd.prog 58 #[.pointer (some ⟨g, 0, none⟩), .int .i64 n] W fun e w' => ∃ x : Bool, e = .returned (.bool x) ∧ Env w w' g A bs cap (m + 2) ∧ W.grownBy w' (some g) :=
  (one_any g A cap m n bs W hn hm E.cur E.rd).mono fun _ _ ⟨x, he, hc, hg⟩ => ⟨x, he, E.next hc hg, hg⟩
/-- One of a list that was built for the call. -/
theorem among_env (E : Env w W g A bs cap m) (l : List Int) (k : Nat) (hk : l.length = k) (vs : Array Value) (hv : vs.toList = encIs l) (hl : 0 < k) (hl' : k ≤ 100000) (hm : m ≤ 900000000) :
    Calls Tryd.prog 23 #[.pointer (some ⟨g, 0, none⟩), .slice (some ⟨W.heap.size, 0, none⟩) k k] (W.alloc (.cells vs 3)) fun e w' => ∃ x : Int, e = .returned (.int .i64 x) ∧ x ∈ l ∧ Env w w' g A bs cap (m + 2) ∧ W.grownBy w' (some g) := by
  subst hk
  have E1 := E.alloc (.cells vs 3)
  have hL := Lies.new W 3 vs
  rw [hv] at hL
  have hi : IntsR (W.alloc (.cells vs 3)) (W.alloc (.cells vs 3)).heap.size (some ⟨W.heap.size, 0, none⟩) l := hL.reads (encIs_len l) (by omega)
  refine (among_any g A _ cap _ m bs l _ hl hl' hm E1.cur E1.rd hi (by have := E.lt; intro e; injection e with e; simp only at e; omega)).mono ?_
  rintro e w' ⟨x, he, hx, hc, hg⟩
  exact ⟨x, he, hx, E1.next hc hg, grown_trans (World.grownBy_alloc W _ _) hg⟩
end
end Go.Proofs.YtkokbmmffkpclaaDoor
