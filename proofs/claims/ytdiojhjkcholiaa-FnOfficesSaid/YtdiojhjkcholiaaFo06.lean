/- Fo06: the texts SpecIn SpecAt, joined into one file. -/
import Derived.Test.YtdiojhjkcholiaaFo05

/- More or fewer stamps in a tray, in the reference. (Printed by gen_specin.py) -/
namespace Go.Proofs.Ytdiojhjkcholiaa
open Go.RowKit

/-- An office is stored into a variable. -/
def stOff (W : World) (g : Nat) (v0 v1 v2 v3 v4 : Value) : World := ((((W.setCell ⟨g, 0, none⟩ v0).setCell ⟨g, 1, none⟩ v1).setCell ⟨g, 2, none⟩ v2).setCell ⟨g, 3, none⟩ v3).setCell ⟨g, 4, none⟩ v4
section
variable {W : World} {g : Nat} {a b c d e v0 v1 v2 v3 v4 : Value}
theorem stOff_is (h : Lies W g 25 [a, b, c, d, e]) : Lies (stOff W g v0 v1 v2 v3 v4) g 25 [v0, v1, v2, v3, v4] := ((((h.set 0 v0).set 1 v1).set 2 v2).set 3 v3).set 4 v4
theorem stOff_grown : W.grownBy (stOff W g v0 v1 v2 v3 v4) (some g) := grown_set (grown_set (grown_set (grown_set (grown_set (World.grownBy.refl W (some g))))))
theorem stOff_row {B k n : Nat} {t : TypeId} {v : Value} {xs : List Value} (h : Lies W g 25 [a, b, c, d, e]) (ho : W.ownsRow B t k v n xs) (hne : t ≠ 25) : (stOff W g v0 v1 v2 v3 v4).ownsRow B t k v n xs := ownsRow_keptG ho h hne stOff_grown
theorem stOff_below {B : Nat} (h : Lies W g 25 [a, b, c, d, e]) (hB : B ≤ g) : Below B W (stOff W g v0 v1 v2 v3 v4) :=
  (Below.refl B W).grown stOff_grown (Nat.le_of_lt (Nat.lt_of_le_of_lt hB h.lt)) (by rintro _ ⟨⟩; exact hB)
theorem stOff_other {g' : Nat} {t : TypeId} {cs : List Value} (h : Lies W g' t cs) (hne : g' ≠ g) : Lies (stOff W g v0 v1 v2 v3 v4) g' t cs := h.kept stOff_grown (by simpa using hne)
end
theorem GivesOff.of {w w' : World} {e : Ending} {y : Oc} {TA OA : Option Addr} {tc oc m k : Nat} (hm : y.t.length = m) (hk : y.o.length = k) (he : e = .returned (.agg #[.slice TA m tc, .slice OA k oc, .int .i64 y.got, .int .i64 y.sold, .int .i64 y.missed]))
    (h8 : w'.ownsRow w.heap.size 74 2 (.slice TA m tc) y.t.length (y.t.flatMap Tray.enc)) (h9 : w'.ownsRow w.heap.size 100 3 (.slice OA k oc) y.o.length (y.o.flatMap Outing.enc)) (hb : Below w.heap.size w w') : GivesOff w y e w' := by
  subst hm; subst hk
  exact ⟨TA, tc, OA, oc, he, h8, h9, hb⟩

set_option maxRecDepth 100000 in
set_option maxHeartbeats 4000000 in
theorem l32In_old (x : Off) (kd n : Int) (w : World) (h : OffR w w.heap.size x) (tl : x.t.length ≤ 1000000) (ol : x.o.length ≤ 1000000) (hbd : ∀ i (hi : i < x.t.length), -1000000000 ≤ x.t[i].c ∧ x.t[i].c ≤ 1000000000) (hn : -1000000000 ≤ n ∧ n ≤ 1000000000) (hx : 0 ≤ trayIx x.t kd) :
    Calls Try.prog 72 #[x.val, .int .i64 kd, .int .i64 n] w (GivesOff w ⟨inTrays x.t kd n, x.o, x.got, x.sold, x.missed⟩) := by

  obtain ⟨i, hi⟩ : ∃ i : Nat, trayIx x.t kd = i := ⟨(trayIx x.t kd).toNat, by omega⟩
  have hil : i < x.t.length := by have := trayIx_lt hx; omega
  have hin := inTrays_at (n := n) hi hil
  obtain ⟨n1, n2⟩ := hn
  obtain ⟨u1, u2⟩ := hbd i hil
  clear hbd hx
  obtain ⟨tr, htr⟩ : ∃ tr, tr = x.t[i] := ⟨_, rfl⟩
  rw [← htr] at hin u1 u2
  have HI := Lib.hid hin; clear hin
  have L1 := (Lies.new w 25 #[.slice x.TA x.t.length x.tc, .slice x.OA x.o.length x.oc, .int .i64 x.got, .int .i64 x.sold, .int .i64 x.missed]).alloc (.cells #[.slice none 0 0, .slice none 0 0, .int .i64 0, .int .i64 0, .int .i64 0] 25)
  have L2 := Lies.new1 w (.cells #[.slice x.TA x.t.length x.tc, .slice x.OA x.o.length x.oc, .int .i64 x.got, .int .i64 x.sold, .int .i64 x.missed] 25) 25 #[.slice none 0 0, .slice none 0 0, .int .i64 0, .int .i64 0, .int .i64 0]
  have b1 := (Below.refl w.heap.size w).alloc (Nat.le_refl _) (.cells #[.slice x.TA x.t.length x.tc, .slice x.OA x.o.length x.oc, .int .i64 x.got, .int .i64 x.sold, .int .i64 x.missed] 25)
  have b2 := b1.alloc b1.size (.cells #[.slice none 0 0, .slice none 0 0, .int .i64 0, .int .i64 0, .int .i64 0] 25)
  clear b1
  go_enter Try.func72, Try.ntmps72
  go_wp2_with fail
  generalize ((w.alloc (.cells #[.slice x.TA x.t.length x.tc, .slice x.OA x.o.length x.oc, .int .i64 x.got, .int .i64 x.sold, .int .i64 x.missed] 25)).alloc (.cells #[.slice none 0 0, .slice none 0 0, .int .i64 0, .int .i64 0, .int .i64 0] 25)) = W at L1 L2 b2 ⊢
  have hR := h.up b2 (Nat.le_refl _)
  refine (l32Own_any x W hR tl ol).mono ?_
  rintro e W2 ⟨TA, tc, OA, oc, he, hT, hO, hb2⟩
  have he : e = .returned (.agg #[.slice TA x.t.length tc, .slice OA x.o.length oc, .int .i64 x.got, .int .i64 x.sold, .int .i64 x.missed]) := he
  subst he
  simp only [Off.c] at hT hO
  have L1a := (L1.below hb2 L1.lt).alloc (.cells #[.slice TA x.t.length tc, .slice OA x.o.length oc, .int .i64 x.got, .int .i64 x.sold, .int .i64 x.missed] 25)
  have L2a := (L2.below hb2 L2.lt).alloc (.cells #[.slice TA x.t.length tc, .slice OA x.o.length oc, .int .i64 x.got, .int .i64 x.sold, .int .i64 x.missed] 25)
  have P1 := Lies.new W2 25 #[.slice TA x.t.length tc, .slice OA x.o.length oc, .int .i64 x.got, .int .i64 x.sold, .int .i64 x.missed]
  have hal := (Below.refl W2.heap.size W2).alloc (Nat.le_refl _) (.cells #[.slice TA x.t.length tc, .slice OA x.o.length oc, .int .i64 x.got, .int .i64 x.sold, .int .i64 x.missed] 25)
  have hT3 := ownsRow_lower (ownsRow_below hT hal) b2.size
  have hO3 := ownsRow_lower (ownsRow_below hO hal) b2.size
  have b3 := b2.trans ((bthen hb2 hal).mono b2.size)
  have hR3 := (hR.then hb2).then hal
  have hg7 : w.heap.size ≤ W2.heap.size := Nat.le_trans b2.size hb2.size
  have hg8 : w.heap.size + 1 < W2.heap.size := Nat.lt_of_lt_of_le L2.lt hb2.size
  have c0 := L1a.cell 0
  have c1 := L1a.cell 1
  have c2 := L1a.cell 2
  have c3 := L1a.cell 3
  have c4 := L1a.cell 4
  simp only [List.getElem?_cons_zero, List.getElem?_cons_succ] at c0 c1 c2 c3 c4
  clear L1 L2 b2 hb2 hT hO hal hR h
  obtain ⟨W3, hW3⟩ : ∃ W3, W2.alloc (.cells #[.slice TA x.t.length tc, .slice OA x.o.length oc, .int .i64 x.got, .int .i64 x.sold, .int .i64 x.missed] 25) = W3 := ⟨_, rfl⟩
  rw [hW3] at L1a L2a P1 hT3 hO3 b3 hR3 c0 c1 c2 c3 c4
  go_wp2_with (rw [hW3])
  clear hW3

  refine (l32Tray_any x kd W3 hR3).mono ?_
  rintro e W4 ⟨rfl, hb4⟩
  rw [hi]
  obtain ⟨bA, off, hA, hbA, hcell⟩ := TraysR.el (hR3.then hb4).ts (by omega)
  obtain ⟨e0, e1⟩ := hcell i hil
  rw [← htr] at e0 e1
  have HTR := Lib.hid htr; clear htr hcell e0
  have L1b := L1a.below hb4 L1a.lt
  have L2b := L2a.below hb4 L2a.lt
  have P1b := P1.below hb4 P1.lt
  have hT4 := ownsRow_below hT3 hb4
  have hO4 := ownsRow_below hO3 hb4
  have b4 := b3.trans (hb4.mono b3.size)
  clear L1a L2a P1 hT3 hO3 b3 hR3 hb4 c0 c1 c2 c3 c4 hi
  obtain ⟨gT, cT, restT, hvT, hgT, LT, hcT⟩ := ownsRow_at hT4 (by omega)
  injection hvT with hTA _ htc
  subst hTA; subst htc
  have hOff : OffOwn W4 w.heap.size W2.heap.size (.slice (some ⟨gT, 0, none⟩) x.t.length tc) (.slice OA x.o.length oc) ⟨x.t, x.o, x.got, x.sold, x.missed⟩ := ⟨P1b, hg7, hT4, hO4⟩
  simp only [hA] at L1b
  have hne := LT.apart L2b (by decide)
  have hge : (0 : Int) ≤ (i : Int) := by omega
  have hgi : decide ((i : Int) ≥ 0) = true := decide_eq_true hge
  clear LT hT4 hO4 P1b hA
  go_wp2
  refine wp_region_factsR (Sw 13 (fun W9 => Below W4.heap.size W4 W9) (fun W9 => ∃ W8, Below W4.heap.size W4 W8 ∧ W9 = W8.setCell ⟨gT, i * 2 + 1, none⟩ (.int .i64 (tr.c + n)))) (fun i w1 w2 => i ∉ [13] → Below w1.heap.size w1 w2) (by kernel_rfl) (by kernel_rfl) (by kernel_rfl) (Sw.start (Below.refl _ _).drew) ?_
  simp only [fillOps, Act.put, List.setIfInBounds_toArray, List.set_cons_zero, List.set_cons_succ, Nat.zero_add, Nat.reduceAdd]
  apply wpFactsR_val
  case h1 =>
    intro vs L9 w9 hG9 hC9 hB K9 hK9
    replace hC9 := hC9.before hG9 (by kernel_rfl)
    simp only [Act.put, List.setIfInBounds_toArray, List.set_cons_zero, List.set_cons_succ] at hK9
    go_simp
    exact hK9 _ _ rfl (Sw.stay hG9 (by kernel_rfl) (by decide) hC9) (fun _ => Below.refl _ _)
  apply wpFactsR_val
  case h1 =>
    intro vs L9 w9 hG9 hC9 hB K9 hK9
    replace hC9 := hC9.before hG9 (by kernel_rfl)
    have d0 := FactN.eq (hB 0 _ (by kernel_rfl) (by kernel_rfl) rfl (by decide))
    simp only [d0] at hK9 ⊢
    have q0 : w9.cell? ⟨W2.heap.size, 0, none⟩ = some (.slice (some ⟨gT, 0, none⟩) x.t.length tc) := (hOff.lies.below hC9 hOff.lies.lt).cell 0
    simp only [Act.put, List.setIfInBounds_toArray, List.set_cons_zero, List.set_cons_succ] at hK9
    go_simp
    exact hK9 _ _ rfl (Sw.stay hG9 (by kernel_rfl) (by decide) hC9) (fun _ => Below.refl _ _)
  apply wpFactsR_val
  case h1 =>
    intro vs L9 w9 hG9 hC9 hB K9 hK9
    replace hC9 := hC9.before hG9 (by kernel_rfl)
    simp only [Act.put, List.setIfInBounds_toArray, List.set_cons_zero, List.set_cons_succ] at hK9
    go_simp
    exact hK9 _ _ rfl (Sw.stay hG9 (by kernel_rfl) (by decide) hC9) (fun _ => Below.refl _ _)
  apply wpFactsR_val
  case h1 =>
    intro vs L9 w9 hG9 hC9 hB K9 hK9
    replace hC9 := hC9.before hG9 (by kernel_rfl)
    simp only [Act.put, List.setIfInBounds_toArray, List.set_cons_zero, List.set_cons_succ] at hK9
    go_simp
    exact hK9 _ _ rfl (Sw.stay hG9 (by kernel_rfl) (by decide) hC9) (fun _ => Below.refl _ _)
  apply wpFactsR_val
  case h1 =>
    intro vs L9 w9 hG9 hC9 hB K9 hK9
    replace hC9 := hC9.before hG9 (by kernel_rfl)
    have d3 := FactN.eq (hB 3 _ (by kernel_rfl) (by kernel_rfl) rfl (by decide))
    simp only [d3] at hK9 ⊢
    have q0 : w9.cell? ⟨w.heap.size, 0, none⟩ = some (.slice (some ⟨bA, off, none⟩) x.t.length x.tc) := (L1b.below hC9 L1b.lt).cell 0
    simp only [Act.put, List.setIfInBounds_toArray, List.set_cons_zero, List.set_cons_succ] at hK9
    go_simp
    exact hK9 _ _ rfl (Sw.stay hG9 (by kernel_rfl) (by decide) hC9) (fun _ => Below.refl _ _)
  apply wpFactsR_val
  case h1 =>
    intro vs L9 w9 hG9 hC9 hB K9 hK9
    replace hC9 := hC9.before hG9 (by kernel_rfl)
    simp only [Act.put, List.setIfInBounds_toArray, List.set_cons_zero, List.set_cons_succ] at hK9
    go_simp
    exact hK9 _ _ rfl (Sw.stay hG9 (by kernel_rfl) (by decide) hC9) (fun _ => Below.refl _ _)
  apply wpFactsR_val
  case h1 =>
    intro vs L9 w9 hG9 hC9 hB K9 hK9
    replace hC9 := hC9.before hG9 (by kernel_rfl)
    have d4 := FactN.eq (hB 4 _ (by kernel_rfl) (by kernel_rfl) rfl (by decide))
    have d5 := FactN.eq (hB 5 _ (by kernel_rfl) (by kernel_rfl) rfl (by decide))
    simp only [d4, d5] at hK9 ⊢
    simp only [Act.put, List.setIfInBounds_toArray, List.set_cons_zero, List.set_cons_succ] at hK9
    go_simp
    exact hK9 _ _ rfl (Sw.stay hG9 (by kernel_rfl) (by decide) hC9) (fun _ => Below.refl _ _)
  apply wpFactsR_val
  case h1 =>
    intro vs L9 w9 hG9 hC9 hB K9 hK9
    replace hC9 := hC9.before hG9 (by kernel_rfl)
    have d6 := FactN.eq (hB 6 _ (by kernel_rfl) (by kernel_rfl) rfl (by decide))
    simp only [d6] at hK9 ⊢
    simp only [Act.put, List.setIfInBounds_toArray, List.set_cons_zero, List.set_cons_succ] at hK9
    go_simp
    exact hK9 _ _ rfl (Sw.stay hG9 (by kernel_rfl) (by decide) hC9) (fun _ => Below.refl _ _)
  apply wpFactsR_val
  case h1 =>
    intro vs L9 w9 hG9 hC9 hB K9 hK9
    replace hC9 := hC9.before hG9 (by kernel_rfl)
    have d7 := FactN.eq (hB 7 _ (by kernel_rfl) (by kernel_rfl) rfl (by decide))
    simp only [d7] at hK9 ⊢
    have q0 : w9.cell? ⟨bA, off + i * 2 + 1, none⟩ = some (.int .i64 tr.c) := e1 ⟨w9, hC9⟩
    simp only [Act.put, List.setIfInBounds_toArray, List.set_cons_zero, List.set_cons_succ] at hK9
    go_simp
    exact hK9 _ _ rfl (Sw.stay hG9 (by kernel_rfl) (by decide) hC9) (fun _ => Below.refl _ _)
  apply wpFactsR_val
  case h1 =>
    intro vs L9 w9 hG9 hC9 hB K9 hK9
    replace hC9 := hC9.before hG9 (by kernel_rfl)
    simp only [Act.put, List.setIfInBounds_toArray, List.set_cons_zero, List.set_cons_succ] at hK9
    go_simp
    exact hK9 _ _ rfl (Sw.stay hG9 (by kernel_rfl) (by decide) hC9) (fun _ => Below.refl _ _)
  apply wpFactsR_val
  case h1 =>
    intro vs L9 w9 hG9 hC9 hB K9 hK9
    replace hC9 := hC9.before hG9 (by kernel_rfl)
    have d8 := FactN.eq (hB 8 _ (by kernel_rfl) (by kernel_rfl) rfl (by decide))
    have d9 := FactN.eq (hB 9 _ (by kernel_rfl) (by kernel_rfl) rfl (by decide))
    simp only [d8, d9] at hK9 ⊢
    have i3 : IntKind.i64.wrap (tr.c + n) = tr.c + n := IntWalk.i64_in _ (by omega)
    simp only [Act.put, List.setIfInBounds_toArray, List.set_cons_zero, List.set_cons_succ] at hK9
    go_simp
    exact hK9 _ _ rfl (Sw.stay hG9 (by kernel_rfl) (by decide) hC9) (fun _ => Below.refl _ _)
  apply wpFactsR_val
  case h1 =>
    intro vs L9 w9 hG9 hC9 hB K9 hK9
    replace hC9 := hC9.before hG9 (by kernel_rfl)
    have d1 := FactN.eq (hB 1 _ (by kernel_rfl) (by kernel_rfl) rfl (by decide))
    have d2 := FactN.eq (hB 2 _ (by kernel_rfl) (by kernel_rfl) rfl (by decide))
    simp only [d1, d2] at hK9 ⊢
    simp only [Act.put, List.setIfInBounds_toArray, List.set_cons_zero, List.set_cons_succ] at hK9
    go_simp
    exact hK9 _ _ rfl (Sw.stay hG9 (by kernel_rfl) (by decide) hC9) (fun _ => Below.refl _ _)
  apply wpFactsR_val
  case h1 =>
    intro vs L9 w9 hG9 hC9 hB K9 hK9
    replace hC9 := hC9.before hG9 (by kernel_rfl)
    have d11 := FactN.eq (hB 11 _ (by kernel_rfl) (by kernel_rfl) rfl (by decide))
    simp only [d11] at hK9 ⊢
    simp only [Act.put, List.setIfInBounds_toArray, List.set_cons_zero, List.set_cons_succ] at hK9
    go_simp
    exact hK9 _ _ rfl (Sw.stay hG9 (by kernel_rfl) (by decide) hC9) (fun _ => Below.refl _ _)
  refine wpFactsR_val (undef) (fun vs L9 w9 hG9 hC9 hB K9 hK9 => ?ha13) ?ra13
  case ha13 =>
    replace hC9 := hC9.here hG9
    have d10 := FactN.eq (hB 10 _ (by kernel_rfl) (by kernel_rfl) rfl (by decide))
    have d12 := FactN.eq (hB 12 _ (by kernel_rfl) (by kernel_rfl) rfl (by decide))
    simp only [d10, d12] at hK9 ⊢
    obtain ⟨_, _, q0, f0⟩ := OffOwn.setT' (y := ⟨x.t, x.o, x.got, x.sold, x.missed⟩) (hOff.then hC9) hil tr HTR.out.symm (tr.c + n)
    go_simp
    exact hK9 _ _ rfl (Sw.turn ⟨w9, hC9, rfl⟩) (fun hq => (hq (by decide)).elim)
  refine wpFactsR_nil fun vs L9 w9 hL9 hC9 hB => ?_
  replace hC9 := hC9.done hL9 (by decide)
  obtain ⟨W8, hb8, rfl⟩ := hC9
  clear hB hL9
  obtain ⟨hO10, hb10, _, _⟩ := OffOwn.setT' (y := ⟨x.t, x.o, x.got, x.sold, x.missed⟩) (hOff.then hb8) hil tr HTR.out.symm (tr.c + n)
  have b10 := (b4.trans (hb8.mono b4.size)).trans hb10
  have L2c := (L2b.below hb8 L2b.lt).other (p := ⟨gT, i * 2 + 1, none⟩) (Ne.symm hne) (.int .i64 (tr.c + n))
  generalize W8.setCell ⟨gT, i * 2 + 1, none⟩ (.int .i64 (tr.c + n)) = W9 at hO10 b10 L2c ⊢
  have P9 := hO10.lies
  have hrow := stOff_row (v0 := .slice (some ⟨gT, 0, none⟩) x.t.length tc) (v1 := .slice OA x.o.length oc) (v2 := .int .i64 x.got) (v3 := .int .i64 x.sold) (v4 := .int .i64 x.missed) L2c hO10.t ne_owt
  have hrow2 := stOff_row (v0 := .slice (some ⟨gT, 0, none⟩) x.t.length tc) (v1 := .slice OA x.o.length oc) (v2 := .int .i64 x.got) (v3 := .int .i64 x.sold) (v4 := .int .i64 x.missed) L2c hO10.o ne_owo
  have bz := b10.trans (stOff_below (v0 := .slice (some ⟨gT, 0, none⟩) x.t.length tc) (v1 := .slice OA x.o.length oc) (v2 := .int .i64 x.got) (v3 := .int .i64 x.sold) (v4 := .int .i64 x.missed) L2c (Nat.le_succ _))
  have R8 := Lib.hid hrow
  have R9 := Lib.hid hrow2

  have c0 := P9.cell 0
  have c1 := P9.cell 1
  have c2 := P9.cell 2
  have c3 := P9.cell 3
  have c4 := P9.cell 4
  simp only [List.getElem?_cons_zero, List.getElem?_cons_succ] at c0 c1 c2 c3 c4
  have z0 := L2c.cell 0
  have z1 := L2c.cell 1
  have z2 := L2c.cell 2
  have z3 := L2c.cell 3
  have z4 := L2c.cell 4
  simp only [List.getElem?_cons_zero, List.getElem?_cons_succ] at z0 z1 z2 z3 z4
  have f0 := L2c.frozen 0
  have f1 := L2c.frozen 1
  have f2 := L2c.frozen 2
  have f3 := L2c.frozen 3
  have f4 := L2c.frozen 4
  clear hrow hrow2 hO10 hb10 P9 L2c
  go_wp2
  refine bodyPost_ret (v := .agg #[.slice (some ⟨gT, 0, none⟩) x.t.length tc, .slice OA x.o.length oc, .int .i64 x.got, .int .i64 x.sold, .int .i64 x.missed]) (by simp [results, Try.results72, go_sem, *]) rfl ?_
  rw [HI.out]
  exact GivesOff.of (List.length_set ..) rfl rfl R8.out R9.out bz
theorem posT_step {l : List Tray} {kd : Int} {k : Nat} (h : k < l.length) : posT (l.drop k) kd = if l[k].k < kd then posT (l.drop (k + 1)) kd + 1 else 0 := by
  rw [List.drop_eq_getElem_cons h, posT_cons]
theorem inTrays_fresh {ts : List Tray} {kd n : Int} (h : ¬ 0 ≤ trayIx ts kd) : inTrays ts kd n = (ts.take (posT ts kd) ++ [⟨kd, n⟩]) ++ ts.drop (posT ts kd) := by
  unfold inTrays; rw [if_neg h, List.append_assoc]; rfl
theorem infoTray_size : (Try.prog.info? 74).map (·.size) = some 2 := by kernel_rfl

set_option maxRecDepth 100000 in
set_option maxHeartbeats 4000000 in
theorem l32In_new (x : Off) (kd n : Int) (w : World) (h : OffR w w.heap.size x) (tl : x.t.length ≤ 1000000) (ol : x.o.length ≤ 1000000) (hbd : ∀ i (hi : i < x.t.length), -1000000000 ≤ x.t[i].c ∧ x.t[i].c ≤ 1000000000) (hn : -1000000000 ≤ n ∧ n ≤ 1000000000) (hx : ¬ 0 ≤ trayIx x.t kd) (hcap : x.t.length ≤ x.tc) :
    Calls Try.prog 72 #[x.val, .int .i64 kd, .int .i64 n] w (GivesOff w ⟨inTrays x.t kd n, x.o, x.got, x.sold, x.missed⟩) := by

  obtain ⟨n1, n2⟩ := hn
  clear hbd
  have HIN := Lib.hid (inTrays_fresh (n := n) hx)
  have L1 := (Lies.new w 25 #[.slice x.TA x.t.length x.tc, .slice x.OA x.o.length x.oc, .int .i64 x.got, .int .i64 x.sold, .int .i64 x.missed]).alloc (.cells #[.slice none 0 0, .slice none 0 0, .int .i64 0, .int .i64 0, .int .i64 0] 25)
  have L2 := Lies.new1 w (.cells #[.slice x.TA x.t.length x.tc, .slice x.OA x.o.length x.oc, .int .i64 x.got, .int .i64 x.sold, .int .i64 x.missed] 25) 25 #[.slice none 0 0, .slice none 0 0, .int .i64 0, .int .i64 0, .int .i64 0]
  have b1 := (Below.refl w.heap.size w).alloc (Nat.le_refl _) (.cells #[.slice x.TA x.t.length x.tc, .slice x.OA x.o.length x.oc, .int .i64 x.got, .int .i64 x.sold, .int .i64 x.missed] 25)
  have b2 := b1.alloc b1.size (.cells #[.slice none 0 0, .slice none 0 0, .int .i64 0, .int .i64 0, .int .i64 0] 25)
  clear b1
  go_enter Try.func72, Try.ntmps72
  go_wp2_with fail
  generalize ((w.alloc (.cells #[.slice x.TA x.t.length x.tc, .slice x.OA x.o.length x.oc, .int .i64 x.got, .int .i64 x.sold, .int .i64 x.missed] 25)).alloc (.cells #[.slice none 0 0, .slice none 0 0, .int .i64 0, .int .i64 0, .int .i64 0] 25)) = W at L1 L2 b2 ⊢
  have hR := h.up b2 (Nat.le_refl _)
  refine (l32Own_any x W hR tl ol).mono ?_
  rintro e W2 ⟨TA, tc, OA, oc, he, hT, hO, hb2⟩
  have he : e = .returned (.agg #[.slice TA x.t.length tc, .slice OA x.o.length oc, .int .i64 x.got, .int .i64 x.sold, .int .i64 x.missed]) := he
  subst he
  simp only [Off.c] at hT hO
  have L1a := (L1.below hb2 L1.lt).alloc (.cells #[.slice TA x.t.length tc, .slice OA x.o.length oc, .int .i64 x.got, .int .i64 x.sold, .int .i64 x.missed] 25)
  have L2a := (L2.below hb2 L2.lt).alloc (.cells #[.slice TA x.t.length tc, .slice OA x.o.length oc, .int .i64 x.got, .int .i64 x.sold, .int .i64 x.missed] 25)
  have P1 := Lies.new W2 25 #[.slice TA x.t.length tc, .slice OA x.o.length oc, .int .i64 x.got, .int .i64 x.sold, .int .i64 x.missed]
  have hal := (Below.refl W2.heap.size W2).alloc (Nat.le_refl _) (.cells #[.slice TA x.t.length tc, .slice OA x.o.length oc, .int .i64 x.got, .int .i64 x.sold, .int .i64 x.missed] 25)
  have hT3 := ownsRow_lower (ownsRow_below hT hal) b2.size
  have hO3 := ownsRow_lower (ownsRow_below hO hal) b2.size
  have b3 := b2.trans ((bthen hb2 hal).mono b2.size)
  have hR3 := (hR.then hb2).then hal
  have hg7 : w.heap.size ≤ W2.heap.size := Nat.le_trans b2.size hb2.size
  have hg8 : w.heap.size + 1 < W2.heap.size := Nat.lt_of_lt_of_le L2.lt hb2.size
  have c0 := L1a.cell 0
  have c1 := L1a.cell 1
  have c2 := L1a.cell 2
  have c3 := L1a.cell 3
  have c4 := L1a.cell 4
  simp only [List.getElem?_cons_zero, List.getElem?_cons_succ] at c0 c1 c2 c3 c4
  clear L1 L2 b2 hb2 hT hO hal hR h
  obtain ⟨W3, hW3⟩ : ∃ W3, W2.alloc (.cells #[.slice TA x.t.length tc, .slice OA x.o.length oc, .int .i64 x.got, .int .i64 x.sold, .int .i64 x.missed] 25) = W3 := ⟨_, rfl⟩
  rw [hW3] at L1a L2a P1 hT3 hO3 b3 hR3 c0 c1 c2 c3 c4
  go_wp2_with (rw [hW3])
  clear hW3

  refine (l32Tray_any x kd W3 hR3).mono ?_
  rintro e W4 ⟨rfl, hb4⟩
  have L1b := L1a.below hb4 L1a.lt
  have L2b := L2a.below hb4 L2a.lt
  have P1b := P1.below hb4 P1.lt
  have hO4 := ownsRow_below hO3 hb4
  have b4 := b3.trans (hb4.mono b3.size)
  have hR4 := hR3.then hb4
  have hng : decide (trayIx x.t kd ≥ 0) = false := decide_eq_false (by omega)
  have hix : trayIx x.t kd < 0 := by omega
  clear L1a L2a P1 hT3 hO3 b3 hR3 hb4 c0 c1 c2 c3 c4 hx
  have c0 := L1b.cell 0
  simp only [List.getElem?_cons_zero] at c0
  have hl := hR4.ts.big
  go_wp2
  go_loopw [9] (fun v wr => ∃ k : Nat, k ≤ x.t.length ∧ v = .int .i64 (k : Int) ∧ wr = W4 ∧ Hid (k + posT (x.t.drop k) kd = posT x.t kd)) (fun v _ => x.t.length - (intOf v).toNat)
  case atStart => exact ⟨0, Nat.zero_le _, rfl, rfl, by unfold Hid; simp⟩
  case round =>
    obtain ⟨k, hk, rfl, hwr, HP⟩ := hrel
    subst wr
    have hk9 : k ≤ 9223372036854775807 := Nat.le_trans hk hl
    by_cases hlt : k < x.t.length
    · obtain ⟨bA, off, hA, hbA, hcell⟩ := TraysR.el hR4.ts (by omega)
      obtain ⟨e0, _⟩ := hcell k hlt
      have e0 : W4.cell? ⟨bA, off + k * 2, none⟩ = some (.int .i64 x.t[k].k) := e0 (Since.start _ _)
      have HS := Lib.hid (posT_step (kd := kd) hlt)
      obtain ⟨tk, htk⟩ : ∃ tk, tk = x.t[k].k := ⟨_, rfl⟩
      rw [← htk] at e0 HS
      clear htk hcell
      have hklt : (k : Int) < (x.t.length : Int) := by omega
      by_cases hm : tk < kd
      · have HN : Hid (k + 1 + posT (x.t.drop (k + 1)) kd = posT x.t kd) := by unfold Hid; rw [← HP.out, HS.out, if_pos hm]; omega
        simp only [hA] at c0
        have hA' := Lib.hid hA
        clear hA
        go_wp2
        go_roundw
        case rel => exact ⟨k + 1, by omega, by go_num, trivial, HN⟩
        case measure => simp [intOf]; omega
      · have HK : Hid (posT x.t kd = k) := by unfold Hid; rw [← HP.out, HS.out, if_neg hm]; rfl
        clear HP HS
        have hA' := Lib.hid hA
        have c0' := Lib.hid c0
        simp only [hA] at c0
        clear hA
        go_wp2
        clear c0
        have c0 := c0'.out
        clear c0' hm e0
        refine wp_region_factsR (Sw 17 (fun W9 => Below W4.heap.size W4 W9) (fun W9 => ∃ W8 A c, Below W4.heap.size W4 W8 ∧ W8.ownsRow W4.heap.size 74 2 (.slice A (k + 1 + (x.t.length - k)) c) (k + 1 + (x.t.length - k)) (((x.t.flatMap Tray.enc).take (k * 2) ++ [.int .i64 kd, .int .i64 n]) ++ (x.t.flatMap Tray.enc).drop (k * 2)) ∧ W9 = W8.setCell ⟨W2.heap.size, 0, none⟩ (.slice A (k + 1 + (x.t.length - k)) c))) (fun i w1 w2 => i ∉ [10, 15, 17] → Below w1.heap.size w1 w2) (by kernel_rfl) (by kernel_rfl) (by kernel_rfl) (Sw.start (Below.refl _ _).drew) ?_
        simp only [fillOps, Act.put, List.setIfInBounds_toArray, List.set_cons_zero, List.set_cons_succ, Nat.zero_add, Nat.reduceAdd]
        refine wpFactsR_some [10, 15, 17] (fun v w9 => ∃ g, v = .slice (some ⟨g, 0, none⟩) 0 0 ∧ W4.heap.size ≤ g ∧ Lies w9 g 74 []) ?sb0 (fun vs L9 w9 hG9 hC9 hB K9 hK9 => ?hb0) ?rb0
        case sb0 =>
          intro i9 hi9 hb9 ha9 v w1 w2 hv hT9
          have hb := hT9 (fun hm => by
            simp only [List.mem_cons, List.not_mem_nil, or_false] at hm hb9
            rcases hm with rfl | rfl | rfl
            · exact hb9 (by simp)
            · exact hb9 (by simp)
            · exact hb9 (by simp))
          obtain ⟨g, e, hg, hl⟩ := hv
          exact ⟨g, e, hg, hl.below hb hl.lt⟩
        case hb0 =>
          replace hC9 := hC9.before hG9 (by kernel_rfl)
          simp only [Act.put, List.setIfInBounds_toArray, List.set_cons_zero, List.set_cons_succ] at hK9
          go_simp
          exact hK9 _ _ _ rfl ⟨_, rfl, hC9.size, Lies.new w9 74 #[]⟩ (Sw.stay hG9 (by kernel_rfl) (by decide) (hC9.alloc hC9.size _)) (fun _ => (Below.refl _ _).alloc (Nat.le_refl _) _)
        apply wpFactsR_val
        case h1 =>
          intro vs L9 w9 hG9 hC9 hB K9 hK9
          replace hC9 := hC9.before hG9 (by kernel_rfl)
          simp only [Act.put, List.setIfInBounds_toArray, List.set_cons_zero, List.set_cons_succ] at hK9
          go_simp
          exact hK9 _ _ rfl (Sw.stay hG9 (by kernel_rfl) (by decide) hC9) (fun _ => Below.refl _ _)
        apply wpFactsR_val
        case h1 =>
          intro vs L9 w9 hG9 hC9 hB K9 hK9
          replace hC9 := hC9.before hG9 (by kernel_rfl)
          have d1 := FactN.eq (hB 1 _ (by kernel_rfl) (by kernel_rfl) rfl (by decide))
          simp only [d1] at hK9 ⊢
          have q0 : w9.cell? ⟨w.heap.size, 0, none⟩ = some (.slice x.TA x.t.length x.tc) := (L1b.below hC9 L1b.lt).cell 0
          simp only [Act.put, List.setIfInBounds_toArray, List.set_cons_zero, List.set_cons_succ] at hK9
          go_simp
          exact hK9 _ _ rfl (Sw.stay hG9 (by kernel_rfl) (by decide) hC9) (fun _ => Below.refl _ _)
        apply wpFactsR_val
        case h1 =>
          intro vs L9 w9 hG9 hC9 hB K9 hK9
          replace hC9 := hC9.before hG9 (by kernel_rfl)
          simp only [Act.put, List.setIfInBounds_toArray, List.set_cons_zero, List.set_cons_succ] at hK9
          go_simp
          exact hK9 _ _ rfl (Sw.stay hG9 (by kernel_rfl) (by decide) hC9) (fun _ => Below.refl _ _)
        apply wpFactsR_val
        case h1 =>
          intro vs L9 w9 hG9 hC9 hB K9 hK9
          replace hC9 := hC9.before hG9 (by kernel_rfl)
          have d2 := FactN.eq (hB 2 _ (by kernel_rfl) (by kernel_rfl) rfl (by decide))
          have d3 := FactN.eq (hB 3 _ (by kernel_rfl) (by kernel_rfl) rfl (by decide))
          simp only [d2, d3] at hK9 ⊢
          simp only [Act.put, List.setIfInBounds_toArray, List.set_cons_zero, List.set_cons_succ] at hK9
          refine step_sliceTo rfl 22 74 (.tmp 50) (.tmp 51) rfl Try.underlying22 2 infoTray_size x.TA x.t.length x.tc k (by rfl) (by rfl) hk hcap ?_
          exact hK9 _ _ rfl (Sw.stay hG9 (by kernel_rfl) (by decide) hC9) (fun _ => Below.refl _ _)
        refine wpFactsR_some [10, 15, 17] (fun v w9 => ∃ A c, v = .slice A (k) c ∧ w9.ownsRow W4.heap.size 74 2 (.slice A (k) c) (k) ((x.t.flatMap Tray.enc).take (k * 2))) ?sb5 (fun vs L9 w9 hG9 hC9 hB K9 hK9 => ?hb5) ?rb5
        case sb5 =>
          intro i9 hi9 hb9 ha9 v w1 w2 hv hT9
          have hb := hT9 (fun hm => by
            simp only [List.mem_cons, List.not_mem_nil, or_false] at hm hb9
            rcases hm with rfl | rfl | rfl
            · exact hb9 (by simp)
            · exact hb9 (by simp)
            · exact hb9 (by simp))
          obtain ⟨A, c, e, ho⟩ := hv
          exact ⟨A, c, e, ownsRow_below ho hb⟩
        case hb5 =>
          replace hC9 := hC9.before hG9 (by kernel_rfl)
          have d4 := FactN.eq (hB 4 _ (by kernel_rfl) (by kernel_rfl) rfl (by decide))
          simp only [d4] at hK9 ⊢
          simp only [Act.put, List.setIfInBounds_toArray, List.set_cons_zero, List.set_cons_succ] at hK9
          obtain ⟨g, e0, hg, hl⟩ := hB 0 _ (by kernel_rfl) (by kernel_rfl) rfl (by decide)
          simp only [e0] at hK9 ⊢
          refine stepCat rfl (.tmp 48) (.tmp 52) 22 rfl 74 _ 2 16 Try.underlying22 infoTray rfl (by omega) (by omega) W4.heap.size g (by rfl) hl hg W4.heap.size x.TA k x.tc _ (by rfl) (SlcR.take (SlcR.below hR4.ts hC9) k hk) (fun u hu => tray_cells u (List.mem_of_mem_take hu)) (by omega) ?_
          intro v' w' ho hb
          obtain ⟨A', c', rfl⟩ := ownsRow_slice ho
          exact hK9 _ _ _ rfl ⟨A', c', rfl, ho⟩ (Sw.stay hG9 (by kernel_rfl) (by decide) (hC9.trans (hb.mono hC9.size))) (fun _ => hb)
        apply wpFactsR_val
        case h1 =>
          intro vs L9 w9 hG9 hC9 hB K9 hK9
          replace hC9 := hC9.before hG9 (by kernel_rfl)
          simp only [Act.put, List.setIfInBounds_toArray, List.set_cons_zero, List.set_cons_succ] at hK9
          go_simp
          exact hK9 _ _ rfl (Sw.stay hG9 (by kernel_rfl) (by decide) hC9) (fun _ => Below.refl _ _)
        apply wpFactsR_val
        case h1 =>
          intro vs L9 w9 hG9 hC9 hB K9 hK9
          replace hC9 := hC9.before hG9 (by kernel_rfl)
          simp only [Act.put, List.setIfInBounds_toArray, List.set_cons_zero, List.set_cons_succ] at hK9
          go_simp
          exact hK9 _ _ rfl (Sw.stay hG9 (by kernel_rfl) (by decide) hC9) (fun _ => Below.refl _ _)
        apply wpFactsR_val
        case h1 =>
          intro vs L9 w9 hG9 hC9 hB K9 hK9
          replace hC9 := hC9.before hG9 (by kernel_rfl)
          have d6 := FactN.eq (hB 6 _ (by kernel_rfl) (by kernel_rfl) rfl (by decide))
          have d7 := FactN.eq (hB 7 _ (by kernel_rfl) (by kernel_rfl) rfl (by decide))
          simp only [d6, d7] at hK9 ⊢
          simp only [Act.put, List.setIfInBounds_toArray, List.set_cons_zero, List.set_cons_succ] at hK9
          go_simp
          exact hK9 _ _ rfl (Sw.stay hG9 (by kernel_rfl) (by decide) hC9) (fun _ => Below.refl _ _)
        refine wpFactsR_some [10, 15, 17] (fun v w9 => ∃ g c, v = .slice (some ⟨g, 0, none⟩) 1 c ∧ Lies w9 g 74 [.int .i64 kd, .int .i64 n]) ?sb9 (fun vs L9 w9 hG9 hC9 hB K9 hK9 => ?hb9) ?rb9
        case sb9 =>
          intro i9 hi9 hb9 ha9 v w1 w2 hv hT9
          have hb := hT9 (fun hm => by
            simp only [List.mem_cons, List.not_mem_nil, or_false] at hm hb9
            rcases hm with rfl | rfl | rfl
            · exact hb9 (by simp)
            · exact hb9 (by simp)
            · exact hb9 (by simp))
          obtain ⟨g, c, e, hl⟩ := hv
          exact ⟨g, c, e, hl.below hb hl.lt⟩
        case hb9 =>
          replace hC9 := hC9.before hG9 (by kernel_rfl)
          have d8 := FactN.eq (hB 8 _ (by kernel_rfl) (by kernel_rfl) rfl (by decide))
          simp only [d8] at hK9 ⊢
          simp only [Act.put, List.setIfInBounds_toArray, List.set_cons_zero, List.set_cons_succ] at hK9
          go_simp
          exact hK9 _ _ _ rfl ⟨_, _, rfl, Lies.new w9 74 #[.int .i64 kd, .int .i64 n]⟩ (Sw.stay hG9 (by kernel_rfl) (by decide) (hC9.alloc hC9.size _)) (fun _ => (Below.refl _ _).alloc (Nat.le_refl _) _)
        refine wpFactsR_some [15, 17] (fun v w9 => ∃ A c, v = .slice A (k + 1) c ∧ w9.ownsRow W4.heap.size 74 2 (.slice A (k + 1) c) (k + 1) ((x.t.flatMap Tray.enc).take (k * 2) ++ [.int .i64 kd, .int .i64 n])) ?sb10 (fun vs L9 w9 hG9 hC9 hB K9 hK9 => ?hb10) ?rb10
        case sb10 =>
          intro i9 hi9 hb9 ha9 v w1 w2 hv hT9
          have hb := hT9 (fun hm => by
            simp only [List.mem_cons, List.not_mem_nil, or_false] at hm hb9
            rcases hm with rfl | rfl | rfl
            · exact hi9 rfl
            · exact hb9 (by simp)
            · exact hb9 (by simp))
          obtain ⟨A, c, e, ho⟩ := hv
          exact ⟨A, c, e, ownsRow_below ho hb⟩
        case hb10 =>
          replace hC9 := hC9.before hG9 (by kernel_rfl)
          simp only [Act.put, List.setIfInBounds_toArray, List.set_cons_zero, List.set_cons_succ] at hK9
          obtain ⟨A, c, e5, ho⟩ := hB 5 _ (by kernel_rfl) (by kernel_rfl) rfl (by decide)
          obtain ⟨g, c9, e9, hl⟩ := hB 9 _ (by kernel_rfl) (by kernel_rfl) rfl (by decide)
          simp only [e5, e9] at hK9 ⊢
          refine step_cat rfl (.tmp 53) (.tmp 57) 22 rfl 74 _ 2 16 Try.underlying22 infoTray rfl (by omega) (by omega) W4.heap.size _ k _ (by rfl) ho w9.heap.size (some ⟨g, 0, none⟩) 1 c9 [.int .i64 kd, .int .i64 n] (by rfl) (hl.reads rfl (by omega)) (by simp [Value.oneCell']) (by omega) hC9.size ?_
          intro A' c' w' ho' _ hb
          exact hK9 _ _ _ rfl ⟨A', c', rfl, ho'⟩ (Sw.stay hG9 (by kernel_rfl) (by decide) (hC9.trans hb)) (fun hq => (hq (by decide)).elim)
        apply wpFactsR_val
        case h1 =>
          intro vs L9 w9 hG9 hC9 hB K9 hK9
          replace hC9 := hC9.before hG9 (by kernel_rfl)
          simp only [Act.put, List.setIfInBounds_toArray, List.set_cons_zero, List.set_cons_succ] at hK9
          go_simp
          exact hK9 _ _ rfl (Sw.stay hG9 (by kernel_rfl) (by decide) hC9) (fun _ => Below.refl _ _)
        apply wpFactsR_val
        case h1 =>
          intro vs L9 w9 hG9 hC9 hB K9 hK9
          replace hC9 := hC9.before hG9 (by kernel_rfl)
          have d11 := FactN.eq (hB 11 _ (by kernel_rfl) (by kernel_rfl) rfl (by decide))
          simp only [d11] at hK9 ⊢
          have q0 : w9.cell? ⟨w.heap.size, 0, none⟩ = some (.slice x.TA x.t.length x.tc) := (L1b.below hC9 L1b.lt).cell 0
          simp only [Act.put, List.setIfInBounds_toArray, List.set_cons_zero, List.set_cons_succ] at hK9
          go_simp
          exact hK9 _ _ rfl (Sw.stay hG9 (by kernel_rfl) (by decide) hC9) (fun _ => Below.refl _ _)
        apply wpFactsR_val
        case h1 =>
          intro vs L9 w9 hG9 hC9 hB K9 hK9
          replace hC9 := hC9.before hG9 (by kernel_rfl)
          simp only [Act.put, List.setIfInBounds_toArray, List.set_cons_zero, List.set_cons_succ] at hK9
          go_simp
          exact hK9 _ _ rfl (Sw.stay hG9 (by kernel_rfl) (by decide) hC9) (fun _ => Below.refl _ _)
        refine wpFactsR_some [] (fun v w9 => ∃ A, v = .slice A (x.t.length - k) (x.tc - k) ∧ ∀ W9, Below W4.heap.size W4 W9 → SlcR W9 W4.heap.size 2 A (x.t.length - k) ((x.t.flatMap Tray.enc).drop (k * 2))) ?sb14 (fun vs L9 w9 hG9 hC9 hB K9 hK9 => ?hb14) ?rb14
        case sb14 =>
          intro i9 hi9 hb9 ha9 v w1 w2 hv hT9
          exact hv
        case hb14 =>
          replace hC9 := hC9.before hG9 (by kernel_rfl)
          have d12 := FactN.eq (hB 12 _ (by kernel_rfl) (by kernel_rfl) rfl (by decide))
          have d13 := FactN.eq (hB 13 _ (by kernel_rfl) (by kernel_rfl) rfl (by decide))
          simp only [d12, d13] at hK9 ⊢
          simp only [Act.put, List.setIfInBounds_toArray, List.set_cons_zero, List.set_cons_succ] at hK9
          refine step_sliceFrom rfl 22 74 (.tmp 60) (.tmp 61) rfl Try.underlying22 2 infoTray_size x.TA x.t.length x.tc k (by rfl) (by rfl) hk hcap ?_
          intro A' hA9
          exact hK9 _ _ _ rfl ⟨A', rfl, fun W9 hW => hA9 _ _ _ (SlcR.below hR4.ts hW)⟩ (Sw.stay hG9 (by kernel_rfl) (by decide) hC9) (fun _ => Below.refl _ _)
        refine wpFactsR_some [17] (fun v w9 => ∃ A c, v = .slice A (k + 1 + (x.t.length - k)) c ∧ w9.ownsRow W4.heap.size 74 2 (.slice A (k + 1 + (x.t.length - k)) c) (k + 1 + (x.t.length - k)) (((x.t.flatMap Tray.enc).take (k * 2) ++ [.int .i64 kd, .int .i64 n]) ++ (x.t.flatMap Tray.enc).drop (k * 2))) ?sb15 (fun vs L9 w9 hG9 hC9 hB K9 hK9 => ?hb15) ?rb15
        case sb15 =>
          intro i9 hi9 hb9 ha9 v w1 w2 hv hT9
          have hb := hT9 (fun hm => by
            simp only [List.mem_cons, List.not_mem_nil, or_false] at hm hb9
            rcases hm with rfl | rfl | rfl
            · exact absurd (ha9.symm.trans (show ahead .any _ _ _ _ = true by kernel_rfl)) (by decide)
            · exact hi9 rfl
            · exact hb9 (by simp))
          obtain ⟨A, c, e, ho⟩ := hv
          exact ⟨A, c, e, ownsRow_below ho hb⟩
        case hb15 =>
          replace hC9 := hC9.before hG9 (by kernel_rfl)
          simp only [Act.put, List.setIfInBounds_toArray, List.set_cons_zero, List.set_cons_succ] at hK9
          obtain ⟨A, c, e10, ho⟩ := hB 10 _ (by kernel_rfl) (by kernel_rfl) rfl (by decide)
          obtain ⟨A14, e14, hr⟩ := hB 14 _ (by kernel_rfl) (by kernel_rfl) rfl (by decide)
          simp only [e10, e14] at hK9 ⊢
          refine step_cat rfl (.tmp 58) (.tmp 62) 22 rfl 74 _ 2 16 Try.underlying22 infoTray rfl (by omega) (by omega) W4.heap.size _ (k + 1) _ (by rfl) ho W4.heap.size A14 (x.t.length - k) (x.tc - k) _ (by rfl) (hr w9 hC9) (fun u hu => tray_cells u (List.mem_of_mem_drop hu)) (by omega) hC9.size ?_
          intro A' c' w' ho' _ hb
          exact hK9 _ _ _ rfl ⟨A', c', rfl, ho'⟩ (Sw.stay hG9 (by kernel_rfl) (by decide) (hC9.trans hb)) (fun hq => (hq (by decide)).elim)
        apply wpFactsR_val
        case h1 =>
          intro vs L9 w9 hG9 hC9 hB K9 hK9
          replace hC9 := hC9.before hG9 (by kernel_rfl)
          simp only [Act.put, List.setIfInBounds_toArray, List.set_cons_zero, List.set_cons_succ] at hK9
          go_simp
          exact hK9 _ _ rfl (Sw.stay hG9 (by kernel_rfl) (by decide) hC9) (fun _ => Below.refl _ _)
        refine wpFactsR_val (undef) (fun vs L9 w9 hG9 hC9 hB K9 hK9 => ?hb17) ?rb17
        case hb17 =>
          replace hC9 := hC9.here hG9
          have d16 := FactN.eq (hB 16 _ (by kernel_rfl) (by kernel_rfl) rfl (by decide))
          simp only [d16] at hK9 ⊢
          obtain ⟨A, c, e15, ho⟩ := hB 15 _ (by kernel_rfl) (by kernel_rfl) rfl (by decide)
          simp only [e15] at hK9 ⊢
          have P9 := P1b.below hC9 P1b.lt
          have q0 := P9.cell 0
          have f0 := P9.frozen 0
          simp only [List.getElem?_cons_zero] at q0
          have ho := Lib.hid ho
          go_simp
          exact hK9 _ _ rfl (Sw.turn ⟨w9, A, c, hC9, ho.out, rfl⟩) (fun hq => (hq (by decide)).elim)
        refine wpFactsR_nil fun vs L9 w9 hL9 hC9 hB => ?_
        replace hC9 := hC9.done hL9 (by decide)
        obtain ⟨W8, A, c, hb8, ho8, rfl⟩ := hC9
        clear hB hL9
        have P8 := P1b.below hb8 P1b.lt
        have hoT := ownsRow_setOther ho8 P8 ne_owt 0 (.slice A (k + 1 + (x.t.length - k)) c)
        have hoO := ownsRow_setOther (ownsRow_below hO4 hb8) P8 ne_owo 0 (.slice A (k + 1 + (x.t.length - k)) c)
        have P9 := P8.set 0 (.slice A (k + 1 + (x.t.length - k)) c)
        have L2c := (L2b.below hb8 L2b.lt).other (p := ⟨W2.heap.size, 0, none⟩) (by simp; omega) (.slice A (k + 1 + (x.t.length - k)) c)
        have b9 := (b4.trans (hb8.mono b4.size)).setCell (p := ⟨W2.heap.size, 0, none⟩) hg7 (.slice A (k + 1 + (x.t.length - k)) c)
        have hoT := ownsRow_lower hoT b4.size
        generalize W8.setCell ⟨W2.heap.size, 0, none⟩ (.slice A (k + 1 + (x.t.length - k)) c) = W9 at hoT hoO P9 L2c b9 ⊢
        have HT := Lib.hid (stOff_row (v0 := .slice A (k + 1 + (x.t.length - k)) c) (v1 := .slice OA x.o.length oc) (v2 := .int .i64 x.got) (v3 := .int .i64 x.sold) (v4 := .int .i64 x.missed) L2c hoT ne_owt)
        have HO := Lib.hid (stOff_row (v0 := .slice A (k + 1 + (x.t.length - k)) c) (v1 := .slice OA x.o.length oc) (v2 := .int .i64 x.got) (v3 := .int .i64 x.sold) (v4 := .int .i64 x.missed) L2c hoO ne_owo)
        have bz := b9.trans (stOff_below (v0 := .slice A (k + 1 + (x.t.length - k)) c) (v1 := .slice OA x.o.length oc) (v2 := .int .i64 x.got) (v3 := .int .i64 x.sold) (v4 := .int .i64 x.missed) L2c (Nat.le_succ _))
        simp only [List.set_cons_zero] at P9
        have k0 := P9.cell 0
        have k1 := P9.cell 1
        have k2 := P9.cell 2
        have k3 := P9.cell 3
        have k4 := P9.cell 4
        simp only [List.getElem?_cons_zero, List.getElem?_cons_succ] at k0 k1 k2 k3 k4
        have z0 := L2c.cell 0
        have z1 := L2c.cell 1
        have z2 := L2c.cell 2
        have z3 := L2c.cell 3
        have z4 := L2c.cell 4
        simp only [List.getElem?_cons_zero, List.getElem?_cons_succ] at z0 z1 z2 z3 z4
        have f0 := L2c.frozen 0
        have f1 := L2c.frozen 1
        have f2 := L2c.frozen 2
        have f3 := L2c.frozen 3
        have f4 := L2c.frozen 4
        clear hoT hoO P9 P8 L2c ho8 c0
        go_wp2
        refine bodyPost_ret (v := .agg #[.slice A (k + 1 + (x.t.length - k)) c, .slice OA x.o.length oc, .int .i64 x.got, .int .i64 x.sold, .int .i64 x.missed]) (by simp [results, Try.results72, go_sem, *]) rfl ?_
        rw [HIN.out, HK.out]
        have hlen : ((x.t.take k ++ [(⟨kd, n⟩ : Tray)]) ++ x.t.drop k).length = k + 1 + (x.t.length - k) := by
          rw [List.length_append, List.length_append, List.length_take, List.length_drop, List.length_singleton, Nat.min_eq_left hk]
        have hcs : (((x.t.take k ++ [(⟨kd, n⟩ : Tray)]) ++ x.t.drop k).flatMap Tray.enc) = (((x.t.flatMap Tray.enc).take (k * 2) ++ [.int .i64 kd, .int .i64 n]) ++ (x.t.flatMap Tray.enc).drop (k * 2)) := by
          rw [List.flatMap_append, List.flatMap_append, flat_take Tray.enc 2 Tray.enc_len, flat_drop Tray.enc 2 Tray.enc_len]
          rfl
        exact GivesOff.of hlen rfl rfl (by rw [hlen, hcs]; exact HT.out) HO.out bz
    · have hke : k = x.t.length := by omega
      have HK : Hid (posT x.t kd = k) := by unfold Hid; rw [← HP.out, List.drop_eq_nil_of_le (by omega)]; rfl
      clear HP
      have hkl : ¬ (k : Int) < (x.t.length : Int) := by omega
      have Hke := Lib.hid hke; clear hke
      go_wp2
      refine wp_region_factsR (Sw 17 (fun W9 => Below W4.heap.size W4 W9) (fun W9 => ∃ W8 A c, Below W4.heap.size W4 W8 ∧ W8.ownsRow W4.heap.size 74 2 (.slice A (k + 1 + (x.t.length - k)) c) (k + 1 + (x.t.length - k)) (((x.t.flatMap Tray.enc).take (k * 2) ++ [.int .i64 kd, .int .i64 n]) ++ (x.t.flatMap Tray.enc).drop (k * 2)) ∧ W9 = W8.setCell ⟨W2.heap.size, 0, none⟩ (.slice A (k + 1 + (x.t.length - k)) c))) (fun i w1 w2 => i ∉ [10, 15, 17] → Below w1.heap.size w1 w2) (by kernel_rfl) (by kernel_rfl) (by kernel_rfl) (Sw.start (Below.refl _ _).drew) ?_
      simp only [fillOps, Act.put, List.setIfInBounds_toArray, List.set_cons_zero, List.set_cons_succ, Nat.zero_add, Nat.reduceAdd]
      refine wpFactsR_some [10, 15, 17] (fun v w9 => ∃ g, v = .slice (some ⟨g, 0, none⟩) 0 0 ∧ W4.heap.size ≤ g ∧ Lies w9 g 74 []) ?sc0 (fun vs L9 w9 hG9 hC9 hB K9 hK9 => ?hc0) ?rc0
      case sc0 =>
        intro i9 hi9 hb9 ha9 v w1 w2 hv hT9
        have hb := hT9 (fun hm => by
          simp only [List.mem_cons, List.not_mem_nil, or_false] at hm hb9
          rcases hm with rfl | rfl | rfl
          · exact hb9 (by simp)
          · exact hb9 (by simp)
          · exact hb9 (by simp))
        obtain ⟨g, e, hg, hl⟩ := hv
        exact ⟨g, e, hg, hl.below hb hl.lt⟩
      case hc0 =>
        replace hC9 := hC9.before hG9 (by kernel_rfl)
        simp only [Act.put, List.setIfInBounds_toArray, List.set_cons_zero, List.set_cons_succ] at hK9
        go_simp
        exact hK9 _ _ _ rfl ⟨_, rfl, hC9.size, Lies.new w9 74 #[]⟩ (Sw.stay hG9 (by kernel_rfl) (by decide) (hC9.alloc hC9.size _)) (fun _ => (Below.refl _ _).alloc (Nat.le_refl _) _)
      apply wpFactsR_val
      case h1 =>
        intro vs L9 w9 hG9 hC9 hB K9 hK9
        replace hC9 := hC9.before hG9 (by kernel_rfl)
        simp only [Act.put, List.setIfInBounds_toArray, List.set_cons_zero, List.set_cons_succ] at hK9
        go_simp
        exact hK9 _ _ rfl (Sw.stay hG9 (by kernel_rfl) (by decide) hC9) (fun _ => Below.refl _ _)
      apply wpFactsR_val
      case h1 =>
        intro vs L9 w9 hG9 hC9 hB K9 hK9
        replace hC9 := hC9.before hG9 (by kernel_rfl)
        have d1 := FactN.eq (hB 1 _ (by kernel_rfl) (by kernel_rfl) rfl (by decide))
        simp only [d1] at hK9 ⊢
        have q0 : w9.cell? ⟨w.heap.size, 0, none⟩ = some (.slice x.TA x.t.length x.tc) := (L1b.below hC9 L1b.lt).cell 0
        simp only [Act.put, List.setIfInBounds_toArray, List.set_cons_zero, List.set_cons_succ] at hK9
        go_simp
        exact hK9 _ _ rfl (Sw.stay hG9 (by kernel_rfl) (by decide) hC9) (fun _ => Below.refl _ _)
      apply wpFactsR_val
      case h1 =>
        intro vs L9 w9 hG9 hC9 hB K9 hK9
        replace hC9 := hC9.before hG9 (by kernel_rfl)
        simp only [Act.put, List.setIfInBounds_toArray, List.set_cons_zero, List.set_cons_succ] at hK9
        go_simp
        exact hK9 _ _ rfl (Sw.stay hG9 (by kernel_rfl) (by decide) hC9) (fun _ => Below.refl _ _)
      apply wpFactsR_val
      case h1 =>
        intro vs L9 w9 hG9 hC9 hB K9 hK9
        replace hC9 := hC9.before hG9 (by kernel_rfl)
        have d2 := FactN.eq (hB 2 _ (by kernel_rfl) (by kernel_rfl) rfl (by decide))
        have d3 := FactN.eq (hB 3 _ (by kernel_rfl) (by kernel_rfl) rfl (by decide))
        simp only [d2, d3] at hK9 ⊢
        simp only [Act.put, List.setIfInBounds_toArray, List.set_cons_zero, List.set_cons_succ] at hK9
        refine step_sliceTo rfl 22 74 (.tmp 50) (.tmp 51) rfl Try.underlying22 2 infoTray_size x.TA x.t.length x.tc k (by rfl) (by rfl) hk hcap ?_
        exact hK9 _ _ rfl (Sw.stay hG9 (by kernel_rfl) (by decide) hC9) (fun _ => Below.refl _ _)
      refine wpFactsR_some [10, 15, 17] (fun v w9 => ∃ A c, v = .slice A (k) c ∧ w9.ownsRow W4.heap.size 74 2 (.slice A (k) c) (k) ((x.t.flatMap Tray.enc).take (k * 2))) ?sc5 (fun vs L9 w9 hG9 hC9 hB K9 hK9 => ?hc5) ?rc5
      case sc5 =>
        intro i9 hi9 hb9 ha9 v w1 w2 hv hT9
        have hb := hT9 (fun hm => by
          simp only [List.mem_cons, List.not_mem_nil, or_false] at hm hb9
          rcases hm with rfl | rfl | rfl
          · exact hb9 (by simp)
          · exact hb9 (by simp)
          · exact hb9 (by simp))
        obtain ⟨A, c, e, ho⟩ := hv
        exact ⟨A, c, e, ownsRow_below ho hb⟩
      case hc5 =>
        replace hC9 := hC9.before hG9 (by kernel_rfl)
        have d4 := FactN.eq (hB 4 _ (by kernel_rfl) (by kernel_rfl) rfl (by decide))
        simp only [d4] at hK9 ⊢
        simp only [Act.put, List.setIfInBounds_toArray, List.set_cons_zero, List.set_cons_succ] at hK9
        obtain ⟨g, e0, hg, hl⟩ := hB 0 _ (by kernel_rfl) (by kernel_rfl) rfl (by decide)
        simp only [e0] at hK9 ⊢
        refine stepCat rfl (.tmp 48) (.tmp 52) 22 rfl 74 _ 2 16 Try.underlying22 infoTray rfl (by omega) (by omega) W4.heap.size g (by rfl) hl hg W4.heap.size x.TA k x.tc _ (by rfl) (SlcR.take (SlcR.below hR4.ts hC9) k hk) (fun u hu => tray_cells u (List.mem_of_mem_take hu)) (by omega) ?_
        intro v' w' ho hb
        obtain ⟨A', c', rfl⟩ := ownsRow_slice ho
        exact hK9 _ _ _ rfl ⟨A', c', rfl, ho⟩ (Sw.stay hG9 (by kernel_rfl) (by decide) (hC9.trans (hb.mono hC9.size))) (fun _ => hb)
      apply wpFactsR_val
      case h1 =>
        intro vs L9 w9 hG9 hC9 hB K9 hK9
        replace hC9 := hC9.before hG9 (by kernel_rfl)
        simp only [Act.put, List.setIfInBounds_toArray, List.set_cons_zero, List.set_cons_succ] at hK9
        go_simp
        exact hK9 _ _ rfl (Sw.stay hG9 (by kernel_rfl) (by decide) hC9) (fun _ => Below.refl _ _)
      apply wpFactsR_val
      case h1 =>
        intro vs L9 w9 hG9 hC9 hB K9 hK9
        replace hC9 := hC9.before hG9 (by kernel_rfl)
        simp only [Act.put, List.setIfInBounds_toArray, List.set_cons_zero, List.set_cons_succ] at hK9
        go_simp
        exact hK9 _ _ rfl (Sw.stay hG9 (by kernel_rfl) (by decide) hC9) (fun _ => Below.refl _ _)
      apply wpFactsR_val
      case h1 =>
        intro vs L9 w9 hG9 hC9 hB K9 hK9
        replace hC9 := hC9.before hG9 (by kernel_rfl)
        have d6 := FactN.eq (hB 6 _ (by kernel_rfl) (by kernel_rfl) rfl (by decide))
        have d7 := FactN.eq (hB 7 _ (by kernel_rfl) (by kernel_rfl) rfl (by decide))
        simp only [d6, d7] at hK9 ⊢
        simp only [Act.put, List.setIfInBounds_toArray, List.set_cons_zero, List.set_cons_succ] at hK9
        go_simp
        exact hK9 _ _ rfl (Sw.stay hG9 (by kernel_rfl) (by decide) hC9) (fun _ => Below.refl _ _)
      refine wpFactsR_some [10, 15, 17] (fun v w9 => ∃ g c, v = .slice (some ⟨g, 0, none⟩) 1 c ∧ Lies w9 g 74 [.int .i64 kd, .int .i64 n]) ?sc9 (fun vs L9 w9 hG9 hC9 hB K9 hK9 => ?hc9) ?rc9
      case sc9 =>
        intro i9 hi9 hb9 ha9 v w1 w2 hv hT9
        have hb := hT9 (fun hm => by
          simp only [List.mem_cons, List.not_mem_nil, or_false] at hm hb9
          rcases hm with rfl | rfl | rfl
          · exact hb9 (by simp)
          · exact hb9 (by simp)
          · exact hb9 (by simp))
        obtain ⟨g, c, e, hl⟩ := hv
        exact ⟨g, c, e, hl.below hb hl.lt⟩
      case hc9 =>
        replace hC9 := hC9.before hG9 (by kernel_rfl)
        have d8 := FactN.eq (hB 8 _ (by kernel_rfl) (by kernel_rfl) rfl (by decide))
        simp only [d8] at hK9 ⊢
        simp only [Act.put, List.setIfInBounds_toArray, List.set_cons_zero, List.set_cons_succ] at hK9
        go_simp
        exact hK9 _ _ _ rfl ⟨_, _, rfl, Lies.new w9 74 #[.int .i64 kd, .int .i64 n]⟩ (Sw.stay hG9 (by kernel_rfl) (by decide) (hC9.alloc hC9.size _)) (fun _ => (Below.refl _ _).alloc (Nat.le_refl _) _)
      refine wpFactsR_some [15, 17] (fun v w9 => ∃ A c, v = .slice A (k + 1) c ∧ w9.ownsRow W4.heap.size 74 2 (.slice A (k + 1) c) (k + 1) ((x.t.flatMap Tray.enc).take (k * 2) ++ [.int .i64 kd, .int .i64 n])) ?sc10 (fun vs L9 w9 hG9 hC9 hB K9 hK9 => ?hc10) ?rc10
      case sc10 =>
        intro i9 hi9 hb9 ha9 v w1 w2 hv hT9
        have hb := hT9 (fun hm => by
          simp only [List.mem_cons, List.not_mem_nil, or_false] at hm hb9
          rcases hm with rfl | rfl | rfl
          · exact hi9 rfl
          · exact hb9 (by simp)
          · exact hb9 (by simp))
        obtain ⟨A, c, e, ho⟩ := hv
        exact ⟨A, c, e, ownsRow_below ho hb⟩
      case hc10 =>
        replace hC9 := hC9.before hG9 (by kernel_rfl)
        simp only [Act.put, List.setIfInBounds_toArray, List.set_cons_zero, List.set_cons_succ] at hK9
        obtain ⟨A, c, e5, ho⟩ := hB 5 _ (by kernel_rfl) (by kernel_rfl) rfl (by decide)
        obtain ⟨g, c9, e9, hl⟩ := hB 9 _ (by kernel_rfl) (by kernel_rfl) rfl (by decide)
        simp only [e5, e9] at hK9 ⊢
        refine step_cat rfl (.tmp 53) (.tmp 57) 22 rfl 74 _ 2 16 Try.underlying22 infoTray rfl (by omega) (by omega) W4.heap.size _ k _ (by rfl) ho w9.heap.size (some ⟨g, 0, none⟩) 1 c9 [.int .i64 kd, .int .i64 n] (by rfl) (hl.reads rfl (by omega)) (by simp [Value.oneCell']) (by omega) hC9.size ?_
        intro A' c' w' ho' _ hb
        exact hK9 _ _ _ rfl ⟨A', c', rfl, ho'⟩ (Sw.stay hG9 (by kernel_rfl) (by decide) (hC9.trans hb)) (fun hq => (hq (by decide)).elim)
      apply wpFactsR_val
      case h1 =>
        intro vs L9 w9 hG9 hC9 hB K9 hK9
        replace hC9 := hC9.before hG9 (by kernel_rfl)
        simp only [Act.put, List.setIfInBounds_toArray, List.set_cons_zero, List.set_cons_succ] at hK9
        go_simp
        exact hK9 _ _ rfl (Sw.stay hG9 (by kernel_rfl) (by decide) hC9) (fun _ => Below.refl _ _)
      apply wpFactsR_val
      case h1 =>
        intro vs L9 w9 hG9 hC9 hB K9 hK9
        replace hC9 := hC9.before hG9 (by kernel_rfl)
        have d11 := FactN.eq (hB 11 _ (by kernel_rfl) (by kernel_rfl) rfl (by decide))
        simp only [d11] at hK9 ⊢
        have q0 : w9.cell? ⟨w.heap.size, 0, none⟩ = some (.slice x.TA x.t.length x.tc) := (L1b.below hC9 L1b.lt).cell 0
        simp only [Act.put, List.setIfInBounds_toArray, List.set_cons_zero, List.set_cons_succ] at hK9
        go_simp
        exact hK9 _ _ rfl (Sw.stay hG9 (by kernel_rfl) (by decide) hC9) (fun _ => Below.refl _ _)
      apply wpFactsR_val
      case h1 =>
        intro vs L9 w9 hG9 hC9 hB K9 hK9
        replace hC9 := hC9.before hG9 (by kernel_rfl)
        simp only [Act.put, List.setIfInBounds_toArray, List.set_cons_zero, List.set_cons_succ] at hK9
        go_simp
        exact hK9 _ _ rfl (Sw.stay hG9 (by kernel_rfl) (by decide) hC9) (fun _ => Below.refl _ _)
      refine wpFactsR_some [] (fun v w9 => ∃ A, v = .slice A (x.t.length - k) (x.tc - k) ∧ ∀ W9, Below W4.heap.size W4 W9 → SlcR W9 W4.heap.size 2 A (x.t.length - k) ((x.t.flatMap Tray.enc).drop (k * 2))) ?sc14 (fun vs L9 w9 hG9 hC9 hB K9 hK9 => ?hc14) ?rc14
      case sc14 =>
        intro i9 hi9 hb9 ha9 v w1 w2 hv hT9
        exact hv
      case hc14 =>
        replace hC9 := hC9.before hG9 (by kernel_rfl)
        have d12 := FactN.eq (hB 12 _ (by kernel_rfl) (by kernel_rfl) rfl (by decide))
        have d13 := FactN.eq (hB 13 _ (by kernel_rfl) (by kernel_rfl) rfl (by decide))
        simp only [d12, d13] at hK9 ⊢
        simp only [Act.put, List.setIfInBounds_toArray, List.set_cons_zero, List.set_cons_succ] at hK9
        refine step_sliceFrom rfl 22 74 (.tmp 60) (.tmp 61) rfl Try.underlying22 2 infoTray_size x.TA x.t.length x.tc k (by rfl) (by rfl) hk hcap ?_
        intro A' hA9
        exact hK9 _ _ _ rfl ⟨A', rfl, fun W9 hW => hA9 _ _ _ (SlcR.below hR4.ts hW)⟩ (Sw.stay hG9 (by kernel_rfl) (by decide) hC9) (fun _ => Below.refl _ _)
      refine wpFactsR_some [17] (fun v w9 => ∃ A c, v = .slice A (k + 1 + (x.t.length - k)) c ∧ w9.ownsRow W4.heap.size 74 2 (.slice A (k + 1 + (x.t.length - k)) c) (k + 1 + (x.t.length - k)) (((x.t.flatMap Tray.enc).take (k * 2) ++ [.int .i64 kd, .int .i64 n]) ++ (x.t.flatMap Tray.enc).drop (k * 2))) ?sc15 (fun vs L9 w9 hG9 hC9 hB K9 hK9 => ?hc15) ?rc15
      case sc15 =>
        intro i9 hi9 hb9 ha9 v w1 w2 hv hT9
        have hb := hT9 (fun hm => by
          simp only [List.mem_cons, List.not_mem_nil, or_false] at hm hb9
          rcases hm with rfl | rfl | rfl
          · exact absurd (ha9.symm.trans (show ahead .any _ _ _ _ = true by kernel_rfl)) (by decide)
          · exact hi9 rfl
          · exact hb9 (by simp))
        obtain ⟨A, c, e, ho⟩ := hv
        exact ⟨A, c, e, ownsRow_below ho hb⟩
      case hc15 =>
        replace hC9 := hC9.before hG9 (by kernel_rfl)
        simp only [Act.put, List.setIfInBounds_toArray, List.set_cons_zero, List.set_cons_succ] at hK9
        obtain ⟨A, c, e10, ho⟩ := hB 10 _ (by kernel_rfl) (by kernel_rfl) rfl (by decide)
        obtain ⟨A14, e14, hr⟩ := hB 14 _ (by kernel_rfl) (by kernel_rfl) rfl (by decide)
        simp only [e10, e14] at hK9 ⊢
        refine step_cat rfl (.tmp 58) (.tmp 62) 22 rfl 74 _ 2 16 Try.underlying22 infoTray rfl (by omega) (by omega) W4.heap.size _ (k + 1) _ (by rfl) ho W4.heap.size A14 (x.t.length - k) (x.tc - k) _ (by rfl) (hr w9 hC9) (fun u hu => tray_cells u (List.mem_of_mem_drop hu)) (by omega) hC9.size ?_
        intro A' c' w' ho' _ hb
        exact hK9 _ _ _ rfl ⟨A', c', rfl, ho'⟩ (Sw.stay hG9 (by kernel_rfl) (by decide) (hC9.trans hb)) (fun hq => (hq (by decide)).elim)
      apply wpFactsR_val
      case h1 =>
        intro vs L9 w9 hG9 hC9 hB K9 hK9
        replace hC9 := hC9.before hG9 (by kernel_rfl)
        simp only [Act.put, List.setIfInBounds_toArray, List.set_cons_zero, List.set_cons_succ] at hK9
        go_simp
        exact hK9 _ _ rfl (Sw.stay hG9 (by kernel_rfl) (by decide) hC9) (fun _ => Below.refl _ _)
      refine wpFactsR_val (undef) (fun vs L9 w9 hG9 hC9 hB K9 hK9 => ?hc17) ?rc17
      case hc17 =>
        replace hC9 := hC9.here hG9
        have d16 := FactN.eq (hB 16 _ (by kernel_rfl) (by kernel_rfl) rfl (by decide))
        simp only [d16] at hK9 ⊢
        obtain ⟨A, c, e15, ho⟩ := hB 15 _ (by kernel_rfl) (by kernel_rfl) rfl (by decide)
        simp only [e15] at hK9 ⊢
        have P9 := P1b.below hC9 P1b.lt
        have q0 := P9.cell 0
        have f0 := P9.frozen 0
        simp only [List.getElem?_cons_zero] at q0
        have ho := Lib.hid ho
        go_simp
        exact hK9 _ _ rfl (Sw.turn ⟨w9, A, c, hC9, ho.out, rfl⟩) (fun hq => (hq (by decide)).elim)
      refine wpFactsR_nil fun vs L9 w9 hL9 hC9 hB => ?_
      replace hC9 := hC9.done hL9 (by decide)
      obtain ⟨W8, A, c, hb8, ho8, rfl⟩ := hC9
      clear hB hL9
      have P8 := P1b.below hb8 P1b.lt
      have hoT := ownsRow_setOther ho8 P8 ne_owt 0 (.slice A (k + 1 + (x.t.length - k)) c)
      have hoO := ownsRow_setOther (ownsRow_below hO4 hb8) P8 ne_owo 0 (.slice A (k + 1 + (x.t.length - k)) c)
      have P9 := P8.set 0 (.slice A (k + 1 + (x.t.length - k)) c)
      have L2c := (L2b.below hb8 L2b.lt).other (p := ⟨W2.heap.size, 0, none⟩) (by simp; omega) (.slice A (k + 1 + (x.t.length - k)) c)
      have b9 := (b4.trans (hb8.mono b4.size)).setCell (p := ⟨W2.heap.size, 0, none⟩) hg7 (.slice A (k + 1 + (x.t.length - k)) c)
      have hoT := ownsRow_lower hoT b4.size
      generalize W8.setCell ⟨W2.heap.size, 0, none⟩ (.slice A (k + 1 + (x.t.length - k)) c) = W9 at hoT hoO P9 L2c b9 ⊢
      have HT := Lib.hid (stOff_row (v0 := .slice A (k + 1 + (x.t.length - k)) c) (v1 := .slice OA x.o.length oc) (v2 := .int .i64 x.got) (v3 := .int .i64 x.sold) (v4 := .int .i64 x.missed) L2c hoT ne_owt)
      have HO := Lib.hid (stOff_row (v0 := .slice A (k + 1 + (x.t.length - k)) c) (v1 := .slice OA x.o.length oc) (v2 := .int .i64 x.got) (v3 := .int .i64 x.sold) (v4 := .int .i64 x.missed) L2c hoO ne_owo)
      have bz := b9.trans (stOff_below (v0 := .slice A (k + 1 + (x.t.length - k)) c) (v1 := .slice OA x.o.length oc) (v2 := .int .i64 x.got) (v3 := .int .i64 x.sold) (v4 := .int .i64 x.missed) L2c (Nat.le_succ _))
      simp only [List.set_cons_zero] at P9
      have k0 := P9.cell 0
      have k1 := P9.cell 1
      have k2 := P9.cell 2
      have k3 := P9.cell 3
      have k4 := P9.cell 4
      simp only [List.getElem?_cons_zero, List.getElem?_cons_succ] at k0 k1 k2 k3 k4
      have z0 := L2c.cell 0
      have z1 := L2c.cell 1
      have z2 := L2c.cell 2
      have z3 := L2c.cell 3
      have z4 := L2c.cell 4
      simp only [List.getElem?_cons_zero, List.getElem?_cons_succ] at z0 z1 z2 z3 z4
      have f0 := L2c.frozen 0
      have f1 := L2c.frozen 1
      have f2 := L2c.frozen 2
      have f3 := L2c.frozen 3
      have f4 := L2c.frozen 4
      clear hoT hoO P9 P8 L2c ho8 c0
      go_wp2
      refine bodyPost_ret (v := .agg #[.slice A (k + 1 + (x.t.length - k)) c, .slice OA x.o.length oc, .int .i64 x.got, .int .i64 x.sold, .int .i64 x.missed]) (by simp [results, Try.results72, go_sem, *]) rfl ?_
      rw [HIN.out, HK.out]
      have hlen : ((x.t.take k ++ [(⟨kd, n⟩ : Tray)]) ++ x.t.drop k).length = k + 1 + (x.t.length - k) := by
        rw [List.length_append, List.length_append, List.length_take, List.length_drop, List.length_singleton, Nat.min_eq_left hk]
      have hcs : (((x.t.take k ++ [(⟨kd, n⟩ : Tray)]) ++ x.t.drop k).flatMap Tray.enc) = (((x.t.flatMap Tray.enc).take (k * 2) ++ [.int .i64 kd, .int .i64 n]) ++ (x.t.flatMap Tray.enc).drop (k * 2)) := by
        rw [List.flatMap_append, List.flatMap_append, flat_take Tray.enc 2 Tray.enc_len, flat_drop Tray.enc 2 Tray.enc_len]
        rfl
      exact GivesOff.of hlen rfl rfl (by rw [hlen, hcs]; exact HT.out) HO.out bz

end Go.Proofs.Ytdiojhjkcholiaa

/- Another count of stamps at a person, in the reference. (Printed by gen_specat.py) -/
namespace Go.Proofs.Ytdiojhjkcholiaa
open Go.RowKit

/-- 'append(s, x)' with x one element: as wpList_push, and where the new row lies. -/
theorem wpList_push2 {P : Program} {ops : Array Oper} {rest : List Oper} {o : Oper} {a : Act} {w0 wA : World} {Q : Exit → Act → World → Prop} (hgd : o.guard = none) (s x : Operand) (t : TypeId)
    (ho : o.op = .call { callee := .builtin .append, args := #[s, x], argTypes := #[t, t] })
    (e : TypeId) (z : Value) (k bytes : Nat) (ht : P.underlying t = some (.slice e)) (hinfo : (P.info? e).map (fun i => (i.zero, i.size, i.bytes)) = some (some z, k, bytes)) (hzs : z.cells.size = k) (hsz : 0 < k) (hby : bytes ≤ 1000)
    (B : Nat) (v : Value) (n : Nat) (xs : List Value) (hs : a.eval s = v) (hown : Hid (w0.ownsRow B e k v n xs))
    (vs : Array Value) (c g : Nat) (hx : a.eval x = .slice (some ⟨g, 0, none⟩) 1 c) (hg : w0.heap.size = g) (hvs : vs.size = k) (h1 : vs.all (·.oneCell') = true) (hn : n < 1000000000) (hbase : B ≤ w0.heap.size)
    (hheap : wA.heap = (w0.alloc (.cells vs e)).heap) (hos : wA.os = w0.os) (htape : wA.tape = w0.tape) (hout : wA.output = w0.output)
    (h : ∀ v' w', Hid (w'.ownsRow B e k v' (n + 1) (xs ++ vs.toList)) → w0.grownBy w' v.ownBlock → Below B w0 w' → (∀ g', v'.ownBlock = some g' → v.ownBlock = some g' ∨ w0.heap.size ≤ g') → wpList P ops Q rest (a.put o.dst v') w') : wpList P ops Q (o :: rest) a wA := by
  subst hg
  obtain ⟨i, hi, hz, hs', hb⟩ := info_parts hinfo
  have hown' := hown.out
  have hsize : wA.heap.size = w0.heap.size + 1 := by rw [hheap]; exact Array.size_push _
  have hblock : ∀ j, j < w0.heap.size → wA.heap[j]? = w0.heap[j]? := fun j hj => by rw [hheap]; exact Below.heap_alloc w0 _ j hj
  have h4 : w0.grownBy wA v.ownBlock := ⟨hos, htape, hout, by omega, fun j hj _ => hblock j hj⟩
  refine wpList_cat (w := wA) hgd s x t ho e z k bytes ht hinfo hzs hsz hby B v n xs hs (Lib.hid (ownsRow_heap hheap (hown'.alloc _))) (w0.heap.size + 1) (some ⟨w0.heap.size, 0, none⟩) 1 c vs.toList hx (Lib.hid ⟨by simp [hvs], by omega, fun _ => ⟨w0.heap.size, 0, rfl, by omega, ?_⟩⟩) (fun u hu => (Array.all_eq_true_iff_forall_mem.1 h1) u (by simpa using hu)) (by omega) (by omega) fun v' w' h2 h3 _ h5 => h v' w' h2 ?_ ?_ ?_
  · intro j u hj
    have := cells_new w0 vs e j u hj
    rw [addr_add] at this
    rw [← this]; exact World.cell?_of_block (by rw [hheap])
  · exact ⟨h3.os.trans h4.os, h3.tape.trans h4.tape, h3.output.trans h4.output, Nat.le_trans h4.size h3.size, fun j hj hne => (h3.block j (Nat.lt_of_lt_of_le hj h4.size) hne).trans (h4.block j hj hne)⟩
  · exact ((Below.refl B w0).grown h4 hbase (fun j hj => (hown'.lt j hj).1)).grown h3 (by omega) (fun j hj => (hown'.lt j hj).1)
  · intro g' hg'
    rcases h5 with h5 | h5
    · left; rw [← h5]; exact hg'
    · right; rw [h5] at hg'; injection hg' with hg'; omega

/-- What stands while the outings are copied: os so far, the new one with count c. -/
structure AtI (w wr : World) (g9 g10 : Nat) (x : Off) (vt vo : Value) (os : List Outing) (kd pe c : Int) : Prop where
  below : Below w.heap.size w wr
  lx : Lies wr w.heap.size 25 [.slice x.TA x.t.length x.tc, .slice x.OA x.o.length x.oc, .int .i64 x.got, .int .i64 x.sold, .int .i64 x.missed]
  lr : Lies wr (w.heap.size + 1) 25 [.slice none 0 0, .slice none 0 0, .int .i64 0, .int .i64 0, .int .i64 0]
  own : OffOwn wr w.heap.size g9 vt vo ⟨x.t, os, x.got, x.sold, x.missed⟩
  more : Lies wr g10 100 [.int .i64 kd, .int .i64 pe, .int .i64 c]
  ne : vo.ownBlock ≠ some g10
  gg : w.heap.size + 1 < g9 ∧ g9 < g10
section
variable {w wr w' : World} {g9 g10 : Nat} {x : Off} {vt vo v' : Value} {os : List Outing} {kd pe c : Int}
theorem AtI.then (h : AtI w wr g9 g10 x vt vo os kd pe c) (hb : Below wr.heap.size wr w') : AtI w w' g9 g10 x vt vo os kd pe c :=
  ⟨h.below.trans (hb.mono h.below.size), h.lx.below hb h.lx.lt, h.lr.below hb h.lr.lt, h.own.then hb, h.more.below hb h.more.lt, h.ne, h.gg⟩
theorem AtI.far (h : AtI w wr g9 g10 x vt vo os kd pe c) {g : Nat} {cs : List Value} (hL : Lies wr g 25 cs) : some g ≠ vo.ownBlock := ownsRow_far h.own.o hL ne_OO
/-- Another block, behind the append and the store into the field. -/
theorem AtI.other (h3 : wr.grownBy w' vo.ownBlock) {g : Nat} {t : TypeId} {cs : List Value} (hL : Lies wr g t cs) (hne : some g ≠ vo.ownBlock) (hg : g ≠ g9) : Lies (w'.setCell ⟨g9, 1, none⟩ v') g t cs := (hL.kept h3 hne).other (p := ⟨g9, 1, none⟩) hg v'
theorem AtI.push (h : AtI w wr g9 g10 x vt vo os kd pe c) {o : Outing} (h3 : wr.grownBy w' vo.ownBlock) (h2 : w'.ownsRow w.heap.size 100 3 v' (os.length + 1) (os.flatMap Outing.enc ++ o.enc)) (hb : Below w.heap.size wr w')
    (h4 : ∀ g', v'.ownBlock = some g' → vo.ownBlock = some g' ∨ wr.heap.size ≤ g') : AtI w (w'.setCell ⟨g9, 1, none⟩ v') g9 g10 x vt v' (os ++ [o]) kd pe c := by
  have hlt := h.more.lt
  have g1 := h.gg.1
  have g2 := h.gg.2
  refine ⟨(h.below.trans hb).setCell (p := ⟨g9, 1, none⟩) (show w.heap.size ≤ g9 by omega) v', AtI.other h3 h.lx (h.far h.lx) (by omega), AtI.other h3 h.lr (h.far h.lr) (by omega), ?_, AtI.other h3 h.more (fun e => h.ne e.symm) (by omega), ?_, h.gg⟩
  · refine OffOwn.setO (os := os ++ [o]) h.own h3 ?_
    rw [List.length_append, List.flatMap_append]; simpa using h2
  · intro e
    rcases h4 g10 e with e | e
    · exact h.ne e
    · omega
theorem AtI.field (h : AtI w wr g9 g10 x vt vo os kd pe c) (h3 : wr.grownBy w' vo.ownBlock) : w'.cell? ⟨g9, 1, none⟩ = some vo ∧ w'.frozen? ⟨g9, 1, none⟩ = false := by
  have hL := h.own.lies.kept h3 (h.far h.own.lies)
  exact ⟨hL.cell 1, hL.frozen 1⟩
theorem AtI.zero (h : AtI w wr g9 g10 x vt vo os kd pe c) : AtI w (wr.setCell ⟨g10, 2, none⟩ (.int .i64 0)) g9 g10 x vt vo os kd pe 0 := by
  have g1 := h.gg.1
  have g2 := h.gg.2
  refine ⟨h.below.setCell (p := ⟨g10, 2, none⟩) (show w.heap.size ≤ g10 by omega) _, h.lx.other (p := ⟨g10, 2, none⟩) (by simp; omega) _, h.lr.other (p := ⟨g10, 2, none⟩) (by simp; omega) _, ?_, h.more.set 2 _, h.ne, h.gg⟩
  have hf : ∀ {v : Value} {t : TypeId} {k n : Nat} {xs : List Value}, v.ownBlock ≠ some g10 → wr.ownsRow w.heap.size t k v n xs → (wr.setCell ⟨g10, 2, none⟩ (.int .i64 0)).ownsRow w.heap.size t k v n xs := fun hne ho => ho.kept (grown_set (World.grownBy.refl wr (some g10))) (.inr hne)
  exact ⟨h.own.lies.other (p := ⟨g10, 2, none⟩) (by simp; omega) _, h.own.hg, hf (fun e => ownsRow_far h.own.t h.more (by decide) e.symm) h.own.t, hf h.ne h.own.o⟩
theorem AtI.count (h : AtI w wr g9 g10 x vt vo os kd pe c) : wr.cell? ⟨g10, 2, none⟩ = some (.int .i64 c) ∧ wr.frozen? ⟨g10, 2, none⟩ = false := ⟨h.more.cell 2, h.more.frozen 2⟩
end
theorem infoOut : (Try.prog.info? 100).map (fun i => (i.zero, i.size, i.bytes)) = some (some (.agg #[.int .i64 0, .int .i64 0, .int .i64 0]), 3, 24) := by kernel_rfl
theorem atO_step {k p c : Int} {l : List Outing} {i : Nat} (h : i < l.length) : atO k p c (l.drop i) =
    if before ⟨k, p, 0⟩ l[i] = true ∧ c ≠ 0 then ⟨k, p, c⟩ :: (if isAt k p l[i] then atO k p 0 (l.drop (i + 1)) else l[i] :: atO k p 0 (l.drop (i + 1)))
    else if isAt k p l[i] then atO k p c (l.drop (i + 1)) else l[i] :: atO k p c (l.drop (i + 1)) := by
  rw [List.drop_eq_getElem_cons h, atO]

set_option maxRecDepth 100000 in
set_option maxHeartbeats 4000000 in
theorem l32At_any (x : Off) (kd pe c : Int) (w : World) (h : OffR w w.heap.size x) (tl : x.t.length ≤ 1000000) (ol : x.o.length ≤ 1000000) (hkd : 1 ≤ kd ∧ kd ≤ 99) (hpe : 1 ≤ pe ∧ pe ≤ 999)
    (hob : ∀ i (hi : i < x.o.length), (1 ≤ x.o[i].k ∧ x.o[i].k ≤ 99) ∧ (1 ≤ x.o[i].p ∧ x.o[i].p ≤ 999)) :
    Calls Try.prog 95 #[x.val, .int .i64 kd, .int .i64 pe, .int .i64 c] w (GivesOff w ⟨x.t, atO kd pe c x.o, x.got, x.sold, x.missed⟩) := by
  have L1 := (Lies.new w 25 #[.slice x.TA x.t.length x.tc, .slice x.OA x.o.length x.oc, .int .i64 x.got, .int .i64 x.sold, .int .i64 x.missed]).alloc (.cells #[.slice none 0 0, .slice none 0 0, .int .i64 0, .int .i64 0, .int .i64 0] 25)
  have L2 := Lies.new1 w (.cells #[.slice x.TA x.t.length x.tc, .slice x.OA x.o.length x.oc, .int .i64 x.got, .int .i64 x.sold, .int .i64 x.missed] 25) 25 #[.slice none 0 0, .slice none 0 0, .int .i64 0, .int .i64 0, .int .i64 0]
  have b1 := (Below.refl w.heap.size w).alloc (Nat.le_refl _) (.cells #[.slice x.TA x.t.length x.tc, .slice x.OA x.o.length x.oc, .int .i64 x.got, .int .i64 x.sold, .int .i64 x.missed] 25)
  have b2 := b1.alloc b1.size (.cells #[.slice none 0 0, .slice none 0 0, .int .i64 0, .int .i64 0, .int .i64 0] 25)
  clear b1
  go_enter Try.func95, Try.ntmps95
  go_wp2_with fail
  generalize ((w.alloc (.cells #[.slice x.TA x.t.length x.tc, .slice x.OA x.o.length x.oc, .int .i64 x.got, .int .i64 x.sold, .int .i64 x.missed] 25)).alloc (.cells #[.slice none 0 0, .slice none 0 0, .int .i64 0, .int .i64 0, .int .i64 0] 25)) = W at L1 L2 b2 ⊢
  have hR := h.up b2 (Nat.le_refl _)
  refine (l32Own_any x W hR tl ol).mono ?_
  rintro e W2 ⟨TA, tc, OA, oc, he, hT, hO, hb2⟩
  have he : e = .returned (.agg #[.slice TA x.t.length tc, .slice OA x.o.length oc, .int .i64 x.got, .int .i64 x.sold, .int .i64 x.missed]) := he
  subst he
  simp only [Off.c] at hT hO
  have L1a := (L1.below hb2 L1.lt).alloc (.cells #[.slice TA x.t.length tc, .slice OA x.o.length oc, .int .i64 x.got, .int .i64 x.sold, .int .i64 x.missed] 25)
  have L2a := (L2.below hb2 L2.lt).alloc (.cells #[.slice TA x.t.length tc, .slice OA x.o.length oc, .int .i64 x.got, .int .i64 x.sold, .int .i64 x.missed] 25)
  have P1 := Lies.new W2 25 #[.slice TA x.t.length tc, .slice OA x.o.length oc, .int .i64 x.got, .int .i64 x.sold, .int .i64 x.missed]
  have hal := (Below.refl W2.heap.size W2).alloc (Nat.le_refl _) (.cells #[.slice TA x.t.length tc, .slice OA x.o.length oc, .int .i64 x.got, .int .i64 x.sold, .int .i64 x.missed] 25)
  have hT3 := ownsRow_lower (ownsRow_below hT hal) b2.size
  have b3 := b2.trans ((bthen hb2 hal).mono b2.size)
  have hR3 := (h.below b3)
  have hg8 : w.heap.size + 1 < W2.heap.size := Nat.lt_of_lt_of_le L2.lt hb2.size
  have hos : x.o.length ≤ x.o.length := Nat.le_refl _
  clear L1 L2 b2 hb2 hT hO hal hR
  obtain ⟨W3, hW3⟩ : ∃ W3, W2.alloc (.cells #[.slice TA x.t.length tc, .slice OA x.o.length oc, .int .i64 x.got, .int .i64 x.sold, .int .i64 x.missed] 25) = W3 := ⟨_, rfl⟩
  have hs3 : W3.heap.size = W2.heap.size + 1 := by rw [← hW3]; simp
  rw [hW3] at L1a L2a P1 hT3 b3 hR3
  -- the empty row, and the field
  have Pe := (P1.alloc (.cells #[] 100))
  have q1 := Pe.cell 1
  have f1 := Pe.frozen 1
  simp only [List.getElem?_cons_zero, List.getElem?_cons_succ] at q1
  have Le := (Lies.new W3 100 #[])
  obtain ⟨W4, hW4⟩ : ∃ W4, (W3.alloc (.cells #[] 100)).setCell ⟨W2.heap.size, 1, none⟩ (.slice (some ⟨W3.heap.size, 0, none⟩) 0 0) = W4 := ⟨_, rfl⟩
  have hs4 : W4.heap.size = W3.heap.size + 1 := by rw [← hW4]; simp
  have L1d := (L1a.alloc (.cells #[] 100)).other (p := ⟨W2.heap.size, 1, none⟩) (by simp; omega) (.slice (some ⟨W3.heap.size, 0, none⟩) 0 0)
  have L2d := (L2a.alloc (.cells #[] 100)).other (p := ⟨W2.heap.size, 1, none⟩) (by simp; omega) (.slice (some ⟨W3.heap.size, 0, none⟩) 0 0)
  have P4 := Pe.set 1 (.slice (some ⟨W3.heap.size, 0, none⟩) 0 0)
  have hT4 := ownsRow_setOther (hT3.alloc (.cells #[] 100)) Pe ne_owt 1 (.slice (some ⟨W3.heap.size, 0, none⟩) 0 0)
  have b4 := (b3.alloc b3.size (.cells #[] 100)).setCell (p := ⟨W2.heap.size, 1, none⟩) (show w.heap.size ≤ W2.heap.size by omega) (.slice (some ⟨W3.heap.size, 0, none⟩) 0 0)
  have Le4 := Le.other (p := ⟨W2.heap.size, 1, none⟩) (by simp; omega) (.slice (some ⟨W3.heap.size, 0, none⟩) 0 0)
  rw [hW4] at L1d L2d P4 hT4 b4 Le4
  simp only [List.set_cons_zero, List.set_cons_succ] at P4
  have hO4 : W4.ownsRow w.heap.size 100 3 (.slice (some ⟨W3.heap.size, 0, none⟩) 0 0) 0 [] := owns_empty Le4 (by omega)
  have hb5 := (Below.refl W4.heap.size W4).alloc (Nat.le_refl _) (.cells #[.int .i64 kd, .int .i64 pe, .int .i64 c] 100)
  have AI : AtI w (W4.alloc (.cells #[.int .i64 kd, .int .i64 pe, .int .i64 c] 100)) W2.heap.size W4.heap.size x (.slice TA x.t.length tc) (.slice (some ⟨W3.heap.size, 0, none⟩) 0 0) [] kd pe c :=
    ⟨b4.trans (hb5.mono b4.size), L1d.below hb5 L1d.lt, L2d.below hb5 L2d.lt, ⟨P4.below hb5 P4.lt, by omega, ownsRow_below hT4 hb5, ownsRow_below hO4 hb5⟩, Lies.new W4 100 #[.int .i64 kd, .int .i64 pe, .int .i64 c], by simp [Value.ownBlock]; omega, by omega⟩
  obtain ⟨W5, hW5⟩ : ∃ W5, W4.alloc (.cells #[.int .i64 kd, .int .i64 pe, .int .i64 c] 100) = W5 := ⟨_, rfl⟩
  rw [hW5] at AI
  clear L1a L2a P1 hT3 b3 hR3 Pe Le L1d L2d P4 hT4 b4 Le4 hO4 hb5
  have HS3 := Lib.hid hs3
  have HS4 := Lib.hid hs4
  clear hs3 hs4
  go_wp2_with (first | (rw [hW3]; clear hW3) | (rw [hW4]; clear hW4) | (rw [hW5]; clear hW5))
  clear q1 f1
  generalize hg9 : W2.heap.size = g9 at AI ⊢
  generalize hg10 : W4.heap.size = g10 at AI ⊢
  clear hg9 hg10 HS3 HS4 hg8 hos
  have hl := h.os.big
  go_loopw [11] (fun v wr => ∃ (k : Nat) (os : List Outing) (vo : Value) (c' : Int), k ≤ x.o.length ∧ v = .int .i64 (k : Int) ∧ AtI w wr g9 g10 x (.slice TA x.t.length tc) vo os kd pe c' ∧ os.length ≤ 2 * k ∧ Hid (os ++ atO kd pe c' (x.o.drop k) = atO kd pe c x.o)) (fun v _ => x.o.length - (intOf v).toNat)
  case atStart => exact ⟨0, [], _, c, Nat.zero_le _, rfl, AI, Nat.zero_le _, rfl⟩
  case round =>
    clear AI
    obtain ⟨k, os, vo, c', hk, rfl, AI, hos, HP⟩ := hrel
    by_cases hlt : k < x.o.length
    · obtain ⟨bA, off, hA, hbA, hcell⟩ := OutingsR.el h.os (by omega)
      obtain ⟨e0, e1, e2⟩ := hcell k hlt
      have HS := Lib.hid (atO_step (k := kd) (p := pe) (c := c') hlt)
      obtain ⟨⟨ok1, ok2⟩, op1, op2⟩ := hob k hlt
      obtain ⟨o, hoe⟩ : ∃ o, o = x.o[k] := ⟨_, rfl⟩
      rw [← hoe] at e0 e1 e2 HS ok1 ok2 op1 op2
      clear hoe hcell
      obtain ⟨kd1, kd2⟩ := hkd
      obtain ⟨pe1, pe2⟩ := hpe
      have e0 : wr.cell? ⟨bA, off + k * 3, none⟩ = some (.int .i64 o.k) := e0 ⟨wr, AI.below⟩
      have e1 : wr.cell? ⟨bA, off + k * 3 + 1, none⟩ = some (.int .i64 o.p) := e1 ⟨wr, AI.below⟩
      have e2 : wr.cell? ⟨bA, off + k * 3 + 2, none⟩ = some (.int .i64 o.c) := e2 ⟨wr, AI.below⟩
      have c1 := AI.lx.cell 1
      simp only [List.getElem?_cons_zero, List.getElem?_cons_succ] at c1
      simp only [hA] at c1
      have HA := Lib.hid hA
      have HBA := Lib.hid hbA
      clear hA hbA
      have HB : Hid (before ⟨kd, pe, 0⟩ o = decide (1000 * kd + pe < 1000 * o.k + o.p)) := before_key ⟨pe1, pe2⟩ ⟨op1, op2⟩
      have hb6 := (Below.refl wr.heap.size wr).alloc (Nat.le_refl _) (.cells #[.int .i64 o.k, .int .i64 o.p, .int .i64 o.c] 100)
      have L12 := Lies.new wr 100 #[.int .i64 o.k, .int .i64 o.p, .int .i64 o.c]
      have A6 := AI.then hb6
      have h12 : some wr.heap.size ≠ vo.ownBlock := fun e => by have := (AI.own.o.lt _ e.symm).2; omega
      have h129 : wr.heap.size ≠ g9 := fun e => by have := AI.own.lies.lt; omega
      have h1210 : wr.heap.size ≠ g10 := fun e => by have := AI.more.lt; omega
      clear hb6 AI
      obtain ⟨W6, hW6⟩ : ∃ W6, wr.alloc (.cells #[.int .i64 o.k, .int .i64 o.p, .int .i64 o.c] 100) = W6 := ⟨_, rfl⟩
      rw [hW6] at L12 A6
      go_wp2_with (rw [hW6]; clear hW6)
      clear e0 e1 e2 c1
      generalize wr.heap.size = g12 at L12 h12 h129 h1210 ⊢
      obtain ⟨b, hbd⟩ : ∃ b, decide (1000 * kd + pe < 1000 * o.k + o.p) = b := ⟨_, rfl⟩
      have HBD := Lib.hid hbd; clear hbd
      refine wp_region_factsR (fun _ => (fun W9 => Below W6.heap.size W6 W9)) (fun _ w1 w2 => Below w1.heap.size w1 w2) (by kernel_rfl) (by kernel_rfl) (by kernel_rfl) (Below.refl _ _).drew ?_
      simp only [fillOps, Act.put, List.setIfInBounds_toArray, List.set_cons_zero, List.set_cons_succ, Nat.zero_add, Nat.reduceAdd]
      apply wpFactsR_val
      case h1 =>
        intro vs L9 w9 hG9 hC9 hB K9 hK9
        have q0 : w9.cell? ⟨g12, 0, none⟩ = some (.int .i64 o.k) := (L12.below hC9 L12.lt).cell 0
        have q1 : w9.cell? ⟨g12, 1, none⟩ = some (.int .i64 o.p) := (L12.below hC9 L12.lt).cell 1
        have q2 : w9.cell? ⟨g12, 2, none⟩ = some (.int .i64 o.c) := (L12.below hC9 L12.lt).cell 2
        simp only [Act.put, List.setIfInBounds_toArray, List.set_cons_zero, List.set_cons_succ] at hK9
        go_simp
        exact hK9 _ _ rfl hC9 (Below.refl _ _)
      apply wpFactsR_val
      case h1 =>
        intro vs L9 w9 hG9 hC9 hB K9 hK9
        have d0 := FactN.eq (hB 0 _ (by kernel_rfl) (by kernel_rfl) rfl (by decide))
        simp only [d0] at hK9 ⊢
        simp only [Act.put, List.setIfInBounds_toArray, List.set_cons_zero, List.set_cons_succ] at hK9
        go_simp
        refine (l32Key_any o _ ⟨ok1, ok2⟩ ⟨op1, op2⟩).mono ?_
        rintro en w8 ⟨rfl, hb8⟩
        exact hK9 _ _ rfl (hC9.trans (hb8.mono hC9.size)) hb8
      apply wpFactsR_val
      case h1 =>
        intro vs L9 w9 hG9 hC9 hB K9 hK9
        have q0 : w9.cell? ⟨g10, 0, none⟩ = some (.int .i64 kd) := (A6.more.below hC9 A6.more.lt).cell 0
        have q1 : w9.cell? ⟨g10, 1, none⟩ = some (.int .i64 pe) := (A6.more.below hC9 A6.more.lt).cell 1
        have q2 : w9.cell? ⟨g10, 2, none⟩ = some (.int .i64 c') := (A6.more.below hC9 A6.more.lt).cell 2
        simp only [Act.put, List.setIfInBounds_toArray, List.set_cons_zero, List.set_cons_succ] at hK9
        go_simp
        exact hK9 _ _ rfl hC9 (Below.refl _ _)
      apply wpFactsR_val
      case h1 =>
        intro vs L9 w9 hG9 hC9 hB K9 hK9
        have d2 := FactN.eq (hB 2 _ (by kernel_rfl) (by kernel_rfl) rfl (by decide))
        simp only [d2] at hK9 ⊢
        simp only [Act.put, List.setIfInBounds_toArray, List.set_cons_zero, List.set_cons_succ] at hK9
        go_simp
        refine (l32Key_any ⟨kd, pe, c'⟩ _ ⟨kd1, kd2⟩ ⟨pe1, pe2⟩).mono ?_
        rintro en w8 ⟨rfl, hb8⟩
        exact hK9 _ _ rfl (hC9.trans (hb8.mono hC9.size)) hb8
      refine wpFactsR_val (.bool b) (fun vs L9 w9 hG9 hC9 hB K9 hK9 => ?ha4) ?ra4
      case ha4 =>
        have d1 := FactN.eq (hB 1 _ (by kernel_rfl) (by kernel_rfl) rfl (by decide))
        have d3 := FactN.eq (hB 3 _ (by kernel_rfl) (by kernel_rfl) rfl (by decide))
        simp only [d1, d3] at hK9 ⊢
        go_simp
        rw [HBD.out]
        exact hK9 _ _ rfl hC9 (Below.refl _ _)
      apply wpFactsR_val
      case h1 =>
        intro vs L9 w9 hG9 hC9 hB K9 hK9
        have d4 := FactN.eq (hB 4 _ (by kernel_rfl) (by kernel_rfl) rfl (by decide))
        simp only [d4] at hK9 ⊢
        simp only [Act.put, List.setIfInBounds_toArray, List.set_cons_zero, List.set_cons_succ] at hK9
        go_simp
        exact hK9 _ _ rfl hC9 (Below.refl _ _)
      refine wpFactsR_some [] (fun v _ => b = true → v = .pointer (some ⟨g10, 2, none⟩)) ?sa6 (fun vs L9 w9 hG9 hC9 hB K9 hK9 => ?ha6) ?ra6
      case sa6 =>
        intro i9 hi9 hb9 ha9 v w1 w2 hv hT9
        exact hv
      case ha6 =>
        have d5 := FactN.eq (hB 5 _ (by kernel_rfl) (by kernel_rfl) rfl (by decide))
        simp only [d5] at hK9 ⊢
        cases b with
        | false =>
          go_simp
          exact hK9 _ undef _ rfl (fun hq => by cases hq) hC9 (Below.refl _ _)
        | true =>
          go_simp
          exact hK9 _ _ _ rfl (fun _ => rfl) hC9 (Below.refl _ _)
      refine wpFactsR_some [] (fun v _ => b = true → v = .int .i64 c') ?sa7 (fun vs L9 w9 hG9 hC9 hB K9 hK9 => ?ha7) ?ra7
      case sa7 =>
        intro i9 hi9 hb9 ha9 v w1 w2 hv hT9
        exact hv
      case ha7 =>
        have d5 := FactN.eq (hB 5 _ (by kernel_rfl) (by kernel_rfl) rfl (by decide))
        simp only [d5] at hK9 ⊢
        cases b with
        | false =>
          go_simp
          exact hK9 _ undef _ rfl (fun hq => by cases hq) hC9 (Below.refl _ _)
        | true =>
          have d6 := hB 6 _ (by kernel_rfl) (by kernel_rfl) rfl (by decide) rfl
          simp only [d6] at hK9 ⊢
          have q0 : w9.cell? ⟨g10, 2, none⟩ = some (.int .i64 c') := (A6.more.below hC9 A6.more.lt).cell 2
          go_simp
          exact hK9 _ _ _ rfl (fun _ => rfl) hC9 (Below.refl _ _)
      refine wpFactsR_some [] (fun v _ => b = true → v = .bool (c' != 0)) ?sa8 (fun vs L9 w9 hG9 hC9 hB K9 hK9 => ?ha8) ?ra8
      case sa8 =>
        intro i9 hi9 hb9 ha9 v w1 w2 hv hT9
        exact hv
      case ha8 =>
        have d5 := FactN.eq (hB 5 _ (by kernel_rfl) (by kernel_rfl) rfl (by decide))
        simp only [d5] at hK9 ⊢
        cases b with
        | false =>
          go_simp
          exact hK9 _ undef _ rfl (fun hq => by cases hq) hC9 (Below.refl _ _)
        | true =>
          have d7 := hB 7 _ (by kernel_rfl) (by kernel_rfl) rfl (by decide) rfl
          simp only [d7] at hK9 ⊢
          go_simp
          exact hK9 _ _ _ rfl (fun _ => rfl) hC9 (Below.refl _ _)
      refine wpFactsR_val (.bool (b && (c' != 0))) (fun vs L9 w9 hG9 hC9 hB K9 hK9 => ?ha9) ?ra9
      case ha9 =>
        have d5 := FactN.eq (hB 5 _ (by kernel_rfl) (by kernel_rfl) rfl (by decide))
        simp only [d5] at hK9 ⊢
        cases b with
        | false =>
          go_simp
          exact hK9 _ _ rfl hC9 (Below.refl _ _)
        | true =>
          have d8 := hB 8 _ (by kernel_rfl) (by kernel_rfl) rfl (by decide) rfl
          simp only [d8] at hK9 ⊢
          go_simp
          exact hK9 _ _ rfl hC9 (Below.refl _ _)
      refine wpFactsR_nil fun vs L9 w9 hL9 hC9 hB => ?_
      have d9 := FactN.eq (hB 9 _ rfl rfl (by decide))
      simp only [d9]
      clear hB hL9 d9
      have A9 := A6.then hC9
      have M9 := L12.below hC9 L12.lt
      clear A6 L12 hC9
      have m0 := A9.more.cell 0
      have m1 := A9.more.cell 1
      have m2 := A9.more.cell 2
      have r1 := A9.own.lies.cell 1
      have o0 := M9.cell 0
      have o1 := M9.cell 1
      have o2 := M9.cell 2
      simp only [List.getElem?_cons_zero, List.getElem?_cons_succ] at m0 m1 m2 r1 o0 o1 o2
      have HO9 := Lib.hid A9.own.o
      simp only at HO9
      have hs9 := A9.below.size
      by_cases hcd : b = true ∧ c' ≠ 0
      · obtain ⟨hbt, hc0⟩ := hcd
        have hbf : before ⟨kd, pe, 0⟩ o = true := by rw [HB.out, HBD.out, hbt]
        have hno := isAt_no hbf
        have HN : Hid (os ++ [(⟨kd, pe, c'⟩ : Outing)] ++ [o] ++ atO kd pe 0 (x.o.drop (k + 1)) = atO kd pe c x.o) := by
          unfold Hid; rw [← HP.out, HS.out, if_pos ⟨hbf, hc0⟩, hno, if_neg (by simp)]; simp
        have hcb : (b && (c' != 0)) = true := by rw [hbt]; simp [hc0]
        rw [hcb]
        clear HP HS HB HBD hbf hcb hc0 hbt
        have HBO := Lib.hid hno
        by_cases hik : o.k = kd
        · have hip : ¬ o.p = pe := fun e => by have := isAt_iff.2 ⟨hik, e⟩; rw [hno] at this; cases this
          have v1 : (o.k != kd) = false := by simp [hik]
          have v2 : (o.p != pe) = true := by simp [hip]
          clear hik hip hno
          go_wp2_with (first | (rw [hW8]; clear hW8) | (at_builtin; refine wpList_push2 (w0 := w9) rfl _ _ 23 rfl 100 _ 3 24 Try.underlying23 infoOut rfl (by decide) (by omega) w.heap.size _ _ _ rfl HO9 #[.int .i64 kd, .int .i64 pe, .int .i64 c'] 1 _ rfl (by first | rfl | exact Array.size_push _) rfl (by simp [Value.oneCell']) (by omega) hs9 rfl rfl rfl rfl ?_; intro v' w6 HO_w6 hg_w6 hb_w6 hn_w6; obtain ⟨A_w6, c_w6, hv_w6⟩ := ownsRow_slice HO_w6.out; subst hv_w6; obtain ⟨q_w6, f_w6⟩ := A9.field hg_w6; have A7 := A9.push (o := ⟨kd, pe, c'⟩) hg_w6 HO_w6.out hb_w6 hn_w6; obtain ⟨zq, zf⟩ := A7.count; have A8 := A7.zero; have M7 := AtI.other (v' := .slice A_w6 (os.length + 1) c_w6) hg_w6 M9 h12 h129; have M8 := M7.other (p := ⟨g10, 2, none⟩) h1210 (.int .i64 0); have M70 := M7.cell 0; obtain ⟨W8, hW8⟩ : ∃ W8, (w6.setCell ⟨g9, 1, none⟩ (.slice A_w6 (os.length + 1) c_w6)).setCell ⟨g10, 2, none⟩ (.int .i64 0) = W8 := ⟨_, rfl⟩; rw [hW8] at A8 M8; have p0 := M8.cell 0; have p1 := M8.cell 1; have p2 := M8.cell 2; have r8 := A8.own.lies.cell 1; simp only [List.getElem?_cons_zero, List.getElem?_cons_succ] at p0 p1 p2 r8; have HO8 := Lib.hid A8.own.o; simp only at HO8; have hs8 := A8.below.size; have hl8 : (os ++ [(⟨kd, pe, c'⟩ : Outing)]).length = os.length + 1 := (by simp)) | (at_builtin; refine wpList_push2 (w0 := W8) rfl _ _ 23 rfl 100 _ 3 24 Try.underlying23 infoOut rfl (by decide) (by omega) w.heap.size _ _ _ rfl HO8 #[.int .i64 o.k, .int .i64 o.p, .int .i64 o.c] 1 _ rfl (by first | rfl | exact Array.size_push _) rfl (by simp [Value.oneCell']) (by omega) hs8 rfl rfl rfl rfl ?_; intro v2 w10 HO_w10 hg_w10 hb_w10 hn_w10; obtain ⟨A_w10, c_w10, hv_w10⟩ := ownsRow_slice HO_w10.out; subst hv_w10; obtain ⟨q_w10, f_w10⟩ := A8.field hg_w10; have A11 := A8.push (o := o) hg_w10 HO_w10.out hb_w10 hn_w10; rw [hl8] at A11))
          go_roundw
          case rel => exact ⟨k + 1, os ++ [⟨kd, pe, c'⟩] ++ [o], _, 0, by omega, by go_num, A11, by simp; omega, HN⟩
          case measure => simp [intOf]; omega
        · have v1 : (o.k != kd) = true := by simp [hik]
          clear hik hno
          go_wp2_with (first | (rw [hW8]; clear hW8) | (at_builtin; refine wpList_push2 (w0 := w9) rfl _ _ 23 rfl 100 _ 3 24 Try.underlying23 infoOut rfl (by decide) (by omega) w.heap.size _ _ _ rfl HO9 #[.int .i64 kd, .int .i64 pe, .int .i64 c'] 1 _ rfl (by first | rfl | exact Array.size_push _) rfl (by simp [Value.oneCell']) (by omega) hs9 rfl rfl rfl rfl ?_; intro v' w6 HO_w6 hg_w6 hb_w6 hn_w6; obtain ⟨A_w6, c_w6, hv_w6⟩ := ownsRow_slice HO_w6.out; subst hv_w6; obtain ⟨q_w6, f_w6⟩ := A9.field hg_w6; have A7 := A9.push (o := ⟨kd, pe, c'⟩) hg_w6 HO_w6.out hb_w6 hn_w6; obtain ⟨zq, zf⟩ := A7.count; have A8 := A7.zero; have M7 := AtI.other (v' := .slice A_w6 (os.length + 1) c_w6) hg_w6 M9 h12 h129; have M8 := M7.other (p := ⟨g10, 2, none⟩) h1210 (.int .i64 0); have M70 := M7.cell 0; obtain ⟨W8, hW8⟩ : ∃ W8, (w6.setCell ⟨g9, 1, none⟩ (.slice A_w6 (os.length + 1) c_w6)).setCell ⟨g10, 2, none⟩ (.int .i64 0) = W8 := ⟨_, rfl⟩; rw [hW8] at A8 M8; have p0 := M8.cell 0; have p1 := M8.cell 1; have p2 := M8.cell 2; have r8 := A8.own.lies.cell 1; simp only [List.getElem?_cons_zero, List.getElem?_cons_succ] at p0 p1 p2 r8; have HO8 := Lib.hid A8.own.o; simp only at HO8; have hs8 := A8.below.size; have hl8 : (os ++ [(⟨kd, pe, c'⟩ : Outing)]).length = os.length + 1 := (by simp)) | (at_builtin; refine wpList_push2 (w0 := W8) rfl _ _ 23 rfl 100 _ 3 24 Try.underlying23 infoOut rfl (by decide) (by omega) w.heap.size _ _ _ rfl HO8 #[.int .i64 o.k, .int .i64 o.p, .int .i64 o.c] 1 _ rfl (by first | rfl | exact Array.size_push _) rfl (by simp [Value.oneCell']) (by omega) hs8 rfl rfl rfl rfl ?_; intro v2 w10 HO_w10 hg_w10 hb_w10 hn_w10; obtain ⟨A_w10, c_w10, hv_w10⟩ := ownsRow_slice HO_w10.out; subst hv_w10; obtain ⟨q_w10, f_w10⟩ := A8.field hg_w10; have A11 := A8.push (o := o) hg_w10 HO_w10.out hb_w10 hn_w10; rw [hl8] at A11))
          go_roundw
          case rel => exact ⟨k + 1, os ++ [⟨kd, pe, c'⟩] ++ [o], _, 0, by omega, by go_num, A11, by simp; omega, HN⟩
          case measure => simp [intOf]; omega
      · have hcb : (b && (c' != 0)) = false := by
          cases b
          · rfl
          · have hc0 : c' = 0 := Decidable.byContradiction fun e => hcd ⟨rfl, e⟩
            simp [hc0]
        have hnb : ¬ (before ⟨kd, pe, 0⟩ o = true ∧ c' ≠ 0) := by rw [HB.out, HBD.out]; exact hcd
        rw [hcb]
        clear hcb hcd m0 m1 m2
        by_cases hik : o.k = kd
        · by_cases hip : o.p = pe
          · have hno := isAt_iff.2 ⟨hik, hip⟩
            have HN : Hid (os ++ atO kd pe c' (x.o.drop (k + 1)) = atO kd pe c x.o) := by
              unfold Hid; rw [← HP.out, HS.out, if_neg hnb, hno, if_pos rfl]
            have v1 : (o.k != kd) = false := by simp [hik]
            have v2 : (o.p != pe) = false := by simp [hip]
            clear hik hip hno hnb HP HS HB HBD
            go_wp2
            go_roundw
            case rel => exact ⟨k + 1, os, vo, c', by omega, by go_num, A9, by omega, HN⟩
            case measure => simp [intOf]; omega
          · have hno : isAt kd pe o = false := by rw [Bool.eq_false_iff]; intro e; exact hip (isAt_iff.1 e).2
            have v1 : (o.k != kd) = false := by simp [hik]
            have v2 : (o.p != pe) = true := by simp [hip]
            have HN : Hid (os ++ [o] ++ atO kd pe c' (x.o.drop (k + 1)) = atO kd pe c x.o) := by
              unfold Hid; rw [← HP.out, HS.out, if_neg hnb, hno, if_neg (by simp)]; simp
            clear hik hip hno hnb HP HS HB HBD
            go_wp2_with (at_builtin; refine wpList_push2 (w0 := w9) rfl _ _ 23 rfl 100 _ 3 24 Try.underlying23 infoOut rfl (by decide) (by omega) w.heap.size _ _ _ rfl HO9 #[.int .i64 o.k, .int .i64 o.p, .int .i64 o.c] 1 _ rfl (by first | rfl | exact Array.size_push _) rfl (by simp [Value.oneCell']) (by omega) hs9 rfl rfl rfl rfl ?_; intro v2 w10 HO_w10 hg_w10 hb_w10 hn_w10; obtain ⟨A_w10, c_w10, hv_w10⟩ := ownsRow_slice HO_w10.out; subst hv_w10; obtain ⟨q_w10, f_w10⟩ := A9.field hg_w10; have A11 := A9.push (o := o) hg_w10 HO_w10.out hb_w10 hn_w10)
            go_roundw
            case rel => exact ⟨k + 1, os ++ [o], _, c', by omega, by go_num, A11, by simp; omega, HN⟩
            case measure => simp [intOf]; omega
        · have hno : isAt kd pe o = false := by rw [Bool.eq_false_iff]; intro e; exact hik (isAt_iff.1 e).1
          have v1 : (o.k != kd) = true := by simp [hik]
          have HN : Hid (os ++ [o] ++ atO kd pe c' (x.o.drop (k + 1)) = atO kd pe c x.o) := by
            unfold Hid; rw [← HP.out, HS.out, if_neg hnb, hno, if_neg (by simp)]; simp
          clear hik hno hnb HP HS HB HBD
          go_wp2_with (at_builtin; refine wpList_push2 (w0 := w9) rfl _ _ 23 rfl 100 _ 3 24 Try.underlying23 infoOut rfl (by decide) (by omega) w.heap.size _ _ _ rfl HO9 #[.int .i64 o.k, .int .i64 o.p, .int .i64 o.c] 1 _ rfl (by first | rfl | exact Array.size_push _) rfl (by simp [Value.oneCell']) (by omega) hs9 rfl rfl rfl rfl ?_; intro v2 w10 HO_w10 hg_w10 hb_w10 hn_w10; obtain ⟨A_w10, c_w10, hv_w10⟩ := ownsRow_slice HO_w10.out; subst hv_w10; obtain ⟨q_w10, f_w10⟩ := A9.field hg_w10; have A11 := A9.push (o := o) hg_w10 HO_w10.out hb_w10 hn_w10)
          go_roundw
          case rel => exact ⟨k + 1, os ++ [o], _, c', by omega, by go_num, A11, by simp; omega, HN⟩
          case measure => simp [intOf]; omega
    · have hke : x.o.drop k = [] := List.drop_eq_nil_of_le (by omega)
      have HE : Hid (os ++ (if c' ≠ 0 then [(⟨kd, pe, c'⟩ : Outing)] else []) = atO kd pe c x.o) := by
        unfold Hid; rw [← HP.out, hke, atO]
      clear HP hke
      have c1 := AI.lx.cell 1
      have m0 := AI.more.cell 0
      have m1 := AI.more.cell 1
      have m2 := AI.more.cell 2
      have r1 := AI.own.lies.cell 1
      simp only [List.getElem?_cons_zero, List.getElem?_cons_succ] at c1 m0 m1 m2 r1
      have HO9 := Lib.hid AI.own.o
      simp only at HO9
      have hs9 := AI.below.size
      by_cases hc0 : c' = 0
      · have HE : Hid (os = atO kd pe c x.o) := by
          have := HE.out; rw [if_neg (by simpa using hc0), List.append_nil] at this; exact this
        have v1 : (c' != 0) = false := by simp [hc0]
        clear hc0
        obtain ⟨AV, cv, hvo⟩ := ownsRow_slice AI.own.o
        simp only at hvo
        subst hvo
        have k0 := AI.own.lies.cell 0
        have k1 := AI.own.lies.cell 1
        have k2 := AI.own.lies.cell 2
        have k3 := AI.own.lies.cell 3
        have k4 := AI.own.lies.cell 4
        have z0 := AI.lr.cell 0
        have z1 := AI.lr.cell 1
        have z2 := AI.lr.cell 2
        have z3 := AI.lr.cell 3
        have z4 := AI.lr.cell 4
        have f0 := AI.lr.frozen 0
        have f1 := AI.lr.frozen 1
        have f2 := AI.lr.frozen 2
        have f3 := AI.lr.frozen 3
        have f4 := AI.lr.frozen 4
        simp only [List.getElem?_cons_zero, List.getElem?_cons_succ] at k0 k1 k2 k3 k4 z0 z1 z2 z3 z4
        have HT := Lib.hid (stOff_row (v0 := .slice TA x.t.length tc) (v1 := (.slice AV os.length cv)) (v2 := .int .i64 x.got) (v3 := .int .i64 x.sold) (v4 := .int .i64 x.missed) AI.lr AI.own.t ne_owt)
        have HO := Lib.hid (stOff_row (v0 := .slice TA x.t.length tc) (v1 := (.slice AV os.length cv)) (v2 := .int .i64 x.got) (v3 := .int .i64 x.sold) (v4 := .int .i64 x.missed) AI.lr AI.own.o ne_owo)
        have bz := AI.below.trans (stOff_below (v0 := .slice TA x.t.length tc) (v1 := (.slice AV os.length cv)) (v2 := .int .i64 x.got) (v3 := .int .i64 x.sold) (v4 := .int .i64 x.missed) AI.lr (Nat.le_succ _))
        go_wp2
        refine bodyPost_ret (v := .agg #[.slice TA x.t.length tc, .slice AV os.length cv, .int .i64 x.got, .int .i64 x.sold, .int .i64 x.missed]) (by simp [results, Try.results95, go_sem, *]) rfl ?_
        rw [← HE.out]
        exact GivesOff.of rfl rfl rfl HT.out HO.out bz
      · have HE : Hid (os ++ [(⟨kd, pe, c'⟩ : Outing)] = atO kd pe c x.o) := by
          have := HE.out; rw [if_pos hc0] at this; exact this
        have v1 : (c' != 0) = true := by simp [hc0]
        clear hc0
        go_wp2_with (first | (rw [hW8]; clear hW8) | (at_builtin; refine wpList_push2 (w0 := wr) rfl _ _ 23 rfl 100 _ 3 24 Try.underlying23 infoOut rfl (by decide) (by omega) w.heap.size _ _ _ rfl HO9 #[.int .i64 kd, .int .i64 pe, .int .i64 c'] 1 _ rfl (by first | rfl | exact Array.size_push _) rfl (by simp [Value.oneCell']) (by omega) hs9 rfl rfl rfl rfl ?_; intro v2 w10 HO_w10 hg_w10 hb_w10 hn_w10; obtain ⟨A_w10, c_w10, hv_w10⟩ := ownsRow_slice HO_w10.out; subst hv_w10; obtain ⟨q_w10, f_w10⟩ := AI.field hg_w10; have A11 := AI.push (o := ⟨kd, pe, c'⟩) hg_w10 HO_w10.out hb_w10 hn_w10; have hl8 : (os ++ [(⟨kd, pe, c'⟩ : Outing)]).length = os.length + 1 := (by simp); obtain ⟨W8, hW8⟩ : ∃ W8, w10.setCell ⟨g9, 1, none⟩ (.slice A_w10 (os.length + 1) c_w10) = W8 := ⟨_, rfl⟩; rw [hW8] at A11; have k0 := A11.own.lies.cell 0; have k1 := A11.own.lies.cell 1; have k2 := A11.own.lies.cell 2; have k3 := A11.own.lies.cell 3; have k4 := A11.own.lies.cell 4; have z0 := A11.lr.cell 0; have z1 := A11.lr.cell 1; have z2 := A11.lr.cell 2; have z3 := A11.lr.cell 3; have z4 := A11.lr.cell 4; have f0 := A11.lr.frozen 0; have f1 := A11.lr.frozen 1; have f2 := A11.lr.frozen 2; have f3 := A11.lr.frozen 3; have f4 := A11.lr.frozen 4; simp only [List.getElem?_cons_zero, List.getElem?_cons_succ] at k0 k1 k2 k3 k4 z0 z1 z2 z3 z4; have HT := Lib.hid (stOff_row (v0 := .slice TA x.t.length tc) (v1 := (.slice A_w10 (os.length + 1) c_w10)) (v2 := .int .i64 x.got) (v3 := .int .i64 x.sold) (v4 := .int .i64 x.missed) A11.lr A11.own.t ne_owt); have HO := Lib.hid (stOff_row (v0 := .slice TA x.t.length tc) (v1 := (.slice A_w10 (os.length + 1) c_w10)) (v2 := .int .i64 x.got) (v3 := .int .i64 x.sold) (v4 := .int .i64 x.missed) A11.lr A11.own.o ne_owo); have bz := A11.below.trans (stOff_below (v0 := .slice TA x.t.length tc) (v1 := (.slice A_w10 (os.length + 1) c_w10)) (v2 := .int .i64 x.got) (v3 := .int .i64 x.sold) (v4 := .int .i64 x.missed) A11.lr (Nat.le_succ _))))
        refine bodyPost_ret (v := .agg #[.slice TA x.t.length tc, .slice A_w10 (os.length + 1) c_w10, .int .i64 x.got, .int .i64 x.sold, .int .i64 x.missed]) (by simp [results, Try.results95, go_sem, *]) rfl ?_
        rw [← HE.out]
        exact GivesOff.of rfl hl8 rfl HT.out HO.out bz
end Go.Proofs.Ytdiojhjkcholiaa
