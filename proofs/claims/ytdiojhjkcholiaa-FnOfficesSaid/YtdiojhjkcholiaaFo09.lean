/- Fo09: the texts SpecPerA SpecPerB SpecPerC SpecPerD SpecPerE, joined into one file. -/
import Derived.Test.YtdiojhjkcholiaaFo05
import Derived.Test.YtdiojhjkcholiaaFo07

/- A step with stamps at a person, in the reference: show. (Printed by gen_specper.py) -/
namespace Go.Proofs.Ytdiojhjkcholiaa
open Go.RowKit

set_option maxRecDepth 100000 in
set_option maxHeartbeats 4000000 in
theorem person_show (x : Off) (st pe va : Int) (w : World) (h : OffR w w.heap.size x) (G : Good x) (hcap : x.t.length ≤ x.tc) (hst : 1 ≤ st ∧ st ≤ 99) (hpe : 1 ≤ pe ∧ pe ≤ 999) (hva : 1 ≤ va ∧ va ≤ 9999) :
    Calls Try.prog 74 #[x.val, .agg #[.int .i64 2, .int .i64 st, .int .i64 pe, .int .i64 va]] w (GivesMk w ((⟨inTrays x.t st (-va), atO st pe (outAt st pe x.o + va) x.o, x.got, x.sold, x.missed⟩ : Oc), true)) := by
  have L1 := ((Lies.new w 25 #[.slice x.TA x.t.length x.tc, .slice x.OA x.o.length x.oc, .int .i64 x.got, .int .i64 x.sold, .int .i64 x.missed]).alloc (.cells #[.int .i64 2, .int .i64 st, .int .i64 pe, .int .i64 va] 45)).alloc (.cells #[.slice none 0 0, .slice none 0 0, .int .i64 0, .int .i64 0, .int .i64 0] 25)
  have L2 := (Lies.new1 w (.cells #[.slice x.TA x.t.length x.tc, .slice x.OA x.o.length x.oc, .int .i64 x.got, .int .i64 x.sold, .int .i64 x.missed] 25) 45 #[.int .i64 2, .int .i64 st, .int .i64 pe, .int .i64 va]).alloc (.cells #[.slice none 0 0, .slice none 0 0, .int .i64 0, .int .i64 0, .int .i64 0] 25)
  have L3 := Lies.new2 w (.cells #[.slice x.TA x.t.length x.tc, .slice x.OA x.o.length x.oc, .int .i64 x.got, .int .i64 x.sold, .int .i64 x.missed] 25) (.cells #[.int .i64 2, .int .i64 st, .int .i64 pe, .int .i64 va] 45) 25 #[.slice none 0 0, .slice none 0 0, .int .i64 0, .int .i64 0, .int .i64 0]
  have b1 := (Below.refl w.heap.size w).alloc (Nat.le_refl _) (.cells #[.slice x.TA x.t.length x.tc, .slice x.OA x.o.length x.oc, .int .i64 x.got, .int .i64 x.sold, .int .i64 x.missed] 25)
  have b2 := b1.alloc b1.size (.cells #[.int .i64 2, .int .i64 st, .int .i64 pe, .int .i64 va] 45)
  have b3 := b2.alloc b2.size (.cells #[.slice none 0 0, .slice none 0 0, .int .i64 0, .int .i64 0, .int .i64 0] 25)
  have Sx := G.small
  have htl := G.tl
  have hol := G.ol
  have htc := G.tcs
  obtain ⟨m1, m2⟩ := G.m
  obtain ⟨g1, g2⟩ := G.s
  obtain ⟨n1, n2⟩ := G.at_bd st pe
  obtain ⟨n, hn⟩ : ∃ n, outAt st pe x.o = n := ⟨_, rfl⟩
  rw [hn] at n1 n2 ⊢
  clear b1 b2 G
  go_enter Try.func74, Try.ntmps74
  go_wp2_with fail
  generalize (((w.alloc (.cells #[.slice x.TA x.t.length x.tc, .slice x.OA x.o.length x.oc, .int .i64 x.got, .int .i64 x.sold, .int .i64 x.missed] 25)).alloc (.cells #[.int .i64 2, .int .i64 st, .int .i64 pe, .int .i64 va] 45)).alloc (.cells #[.slice none 0 0, .slice none 0 0, .int .i64 0, .int .i64 0, .int .i64 0] 25)) = W at L1 L2 L3 b3 ⊢
  have hR := h.up b3 (Nat.le_refl _)
  refine (l32Out_any x st pe W hR).mono ?_
  rintro e W1 ⟨rfl, hb1⟩
  rw [hn]
  have hR1 := hR.then hb1
  have L1a := L1.below hb1 L1.lt
  have L2a := L2.below hb1 L2.lt
  have L3a := L3.below hb1 L3.lt
  have b4 := b3.trans (hb1.mono b3.size)
  have hW0 : w.heap.size ≤ W1.heap.size := b4.size
  have hn := Lib.hid hn
  clear L1 L2 L3 b3 hb1 hR h
  have c0 := L1a.cell 0
  have c1 := L1a.cell 1
  have c2 := L1a.cell 2
  have c3 := L1a.cell 3
  have c4 := L1a.cell 4
  simp only [List.getElem?_cons_zero, List.getElem?_cons_succ] at c0 c1 c2 c3 c4
  have s0 := L2a.cell 0
  have s1 := L2a.cell 1
  have s2 := L2a.cell 2
  have s3 := L2a.cell 3
  simp only [List.getElem?_cons_zero, List.getElem?_cons_succ] at s0 s1 s2 s3

  obtain ⟨v1, v2⟩ := hva
  have S1 : Small (⟨inTrays x.t st (-va), x.o, x.got, x.sold, x.missed⟩ : Oc) := ⟨by have := inTrays_len x.t st (-va); show (inTrays x.t st (-va)).length ≤ _; omega, Sx.ol, inTrays_small (by omega) (fun t ht => by have := htc t ht; omega), Sx.ok⟩
  go_wp2
  obtain ⟨D1, hD1⟩ : ∃ D : World → Prop, D = (fun W9 => ∃ W8 TA tc OA oc, Below W1.heap.size W1 W8 ∧ W8.ownsRow w.heap.size 74 2 (.slice TA ((⟨inTrays x.t st (-va), atO st pe (n + va) x.o, x.got, x.sold, x.missed⟩ : Oc)).t.length tc) ((⟨inTrays x.t st (-va), atO st pe (n + va) x.o, x.got, x.sold, x.missed⟩ : Oc)).t.length (((⟨inTrays x.t st (-va), atO st pe (n + va) x.o, x.got, x.sold, x.missed⟩ : Oc)).t.flatMap Tray.enc) ∧ W8.ownsRow w.heap.size 100 3 (.slice OA ((⟨inTrays x.t st (-va), atO st pe (n + va) x.o, x.got, x.sold, x.missed⟩ : Oc)).o.length oc) ((⟨inTrays x.t st (-va), atO st pe (n + va) x.o, x.got, x.sold, x.missed⟩ : Oc)).o.length (((⟨inTrays x.t st (-va), atO st pe (n + va) x.o, x.got, x.sold, x.missed⟩ : Oc)).o.flatMap Outing.enc) ∧ W9 = stOff W8 (w.heap.size + 1 + 1) (.slice TA ((⟨inTrays x.t st (-va), atO st pe (n + va) x.o, x.got, x.sold, x.missed⟩ : Oc)).t.length tc) (.slice OA ((⟨inTrays x.t st (-va), atO st pe (n + va) x.o, x.got, x.sold, x.missed⟩ : Oc)).o.length oc) (.int .i64 ((⟨inTrays x.t st (-va), atO st pe (n + va) x.o, x.got, x.sold, x.missed⟩ : Oc)).got) (.int .i64 ((⟨inTrays x.t st (-va), atO st pe (n + va) x.o, x.got, x.sold, x.missed⟩ : Oc)).sold) (.int .i64 ((⟨inTrays x.t st (-va), atO st pe (n + va) x.o, x.got, x.sold, x.missed⟩ : Oc)).missed)) := ⟨_, rfl⟩
  have hDL : ∀ W, D1 W → ∃ W8 v0 v1 v2 v3 v4, Below W1.heap.size W1 W8 ∧ W = stOff W8 (w.heap.size + 1 + 1) v0 v1 v2 v3 v4 := by
    rw [hD1]
    rintro _ ⟨W8, TA, tc, OA, oc, hq, _, _, e⟩
    exact ⟨W8, _, _, _, _, _, hq, e⟩
  have HD1 := Lib.hid hD1; clear hD1
  refine wp_region_factsR (Sw 16 (fun W9 => Below W1.heap.size W1 W9) D1) (fun i w1 w2 => i ∉ [16] → Below w1.heap.size w1 w2) (by kernel_rfl) (by kernel_rfl) (by kernel_rfl) (Sw.start (Below.refl _ _).drew) ?_
  simp only [fillOps, Act.put, List.setIfInBounds_toArray, List.set_cons_zero, List.set_cons_succ, Nat.zero_add, Nat.reduceAdd]
  apply wpFactsR_val
  case h1 =>
    intro vs L9 w9 hG9 hC9 hB K9 hK9
    replace hC9 := hC9.before hG9 (by kernel_rfl)
    have q0 : w9.cell? ⟨w.heap.size, 0, none⟩ = some (.slice x.TA x.t.length x.tc) := (L1a.below hC9 L1a.lt).cell 0
    have q1 : w9.cell? ⟨w.heap.size, 1, none⟩ = some (.slice x.OA x.o.length x.oc) := (L1a.below hC9 L1a.lt).cell 1
    have q2 : w9.cell? ⟨w.heap.size, 2, none⟩ = some (.int .i64 x.got) := (L1a.below hC9 L1a.lt).cell 2
    have q3 : w9.cell? ⟨w.heap.size, 3, none⟩ = some (.int .i64 x.sold) := (L1a.below hC9 L1a.lt).cell 3
    have q4 : w9.cell? ⟨w.heap.size, 4, none⟩ = some (.int .i64 x.missed) := (L1a.below hC9 L1a.lt).cell 4
    simp only [Act.put, List.setIfInBounds_toArray, List.set_cons_zero, List.set_cons_succ] at hK9
    go_simp
    exact hK9 _ _ rfl (Sw.stay hG9 (by kernel_rfl) (by decide) hC9) (fun _ => Below.refl _ _)
  apply wpFactsR_val
  case h1 =>
    intro vs L9 w9 hG9 hC9 hB K9 hK9
    replace hC9 := hC9.before hG9 (by kernel_rfl)
    simp only [Act.put, List.setIfInBounds_toArray, List.set_cons_zero, List.set_cons_succ] at hK9
    go_simp
    exact hK9 _ _ rfl (Sw.stay hG9 (by kernel_rfl) (by decide) hC9) (fun _ => Below.refl _ _)
  apply wpFactsR_val
  case h1 =>
    intro vs L9 w9 hG9 hC9 hB K9 hK9
    replace hC9 := hC9.before hG9 (by kernel_rfl)
    have d1 := FactN.eq (hB 1 _ (by kernel_rfl) (by kernel_rfl) rfl (by decide))
    simp only [d1] at hK9 ⊢
    have q0 : w9.cell? ⟨(w.heap.size + 1), 1, none⟩ = some (.int .i64 st) := (L2a.below hC9 L2a.lt).cell 1
    simp only [Act.put, List.setIfInBounds_toArray, List.set_cons_zero, List.set_cons_succ] at hK9
    go_simp
    exact hK9 _ _ rfl (Sw.stay hG9 (by kernel_rfl) (by decide) hC9) (fun _ => Below.refl _ _)
  apply wpFactsR_val
  case h1 =>
    intro vs L9 w9 hG9 hC9 hB K9 hK9
    replace hC9 := hC9.before hG9 (by kernel_rfl)
    simp only [Act.put, List.setIfInBounds_toArray, List.set_cons_zero, List.set_cons_succ] at hK9
    go_simp
    exact hK9 _ _ rfl (Sw.stay hG9 (by kernel_rfl) (by decide) hC9) (fun _ => Below.refl _ _)
  apply wpFactsR_val
  case h1 =>
    intro vs L9 w9 hG9 hC9 hB K9 hK9
    replace hC9 := hC9.before hG9 (by kernel_rfl)
    have d3 := FactN.eq (hB 3 _ (by kernel_rfl) (by kernel_rfl) rfl (by decide))
    simp only [d3] at hK9 ⊢
    have q0 : w9.cell? ⟨(w.heap.size + 1), 3, none⟩ = some (.int .i64 va) := (L2a.below hC9 L2a.lt).cell 3
    simp only [Act.put, List.setIfInBounds_toArray, List.set_cons_zero, List.set_cons_succ] at hK9
    go_simp
    exact hK9 _ _ rfl (Sw.stay hG9 (by kernel_rfl) (by decide) hC9) (fun _ => Below.refl _ _)
  apply wpFactsR_val
  case h1 =>
    intro vs L9 w9 hG9 hC9 hB K9 hK9
    replace hC9 := hC9.before hG9 (by kernel_rfl)
    have d4 := FactN.eq (hB 4 _ (by kernel_rfl) (by kernel_rfl) rfl (by decide))
    simp only [d4] at hK9 ⊢
    have i3 : IntKind.i64.wrap (-va) = -va := IntWalk.i64_in _ (by omega)
    simp only [Act.put, List.setIfInBounds_toArray, List.set_cons_zero, List.set_cons_succ] at hK9
    go_simp
    exact hK9 _ _ rfl (Sw.stay hG9 (by kernel_rfl) (by decide) hC9) (fun _ => Below.refl _ _)
  refine wpFactsR_some [16] (fun v w9 => OwnV w9 w.heap.size (⟨inTrays x.t st (-va), x.o, x.got, x.sold, x.missed⟩ : Oc) v) ?ss6 (fun vs L9 w9 hG9 hC9 hB K9 hK9 => ?hs6) ?rs6
  case ss6 =>
    intro i9 hi9 hb9 ha9 v w1 w2 hv hT9
    have hb := hT9 (fun hm => by
      simp only [List.mem_cons, List.not_mem_nil, or_false] at hm hb9
      subst hm
      · exact hb9 (by simp))
    exact hv.below hb
  case hs6 =>
    replace hC9 := hC9.before hG9 (by kernel_rfl)
    have d0 := FactN.eq (hB 0 _ (by kernel_rfl) (by kernel_rfl) rfl (by decide))
    have d2 := FactN.eq (hB 2 _ (by kernel_rfl) (by kernel_rfl) rfl (by decide))
    have d5 := FactN.eq (hB 5 _ (by kernel_rfl) (by kernel_rfl) rfl (by decide))
    simp only [d0, d2, d5] at hK9 ⊢
    simp only [Act.put, List.setIfInBounds_toArray, List.set_cons_zero, List.set_cons_succ] at hK9
    go_simp
    refine (inX x st (-va) _ (hR1.then hC9) Sx (by omega) hcap).mono ?_
    rintro en w8 ⟨v8, rfl, hv8, hb8⟩
    exact hK9 _ _ _ rfl (hv8.lower (Nat.le_trans hW0 hC9.size)) (Sw.stay hG9 (by kernel_rfl) (by decide) (hC9.trans (hb8.mono hC9.size))) (fun _ => hb8)
  apply wpFactsR_val
  case h1 =>
    intro vs L9 w9 hG9 hC9 hB K9 hK9
    replace hC9 := hC9.before hG9 (by kernel_rfl)
    simp only [Act.put, List.setIfInBounds_toArray, List.set_cons_zero, List.set_cons_succ] at hK9
    go_simp
    exact hK9 _ _ rfl (Sw.stay hG9 (by kernel_rfl) (by decide) hC9) (fun _ => Below.refl _ _)
  apply wpFactsR_val
  case h1 =>
    intro vs L9 w9 hG9 hC9 hB K9 hK9
    replace hC9 := hC9.before hG9 (by kernel_rfl)
    have d7 := FactN.eq (hB 7 _ (by kernel_rfl) (by kernel_rfl) rfl (by decide))
    simp only [d7] at hK9 ⊢
    have q0 : w9.cell? ⟨(w.heap.size + 1), 1, none⟩ = some (.int .i64 st) := (L2a.below hC9 L2a.lt).cell 1
    simp only [Act.put, List.setIfInBounds_toArray, List.set_cons_zero, List.set_cons_succ] at hK9
    go_simp
    exact hK9 _ _ rfl (Sw.stay hG9 (by kernel_rfl) (by decide) hC9) (fun _ => Below.refl _ _)
  apply wpFactsR_val
  case h1 =>
    intro vs L9 w9 hG9 hC9 hB K9 hK9
    replace hC9 := hC9.before hG9 (by kernel_rfl)
    simp only [Act.put, List.setIfInBounds_toArray, List.set_cons_zero, List.set_cons_succ] at hK9
    go_simp
    exact hK9 _ _ rfl (Sw.stay hG9 (by kernel_rfl) (by decide) hC9) (fun _ => Below.refl _ _)
  apply wpFactsR_val
  case h1 =>
    intro vs L9 w9 hG9 hC9 hB K9 hK9
    replace hC9 := hC9.before hG9 (by kernel_rfl)
    have d9 := FactN.eq (hB 9 _ (by kernel_rfl) (by kernel_rfl) rfl (by decide))
    simp only [d9] at hK9 ⊢
    have q0 : w9.cell? ⟨(w.heap.size + 1), 2, none⟩ = some (.int .i64 pe) := (L2a.below hC9 L2a.lt).cell 2
    simp only [Act.put, List.setIfInBounds_toArray, List.set_cons_zero, List.set_cons_succ] at hK9
    go_simp
    exact hK9 _ _ rfl (Sw.stay hG9 (by kernel_rfl) (by decide) hC9) (fun _ => Below.refl _ _)
  apply wpFactsR_val
  case h1 =>
    intro vs L9 w9 hG9 hC9 hB K9 hK9
    replace hC9 := hC9.before hG9 (by kernel_rfl)
    simp only [Act.put, List.setIfInBounds_toArray, List.set_cons_zero, List.set_cons_succ] at hK9
    go_simp
    exact hK9 _ _ rfl (Sw.stay hG9 (by kernel_rfl) (by decide) hC9) (fun _ => Below.refl _ _)
  apply wpFactsR_val
  case h1 =>
    intro vs L9 w9 hG9 hC9 hB K9 hK9
    replace hC9 := hC9.before hG9 (by kernel_rfl)
    simp only [Act.put, List.setIfInBounds_toArray, List.set_cons_zero, List.set_cons_succ] at hK9
    go_simp
    exact hK9 _ _ rfl (Sw.stay hG9 (by kernel_rfl) (by decide) hC9) (fun _ => Below.refl _ _)
  apply wpFactsR_val
  case h1 =>
    intro vs L9 w9 hG9 hC9 hB K9 hK9
    replace hC9 := hC9.before hG9 (by kernel_rfl)
    have d12 := FactN.eq (hB 12 _ (by kernel_rfl) (by kernel_rfl) rfl (by decide))
    simp only [d12] at hK9 ⊢
    have q0 : w9.cell? ⟨(w.heap.size + 1), 3, none⟩ = some (.int .i64 va) := (L2a.below hC9 L2a.lt).cell 3
    simp only [Act.put, List.setIfInBounds_toArray, List.set_cons_zero, List.set_cons_succ] at hK9
    go_simp
    exact hK9 _ _ rfl (Sw.stay hG9 (by kernel_rfl) (by decide) hC9) (fun _ => Below.refl _ _)
  apply wpFactsR_val
  case h1 =>
    intro vs L9 w9 hG9 hC9 hB K9 hK9
    replace hC9 := hC9.before hG9 (by kernel_rfl)
    have d11 := FactN.eq (hB 11 _ (by kernel_rfl) (by kernel_rfl) rfl (by decide))
    have d13 := FactN.eq (hB 13 _ (by kernel_rfl) (by kernel_rfl) rfl (by decide))
    simp only [d11, d13] at hK9 ⊢
    have i3 : IntKind.i64.wrap (n + va) = n + va := IntWalk.i64_in _ (by omega)
    simp only [Act.put, List.setIfInBounds_toArray, List.set_cons_zero, List.set_cons_succ] at hK9
    go_simp
    exact hK9 _ _ rfl (Sw.stay hG9 (by kernel_rfl) (by decide) hC9) (fun _ => Below.refl _ _)
  refine wpFactsR_some [16] (fun v w9 => OwnV w9 w.heap.size (⟨inTrays x.t st (-va), atO st pe (n + va) x.o, x.got, x.sold, x.missed⟩ : Oc) v) ?ss15 (fun vs L9 w9 hG9 hC9 hB K9 hK9 => ?hs15) ?rs15
  case ss15 =>
    intro i9 hi9 hb9 ha9 v w1 w2 hv hT9
    have hb := hT9 (fun hm => by
      simp only [List.mem_cons, List.not_mem_nil, or_false] at hm hb9
      subst hm
      · exact hb9 (by simp))
    exact hv.below hb
  case hs15 =>
    replace hC9 := hC9.before hG9 (by kernel_rfl)
    have d8 := FactN.eq (hB 8 _ (by kernel_rfl) (by kernel_rfl) rfl (by decide))
    have d10 := FactN.eq (hB 10 _ (by kernel_rfl) (by kernel_rfl) rfl (by decide))
    have d14 := FactN.eq (hB 14 _ (by kernel_rfl) (by kernel_rfl) rfl (by decide))
    simp only [d8, d10, d14] at hK9 ⊢
    simp only [Act.put, List.setIfInBounds_toArray, List.set_cons_zero, List.set_cons_succ] at hK9
    have h6 := hB 6 _ (by kernel_rfl) (by kernel_rfl) rfl (by decide)
    go_simp
    refine (atV st pe (n + va) h6 S1 hst hpe).mono ?_
    rintro en w8 ⟨v8, rfl, hv8, hb8⟩
    exact hK9 _ _ _ rfl (hv8.lower (Nat.le_trans hW0 hC9.size)) (Sw.stay hG9 (by kernel_rfl) (by decide) (hC9.trans (hb8.mono hC9.size))) (fun _ => hb8)
  refine wpFactsR_val (undef) (fun vs L9 w9 hG9 hC9 hB K9 hK9 => ?hs16) ?rs16
  case hs16 =>
    replace hC9 := hC9.here hG9
    obtain ⟨TA, tc, OA, oc, e15, h1, h2⟩ := hB 15 _ (by kernel_rfl) (by kernel_rfl) rfl (by decide)
    simp only [e15] at hK9 ⊢
    have Lr := L3a.below hC9 L3a.lt
    have z0 := Lr.cell 0
    have z1 := Lr.cell 1
    have z2 := Lr.cell 2
    have z3 := Lr.cell 3
    have z4 := Lr.cell 4
    simp only [List.getElem?_cons_zero, List.getElem?_cons_succ] at z0 z1 z2 z3 z4
    have f0 := Lr.frozen 0
    have f1 := Lr.frozen 1
    have f2 := Lr.frozen 2
    have f3 := Lr.frozen 3
    have f4 := Lr.frozen 4
    have h1 := Lib.hid h1
    have h2 := Lib.hid h2
    clear Lr
    go_simp
    exact hK9 _ _ rfl (Sw.turn (by rw [HD1.out]; exact ⟨w9, TA, tc, OA, oc, hC9, h1.out, h2.out, rfl⟩)) (fun hq => (hq (by decide)).elim)
  apply wpFactsR_val
  case h1 =>
    intro vs L9 w9 hG9 hC9 hB K9 hK9
    replace hC9 := hC9.after hG9 (by kernel_rfl)
    simp only [Act.put, List.setIfInBounds_toArray, List.set_cons_zero, List.set_cons_succ] at hK9
    go_simp
    exact hK9 _ _ rfl (Sw.on hG9 (by kernel_rfl) hC9) (fun _ => Below.refl _ _)
  refine wpFactsR_nil fun vs L9 w9 hL9 hC9 hB => ?_
  replace hC9 := hC9.done hL9 (by decide)
  have dl := FactN.eq (hB 17 _ rfl rfl (by decide))
  simp only [dl]
  clear hB dl
  rw [HD1.out] at hC9
  obtain ⟨W8, TA, tc, OA, oc, hb8, h1, h2, rfl⟩ := hC9
  have Lr := L3a.below hb8 L3a.lt
  have bz := (b4.trans (hb8.mono b4.size)).trans (stOff_below (v0 := .slice TA ((⟨inTrays x.t st (-va), atO st pe (n + va) x.o, x.got, x.sold, x.missed⟩ : Oc)).t.length tc) (v1 := .slice OA ((⟨inTrays x.t st (-va), atO st pe (n + va) x.o, x.got, x.sold, x.missed⟩ : Oc)).o.length oc) (v2 := .int .i64 ((⟨inTrays x.t st (-va), atO st pe (n + va) x.o, x.got, x.sold, x.missed⟩ : Oc)).got) (v3 := .int .i64 ((⟨inTrays x.t st (-va), atO st pe (n + va) x.o, x.got, x.sold, x.missed⟩ : Oc)).sold) (v4 := .int .i64 ((⟨inTrays x.t st (-va), atO st pe (n + va) x.o, x.got, x.sold, x.missed⟩ : Oc)).missed) Lr (show w.heap.size ≤ (w.heap.size + 1 + 1) by omega))
  have HT := Lib.hid (stOff_row (v0 := .slice TA ((⟨inTrays x.t st (-va), atO st pe (n + va) x.o, x.got, x.sold, x.missed⟩ : Oc)).t.length tc) (v1 := .slice OA ((⟨inTrays x.t st (-va), atO st pe (n + va) x.o, x.got, x.sold, x.missed⟩ : Oc)).o.length oc) (v2 := .int .i64 ((⟨inTrays x.t st (-va), atO st pe (n + va) x.o, x.got, x.sold, x.missed⟩ : Oc)).got) (v3 := .int .i64 ((⟨inTrays x.t st (-va), atO st pe (n + va) x.o, x.got, x.sold, x.missed⟩ : Oc)).sold) (v4 := .int .i64 ((⟨inTrays x.t st (-va), atO st pe (n + va) x.o, x.got, x.sold, x.missed⟩ : Oc)).missed) Lr h1 ne_owt)
  have HO := Lib.hid (stOff_row (v0 := .slice TA ((⟨inTrays x.t st (-va), atO st pe (n + va) x.o, x.got, x.sold, x.missed⟩ : Oc)).t.length tc) (v1 := .slice OA ((⟨inTrays x.t st (-va), atO st pe (n + va) x.o, x.got, x.sold, x.missed⟩ : Oc)).o.length oc) (v2 := .int .i64 ((⟨inTrays x.t st (-va), atO st pe (n + va) x.o, x.got, x.sold, x.missed⟩ : Oc)).got) (v3 := .int .i64 ((⟨inTrays x.t st (-va), atO st pe (n + va) x.o, x.got, x.sold, x.missed⟩ : Oc)).sold) (v4 := .int .i64 ((⟨inTrays x.t st (-va), atO st pe (n + va) x.o, x.got, x.sold, x.missed⟩ : Oc)).missed) Lr h2 ne_owo)
  have PR := stOff_is (v0 := .slice TA ((⟨inTrays x.t st (-va), atO st pe (n + va) x.o, x.got, x.sold, x.missed⟩ : Oc)).t.length tc) (v1 := .slice OA ((⟨inTrays x.t st (-va), atO st pe (n + va) x.o, x.got, x.sold, x.missed⟩ : Oc)).o.length oc) (v2 := .int .i64 ((⟨inTrays x.t st (-va), atO st pe (n + va) x.o, x.got, x.sold, x.missed⟩ : Oc)).got) (v3 := .int .i64 ((⟨inTrays x.t st (-va), atO st pe (n + va) x.o, x.got, x.sold, x.missed⟩ : Oc)).sold) (v4 := .int .i64 ((⟨inTrays x.t st (-va), atO st pe (n + va) x.o, x.got, x.sold, x.missed⟩ : Oc)).missed) Lr
  generalize stOff W8 (w.heap.size + 1 + 1) (.slice TA ((⟨inTrays x.t st (-va), atO st pe (n + va) x.o, x.got, x.sold, x.missed⟩ : Oc)).t.length tc) (.slice OA ((⟨inTrays x.t st (-va), atO st pe (n + va) x.o, x.got, x.sold, x.missed⟩ : Oc)).o.length oc) (.int .i64 ((⟨inTrays x.t st (-va), atO st pe (n + va) x.o, x.got, x.sold, x.missed⟩ : Oc)).got) (.int .i64 ((⟨inTrays x.t st (-va), atO st pe (n + va) x.o, x.got, x.sold, x.missed⟩ : Oc)).sold) (.int .i64 ((⟨inTrays x.t st (-va), atO st pe (n + va) x.o, x.got, x.sold, x.missed⟩ : Oc)).missed) = W9 at bz HT HO PR ⊢
  have k0 := PR.cell 0
  have k1 := PR.cell 1
  have k2 := PR.cell 2
  have k3 := PR.cell 3
  have k4 := PR.cell 4
  simp only [List.getElem?_cons_zero, List.getElem?_cons_succ] at k0 k1 k2 k3 k4
  clear h1 h2 Lr hb8 hL9 PR
  go_wp2
  refine bodyPost_ret (v := .tuple #[.agg #[.slice TA ((⟨inTrays x.t st (-va), atO st pe (n + va) x.o, x.got, x.sold, x.missed⟩ : Oc)).t.length tc, .slice OA ((⟨inTrays x.t st (-va), atO st pe (n + va) x.o, x.got, x.sold, x.missed⟩ : Oc)).o.length oc, .int .i64 ((⟨inTrays x.t st (-va), atO st pe (n + va) x.o, x.got, x.sold, x.missed⟩ : Oc)).got, .int .i64 ((⟨inTrays x.t st (-va), atO st pe (n + va) x.o, x.got, x.sold, x.missed⟩ : Oc)).sold, .int .i64 ((⟨inTrays x.t st (-va), atO st pe (n + va) x.o, x.got, x.sold, x.missed⟩ : Oc)).missed], .bool true]) (by simp [results, Try.results74, go_sem, *]) rfl ?_
  exact ⟨TA, tc, OA, oc, rfl, HT.out, HO.out, bz⟩
end Go.Proofs.Ytdiojhjkcholiaa

/- A step with stamps at a person, in the reference: back. (Printed by gen_specper.py) -/
namespace Go.Proofs.Ytdiojhjkcholiaa
open Go.RowKit

set_option maxRecDepth 100000 in
set_option maxHeartbeats 4000000 in
theorem person_back (x : Off) (st pe va : Int) (w : World) (h : OffR w w.heap.size x) (G : Good x) (hcap : x.t.length ≤ x.tc) (hst : 1 ≤ st ∧ st ≤ 99) (hpe : 1 ≤ pe ∧ pe ≤ 999) (hva : 1 ≤ va ∧ va ≤ 9999) :
    Calls Try.prog 74 #[x.val, .agg #[.int .i64 3, .int .i64 st, .int .i64 pe, .int .i64 va]] w (GivesMk w ((⟨inTrays x.t st va, atO st pe (outAt st pe x.o - va) x.o, x.got, x.sold, x.missed⟩ : Oc), decide (va ≤ outAt st pe x.o))) := by
  have L1 := ((Lies.new w 25 #[.slice x.TA x.t.length x.tc, .slice x.OA x.o.length x.oc, .int .i64 x.got, .int .i64 x.sold, .int .i64 x.missed]).alloc (.cells #[.int .i64 3, .int .i64 st, .int .i64 pe, .int .i64 va] 45)).alloc (.cells #[.slice none 0 0, .slice none 0 0, .int .i64 0, .int .i64 0, .int .i64 0] 25)
  have L2 := (Lies.new1 w (.cells #[.slice x.TA x.t.length x.tc, .slice x.OA x.o.length x.oc, .int .i64 x.got, .int .i64 x.sold, .int .i64 x.missed] 25) 45 #[.int .i64 3, .int .i64 st, .int .i64 pe, .int .i64 va]).alloc (.cells #[.slice none 0 0, .slice none 0 0, .int .i64 0, .int .i64 0, .int .i64 0] 25)
  have L3 := Lies.new2 w (.cells #[.slice x.TA x.t.length x.tc, .slice x.OA x.o.length x.oc, .int .i64 x.got, .int .i64 x.sold, .int .i64 x.missed] 25) (.cells #[.int .i64 3, .int .i64 st, .int .i64 pe, .int .i64 va] 45) 25 #[.slice none 0 0, .slice none 0 0, .int .i64 0, .int .i64 0, .int .i64 0]
  have b1 := (Below.refl w.heap.size w).alloc (Nat.le_refl _) (.cells #[.slice x.TA x.t.length x.tc, .slice x.OA x.o.length x.oc, .int .i64 x.got, .int .i64 x.sold, .int .i64 x.missed] 25)
  have b2 := b1.alloc b1.size (.cells #[.int .i64 3, .int .i64 st, .int .i64 pe, .int .i64 va] 45)
  have b3 := b2.alloc b2.size (.cells #[.slice none 0 0, .slice none 0 0, .int .i64 0, .int .i64 0, .int .i64 0] 25)
  have Sx := G.small
  have htl := G.tl
  have hol := G.ol
  have htc := G.tcs
  obtain ⟨m1, m2⟩ := G.m
  obtain ⟨g1, g2⟩ := G.s
  obtain ⟨n1, n2⟩ := G.at_bd st pe
  obtain ⟨n, hn⟩ : ∃ n, outAt st pe x.o = n := ⟨_, rfl⟩
  rw [hn] at n1 n2 ⊢
  clear b1 b2 G
  go_enter Try.func74, Try.ntmps74
  go_wp2_with fail
  generalize (((w.alloc (.cells #[.slice x.TA x.t.length x.tc, .slice x.OA x.o.length x.oc, .int .i64 x.got, .int .i64 x.sold, .int .i64 x.missed] 25)).alloc (.cells #[.int .i64 3, .int .i64 st, .int .i64 pe, .int .i64 va] 45)).alloc (.cells #[.slice none 0 0, .slice none 0 0, .int .i64 0, .int .i64 0, .int .i64 0] 25)) = W at L1 L2 L3 b3 ⊢
  have hR := h.up b3 (Nat.le_refl _)
  refine (l32Out_any x st pe W hR).mono ?_
  rintro e W1 ⟨rfl, hb1⟩
  rw [hn]
  have hR1 := hR.then hb1
  have L1a := L1.below hb1 L1.lt
  have L2a := L2.below hb1 L2.lt
  have L3a := L3.below hb1 L3.lt
  have b4 := b3.trans (hb1.mono b3.size)
  have hW0 : w.heap.size ≤ W1.heap.size := b4.size
  have hn := Lib.hid hn
  clear L1 L2 L3 b3 hb1 hR h
  have c0 := L1a.cell 0
  have c1 := L1a.cell 1
  have c2 := L1a.cell 2
  have c3 := L1a.cell 3
  have c4 := L1a.cell 4
  simp only [List.getElem?_cons_zero, List.getElem?_cons_succ] at c0 c1 c2 c3 c4
  have s0 := L2a.cell 0
  have s1 := L2a.cell 1
  have s2 := L2a.cell 2
  have s3 := L2a.cell 3
  simp only [List.getElem?_cons_zero, List.getElem?_cons_succ] at s0 s1 s2 s3

  obtain ⟨v1, v2⟩ := hva
  have S1 : Small (⟨inTrays x.t st va, x.o, x.got, x.sold, x.missed⟩ : Oc) := ⟨by have := inTrays_len x.t st va; show (inTrays x.t st va).length ≤ _; omega, Sx.ol, inTrays_small (by omega) (fun t ht => by have := htc t ht; omega), Sx.ok⟩
  go_wp2
  obtain ⟨D1, hD1⟩ : ∃ D : World → Prop, D = (fun W9 => ∃ W8 TA tc OA oc, Below W1.heap.size W1 W8 ∧ W8.ownsRow w.heap.size 74 2 (.slice TA ((⟨inTrays x.t st va, atO st pe (n - va) x.o, x.got, x.sold, x.missed⟩ : Oc)).t.length tc) ((⟨inTrays x.t st va, atO st pe (n - va) x.o, x.got, x.sold, x.missed⟩ : Oc)).t.length (((⟨inTrays x.t st va, atO st pe (n - va) x.o, x.got, x.sold, x.missed⟩ : Oc)).t.flatMap Tray.enc) ∧ W8.ownsRow w.heap.size 100 3 (.slice OA ((⟨inTrays x.t st va, atO st pe (n - va) x.o, x.got, x.sold, x.missed⟩ : Oc)).o.length oc) ((⟨inTrays x.t st va, atO st pe (n - va) x.o, x.got, x.sold, x.missed⟩ : Oc)).o.length (((⟨inTrays x.t st va, atO st pe (n - va) x.o, x.got, x.sold, x.missed⟩ : Oc)).o.flatMap Outing.enc) ∧ W9 = stOff W8 (w.heap.size + 1 + 1) (.slice TA ((⟨inTrays x.t st va, atO st pe (n - va) x.o, x.got, x.sold, x.missed⟩ : Oc)).t.length tc) (.slice OA ((⟨inTrays x.t st va, atO st pe (n - va) x.o, x.got, x.sold, x.missed⟩ : Oc)).o.length oc) (.int .i64 ((⟨inTrays x.t st va, atO st pe (n - va) x.o, x.got, x.sold, x.missed⟩ : Oc)).got) (.int .i64 ((⟨inTrays x.t st va, atO st pe (n - va) x.o, x.got, x.sold, x.missed⟩ : Oc)).sold) (.int .i64 ((⟨inTrays x.t st va, atO st pe (n - va) x.o, x.got, x.sold, x.missed⟩ : Oc)).missed)) := ⟨_, rfl⟩
  have hDL : ∀ W, D1 W → ∃ W8 v0 v1 v2 v3 v4, Below W1.heap.size W1 W8 ∧ W = stOff W8 (w.heap.size + 1 + 1) v0 v1 v2 v3 v4 := by
    rw [hD1]
    rintro _ ⟨W8, TA, tc, OA, oc, hq, _, _, e⟩
    exact ⟨W8, _, _, _, _, _, hq, e⟩
  have HD1 := Lib.hid hD1; clear hD1
  refine wp_region_factsR (Sw 19 (fun W9 => Below W1.heap.size W1 W9) D1) (fun i w1 w2 => i ∉ [19] → Below w1.heap.size w1 w2) (by kernel_rfl) (by kernel_rfl) (by kernel_rfl) (Sw.start (Below.refl _ _).drew) ?_
  simp only [fillOps, Act.put, List.setIfInBounds_toArray, List.set_cons_zero, List.set_cons_succ, Nat.zero_add, Nat.reduceAdd]
  apply wpFactsR_val
  case h1 =>
    intro vs L9 w9 hG9 hC9 hB K9 hK9
    replace hC9 := hC9.before hG9 (by kernel_rfl)
    have q0 : w9.cell? ⟨w.heap.size, 0, none⟩ = some (.slice x.TA x.t.length x.tc) := (L1a.below hC9 L1a.lt).cell 0
    have q1 : w9.cell? ⟨w.heap.size, 1, none⟩ = some (.slice x.OA x.o.length x.oc) := (L1a.below hC9 L1a.lt).cell 1
    have q2 : w9.cell? ⟨w.heap.size, 2, none⟩ = some (.int .i64 x.got) := (L1a.below hC9 L1a.lt).cell 2
    have q3 : w9.cell? ⟨w.heap.size, 3, none⟩ = some (.int .i64 x.sold) := (L1a.below hC9 L1a.lt).cell 3
    have q4 : w9.cell? ⟨w.heap.size, 4, none⟩ = some (.int .i64 x.missed) := (L1a.below hC9 L1a.lt).cell 4
    simp only [Act.put, List.setIfInBounds_toArray, List.set_cons_zero, List.set_cons_succ] at hK9
    go_simp
    exact hK9 _ _ rfl (Sw.stay hG9 (by kernel_rfl) (by decide) hC9) (fun _ => Below.refl _ _)
  apply wpFactsR_val
  case h1 =>
    intro vs L9 w9 hG9 hC9 hB K9 hK9
    replace hC9 := hC9.before hG9 (by kernel_rfl)
    simp only [Act.put, List.setIfInBounds_toArray, List.set_cons_zero, List.set_cons_succ] at hK9
    go_simp
    exact hK9 _ _ rfl (Sw.stay hG9 (by kernel_rfl) (by decide) hC9) (fun _ => Below.refl _ _)
  apply wpFactsR_val
  case h1 =>
    intro vs L9 w9 hG9 hC9 hB K9 hK9
    replace hC9 := hC9.before hG9 (by kernel_rfl)
    have d1 := FactN.eq (hB 1 _ (by kernel_rfl) (by kernel_rfl) rfl (by decide))
    simp only [d1] at hK9 ⊢
    have q0 : w9.cell? ⟨(w.heap.size + 1), 1, none⟩ = some (.int .i64 st) := (L2a.below hC9 L2a.lt).cell 1
    simp only [Act.put, List.setIfInBounds_toArray, List.set_cons_zero, List.set_cons_succ] at hK9
    go_simp
    exact hK9 _ _ rfl (Sw.stay hG9 (by kernel_rfl) (by decide) hC9) (fun _ => Below.refl _ _)
  apply wpFactsR_val
  case h1 =>
    intro vs L9 w9 hG9 hC9 hB K9 hK9
    replace hC9 := hC9.before hG9 (by kernel_rfl)
    simp only [Act.put, List.setIfInBounds_toArray, List.set_cons_zero, List.set_cons_succ] at hK9
    go_simp
    exact hK9 _ _ rfl (Sw.stay hG9 (by kernel_rfl) (by decide) hC9) (fun _ => Below.refl _ _)
  apply wpFactsR_val
  case h1 =>
    intro vs L9 w9 hG9 hC9 hB K9 hK9
    replace hC9 := hC9.before hG9 (by kernel_rfl)
    have d3 := FactN.eq (hB 3 _ (by kernel_rfl) (by kernel_rfl) rfl (by decide))
    simp only [d3] at hK9 ⊢
    have q0 : w9.cell? ⟨(w.heap.size + 1), 3, none⟩ = some (.int .i64 va) := (L2a.below hC9 L2a.lt).cell 3
    simp only [Act.put, List.setIfInBounds_toArray, List.set_cons_zero, List.set_cons_succ] at hK9
    go_simp
    exact hK9 _ _ rfl (Sw.stay hG9 (by kernel_rfl) (by decide) hC9) (fun _ => Below.refl _ _)
  refine wpFactsR_some [19] (fun v w9 => OwnV w9 w.heap.size (⟨inTrays x.t st va, x.o, x.got, x.sold, x.missed⟩ : Oc) v) ?sb5 (fun vs L9 w9 hG9 hC9 hB K9 hK9 => ?hb5) ?rb5
  case sb5 =>
    intro i9 hi9 hb9 ha9 v w1 w2 hv hT9
    have hb := hT9 (fun hm => by
      simp only [List.mem_cons, List.not_mem_nil, or_false] at hm hb9
      subst hm
      · exact hb9 (by simp))
    exact hv.below hb
  case hb5 =>
    replace hC9 := hC9.before hG9 (by kernel_rfl)
    have d0 := FactN.eq (hB 0 _ (by kernel_rfl) (by kernel_rfl) rfl (by decide))
    have d2 := FactN.eq (hB 2 _ (by kernel_rfl) (by kernel_rfl) rfl (by decide))
    have d4 := FactN.eq (hB 4 _ (by kernel_rfl) (by kernel_rfl) rfl (by decide))
    simp only [d0, d2, d4] at hK9 ⊢
    simp only [Act.put, List.setIfInBounds_toArray, List.set_cons_zero, List.set_cons_succ] at hK9
    go_simp
    refine (inX x st va _ (hR1.then hC9) Sx (by omega) hcap).mono ?_
    rintro en w8 ⟨v8, rfl, hv8, hb8⟩
    exact hK9 _ _ _ rfl (hv8.lower (Nat.le_trans hW0 hC9.size)) (Sw.stay hG9 (by kernel_rfl) (by decide) (hC9.trans (hb8.mono hC9.size))) (fun _ => hb8)
  apply wpFactsR_val
  case h1 =>
    intro vs L9 w9 hG9 hC9 hB K9 hK9
    replace hC9 := hC9.before hG9 (by kernel_rfl)
    simp only [Act.put, List.setIfInBounds_toArray, List.set_cons_zero, List.set_cons_succ] at hK9
    go_simp
    exact hK9 _ _ rfl (Sw.stay hG9 (by kernel_rfl) (by decide) hC9) (fun _ => Below.refl _ _)
  apply wpFactsR_val
  case h1 =>
    intro vs L9 w9 hG9 hC9 hB K9 hK9
    replace hC9 := hC9.before hG9 (by kernel_rfl)
    have d6 := FactN.eq (hB 6 _ (by kernel_rfl) (by kernel_rfl) rfl (by decide))
    simp only [d6] at hK9 ⊢
    have q0 : w9.cell? ⟨(w.heap.size + 1), 1, none⟩ = some (.int .i64 st) := (L2a.below hC9 L2a.lt).cell 1
    simp only [Act.put, List.setIfInBounds_toArray, List.set_cons_zero, List.set_cons_succ] at hK9
    go_simp
    exact hK9 _ _ rfl (Sw.stay hG9 (by kernel_rfl) (by decide) hC9) (fun _ => Below.refl _ _)
  apply wpFactsR_val
  case h1 =>
    intro vs L9 w9 hG9 hC9 hB K9 hK9
    replace hC9 := hC9.before hG9 (by kernel_rfl)
    simp only [Act.put, List.setIfInBounds_toArray, List.set_cons_zero, List.set_cons_succ] at hK9
    go_simp
    exact hK9 _ _ rfl (Sw.stay hG9 (by kernel_rfl) (by decide) hC9) (fun _ => Below.refl _ _)
  apply wpFactsR_val
  case h1 =>
    intro vs L9 w9 hG9 hC9 hB K9 hK9
    replace hC9 := hC9.before hG9 (by kernel_rfl)
    have d8 := FactN.eq (hB 8 _ (by kernel_rfl) (by kernel_rfl) rfl (by decide))
    simp only [d8] at hK9 ⊢
    have q0 : w9.cell? ⟨(w.heap.size + 1), 2, none⟩ = some (.int .i64 pe) := (L2a.below hC9 L2a.lt).cell 2
    simp only [Act.put, List.setIfInBounds_toArray, List.set_cons_zero, List.set_cons_succ] at hK9
    go_simp
    exact hK9 _ _ rfl (Sw.stay hG9 (by kernel_rfl) (by decide) hC9) (fun _ => Below.refl _ _)
  apply wpFactsR_val
  case h1 =>
    intro vs L9 w9 hG9 hC9 hB K9 hK9
    replace hC9 := hC9.before hG9 (by kernel_rfl)
    simp only [Act.put, List.setIfInBounds_toArray, List.set_cons_zero, List.set_cons_succ] at hK9
    go_simp
    exact hK9 _ _ rfl (Sw.stay hG9 (by kernel_rfl) (by decide) hC9) (fun _ => Below.refl _ _)
  apply wpFactsR_val
  case h1 =>
    intro vs L9 w9 hG9 hC9 hB K9 hK9
    replace hC9 := hC9.before hG9 (by kernel_rfl)
    simp only [Act.put, List.setIfInBounds_toArray, List.set_cons_zero, List.set_cons_succ] at hK9
    go_simp
    exact hK9 _ _ rfl (Sw.stay hG9 (by kernel_rfl) (by decide) hC9) (fun _ => Below.refl _ _)
  apply wpFactsR_val
  case h1 =>
    intro vs L9 w9 hG9 hC9 hB K9 hK9
    replace hC9 := hC9.before hG9 (by kernel_rfl)
    have d11 := FactN.eq (hB 11 _ (by kernel_rfl) (by kernel_rfl) rfl (by decide))
    simp only [d11] at hK9 ⊢
    have q0 : w9.cell? ⟨(w.heap.size + 1), 3, none⟩ = some (.int .i64 va) := (L2a.below hC9 L2a.lt).cell 3
    simp only [Act.put, List.setIfInBounds_toArray, List.set_cons_zero, List.set_cons_succ] at hK9
    go_simp
    exact hK9 _ _ rfl (Sw.stay hG9 (by kernel_rfl) (by decide) hC9) (fun _ => Below.refl _ _)
  apply wpFactsR_val
  case h1 =>
    intro vs L9 w9 hG9 hC9 hB K9 hK9
    replace hC9 := hC9.before hG9 (by kernel_rfl)
    have d10 := FactN.eq (hB 10 _ (by kernel_rfl) (by kernel_rfl) rfl (by decide))
    have d12 := FactN.eq (hB 12 _ (by kernel_rfl) (by kernel_rfl) rfl (by decide))
    simp only [d10, d12] at hK9 ⊢
    have i3 : IntKind.i64.wrap (n - va) = n - va := IntWalk.i64_in _ (by omega)
    simp only [Act.put, List.setIfInBounds_toArray, List.set_cons_zero, List.set_cons_succ] at hK9
    go_simp
    exact hK9 _ _ rfl (Sw.stay hG9 (by kernel_rfl) (by decide) hC9) (fun _ => Below.refl _ _)
  refine wpFactsR_some [19] (fun v w9 => OwnV w9 w.heap.size (⟨inTrays x.t st va, atO st pe (n - va) x.o, x.got, x.sold, x.missed⟩ : Oc) v) ?sb14 (fun vs L9 w9 hG9 hC9 hB K9 hK9 => ?hb14) ?rb14
  case sb14 =>
    intro i9 hi9 hb9 ha9 v w1 w2 hv hT9
    have hb := hT9 (fun hm => by
      simp only [List.mem_cons, List.not_mem_nil, or_false] at hm hb9
      subst hm
      · exact hb9 (by simp))
    exact hv.below hb
  case hb14 =>
    replace hC9 := hC9.before hG9 (by kernel_rfl)
    have d7 := FactN.eq (hB 7 _ (by kernel_rfl) (by kernel_rfl) rfl (by decide))
    have d9 := FactN.eq (hB 9 _ (by kernel_rfl) (by kernel_rfl) rfl (by decide))
    have d13 := FactN.eq (hB 13 _ (by kernel_rfl) (by kernel_rfl) rfl (by decide))
    simp only [d7, d9, d13] at hK9 ⊢
    simp only [Act.put, List.setIfInBounds_toArray, List.set_cons_zero, List.set_cons_succ] at hK9
    have h6 := hB 5 _ (by kernel_rfl) (by kernel_rfl) rfl (by decide)
    go_simp
    refine (atV st pe (n - va) h6 S1 hst hpe).mono ?_
    rintro en w8 ⟨v8, rfl, hv8, hb8⟩
    exact hK9 _ _ _ rfl (hv8.lower (Nat.le_trans hW0 hC9.size)) (Sw.stay hG9 (by kernel_rfl) (by decide) (hC9.trans (hb8.mono hC9.size))) (fun _ => hb8)
  apply wpFactsR_val
  case h1 =>
    intro vs L9 w9 hG9 hC9 hB K9 hK9
    simp only [Act.put, List.setIfInBounds_toArray, List.set_cons_zero, List.set_cons_succ] at hK9
    have HC9 := Lib.hid hC9
    clear hC9
    go_simp
    exact hK9 _ _ rfl (Sw.both (by decide) (fun h => h) (fun h => h) HC9.out) (fun _ => Below.refl _ _)
  apply wpFactsR_val
  case h1 =>
    intro vs L9 w9 hG9 hC9 hB K9 hK9
    simp only [Act.put, List.setIfInBounds_toArray, List.set_cons_zero, List.set_cons_succ] at hK9
    have HC9 := Lib.hid hC9
    clear hC9
    go_simp
    exact hK9 _ _ rfl (Sw.both (by decide) (fun h => h) (fun h => h) HC9.out) (fun _ => Below.refl _ _)
  apply wpFactsR_val
  case h1 =>
    intro vs L9 w9 hG9 hC9 hB K9 hK9
    have d16 := FactN.eq (hB 16 _ (by kernel_rfl) (by kernel_rfl) rfl (by decide))
    simp only [d16] at hK9 ⊢
    have q0 : w9.cell? ⟨(w.heap.size + 1), 3, none⟩ = some (.int .i64 va) := (hC9.lies hDL L2a (by omega)).cell 3
    simp only [Act.put, List.setIfInBounds_toArray, List.set_cons_zero, List.set_cons_succ] at hK9
    have HC9 := Lib.hid hC9
    clear hC9
    go_simp
    exact hK9 _ _ rfl (Sw.both (by decide) (fun h => h) (fun h => h) HC9.out) (fun _ => Below.refl _ _)
  apply wpFactsR_val
  case h1 =>
    intro vs L9 w9 hG9 hC9 hB K9 hK9
    have d15 := FactN.eq (hB 15 _ (by kernel_rfl) (by kernel_rfl) rfl (by decide))
    have d17 := FactN.eq (hB 17 _ (by kernel_rfl) (by kernel_rfl) rfl (by decide))
    simp only [d15, d17] at hK9 ⊢
    simp only [Act.put, List.setIfInBounds_toArray, List.set_cons_zero, List.set_cons_succ] at hK9
    have HC9 := Lib.hid hC9
    clear hC9
    go_simp
    exact hK9 _ _ rfl (Sw.both (by decide) (fun h => h) (fun h => h) HC9.out) (fun _ => Below.refl _ _)
  refine wpFactsR_val (undef) (fun vs L9 w9 hG9 hC9 hB K9 hK9 => ?hb19) ?rb19
  case hb19 =>
    replace hC9 := hC9.here hG9
    obtain ⟨TA, tc, OA, oc, e15, h1, h2⟩ := hB 14 _ (by kernel_rfl) (by kernel_rfl) rfl (by decide)
    simp only [e15] at hK9 ⊢
    have Lr := L3a.below hC9 L3a.lt
    have z0 := Lr.cell 0
    have z1 := Lr.cell 1
    have z2 := Lr.cell 2
    have z3 := Lr.cell 3
    have z4 := Lr.cell 4
    simp only [List.getElem?_cons_zero, List.getElem?_cons_succ] at z0 z1 z2 z3 z4
    have f0 := Lr.frozen 0
    have f1 := Lr.frozen 1
    have f2 := Lr.frozen 2
    have f3 := Lr.frozen 3
    have f4 := Lr.frozen 4
    have h1 := Lib.hid h1
    have h2 := Lib.hid h2
    clear Lr
    go_simp
    exact hK9 _ _ rfl (Sw.turn (by rw [HD1.out]; exact ⟨w9, TA, tc, OA, oc, hC9, h1.out, h2.out, rfl⟩)) (fun hq => (hq (by decide)).elim)
  apply wpFactsR_val
  case h1 =>
    intro vs L9 w9 hG9 hC9 hB K9 hK9
    replace hC9 := hC9.after hG9 (by kernel_rfl)
    have d18 := FactN.eq (hB 18 _ (by kernel_rfl) (by kernel_rfl) rfl (by decide))
    simp only [d18] at hK9 ⊢
    simp only [Act.put, List.setIfInBounds_toArray, List.set_cons_zero, List.set_cons_succ] at hK9
    go_simp
    exact hK9 _ _ rfl (Sw.on hG9 (by kernel_rfl) hC9) (fun _ => Below.refl _ _)
  refine wpFactsR_nil fun vs L9 w9 hL9 hC9 hB => ?_
  replace hC9 := hC9.done hL9 (by decide)
  have dl := FactN.eq (hB 20 _ rfl rfl (by decide))
  simp only [dl]
  clear hB dl
  rw [HD1.out] at hC9
  obtain ⟨W8, TA, tc, OA, oc, hb8, h1, h2, rfl⟩ := hC9
  have Lr := L3a.below hb8 L3a.lt
  have bz := (b4.trans (hb8.mono b4.size)).trans (stOff_below (v0 := .slice TA ((⟨inTrays x.t st va, atO st pe (n - va) x.o, x.got, x.sold, x.missed⟩ : Oc)).t.length tc) (v1 := .slice OA ((⟨inTrays x.t st va, atO st pe (n - va) x.o, x.got, x.sold, x.missed⟩ : Oc)).o.length oc) (v2 := .int .i64 ((⟨inTrays x.t st va, atO st pe (n - va) x.o, x.got, x.sold, x.missed⟩ : Oc)).got) (v3 := .int .i64 ((⟨inTrays x.t st va, atO st pe (n - va) x.o, x.got, x.sold, x.missed⟩ : Oc)).sold) (v4 := .int .i64 ((⟨inTrays x.t st va, atO st pe (n - va) x.o, x.got, x.sold, x.missed⟩ : Oc)).missed) Lr (show w.heap.size ≤ (w.heap.size + 1 + 1) by omega))
  have HT := Lib.hid (stOff_row (v0 := .slice TA ((⟨inTrays x.t st va, atO st pe (n - va) x.o, x.got, x.sold, x.missed⟩ : Oc)).t.length tc) (v1 := .slice OA ((⟨inTrays x.t st va, atO st pe (n - va) x.o, x.got, x.sold, x.missed⟩ : Oc)).o.length oc) (v2 := .int .i64 ((⟨inTrays x.t st va, atO st pe (n - va) x.o, x.got, x.sold, x.missed⟩ : Oc)).got) (v3 := .int .i64 ((⟨inTrays x.t st va, atO st pe (n - va) x.o, x.got, x.sold, x.missed⟩ : Oc)).sold) (v4 := .int .i64 ((⟨inTrays x.t st va, atO st pe (n - va) x.o, x.got, x.sold, x.missed⟩ : Oc)).missed) Lr h1 ne_owt)
  have HO := Lib.hid (stOff_row (v0 := .slice TA ((⟨inTrays x.t st va, atO st pe (n - va) x.o, x.got, x.sold, x.missed⟩ : Oc)).t.length tc) (v1 := .slice OA ((⟨inTrays x.t st va, atO st pe (n - va) x.o, x.got, x.sold, x.missed⟩ : Oc)).o.length oc) (v2 := .int .i64 ((⟨inTrays x.t st va, atO st pe (n - va) x.o, x.got, x.sold, x.missed⟩ : Oc)).got) (v3 := .int .i64 ((⟨inTrays x.t st va, atO st pe (n - va) x.o, x.got, x.sold, x.missed⟩ : Oc)).sold) (v4 := .int .i64 ((⟨inTrays x.t st va, atO st pe (n - va) x.o, x.got, x.sold, x.missed⟩ : Oc)).missed) Lr h2 ne_owo)
  have PR := stOff_is (v0 := .slice TA ((⟨inTrays x.t st va, atO st pe (n - va) x.o, x.got, x.sold, x.missed⟩ : Oc)).t.length tc) (v1 := .slice OA ((⟨inTrays x.t st va, atO st pe (n - va) x.o, x.got, x.sold, x.missed⟩ : Oc)).o.length oc) (v2 := .int .i64 ((⟨inTrays x.t st va, atO st pe (n - va) x.o, x.got, x.sold, x.missed⟩ : Oc)).got) (v3 := .int .i64 ((⟨inTrays x.t st va, atO st pe (n - va) x.o, x.got, x.sold, x.missed⟩ : Oc)).sold) (v4 := .int .i64 ((⟨inTrays x.t st va, atO st pe (n - va) x.o, x.got, x.sold, x.missed⟩ : Oc)).missed) Lr
  generalize stOff W8 (w.heap.size + 1 + 1) (.slice TA ((⟨inTrays x.t st va, atO st pe (n - va) x.o, x.got, x.sold, x.missed⟩ : Oc)).t.length tc) (.slice OA ((⟨inTrays x.t st va, atO st pe (n - va) x.o, x.got, x.sold, x.missed⟩ : Oc)).o.length oc) (.int .i64 ((⟨inTrays x.t st va, atO st pe (n - va) x.o, x.got, x.sold, x.missed⟩ : Oc)).got) (.int .i64 ((⟨inTrays x.t st va, atO st pe (n - va) x.o, x.got, x.sold, x.missed⟩ : Oc)).sold) (.int .i64 ((⟨inTrays x.t st va, atO st pe (n - va) x.o, x.got, x.sold, x.missed⟩ : Oc)).missed) = W9 at bz HT HO PR ⊢
  have k0 := PR.cell 0
  have k1 := PR.cell 1
  have k2 := PR.cell 2
  have k3 := PR.cell 3
  have k4 := PR.cell 4
  simp only [List.getElem?_cons_zero, List.getElem?_cons_succ] at k0 k1 k2 k3 k4
  clear h1 h2 Lr hb8 hL9 PR
  go_wp2
  refine bodyPost_ret (v := .tuple #[.agg #[.slice TA ((⟨inTrays x.t st va, atO st pe (n - va) x.o, x.got, x.sold, x.missed⟩ : Oc)).t.length tc, .slice OA ((⟨inTrays x.t st va, atO st pe (n - va) x.o, x.got, x.sold, x.missed⟩ : Oc)).o.length oc, .int .i64 ((⟨inTrays x.t st va, atO st pe (n - va) x.o, x.got, x.sold, x.missed⟩ : Oc)).got, .int .i64 ((⟨inTrays x.t st va, atO st pe (n - va) x.o, x.got, x.sold, x.missed⟩ : Oc)).sold, .int .i64 ((⟨inTrays x.t st va, atO st pe (n - va) x.o, x.got, x.sold, x.missed⟩ : Oc)).missed], .bool (decide (va ≤ n))]) (by simp [results, Try.results74, go_sem, *]) rfl ?_
  exact ⟨TA, tc, OA, oc, rfl, HT.out, HO.out, bz⟩
end Go.Proofs.Ytdiojhjkcholiaa

/- A step with stamps at a person, in the reference: miss. (Printed by gen_specper.py) -/
namespace Go.Proofs.Ytdiojhjkcholiaa
open Go.RowKit

set_option maxRecDepth 100000 in
set_option maxHeartbeats 4000000 in
theorem person_miss (x : Off) (st pe va : Int) (w : World) (h : OffR w w.heap.size x) (G : Good x) (hcap : x.t.length ≤ x.tc) (hst : 1 ≤ st ∧ st ≤ 99) (hpe : 1 ≤ pe ∧ pe ≤ 999) :
    Calls Try.prog 74 #[x.val, .agg #[.int .i64 5, .int .i64 st, .int .i64 pe, .int .i64 va]] w (GivesMk w ((⟨x.t, atO st pe 0 x.o, x.got, x.sold, x.missed + outAt st pe x.o⟩ : Oc), decide (0 < outAt st pe x.o))) := by
  have L1 := ((Lies.new w 25 #[.slice x.TA x.t.length x.tc, .slice x.OA x.o.length x.oc, .int .i64 x.got, .int .i64 x.sold, .int .i64 x.missed]).alloc (.cells #[.int .i64 5, .int .i64 st, .int .i64 pe, .int .i64 va] 45)).alloc (.cells #[.slice none 0 0, .slice none 0 0, .int .i64 0, .int .i64 0, .int .i64 0] 25)
  have L2 := (Lies.new1 w (.cells #[.slice x.TA x.t.length x.tc, .slice x.OA x.o.length x.oc, .int .i64 x.got, .int .i64 x.sold, .int .i64 x.missed] 25) 45 #[.int .i64 5, .int .i64 st, .int .i64 pe, .int .i64 va]).alloc (.cells #[.slice none 0 0, .slice none 0 0, .int .i64 0, .int .i64 0, .int .i64 0] 25)
  have L3 := Lies.new2 w (.cells #[.slice x.TA x.t.length x.tc, .slice x.OA x.o.length x.oc, .int .i64 x.got, .int .i64 x.sold, .int .i64 x.missed] 25) (.cells #[.int .i64 5, .int .i64 st, .int .i64 pe, .int .i64 va] 45) 25 #[.slice none 0 0, .slice none 0 0, .int .i64 0, .int .i64 0, .int .i64 0]
  have b1 := (Below.refl w.heap.size w).alloc (Nat.le_refl _) (.cells #[.slice x.TA x.t.length x.tc, .slice x.OA x.o.length x.oc, .int .i64 x.got, .int .i64 x.sold, .int .i64 x.missed] 25)
  have b2 := b1.alloc b1.size (.cells #[.int .i64 5, .int .i64 st, .int .i64 pe, .int .i64 va] 45)
  have b3 := b2.alloc b2.size (.cells #[.slice none 0 0, .slice none 0 0, .int .i64 0, .int .i64 0, .int .i64 0] 25)
  have Sx := G.small
  have htl := G.tl
  have hol := G.ol
  have htc := G.tcs
  obtain ⟨m1, m2⟩ := G.m
  obtain ⟨g1, g2⟩ := G.s
  obtain ⟨n1, n2⟩ := G.at_bd st pe
  obtain ⟨n, hn⟩ : ∃ n, outAt st pe x.o = n := ⟨_, rfl⟩
  rw [hn] at n1 n2 ⊢
  clear b1 b2 G
  go_enter Try.func74, Try.ntmps74
  go_wp2_with fail
  generalize (((w.alloc (.cells #[.slice x.TA x.t.length x.tc, .slice x.OA x.o.length x.oc, .int .i64 x.got, .int .i64 x.sold, .int .i64 x.missed] 25)).alloc (.cells #[.int .i64 5, .int .i64 st, .int .i64 pe, .int .i64 va] 45)).alloc (.cells #[.slice none 0 0, .slice none 0 0, .int .i64 0, .int .i64 0, .int .i64 0] 25)) = W at L1 L2 L3 b3 ⊢
  have hR := h.up b3 (Nat.le_refl _)
  refine (l32Out_any x st pe W hR).mono ?_
  rintro e W1 ⟨rfl, hb1⟩
  rw [hn]
  have hR1 := hR.then hb1
  have L1a := L1.below hb1 L1.lt
  have L2a := L2.below hb1 L2.lt
  have L3a := L3.below hb1 L3.lt
  have b4 := b3.trans (hb1.mono b3.size)
  have hW0 : w.heap.size ≤ W1.heap.size := b4.size
  have hn := Lib.hid hn
  clear L1 L2 L3 b3 hb1 hR h
  have c0 := L1a.cell 0
  have c1 := L1a.cell 1
  have c2 := L1a.cell 2
  have c3 := L1a.cell 3
  have c4 := L1a.cell 4
  simp only [List.getElem?_cons_zero, List.getElem?_cons_succ] at c0 c1 c2 c3 c4
  have s0 := L2a.cell 0
  have s1 := L2a.cell 1
  have s2 := L2a.cell 2
  have s3 := L2a.cell 3
  simp only [List.getElem?_cons_zero, List.getElem?_cons_succ] at s0 s1 s2 s3


  have i4 : IntKind.i64.wrap (x.missed + n) = x.missed + n := IntWalk.i64_in _ (by omega)
  go_wp2_with fail
  refine (atX x st pe (0) W1 hR1 Sx hst hpe).mono ?_
  rintro e W2 ⟨v2, rfl, ⟨TA, tc, OA, oc, hv2, hT, hO⟩, hb2⟩
  have hv2 : v2 = .agg #[.slice TA x.t.length tc, .slice OA (atO st pe (0) x.o).length oc, .int .i64 x.got, .int .i64 x.sold, .int .i64 x.missed] := hv2
  subst hv2
  simp only at hT hO
  have hal := (Below.refl W2.heap.size W2).alloc (Nat.le_refl _) (.cells #[.slice TA x.t.length tc, .slice OA (atO st pe (0) x.o).length oc, .int .i64 x.got, .int .i64 x.sold, .int .i64 x.missed] 25)
  have L1b := (L1a.below hb2 L1a.lt).below hal (Nat.lt_of_lt_of_le L1a.lt hb2.size)
  have L2b := (L2a.below hb2 L2a.lt).below hal (Nat.lt_of_lt_of_le L2a.lt hb2.size)
  have L3b := (L3a.below hb2 L3a.lt).below hal (Nat.lt_of_lt_of_le L3a.lt hb2.size)
  have P := Lies.new W2 25 #[.slice TA x.t.length tc, .slice OA (atO st pe (0) x.o).length oc, .int .i64 x.got, .int .i64 x.sold, .int .i64 x.missed]
  have hT3 := ownsRow_lower (ownsRow_below hT hal) hW0
  have hO3 := ownsRow_lower (ownsRow_below hO hal) hW0
  have b5 := b4.trans ((bthen hb2 hal).mono b4.size)
  have hR5 := (hR1.then hb2).then hal
  have hgg : w.heap.size + 1 + 1 < W2.heap.size := Nat.lt_of_lt_of_le L3a.lt hb2.size
  clear c0 c1 c2 c3 c4 s0 s1 s2 s3
  obtain ⟨W3, hW3⟩ : ∃ W3, W2.alloc (.cells #[.slice TA x.t.length tc, .slice OA (atO st pe (0) x.o).length oc, .int .i64 x.got, .int .i64 x.sold, .int .i64 x.missed] 25) = W3 := ⟨_, rfl⟩
  rw [hW3] at L1b L2b L3b P hT3 hO3 b5 hR5
  generalize hg2 : W2.heap.size = g2 at P hgg
  have c0 := L1b.cell 0
  have c1 := L1b.cell 1
  have c2 := L1b.cell 2
  have c3 := L1b.cell 3
  have c4 := L1b.cell 4
  simp only [List.getElem?_cons_zero, List.getElem?_cons_succ] at c0 c1 c2 c3 c4
  have s0 := L2b.cell 0
  have s1 := L2b.cell 1
  have s2 := L2b.cell 2
  have s3 := L2b.cell 3
  simp only [List.getElem?_cons_zero, List.getElem?_cons_succ] at s0 s1 s2 s3
  have p0 := P.cell 0
  have p1 := P.cell 1
  have p2 := P.cell 2
  have p3 := P.cell 3
  have p4 := P.cell 4
  simp only [List.getElem?_cons_zero, List.getElem?_cons_succ] at p0 p1 p2 p3 p4
  have pf0 := P.frozen 0
  have pf1 := P.frozen 1
  have pf2 := P.frozen 2
  have pf3 := P.frozen 3
  have pf4 := P.frozen 4
  have P4 := P.set 4 (.int .i64 (x.missed + n))
  have L1c := L1b.other (p := ⟨g2, 4, none⟩) (by simp; omega) (.int .i64 (x.missed + n))
  have L2c := L2b.other (p := ⟨g2, 4, none⟩) (by simp; omega) (.int .i64 (x.missed + n))
  have L3c := L3b.other (p := ⟨g2, 4, none⟩) (by simp; omega) (.int .i64 (x.missed + n))
  have hT4 := ownsRow_setOther hT3 P ne_owt 4 (.int .i64 (x.missed + n))
  have hO4 := ownsRow_setOther hO3 P ne_owo 4 (.int .i64 (x.missed + n))
  have b6 := b5.setCell (p := ⟨g2, 4, none⟩) (show w.heap.size ≤ g2 by omega) (.int .i64 (x.missed + n))
  simp only [List.set_cons_zero, List.set_cons_succ] at P4
  obtain ⟨W4, hW4⟩ : ∃ W4, W3.setCell ⟨g2, 4, none⟩ (.int .i64 (x.missed + n)) = W4 := ⟨_, rfl⟩
  rw [hW4] at P4 L1c L2c L3c hT4 hO4 b6
  clear hR5 hb2 hal hT hO L1a L2a L3a b4 hR1
  have k0 := P4.cell 0
  have k1 := P4.cell 1
  have k2 := P4.cell 2
  have k3 := P4.cell 3
  have k4 := P4.cell 4
  simp only [List.getElem?_cons_zero, List.getElem?_cons_succ] at k0 k1 k2 k3 k4
  have z0 := L3c.cell 0
  have z1 := L3c.cell 1
  have z2 := L3c.cell 2
  have z3 := L3c.cell 3
  have z4 := L3c.cell 4
  simp only [List.getElem?_cons_zero, List.getElem?_cons_succ] at z0 z1 z2 z3 z4
  have f0 := L3c.frozen 0
  have f1 := L3c.frozen 1
  have f2 := L3c.frozen 2
  have f3 := L3c.frozen 3
  have f4 := L3c.frozen 4
  have bz := b6.trans (stOff_below (v0 := .slice TA x.t.length tc) (v1 := .slice OA (atO st pe (0) x.o).length oc) (v2 := .int .i64 x.got) (v3 := .int .i64 x.sold) (v4 := .int .i64 (x.missed + n)) L3c (show w.heap.size ≤ w.heap.size + 1 + 1 by omega))
  have HT := Lib.hid (stOff_row (v0 := .slice TA x.t.length tc) (v1 := .slice OA (atO st pe (0) x.o).length oc) (v2 := .int .i64 x.got) (v3 := .int .i64 x.sold) (v4 := .int .i64 (x.missed + n)) L3c hT4 ne_owt)
  have HO := Lib.hid (stOff_row (v0 := .slice TA x.t.length tc) (v1 := .slice OA (atO st pe (0) x.o).length oc) (v2 := .int .i64 x.got) (v3 := .int .i64 x.sold) (v4 := .int .i64 (x.missed + n)) L3c hO4 ne_owo)
  go_wp2_with (first | (rw [hW3]; clear hW3; rw [hg2]) | (rw [hW4]; clear hW4))
  clear c0 c1 c2 c3 c4 s0 s1 s2 s3 p0 p1 p2 p3 p4 pf0 pf1 pf2 pf3 pf4

  refine bodyPost_ret (v := .tuple #[.agg #[.slice TA x.t.length tc, .slice OA (atO st pe (0) x.o).length oc, .int .i64 x.got, .int .i64 x.sold, .int .i64 (x.missed + n)], .bool (decide (0 < n))]) (by simp [results, Try.results74, go_sem, *]) rfl ?_
  exact ⟨TA, tc, OA, oc, rfl, HT.out, HO.out, bz⟩
end Go.Proofs.Ytdiojhjkcholiaa

/- A step with stamps at a person, in the reference: move. (Printed by gen_specper.py) -/
namespace Go.Proofs.Ytdiojhjkcholiaa
open Go.RowKit

set_option maxRecDepth 100000 in
set_option maxHeartbeats 4000000 in
theorem person_move (x : Off) (st pe va : Int) (w : World) (h : OffR w w.heap.size x) (G : Good x) (hcap : x.t.length ≤ x.tc) (hst : 1 ≤ st ∧ st ≤ 99) (hpe : 1 ≤ pe ∧ pe ≤ 999) (hva : 1 ≤ va ∧ va ≤ 999) :
    Calls Try.prog 74 #[x.val, .agg #[.int .i64 6, .int .i64 st, .int .i64 pe, .int .i64 va]] w (GivesMk w ((⟨x.t, atO st va (outAt st va (atO st pe 0 x.o) + outAt st pe x.o) (atO st pe 0 x.o), x.got, x.sold, x.missed⟩ : Oc), decide (0 < outAt st pe x.o) && decide (va ≠ pe))) := by
  have L1 := ((Lies.new w 25 #[.slice x.TA x.t.length x.tc, .slice x.OA x.o.length x.oc, .int .i64 x.got, .int .i64 x.sold, .int .i64 x.missed]).alloc (.cells #[.int .i64 6, .int .i64 st, .int .i64 pe, .int .i64 va] 45)).alloc (.cells #[.slice none 0 0, .slice none 0 0, .int .i64 0, .int .i64 0, .int .i64 0] 25)
  have L2 := (Lies.new1 w (.cells #[.slice x.TA x.t.length x.tc, .slice x.OA x.o.length x.oc, .int .i64 x.got, .int .i64 x.sold, .int .i64 x.missed] 25) 45 #[.int .i64 6, .int .i64 st, .int .i64 pe, .int .i64 va]).alloc (.cells #[.slice none 0 0, .slice none 0 0, .int .i64 0, .int .i64 0, .int .i64 0] 25)
  have L3 := Lies.new2 w (.cells #[.slice x.TA x.t.length x.tc, .slice x.OA x.o.length x.oc, .int .i64 x.got, .int .i64 x.sold, .int .i64 x.missed] 25) (.cells #[.int .i64 6, .int .i64 st, .int .i64 pe, .int .i64 va] 45) 25 #[.slice none 0 0, .slice none 0 0, .int .i64 0, .int .i64 0, .int .i64 0]
  have b1 := (Below.refl w.heap.size w).alloc (Nat.le_refl _) (.cells #[.slice x.TA x.t.length x.tc, .slice x.OA x.o.length x.oc, .int .i64 x.got, .int .i64 x.sold, .int .i64 x.missed] 25)
  have b2 := b1.alloc b1.size (.cells #[.int .i64 6, .int .i64 st, .int .i64 pe, .int .i64 va] 45)
  have b3 := b2.alloc b2.size (.cells #[.slice none 0 0, .slice none 0 0, .int .i64 0, .int .i64 0, .int .i64 0] 25)
  have Sx := G.small
  have htl := G.tl
  have hol := G.ol
  have htc := G.tcs
  obtain ⟨m1, m2⟩ := G.m
  obtain ⟨g1, g2⟩ := G.s
  obtain ⟨n1, n2⟩ := G.at_bd st pe
  obtain ⟨m, hm⟩ : ∃ m, outAt st va (atO st pe 0 x.o) = m := ⟨_, rfl⟩
  have hmb : 0 ≤ m ∧ m ≤ 9999 := by rw [← hm]; exact G.move_bd st pe va
  rw [hm]
  have HM := Lib.hid hm; clear hm
  obtain ⟨q1, q2⟩ := hmb
  obtain ⟨n, hn⟩ : ∃ n, outAt st pe x.o = n := ⟨_, rfl⟩
  rw [hn] at n1 n2 ⊢
  clear b1 b2 G
  go_enter Try.func74, Try.ntmps74
  go_wp2_with fail
  generalize (((w.alloc (.cells #[.slice x.TA x.t.length x.tc, .slice x.OA x.o.length x.oc, .int .i64 x.got, .int .i64 x.sold, .int .i64 x.missed] 25)).alloc (.cells #[.int .i64 6, .int .i64 st, .int .i64 pe, .int .i64 va] 45)).alloc (.cells #[.slice none 0 0, .slice none 0 0, .int .i64 0, .int .i64 0, .int .i64 0] 25)) = W at L1 L2 L3 b3 ⊢
  have hR := h.up b3 (Nat.le_refl _)
  refine (l32Out_any x st pe W hR).mono ?_
  rintro e W1 ⟨rfl, hb1⟩
  rw [hn]
  have hR1 := hR.then hb1
  have L1a := L1.below hb1 L1.lt
  have L2a := L2.below hb1 L2.lt
  have L3a := L3.below hb1 L3.lt
  have b4 := b3.trans (hb1.mono b3.size)
  have hW0 : w.heap.size ≤ W1.heap.size := b4.size
  have hn := Lib.hid hn
  clear L1 L2 L3 b3 hb1 hR h
  have c0 := L1a.cell 0
  have c1 := L1a.cell 1
  have c2 := L1a.cell 2
  have c3 := L1a.cell 3
  have c4 := L1a.cell 4
  simp only [List.getElem?_cons_zero, List.getElem?_cons_succ] at c0 c1 c2 c3 c4
  have s0 := L2a.cell 0
  have s1 := L2a.cell 1
  have s2 := L2a.cell 2
  have s3 := L2a.cell 3
  simp only [List.getElem?_cons_zero, List.getElem?_cons_succ] at s0 s1 s2 s3

  have S1 : Small (⟨x.t, atO st pe 0 x.o, x.got, x.sold, x.missed⟩ : Oc) := Sx.at hst hpe (by show x.o.length ≤ 100; omega)
  go_wp2_with fail
  refine (atX x st pe (0) W1 hR1 Sx hst hpe).mono ?_
  rintro e W2 ⟨v2, rfl, ⟨TA, tc, OA, oc, hv2, hT, hO⟩, hb2⟩
  have hv2 : v2 = .agg #[.slice TA x.t.length tc, .slice OA (atO st pe (0) x.o).length oc, .int .i64 x.got, .int .i64 x.sold, .int .i64 x.missed] := hv2
  subst hv2
  simp only at hT hO
  have hal := (Below.refl W2.heap.size W2).alloc (Nat.le_refl _) (.cells #[.slice TA x.t.length tc, .slice OA (atO st pe (0) x.o).length oc, .int .i64 x.got, .int .i64 x.sold, .int .i64 x.missed] 25)
  have L1b := (L1a.below hb2 L1a.lt).below hal (Nat.lt_of_lt_of_le L1a.lt hb2.size)
  have L2b := (L2a.below hb2 L2a.lt).below hal (Nat.lt_of_lt_of_le L2a.lt hb2.size)
  have L3b := (L3a.below hb2 L3a.lt).below hal (Nat.lt_of_lt_of_le L3a.lt hb2.size)
  have P := Lies.new W2 25 #[.slice TA x.t.length tc, .slice OA (atO st pe (0) x.o).length oc, .int .i64 x.got, .int .i64 x.sold, .int .i64 x.missed]
  have hT3 := ownsRow_lower (ownsRow_below hT hal) hW0
  have hO3 := ownsRow_lower (ownsRow_below hO hal) hW0
  have b5 := b4.trans ((bthen hb2 hal).mono b4.size)
  have hR5 := (hR1.then hb2).then hal
  have hgg : w.heap.size + 1 + 1 < W2.heap.size := Nat.lt_of_lt_of_le L3a.lt hb2.size
  clear c0 c1 c2 c3 c4 s0 s1 s2 s3
  obtain ⟨W3, hW3⟩ : ∃ W3, W2.alloc (.cells #[.slice TA x.t.length tc, .slice OA (atO st pe (0) x.o).length oc, .int .i64 x.got, .int .i64 x.sold, .int .i64 x.missed] 25) = W3 := ⟨_, rfl⟩
  rw [hW3] at L1b L2b L3b P hT3 hO3 b5 hR5
  generalize hg2 : W2.heap.size = g2 at P hgg
  have c0 := L1b.cell 0
  have c1 := L1b.cell 1
  have c2 := L1b.cell 2
  have c3 := L1b.cell 3
  have c4 := L1b.cell 4
  simp only [List.getElem?_cons_zero, List.getElem?_cons_succ] at c0 c1 c2 c3 c4
  have s0 := L2b.cell 0
  have s1 := L2b.cell 1
  have s2 := L2b.cell 2
  have s3 := L2b.cell 3
  simp only [List.getElem?_cons_zero, List.getElem?_cons_succ] at s0 s1 s2 s3
  have p0 := P.cell 0
  have p1 := P.cell 1
  have p2 := P.cell 2
  have p3 := P.cell 3
  have p4 := P.cell 4
  simp only [List.getElem?_cons_zero, List.getElem?_cons_succ] at p0 p1 p2 p3 p4
  have pf0 := P.frozen 0
  have pf1 := P.frozen 1
  have pf2 := P.frozen 2
  have pf3 := P.frozen 3
  have pf4 := P.frozen 4
  clear hb2 hal hT hO L1a L2a L3a b4 hR1
  go_wp2_with (rw [hW3]; clear hW3; rw [hg2])
  clear c0 c1 c2 c3 c4 s0 s1 s2 s3 p0 p1 p2 p3 p4 pf0 pf1 pf2 pf3 pf4

  obtain ⟨b, hbd⟩ : ∃ b, decide (0 < n) = b := ⟨_, rfl⟩
  have HBD := Lib.hid hbd; clear hbd
  obtain ⟨D1, hD1⟩ : ∃ D : World → Prop, D = (fun W9 => ∃ W8 TA tc OA oc, Below W3.heap.size W3 W8 ∧ W8.ownsRow w.heap.size 74 2 (.slice TA ((⟨x.t, atO st va (m + n) (atO st pe 0 x.o), x.got, x.sold, x.missed⟩ : Oc)).t.length tc) ((⟨x.t, atO st va (m + n) (atO st pe 0 x.o), x.got, x.sold, x.missed⟩ : Oc)).t.length (((⟨x.t, atO st va (m + n) (atO st pe 0 x.o), x.got, x.sold, x.missed⟩ : Oc)).t.flatMap Tray.enc) ∧ W8.ownsRow w.heap.size 100 3 (.slice OA ((⟨x.t, atO st va (m + n) (atO st pe 0 x.o), x.got, x.sold, x.missed⟩ : Oc)).o.length oc) ((⟨x.t, atO st va (m + n) (atO st pe 0 x.o), x.got, x.sold, x.missed⟩ : Oc)).o.length (((⟨x.t, atO st va (m + n) (atO st pe 0 x.o), x.got, x.sold, x.missed⟩ : Oc)).o.flatMap Outing.enc) ∧ W9 = stOff W8 (w.heap.size + 1 + 1) (.slice TA ((⟨x.t, atO st va (m + n) (atO st pe 0 x.o), x.got, x.sold, x.missed⟩ : Oc)).t.length tc) (.slice OA ((⟨x.t, atO st va (m + n) (atO st pe 0 x.o), x.got, x.sold, x.missed⟩ : Oc)).o.length oc) (.int .i64 ((⟨x.t, atO st va (m + n) (atO st pe 0 x.o), x.got, x.sold, x.missed⟩ : Oc)).got) (.int .i64 ((⟨x.t, atO st va (m + n) (atO st pe 0 x.o), x.got, x.sold, x.missed⟩ : Oc)).sold) (.int .i64 ((⟨x.t, atO st va (m + n) (atO st pe 0 x.o), x.got, x.sold, x.missed⟩ : Oc)).missed)) := ⟨_, rfl⟩
  have hDL : ∀ W, D1 W → ∃ W8 v0 v1 v2 v3 v4, Below W3.heap.size W3 W8 ∧ W = stOff W8 (w.heap.size + 1 + 1) v0 v1 v2 v3 v4 := by
    rw [hD1]
    rintro _ ⟨W8, TA, tc, OA, oc, hq, _, _, e⟩
    exact ⟨W8, _, _, _, _, _, hq, e⟩
  have HD1 := Lib.hid hD1; clear hD1
  refine wp_region_factsR (Sw 23 (fun W9 => Below W3.heap.size W3 W9) D1) (fun i w1 w2 => i ∉ [23] → Below w1.heap.size w1 w2) (by kernel_rfl) (by kernel_rfl) (by kernel_rfl) (Sw.start (Below.refl _ _).drew) ?_
  simp only [fillOps, Act.put, List.setIfInBounds_toArray, List.set_cons_zero, List.set_cons_succ, Nat.zero_add, Nat.reduceAdd]
  apply wpFactsR_val
  case h1 =>
    intro vs L9 w9 hG9 hC9 hB K9 hK9
    replace hC9 := hC9.before hG9 (by kernel_rfl)
    have q0 : w9.cell? ⟨g2, 0, none⟩ = some (.slice TA x.t.length tc) := (P.below hC9 P.lt).cell 0
    have q1 : w9.cell? ⟨g2, 1, none⟩ = some (.slice OA (atO st pe (0) x.o).length oc) := (P.below hC9 P.lt).cell 1
    have q2 : w9.cell? ⟨g2, 2, none⟩ = some (.int .i64 x.got) := (P.below hC9 P.lt).cell 2
    have q3 : w9.cell? ⟨g2, 3, none⟩ = some (.int .i64 x.sold) := (P.below hC9 P.lt).cell 3
    have q4 : w9.cell? ⟨g2, 4, none⟩ = some (.int .i64 x.missed) := (P.below hC9 P.lt).cell 4
    simp only [Act.put, List.setIfInBounds_toArray, List.set_cons_zero, List.set_cons_succ] at hK9
    go_simp
    exact hK9 _ _ rfl (Sw.stay hG9 (by kernel_rfl) (by decide) hC9) (fun _ => Below.refl _ _)
  apply wpFactsR_val
  case h1 =>
    intro vs L9 w9 hG9 hC9 hB K9 hK9
    replace hC9 := hC9.before hG9 (by kernel_rfl)
    simp only [Act.put, List.setIfInBounds_toArray, List.set_cons_zero, List.set_cons_succ] at hK9
    go_simp
    exact hK9 _ _ rfl (Sw.stay hG9 (by kernel_rfl) (by decide) hC9) (fun _ => Below.refl _ _)
  apply wpFactsR_val
  case h1 =>
    intro vs L9 w9 hG9 hC9 hB K9 hK9
    replace hC9 := hC9.before hG9 (by kernel_rfl)
    have d1 := FactN.eq (hB 1 _ (by kernel_rfl) (by kernel_rfl) rfl (by decide))
    simp only [d1] at hK9 ⊢
    have q0 : w9.cell? ⟨(w.heap.size + 1), 1, none⟩ = some (.int .i64 st) := (L2b.below hC9 L2b.lt).cell 1
    simp only [Act.put, List.setIfInBounds_toArray, List.set_cons_zero, List.set_cons_succ] at hK9
    go_simp
    exact hK9 _ _ rfl (Sw.stay hG9 (by kernel_rfl) (by decide) hC9) (fun _ => Below.refl _ _)
  apply wpFactsR_val
  case h1 =>
    intro vs L9 w9 hG9 hC9 hB K9 hK9
    replace hC9 := hC9.before hG9 (by kernel_rfl)
    simp only [Act.put, List.setIfInBounds_toArray, List.set_cons_zero, List.set_cons_succ] at hK9
    go_simp
    exact hK9 _ _ rfl (Sw.stay hG9 (by kernel_rfl) (by decide) hC9) (fun _ => Below.refl _ _)
  apply wpFactsR_val
  case h1 =>
    intro vs L9 w9 hG9 hC9 hB K9 hK9
    replace hC9 := hC9.before hG9 (by kernel_rfl)
    have d3 := FactN.eq (hB 3 _ (by kernel_rfl) (by kernel_rfl) rfl (by decide))
    simp only [d3] at hK9 ⊢
    have q0 : w9.cell? ⟨(w.heap.size + 1), 3, none⟩ = some (.int .i64 va) := (L2b.below hC9 L2b.lt).cell 3
    simp only [Act.put, List.setIfInBounds_toArray, List.set_cons_zero, List.set_cons_succ] at hK9
    go_simp
    exact hK9 _ _ rfl (Sw.stay hG9 (by kernel_rfl) (by decide) hC9) (fun _ => Below.refl _ _)
  apply wpFactsR_val
  case h1 =>
    intro vs L9 w9 hG9 hC9 hB K9 hK9
    replace hC9 := hC9.before hG9 (by kernel_rfl)
    have q0 : w9.cell? ⟨g2, 0, none⟩ = some (.slice TA x.t.length tc) := (P.below hC9 P.lt).cell 0
    have q1 : w9.cell? ⟨g2, 1, none⟩ = some (.slice OA (atO st pe (0) x.o).length oc) := (P.below hC9 P.lt).cell 1
    have q2 : w9.cell? ⟨g2, 2, none⟩ = some (.int .i64 x.got) := (P.below hC9 P.lt).cell 2
    have q3 : w9.cell? ⟨g2, 3, none⟩ = some (.int .i64 x.sold) := (P.below hC9 P.lt).cell 3
    have q4 : w9.cell? ⟨g2, 4, none⟩ = some (.int .i64 x.missed) := (P.below hC9 P.lt).cell 4
    simp only [Act.put, List.setIfInBounds_toArray, List.set_cons_zero, List.set_cons_succ] at hK9
    go_simp
    exact hK9 _ _ rfl (Sw.stay hG9 (by kernel_rfl) (by decide) hC9) (fun _ => Below.refl _ _)
  apply wpFactsR_val
  case h1 =>
    intro vs L9 w9 hG9 hC9 hB K9 hK9
    replace hC9 := hC9.before hG9 (by kernel_rfl)
    simp only [Act.put, List.setIfInBounds_toArray, List.set_cons_zero, List.set_cons_succ] at hK9
    go_simp
    exact hK9 _ _ rfl (Sw.stay hG9 (by kernel_rfl) (by decide) hC9) (fun _ => Below.refl _ _)
  apply wpFactsR_val
  case h1 =>
    intro vs L9 w9 hG9 hC9 hB K9 hK9
    replace hC9 := hC9.before hG9 (by kernel_rfl)
    have d6 := FactN.eq (hB 6 _ (by kernel_rfl) (by kernel_rfl) rfl (by decide))
    simp only [d6] at hK9 ⊢
    have q0 : w9.cell? ⟨(w.heap.size + 1), 1, none⟩ = some (.int .i64 st) := (L2b.below hC9 L2b.lt).cell 1
    simp only [Act.put, List.setIfInBounds_toArray, List.set_cons_zero, List.set_cons_succ] at hK9
    go_simp
    exact hK9 _ _ rfl (Sw.stay hG9 (by kernel_rfl) (by decide) hC9) (fun _ => Below.refl _ _)
  apply wpFactsR_val
  case h1 =>
    intro vs L9 w9 hG9 hC9 hB K9 hK9
    replace hC9 := hC9.before hG9 (by kernel_rfl)
    simp only [Act.put, List.setIfInBounds_toArray, List.set_cons_zero, List.set_cons_succ] at hK9
    go_simp
    exact hK9 _ _ rfl (Sw.stay hG9 (by kernel_rfl) (by decide) hC9) (fun _ => Below.refl _ _)
  apply wpFactsR_val
  case h1 =>
    intro vs L9 w9 hG9 hC9 hB K9 hK9
    replace hC9 := hC9.before hG9 (by kernel_rfl)
    have d8 := FactN.eq (hB 8 _ (by kernel_rfl) (by kernel_rfl) rfl (by decide))
    simp only [d8] at hK9 ⊢
    have q0 : w9.cell? ⟨(w.heap.size + 1), 3, none⟩ = some (.int .i64 va) := (L2b.below hC9 L2b.lt).cell 3
    simp only [Act.put, List.setIfInBounds_toArray, List.set_cons_zero, List.set_cons_succ] at hK9
    go_simp
    exact hK9 _ _ rfl (Sw.stay hG9 (by kernel_rfl) (by decide) hC9) (fun _ => Below.refl _ _)
  apply wpFactsR_val
  case h1 =>
    intro vs L9 w9 hG9 hC9 hB K9 hK9
    replace hC9 := hC9.before hG9 (by kernel_rfl)
    have d5 := FactN.eq (hB 5 _ (by kernel_rfl) (by kernel_rfl) rfl (by decide))
    have d7 := FactN.eq (hB 7 _ (by kernel_rfl) (by kernel_rfl) rfl (by decide))
    have d9 := FactN.eq (hB 9 _ (by kernel_rfl) (by kernel_rfl) rfl (by decide))
    simp only [d5, d7, d9] at hK9 ⊢
    simp only [Act.put, List.setIfInBounds_toArray, List.set_cons_zero, List.set_cons_succ] at hK9
    go_simp
    refine (show Calls _ _ _ _ (fun e w' => e = .returned (.int .i64 m) ∧ Below w9.heap.size w9 w') from by rw [← HM.out]; exact outV st va (show OwnV w9 w.heap.size (⟨x.t, atO st pe 0 x.o, x.got, x.sold, x.missed⟩ : Oc) _ from ⟨TA, tc, OA, oc, rfl, ownsRow_below hT3 hC9, ownsRow_below hO3 hC9⟩)).mono ?_
    rintro en w8 ⟨rfl, hb8⟩
    exact hK9 _ _ rfl (Sw.stay hG9 (by kernel_rfl) (by decide) (hC9.trans (hb8.mono hC9.size))) (fun _ => hb8)
  apply wpFactsR_val
  case h1 =>
    intro vs L9 w9 hG9 hC9 hB K9 hK9
    replace hC9 := hC9.before hG9 (by kernel_rfl)
    simp only [Act.put, List.setIfInBounds_toArray, List.set_cons_zero, List.set_cons_succ] at hK9
    go_simp
    exact hK9 _ _ rfl (Sw.stay hG9 (by kernel_rfl) (by decide) hC9) (fun _ => Below.refl _ _)
  apply wpFactsR_val
  case h1 =>
    intro vs L9 w9 hG9 hC9 hB K9 hK9
    replace hC9 := hC9.before hG9 (by kernel_rfl)
    have d10 := FactN.eq (hB 10 _ (by kernel_rfl) (by kernel_rfl) rfl (by decide))
    have d11 := FactN.eq (hB 11 _ (by kernel_rfl) (by kernel_rfl) rfl (by decide))
    simp only [d10, d11] at hK9 ⊢
    have i3 : IntKind.i64.wrap (m + n) = m + n := IntWalk.i64_in _ (by omega)
    simp only [Act.put, List.setIfInBounds_toArray, List.set_cons_zero, List.set_cons_succ] at hK9
    go_simp
    exact hK9 _ _ rfl (Sw.stay hG9 (by kernel_rfl) (by decide) hC9) (fun _ => Below.refl _ _)
  refine wpFactsR_some [23] (fun v w9 => OwnV w9 w.heap.size (⟨x.t, atO st va (m + n) (atO st pe 0 x.o), x.got, x.sold, x.missed⟩ : Oc) v) ?sv13 (fun vs L9 w9 hG9 hC9 hB K9 hK9 => ?hv13) ?rv13
  case sv13 =>
    intro i9 hi9 hb9 ha9 v w1 w2 hv hT9
    have hb := hT9 (fun hm => by
      simp only [List.mem_cons, List.not_mem_nil, or_false] at hm hb9
      subst hm
      · exact hb9 (by simp))
    exact hv.below hb
  case hv13 =>
    replace hC9 := hC9.before hG9 (by kernel_rfl)
    have d0 := FactN.eq (hB 0 _ (by kernel_rfl) (by kernel_rfl) rfl (by decide))
    have d2 := FactN.eq (hB 2 _ (by kernel_rfl) (by kernel_rfl) rfl (by decide))
    have d4 := FactN.eq (hB 4 _ (by kernel_rfl) (by kernel_rfl) rfl (by decide))
    have d12 := FactN.eq (hB 12 _ (by kernel_rfl) (by kernel_rfl) rfl (by decide))
    simp only [d0, d2, d4, d12] at hK9 ⊢
    simp only [Act.put, List.setIfInBounds_toArray, List.set_cons_zero, List.set_cons_succ] at hK9
    have hW0 : w.heap.size ≤ W3.heap.size := b5.size
    go_simp
    refine (atV st va (m + n) (show OwnV w9 w.heap.size (⟨x.t, atO st pe 0 x.o, x.got, x.sold, x.missed⟩ : Oc) _ from ⟨TA, tc, OA, oc, rfl, ownsRow_below hT3 hC9, ownsRow_below hO3 hC9⟩) S1 hst hva).mono ?_
    rintro en w8 ⟨v8, rfl, hv8, hb8⟩
    exact hK9 _ _ _ rfl (hv8.lower (Nat.le_trans hW0 hC9.size)) (Sw.stay hG9 (by kernel_rfl) (by decide) (hC9.trans (hb8.mono hC9.size))) (fun _ => hb8)
  apply wpFactsR_val
  case h1 =>
    intro vs L9 w9 hG9 hC9 hB K9 hK9
    replace hC9 := hC9.before hG9 (by kernel_rfl)
    simp only [Act.put, List.setIfInBounds_toArray, List.set_cons_zero, List.set_cons_succ] at hK9
    go_simp
    exact hK9 _ _ rfl (Sw.stay hG9 (by kernel_rfl) (by decide) hC9) (fun _ => Below.refl _ _)
  refine wpFactsR_val (.bool b) (fun vs L9 w9 hG9 hC9 hB K9 hK9 => ?hv15) ?rv15
  case hv15 =>
    replace hC9 := hC9.before hG9 (by kernel_rfl)
    have d14 := FactN.eq (hB 14 _ (by kernel_rfl) (by kernel_rfl) rfl (by decide))
    simp only [d14] at hK9 ⊢
    go_simp
    rw [HBD.out]
    exact hK9 _ _ rfl (Sw.stay hG9 (by kernel_rfl) (by decide) hC9) (fun _ => Below.refl _ _)
  apply wpFactsR_val
  case h1 =>
    intro vs L9 w9 hG9 hC9 hB K9 hK9
    replace hC9 := hC9.before hG9 (by kernel_rfl)
    have d15 := FactN.eq (hB 15 _ (by kernel_rfl) (by kernel_rfl) rfl (by decide))
    simp only [d15] at hK9 ⊢
    simp only [Act.put, List.setIfInBounds_toArray, List.set_cons_zero, List.set_cons_succ] at hK9
    go_simp
    exact hK9 _ _ rfl (Sw.stay hG9 (by kernel_rfl) (by decide) hC9) (fun _ => Below.refl _ _)
  refine wpFactsR_some [] (fun v _ => b = true → v = .pointer (some ⟨w.heap.size + 1, 3, none⟩)) ?sv17 (fun vs L9 w9 hG9 hC9 hB K9 hK9 => ?hv17) ?rv17
  case sv17 =>
    intro i9 hi9 hb9 ha9 v w1 w2 hv hT9
    exact hv
  case hv17 =>
    have HC9 := Lib.hid hC9
    have dg := FactN.eq (hB 16 _ (by kernel_rfl) (by kernel_rfl) rfl (by decide))
    simp only [dg] at hK9 ⊢
    clear hC9
    cases b with
    | false =>
      go_simp
      exact hK9 _ undef _ rfl (fun hq => by cases hq) (Sw.both (by decide) (fun h => h) (fun h => h) HC9.out) (fun _ => Below.refl _ _)
    | true =>
      go_simp
      exact hK9 _ _ _ rfl (fun _ => rfl) (Sw.both (by decide) (fun h => h) (fun h => h) HC9.out) (fun _ => Below.refl _ _)
  refine wpFactsR_some [] (fun v _ => b = true → v = .int .i64 va) ?sv18 (fun vs L9 w9 hG9 hC9 hB K9 hK9 => ?hv18) ?rv18
  case sv18 =>
    intro i9 hi9 hb9 ha9 v w1 w2 hv hT9
    exact hv
  case hv18 =>
    have HC9 := Lib.hid hC9
    have dg := FactN.eq (hB 16 _ (by kernel_rfl) (by kernel_rfl) rfl (by decide))
    simp only [dg] at hK9 ⊢
    have q0 : w9.cell? ⟨w.heap.size + 1, 3, none⟩ = some (.int .i64 va) := (hC9.lies hDL L2b (by omega)).cell 3
    clear hC9
    cases b with
    | false =>
      go_simp
      exact hK9 _ undef _ rfl (fun hq => by cases hq) (Sw.both (by decide) (fun h => h) (fun h => h) HC9.out) (fun _ => Below.refl _ _)
    | true =>
      have d17 := hB 17 _ (by kernel_rfl) (by kernel_rfl) rfl (by decide) rfl
      simp only [d17] at hK9 ⊢
      go_simp
      exact hK9 _ _ _ rfl (fun _ => rfl) (Sw.both (by decide) (fun h => h) (fun h => h) HC9.out) (fun _ => Below.refl _ _)
  refine wpFactsR_some [] (fun v _ => b = true → v = .pointer (some ⟨w.heap.size + 1, 2, none⟩)) ?sv19 (fun vs L9 w9 hG9 hC9 hB K9 hK9 => ?hv19) ?rv19
  case sv19 =>
    intro i9 hi9 hb9 ha9 v w1 w2 hv hT9
    exact hv
  case hv19 =>
    have HC9 := Lib.hid hC9
    have dg := FactN.eq (hB 16 _ (by kernel_rfl) (by kernel_rfl) rfl (by decide))
    simp only [dg] at hK9 ⊢
    clear hC9
    cases b with
    | false =>
      go_simp
      exact hK9 _ undef _ rfl (fun hq => by cases hq) (Sw.both (by decide) (fun h => h) (fun h => h) HC9.out) (fun _ => Below.refl _ _)
    | true =>
      go_simp
      exact hK9 _ _ _ rfl (fun _ => rfl) (Sw.both (by decide) (fun h => h) (fun h => h) HC9.out) (fun _ => Below.refl _ _)
  refine wpFactsR_some [] (fun v _ => b = true → v = .int .i64 pe) ?sv20 (fun vs L9 w9 hG9 hC9 hB K9 hK9 => ?hv20) ?rv20
  case sv20 =>
    intro i9 hi9 hb9 ha9 v w1 w2 hv hT9
    exact hv
  case hv20 =>
    have HC9 := Lib.hid hC9
    have dg := FactN.eq (hB 16 _ (by kernel_rfl) (by kernel_rfl) rfl (by decide))
    simp only [dg] at hK9 ⊢
    have q0 : w9.cell? ⟨w.heap.size + 1, 2, none⟩ = some (.int .i64 pe) := (hC9.lies hDL L2b (by omega)).cell 2
    clear hC9
    cases b with
    | false =>
      go_simp
      exact hK9 _ undef _ rfl (fun hq => by cases hq) (Sw.both (by decide) (fun h => h) (fun h => h) HC9.out) (fun _ => Below.refl _ _)
    | true =>
      have d19 := hB 19 _ (by kernel_rfl) (by kernel_rfl) rfl (by decide) rfl
      simp only [d19] at hK9 ⊢
      go_simp
      exact hK9 _ _ _ rfl (fun _ => rfl) (Sw.both (by decide) (fun h => h) (fun h => h) HC9.out) (fun _ => Below.refl _ _)
  refine wpFactsR_some [] (fun v _ => b = true → v = .bool (va != pe)) ?sv21 (fun vs L9 w9 hG9 hC9 hB K9 hK9 => ?hv21) ?rv21
  case sv21 =>
    intro i9 hi9 hb9 ha9 v w1 w2 hv hT9
    exact hv
  case hv21 =>
    have HC9 := Lib.hid hC9
    have dg := FactN.eq (hB 16 _ (by kernel_rfl) (by kernel_rfl) rfl (by decide))
    simp only [dg] at hK9 ⊢
    clear hC9
    cases b with
    | false =>
      go_simp
      exact hK9 _ undef _ rfl (fun hq => by cases hq) (Sw.both (by decide) (fun h => h) (fun h => h) HC9.out) (fun _ => Below.refl _ _)
    | true =>
      have d18 := hB 18 _ (by kernel_rfl) (by kernel_rfl) rfl (by decide) rfl
      have d20 := hB 20 _ (by kernel_rfl) (by kernel_rfl) rfl (by decide) rfl
      simp only [d18, d20] at hK9 ⊢
      go_simp
      exact hK9 _ _ _ rfl (fun _ => rfl) (Sw.both (by decide) (fun h => h) (fun h => h) HC9.out) (fun _ => Below.refl _ _)
  refine wpFactsR_val (.bool (b && (va != pe))) (fun vs L9 w9 hG9 hC9 hB K9 hK9 => ?hv22) ?rv22
  case hv22 =>
    have d16 := FactN.eq (hB 16 _ (by kernel_rfl) (by kernel_rfl) rfl (by decide))
    simp only [d16] at hK9 ⊢
    have HC9 := Lib.hid hC9
    clear hC9
    cases b with
    | false =>
      go_simp
      exact hK9 _ _ rfl (Sw.both (by decide) (fun h => h) (fun h => h) HC9.out) (fun _ => Below.refl _ _)
    | true =>
      have d21 := hB 21 _ (by kernel_rfl) (by kernel_rfl) rfl (by decide) rfl
      simp only [d21] at hK9 ⊢
      go_simp
      exact hK9 _ _ rfl (Sw.both (by decide) (fun h => h) (fun h => h) HC9.out) (fun _ => Below.refl _ _)
  refine wpFactsR_val (undef) (fun vs L9 w9 hG9 hC9 hB K9 hK9 => ?hv23) ?rv23
  case hv23 =>
    replace hC9 := hC9.here hG9
    obtain ⟨TA, tc, OA, oc, e15, h1, h2⟩ := hB 13 _ (by kernel_rfl) (by kernel_rfl) rfl (by decide)
    simp only [e15] at hK9 ⊢
    have Lr := L3b.below hC9 L3b.lt
    have z0 := Lr.cell 0
    have z1 := Lr.cell 1
    have z2 := Lr.cell 2
    have z3 := Lr.cell 3
    have z4 := Lr.cell 4
    simp only [List.getElem?_cons_zero, List.getElem?_cons_succ] at z0 z1 z2 z3 z4
    have f0 := Lr.frozen 0
    have f1 := Lr.frozen 1
    have f2 := Lr.frozen 2
    have f3 := Lr.frozen 3
    have f4 := Lr.frozen 4
    have h1 := Lib.hid h1
    have h2 := Lib.hid h2
    clear Lr
    go_simp
    exact hK9 _ _ rfl (Sw.turn (by rw [HD1.out]; exact ⟨w9, TA, tc, OA, oc, hC9, h1.out, h2.out, rfl⟩)) (fun hq => (hq (by decide)).elim)
  apply wpFactsR_val
  case h1 =>
    intro vs L9 w9 hG9 hC9 hB K9 hK9
    replace hC9 := hC9.after hG9 (by kernel_rfl)
    have d22 := FactN.eq (hB 22 _ (by kernel_rfl) (by kernel_rfl) rfl (by decide))
    simp only [d22] at hK9 ⊢
    simp only [Act.put, List.setIfInBounds_toArray, List.set_cons_zero, List.set_cons_succ] at hK9
    go_simp
    exact hK9 _ _ rfl (Sw.on hG9 (by kernel_rfl) hC9) (fun _ => Below.refl _ _)
  refine wpFactsR_nil fun vs L9 w9 hL9 hC9 hB => ?_
  replace hC9 := hC9.done hL9 (by decide)
  have dl := FactN.eq (hB 24 _ rfl rfl (by decide))
  simp only [dl]
  clear hB dl
  rw [HD1.out] at hC9
  obtain ⟨W8, TA, tc, OA, oc, hb8, h1, h2, rfl⟩ := hC9
  have Lr := L3b.below hb8 L3b.lt
  have bz := (b5.trans (hb8.mono b5.size)).trans (stOff_below (v0 := .slice TA ((⟨x.t, atO st va (m + n) (atO st pe 0 x.o), x.got, x.sold, x.missed⟩ : Oc)).t.length tc) (v1 := .slice OA ((⟨x.t, atO st va (m + n) (atO st pe 0 x.o), x.got, x.sold, x.missed⟩ : Oc)).o.length oc) (v2 := .int .i64 ((⟨x.t, atO st va (m + n) (atO st pe 0 x.o), x.got, x.sold, x.missed⟩ : Oc)).got) (v3 := .int .i64 ((⟨x.t, atO st va (m + n) (atO st pe 0 x.o), x.got, x.sold, x.missed⟩ : Oc)).sold) (v4 := .int .i64 ((⟨x.t, atO st va (m + n) (atO st pe 0 x.o), x.got, x.sold, x.missed⟩ : Oc)).missed) Lr (show w.heap.size ≤ (w.heap.size + 1 + 1) by omega))
  have HT := Lib.hid (stOff_row (v0 := .slice TA ((⟨x.t, atO st va (m + n) (atO st pe 0 x.o), x.got, x.sold, x.missed⟩ : Oc)).t.length tc) (v1 := .slice OA ((⟨x.t, atO st va (m + n) (atO st pe 0 x.o), x.got, x.sold, x.missed⟩ : Oc)).o.length oc) (v2 := .int .i64 ((⟨x.t, atO st va (m + n) (atO st pe 0 x.o), x.got, x.sold, x.missed⟩ : Oc)).got) (v3 := .int .i64 ((⟨x.t, atO st va (m + n) (atO st pe 0 x.o), x.got, x.sold, x.missed⟩ : Oc)).sold) (v4 := .int .i64 ((⟨x.t, atO st va (m + n) (atO st pe 0 x.o), x.got, x.sold, x.missed⟩ : Oc)).missed) Lr h1 ne_owt)
  have HO := Lib.hid (stOff_row (v0 := .slice TA ((⟨x.t, atO st va (m + n) (atO st pe 0 x.o), x.got, x.sold, x.missed⟩ : Oc)).t.length tc) (v1 := .slice OA ((⟨x.t, atO st va (m + n) (atO st pe 0 x.o), x.got, x.sold, x.missed⟩ : Oc)).o.length oc) (v2 := .int .i64 ((⟨x.t, atO st va (m + n) (atO st pe 0 x.o), x.got, x.sold, x.missed⟩ : Oc)).got) (v3 := .int .i64 ((⟨x.t, atO st va (m + n) (atO st pe 0 x.o), x.got, x.sold, x.missed⟩ : Oc)).sold) (v4 := .int .i64 ((⟨x.t, atO st va (m + n) (atO st pe 0 x.o), x.got, x.sold, x.missed⟩ : Oc)).missed) Lr h2 ne_owo)
  have PR := stOff_is (v0 := .slice TA ((⟨x.t, atO st va (m + n) (atO st pe 0 x.o), x.got, x.sold, x.missed⟩ : Oc)).t.length tc) (v1 := .slice OA ((⟨x.t, atO st va (m + n) (atO st pe 0 x.o), x.got, x.sold, x.missed⟩ : Oc)).o.length oc) (v2 := .int .i64 ((⟨x.t, atO st va (m + n) (atO st pe 0 x.o), x.got, x.sold, x.missed⟩ : Oc)).got) (v3 := .int .i64 ((⟨x.t, atO st va (m + n) (atO st pe 0 x.o), x.got, x.sold, x.missed⟩ : Oc)).sold) (v4 := .int .i64 ((⟨x.t, atO st va (m + n) (atO st pe 0 x.o), x.got, x.sold, x.missed⟩ : Oc)).missed) Lr
  generalize stOff W8 (w.heap.size + 1 + 1) (.slice TA ((⟨x.t, atO st va (m + n) (atO st pe 0 x.o), x.got, x.sold, x.missed⟩ : Oc)).t.length tc) (.slice OA ((⟨x.t, atO st va (m + n) (atO st pe 0 x.o), x.got, x.sold, x.missed⟩ : Oc)).o.length oc) (.int .i64 ((⟨x.t, atO st va (m + n) (atO st pe 0 x.o), x.got, x.sold, x.missed⟩ : Oc)).got) (.int .i64 ((⟨x.t, atO st va (m + n) (atO st pe 0 x.o), x.got, x.sold, x.missed⟩ : Oc)).sold) (.int .i64 ((⟨x.t, atO st va (m + n) (atO st pe 0 x.o), x.got, x.sold, x.missed⟩ : Oc)).missed) = W9 at bz HT HO PR ⊢
  have k0 := PR.cell 0
  have k1 := PR.cell 1
  have k2 := PR.cell 2
  have k3 := PR.cell 3
  have k4 := PR.cell 4
  simp only [List.getElem?_cons_zero, List.getElem?_cons_succ] at k0 k1 k2 k3 k4
  clear h1 h2 Lr hb8 hL9 PR
  go_wp2
  refine bodyPost_ret (v := .tuple #[.agg #[.slice TA ((⟨x.t, atO st va (m + n) (atO st pe 0 x.o), x.got, x.sold, x.missed⟩ : Oc)).t.length tc, .slice OA ((⟨x.t, atO st va (m + n) (atO st pe 0 x.o), x.got, x.sold, x.missed⟩ : Oc)).o.length oc, .int .i64 ((⟨x.t, atO st va (m + n) (atO st pe 0 x.o), x.got, x.sold, x.missed⟩ : Oc)).got, .int .i64 ((⟨x.t, atO st va (m + n) (atO st pe 0 x.o), x.got, x.sold, x.missed⟩ : Oc)).sold, .int .i64 ((⟨x.t, atO st va (m + n) (atO st pe 0 x.o), x.got, x.sold, x.missed⟩ : Oc)).missed], .bool (b && (va != pe))]) (by simp [results, Try.results74, go_sem, *]) rfl ?_
  rw [show (decide (0 < n) && !decide (va = pe)) = (b && (va != pe)) from by rw [HBD.out]; congr 1]
  exact ⟨TA, tc, OA, oc, rfl, HT.out, HO.out, bz⟩
end Go.Proofs.Ytdiojhjkcholiaa

/- A step with stamps at a person, in the reference: sell. (Printed by gen_specper.py) -/
namespace Go.Proofs.Ytdiojhjkcholiaa
open Go.RowKit

set_option maxRecDepth 100000 in
set_option maxHeartbeats 4000000 in
theorem person_sell (x : Off) (st pe va : Int) (w : World) (h : OffR w w.heap.size x) (G : Good x) (hcap : x.t.length ≤ x.tc) (hst : 1 ≤ st ∧ st ≤ 99) (hpe : 1 ≤ pe ∧ pe ≤ 999) (hva : 1 ≤ va ∧ va ≤ 9999) :
    Calls Try.prog 74 #[x.val, .agg #[.int .i64 4, .int .i64 st, .int .i64 pe, .int .i64 va]] w (GivesMk w ((⟨x.t, atO st pe (outAt st pe x.o - va) x.o, x.got, x.sold + va, x.missed⟩ : Oc), decide (va ≤ outAt st pe x.o))) := by
  have L1 := ((Lies.new w 25 #[.slice x.TA x.t.length x.tc, .slice x.OA x.o.length x.oc, .int .i64 x.got, .int .i64 x.sold, .int .i64 x.missed]).alloc (.cells #[.int .i64 4, .int .i64 st, .int .i64 pe, .int .i64 va] 45)).alloc (.cells #[.slice none 0 0, .slice none 0 0, .int .i64 0, .int .i64 0, .int .i64 0] 25)
  have L2 := (Lies.new1 w (.cells #[.slice x.TA x.t.length x.tc, .slice x.OA x.o.length x.oc, .int .i64 x.got, .int .i64 x.sold, .int .i64 x.missed] 25) 45 #[.int .i64 4, .int .i64 st, .int .i64 pe, .int .i64 va]).alloc (.cells #[.slice none 0 0, .slice none 0 0, .int .i64 0, .int .i64 0, .int .i64 0] 25)
  have L3 := Lies.new2 w (.cells #[.slice x.TA x.t.length x.tc, .slice x.OA x.o.length x.oc, .int .i64 x.got, .int .i64 x.sold, .int .i64 x.missed] 25) (.cells #[.int .i64 4, .int .i64 st, .int .i64 pe, .int .i64 va] 45) 25 #[.slice none 0 0, .slice none 0 0, .int .i64 0, .int .i64 0, .int .i64 0]
  have b1 := (Below.refl w.heap.size w).alloc (Nat.le_refl _) (.cells #[.slice x.TA x.t.length x.tc, .slice x.OA x.o.length x.oc, .int .i64 x.got, .int .i64 x.sold, .int .i64 x.missed] 25)
  have b2 := b1.alloc b1.size (.cells #[.int .i64 4, .int .i64 st, .int .i64 pe, .int .i64 va] 45)
  have b3 := b2.alloc b2.size (.cells #[.slice none 0 0, .slice none 0 0, .int .i64 0, .int .i64 0, .int .i64 0] 25)
  have Sx := G.small
  have htl := G.tl
  have hol := G.ol
  have htc := G.tcs
  obtain ⟨m1, m2⟩ := G.m
  obtain ⟨g1, g2⟩ := G.s
  obtain ⟨n1, n2⟩ := G.at_bd st pe
  obtain ⟨n, hn⟩ : ∃ n, outAt st pe x.o = n := ⟨_, rfl⟩
  rw [hn] at n1 n2 ⊢
  clear b1 b2 G
  go_enter Try.func74, Try.ntmps74
  go_wp2_with fail
  generalize (((w.alloc (.cells #[.slice x.TA x.t.length x.tc, .slice x.OA x.o.length x.oc, .int .i64 x.got, .int .i64 x.sold, .int .i64 x.missed] 25)).alloc (.cells #[.int .i64 4, .int .i64 st, .int .i64 pe, .int .i64 va] 45)).alloc (.cells #[.slice none 0 0, .slice none 0 0, .int .i64 0, .int .i64 0, .int .i64 0] 25)) = W at L1 L2 L3 b3 ⊢
  have hR := h.up b3 (Nat.le_refl _)
  refine (l32Out_any x st pe W hR).mono ?_
  rintro e W1 ⟨rfl, hb1⟩
  rw [hn]
  have hR1 := hR.then hb1
  have L1a := L1.below hb1 L1.lt
  have L2a := L2.below hb1 L2.lt
  have L3a := L3.below hb1 L3.lt
  have b4 := b3.trans (hb1.mono b3.size)
  have hW0 : w.heap.size ≤ W1.heap.size := b4.size
  have hn := Lib.hid hn
  clear L1 L2 L3 b3 hb1 hR h
  have c0 := L1a.cell 0
  have c1 := L1a.cell 1
  have c2 := L1a.cell 2
  have c3 := L1a.cell 3
  have c4 := L1a.cell 4
  simp only [List.getElem?_cons_zero, List.getElem?_cons_succ] at c0 c1 c2 c3 c4
  have s0 := L2a.cell 0
  have s1 := L2a.cell 1
  have s2 := L2a.cell 2
  have s3 := L2a.cell 3
  simp only [List.getElem?_cons_zero, List.getElem?_cons_succ] at s0 s1 s2 s3

  obtain ⟨v1, v2⟩ := hva
  have i3 : IntKind.i64.wrap (n - va) = n - va := IntWalk.i64_in _ (by omega)
  have i4 : IntKind.i64.wrap (x.sold + va) = x.sold + va := IntWalk.i64_in _ (by omega)
  go_wp2_with fail
  refine (atX x st pe (n - va) W1 hR1 Sx hst hpe).mono ?_
  rintro e W2 ⟨v2, rfl, ⟨TA, tc, OA, oc, hv2, hT, hO⟩, hb2⟩
  have hv2 : v2 = .agg #[.slice TA x.t.length tc, .slice OA (atO st pe (n - va) x.o).length oc, .int .i64 x.got, .int .i64 x.sold, .int .i64 x.missed] := hv2
  subst hv2
  simp only at hT hO
  have hal := (Below.refl W2.heap.size W2).alloc (Nat.le_refl _) (.cells #[.slice TA x.t.length tc, .slice OA (atO st pe (n - va) x.o).length oc, .int .i64 x.got, .int .i64 x.sold, .int .i64 x.missed] 25)
  have L1b := (L1a.below hb2 L1a.lt).below hal (Nat.lt_of_lt_of_le L1a.lt hb2.size)
  have L2b := (L2a.below hb2 L2a.lt).below hal (Nat.lt_of_lt_of_le L2a.lt hb2.size)
  have L3b := (L3a.below hb2 L3a.lt).below hal (Nat.lt_of_lt_of_le L3a.lt hb2.size)
  have P := Lies.new W2 25 #[.slice TA x.t.length tc, .slice OA (atO st pe (n - va) x.o).length oc, .int .i64 x.got, .int .i64 x.sold, .int .i64 x.missed]
  have hT3 := ownsRow_lower (ownsRow_below hT hal) hW0
  have hO3 := ownsRow_lower (ownsRow_below hO hal) hW0
  have b5 := b4.trans ((bthen hb2 hal).mono b4.size)
  have hR5 := (hR1.then hb2).then hal
  have hgg : w.heap.size + 1 + 1 < W2.heap.size := Nat.lt_of_lt_of_le L3a.lt hb2.size
  clear c0 c1 c2 c3 c4 s0 s1 s2 s3
  obtain ⟨W3, hW3⟩ : ∃ W3, W2.alloc (.cells #[.slice TA x.t.length tc, .slice OA (atO st pe (n - va) x.o).length oc, .int .i64 x.got, .int .i64 x.sold, .int .i64 x.missed] 25) = W3 := ⟨_, rfl⟩
  rw [hW3] at L1b L2b L3b P hT3 hO3 b5 hR5
  generalize hg2 : W2.heap.size = g2 at P hgg
  have c0 := L1b.cell 0
  have c1 := L1b.cell 1
  have c2 := L1b.cell 2
  have c3 := L1b.cell 3
  have c4 := L1b.cell 4
  simp only [List.getElem?_cons_zero, List.getElem?_cons_succ] at c0 c1 c2 c3 c4
  have s0 := L2b.cell 0
  have s1 := L2b.cell 1
  have s2 := L2b.cell 2
  have s3 := L2b.cell 3
  simp only [List.getElem?_cons_zero, List.getElem?_cons_succ] at s0 s1 s2 s3
  have p0 := P.cell 0
  have p1 := P.cell 1
  have p2 := P.cell 2
  have p3 := P.cell 3
  have p4 := P.cell 4
  simp only [List.getElem?_cons_zero, List.getElem?_cons_succ] at p0 p1 p2 p3 p4
  have pf0 := P.frozen 0
  have pf1 := P.frozen 1
  have pf2 := P.frozen 2
  have pf3 := P.frozen 3
  have pf4 := P.frozen 4
  have P4 := P.set 3 (.int .i64 (x.sold + va))
  have L1c := L1b.other (p := ⟨g2, 3, none⟩) (by simp; omega) (.int .i64 (x.sold + va))
  have L2c := L2b.other (p := ⟨g2, 3, none⟩) (by simp; omega) (.int .i64 (x.sold + va))
  have L3c := L3b.other (p := ⟨g2, 3, none⟩) (by simp; omega) (.int .i64 (x.sold + va))
  have hT4 := ownsRow_setOther hT3 P ne_owt 3 (.int .i64 (x.sold + va))
  have hO4 := ownsRow_setOther hO3 P ne_owo 3 (.int .i64 (x.sold + va))
  have b6 := b5.setCell (p := ⟨g2, 3, none⟩) (show w.heap.size ≤ g2 by omega) (.int .i64 (x.sold + va))
  simp only [List.set_cons_zero, List.set_cons_succ] at P4
  obtain ⟨W4, hW4⟩ : ∃ W4, W3.setCell ⟨g2, 3, none⟩ (.int .i64 (x.sold + va)) = W4 := ⟨_, rfl⟩
  rw [hW4] at P4 L1c L2c L3c hT4 hO4 b6
  clear hR5 hb2 hal hT hO L1a L2a L3a b4 hR1
  go_wp2_with (first | (rw [hW3]; clear hW3; rw [hg2]) | (rw [hW4]; clear hW4))
  clear c0 c1 c2 c3 c4 s0 s1 s2 s3 p0 p1 p2 p3 p4 pf0 pf1 pf2 pf3 pf4

  obtain ⟨D1, hD1⟩ : ∃ D : World → Prop, D = (fun W9 => ∃ W8 TA tc OA oc, Below W4.heap.size W4 W8 ∧ W8.ownsRow w.heap.size 74 2 (.slice TA ((⟨x.t, atO st pe (n - va) x.o, x.got, x.sold + va, x.missed⟩ : Oc)).t.length tc) ((⟨x.t, atO st pe (n - va) x.o, x.got, x.sold + va, x.missed⟩ : Oc)).t.length (((⟨x.t, atO st pe (n - va) x.o, x.got, x.sold + va, x.missed⟩ : Oc)).t.flatMap Tray.enc) ∧ W8.ownsRow w.heap.size 100 3 (.slice OA ((⟨x.t, atO st pe (n - va) x.o, x.got, x.sold + va, x.missed⟩ : Oc)).o.length oc) ((⟨x.t, atO st pe (n - va) x.o, x.got, x.sold + va, x.missed⟩ : Oc)).o.length (((⟨x.t, atO st pe (n - va) x.o, x.got, x.sold + va, x.missed⟩ : Oc)).o.flatMap Outing.enc) ∧ W9 = stOff W8 (w.heap.size + 1 + 1) (.slice TA ((⟨x.t, atO st pe (n - va) x.o, x.got, x.sold + va, x.missed⟩ : Oc)).t.length tc) (.slice OA ((⟨x.t, atO st pe (n - va) x.o, x.got, x.sold + va, x.missed⟩ : Oc)).o.length oc) (.int .i64 ((⟨x.t, atO st pe (n - va) x.o, x.got, x.sold + va, x.missed⟩ : Oc)).got) (.int .i64 ((⟨x.t, atO st pe (n - va) x.o, x.got, x.sold + va, x.missed⟩ : Oc)).sold) (.int .i64 ((⟨x.t, atO st pe (n - va) x.o, x.got, x.sold + va, x.missed⟩ : Oc)).missed)) := ⟨_, rfl⟩
  have hDL : ∀ W, D1 W → ∃ W8 v0 v1 v2 v3 v4, Below W4.heap.size W4 W8 ∧ W = stOff W8 (w.heap.size + 1 + 1) v0 v1 v2 v3 v4 := by
    rw [hD1]
    rintro _ ⟨W8, TA, tc, OA, oc, hq, _, _, e⟩
    exact ⟨W8, _, _, _, _, _, hq, e⟩
  have HD1 := Lib.hid hD1; clear hD1
  refine wp_region_factsR (Sw 5 (fun W9 => Below W4.heap.size W4 W9) D1) (fun i w1 w2 => i ∉ [5] → Below w1.heap.size w1 w2) (by kernel_rfl) (by kernel_rfl) (by kernel_rfl) (Sw.start (Below.refl _ _).drew) ?_
  simp only [fillOps, Act.put, List.setIfInBounds_toArray, List.set_cons_zero, List.set_cons_succ, Nat.zero_add, Nat.reduceAdd]
  apply wpFactsR_val
  case h1 =>
    intro vs L9 w9 hG9 hC9 hB K9 hK9
    replace hC9 := hC9.before hG9 (by kernel_rfl)
    have q0 : w9.cell? ⟨g2, 0, none⟩ = some (.slice TA x.t.length tc) := (P4.below hC9 P4.lt).cell 0
    have q1 : w9.cell? ⟨g2, 1, none⟩ = some (.slice OA (atO st pe (n - va) x.o).length oc) := (P4.below hC9 P4.lt).cell 1
    have q2 : w9.cell? ⟨g2, 2, none⟩ = some (.int .i64 x.got) := (P4.below hC9 P4.lt).cell 2
    have q3 : w9.cell? ⟨g2, 3, none⟩ = some (.int .i64 (x.sold + va)) := (P4.below hC9 P4.lt).cell 3
    have q4 : w9.cell? ⟨g2, 4, none⟩ = some (.int .i64 x.missed) := (P4.below hC9 P4.lt).cell 4
    simp only [Act.put, List.setIfInBounds_toArray, List.set_cons_zero, List.set_cons_succ] at hK9
    go_simp
    exact hK9 _ _ rfl (Sw.stay hG9 (by kernel_rfl) (by decide) hC9) (fun _ => Below.refl _ _)
  apply wpFactsR_val
  case h1 =>
    intro vs L9 w9 hG9 hC9 hB K9 hK9
    simp only [Act.put, List.setIfInBounds_toArray, List.set_cons_zero, List.set_cons_succ] at hK9
    have HC9 := Lib.hid hC9
    clear hC9
    go_simp
    exact hK9 _ _ rfl (Sw.both (by decide) (fun h => h) (fun h => h) HC9.out) (fun _ => Below.refl _ _)
  apply wpFactsR_val
  case h1 =>
    intro vs L9 w9 hG9 hC9 hB K9 hK9
    simp only [Act.put, List.setIfInBounds_toArray, List.set_cons_zero, List.set_cons_succ] at hK9
    have HC9 := Lib.hid hC9
    clear hC9
    go_simp
    exact hK9 _ _ rfl (Sw.both (by decide) (fun h => h) (fun h => h) HC9.out) (fun _ => Below.refl _ _)
  apply wpFactsR_val
  case h1 =>
    intro vs L9 w9 hG9 hC9 hB K9 hK9
    have d2 := FactN.eq (hB 2 _ (by kernel_rfl) (by kernel_rfl) rfl (by decide))
    simp only [d2] at hK9 ⊢
    have q0 : w9.cell? ⟨(w.heap.size + 1), 3, none⟩ = some (.int .i64 va) := (hC9.lies hDL L2c (by omega)).cell 3
    simp only [Act.put, List.setIfInBounds_toArray, List.set_cons_zero, List.set_cons_succ] at hK9
    have HC9 := Lib.hid hC9
    clear hC9
    go_simp
    exact hK9 _ _ rfl (Sw.both (by decide) (fun h => h) (fun h => h) HC9.out) (fun _ => Below.refl _ _)
  apply wpFactsR_val
  case h1 =>
    intro vs L9 w9 hG9 hC9 hB K9 hK9
    have d1 := FactN.eq (hB 1 _ (by kernel_rfl) (by kernel_rfl) rfl (by decide))
    have d3 := FactN.eq (hB 3 _ (by kernel_rfl) (by kernel_rfl) rfl (by decide))
    simp only [d1, d3] at hK9 ⊢
    simp only [Act.put, List.setIfInBounds_toArray, List.set_cons_zero, List.set_cons_succ] at hK9
    have HC9 := Lib.hid hC9
    clear hC9
    go_simp
    exact hK9 _ _ rfl (Sw.both (by decide) (fun h => h) (fun h => h) HC9.out) (fun _ => Below.refl _ _)
  refine wpFactsR_val (undef) (fun vs L9 w9 hG9 hC9 hB K9 hK9 => ?hl5) ?rl5
  case hl5 =>
    replace hC9 := hC9.here hG9
    have d0 := FactN.eq (hB 0 _ (by kernel_rfl) (by kernel_rfl) rfl (by decide))
    simp only [d0] at hK9 ⊢
    have Lr := L3c.below hC9 L3c.lt
    have z0 := Lr.cell 0
    have z1 := Lr.cell 1
    have z2 := Lr.cell 2
    have z3 := Lr.cell 3
    have z4 := Lr.cell 4
    simp only [List.getElem?_cons_zero, List.getElem?_cons_succ] at z0 z1 z2 z3 z4
    have f0 := Lr.frozen 0
    have f1 := Lr.frozen 1
    have f2 := Lr.frozen 2
    have f3 := Lr.frozen 3
    have f4 := Lr.frozen 4
    clear Lr
    go_simp
    exact hK9 _ _ rfl (Sw.turn (by rw [HD1.out]; exact ⟨w9, TA, tc, OA, oc, hC9, ownsRow_below hT4 hC9, ownsRow_below hO4 hC9, rfl⟩)) (fun hq => (hq (by decide)).elim)
  apply wpFactsR_val
  case h1 =>
    intro vs L9 w9 hG9 hC9 hB K9 hK9
    replace hC9 := hC9.after hG9 (by kernel_rfl)
    have d4 := FactN.eq (hB 4 _ (by kernel_rfl) (by kernel_rfl) rfl (by decide))
    simp only [d4] at hK9 ⊢
    simp only [Act.put, List.setIfInBounds_toArray, List.set_cons_zero, List.set_cons_succ] at hK9
    go_simp
    exact hK9 _ _ rfl (Sw.on hG9 (by kernel_rfl) hC9) (fun _ => Below.refl _ _)
  refine wpFactsR_nil fun vs L9 w9 hL9 hC9 hB => ?_
  replace hC9 := hC9.done hL9 (by decide)
  have dl := FactN.eq (hB 6 _ rfl rfl (by decide))
  simp only [dl]
  clear hB dl
  rw [HD1.out] at hC9
  obtain ⟨W8, TA, tc, OA, oc, hb8, h1, h2, rfl⟩ := hC9
  have Lr := L3c.below hb8 L3c.lt
  have bz := (b6.trans (hb8.mono b6.size)).trans (stOff_below (v0 := .slice TA ((⟨x.t, atO st pe (n - va) x.o, x.got, x.sold + va, x.missed⟩ : Oc)).t.length tc) (v1 := .slice OA ((⟨x.t, atO st pe (n - va) x.o, x.got, x.sold + va, x.missed⟩ : Oc)).o.length oc) (v2 := .int .i64 ((⟨x.t, atO st pe (n - va) x.o, x.got, x.sold + va, x.missed⟩ : Oc)).got) (v3 := .int .i64 ((⟨x.t, atO st pe (n - va) x.o, x.got, x.sold + va, x.missed⟩ : Oc)).sold) (v4 := .int .i64 ((⟨x.t, atO st pe (n - va) x.o, x.got, x.sold + va, x.missed⟩ : Oc)).missed) Lr (show w.heap.size ≤ (w.heap.size + 1 + 1) by omega))
  have HT := Lib.hid (stOff_row (v0 := .slice TA ((⟨x.t, atO st pe (n - va) x.o, x.got, x.sold + va, x.missed⟩ : Oc)).t.length tc) (v1 := .slice OA ((⟨x.t, atO st pe (n - va) x.o, x.got, x.sold + va, x.missed⟩ : Oc)).o.length oc) (v2 := .int .i64 ((⟨x.t, atO st pe (n - va) x.o, x.got, x.sold + va, x.missed⟩ : Oc)).got) (v3 := .int .i64 ((⟨x.t, atO st pe (n - va) x.o, x.got, x.sold + va, x.missed⟩ : Oc)).sold) (v4 := .int .i64 ((⟨x.t, atO st pe (n - va) x.o, x.got, x.sold + va, x.missed⟩ : Oc)).missed) Lr h1 ne_owt)
  have HO := Lib.hid (stOff_row (v0 := .slice TA ((⟨x.t, atO st pe (n - va) x.o, x.got, x.sold + va, x.missed⟩ : Oc)).t.length tc) (v1 := .slice OA ((⟨x.t, atO st pe (n - va) x.o, x.got, x.sold + va, x.missed⟩ : Oc)).o.length oc) (v2 := .int .i64 ((⟨x.t, atO st pe (n - va) x.o, x.got, x.sold + va, x.missed⟩ : Oc)).got) (v3 := .int .i64 ((⟨x.t, atO st pe (n - va) x.o, x.got, x.sold + va, x.missed⟩ : Oc)).sold) (v4 := .int .i64 ((⟨x.t, atO st pe (n - va) x.o, x.got, x.sold + va, x.missed⟩ : Oc)).missed) Lr h2 ne_owo)
  have PR := stOff_is (v0 := .slice TA ((⟨x.t, atO st pe (n - va) x.o, x.got, x.sold + va, x.missed⟩ : Oc)).t.length tc) (v1 := .slice OA ((⟨x.t, atO st pe (n - va) x.o, x.got, x.sold + va, x.missed⟩ : Oc)).o.length oc) (v2 := .int .i64 ((⟨x.t, atO st pe (n - va) x.o, x.got, x.sold + va, x.missed⟩ : Oc)).got) (v3 := .int .i64 ((⟨x.t, atO st pe (n - va) x.o, x.got, x.sold + va, x.missed⟩ : Oc)).sold) (v4 := .int .i64 ((⟨x.t, atO st pe (n - va) x.o, x.got, x.sold + va, x.missed⟩ : Oc)).missed) Lr
  generalize stOff W8 (w.heap.size + 1 + 1) (.slice TA ((⟨x.t, atO st pe (n - va) x.o, x.got, x.sold + va, x.missed⟩ : Oc)).t.length tc) (.slice OA ((⟨x.t, atO st pe (n - va) x.o, x.got, x.sold + va, x.missed⟩ : Oc)).o.length oc) (.int .i64 ((⟨x.t, atO st pe (n - va) x.o, x.got, x.sold + va, x.missed⟩ : Oc)).got) (.int .i64 ((⟨x.t, atO st pe (n - va) x.o, x.got, x.sold + va, x.missed⟩ : Oc)).sold) (.int .i64 ((⟨x.t, atO st pe (n - va) x.o, x.got, x.sold + va, x.missed⟩ : Oc)).missed) = W9 at bz HT HO PR ⊢
  have k0 := PR.cell 0
  have k1 := PR.cell 1
  have k2 := PR.cell 2
  have k3 := PR.cell 3
  have k4 := PR.cell 4
  simp only [List.getElem?_cons_zero, List.getElem?_cons_succ] at k0 k1 k2 k3 k4
  clear h1 h2 Lr hb8 hL9 PR
  go_wp2
  refine bodyPost_ret (v := .tuple #[.agg #[.slice TA ((⟨x.t, atO st pe (n - va) x.o, x.got, x.sold + va, x.missed⟩ : Oc)).t.length tc, .slice OA ((⟨x.t, atO st pe (n - va) x.o, x.got, x.sold + va, x.missed⟩ : Oc)).o.length oc, .int .i64 ((⟨x.t, atO st pe (n - va) x.o, x.got, x.sold + va, x.missed⟩ : Oc)).got, .int .i64 ((⟨x.t, atO st pe (n - va) x.o, x.got, x.sold + va, x.missed⟩ : Oc)).sold, .int .i64 ((⟨x.t, atO st pe (n - va) x.o, x.got, x.sold + va, x.missed⟩ : Oc)).missed], .bool (decide (va ≤ n))]) (by simp [results, Try.results74, go_sem, *]) rfl ?_
  exact ⟨TA, tc, OA, oc, rfl, HT.out, HO.out, bz⟩
end Go.Proofs.Ytdiojhjkcholiaa
