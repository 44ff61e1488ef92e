/- Nc08: the texts SpecMakC SpecMakD SpecMakE SpecMake LawOffA OffMark OffLaw TryD OffHeld2 NewCon, joined into one file. -/
import Derived.Deep.RegionHeld3
import Derived.Test.YtdiojhjkcholiaaNc03
import Derived.Test.YtdiojhjkcholiaaNc05
import Derived.Test.YtdiojhjkcholiaaNc06
import Derived.Test.YtdiojhjkcholiaaNc07

/- A step in the reference: l32Make, sell0. (Printed by gen_specmake.py) -/
namespace Go.Proofs.Ytdiojhjkcholiaa
open Go.RowKit

set_option maxRecDepth 100000 in
set_option maxHeartbeats 4000000 in
theorem make_sell0 (x : Off) (st va : Int) (hst : 1 ≤ st ∧ st ≤ 99) (hva : 1 ≤ va ∧ va ≤ 9999) (ht : 0 ≤ trayIx x.t st) (w : World) (h : OffR w w.heap.size x) (G : Good x) (hcap : x.t.length ≤ x.tc) :
    Calls Try.prog 42 #[x.val, .agg #[.int .i64 4, .int .i64 st, .int .i64 0, .int .i64 va]] w (GivesMk w ((⟨inTrays x.t st (-va), x.o, x.got, x.sold + va, x.missed⟩ : Oc), ((⟨inTrays x.t st (-va), x.o, x.got, x.sold + va, x.missed⟩ : Oc)).good)) := by
  have L1 := ((Lies.new w 25 #[.slice x.TA x.t.length x.tc, .slice x.OA x.o.length x.oc, .int .i64 x.got, .int .i64 x.sold, .int .i64 x.missed]).alloc (.cells #[.int .i64 4, .int .i64 st, .int .i64 0, .int .i64 va] 45)).alloc (.cells #[.slice none 0 0, .slice none 0 0, .int .i64 0, .int .i64 0, .int .i64 0] 25)
  have L2 := (Lies.new1 w (.cells #[.slice x.TA x.t.length x.tc, .slice x.OA x.o.length x.oc, .int .i64 x.got, .int .i64 x.sold, .int .i64 x.missed] 25) 45 #[.int .i64 4, .int .i64 st, .int .i64 0, .int .i64 va]).alloc (.cells #[.slice none 0 0, .slice none 0 0, .int .i64 0, .int .i64 0, .int .i64 0] 25)
  have L3 := Lies.new2 w (.cells #[.slice x.TA x.t.length x.tc, .slice x.OA x.o.length x.oc, .int .i64 x.got, .int .i64 x.sold, .int .i64 x.missed] 25) (.cells #[.int .i64 4, .int .i64 st, .int .i64 0, .int .i64 va] 45) 25 #[.slice none 0 0, .slice none 0 0, .int .i64 0, .int .i64 0, .int .i64 0]
  have b1 := (Below.refl w.heap.size w).alloc (Nat.le_refl _) (.cells #[.slice x.TA x.t.length x.tc, .slice x.OA x.o.length x.oc, .int .i64 x.got, .int .i64 x.sold, .int .i64 x.missed] 25)
  have b2 := b1.alloc b1.size (.cells #[.int .i64 4, .int .i64 st, .int .i64 0, .int .i64 va] 45)
  have b3 := b2.alloc b2.size (.cells #[.slice none 0 0, .slice none 0 0, .int .i64 0, .int .i64 0, .int .i64 0] 25)
  have Sx := G.small
  have htl := G.tl
  have hol := G.ol
  have htc := G.tcs
  obtain ⟨m1, m2⟩ := G.m
  obtain ⟨g1, g2⟩ := G.s
  obtain ⟨o1, o2⟩ := G.g
  clear b1 b2 G
  obtain ⟨v1, v2⟩ := hva
  obtain ⟨gd, hgd⟩ : ∃ gd, ((⟨inTrays x.t st (-va), x.o, x.got, x.sold + va, x.missed⟩ : Oc)).good = gd := ⟨_, rfl⟩
  rw [hgd]
  have HG := Lib.hid hgd; clear hgd
  have i3 : IntKind.i64.wrap (-va) = -va := IntWalk.i64_in _ (by omega)
  have i4 : IntKind.i64.wrap (x.sold + va) = x.sold + va := IntWalk.i64_in _ (by omega)
  have htd : decide (trayIx x.t st < 0) = false := decide_eq_false (by omega)
  have HT0 := Lib.hid ht; clear ht
  go_enter Try.func42, Try.ntmps42
  go_wp2_with fail
  generalize (((w.alloc (.cells #[.slice x.TA x.t.length x.tc, .slice x.OA x.o.length x.oc, .int .i64 x.got, .int .i64 x.sold, .int .i64 x.missed] 25)).alloc (.cells #[.int .i64 4, .int .i64 st, .int .i64 0, .int .i64 va] 45)).alloc (.cells #[.slice none 0 0, .slice none 0 0, .int .i64 0, .int .i64 0, .int .i64 0] 25)) = W at L1 L2 L3 b3 ⊢
  have hR := h.up b3 (Nat.le_refl _)
  refine (l32Tray_any x st W hR).mono ?_
  rintro e W1 ⟨rfl, hb1⟩
  have hR1 := hR.then hb1
  have L1a := L1.below hb1 L1.lt
  have L2a := L2.below hb1 L2.lt
  have L3a := L3.below hb1 L3.lt
  have b4 := b3.trans (hb1.mono b3.size)
  have hW0 : w.heap.size ≤ W1.heap.size := b4.size
  clear L1 L2 L3 b3 hb1 hR h
  have c0 := L1a.cell 0
  have c1 := L1a.cell 1
  have c2 := L1a.cell 2
  have c3 := L1a.cell 3
  have c4 := L1a.cell 4
  simp only [List.getElem?_cons_zero, List.getElem?_cons_succ] at c0 c1 c2 c3 c4
  have s0 := L2a.cell 0
  have s1 := L2a.cell 1
  have s2 := L2a.cell 2
  have s3 := L2a.cell 3
  simp only [List.getElem?_cons_zero, List.getElem?_cons_succ] at s0 s1 s2 s3
  go_wp2_with fail

  refine (inX x st (-va) W1 hR1 Sx (by omega) hcap).mono ?_
  rintro e W2 ⟨v2, rfl, ⟨TA, tc, OA, oc, hv2, hT, hO⟩, hb2⟩
  have hv2 : v2 = .agg #[.slice TA (inTrays x.t st (-va)).length tc, .slice OA x.o.length oc, .int .i64 x.got, .int .i64 x.sold, .int .i64 x.missed] := hv2
  subst hv2
  simp only at hT hO
  have hal := (Below.refl W2.heap.size W2).alloc (Nat.le_refl _) (.cells #[.slice TA (inTrays x.t st (-va)).length tc, .slice OA x.o.length oc, .int .i64 x.got, .int .i64 x.sold, .int .i64 x.missed] 25)
  have L1b := (L1a.below hb2 L1a.lt).below hal (Nat.lt_of_lt_of_le L1a.lt hb2.size)
  have L2b := (L2a.below hb2 L2a.lt).below hal (Nat.lt_of_lt_of_le L2a.lt hb2.size)
  have L3b := (L3a.below hb2 L3a.lt).below hal (Nat.lt_of_lt_of_le L3a.lt hb2.size)
  have P := Lies.new W2 25 #[.slice TA (inTrays x.t st (-va)).length tc, .slice OA x.o.length oc, .int .i64 x.got, .int .i64 x.sold, .int .i64 x.missed]
  have hT3 := ownsRow_lower (ownsRow_below hT hal) hW0
  have hO3 := ownsRow_lower (ownsRow_below hO hal) hW0
  have b5 := b4.trans ((bthen hb2 hal).mono b4.size)
  have hgg : w.heap.size + 1 + 1 < W2.heap.size := Nat.lt_of_lt_of_le L3a.lt hb2.size
  clear c0 c1 c2 c3 c4 s0 s1 s2 s3
  obtain ⟨W3, hW3⟩ : ∃ W3, W2.alloc (.cells #[.slice TA (inTrays x.t st (-va)).length tc, .slice OA x.o.length oc, .int .i64 x.got, .int .i64 x.sold, .int .i64 x.missed] 25) = W3 := ⟨_, rfl⟩
  rw [hW3] at L1b L2b L3b P hT3 hO3 b5
  generalize hg2 : W2.heap.size = g2 at P hgg
  have c0 := L1b.cell 0
  have c1 := L1b.cell 1
  have c2 := L1b.cell 2
  have c3 := L1b.cell 3
  have c4 := L1b.cell 4
  simp only [List.getElem?_cons_zero, List.getElem?_cons_succ] at c0 c1 c2 c3 c4
  have s0 := L2b.cell 0
  have s1 := L2b.cell 1
  have s2 := L2b.cell 2
  have s3 := L2b.cell 3
  simp only [List.getElem?_cons_zero, List.getElem?_cons_succ] at s0 s1 s2 s3
  have p0 := P.cell 0
  have p1 := P.cell 1
  have p2 := P.cell 2
  have p3 := P.cell 3
  have p4 := P.cell 4
  simp only [List.getElem?_cons_zero, List.getElem?_cons_succ] at p0 p1 p2 p3 p4
  have pf0 := P.frozen 0
  have pf1 := P.frozen 1
  have pf2 := P.frozen 2
  have pf3 := P.frozen 3
  have pf4 := P.frozen 4
  have P4 := P.set 3 (.int .i64 (x.sold + va))
  have L1c := L1b.other (p := ⟨g2, 3, none⟩) (by simp; omega) (.int .i64 (x.sold + va))
  have L2c := L2b.other (p := ⟨g2, 3, none⟩) (by simp; omega) (.int .i64 (x.sold + va))
  have L3c := L3b.other (p := ⟨g2, 3, none⟩) (by simp; omega) (.int .i64 (x.sold + va))
  have hT4 := ownsRow_setOther hT3 P ne_owt 3 (.int .i64 (x.sold + va))
  have hO4 := ownsRow_setOther hO3 P ne_owo 3 (.int .i64 (x.sold + va))
  have b6 := b5.setCell (p := ⟨g2, 3, none⟩) (show w.heap.size ≤ g2 by omega) (.int .i64 (x.sold + va))
  simp only [List.set_cons_zero, List.set_cons_succ] at P4
  obtain ⟨W4, hW4⟩ : ∃ W4, W3.setCell ⟨g2, 3, none⟩ (.int .i64 (x.sold + va)) = W4 := ⟨_, rfl⟩
  rw [hW4] at P4 L1c L2c L3c hT4 hO4 b6
  clear hb2 hal hT hO L1a L2a L3a b4 hR1
  go_wp2_with (first | (rw [hW3]; clear hW3; rw [hg2]) | (rw [hW4]; clear hW4))
  clear c0 c1 c2 c3 c4 s0 s1 s2 s3 p0 p1 p2 p3 p4 pf0 pf1 pf2 pf3 pf4

  obtain ⟨D1, hD1⟩ : ∃ D : World → Prop, D = (fun W9 => ∃ W8 TA tc OA oc, Below W4.heap.size W4 W8 ∧ W8.ownsRow w.heap.size 74 2 (.slice TA ((⟨inTrays x.t st (-va), x.o, x.got, x.sold + va, x.missed⟩ : Oc)).t.length tc) ((⟨inTrays x.t st (-va), x.o, x.got, x.sold + va, x.missed⟩ : Oc)).t.length (((⟨inTrays x.t st (-va), x.o, x.got, x.sold + va, x.missed⟩ : Oc)).t.flatMap Tray.enc) ∧ W8.ownsRow w.heap.size 100 3 (.slice OA ((⟨inTrays x.t st (-va), x.o, x.got, x.sold + va, x.missed⟩ : Oc)).o.length oc) ((⟨inTrays x.t st (-va), x.o, x.got, x.sold + va, x.missed⟩ : Oc)).o.length (((⟨inTrays x.t st (-va), x.o, x.got, x.sold + va, x.missed⟩ : Oc)).o.flatMap Outing.enc) ∧ W9 = stOff W8 (w.heap.size + 1 + 1) (.slice TA ((⟨inTrays x.t st (-va), x.o, x.got, x.sold + va, x.missed⟩ : Oc)).t.length tc) (.slice OA ((⟨inTrays x.t st (-va), x.o, x.got, x.sold + va, x.missed⟩ : Oc)).o.length oc) (.int .i64 ((⟨inTrays x.t st (-va), x.o, x.got, x.sold + va, x.missed⟩ : Oc)).got) (.int .i64 ((⟨inTrays x.t st (-va), x.o, x.got, x.sold + va, x.missed⟩ : Oc)).sold) (.int .i64 ((⟨inTrays x.t st (-va), x.o, x.got, x.sold + va, x.missed⟩ : Oc)).missed)) := ⟨_, rfl⟩
  have hDL : ∀ W, D1 W → ∃ W8 v0 v1 v2 v3 v4, Below W4.heap.size W4 W8 ∧ W = stOff W8 (w.heap.size + 1 + 1) v0 v1 v2 v3 v4 := by
    rw [hD1]
    rintro _ ⟨W8, TA, tc, OA, oc, hq, _, _, e⟩
    exact ⟨W8, _, _, _, _, _, hq, e⟩
  have HD1 := Lib.hid hD1; clear hD1
  refine wp_region_factsR (Sw 3 (fun W9 => Below W4.heap.size W4 W9) D1) (fun i w1 w2 => i ∉ [3] → Below w1.heap.size w1 w2) (by kernel_rfl) (by kernel_rfl) (by kernel_rfl) (Sw.start (Below.refl _ _).drew) ?_
  simp only [fillOps, Act.put, List.setIfInBounds_toArray, List.set_cons_zero, List.set_cons_succ, Nat.zero_add, Nat.reduceAdd]
  apply wpFactsR_val
  case h1 =>
    intro vs L9 w9 hG9 hC9 hB K9 hK9
    replace hC9 := hC9.before hG9 (by kernel_rfl)
    have q0 : w9.cell? ⟨g2, 0, none⟩ = some (.slice TA (inTrays x.t st (-va)).length tc) := (P4.below hC9 P4.lt).cell 0
    have q1 : w9.cell? ⟨g2, 1, none⟩ = some (.slice OA x.o.length oc) := (P4.below hC9 P4.lt).cell 1
    have q2 : w9.cell? ⟨g2, 2, none⟩ = some (.int .i64 x.got) := (P4.below hC9 P4.lt).cell 2
    have q3 : w9.cell? ⟨g2, 3, none⟩ = some (.int .i64 (x.sold + va)) := (P4.below hC9 P4.lt).cell 3
    have q4 : w9.cell? ⟨g2, 4, none⟩ = some (.int .i64 x.missed) := (P4.below hC9 P4.lt).cell 4
    simp only [Act.put, List.setIfInBounds_toArray, List.set_cons_zero, List.set_cons_succ] at hK9
    go_simp
    exact hK9 _ _ rfl (Sw.stay hG9 (by kernel_rfl) (by decide) hC9) (fun _ => Below.refl _ _)
  apply wpFactsR_val
  case h1 =>
    intro vs L9 w9 hG9 hC9 hB K9 hK9
    replace hC9 := hC9.before hG9 (by kernel_rfl)
    have q0 : w9.cell? ⟨g2, 0, none⟩ = some (.slice TA (inTrays x.t st (-va)).length tc) := (P4.below hC9 P4.lt).cell 0
    have q1 : w9.cell? ⟨g2, 1, none⟩ = some (.slice OA x.o.length oc) := (P4.below hC9 P4.lt).cell 1
    have q2 : w9.cell? ⟨g2, 2, none⟩ = some (.int .i64 x.got) := (P4.below hC9 P4.lt).cell 2
    have q3 : w9.cell? ⟨g2, 3, none⟩ = some (.int .i64 (x.sold + va)) := (P4.below hC9 P4.lt).cell 3
    have q4 : w9.cell? ⟨g2, 4, none⟩ = some (.int .i64 x.missed) := (P4.below hC9 P4.lt).cell 4
    simp only [Act.put, List.setIfInBounds_toArray, List.set_cons_zero, List.set_cons_succ] at hK9
    go_simp
    exact hK9 _ _ rfl (Sw.stay hG9 (by kernel_rfl) (by decide) hC9) (fun _ => Below.refl _ _)
  apply wpFactsR_val
  case h1 =>
    intro vs L9 w9 hG9 hC9 hB K9 hK9
    replace hC9 := hC9.before hG9 (by kernel_rfl)
    have d1 := FactN.eq (hB 1 _ (by kernel_rfl) (by kernel_rfl) rfl (by decide))
    simp only [d1] at hK9 ⊢
    simp only [Act.put, List.setIfInBounds_toArray, List.set_cons_zero, List.set_cons_succ] at hK9
    go_simp
    refine (show Calls _ _ _ _ (fun e w' => e = .returned (.bool gd) ∧ Below w9.heap.size w9 w') from by rw [← HG.out]; exact goodV (show OwnV w9 w.heap.size (⟨inTrays x.t st (-va), x.o, x.got, x.sold + va, x.missed⟩ : Oc) _ from ⟨TA, tc, OA, oc, rfl, ownsRow_below hT4 hC9, ownsRow_below hO4 hC9⟩)).mono ?_
    rintro en w8 ⟨rfl, hb8⟩
    exact hK9 _ _ rfl (Sw.stay hG9 (by kernel_rfl) (by decide) (hC9.trans (hb8.mono hC9.size))) (fun _ => hb8)
  refine wpFactsR_val (undef) (fun vs L9 w9 hG9 hC9 hB K9 hK9 => ?he3) ?re3
  case he3 =>
    replace hC9 := hC9.here hG9
    have d0 := FactN.eq (hB 0 _ (by kernel_rfl) (by kernel_rfl) rfl (by decide))
    simp only [d0] at hK9 ⊢
    have Lr := L3c.below hC9 L3c.lt
    have z0 := Lr.cell 0
    have z1 := Lr.cell 1
    have z2 := Lr.cell 2
    have z3 := Lr.cell 3
    have z4 := Lr.cell 4
    simp only [List.getElem?_cons_zero, List.getElem?_cons_succ] at z0 z1 z2 z3 z4
    have f0 := Lr.frozen 0
    have f1 := Lr.frozen 1
    have f2 := Lr.frozen 2
    have f3 := Lr.frozen 3
    have f4 := Lr.frozen 4
    clear Lr
    go_simp
    exact hK9 _ _ rfl (Sw.turn (by rw [HD1.out]; exact ⟨w9, TA, tc, OA, oc, hC9, ownsRow_below hT4 hC9, ownsRow_below hO4 hC9, rfl⟩)) (fun hq => (hq (by decide)).elim)
  apply wpFactsR_val
  case h1 =>
    intro vs L9 w9 hG9 hC9 hB K9 hK9
    replace hC9 := hC9.after hG9 (by kernel_rfl)
    have d2 := FactN.eq (hB 2 _ (by kernel_rfl) (by kernel_rfl) rfl (by decide))
    simp only [d2] at hK9 ⊢
    simp only [Act.put, List.setIfInBounds_toArray, List.set_cons_zero, List.set_cons_succ] at hK9
    go_simp
    exact hK9 _ _ rfl (Sw.on hG9 (by kernel_rfl) hC9) (fun _ => Below.refl _ _)
  refine wpFactsR_nil fun vs L9 w9 hL9 hC9 hB => ?_
  replace hC9 := hC9.done hL9 (by decide)
  have dl := FactN.eq (hB 4 _ rfl rfl (by decide))
  simp only [dl]
  clear hB dl
  rw [HD1.out] at hC9
  obtain ⟨W8, TA, tc, OA, oc, hb8, h1, h2, rfl⟩ := hC9
  have Lr := L3c.below hb8 L3c.lt
  have bz := (b6.trans (hb8.mono b6.size)).trans (stOff_below (v0 := .slice TA ((⟨inTrays x.t st (-va), x.o, x.got, x.sold + va, x.missed⟩ : Oc)).t.length tc) (v1 := .slice OA ((⟨inTrays x.t st (-va), x.o, x.got, x.sold + va, x.missed⟩ : Oc)).o.length oc) (v2 := .int .i64 ((⟨inTrays x.t st (-va), x.o, x.got, x.sold + va, x.missed⟩ : Oc)).got) (v3 := .int .i64 ((⟨inTrays x.t st (-va), x.o, x.got, x.sold + va, x.missed⟩ : Oc)).sold) (v4 := .int .i64 ((⟨inTrays x.t st (-va), x.o, x.got, x.sold + va, x.missed⟩ : Oc)).missed) Lr (show w.heap.size ≤ (w.heap.size + 1 + 1) by omega))
  have HT := Lib.hid (stOff_row (v0 := .slice TA ((⟨inTrays x.t st (-va), x.o, x.got, x.sold + va, x.missed⟩ : Oc)).t.length tc) (v1 := .slice OA ((⟨inTrays x.t st (-va), x.o, x.got, x.sold + va, x.missed⟩ : Oc)).o.length oc) (v2 := .int .i64 ((⟨inTrays x.t st (-va), x.o, x.got, x.sold + va, x.missed⟩ : Oc)).got) (v3 := .int .i64 ((⟨inTrays x.t st (-va), x.o, x.got, x.sold + va, x.missed⟩ : Oc)).sold) (v4 := .int .i64 ((⟨inTrays x.t st (-va), x.o, x.got, x.sold + va, x.missed⟩ : Oc)).missed) Lr h1 ne_owt)
  have HO := Lib.hid (stOff_row (v0 := .slice TA ((⟨inTrays x.t st (-va), x.o, x.got, x.sold + va, x.missed⟩ : Oc)).t.length tc) (v1 := .slice OA ((⟨inTrays x.t st (-va), x.o, x.got, x.sold + va, x.missed⟩ : Oc)).o.length oc) (v2 := .int .i64 ((⟨inTrays x.t st (-va), x.o, x.got, x.sold + va, x.missed⟩ : Oc)).got) (v3 := .int .i64 ((⟨inTrays x.t st (-va), x.o, x.got, x.sold + va, x.missed⟩ : Oc)).sold) (v4 := .int .i64 ((⟨inTrays x.t st (-va), x.o, x.got, x.sold + va, x.missed⟩ : Oc)).missed) Lr h2 ne_owo)
  have PR := stOff_is (v0 := .slice TA ((⟨inTrays x.t st (-va), x.o, x.got, x.sold + va, x.missed⟩ : Oc)).t.length tc) (v1 := .slice OA ((⟨inTrays x.t st (-va), x.o, x.got, x.sold + va, x.missed⟩ : Oc)).o.length oc) (v2 := .int .i64 ((⟨inTrays x.t st (-va), x.o, x.got, x.sold + va, x.missed⟩ : Oc)).got) (v3 := .int .i64 ((⟨inTrays x.t st (-va), x.o, x.got, x.sold + va, x.missed⟩ : Oc)).sold) (v4 := .int .i64 ((⟨inTrays x.t st (-va), x.o, x.got, x.sold + va, x.missed⟩ : Oc)).missed) Lr
  generalize stOff W8 (w.heap.size + 1 + 1) (.slice TA ((⟨inTrays x.t st (-va), x.o, x.got, x.sold + va, x.missed⟩ : Oc)).t.length tc) (.slice OA ((⟨inTrays x.t st (-va), x.o, x.got, x.sold + va, x.missed⟩ : Oc)).o.length oc) (.int .i64 ((⟨inTrays x.t st (-va), x.o, x.got, x.sold + va, x.missed⟩ : Oc)).got) (.int .i64 ((⟨inTrays x.t st (-va), x.o, x.got, x.sold + va, x.missed⟩ : Oc)).sold) (.int .i64 ((⟨inTrays x.t st (-va), x.o, x.got, x.sold + va, x.missed⟩ : Oc)).missed) = W9 at bz HT HO PR ⊢
  have k0 := PR.cell 0
  have k1 := PR.cell 1
  have k2 := PR.cell 2
  have k3 := PR.cell 3
  have k4 := PR.cell 4
  simp only [List.getElem?_cons_zero, List.getElem?_cons_succ] at k0 k1 k2 k3 k4
  clear h1 h2 Lr hb8 hL9 PR
  go_wp2
  refine bodyPost_ret (v := .tuple #[.agg #[.slice TA ((⟨inTrays x.t st (-va), x.o, x.got, x.sold + va, x.missed⟩ : Oc)).t.length tc, .slice OA ((⟨inTrays x.t st (-va), x.o, x.got, x.sold + va, x.missed⟩ : Oc)).o.length oc, .int .i64 ((⟨inTrays x.t st (-va), x.o, x.got, x.sold + va, x.missed⟩ : Oc)).got, .int .i64 ((⟨inTrays x.t st (-va), x.o, x.got, x.sold + va, x.missed⟩ : Oc)).sold, .int .i64 ((⟨inTrays x.t st (-va), x.o, x.got, x.sold + va, x.missed⟩ : Oc)).missed], .bool gd]) (by simp [results, Try.results42, go_sem, *]) rfl ?_
  exact ⟨TA, tc, OA, oc, rfl, HT.out, HO.out, bz⟩
end Go.Proofs.Ytdiojhjkcholiaa

/- A step in the reference: l32Make, yes. (Printed by gen_specmake.py) -/
namespace Go.Proofs.Ytdiojhjkcholiaa
open Go.RowKit

set_option maxRecDepth 100000 in
set_option maxHeartbeats 4000000 in
theorem make_person_yes (x : Off) (kd st pe va : Int) (r : Oc) (hk : (kd == 1) = false) (hpe : 1 ≤ pe) (ht : 0 ≤ trayIx x.t st) (w : World) (h : OffR w w.heap.size x) (G : Good x) (hcap : x.t.length ≤ x.tc)
    (hP : ∀ W, OffR W W.heap.size x → Calls Try.prog 74 #[x.val, .agg #[.int .i64 kd, .int .i64 st, .int .i64 pe, .int .i64 va]] W (GivesMk W (r, true))) :
    Calls Try.prog 42 #[x.val, .agg #[.int .i64 kd, .int .i64 st, .int .i64 pe, .int .i64 va]] w (GivesMk w (r, r.good)) := by
  have L1 := ((Lies.new w 25 #[.slice x.TA x.t.length x.tc, .slice x.OA x.o.length x.oc, .int .i64 x.got, .int .i64 x.sold, .int .i64 x.missed]).alloc (.cells #[.int .i64 kd, .int .i64 st, .int .i64 pe, .int .i64 va] 45)).alloc (.cells #[.slice none 0 0, .slice none 0 0, .int .i64 0, .int .i64 0, .int .i64 0] 25)
  have L2 := (Lies.new1 w (.cells #[.slice x.TA x.t.length x.tc, .slice x.OA x.o.length x.oc, .int .i64 x.got, .int .i64 x.sold, .int .i64 x.missed] 25) 45 #[.int .i64 kd, .int .i64 st, .int .i64 pe, .int .i64 va]).alloc (.cells #[.slice none 0 0, .slice none 0 0, .int .i64 0, .int .i64 0, .int .i64 0] 25)
  have L3 := Lies.new2 w (.cells #[.slice x.TA x.t.length x.tc, .slice x.OA x.o.length x.oc, .int .i64 x.got, .int .i64 x.sold, .int .i64 x.missed] 25) (.cells #[.int .i64 kd, .int .i64 st, .int .i64 pe, .int .i64 va] 45) 25 #[.slice none 0 0, .slice none 0 0, .int .i64 0, .int .i64 0, .int .i64 0]
  have b1 := (Below.refl w.heap.size w).alloc (Nat.le_refl _) (.cells #[.slice x.TA x.t.length x.tc, .slice x.OA x.o.length x.oc, .int .i64 x.got, .int .i64 x.sold, .int .i64 x.missed] 25)
  have b2 := b1.alloc b1.size (.cells #[.int .i64 kd, .int .i64 st, .int .i64 pe, .int .i64 va] 45)
  have b3 := b2.alloc b2.size (.cells #[.slice none 0 0, .slice none 0 0, .int .i64 0, .int .i64 0, .int .i64 0] 25)
  have Sx := G.small
  have htl := G.tl
  have hol := G.ol
  have htc := G.tcs
  obtain ⟨m1, m2⟩ := G.m
  obtain ⟨g1, g2⟩ := G.s
  obtain ⟨o1, o2⟩ := G.g
  clear b1 b2 G
  have hpd : (pe == (0 : Int)) = false := by simp; omega
  clear hpe
  have htd : decide (trayIx x.t st < 0) = false := decide_eq_false (by omega)
  have HT0 := Lib.hid ht; clear ht
  obtain ⟨gd, hgd⟩ : ∃ gd, (r).good = gd := ⟨_, rfl⟩
  rw [hgd]
  have HG := Lib.hid hgd; clear hgd
  go_enter Try.func42, Try.ntmps42
  go_wp2_with fail
  generalize (((w.alloc (.cells #[.slice x.TA x.t.length x.tc, .slice x.OA x.o.length x.oc, .int .i64 x.got, .int .i64 x.sold, .int .i64 x.missed] 25)).alloc (.cells #[.int .i64 kd, .int .i64 st, .int .i64 pe, .int .i64 va] 45)).alloc (.cells #[.slice none 0 0, .slice none 0 0, .int .i64 0, .int .i64 0, .int .i64 0] 25)) = W at L1 L2 L3 b3 ⊢
  have hR := h.up b3 (Nat.le_refl _)
  refine (l32Tray_any x st W hR).mono ?_
  rintro e W1 ⟨rfl, hb1⟩
  have hR1 := hR.then hb1
  have L1a := L1.below hb1 L1.lt
  have L2a := L2.below hb1 L2.lt
  have L3a := L3.below hb1 L3.lt
  have b4 := b3.trans (hb1.mono b3.size)
  have hW0 : w.heap.size ≤ W1.heap.size := b4.size
  clear L1 L2 L3 b3 hb1 hR h
  have c0 := L1a.cell 0
  have c1 := L1a.cell 1
  have c2 := L1a.cell 2
  have c3 := L1a.cell 3
  have c4 := L1a.cell 4
  simp only [List.getElem?_cons_zero, List.getElem?_cons_succ] at c0 c1 c2 c3 c4
  have s0 := L2a.cell 0
  have s1 := L2a.cell 1
  have s2 := L2a.cell 2
  have s3 := L2a.cell 3
  simp only [List.getElem?_cons_zero, List.getElem?_cons_succ] at s0 s1 s2 s3
  go_wp2_with fail

  refine (hP W1 hR1).mono ?_
  rintro e W2 ⟨TA, tc, OA, oc, rfl, hT, hO, hb2⟩
  simp only at hT hO
  have hal := (Below.refl W2.heap.size W2).alloc (Nat.le_refl _) (.cells #[.slice TA r.t.length tc, .slice OA r.o.length oc, .int .i64 r.got, .int .i64 r.sold, .int .i64 r.missed] 25)
  have L3b := (L3a.below hb2 L3a.lt).below hal (Nat.lt_of_lt_of_le L3a.lt hb2.size)
  have P4 := Lies.new W2 25 #[.slice TA r.t.length tc, .slice OA r.o.length oc, .int .i64 r.got, .int .i64 r.sold, .int .i64 r.missed]
  have hT4 := ownsRow_lower (ownsRow_below hT hal) hW0
  have hO4 := ownsRow_lower (ownsRow_below hO hal) hW0
  have b6 := b4.trans ((bthen hb2 hal).mono b4.size)
  have hgg : w.heap.size + 1 + 1 < W2.heap.size := Nat.lt_of_lt_of_le L3a.lt hb2.size
  clear c0 c1 c2 c3 c4 s0 s1 s2 s3
  have L3c := L3b
  clear hb2 hal hT hO L1a L2a L3a b4 hR1 L3b hP
  obtain ⟨W4, hW4⟩ : ∃ W4, W2.alloc (.cells #[.slice TA r.t.length tc, .slice OA r.o.length oc, .int .i64 r.got, .int .i64 r.sold, .int .i64 r.missed] 25) = W4 := ⟨_, rfl⟩
  rw [hW4] at L3c P4 hT4 hO4 b6
  generalize hg2 : W2.heap.size = g2 at P4 hgg
  go_wp2_with (rw [hW4]; clear hW4; rw [hg2])

  obtain ⟨D1, hD1⟩ : ∃ D : World → Prop, D = (fun W9 => ∃ W8 TA tc OA oc, Below W4.heap.size W4 W8 ∧ W8.ownsRow w.heap.size 74 2 (.slice TA (r).t.length tc) (r).t.length ((r).t.flatMap Tray.enc) ∧ W8.ownsRow w.heap.size 100 3 (.slice OA (r).o.length oc) (r).o.length ((r).o.flatMap Outing.enc) ∧ W9 = stOff W8 (w.heap.size + 1 + 1) (.slice TA (r).t.length tc) (.slice OA (r).o.length oc) (.int .i64 (r).got) (.int .i64 (r).sold) (.int .i64 (r).missed)) := ⟨_, rfl⟩
  have hDL : ∀ W, D1 W → ∃ W8 v0 v1 v2 v3 v4, Below W4.heap.size W4 W8 ∧ W = stOff W8 (w.heap.size + 1 + 1) v0 v1 v2 v3 v4 := by
    rw [hD1]
    rintro _ ⟨W8, TA, tc, OA, oc, hq, _, _, e⟩
    exact ⟨W8, _, _, _, _, _, hq, e⟩
  have HD1 := Lib.hid hD1; clear hD1
  refine wp_region_factsR (Sw 6 (fun W9 => Below W4.heap.size W4 W9) D1) (fun i w1 w2 => i ∉ [6] → Below w1.heap.size w1 w2) (by kernel_rfl) (by kernel_rfl) (by kernel_rfl) (Sw.start (Below.refl _ _).drew) ?_
  simp only [fillOps, Act.put, List.setIfInBounds_toArray, List.set_cons_zero, List.set_cons_succ, Nat.zero_add, Nat.reduceAdd]
  apply wpFactsR_val
  case h1 =>
    intro vs L9 w9 hG9 hC9 hB K9 hK9
    replace hC9 := hC9.before hG9 (by kernel_rfl)
    have q0 : w9.cell? ⟨g2, 0, none⟩ = some (.slice TA r.t.length tc) := (P4.below hC9 P4.lt).cell 0
    have q1 : w9.cell? ⟨g2, 1, none⟩ = some (.slice OA r.o.length oc) := (P4.below hC9 P4.lt).cell 1
    have q2 : w9.cell? ⟨g2, 2, none⟩ = some (.int .i64 r.got) := (P4.below hC9 P4.lt).cell 2
    have q3 : w9.cell? ⟨g2, 3, none⟩ = some (.int .i64 r.sold) := (P4.below hC9 P4.lt).cell 3
    have q4 : w9.cell? ⟨g2, 4, none⟩ = some (.int .i64 r.missed) := (P4.below hC9 P4.lt).cell 4
    simp only [Act.put, List.setIfInBounds_toArray, List.set_cons_zero, List.set_cons_succ] at hK9
    go_simp
    exact hK9 _ _ rfl (Sw.stay hG9 (by kernel_rfl) (by decide) hC9) (fun _ => Below.refl _ _)
  apply wpFactsR_val
  case h1 =>
    intro vs L9 w9 hG9 hC9 hB K9 hK9
    replace hC9 := hC9.before hG9 (by kernel_rfl)
    simp only [Act.put, List.setIfInBounds_toArray, List.set_cons_zero, List.set_cons_succ] at hK9
    go_simp
    exact hK9 _ _ rfl (Sw.stay hG9 (by kernel_rfl) (by decide) hC9) (fun _ => Below.refl _ _)
  apply wpFactsR_val
  case h1 =>
    intro vs L9 w9 hG9 hC9 hB K9 hK9
    replace hC9 := hC9.before hG9 (by kernel_rfl)
    have d1 := FactN.eq (hB 1 _ (by kernel_rfl) (by kernel_rfl) rfl (by decide))
    simp only [d1] at hK9 ⊢
    simp only [Act.put, List.setIfInBounds_toArray, List.set_cons_zero, List.set_cons_succ] at hK9
    go_simp
    exact hK9 _ _ rfl (Sw.stay hG9 (by kernel_rfl) (by decide) hC9) (fun _ => Below.refl _ _)
  apply wpFactsR_val
  case h1 =>
    intro vs L9 w9 hG9 hC9 hB K9 hK9
    replace hC9 := hC9.before hG9 (by kernel_rfl)
    have d2 := FactN.eq (hB 2 _ (by kernel_rfl) (by kernel_rfl) rfl (by decide))
    simp only [d2] at hK9 ⊢
    have q0 : w9.cell? ⟨g2, 0, none⟩ = some (.slice TA r.t.length tc) := (P4.below hC9 P4.lt).cell 0
    have q1 : w9.cell? ⟨g2, 1, none⟩ = some (.slice OA r.o.length oc) := (P4.below hC9 P4.lt).cell 1
    have q2 : w9.cell? ⟨g2, 2, none⟩ = some (.int .i64 r.got) := (P4.below hC9 P4.lt).cell 2
    have q3 : w9.cell? ⟨g2, 3, none⟩ = some (.int .i64 r.sold) := (P4.below hC9 P4.lt).cell 3
    have q4 : w9.cell? ⟨g2, 4, none⟩ = some (.int .i64 r.missed) := (P4.below hC9 P4.lt).cell 4
    simp only [Act.put, List.setIfInBounds_toArray, List.set_cons_zero, List.set_cons_succ] at hK9
    go_simp
    exact hK9 _ _ rfl (Sw.stay hG9 (by kernel_rfl) (by decide) hC9) (fun _ => Below.refl _ _)
  apply wpFactsR_val
  case h1 =>
    intro vs L9 w9 hG9 hC9 hB K9 hK9
    replace hC9 := hC9.before hG9 (by kernel_rfl)
    have d3 := FactN.eq (hB 3 _ (by kernel_rfl) (by kernel_rfl) rfl (by decide))
    have d2 := FactN.eq (hB 2 _ (by kernel_rfl) (by kernel_rfl) rfl (by decide))
    simp only [d3, d2] at hK9 ⊢
    simp only [Act.put, List.setIfInBounds_toArray, List.set_cons_zero, List.set_cons_succ] at hK9
    go_simp
    refine (show Calls _ _ _ _ (fun e w' => e = .returned (.bool gd) ∧ Below w9.heap.size w9 w') from by rw [← HG.out]; exact goodV (show OwnV w9 w.heap.size r _ from ⟨TA, tc, OA, oc, rfl, ownsRow_below hT4 hC9, ownsRow_below hO4 hC9⟩)).mono ?_
    rintro en w8 ⟨rfl, hb8⟩
    exact hK9 _ _ rfl (Sw.stay hG9 (by kernel_rfl) (by decide) (hC9.trans (hb8.mono hC9.size))) (fun _ => hb8)
  apply wpFactsR_val
  case h1 =>
    intro vs L9 w9 hG9 hC9 hB K9 hK9
    have d2 := FactN.eq (hB 2 _ (by kernel_rfl) (by kernel_rfl) rfl (by decide))
    have d4 := FactN.eq (hB 4 _ (by kernel_rfl) (by kernel_rfl) rfl (by decide))
    simp only [d2, d4] at hK9 ⊢
    simp only [Act.put, List.setIfInBounds_toArray, List.set_cons_zero, List.set_cons_succ] at hK9
    have HC9 := Lib.hid hC9
    clear hC9
    go_simp
    exact hK9 _ _ rfl (Sw.both (by decide) (fun h => h) (fun h => h) HC9.out) (fun _ => Below.refl _ _)
  refine wpFactsR_val (undef) (fun vs L9 w9 hG9 hC9 hB K9 hK9 => ?hq6) ?rq6
  case hq6 =>
    replace hC9 := hC9.here hG9
    have d0 := FactN.eq (hB 0 _ (by kernel_rfl) (by kernel_rfl) rfl (by decide))
    simp only [d0] at hK9 ⊢
    have Lr := L3c.below hC9 L3c.lt
    have z0 := Lr.cell 0
    have z1 := Lr.cell 1
    have z2 := Lr.cell 2
    have z3 := Lr.cell 3
    have z4 := Lr.cell 4
    simp only [List.getElem?_cons_zero, List.getElem?_cons_succ] at z0 z1 z2 z3 z4
    have f0 := Lr.frozen 0
    have f1 := Lr.frozen 1
    have f2 := Lr.frozen 2
    have f3 := Lr.frozen 3
    have f4 := Lr.frozen 4
    clear Lr
    go_simp
    exact hK9 _ _ rfl (Sw.turn (by rw [HD1.out]; exact ⟨w9, TA, tc, OA, oc, hC9, ownsRow_below hT4 hC9, ownsRow_below hO4 hC9, rfl⟩)) (fun hq => (hq (by decide)).elim)
  apply wpFactsR_val
  case h1 =>
    intro vs L9 w9 hG9 hC9 hB K9 hK9
    replace hC9 := hC9.after hG9 (by kernel_rfl)
    have d5 := FactN.eq (hB 5 _ (by kernel_rfl) (by kernel_rfl) rfl (by decide))
    simp only [d5] at hK9 ⊢
    simp only [Act.put, List.setIfInBounds_toArray, List.set_cons_zero, List.set_cons_succ] at hK9
    go_simp
    exact hK9 _ _ rfl (Sw.on hG9 (by kernel_rfl) hC9) (fun _ => Below.refl _ _)
  refine wpFactsR_nil fun vs L9 w9 hL9 hC9 hB => ?_
  replace hC9 := hC9.done hL9 (by decide)
  have dl := FactN.eq (hB 7 _ rfl rfl (by decide))
  simp only [dl]
  clear hB dl
  rw [HD1.out] at hC9
  obtain ⟨W8, TA, tc, OA, oc, hb8, h1, h2, rfl⟩ := hC9
  have Lr := L3c.below hb8 L3c.lt
  have bz := (b6.trans (hb8.mono b6.size)).trans (stOff_below (v0 := .slice TA (r).t.length tc) (v1 := .slice OA (r).o.length oc) (v2 := .int .i64 (r).got) (v3 := .int .i64 (r).sold) (v4 := .int .i64 (r).missed) Lr (show w.heap.size ≤ (w.heap.size + 1 + 1) by omega))
  have HT := Lib.hid (stOff_row (v0 := .slice TA (r).t.length tc) (v1 := .slice OA (r).o.length oc) (v2 := .int .i64 (r).got) (v3 := .int .i64 (r).sold) (v4 := .int .i64 (r).missed) Lr h1 ne_owt)
  have HO := Lib.hid (stOff_row (v0 := .slice TA (r).t.length tc) (v1 := .slice OA (r).o.length oc) (v2 := .int .i64 (r).got) (v3 := .int .i64 (r).sold) (v4 := .int .i64 (r).missed) Lr h2 ne_owo)
  have PR := stOff_is (v0 := .slice TA (r).t.length tc) (v1 := .slice OA (r).o.length oc) (v2 := .int .i64 (r).got) (v3 := .int .i64 (r).sold) (v4 := .int .i64 (r).missed) Lr
  generalize stOff W8 (w.heap.size + 1 + 1) (.slice TA (r).t.length tc) (.slice OA (r).o.length oc) (.int .i64 (r).got) (.int .i64 (r).sold) (.int .i64 (r).missed) = W9 at bz HT HO PR ⊢
  have k0 := PR.cell 0
  have k1 := PR.cell 1
  have k2 := PR.cell 2
  have k3 := PR.cell 3
  have k4 := PR.cell 4
  simp only [List.getElem?_cons_zero, List.getElem?_cons_succ] at k0 k1 k2 k3 k4
  clear h1 h2 Lr hb8 hL9 PR
  go_wp2
  refine bodyPost_ret (v := .tuple #[.agg #[.slice TA (r).t.length tc, .slice OA (r).o.length oc, .int .i64 (r).got, .int .i64 (r).sold, .int .i64 (r).missed], .bool gd]) (by simp [results, Try.results42, go_sem, *]) rfl ?_
  exact ⟨TA, tc, OA, oc, rfl, HT.out, HO.out, bz⟩
end Go.Proofs.Ytdiojhjkcholiaa

/- A step in the reference: l32Make, no. (Printed by gen_specmake.py) -/
namespace Go.Proofs.Ytdiojhjkcholiaa
open Go.RowKit

set_option maxRecDepth 100000 in
set_option maxHeartbeats 4000000 in
theorem make_person_no (x : Off) (kd st pe va : Int) (r : Oc) (hk : (kd == 1) = false) (hpe : 1 ≤ pe) (ht : 0 ≤ trayIx x.t st) (w : World) (h : OffR w w.heap.size x) (G : Good x) (hcap : x.t.length ≤ x.tc)
    (hP : ∀ W, OffR W W.heap.size x → Calls Try.prog 74 #[x.val, .agg #[.int .i64 kd, .int .i64 st, .int .i64 pe, .int .i64 va]] W (GivesMk W (r, false))) :
    Calls Try.prog 42 #[x.val, .agg #[.int .i64 kd, .int .i64 st, .int .i64 pe, .int .i64 va]] w (GivesMk w (r, false)) := by
  have L1 := ((Lies.new w 25 #[.slice x.TA x.t.length x.tc, .slice x.OA x.o.length x.oc, .int .i64 x.got, .int .i64 x.sold, .int .i64 x.missed]).alloc (.cells #[.int .i64 kd, .int .i64 st, .int .i64 pe, .int .i64 va] 45)).alloc (.cells #[.slice none 0 0, .slice none 0 0, .int .i64 0, .int .i64 0, .int .i64 0] 25)
  have L2 := (Lies.new1 w (.cells #[.slice x.TA x.t.length x.tc, .slice x.OA x.o.length x.oc, .int .i64 x.got, .int .i64 x.sold, .int .i64 x.missed] 25) 45 #[.int .i64 kd, .int .i64 st, .int .i64 pe, .int .i64 va]).alloc (.cells #[.slice none 0 0, .slice none 0 0, .int .i64 0, .int .i64 0, .int .i64 0] 25)
  have L3 := Lies.new2 w (.cells #[.slice x.TA x.t.length x.tc, .slice x.OA x.o.length x.oc, .int .i64 x.got, .int .i64 x.sold, .int .i64 x.missed] 25) (.cells #[.int .i64 kd, .int .i64 st, .int .i64 pe, .int .i64 va] 45) 25 #[.slice none 0 0, .slice none 0 0, .int .i64 0, .int .i64 0, .int .i64 0]
  have b1 := (Below.refl w.heap.size w).alloc (Nat.le_refl _) (.cells #[.slice x.TA x.t.length x.tc, .slice x.OA x.o.length x.oc, .int .i64 x.got, .int .i64 x.sold, .int .i64 x.missed] 25)
  have b2 := b1.alloc b1.size (.cells #[.int .i64 kd, .int .i64 st, .int .i64 pe, .int .i64 va] 45)
  have b3 := b2.alloc b2.size (.cells #[.slice none 0 0, .slice none 0 0, .int .i64 0, .int .i64 0, .int .i64 0] 25)
  have Sx := G.small
  have htl := G.tl
  have hol := G.ol
  have htc := G.tcs
  obtain ⟨m1, m2⟩ := G.m
  obtain ⟨g1, g2⟩ := G.s
  obtain ⟨o1, o2⟩ := G.g
  clear b1 b2 G
  have hpd : (pe == (0 : Int)) = false := by simp; omega
  clear hpe
  have htd : decide (trayIx x.t st < 0) = false := decide_eq_false (by omega)
  have HT0 := Lib.hid ht; clear ht
  go_enter Try.func42, Try.ntmps42
  go_wp2_with fail
  generalize (((w.alloc (.cells #[.slice x.TA x.t.length x.tc, .slice x.OA x.o.length x.oc, .int .i64 x.got, .int .i64 x.sold, .int .i64 x.missed] 25)).alloc (.cells #[.int .i64 kd, .int .i64 st, .int .i64 pe, .int .i64 va] 45)).alloc (.cells #[.slice none 0 0, .slice none 0 0, .int .i64 0, .int .i64 0, .int .i64 0] 25)) = W at L1 L2 L3 b3 ⊢
  have hR := h.up b3 (Nat.le_refl _)
  refine (l32Tray_any x st W hR).mono ?_
  rintro e W1 ⟨rfl, hb1⟩
  have hR1 := hR.then hb1
  have L1a := L1.below hb1 L1.lt
  have L2a := L2.below hb1 L2.lt
  have L3a := L3.below hb1 L3.lt
  have b4 := b3.trans (hb1.mono b3.size)
  have hW0 : w.heap.size ≤ W1.heap.size := b4.size
  clear L1 L2 L3 b3 hb1 hR h
  have c0 := L1a.cell 0
  have c1 := L1a.cell 1
  have c2 := L1a.cell 2
  have c3 := L1a.cell 3
  have c4 := L1a.cell 4
  simp only [List.getElem?_cons_zero, List.getElem?_cons_succ] at c0 c1 c2 c3 c4
  have s0 := L2a.cell 0
  have s1 := L2a.cell 1
  have s2 := L2a.cell 2
  have s3 := L2a.cell 3
  simp only [List.getElem?_cons_zero, List.getElem?_cons_succ] at s0 s1 s2 s3
  go_wp2_with fail

  refine (hP W1 hR1).mono ?_
  rintro e W2 ⟨TA, tc, OA, oc, rfl, hT, hO, hb2⟩
  simp only at hT hO
  have hal := (Below.refl W2.heap.size W2).alloc (Nat.le_refl _) (.cells #[.slice TA r.t.length tc, .slice OA r.o.length oc, .int .i64 r.got, .int .i64 r.sold, .int .i64 r.missed] 25)
  have L3b := (L3a.below hb2 L3a.lt).below hal (Nat.lt_of_lt_of_le L3a.lt hb2.size)
  have P4 := Lies.new W2 25 #[.slice TA r.t.length tc, .slice OA r.o.length oc, .int .i64 r.got, .int .i64 r.sold, .int .i64 r.missed]
  have hT4 := ownsRow_lower (ownsRow_below hT hal) hW0
  have hO4 := ownsRow_lower (ownsRow_below hO hal) hW0
  have b6 := b4.trans ((bthen hb2 hal).mono b4.size)
  have hgg : w.heap.size + 1 + 1 < W2.heap.size := Nat.lt_of_lt_of_le L3a.lt hb2.size
  clear c0 c1 c2 c3 c4 s0 s1 s2 s3
  have L3c := L3b
  clear hb2 hal hT hO L1a L2a L3a b4 hR1 L3b hP
  obtain ⟨W4, hW4⟩ : ∃ W4, W2.alloc (.cells #[.slice TA r.t.length tc, .slice OA r.o.length oc, .int .i64 r.got, .int .i64 r.sold, .int .i64 r.missed] 25) = W4 := ⟨_, rfl⟩
  rw [hW4] at L3c P4 hT4 hO4 b6
  generalize hg2 : W2.heap.size = g2 at P4 hgg
  go_wp2_with (rw [hW4]; clear hW4; rw [hg2])

  obtain ⟨D1, hD1⟩ : ∃ D : World → Prop, D = (fun W9 => ∃ W8 TA tc OA oc, Below W4.heap.size W4 W8 ∧ W8.ownsRow w.heap.size 74 2 (.slice TA (r).t.length tc) (r).t.length ((r).t.flatMap Tray.enc) ∧ W8.ownsRow w.heap.size 100 3 (.slice OA (r).o.length oc) (r).o.length ((r).o.flatMap Outing.enc) ∧ W9 = stOff W8 (w.heap.size + 1 + 1) (.slice TA (r).t.length tc) (.slice OA (r).o.length oc) (.int .i64 (r).got) (.int .i64 (r).sold) (.int .i64 (r).missed)) := ⟨_, rfl⟩
  have hDL : ∀ W, D1 W → ∃ W8 v0 v1 v2 v3 v4, Below W4.heap.size W4 W8 ∧ W = stOff W8 (w.heap.size + 1 + 1) v0 v1 v2 v3 v4 := by
    rw [hD1]
    rintro _ ⟨W8, TA, tc, OA, oc, hq, _, _, e⟩
    exact ⟨W8, _, _, _, _, _, hq, e⟩
  have HD1 := Lib.hid hD1; clear hD1
  refine wp_region_factsR (Sw 6 (fun W9 => Below W4.heap.size W4 W9) D1) (fun i w1 w2 => i ∉ [6] → Below w1.heap.size w1 w2) (by kernel_rfl) (by kernel_rfl) (by kernel_rfl) (Sw.start (Below.refl _ _).drew) ?_
  simp only [fillOps, Act.put, List.setIfInBounds_toArray, List.set_cons_zero, List.set_cons_succ, Nat.zero_add, Nat.reduceAdd]
  apply wpFactsR_val
  case h1 =>
    intro vs L9 w9 hG9 hC9 hB K9 hK9
    replace hC9 := hC9.before hG9 (by kernel_rfl)
    have q0 : w9.cell? ⟨g2, 0, none⟩ = some (.slice TA r.t.length tc) := (P4.below hC9 P4.lt).cell 0
    have q1 : w9.cell? ⟨g2, 1, none⟩ = some (.slice OA r.o.length oc) := (P4.below hC9 P4.lt).cell 1
    have q2 : w9.cell? ⟨g2, 2, none⟩ = some (.int .i64 r.got) := (P4.below hC9 P4.lt).cell 2
    have q3 : w9.cell? ⟨g2, 3, none⟩ = some (.int .i64 r.sold) := (P4.below hC9 P4.lt).cell 3
    have q4 : w9.cell? ⟨g2, 4, none⟩ = some (.int .i64 r.missed) := (P4.below hC9 P4.lt).cell 4
    simp only [Act.put, List.setIfInBounds_toArray, List.set_cons_zero, List.set_cons_succ] at hK9
    go_simp
    exact hK9 _ _ rfl (Sw.stay hG9 (by kernel_rfl) (by decide) hC9) (fun _ => Below.refl _ _)
  apply wpFactsR_val
  case h1 =>
    intro vs L9 w9 hG9 hC9 hB K9 hK9
    replace hC9 := hC9.before hG9 (by kernel_rfl)
    simp only [Act.put, List.setIfInBounds_toArray, List.set_cons_zero, List.set_cons_succ] at hK9
    go_simp
    exact hK9 _ _ rfl (Sw.stay hG9 (by kernel_rfl) (by decide) hC9) (fun _ => Below.refl _ _)
  apply wpFactsR_val
  case h1 =>
    intro vs L9 w9 hG9 hC9 hB K9 hK9
    replace hC9 := hC9.before hG9 (by kernel_rfl)
    have d1 := FactN.eq (hB 1 _ (by kernel_rfl) (by kernel_rfl) rfl (by decide))
    simp only [d1] at hK9 ⊢
    simp only [Act.put, List.setIfInBounds_toArray, List.set_cons_zero, List.set_cons_succ] at hK9
    go_simp
    exact hK9 _ _ rfl (Sw.stay hG9 (by kernel_rfl) (by decide) hC9) (fun _ => Below.refl _ _)
  refine wpFactsR_val (undef) (fun vs L9 w9 hG9 hC9 hB K9 hK9 => ?hq3) ?rq3
  case hq3 =>
    replace hC9 := hC9.before hG9 (by kernel_rfl)
    have d2 := FactN.eq (hB 2 _ (by kernel_rfl) (by kernel_rfl) rfl (by decide))
    simp only [d2] at hK9 ⊢
    go_simp
    exact hK9 _ _ rfl (Sw.stay hG9 (by kernel_rfl) (by decide) hC9) (fun _ => Below.refl _ _)
  refine wpFactsR_val (undef) (fun vs L9 w9 hG9 hC9 hB K9 hK9 => ?hq4) ?rq4
  case hq4 =>
    replace hC9 := hC9.before hG9 (by kernel_rfl)
    have d3 := FactN.eq (hB 3 _ (by kernel_rfl) (by kernel_rfl) rfl (by decide))
    have d2 := FactN.eq (hB 2 _ (by kernel_rfl) (by kernel_rfl) rfl (by decide))
    simp only [d3, d2] at hK9 ⊢
    go_simp
    exact hK9 _ _ rfl (Sw.stay hG9 (by kernel_rfl) (by decide) hC9) (fun _ => Below.refl _ _)
  apply wpFactsR_val
  case h1 =>
    intro vs L9 w9 hG9 hC9 hB K9 hK9
    have d2 := FactN.eq (hB 2 _ (by kernel_rfl) (by kernel_rfl) rfl (by decide))
    have d4 := FactN.eq (hB 4 _ (by kernel_rfl) (by kernel_rfl) rfl (by decide))
    simp only [d2, d4] at hK9 ⊢
    simp only [Act.put, List.setIfInBounds_toArray, List.set_cons_zero, List.set_cons_succ] at hK9
    have HC9 := Lib.hid hC9
    clear hC9
    go_simp
    exact hK9 _ _ rfl (Sw.both (by decide) (fun h => h) (fun h => h) HC9.out) (fun _ => Below.refl _ _)
  refine wpFactsR_val (undef) (fun vs L9 w9 hG9 hC9 hB K9 hK9 => ?hq6) ?rq6
  case hq6 =>
    replace hC9 := hC9.here hG9
    have d0 := FactN.eq (hB 0 _ (by kernel_rfl) (by kernel_rfl) rfl (by decide))
    simp only [d0] at hK9 ⊢
    have Lr := L3c.below hC9 L3c.lt
    have z0 := Lr.cell 0
    have z1 := Lr.cell 1
    have z2 := Lr.cell 2
    have z3 := Lr.cell 3
    have z4 := Lr.cell 4
    simp only [List.getElem?_cons_zero, List.getElem?_cons_succ] at z0 z1 z2 z3 z4
    have f0 := Lr.frozen 0
    have f1 := Lr.frozen 1
    have f2 := Lr.frozen 2
    have f3 := Lr.frozen 3
    have f4 := Lr.frozen 4
    clear Lr
    go_simp
    exact hK9 _ _ rfl (Sw.turn (by rw [HD1.out]; exact ⟨w9, TA, tc, OA, oc, hC9, ownsRow_below hT4 hC9, ownsRow_below hO4 hC9, rfl⟩)) (fun hq => (hq (by decide)).elim)
  apply wpFactsR_val
  case h1 =>
    intro vs L9 w9 hG9 hC9 hB K9 hK9
    replace hC9 := hC9.after hG9 (by kernel_rfl)
    have d5 := FactN.eq (hB 5 _ (by kernel_rfl) (by kernel_rfl) rfl (by decide))
    simp only [d5] at hK9 ⊢
    simp only [Act.put, List.setIfInBounds_toArray, List.set_cons_zero, List.set_cons_succ] at hK9
    go_simp
    exact hK9 _ _ rfl (Sw.on hG9 (by kernel_rfl) hC9) (fun _ => Below.refl _ _)
  refine wpFactsR_nil fun vs L9 w9 hL9 hC9 hB => ?_
  replace hC9 := hC9.done hL9 (by decide)
  have dl := FactN.eq (hB 7 _ rfl rfl (by decide))
  simp only [dl]
  clear hB dl
  rw [HD1.out] at hC9
  obtain ⟨W8, TA, tc, OA, oc, hb8, h1, h2, rfl⟩ := hC9
  have Lr := L3c.below hb8 L3c.lt
  have bz := (b6.trans (hb8.mono b6.size)).trans (stOff_below (v0 := .slice TA (r).t.length tc) (v1 := .slice OA (r).o.length oc) (v2 := .int .i64 (r).got) (v3 := .int .i64 (r).sold) (v4 := .int .i64 (r).missed) Lr (show w.heap.size ≤ (w.heap.size + 1 + 1) by omega))
  have HT := Lib.hid (stOff_row (v0 := .slice TA (r).t.length tc) (v1 := .slice OA (r).o.length oc) (v2 := .int .i64 (r).got) (v3 := .int .i64 (r).sold) (v4 := .int .i64 (r).missed) Lr h1 ne_owt)
  have HO := Lib.hid (stOff_row (v0 := .slice TA (r).t.length tc) (v1 := .slice OA (r).o.length oc) (v2 := .int .i64 (r).got) (v3 := .int .i64 (r).sold) (v4 := .int .i64 (r).missed) Lr h2 ne_owo)
  have PR := stOff_is (v0 := .slice TA (r).t.length tc) (v1 := .slice OA (r).o.length oc) (v2 := .int .i64 (r).got) (v3 := .int .i64 (r).sold) (v4 := .int .i64 (r).missed) Lr
  generalize stOff W8 (w.heap.size + 1 + 1) (.slice TA (r).t.length tc) (.slice OA (r).o.length oc) (.int .i64 (r).got) (.int .i64 (r).sold) (.int .i64 (r).missed) = W9 at bz HT HO PR ⊢
  have k0 := PR.cell 0
  have k1 := PR.cell 1
  have k2 := PR.cell 2
  have k3 := PR.cell 3
  have k4 := PR.cell 4
  simp only [List.getElem?_cons_zero, List.getElem?_cons_succ] at k0 k1 k2 k3 k4
  clear h1 h2 Lr hb8 hL9 PR
  go_wp2
  refine bodyPost_ret (v := .tuple #[.agg #[.slice TA (r).t.length tc, .slice OA (r).o.length oc, .int .i64 (r).got, .int .i64 (r).sold, .int .i64 (r).missed], .bool false]) (by simp [results, Try.results42, go_sem, *]) rfl ?_
  exact ⟨TA, tc, OA, oc, rfl, HT.out, HO.out, bz⟩
end Go.Proofs.Ytdiojhjkcholiaa

/- A valid step, in the reference: l32Make and StepOffice. -/
namespace Go.Proofs.Ytdiojhjkcholiaa
open Go.RowKit

theorem make_person (x : Off) (kd st pe va : Int) (R : Oc × Bool) (hk : (kd == 1) = false) (hpe : 1 ≤ pe) (ht : 0 ≤ trayIx x.t st) (w : World) (h : OffR w w.heap.size x) (G : Good x) (hcap : x.t.length ≤ x.tc)
    (hP : ∀ W, OffR W W.heap.size x → Calls Try.prog 74 #[x.val, .agg #[.int .i64 kd, .int .i64 st, .int .i64 pe, .int .i64 va]] W (GivesMk W R)) :
    Calls Try.prog 42 #[x.val, .agg #[.int .i64 kd, .int .i64 st, .int .i64 pe, .int .i64 va]] w (GivesMk w (R.1, R.2 && R.1.good)) := by
  obtain ⟨r, b⟩ := R
  cases b
  · rw [Bool.false_and]; exact make_person_no x kd st pe va r hk hpe ht w h G hcap hP
  · rw [Bool.true_and]; exact make_person_yes x kd st pe va r hk hpe ht w h G hcap hP
theorem l32Make_any (x : Off) (s : Stp) (w : World) (h : OffR w w.heap.size x) (G : Good x) (hcap : x.t.length ≤ x.tc) (hs : s.okS = true) :
    Calls Try.prog 42 #[x.val, s.val] w (GivesMk w (makeS x.c s)) := by
  obtain ⟨hst, hI⟩ := Stp.okS_is hs
  clear hs
  obtain ⟨kd, st, pe, va⟩ := s
  by_cases hT : trayIx x.t st < 0
  · have own : ∀ kd : Int, kd ≠ 1 → Calls Try.prog 42 #[x.val, .agg #[.int .i64 kd, .int .i64 st, .int .i64 pe, .int .i64 va]] w (GivesMk w (makeS x.c ⟨kd, st, pe, va⟩)) := fun kd hk => by
      rw [show makeS x.c ⟨kd, st, pe, va⟩ = (x.c, false) from by
        unfold makeS; rw [if_neg (show ¬ (Stp.mk kd st pe va).kind = 1 from hk), if_pos (show trayIx x.c.t st < 0 from hT)]]
      exact make_own x kd st pe va (by simpa using hk) hT w h G hcap
    cases hI with
    | get hk hp hv =>
      simp only at hk hp hv hst; subst hk
      exact make_get x st pe va hst hv w h G hcap
    | show_ hk hp hv => simp only at hk; subst hk; exact own 2 (by decide)
    | back hk hp hv => simp only at hk; subst hk; exact own 3 (by decide)
    | sell0 hk hp hv => simp only at hk; subst hk; exact own 4 (by decide)
    | sell hk hp hv => simp only at hk; subst hk; exact own 4 (by decide)
    | miss hk hp hv => simp only at hk; subst hk; exact own 5 (by decide)
    | move hk hp hv => simp only at hk; subst hk; exact own 6 (by decide)
  · have h0 : 0 ≤ trayIx x.t st := by omega
    have per : ∀ kd : Int, kd ≠ 1 → (1 ≤ pe ∧ pe ≤ 999) → (∀ W, OffR W W.heap.size x → Calls Try.prog 74 #[x.val, .agg #[.int .i64 kd, .int .i64 st, .int .i64 pe, .int .i64 va]] W (GivesMk W (personS x.c ⟨kd, st, pe, va⟩))) →
        Calls Try.prog 42 #[x.val, .agg #[.int .i64 kd, .int .i64 st, .int .i64 pe, .int .i64 va]] w (GivesMk w (makeS x.c ⟨kd, st, pe, va⟩)) := fun kd hk hpe hP => by
      rw [show makeS x.c ⟨kd, st, pe, va⟩ = ((personS x.c ⟨kd, st, pe, va⟩).1, (personS x.c ⟨kd, st, pe, va⟩).2 && (personS x.c ⟨kd, st, pe, va⟩).1.good) from by
        unfold makeS; rw [if_neg (show ¬ (Stp.mk kd st pe va).kind = 1 from hk), if_neg (show ¬ trayIx x.c.t st < 0 from hT), if_neg (show ¬ (Stp.mk kd st pe va).person = 0 from by show ¬ pe = 0; omega)]]
      exact make_person x kd st pe va _ (by simpa using hk) hpe.1 h0 w h G hcap hP
    cases hI with
    | get hk hp hv =>
      simp only at hk hp hv hst; subst hk
      exact make_get x st pe va hst hv w h G hcap
    | show_ hk hp hv => simp only at hk hp hv hst; subst hk; exact per 2 (by decide) hp fun W hW => person_show x st pe va W hW G hcap hst hp hv
    | back hk hp hv => simp only at hk hp hv hst; subst hk; exact per 3 (by decide) hp fun W hW => person_back x st pe va W hW G hcap hst hp hv
    | sell0 hk hp hv =>
      simp only at hk hp hv hst; subst hk; subst hp
      have := make_sell0 x st va hst hv h0 w h G hcap
      rw [show makeS x.c ⟨4, st, 0, va⟩ = ((⟨inTrays x.t st (-va), x.o, x.got, x.sold + va, x.missed⟩ : Oc), (⟨inTrays x.t st (-va), x.o, x.got, x.sold + va, x.missed⟩ : Oc).good) from by
        unfold makeS; rw [if_neg (show ¬ (4 : Int) = 1 by decide), if_neg (show ¬ trayIx x.c.t st < 0 from hT), if_pos rfl]; rfl]
      exact this
    | sell hk hp hv => simp only at hk hp hv hst; subst hk; exact per 4 (by decide) hp fun W hW => person_sell x st pe va W hW G hcap hst hp hv
    | miss hk hp hv => simp only at hk hp hv hst; subst hk; exact per 5 (by decide) hp fun W hW => person_miss x st pe va W hW G hcap hst hp
    | move hk hp hv => simp only at hk hp hv hst; subst hk; exact per 6 (by decide) hp fun W hW => person_move x st pe va W hW G hcap hst hp hv
/-- The reference's StepOffice. -/
theorem specStep_any (x : Off) (s : Stp) (w : World) (h : OffR w w.heap.size x) (hcap : x.t.length ≤ x.tc) :
    Calls Try.prog 13 #[x.val, s.val] w (GivesStep w (if goodOff x && s.ok then stepD x.c s else none)) := by
  have h1 := specStep_of (fun x s w h G hc hs => l32Make_any x s w h G hc hs) x s w h hcap
  rw [show (if goodOff x && s.ok then stepD x.c s else none) = (if goodOff x && s.okS then okOc (makeS x.c s) else none) from by
    cases hg : goodOff x
    · rfl
    · cases hs : s.okS
      · have := Stp.ok_okS s
        rw [hs, Bool.false_and] at this
        rw [this]; rfl
      · rw [Bool.true_and, Bool.true_and, if_pos rfl, makeS_stepD x s (good_iff.1 hg) hs]]
  exact h1
end Go.Proofs.Ytdiojhjkcholiaa

/- Laws over an office with scalar results: the walks. (Printed by lawgen_off.py) -/
namespace Go.Proofs.Ytdiojhjkcholiaa
open Go.RowKit

/-- A copy's office. -/
abbrev Off.copy (x : Off) (g1 g2 : Nat) : Off := { x with TA := some ⟨g1, 0, none⟩, tc := x.t.length, OA := some ⟨g2, 0, none⟩, oc := x.o.length }
theorem copy_reads {x : Off} {w : World} {g1 g2 : Nat} (h1 : Lies w g1 74 (x.t.flatMap Tray.enc)) (h2 : Lies w g2 100 (x.o.flatMap Outing.enc)) (hn : x.t.length ≤ 1048576) (hm : x.o.length ≤ 1048576) : OffR w w.heap.size (x.copy g1 g2) :=
  ⟨lies_trays h1 (show x.t.length ≤ 9223372036854775807 by omega), lies_outings h2 (show x.o.length ≤ 9223372036854775807 by omega)⟩

end Go.Proofs.Ytdiojhjkcholiaa

/- Marks on a copy of an office. -/
namespace Go.Proofs.Ytdiojhjkcholiaa
open Go.RowKit

set_option maxHeartbeats 1000000 in
theorem markOffice_any (x : Off) (g1 g2 lo hi : Nat) (w : World) (hn : x.t.length ≤ 1048576) (hm : x.o.length ≤ 1048576) (l1 : lo ≤ g1) (l2 : g1 < g2) (l3 : g2 < hi) (l4 : hi ≤ w.heap.size)
    (h1 : Lies w g1 74 (x.t.flatMap Tray.enc)) (h2 : Lies w g2 100 (x.o.flatMap Outing.enc)) :
    Calls Try.prog 18 #[(x.copy g1 g2).val, .int .i64 1] w fun e w' => (∃ k1 : Int, e = .returned (.int .i64 k1) ∧ 0 ≤ k1) ∧ Mid lo hi w w' := by
  have b0 : Mid lo hi w (w.alloc (.cells #[.slice (some ⟨g1, 0, none⟩) x.t.length x.t.length, .slice (some ⟨g2, 0, none⟩) x.o.length x.o.length, .int .i64 x.got, .int .i64 x.sold, .int .i64 x.missed] 25)) :=
    ⟨rfl, rfl, rfl, by simp, fun k hk _ => Below.heap_alloc w _ k hk⟩
  have L0 := Lies.new w 25 #[.slice (some ⟨g1, 0, none⟩) x.t.length x.t.length, .slice (some ⟨g2, 0, none⟩) x.o.length x.o.length, .int .i64 x.got, .int .i64 x.sold, .int .i64 x.missed]
  have k1 := h1.alloc (.cells #[.slice (some ⟨g1, 0, none⟩) x.t.length x.t.length, .slice (some ⟨g2, 0, none⟩) x.o.length x.o.length, .int .i64 x.got, .int .i64 x.sold, .int .i64 x.missed] 25)
  have k2 := h2.alloc (.cells #[.slice (some ⟨g1, 0, none⟩) x.t.length x.t.length, .slice (some ⟨g2, 0, none⟩) x.o.length x.o.length, .int .i64 x.got, .int .i64 x.sold, .int .i64 x.missed] 25)
  go_enter Try.func18, Try.ntmps18
  go_wp2_with fail
  generalize w.alloc (.cells #[.slice (some ⟨g1, 0, none⟩) x.t.length x.t.length, .slice (some ⟨g2, 0, none⟩) x.o.length x.o.length, .int .i64 x.got, .int .i64 x.sold, .int .i64 x.missed] 25) = W at b0 L0 k1 k2 ⊢
  refine (markTrays_any (some ⟨g1, 0, none⟩) x.t.length x.t.length lo 1 (x.t.flatMap Tray.enc) W (by omega) (by omega) (by omega) ⟨flat_len Tray.enc 2 Tray.enc_len x.t, by omega, .inr ⟨g1, [], rfl, l1, by simpa using k1⟩⟩).mono ?_
  rintro e w1 ⟨rfl, o1, gr0⟩
  have gr1 : W.grownBy w1 (some g1) := gr0
  clear gr0 o1
  have m1 := b0.trans (Mid.of gr1 (by rintro _ ⟨⟩; exact ⟨l1, by omega⟩))
  have L1 := L0.kept gr1 (by intro e; injection e; omega)
  have j2 := k2.kept gr1 (by intro e; injection e; omega)
  have c1 := L1.cell 1
  simp only [List.getElem?_cons_zero, List.getElem?_cons_succ] at c1
  go_wp2_with fail
  refine (markOutings_any (some ⟨g2, 0, none⟩) x.o.length x.o.length lo _ (x.o.flatMap Outing.enc) w1 (by omega) (by omega) (by omega) ⟨flat_len Outing.enc 3 Outing.enc_len x.o, by omega, .inr ⟨g2, [], rfl, by omega, by simpa using j2⟩⟩).mono ?_
  rintro e w2 ⟨rfl, o2, gr0⟩
  have gr2 : w1.grownBy w2 (some g2) := gr0
  clear gr0 o2
  have m2 := m1.trans (Mid.of gr2 (by rintro _ ⟨⟩; exact ⟨by omega, l3⟩))
  go_wp2
  go_ret
  exact ⟨⟨_, rfl, by omega⟩, m2⟩
end Go.Proofs.Ytdiojhjkcholiaa

/- What the laws of an office's steps lean on: arguments and results as values. -/
namespace Go.Proofs.Ytdiojhjkcholiaa
open Go.RowKit

/-- The value v is an office like y that reads. -/
def InV (w : World) (y : Oc) (v : Value) : Prop := ∃ X : Off, v = X.val ∧ X.c = y ∧ OffR w w.heap.size X ∧ X.t.length ≤ X.tc
theorem InV.below {w w' : World} {y : Oc} {v : Value} (h : InV w y v) (hb : Below w.heap.size w w') : InV w' y v := by
  obtain ⟨X, h1, h2, h3, h4⟩ := h; exact ⟨X, h1, h2, h3.then hb, h4⟩
/-- A call gives an office of its own and whether there is one. -/
def GivesR (w : World) (y : Oc) (b : Bool) (e : Ending) (w' : World) : Prop := ∃ v, e = .returned (.tuple #[v, .bool b]) ∧ OwnV w' w.heap.size y v ∧ Below w.heap.size w w'
theorem GivesStep.r {w w' : World} {D : Option Oc} {e : Ending} (h : GivesStep w D e w') : GivesR w (resOf D) D.isSome e w' := by
  obtain ⟨TA, tc, OA, oc, he, h1, h2, hb⟩ := h
  exact ⟨_, he, ⟨TA, tc, OA, oc, rfl, h1, h2⟩, hb⟩
theorem InV.copy {x : Off} {w : World} {g1 g2 : Nat} (h1 : Lies w g1 74 (x.t.flatMap Tray.enc)) (h2 : Lies w g2 100 (x.o.flatMap Outing.enc)) (hn : x.t.length ≤ 1048576) (hm : x.o.length ≤ 1048576) : InV w x.c (x.copy g1 g2).val :=
  ⟨x.copy g1 g2, rfl, rfl, copy_reads h1 h2 hn hm, Nat.le_refl _⟩
theorem toOfficeV (x : Off) (w : World) (h : OffR w w.heap.size x) (hn : x.t.length ≤ 1048576) (hm : x.o.length ≤ 1048576) :
    Calls Try.prog 14 #[x.val] w fun e w' => ∃ v, e = .returned v ∧ InV w' x.c v ∧ Below w.heap.size w w' :=
  (toOffice_any x w h hn hm).mono fun _ _ ⟨g1, g2, he, _, _, h1, h2, hb⟩ => ⟨_, he, InV.copy h1 h2 hn hm, hb⟩
theorem eqOfficeR (x x' : Off) (w : World) (h : OffR w w.heap.size x) (h' : OffR w w.heap.size x') (hc : x.c = x'.c) :
    Calls Try.prog 17 #[x.val, x'.val] w fun e w' => e = .returned (.bool true) ∧ Below w.heap.size w w' := by
  have e := hc
  simp only [Off.c, Oc.mk.injEq] at e
  obtain ⟨e1, e2, e3, e4, e5⟩ := e
  exact eqOffice_yes x x' w h h' (decide_eq_true e1) (decide_eq_true e2) e3 e4 e5
theorem eqOfficeV {y : Oc} {v v' : Value} {w : World} (h : InV w y v) (h' : InV w y v') :
    Calls Try.prog 17 #[v, v'] w fun e w' => e = .returned (.bool true) ∧ Below w.heap.size w w' := by
  obtain ⟨X, rfl, h1, h2, _⟩ := h
  obtain ⟨X', rfl, h1', h2', _⟩ := h'
  exact eqOfficeR X X' w h2 h2' (h1.trans h1'.symm)
/-- Two offices of contents y, given as values. -/
theorem eqOwn {y : Oc} {TA OA TA' OA' : Option Addr} {tc oc tc' oc' : Nat} {w : World} (h : OffR w w.heap.size (y.at TA tc OA oc)) (h' : OffR w w.heap.size (y.at TA' tc' OA' oc')) :
    Calls Try.prog 17 #[.agg #[.slice TA y.t.length tc, .slice OA y.o.length oc, .int .i64 y.got, .int .i64 y.sold, .int .i64 y.missed], .agg #[.slice TA' y.t.length tc', .slice OA' y.o.length oc', .int .i64 y.got, .int .i64 y.sold, .int .i64 y.missed]] w
      fun e w' => e = .returned (.bool true) ∧ Below w.heap.size w w' := eqOfficeR (y.at TA tc OA oc) (y.at TA' tc' OA' oc') w h h' rfl
theorem offR_own {w : World} {y : Oc} {TA OA : Option Addr} {tc oc B B' : Nat} {t t' : TypeId} (h1 : OwnS w B t 2 TA y.t.length (y.t.flatMap Tray.enc)) (h2 : OwnS w B' t' 3 OA y.o.length (y.o.flatMap Outing.enc)) : OffR w w.heap.size (y.at TA tc OA oc) := ⟨h1.reads, h2.reads⟩
theorem offR_row {w : World} {y : Oc} {TA OA : Option Addr} {tc oc B B' tc' oc' : Nat} {t t' : TypeId} (h1 : w.ownsRow B t 2 (.slice TA y.t.length tc) y.t.length (y.t.flatMap Tray.enc)) (h2 : w.ownsRow B' t' 3 (.slice OA y.o.length oc) y.o.length (y.o.flatMap Outing.enc)) : OffR w w.heap.size (y.at TA tc' OA oc') := ⟨ownsRow_reads h1, ownsRow_reads h2⟩
end Go.Proofs.Ytdiojhjkcholiaa

/- What a step of an office gives. -/
namespace Go.Proofs.Ytdiojhjkcholiaa
open Go.RowKit

theorem stepD_len {y : Oc} {s : Stp} : (resOf (stepD y s)).t.length ≤ 1000000 ∧ (resOf (stepD y s)).o.length ≤ 1000000 := by
  have key : ∀ r : Oc, (resOf (Oc.fin r)).t.length ≤ 1000000 ∧ (resOf (Oc.fin r)).o.length ≤ 1000000 := fun r => by
    unfold Oc.fin
    split
    · rename_i h
      have G := good_iff.1 h
      have h1 := G.tl
      have h2 := G.ol
      exact ⟨Nat.le_trans h1 (by omega), Nat.le_trans h2 (by omega)⟩
    · exact ⟨by simp [resOf, Oc.zero], by simp [resOf, Oc.zero]⟩
  have none_ : (resOf none).t.length ≤ 1000000 ∧ (resOf none).o.length ≤ 1000000 := ⟨by simp [resOf, Oc.zero], by simp [resOf, Oc.zero]⟩
  unfold stepD
  repeat' split
  all_goals first | exact key _ | exact none_
/-- What a step of an office gives: nothing where one of them is not valid. -/
def tryD (y : Oc) (s : Stp) : Option Oc := if y.good && s.ok then stepD y s else none
theorem tryD_len {y : Oc} {s : Stp} : (resOf (tryD y s)).t.length ≤ 1000000 ∧ (resOf (tryD y s)).o.length ≤ 1000000 := by
  unfold tryD; split
  · exact stepD_len
  · exact ⟨by simp [resOf, Oc.zero], by simp [resOf, Oc.zero]⟩
end Go.Proofs.Ytdiojhjkcholiaa

/- Marks on an office whose rows are a call's own: blocks of other types stay. -/
namespace Go.Proofs.Ytdiojhjkcholiaa
open Go.RowKit

set_option maxHeartbeats 1000000 in
theorem markOwn_all (TA OA : Option Addr) (tc oc n m B : Nat) (got sold missed k0 : Int) (cs ds : List Value) (w : World) (hk : -1000 ≤ k0) (hk' : k0 ≤ 1000) (hn : n ≤ 1000000) (hm : m ≤ 1000000) (hB : B ≤ w.heap.size)
    (hT : OwnS w B 74 2 TA n cs) (hO : OwnS w B 100 3 OA m ds) :
    Calls Try.prog 18 #[.agg #[.slice TA n tc, .slice OA m oc, .int .i64 got, .int .i64 sold, .int .i64 missed], .int .i64 k0] w fun e w' => e = .returned (.int .i64 (k0 + 2 * n + 3 * m)) ∧
      OwnS w' B 74 2 TA n (encIs (ramp k0 (n * 2))) ∧ OwnS w' B 100 3 OA m (encIs (ramp (k0 + 2 * n) (m * 3))) ∧ Below B w w' ∧ ∀ g t' cs', t' ≠ 74 → t' ≠ 100 → Lies w g t' cs' → Lies w' g t' cs' := by
  have L0 := Lies.new w 25 #[.slice TA n tc, .slice OA m oc, .int .i64 got, .int .i64 sold, .int .i64 missed]
  have b0 := (Below.refl B w).alloc hB (.cells #[.slice TA n tc, .slice OA m oc, .int .i64 got, .int .i64 sold, .int .i64 missed] 25)
  have hal := (Below.refl w.heap.size w).alloc (Nat.le_refl _) (.cells #[.slice TA n tc, .slice OA m oc, .int .i64 got, .int .i64 sold, .int .i64 missed] 25)
  have hT1 := hT.then hal
  have hO1 := hO.then hal
  clear hT hO hal
  have hK : ∀ g t' cs', t' ≠ 74 → t' ≠ 100 → Lies w g t' cs' → Lies (w.alloc (.cells #[.slice TA n tc, .slice OA m oc, .int .i64 got, .int .i64 sold, .int .i64 missed] 25)) g t' cs' := fun g t' cs' _ _ h => h.alloc _
  go_enter Try.func18, Try.ntmps18
  go_wp2_with fail
  generalize w.alloc (.cells #[.slice TA n tc, .slice OA m oc, .int .i64 got, .int .i64 sold, .int .i64 missed] 25) = W at b0 L0 hT1 hO1 hK ⊢
  refine (markTrays_any TA tc n B k0 cs W (by omega) (by omega) (by omega) hT1).mono ?_
  rintro e w1 ⟨rfl, o1, gr1⟩
  have m1 := b0.grown gr1 (Nat.le_trans hB (by have := b0.size; omega)) (fun g hg => hT1.at_ge g hg)
  have hO2 := hO1.two hT1 ne_ot gr1
  have L1 := L0.kept gr1 (hT1.apartB L0 (by decide))
  have hK1 : ∀ g t' cs', t' ≠ 74 → t' ≠ 100 → Lies w g t' cs' → Lies w1 g t' cs' := fun g t' cs' n1 n2 h => (hK g t' cs' n1 n2 h).kept gr1 (hT1.apartB (hK g t' cs' n1 n2 h) n1)
  have c1 := L1.cell 1
  simp only [List.getElem?_cons_zero, List.getElem?_cons_succ] at c1
  go_wp2_with fail
  refine (markOutings_any OA oc m B _ ds w1 (by omega) (by omega) (by omega) hO2).mono ?_
  rintro e w2 ⟨rfl, o2, gr2⟩
  have m2 := m1.grown gr2 (Nat.le_trans hB m1.size) (fun g hg => hO2.at_ge g hg)
  have o3 := o1.two hO2 ne_to gr2
  have hK2 : ∀ g t' cs', t' ≠ 74 → t' ≠ 100 → Lies w g t' cs' → Lies w2 g t' cs' := fun g t' cs' n1 n2 h => (hK1 g t' cs' n1 n2 h).kept gr2 (hO2.apartB (hK1 g t' cs' n1 n2 h) n2)
  have HK := Lib.hid hK2
  clear hK hK1 hK2
  go_wp2
  go_ret
  exact ⟨rfl, o3, o2, m2, HK.out⟩
end Go.Proofs.Ytdiojhjkcholiaa

/- NewConsole, in the reference and in the program, and its law. (Printed by gen_newcon.py) -/
namespace Go.Proofs.Ytdiojhjkcholiaa
open Go.RowKit

/-- A console of the call's own with an empty log. -/
def GivesCon (w : World) (y : Oc) (b : Bool) (e : Ending) (w' : World) : Prop :=
  ∃ TA tc OA oc, e = .returned (.tuple #[.agg #[.slice TA y.t.length tc, .slice OA y.o.length oc, .int .i64 y.got, .int .i64 y.sold, .int .i64 y.missed, .string ⟨#[]⟩, .string ⟨#[]⟩, .int .i64 0], .bool b]) ∧ w'.ownsRow w.heap.size 74 2 (.slice TA y.t.length tc) y.t.length (y.t.flatMap Tray.enc) ∧
    w'.ownsRow w.heap.size 100 3 (.slice OA y.o.length oc) y.o.length (y.o.flatMap Outing.enc) ∧ Below w.heap.size w w'
def newOc (n : Int) : Oc := if inR n 1 9999 then ⟨[⟨1, n⟩], [], n, 0, 0⟩ else Oc.zero
theorem newOc_len (n : Int) : (newOc n).t.length ≤ 1000000 ∧ (newOc n).o.length ≤ 1000000 := by
  unfold newOc; split <;> simp [Oc.zero]
theorem ne_ct : 74 ≠ 29 := by decide
theorem ne_co : 100 ≠ 29 := by decide
/-- The reference's road: a step on the empty office. -/
theorem newOc_try (n : Int) : tryD Oc.zero ⟨1, 1, 0, n⟩ = if inR n 1 9999 then some ⟨[⟨1, n⟩], [], n, 0, 0⟩ else none := by
  have h0 : Oc.zero.good = true := by decide
  unfold tryD
  rw [h0, Bool.true_and]
  have hok : Stp.ok ⟨1, 1, 0, n⟩ = inR n 1 9999 := by
    unfold Stp.ok; simp [inR]
  rw [hok]
  cases hn : inR n 1 9999
  · rfl
  · rw [if_pos rfl, if_pos rfl]
    have hb := inR_iff.1 hn
    have hin : inTrays [] 1 n = [⟨1, n⟩] := by
      unfold inTrays; simp [trayIx, idxFrom, posT]
    unfold stepD
    rw [if_pos rfl]
    simp only [Oc.zero, hin]
    unfold Oc.fin
    rw [if_pos ?_]
    · simp
    · unfold Oc.good goodOff
      simp [Oc.at, sizesOk, numsOk, sumOk, inSum, outSum, inFrom, outFrom, traysOk, traysFrom, outsOk, outsFrom, Tray.ok, inR]
      omega

set_option maxHeartbeats 1000000 in
theorem implNew_any (n : Int) (w : World) : Calls Try.prog 8 #[.int .i64 n] w (GivesCon w (newOc n) (inR n 1 9999)) := by
  have L0 := Lies.new w 29 #[.slice none 0 0, .slice none 0 0, .int .i64 0, .int .i64 0, .int .i64 0, .string ⟨#[]⟩, .string ⟨#[]⟩, .int .i64 0]
  have b0 := (Below.refl w.heap.size w).alloc (Nat.le_refl _) (.cells #[.slice none 0 0, .slice none 0 0, .int .i64 0, .int .i64 0, .int .i64 0, .string ⟨#[]⟩, .string ⟨#[]⟩, .int .i64 0] 29)
  have h0 : w.heap.size < (w.alloc (.cells #[.slice none 0 0, .slice none 0 0, .int .i64 0, .int .i64 0, .int .i64 0, .string ⟨#[]⟩, .string ⟨#[]⟩, .int .i64 0] 29)).heap.size := by simp
  cases hn : inR n 1 9999
  · rw [show newOc n = Oc.zero from by unfold newOc; rw [hn]; rfl]
    go_enter Try.func8, Try.ntmps8
    go_wp2_with fail
    generalize w.alloc (.cells #[.slice none 0 0, .slice none 0 0, .int .i64 0, .int .i64 0, .int .i64 0, .string ⟨#[]⟩, .string ⟨#[]⟩, .int .i64 0] 29) = W at L0 b0 h0 ⊢
    refine (inRange_any n 1 9999 _).mono ?_
    rintro e w' ⟨rfl, rfl⟩
    rw [hn]
    have z0 := L0.cell 0
    have z1 := L0.cell 1
    have z2 := L0.cell 2
    have z3 := L0.cell 3
    have z4 := L0.cell 4
    have z5 := L0.cell 5
    have z6 := L0.cell 6
    have z7 := L0.cell 7
    simp only [List.getElem?_cons_zero, List.getElem?_cons_succ] at z0 z1 z2 z3 z4 z5 z6 z7
    have f0 := L0.frozen 0
    have f1 := L0.frozen 1
    have f2 := L0.frozen 2
    have f3 := L0.frozen 3
    have f4 := L0.frozen 4
    have f5 := L0.frozen 5
    have f6 := L0.frozen 6
    have f7 := L0.frozen 7
    have bz := Lib.hid ((((((((b0.setCell (p := ⟨w.heap.size, 0, none⟩) (Nat.le_refl _) (.slice none 0 0)).setCell (p := ⟨w.heap.size, 1, none⟩) (Nat.le_refl _) (.slice none 0 0)).setCell (p := ⟨w.heap.size, 2, none⟩) (Nat.le_refl _) (.int .i64 0)).setCell (p := ⟨w.heap.size, 3, none⟩) (Nat.le_refl _) (.int .i64 0)).setCell (p := ⟨w.heap.size, 4, none⟩) (Nat.le_refl _) (.int .i64 0)).setCell (p := ⟨w.heap.size, 5, none⟩) (Nat.le_refl _) (.string ⟨#[]⟩)).setCell (p := ⟨w.heap.size, 6, none⟩) (Nat.le_refl _) (.string ⟨#[]⟩)).setCell (p := ⟨w.heap.size, 7, none⟩) (Nat.le_refl _) (.int .i64 0))
    clear L0 b0
    go_wp2
    refine bodyPost_ret (v := .tuple #[.agg #[.slice none 0 0, .slice none 0 0, .int .i64 0, .int .i64 0, .int .i64 0, .string ⟨#[]⟩, .string ⟨#[]⟩, .int .i64 0], .bool false]) (by simp [results, Try.results8, go_sem, *]) rfl ?_
    exact ⟨none, 0, none, 0, rfl, World.ownsRow_nil _ _ _ _, World.ownsRow_nil _ _ _ _, bz.out⟩
  · rw [show newOc n = ⟨[⟨1, n⟩], [], n, 0, 0⟩ from by unfold newOc; rw [hn]; rfl]
    go_enter Try.func8, Try.ntmps8
    go_wp2_with fail
    generalize w.alloc (.cells #[.slice none 0 0, .slice none 0 0, .int .i64 0, .int .i64 0, .int .i64 0, .string ⟨#[]⟩, .string ⟨#[]⟩, .int .i64 0] 29) = W at L0 b0 h0 ⊢
    refine (inRange_any n 1 9999 _).mono ?_
    rintro e w' ⟨rfl, rfl⟩
    rw [hn]
    have hal := (Below.refl W.heap.size W).alloc (Nat.le_refl _) (.cells #[.int .i64 1, .int .i64 n] 74)
    have L1 := L0.below hal L0.lt
    have ho := World.ownsRow_lit (base := w.heap.size) (e := 74) (size := 2) W #[.int .i64 1, .int .i64 n] 1 b0.size (by decide) rfl
    have b1 := b0.trans (hal.mono b0.size)
    obtain ⟨W2, hW2⟩ : ∃ W2, W.alloc (.cells #[.int .i64 1, .int .i64 n] 74) = W2 := ⟨_, rfl⟩
    rw [hW2] at L1 ho b1
    generalize hg : W.heap.size = g at ho
    have z0 := L1.cell 0
    have z1 := L1.cell 1
    have z2 := L1.cell 2
    have z3 := L1.cell 3
    have z4 := L1.cell 4
    have z5 := L1.cell 5
    have z6 := L1.cell 6
    have z7 := L1.cell 7
    simp only [List.getElem?_cons_zero, List.getElem?_cons_succ] at z0 z1 z2 z3 z4 z5 z6 z7
    have f0 := L1.frozen 0
    have f1 := L1.frozen 1
    have f2 := L1.frozen 2
    have f3 := L1.frozen 3
    have f4 := L1.frozen 4
    have f5 := L1.frozen 5
    have f6 := L1.frozen 6
    have f7 := L1.frozen 7
    have bz := Lib.hid ((((((((b1.setCell (p := ⟨w.heap.size, 0, none⟩) (Nat.le_refl _) (.slice (some ⟨g, 0, none⟩) 1 1)).setCell (p := ⟨w.heap.size, 1, none⟩) (Nat.le_refl _) (.slice none 0 0)).setCell (p := ⟨w.heap.size, 2, none⟩) (Nat.le_refl _) (.int .i64 n)).setCell (p := ⟨w.heap.size, 3, none⟩) (Nat.le_refl _) (.int .i64 0)).setCell (p := ⟨w.heap.size, 4, none⟩) (Nat.le_refl _) (.int .i64 0)).setCell (p := ⟨w.heap.size, 5, none⟩) (Nat.le_refl _) (.string ⟨#[]⟩)).setCell (p := ⟨w.heap.size, 6, none⟩) (Nat.le_refl _) (.string ⟨#[]⟩)).setCell (p := ⟨w.heap.size, 7, none⟩) (Nat.le_refl _) (.int .i64 0))
    have hT := Lib.hid (ownsRow_setOther (ownsRow_setOther (ownsRow_setOther (ownsRow_setOther (ownsRow_setOther (ownsRow_setOther (ownsRow_setOther (ownsRow_setOther ho L1 ne_ct 0 (.slice (some ⟨g, 0, none⟩) 1 1)) (L1.set 0 (.slice (some ⟨g, 0, none⟩) 1 1)) ne_ct 1 (.slice none 0 0)) ((L1.set 0 (.slice (some ⟨g, 0, none⟩) 1 1)).set 1 (.slice none 0 0)) ne_ct 2 (.int .i64 n)) (((L1.set 0 (.slice (some ⟨g, 0, none⟩) 1 1)).set 1 (.slice none 0 0)).set 2 (.int .i64 n)) ne_ct 3 (.int .i64 0)) ((((L1.set 0 (.slice (some ⟨g, 0, none⟩) 1 1)).set 1 (.slice none 0 0)).set 2 (.int .i64 n)).set 3 (.int .i64 0)) ne_ct 4 (.int .i64 0)) (((((L1.set 0 (.slice (some ⟨g, 0, none⟩) 1 1)).set 1 (.slice none 0 0)).set 2 (.int .i64 n)).set 3 (.int .i64 0)).set 4 (.int .i64 0)) ne_ct 5 (.string ⟨#[]⟩)) ((((((L1.set 0 (.slice (some ⟨g, 0, none⟩) 1 1)).set 1 (.slice none 0 0)).set 2 (.int .i64 n)).set 3 (.int .i64 0)).set 4 (.int .i64 0)).set 5 (.string ⟨#[]⟩)) ne_ct 6 (.string ⟨#[]⟩)) (((((((L1.set 0 (.slice (some ⟨g, 0, none⟩) 1 1)).set 1 (.slice none 0 0)).set 2 (.int .i64 n)).set 3 (.int .i64 0)).set 4 (.int .i64 0)).set 5 (.string ⟨#[]⟩)).set 6 (.string ⟨#[]⟩)) ne_ct 7 (.int .i64 0))
    clear L0 b0 L1 b1 hal ho h0
    go_wp2_with (rw [hW2]; clear hW2; rw [hg])
    refine bodyPost_ret (v := .tuple #[.agg #[.slice (some ⟨g, 0, none⟩) 1 1, .slice none 0 0, .int .i64 n, .int .i64 0, .int .i64 0, .string ⟨#[]⟩, .string ⟨#[]⟩, .int .i64 0], .bool true]) (by simp [results, Try.results8, go_sem, *]) rfl ?_
    exact ⟨some ⟨g, 0, none⟩, 1, none, 0, rfl, hT.out, World.ownsRow_nil _ _ _ _, bz.out⟩

theorem eqEmptyLog (w : World) : Calls Try.prog 37 #[.agg #[.string ⟨#[]⟩, .string ⟨#[]⟩, .int .i64 0], .agg #[.string ⟨#[]⟩, .string ⟨#[]⟩, .int .i64 0]] w fun e w' => e = .returned (.bool true) ∧ Below w.heap.size w w' := by
  go_enter Try.func37, Try.ntmps37
  go_wp2
  go_ret
  refine ⟨rfl, ?_⟩
  go_grown
set_option maxHeartbeats 1000000 in
theorem specNew_any (n : Int) (w : World) : Calls Try.prog 7 #[.int .i64 n] w (GivesCon w (newOc n) (inR n 1 9999)) := by
  have L0 := Lies.new w 29 #[.slice none 0 0, .slice none 0 0, .int .i64 0, .int .i64 0, .int .i64 0, .string ⟨#[]⟩, .string ⟨#[]⟩, .int .i64 0]
  have b0 := (Below.refl w.heap.size w).alloc (Nat.le_refl _) (.cells #[.slice none 0 0, .slice none 0 0, .int .i64 0, .int .i64 0, .int .i64 0, .string ⟨#[]⟩, .string ⟨#[]⟩, .int .i64 0] 29)
  have cS := fun W => specStep_any (Oc.zero.at none 0 none 0) ⟨1, 1, 0, n⟩ W ⟨SlcR.nil _ _ _ _, SlcR.nil _ _ _ _⟩ (Nat.le_refl _)
  have hD := newOc_try n
  unfold tryD at hD
  simp only [show (Oc.zero.at none 0 none 0).c = Oc.zero from rfl, show goodOff (Oc.zero.at none 0 none 0) = Oc.zero.good from rfl, hD] at cS
  clear hD
  cases hn : inR n 1 9999
  · rw [show newOc n = Oc.zero from by unfold newOc; rw [hn]; rfl]
    rw [hn] at cS
    go_enter Try.func7, Try.ntmps7
    go_wp2_with fail
    generalize w.alloc (.cells #[.slice none 0 0, .slice none 0 0, .int .i64 0, .int .i64 0, .int .i64 0, .string ⟨#[]⟩, .string ⟨#[]⟩, .int .i64 0] 29) = W at L0 b0 ⊢
    refine (cS W).mono ?_
    rintro e W1 ⟨TA, tc, OA, oc, rfl, hT, hO, hb1⟩
    simp only [Bool.false_eq_true, if_false, resOf, Option.getD_none, Option.isSome_none, Oc.at, Off.val, Oc.zero, List.length_nil]
    have hal := (Below.refl W1.heap.size W1).alloc (Nat.le_refl _) (.cells #[.slice TA 0 tc, .slice OA 0 oc, .int .i64 0, .int .i64 0, .int .i64 0] 25)
    have b1 := b0.trans ((bthen hb1 hal).mono b0.size)
    have L1 := (L0.below hb1 L0.lt).below hal (Nat.lt_of_lt_of_le L0.lt hb1.size)
    clear hal hb1 b0 L0 hT hO
    have z0 := L1.cell 0
    have z1 := L1.cell 1
    have z2 := L1.cell 2
    have z3 := L1.cell 3
    have z4 := L1.cell 4
    have z5 := L1.cell 5
    have z6 := L1.cell 6
    have z7 := L1.cell 7
    simp only [List.getElem?_cons_zero, List.getElem?_cons_succ] at z0 z1 z2 z3 z4 z5 z6 z7
    have f0 := L1.frozen 0
    have f1 := L1.frozen 1
    have f2 := L1.frozen 2
    have f3 := L1.frozen 3
    have f4 := L1.frozen 4
    have f5 := L1.frozen 5
    have f6 := L1.frozen 6
    have f7 := L1.frozen 7
    have bz := Lib.hid ((((((((b1.setCell (p := ⟨w.heap.size, 0, none⟩) (Nat.le_refl _) (.slice none 0 0)).setCell (p := ⟨w.heap.size, 1, none⟩) (Nat.le_refl _) (.slice none 0 0)).setCell (p := ⟨w.heap.size, 2, none⟩) (Nat.le_refl _) (.int .i64 0)).setCell (p := ⟨w.heap.size, 3, none⟩) (Nat.le_refl _) (.int .i64 0)).setCell (p := ⟨w.heap.size, 4, none⟩) (Nat.le_refl _) (.int .i64 0)).setCell (p := ⟨w.heap.size, 5, none⟩) (Nat.le_refl _) (.string ⟨#[]⟩)).setCell (p := ⟨w.heap.size, 6, none⟩) (Nat.le_refl _) (.string ⟨#[]⟩)).setCell (p := ⟨w.heap.size, 7, none⟩) (Nat.le_refl _) (.int .i64 0))
    clear L1 b1
    go_wp2
    refine bodyPost_ret (v := .tuple #[.agg #[.slice none 0 0, .slice none 0 0, .int .i64 0, .int .i64 0, .int .i64 0, .string ⟨#[]⟩, .string ⟨#[]⟩, .int .i64 0], .bool false]) (by simp [results, Try.results7, go_sem, *]) rfl ?_
    exact ⟨none, 0, none, 0, rfl, World.ownsRow_nil _ _ _ _, World.ownsRow_nil _ _ _ _, bz.out⟩
  · rw [show newOc n = ⟨[⟨1, n⟩], [], n, 0, 0⟩ from by unfold newOc; rw [hn]; rfl]
    rw [hn] at cS
    go_enter Try.func7, Try.ntmps7
    go_wp2_with fail
    generalize w.alloc (.cells #[.slice none 0 0, .slice none 0 0, .int .i64 0, .int .i64 0, .int .i64 0, .string ⟨#[]⟩, .string ⟨#[]⟩, .int .i64 0] 29) = W at L0 b0 ⊢
    refine (cS W).mono ?_
    rintro e W1 ⟨TA, tc, OA, oc, rfl, hT, hO, hb1⟩
    simp only [if_true, resOf, Option.getD_some] at hT hO
    simp only [if_true, resOf, Option.getD_some, Option.isSome_some, Oc.at, Off.val]
    simp only [List.length_cons, List.length_nil, Nat.zero_add] at hT hO ⊢
    have hal := (Below.refl W1.heap.size W1).alloc (Nat.le_refl _) (.cells #[.slice TA 1 tc, .slice OA 0 oc, .int .i64 n, .int .i64 0, .int .i64 0] 25)
    have b1 := b0.trans ((bthen hb1 hal).mono b0.size)
    have L1 := (L0.below hb1 L0.lt).below hal (Nat.lt_of_lt_of_le L0.lt hb1.size)
    have P := Lies.new W1 25 #[.slice TA 1 tc, .slice OA 0 oc, .int .i64 n, .int .i64 0, .int .i64 0]
    have hT1 := ownsRow_lower (ownsRow_below hT hal) b0.size
    have hO1 := ownsRow_lower (ownsRow_below hO hal) b0.size
    clear hal hb1 b0 L0 hT hO
    have z0 := L1.cell 0
    have z1 := L1.cell 1
    have z2 := L1.cell 2
    have z3 := L1.cell 3
    have z4 := L1.cell 4
    have z5 := L1.cell 5
    have z6 := L1.cell 6
    have z7 := L1.cell 7
    simp only [List.getElem?_cons_zero, List.getElem?_cons_succ] at z0 z1 z2 z3 z4 z5 z6 z7
    have f0 := L1.frozen 0
    have f1 := L1.frozen 1
    have f2 := L1.frozen 2
    have f3 := L1.frozen 3
    have f4 := L1.frozen 4
    have f5 := L1.frozen 5
    have f6 := L1.frozen 6
    have f7 := L1.frozen 7
    have p0 := P.cell 0
    have p1 := P.cell 1
    have p2 := P.cell 2
    have p3 := P.cell 3
    have p4 := P.cell 4
    simp only [List.getElem?_cons_zero, List.getElem?_cons_succ] at p0 p1 p2 p3 p4
    have bz := Lib.hid ((((((((b1.setCell (p := ⟨w.heap.size, 0, none⟩) (Nat.le_refl _) (.slice TA 1 tc)).setCell (p := ⟨w.heap.size, 1, none⟩) (Nat.le_refl _) (.slice OA 0 oc)).setCell (p := ⟨w.heap.size, 2, none⟩) (Nat.le_refl _) (.int .i64 n)).setCell (p := ⟨w.heap.size, 3, none⟩) (Nat.le_refl _) (.int .i64 0)).setCell (p := ⟨w.heap.size, 4, none⟩) (Nat.le_refl _) (.int .i64 0)).setCell (p := ⟨w.heap.size, 5, none⟩) (Nat.le_refl _) (.string ⟨#[]⟩)).setCell (p := ⟨w.heap.size, 6, none⟩) (Nat.le_refl _) (.string ⟨#[]⟩)).setCell (p := ⟨w.heap.size, 7, none⟩) (Nat.le_refl _) (.int .i64 0))
    have hT := Lib.hid (ownsRow_setOther (ownsRow_setOther (ownsRow_setOther (ownsRow_setOther (ownsRow_setOther (ownsRow_setOther (ownsRow_setOther (ownsRow_setOther hT1 L1 ne_ct 0 (.slice TA 1 tc)) (L1.set 0 (.slice TA 1 tc)) ne_ct 1 (.slice OA 0 oc)) ((L1.set 0 (.slice TA 1 tc)).set 1 (.slice OA 0 oc)) ne_ct 2 (.int .i64 n)) (((L1.set 0 (.slice TA 1 tc)).set 1 (.slice OA 0 oc)).set 2 (.int .i64 n)) ne_ct 3 (.int .i64 0)) ((((L1.set 0 (.slice TA 1 tc)).set 1 (.slice OA 0 oc)).set 2 (.int .i64 n)).set 3 (.int .i64 0)) ne_ct 4 (.int .i64 0)) (((((L1.set 0 (.slice TA 1 tc)).set 1 (.slice OA 0 oc)).set 2 (.int .i64 n)).set 3 (.int .i64 0)).set 4 (.int .i64 0)) ne_ct 5 (.string ⟨#[]⟩)) ((((((L1.set 0 (.slice TA 1 tc)).set 1 (.slice OA 0 oc)).set 2 (.int .i64 n)).set 3 (.int .i64 0)).set 4 (.int .i64 0)).set 5 (.string ⟨#[]⟩)) ne_ct 6 (.string ⟨#[]⟩)) (((((((L1.set 0 (.slice TA 1 tc)).set 1 (.slice OA 0 oc)).set 2 (.int .i64 n)).set 3 (.int .i64 0)).set 4 (.int .i64 0)).set 5 (.string ⟨#[]⟩)).set 6 (.string ⟨#[]⟩)) ne_ct 7 (.int .i64 0))
    have hO := Lib.hid (ownsRow_setOther (ownsRow_setOther (ownsRow_setOther (ownsRow_setOther (ownsRow_setOther (ownsRow_setOther (ownsRow_setOther (ownsRow_setOther hO1 L1 ne_co 0 (.slice TA 1 tc)) (L1.set 0 (.slice TA 1 tc)) ne_co 1 (.slice OA 0 oc)) ((L1.set 0 (.slice TA 1 tc)).set 1 (.slice OA 0 oc)) ne_co 2 (.int .i64 n)) (((L1.set 0 (.slice TA 1 tc)).set 1 (.slice OA 0 oc)).set 2 (.int .i64 n)) ne_co 3 (.int .i64 0)) ((((L1.set 0 (.slice TA 1 tc)).set 1 (.slice OA 0 oc)).set 2 (.int .i64 n)).set 3 (.int .i64 0)) ne_co 4 (.int .i64 0)) (((((L1.set 0 (.slice TA 1 tc)).set 1 (.slice OA 0 oc)).set 2 (.int .i64 n)).set 3 (.int .i64 0)).set 4 (.int .i64 0)) ne_co 5 (.string ⟨#[]⟩)) ((((((L1.set 0 (.slice TA 1 tc)).set 1 (.slice OA 0 oc)).set 2 (.int .i64 n)).set 3 (.int .i64 0)).set 4 (.int .i64 0)).set 5 (.string ⟨#[]⟩)) ne_co 6 (.string ⟨#[]⟩)) (((((((L1.set 0 (.slice TA 1 tc)).set 1 (.slice OA 0 oc)).set 2 (.int .i64 n)).set 3 (.int .i64 0)).set 4 (.int .i64 0)).set 5 (.string ⟨#[]⟩)).set 6 (.string ⟨#[]⟩)) ne_co 7 (.int .i64 0))
    clear L1 b1 hT1 hO1 P
    go_wp2
    refine bodyPost_ret (v := .tuple #[.agg #[.slice TA 1 tc, .slice OA 0 oc, .int .i64 n, .int .i64 0, .int .i64 0, .string ⟨#[]⟩, .string ⟨#[]⟩, .int .i64 0], .bool true]) (by simp [results, Try.results7, go_sem, *]) rfl ?_
    exact ⟨TA, tc, OA, oc, rfl, hT.out, hO.out, bz.out⟩


/-- Consoles with empty logs: likeness, marks, held marks. -/
abbrev conV (y : Oc) (TA : Option Addr) (tc : Nat) (OA : Option Addr) (oc : Nat) : Value := .agg #[.slice TA y.t.length tc, .slice OA y.o.length oc, .int .i64 y.got, .int .i64 y.sold, .int .i64 y.missed, .string ⟨#[]⟩, .string ⟨#[]⟩, .int .i64 0]
set_option maxHeartbeats 1000000 in
theorem eqCon_own {y : Oc} {TA OA TA' OA' : Option Addr} {tc oc tc' oc' : Nat} {w : World} (h : OffR w w.heap.size (y.at TA tc OA oc)) (h' : OffR w w.heap.size (y.at TA' tc' OA' oc')) :
    Calls Try.prog 9 #[conV y TA tc OA oc, conV y TA' tc' OA' oc'] w fun e w' => e = .returned (.bool true) ∧ Below w.heap.size w w' := by
  have L1 := (Lies.new w 29 #[.slice TA y.t.length tc, .slice OA y.o.length oc, .int .i64 y.got, .int .i64 y.sold, .int .i64 y.missed, .string ⟨#[]⟩, .string ⟨#[]⟩, .int .i64 0]).alloc (.cells #[.slice TA' y.t.length tc', .slice OA' y.o.length oc', .int .i64 y.got, .int .i64 y.sold, .int .i64 y.missed, .string ⟨#[]⟩, .string ⟨#[]⟩, .int .i64 0] 29)
  have L2 := Lies.new1 w (.cells #[.slice TA y.t.length tc, .slice OA y.o.length oc, .int .i64 y.got, .int .i64 y.sold, .int .i64 y.missed, .string ⟨#[]⟩, .string ⟨#[]⟩, .int .i64 0] 29) 29 #[.slice TA' y.t.length tc', .slice OA' y.o.length oc', .int .i64 y.got, .int .i64 y.sold, .int .i64 y.missed, .string ⟨#[]⟩, .string ⟨#[]⟩, .int .i64 0]
  have b2 := ((Below.refl w.heap.size w).alloc (Nat.le_refl _) (.cells #[.slice TA y.t.length tc, .slice OA y.o.length oc, .int .i64 y.got, .int .i64 y.sold, .int .i64 y.missed, .string ⟨#[]⟩, .string ⟨#[]⟩, .int .i64 0] 29)).alloc (by simp) (.cells #[.slice TA' y.t.length tc', .slice OA' y.o.length oc', .int .i64 y.got, .int .i64 y.sold, .int .i64 y.missed, .string ⟨#[]⟩, .string ⟨#[]⟩, .int .i64 0] 29)
  go_enter Try.func9, Try.ntmps9
  go_wp2_with fail
  generalize ((w.alloc (.cells #[.slice TA y.t.length tc, .slice OA y.o.length oc, .int .i64 y.got, .int .i64 y.sold, .int .i64 y.missed, .string ⟨#[]⟩, .string ⟨#[]⟩, .int .i64 0] 29)).alloc (.cells #[.slice TA' y.t.length tc', .slice OA' y.o.length oc', .int .i64 y.got, .int .i64 y.sold, .int .i64 y.missed, .string ⟨#[]⟩, .string ⟨#[]⟩, .int .i64 0] 29)) = W at L1 L2 b2 ⊢
  refine (eqOwn (h.up b2 (Nat.le_refl _)) (h'.up b2 (Nat.le_refl _))).mono ?_
  rintro e w1 ⟨rfl, hb1⟩
  have M1 := L1.below hb1 L1.lt
  have M2 := L2.below hb1 L2.lt
  have c0 := M1.cell 0
  have c1 := M1.cell 1
  have c2 := M1.cell 2
  have c3 := M1.cell 3
  have c4 := M1.cell 4
  have c5 := M1.cell 5
  have c6 := M1.cell 6
  have c7 := M1.cell 7
  simp only [List.getElem?_cons_zero, List.getElem?_cons_succ] at c0 c1 c2 c3 c4 c5 c6 c7
  have d0 := M2.cell 0
  have d1 := M2.cell 1
  have d2 := M2.cell 2
  have d3 := M2.cell 3
  have d4 := M2.cell 4
  have d5 := M2.cell 5
  have d6 := M2.cell 6
  have d7 := M2.cell 7
  simp only [List.getElem?_cons_zero, List.getElem?_cons_succ] at d0 d1 d2 d3 d4 d5 d6 d7
  clear L1 L2 M1 M2 h h'
  go_wp2_with fail
  refine (eqEmptyLog w1).mono ?_
  rintro e w2 ⟨rfl, hb2⟩
  go_wp2
  go_ret
  exact ⟨rfl, bthen b2 (bthen hb1 hb2)⟩
set_option maxHeartbeats 1000000 in
theorem markCon_all (TA OA : Option Addr) (tc oc B : Nat) (y : Oc) (cs ds : List Value) (w : World) (hn : y.t.length ≤ 1000000) (hm : y.o.length ≤ 1000000) (hB : B ≤ w.heap.size)
    (hT : OwnS w B 74 2 TA y.t.length cs) (hO : OwnS w B 100 3 OA y.o.length ds) :
    Calls Try.prog 10 #[conV y TA tc OA oc, .int .i64 1] w fun e w' => e = .returned (.int .i64 (1 + 2 * y.t.length + 3 * y.o.length)) ∧
      OwnS w' B 74 2 TA y.t.length (encIs (ramp 1 (y.t.length * 2))) ∧ OwnS w' B 100 3 OA y.o.length (encIs (ramp (1 + 2 * y.t.length) (y.o.length * 3))) ∧ Below B w w' ∧ ∀ g cs', Lies w g 29 cs' → Lies w' g 29 cs' := by
  have L1 := Lies.new w 29 #[.slice TA y.t.length tc, .slice OA y.o.length oc, .int .i64 y.got, .int .i64 y.sold, .int .i64 y.missed, .string ⟨#[]⟩, .string ⟨#[]⟩, .int .i64 0]
  have hal := (Below.refl w.heap.size w).alloc (Nat.le_refl _) (.cells #[.slice TA y.t.length tc, .slice OA y.o.length oc, .int .i64 y.got, .int .i64 y.sold, .int .i64 y.missed, .string ⟨#[]⟩, .string ⟨#[]⟩, .int .i64 0] 29)
  have hK : ∀ g cs', Lies w g 29 cs' → Lies (w.alloc (.cells #[.slice TA y.t.length tc, .slice OA y.o.length oc, .int .i64 y.got, .int .i64 y.sold, .int .i64 y.missed, .string ⟨#[]⟩, .string ⟨#[]⟩, .int .i64 0] 29)) g 29 cs' := fun g cs' h => h.alloc _
  go_enter Try.func10, Try.ntmps10
  go_wp2_with fail
  generalize (w.alloc (.cells #[.slice TA y.t.length tc, .slice OA y.o.length oc, .int .i64 y.got, .int .i64 y.sold, .int .i64 y.missed, .string ⟨#[]⟩, .string ⟨#[]⟩, .int .i64 0] 29)) = W at L1 hal hK ⊢
  refine (markOwn_all TA OA tc oc y.t.length y.o.length B y.got y.sold y.missed 1 cs ds W (by omega) (by omega) hn hm (Nat.le_trans hB hal.size) (hT.then hal) (hO.then hal)).mono ?_
  rintro e w1 ⟨rfl, h1, h2, hb1, hk⟩
  have HK := Lib.hid (fun g cs' (h : Lies w g 29 cs') => hk g _ cs' (Ne.symm ne_ct) (Ne.symm ne_co) (hK g cs' h))
  clear hk hK
  go_wp2
  go_ret
  exact ⟨rfl, h1, h2, (hal.mono hB).trans hb1, HK.out⟩
set_option maxHeartbeats 1000000 in
theorem heldCon_all (TA OA : Option Addr) (tc oc : Nat) (y : Oc) (w : World) (hn : y.t.length ≤ 1000000) (hm : y.o.length ≤ 1000000)
    (hT : SlcR w w.heap.size 2 TA y.t.length (encIs (ramp 1 (y.t.length * 2)))) (hO : SlcR w w.heap.size 3 OA y.o.length (encIs (ramp (1 + 2 * y.t.length) (y.o.length * 3)))) :
    Calls Try.prog 11 #[conV y TA tc OA oc, .int .i64 1] w fun e w' => e = .returned (.int .i64 (1 + 2 * y.t.length + 3 * y.o.length)) ∧ Below w.heap.size w w' := by
  have hal := (Below.refl w.heap.size w).alloc (Nat.le_refl _) (.cells #[.slice TA y.t.length tc, .slice OA y.o.length oc, .int .i64 y.got, .int .i64 y.sold, .int .i64 y.missed, .string ⟨#[]⟩, .string ⟨#[]⟩, .int .i64 0] 29)
  go_enter Try.func11, Try.ntmps11
  go_wp2_with fail
  generalize (w.alloc (.cells #[.slice TA y.t.length tc, .slice OA y.o.length oc, .int .i64 y.got, .int .i64 y.sold, .int .i64 y.missed, .string ⟨#[]⟩, .string ⟨#[]⟩, .int .i64 0] 29)) = W at hal ⊢
  refine (heldOwn_any TA OA tc oc y.t.length y.o.length y.got y.sold y.missed 1 W (by omega) (by omega) hn hm (SlcR.up hT hal (Nat.le_refl _)) (SlcR.up hO hal (Nat.le_refl _))).mono ?_
  rintro e w1 ⟨rfl, hb1⟩
  go_wp2
  go_ret
  exact ⟨rfl, bthen hal hb1⟩

set_option maxRecDepth 100000 in
set_option maxHeartbeats 4000000 in
set_option linter.unusedVariables false in
theorem lawNew_of (n : Int) (y : Oc) (b : Bool) (w : World) (yt : y.t.length ≤ 1000000) (yo : y.o.length ≤ 1000000)
    (hS : ∀ (W : World), Calls Try.prog 7 #[.int .i64 n] W (GivesCon W y b))
    (hI : ∀ (W : World), Calls Try.prog 8 #[.int .i64 n] W (GivesCon W y b)) :
    Calls Try.prog 3 #[.int .i64 n] w fun e w' => e = .returned (.bool true) ∧ Below w.heap.size w w' := by
  have hbo : (b != b) = false := by simp
  go_enter Try.func3, Try.ntmps3
  go_wp2_with fail
  refine (hS w).mono ?_
  rintro e w1 ⟨TA6, tc6, OA6, oc6, rfl, hT, hO, hb1⟩
  have hal := (Below.refl w1.heap.size w1).alloc (Nat.le_refl _) (.cells #[.slice TA6 y.t.length tc6, .slice OA6 y.o.length oc6, .int .i64 y.got, .int .i64 y.sold, .int .i64 y.missed, .string ⟨#[]⟩, .string ⟨#[]⟩, .int .i64 0] 29)
  have K6 := Lies.new w1 29 #[.slice TA6 y.t.length tc6, .slice OA6 y.o.length oc6, .int .i64 y.got, .int .i64 y.sold, .int .i64 y.missed, .string ⟨#[]⟩, .string ⟨#[]⟩, .int .i64 0]
  have hT6 := ownsRow_below hT hal
  have hO6 := ownsRow_below hO hal
  have hx := bthen hb1 hal
  have hxe := hx
  obtain ⟨w2, hW2⟩ : ∃ w2, w1.alloc (.cells #[.slice TA6 y.t.length tc6, .slice OA6 y.o.length oc6, .int .i64 y.got, .int .i64 y.sold, .int .i64 y.missed, .string ⟨#[]⟩, .string ⟨#[]⟩, .int .i64 0] 29) = w2 := ⟨_, rfl⟩
  rw [hW2] at hx K6 hT6 hO6
  have hgl := K6.lt
  have hge := hb1.size
  clear hal
  generalize hg : w1.heap.size = g6 at K6 hgl hge
  have HW2 := Lib.hid hW2
  have HG2 := Lib.hid hg
  clear hT hO hb1 hW2 hg
  have B2 := hx
  have R6 : OffR w2 w2.heap.size (y.at TA6 tc6 OA6 oc6) := offR_row hT6 hO6
  clear hT6 hO6 hx hxe
  go_wp2_with fail
  rw [HW2.out, HG2.out]
  clear HW2 HG2
  refine (hI w2).mono ?_
  rintro e w3 ⟨TA9, tc9, OA9, oc9, rfl, hT, hO, hb3⟩
  have hal := (Below.refl w3.heap.size w3).alloc (Nat.le_refl _) (.cells #[.slice TA9 y.t.length tc9, .slice OA9 y.o.length oc9, .int .i64 y.got, .int .i64 y.sold, .int .i64 y.missed, .string ⟨#[]⟩, .string ⟨#[]⟩, .int .i64 0] 29)
  have K9 := Lies.new w3 29 #[.slice TA9 y.t.length tc9, .slice OA9 y.o.length oc9, .int .i64 y.got, .int .i64 y.sold, .int .i64 y.missed, .string ⟨#[]⟩, .string ⟨#[]⟩, .int .i64 0]
  have hT9 := ownsRow_below hT hal
  have hO9 := ownsRow_below hO hal
  have hx := bthen hb3 hal
  have hxe := hx
  obtain ⟨w4, hW2⟩ : ∃ w4, w3.alloc (.cells #[.slice TA9 y.t.length tc9, .slice OA9 y.o.length oc9, .int .i64 y.got, .int .i64 y.sold, .int .i64 y.missed, .string ⟨#[]⟩, .string ⟨#[]⟩, .int .i64 0] 29) = w4 := ⟨_, rfl⟩
  rw [hW2] at hx K9 hT9 hO9
  have hgl := K9.lt
  have hge := hb3.size
  clear hal
  generalize hg : w3.heap.size = g9 at K9 hgl hge
  have HW2 := Lib.hid hW2
  have HG2 := Lib.hid hg
  clear hT hO hb3 hW2 hg
  have O9 := OwnS.of hT9
  have U9 := OwnS.of hO9
  have B4 := bthen B2 hx
  have K64 := K6.below hx K6.lt
  have R64 := R6.below hx
  have g24 := hx.size
  have HE := Lib.hid (fun W TA OA TA' OA' tc oc tc' oc' h h' => @eqCon_own y TA OA TA' OA' tc oc tc' oc' W h h')
  obtain ⟨mk, hmk⟩ : ∃ mk : Int, 1 + 2 * (y.t.length : Int) + 3 * (y.o.length : Int) = mk := ⟨_, rfl⟩
  have hmk0 : 0 ≤ mk := by omega
  have hmm : (mk != mk) = false := by simp
  have HH := fun W h h' => heldCon_all TA9 OA9 tc9 oc9 y W yt yo h h'
  simp only [hmk] at HH
  have HH := Lib.hid HH
  clear hT9 hO9 R6 B2 hx hS

  have K6e := K6.below hxe K6.lt
  have d0 := K6e.cell 0
  have d1 := K6e.cell 1
  have d2 := K6e.cell 2
  have d3 := K6e.cell 3
  have d4 := K6e.cell 4
  have d5 := K6e.cell 5
  have d6 := K6e.cell 6
  have d7 := K6e.cell 7
  simp only [List.getElem?_cons_zero, List.getElem?_cons_succ] at d0 d1 d2 d3 d4 d5 d6 d7
  clear K6 K6e hxe
  go_wp2_with fail
  rw [HW2.out, HG2.out]
  clear HW2 HG2
  refine (HE.out w4 TA9 OA9 TA6 OA6 tc9 oc9 tc6 oc6 (offR_own O9 U9) (R64.mono (by omega))).mono ?_
  rintro e w5 ⟨rfl, hx⟩
  clear d0 d1 d2 d3 d4 d5 d6 d7
  have B5 := bthen B4 hx
  have K65 := K64.below hx K64.lt
  have R65 := R64.below (hx.mono (by omega))
  have K95 := K9.below hx K9.lt
  have O95 := O9.then hx
  have U95 := U9.then hx
  have g45 := hx.size
  clear K64 R64 K9 O9 U9 B4 hx
  have c0 := K95.cell 0
  have c1 := K95.cell 1
  have c2 := K95.cell 2
  have c3 := K95.cell 3
  have c4 := K95.cell 4
  have c5 := K95.cell 5
  have c6 := K95.cell 6
  have c7 := K95.cell 7
  simp only [List.getElem?_cons_zero, List.getElem?_cons_succ] at c0 c1 c2 c3 c4 c5 c6 c7
  go_wp2_with fail
  refine (markCon_all TA9 OA9 tc9 oc9 w2.heap.size y _ _ w5 yt yo (by omega) O95 U95).mono ?_
  rintro e w6 ⟨rfl, O6, U6, hx, hK⟩
  rw [hmk]
  clear hmk c0 c1 c2 c3 c4 c5 c6 c7
  have B6 := B5.trans (hx.mono (by have := B5.size; omega))
  have K66 := hK _ _ K65
  have K96 := hK _ _ K95
  have R66 := R65.below hx
  have g56 := hx.size
  clear K65 K95 R65 O95 U95 hK hx B5
  have c0 := K96.cell 0
  have c1 := K96.cell 1
  have c2 := K96.cell 2
  have c3 := K96.cell 3
  have c4 := K96.cell 4
  have c5 := K96.cell 5
  have c6 := K96.cell 6
  have c7 := K96.cell 7
  simp only [List.getElem?_cons_zero, List.getElem?_cons_succ] at c0 c1 c2 c3 c4 c5 c6 c7
  go_wp2_with fail
  refine (HH.out w6 O6.reads U6.reads).mono ?_
  rintro e w7 ⟨rfl, hx⟩
  clear c0 c1 c2 c3 c4 c5 c6 c7
  have B7 := bthen B6 hx
  have K67 := K66.below hx K66.lt
  have R67 := R66.below (hx.mono (by omega))
  have K97 := K96.below hx K96.lt
  have O7 := O6.then hx
  have U7 := U6.then hx
  have g67 := hx.size
  clear K66 K96 R66 O6 U6 hx B6
  go_wp2_with fail
  refine (hI w7).mono ?_
  rintro e w8 ⟨TA4, tc4, OA4, oc4, rfl, hT, hO, hb8⟩
  have hal := (Below.refl w8.heap.size w8).alloc (Nat.le_refl _) (.cells #[.slice TA4 y.t.length tc4, .slice OA4 y.o.length oc4, .int .i64 y.got, .int .i64 y.sold, .int .i64 y.missed, .string ⟨#[]⟩, .string ⟨#[]⟩, .int .i64 0] 29)
  have K4 := Lies.new w8 29 #[.slice TA4 y.t.length tc4, .slice OA4 y.o.length oc4, .int .i64 y.got, .int .i64 y.sold, .int .i64 y.missed, .string ⟨#[]⟩, .string ⟨#[]⟩, .int .i64 0]
  have hT4 := ownsRow_below hT hal
  have hO4 := ownsRow_below hO hal
  have hx := bthen hb8 hal
  have hxe := hx
  obtain ⟨w9, hW2⟩ : ∃ w9, w8.alloc (.cells #[.slice TA4 y.t.length tc4, .slice OA4 y.o.length oc4, .int .i64 y.got, .int .i64 y.sold, .int .i64 y.missed, .string ⟨#[]⟩, .string ⟨#[]⟩, .int .i64 0] 29) = w9 := ⟨_, rfl⟩
  rw [hW2] at hx K4 hT4 hO4
  have hgl := K4.lt
  have hge := hb8.size
  clear hal
  generalize hg : w8.heap.size = g4 at K4 hgl hge
  have HW2 := Lib.hid hW2
  have HG2 := Lib.hid hg
  clear hT hO hb8 hW2 hg
  have R4 : OffR w9 w9.heap.size (y.at TA4 tc4 OA4 oc4) := offR_row hT4 hO4
  have B9 := bthen B7 hx
  have K69 := K67.below hx K67.lt
  have R69 := R67.below (hx.mono (by omega))
  have K99 := K97.below hx K97.lt
  have O9 := O7.then hx
  have U9 := U7.then hx
  have g79 := hx.size
  clear hT4 hO4 R67 K97 O7 U7 hx B7 hI
  have K6e := K67.below hxe K67.lt
  have d0 := K6e.cell 0
  have d1 := K6e.cell 1
  have d2 := K6e.cell 2
  have d3 := K6e.cell 3
  have d4 := K6e.cell 4
  have d5 := K6e.cell 5
  have d6 := K6e.cell 6
  have d7 := K6e.cell 7
  simp only [List.getElem?_cons_zero, List.getElem?_cons_succ] at d0 d1 d2 d3 d4 d5 d6 d7
  clear K67 K6e hxe
  go_wp2_with fail
  rw [HW2.out, HG2.out]
  clear HW2 HG2
  refine (HE.out w9 TA4 OA4 TA6 OA6 tc4 oc4 tc6 oc6 R4 (R69.mono (by omega))).mono ?_
  rintro e w10 ⟨rfl, hx⟩
  clear d0 d1 d2 d3 d4 d5 d6 d7
  have B10 := bthen B9 hx
  have K910 := K99.below hx K99.lt
  have O10 := O9.then hx
  have U10 := U9.then hx
  clear K69 R69 K99 K4 R4 O9 U9 hx B9 HE
  have c0 := K910.cell 0
  have c1 := K910.cell 1
  have c2 := K910.cell 2
  have c3 := K910.cell 3
  have c4 := K910.cell 4
  have c5 := K910.cell 5
  have c6 := K910.cell 6
  have c7 := K910.cell 7
  simp only [List.getElem?_cons_zero, List.getElem?_cons_succ] at c0 c1 c2 c3 c4 c5 c6 c7
  go_wp2_with fail
  refine (HH.out w10 O10.reads U10.reads).mono ?_
  rintro e w11 ⟨rfl, hx⟩
  clear c0 c1 c2 c3 c4 c5 c6 c7
  go_wp2
  go_ret
  exact ⟨rfl, bthen B10 hx⟩
theorem lawNewConsole_any (n : Int) (_h1 : -9223372036854775808 ≤ n) (_h2 : n ≤ 9223372036854775807) (w : World) :
    Calls Try.prog 3 #[.int .i64 n] w fun e w' => e = .returned (.bool true) ∧ Below w.heap.size w w' :=
  lawNew_of n _ _ w (newOc_len n).1 (newOc_len n).2 (fun W => specNew_any n W) (fun W => implNew_any n W)
end Go.Proofs.Ytdiojhjkcholiaa
