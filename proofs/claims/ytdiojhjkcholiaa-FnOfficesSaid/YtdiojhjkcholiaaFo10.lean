/- Fo10: the texts SpecMakA SpecMakB SpecMakC SpecMakD SpecMakE SpecMake TryD StepA StepGet, joined into one file. -/
import Derived.Test.YtdiojhjkcholiaaFo04
import Derived.Test.YtdiojhjkcholiaaFo05
import Derived.Test.YtdiojhjkcholiaaFo07
import Derived.Test.YtdiojhjkcholiaaFo09

/- A step in the reference: l32Make, get. (Printed by gen_specmake.py) -/
namespace Go.Proofs.Ytdiojhjkcholiaa
open Go.RowKit

set_option maxRecDepth 100000 in
set_option maxHeartbeats 4000000 in
theorem make_get (x : Off) (st pe va : Int) (hst : 1 ≤ st ∧ st ≤ 99) (hva : 1 ≤ va ∧ va ≤ 9999) (w : World) (h : OffR w w.heap.size x) (G : Good x) (hcap : x.t.length ≤ x.tc) :
    Calls Try.prog 42 #[x.val, .agg #[.int .i64 1, .int .i64 st, .int .i64 pe, .int .i64 va]] w (GivesMk w ((⟨inTrays x.t st va, x.o, x.got + va, x.sold, x.missed⟩ : Oc), ((⟨inTrays x.t st va, x.o, x.got + va, x.sold, x.missed⟩ : Oc)).good)) := by
  have L1 := ((Lies.new w 25 #[.slice x.TA x.t.length x.tc, .slice x.OA x.o.length x.oc, .int .i64 x.got, .int .i64 x.sold, .int .i64 x.missed]).alloc (.cells #[.int .i64 1, .int .i64 st, .int .i64 pe, .int .i64 va] 45)).alloc (.cells #[.slice none 0 0, .slice none 0 0, .int .i64 0, .int .i64 0, .int .i64 0] 25)
  have L2 := (Lies.new1 w (.cells #[.slice x.TA x.t.length x.tc, .slice x.OA x.o.length x.oc, .int .i64 x.got, .int .i64 x.sold, .int .i64 x.missed] 25) 45 #[.int .i64 1, .int .i64 st, .int .i64 pe, .int .i64 va]).alloc (.cells #[.slice none 0 0, .slice none 0 0, .int .i64 0, .int .i64 0, .int .i64 0] 25)
  have L3 := Lies.new2 w (.cells #[.slice x.TA x.t.length x.tc, .slice x.OA x.o.length x.oc, .int .i64 x.got, .int .i64 x.sold, .int .i64 x.missed] 25) (.cells #[.int .i64 1, .int .i64 st, .int .i64 pe, .int .i64 va] 45) 25 #[.slice none 0 0, .slice none 0 0, .int .i64 0, .int .i64 0, .int .i64 0]
  have b1 := (Below.refl w.heap.size w).alloc (Nat.le_refl _) (.cells #[.slice x.TA x.t.length x.tc, .slice x.OA x.o.length x.oc, .int .i64 x.got, .int .i64 x.sold, .int .i64 x.missed] 25)
  have b2 := b1.alloc b1.size (.cells #[.int .i64 1, .int .i64 st, .int .i64 pe, .int .i64 va] 45)
  have b3 := b2.alloc b2.size (.cells #[.slice none 0 0, .slice none 0 0, .int .i64 0, .int .i64 0, .int .i64 0] 25)
  have Sx := G.small
  have htl := G.tl
  have hol := G.ol
  have htc := G.tcs
  obtain ⟨m1, m2⟩ := G.m
  obtain ⟨g1, g2⟩ := G.s
  obtain ⟨o1, o2⟩ := G.g
  clear b1 b2 G
  obtain ⟨v1, v2⟩ := hva
  obtain ⟨gd, hgd⟩ : ∃ gd, ((⟨inTrays x.t st va, x.o, x.got + va, x.sold, x.missed⟩ : Oc)).good = gd := ⟨_, rfl⟩
  rw [hgd]
  have HG := Lib.hid hgd; clear hgd
  have i4 : IntKind.i64.wrap (x.got + va) = x.got + va := IntWalk.i64_in _ (by omega)
  go_enter Try.func42, Try.ntmps42
  go_wp2_with fail
  generalize (((w.alloc (.cells #[.slice x.TA x.t.length x.tc, .slice x.OA x.o.length x.oc, .int .i64 x.got, .int .i64 x.sold, .int .i64 x.missed] 25)).alloc (.cells #[.int .i64 1, .int .i64 st, .int .i64 pe, .int .i64 va] 45)).alloc (.cells #[.slice none 0 0, .slice none 0 0, .int .i64 0, .int .i64 0, .int .i64 0] 25)) = W at L1 L2 L3 b3 ⊢
  have hR := h.up b3 (Nat.le_refl _)
  have hR1 := hR
  have L1a := L1
  have L2a := L2
  have L3a := L3
  have b4 := b3
  have hW0 : w.heap.size ≤ W.heap.size := b4.size
  clear L1 L2 L3 b3 hR h

  refine (inX x st va W hR1 Sx (by omega) hcap).mono ?_
  rintro e W2 ⟨v2, rfl, ⟨TA, tc, OA, oc, hv2, hT, hO⟩, hb2⟩
  have hv2 : v2 = .agg #[.slice TA (inTrays x.t st va).length tc, .slice OA x.o.length oc, .int .i64 x.got, .int .i64 x.sold, .int .i64 x.missed] := hv2
  subst hv2
  simp only at hT hO
  have hal := (Below.refl W2.heap.size W2).alloc (Nat.le_refl _) (.cells #[.slice TA (inTrays x.t st va).length tc, .slice OA x.o.length oc, .int .i64 x.got, .int .i64 x.sold, .int .i64 x.missed] 25)
  have L1b := (L1a.below hb2 L1a.lt).below hal (Nat.lt_of_lt_of_le L1a.lt hb2.size)
  have L2b := (L2a.below hb2 L2a.lt).below hal (Nat.lt_of_lt_of_le L2a.lt hb2.size)
  have L3b := (L3a.below hb2 L3a.lt).below hal (Nat.lt_of_lt_of_le L3a.lt hb2.size)
  have P := Lies.new W2 25 #[.slice TA (inTrays x.t st va).length tc, .slice OA x.o.length oc, .int .i64 x.got, .int .i64 x.sold, .int .i64 x.missed]
  have hT3 := ownsRow_lower (ownsRow_below hT hal) hW0
  have hO3 := ownsRow_lower (ownsRow_below hO hal) hW0
  have b5 := b4.trans ((bthen hb2 hal).mono b4.size)
  have hgg : w.heap.size + 1 + 1 < W2.heap.size := Nat.lt_of_lt_of_le L3a.lt hb2.size
  obtain ⟨W3, hW3⟩ : ∃ W3, W2.alloc (.cells #[.slice TA (inTrays x.t st va).length tc, .slice OA x.o.length oc, .int .i64 x.got, .int .i64 x.sold, .int .i64 x.missed] 25) = W3 := ⟨_, rfl⟩
  rw [hW3] at L1b L2b L3b P hT3 hO3 b5
  generalize hg2 : W2.heap.size = g2 at P hgg
  have c0 := L1b.cell 0
  have c1 := L1b.cell 1
  have c2 := L1b.cell 2
  have c3 := L1b.cell 3
  have c4 := L1b.cell 4
  simp only [List.getElem?_cons_zero, List.getElem?_cons_succ] at c0 c1 c2 c3 c4
  have s0 := L2b.cell 0
  have s1 := L2b.cell 1
  have s2 := L2b.cell 2
  have s3 := L2b.cell 3
  simp only [List.getElem?_cons_zero, List.getElem?_cons_succ] at s0 s1 s2 s3
  have p0 := P.cell 0
  have p1 := P.cell 1
  have p2 := P.cell 2
  have p3 := P.cell 3
  have p4 := P.cell 4
  simp only [List.getElem?_cons_zero, List.getElem?_cons_succ] at p0 p1 p2 p3 p4
  have pf0 := P.frozen 0
  have pf1 := P.frozen 1
  have pf2 := P.frozen 2
  have pf3 := P.frozen 3
  have pf4 := P.frozen 4
  have P4 := P.set 2 (.int .i64 (x.got + va))
  have L1c := L1b.other (p := ⟨g2, 2, none⟩) (by simp; omega) (.int .i64 (x.got + va))
  have L2c := L2b.other (p := ⟨g2, 2, none⟩) (by simp; omega) (.int .i64 (x.got + va))
  have L3c := L3b.other (p := ⟨g2, 2, none⟩) (by simp; omega) (.int .i64 (x.got + va))
  have hT4 := ownsRow_setOther hT3 P ne_owt 2 (.int .i64 (x.got + va))
  have hO4 := ownsRow_setOther hO3 P ne_owo 2 (.int .i64 (x.got + va))
  have b6 := b5.setCell (p := ⟨g2, 2, none⟩) (show w.heap.size ≤ g2 by omega) (.int .i64 (x.got + va))
  simp only [List.set_cons_zero, List.set_cons_succ] at P4
  obtain ⟨W4, hW4⟩ : ∃ W4, W3.setCell ⟨g2, 2, none⟩ (.int .i64 (x.got + va)) = W4 := ⟨_, rfl⟩
  rw [hW4] at P4 L1c L2c L3c hT4 hO4 b6
  clear hb2 hal hT hO L1a L2a L3a b4 hR1
  go_wp2_with (first | (rw [hW3]; clear hW3; rw [hg2]) | (rw [hW4]; clear hW4))
  clear c0 c1 c2 c3 c4 s0 s1 s2 s3 p0 p1 p2 p3 p4 pf0 pf1 pf2 pf3 pf4

  obtain ⟨D1, hD1⟩ : ∃ D : World → Prop, D = (fun W9 => ∃ W8 TA tc OA oc, Below W4.heap.size W4 W8 ∧ W8.ownsRow w.heap.size 74 2 (.slice TA ((⟨inTrays x.t st va, x.o, x.got + va, x.sold, x.missed⟩ : Oc)).t.length tc) ((⟨inTrays x.t st va, x.o, x.got + va, x.sold, x.missed⟩ : Oc)).t.length (((⟨inTrays x.t st va, x.o, x.got + va, x.sold, x.missed⟩ : Oc)).t.flatMap Tray.enc) ∧ W8.ownsRow w.heap.size 100 3 (.slice OA ((⟨inTrays x.t st va, x.o, x.got + va, x.sold, x.missed⟩ : Oc)).o.length oc) ((⟨inTrays x.t st va, x.o, x.got + va, x.sold, x.missed⟩ : Oc)).o.length (((⟨inTrays x.t st va, x.o, x.got + va, x.sold, x.missed⟩ : Oc)).o.flatMap Outing.enc) ∧ W9 = stOff W8 (w.heap.size + 1 + 1) (.slice TA ((⟨inTrays x.t st va, x.o, x.got + va, x.sold, x.missed⟩ : Oc)).t.length tc) (.slice OA ((⟨inTrays x.t st va, x.o, x.got + va, x.sold, x.missed⟩ : Oc)).o.length oc) (.int .i64 ((⟨inTrays x.t st va, x.o, x.got + va, x.sold, x.missed⟩ : Oc)).got) (.int .i64 ((⟨inTrays x.t st va, x.o, x.got + va, x.sold, x.missed⟩ : Oc)).sold) (.int .i64 ((⟨inTrays x.t st va, x.o, x.got + va, x.sold, x.missed⟩ : Oc)).missed)) := ⟨_, rfl⟩
  have hDL : ∀ W, D1 W → ∃ W8 v0 v1 v2 v3 v4, Below W4.heap.size W4 W8 ∧ W = stOff W8 (w.heap.size + 1 + 1) v0 v1 v2 v3 v4 := by
    rw [hD1]
    rintro _ ⟨W8, TA, tc, OA, oc, hq, _, _, e⟩
    exact ⟨W8, _, _, _, _, _, hq, e⟩
  have HD1 := Lib.hid hD1; clear hD1
  refine wp_region_factsR (Sw 3 (fun W9 => Below W4.heap.size W4 W9) D1) (fun i w1 w2 => i ∉ [3] → Below w1.heap.size w1 w2) (by kernel_rfl) (by kernel_rfl) (by kernel_rfl) (Sw.start (Below.refl _ _).drew) ?_
  simp only [fillOps, Act.put, List.setIfInBounds_toArray, List.set_cons_zero, List.set_cons_succ, Nat.zero_add, Nat.reduceAdd]
  apply wpFactsR_val
  case h1 =>
    intro vs L9 w9 hG9 hC9 hB K9 hK9
    replace hC9 := hC9.before hG9 (by kernel_rfl)
    have q0 : w9.cell? ⟨g2, 0, none⟩ = some (.slice TA (inTrays x.t st va).length tc) := (P4.below hC9 P4.lt).cell 0
    have q1 : w9.cell? ⟨g2, 1, none⟩ = some (.slice OA x.o.length oc) := (P4.below hC9 P4.lt).cell 1
    have q2 : w9.cell? ⟨g2, 2, none⟩ = some (.int .i64 (x.got + va)) := (P4.below hC9 P4.lt).cell 2
    have q3 : w9.cell? ⟨g2, 3, none⟩ = some (.int .i64 x.sold) := (P4.below hC9 P4.lt).cell 3
    have q4 : w9.cell? ⟨g2, 4, none⟩ = some (.int .i64 x.missed) := (P4.below hC9 P4.lt).cell 4
    simp only [Act.put, List.setIfInBounds_toArray, List.set_cons_zero, List.set_cons_succ] at hK9
    go_simp
    exact hK9 _ _ rfl (Sw.stay hG9 (by kernel_rfl) (by decide) hC9) (fun _ => Below.refl _ _)
  apply wpFactsR_val
  case h1 =>
    intro vs L9 w9 hG9 hC9 hB K9 hK9
    replace hC9 := hC9.before hG9 (by kernel_rfl)
    have q0 : w9.cell? ⟨g2, 0, none⟩ = some (.slice TA (inTrays x.t st va).length tc) := (P4.below hC9 P4.lt).cell 0
    have q1 : w9.cell? ⟨g2, 1, none⟩ = some (.slice OA x.o.length oc) := (P4.below hC9 P4.lt).cell 1
    have q2 : w9.cell? ⟨g2, 2, none⟩ = some (.int .i64 (x.got + va)) := (P4.below hC9 P4.lt).cell 2
    have q3 : w9.cell? ⟨g2, 3, none⟩ = some (.int .i64 x.sold) := (P4.below hC9 P4.lt).cell 3
    have q4 : w9.cell? ⟨g2, 4, none⟩ = some (.int .i64 x.missed) := (P4.below hC9 P4.lt).cell 4
    simp only [Act.put, List.setIfInBounds_toArray, List.set_cons_zero, List.set_cons_succ] at hK9
    go_simp
    exact hK9 _ _ rfl (Sw.stay hG9 (by kernel_rfl) (by decide) hC9) (fun _ => Below.refl _ _)
  apply wpFactsR_val
  case h1 =>
    intro vs L9 w9 hG9 hC9 hB K9 hK9
    replace hC9 := hC9.before hG9 (by kernel_rfl)
    have d1 := FactN.eq (hB 1 _ (by kernel_rfl) (by kernel_rfl) rfl (by decide))
    simp only [d1] at hK9 ⊢
    simp only [Act.put, List.setIfInBounds_toArray, List.set_cons_zero, List.set_cons_succ] at hK9
    go_simp
    refine (show Calls _ _ _ _ (fun e w' => e = .returned (.bool gd) ∧ Below w9.heap.size w9 w') from by rw [← HG.out]; exact goodV (show OwnV w9 w.heap.size (⟨inTrays x.t st va, x.o, x.got + va, x.sold, x.missed⟩ : Oc) _ from ⟨TA, tc, OA, oc, rfl, ownsRow_below hT4 hC9, ownsRow_below hO4 hC9⟩)).mono ?_
    rintro en w8 ⟨rfl, hb8⟩
    exact hK9 _ _ rfl (Sw.stay hG9 (by kernel_rfl) (by decide) (hC9.trans (hb8.mono hC9.size))) (fun _ => hb8)
  refine wpFactsR_val (undef) (fun vs L9 w9 hG9 hC9 hB K9 hK9 => ?hg3) ?rg3
  case hg3 =>
    replace hC9 := hC9.here hG9
    have d0 := FactN.eq (hB 0 _ (by kernel_rfl) (by kernel_rfl) rfl (by decide))
    simp only [d0] at hK9 ⊢
    have Lr := L3c.below hC9 L3c.lt
    have z0 := Lr.cell 0
    have z1 := Lr.cell 1
    have z2 := Lr.cell 2
    have z3 := Lr.cell 3
    have z4 := Lr.cell 4
    simp only [List.getElem?_cons_zero, List.getElem?_cons_succ] at z0 z1 z2 z3 z4
    have f0 := Lr.frozen 0
    have f1 := Lr.frozen 1
    have f2 := Lr.frozen 2
    have f3 := Lr.frozen 3
    have f4 := Lr.frozen 4
    clear Lr
    go_simp
    exact hK9 _ _ rfl (Sw.turn (by rw [HD1.out]; exact ⟨w9, TA, tc, OA, oc, hC9, ownsRow_below hT4 hC9, ownsRow_below hO4 hC9, rfl⟩)) (fun hq => (hq (by decide)).elim)
  apply wpFactsR_val
  case h1 =>
    intro vs L9 w9 hG9 hC9 hB K9 hK9
    replace hC9 := hC9.after hG9 (by kernel_rfl)
    have d2 := FactN.eq (hB 2 _ (by kernel_rfl) (by kernel_rfl) rfl (by decide))
    simp only [d2] at hK9 ⊢
    simp only [Act.put, List.setIfInBounds_toArray, List.set_cons_zero, List.set_cons_succ] at hK9
    go_simp
    exact hK9 _ _ rfl (Sw.on hG9 (by kernel_rfl) hC9) (fun _ => Below.refl _ _)
  refine wpFactsR_nil fun vs L9 w9 hL9 hC9 hB => ?_
  replace hC9 := hC9.done hL9 (by decide)
  have dl := FactN.eq (hB 4 _ rfl rfl (by decide))
  simp only [dl]
  clear hB dl
  rw [HD1.out] at hC9
  obtain ⟨W8, TA, tc, OA, oc, hb8, h1, h2, rfl⟩ := hC9
  have Lr := L3c.below hb8 L3c.lt
  have bz := (b6.trans (hb8.mono b6.size)).trans (stOff_below (v0 := .slice TA ((⟨inTrays x.t st va, x.o, x.got + va, x.sold, x.missed⟩ : Oc)).t.length tc) (v1 := .slice OA ((⟨inTrays x.t st va, x.o, x.got + va, x.sold, x.missed⟩ : Oc)).o.length oc) (v2 := .int .i64 ((⟨inTrays x.t st va, x.o, x.got + va, x.sold, x.missed⟩ : Oc)).got) (v3 := .int .i64 ((⟨inTrays x.t st va, x.o, x.got + va, x.sold, x.missed⟩ : Oc)).sold) (v4 := .int .i64 ((⟨inTrays x.t st va, x.o, x.got + va, x.sold, x.missed⟩ : Oc)).missed) Lr (show w.heap.size ≤ (w.heap.size + 1 + 1) by omega))
  have HT := Lib.hid (stOff_row (v0 := .slice TA ((⟨inTrays x.t st va, x.o, x.got + va, x.sold, x.missed⟩ : Oc)).t.length tc) (v1 := .slice OA ((⟨inTrays x.t st va, x.o, x.got + va, x.sold, x.missed⟩ : Oc)).o.length oc) (v2 := .int .i64 ((⟨inTrays x.t st va, x.o, x.got + va, x.sold, x.missed⟩ : Oc)).got) (v3 := .int .i64 ((⟨inTrays x.t st va, x.o, x.got + va, x.sold, x.missed⟩ : Oc)).sold) (v4 := .int .i64 ((⟨inTrays x.t st va, x.o, x.got + va, x.sold, x.missed⟩ : Oc)).missed) Lr h1 ne_owt)
  have HO := Lib.hid (stOff_row (v0 := .slice TA ((⟨inTrays x.t st va, x.o, x.got + va, x.sold, x.missed⟩ : Oc)).t.length tc) (v1 := .slice OA ((⟨inTrays x.t st va, x.o, x.got + va, x.sold, x.missed⟩ : Oc)).o.length oc) (v2 := .int .i64 ((⟨inTrays x.t st va, x.o, x.got + va, x.sold, x.missed⟩ : Oc)).got) (v3 := .int .i64 ((⟨inTrays x.t st va, x.o, x.got + va, x.sold, x.missed⟩ : Oc)).sold) (v4 := .int .i64 ((⟨inTrays x.t st va, x.o, x.got + va, x.sold, x.missed⟩ : Oc)).missed) Lr h2 ne_owo)
  have PR := stOff_is (v0 := .slice TA ((⟨inTrays x.t st va, x.o, x.got + va, x.sold, x.missed⟩ : Oc)).t.length tc) (v1 := .slice OA ((⟨inTrays x.t st va, x.o, x.got + va, x.sold, x.missed⟩ : Oc)).o.length oc) (v2 := .int .i64 ((⟨inTrays x.t st va, x.o, x.got + va, x.sold, x.missed⟩ : Oc)).got) (v3 := .int .i64 ((⟨inTrays x.t st va, x.o, x.got + va, x.sold, x.missed⟩ : Oc)).sold) (v4 := .int .i64 ((⟨inTrays x.t st va, x.o, x.got + va, x.sold, x.missed⟩ : Oc)).missed) Lr
  generalize stOff W8 (w.heap.size + 1 + 1) (.slice TA ((⟨inTrays x.t st va, x.o, x.got + va, x.sold, x.missed⟩ : Oc)).t.length tc) (.slice OA ((⟨inTrays x.t st va, x.o, x.got + va, x.sold, x.missed⟩ : Oc)).o.length oc) (.int .i64 ((⟨inTrays x.t st va, x.o, x.got + va, x.sold, x.missed⟩ : Oc)).got) (.int .i64 ((⟨inTrays x.t st va, x.o, x.got + va, x.sold, x.missed⟩ : Oc)).sold) (.int .i64 ((⟨inTrays x.t st va, x.o, x.got + va, x.sold, x.missed⟩ : Oc)).missed) = W9 at bz HT HO PR ⊢
  have k0 := PR.cell 0
  have k1 := PR.cell 1
  have k2 := PR.cell 2
  have k3 := PR.cell 3
  have k4 := PR.cell 4
  simp only [List.getElem?_cons_zero, List.getElem?_cons_succ] at k0 k1 k2 k3 k4
  clear h1 h2 Lr hb8 hL9 PR
  go_wp2
  refine bodyPost_ret (v := .tuple #[.agg #[.slice TA ((⟨inTrays x.t st va, x.o, x.got + va, x.sold, x.missed⟩ : Oc)).t.length tc, .slice OA ((⟨inTrays x.t st va, x.o, x.got + va, x.sold, x.missed⟩ : Oc)).o.length oc, .int .i64 ((⟨inTrays x.t st va, x.o, x.got + va, x.sold, x.missed⟩ : Oc)).got, .int .i64 ((⟨inTrays x.t st va, x.o, x.got + va, x.sold, x.missed⟩ : Oc)).sold, .int .i64 ((⟨inTrays x.t st va, x.o, x.got + va, x.sold, x.missed⟩ : Oc)).missed], .bool gd]) (by simp [results, Try.results42, go_sem, *]) rfl ?_
  exact ⟨TA, tc, OA, oc, rfl, HT.out, HO.out, bz⟩
end Go.Proofs.Ytdiojhjkcholiaa

/- A step in the reference: l32Make, own. (Printed by gen_specmake.py) -/
namespace Go.Proofs.Ytdiojhjkcholiaa
open Go.RowKit

set_option maxRecDepth 100000 in
set_option maxHeartbeats 4000000 in
theorem make_own (x : Off) (kd st pe va : Int) (hk : (kd == 1) = false) (ht : trayIx x.t st < 0) (w : World) (h : OffR w w.heap.size x) (G : Good x) (hcap : x.t.length ≤ x.tc) :
    Calls Try.prog 42 #[x.val, .agg #[.int .i64 kd, .int .i64 st, .int .i64 pe, .int .i64 va]] w (GivesMk w (x.c, false)) := by
  have L1 := ((Lies.new w 25 #[.slice x.TA x.t.length x.tc, .slice x.OA x.o.length x.oc, .int .i64 x.got, .int .i64 x.sold, .int .i64 x.missed]).alloc (.cells #[.int .i64 kd, .int .i64 st, .int .i64 pe, .int .i64 va] 45)).alloc (.cells #[.slice none 0 0, .slice none 0 0, .int .i64 0, .int .i64 0, .int .i64 0] 25)
  have L2 := (Lies.new1 w (.cells #[.slice x.TA x.t.length x.tc, .slice x.OA x.o.length x.oc, .int .i64 x.got, .int .i64 x.sold, .int .i64 x.missed] 25) 45 #[.int .i64 kd, .int .i64 st, .int .i64 pe, .int .i64 va]).alloc (.cells #[.slice none 0 0, .slice none 0 0, .int .i64 0, .int .i64 0, .int .i64 0] 25)
  have L3 := Lies.new2 w (.cells #[.slice x.TA x.t.length x.tc, .slice x.OA x.o.length x.oc, .int .i64 x.got, .int .i64 x.sold, .int .i64 x.missed] 25) (.cells #[.int .i64 kd, .int .i64 st, .int .i64 pe, .int .i64 va] 45) 25 #[.slice none 0 0, .slice none 0 0, .int .i64 0, .int .i64 0, .int .i64 0]
  have b1 := (Below.refl w.heap.size w).alloc (Nat.le_refl _) (.cells #[.slice x.TA x.t.length x.tc, .slice x.OA x.o.length x.oc, .int .i64 x.got, .int .i64 x.sold, .int .i64 x.missed] 25)
  have b2 := b1.alloc b1.size (.cells #[.int .i64 kd, .int .i64 st, .int .i64 pe, .int .i64 va] 45)
  have b3 := b2.alloc b2.size (.cells #[.slice none 0 0, .slice none 0 0, .int .i64 0, .int .i64 0, .int .i64 0] 25)
  have Sx := G.small
  have htl := G.tl
  have hol := G.ol
  have htc := G.tcs
  obtain ⟨m1, m2⟩ := G.m
  obtain ⟨g1, g2⟩ := G.s
  obtain ⟨o1, o2⟩ := G.g
  clear b1 b2 G
  have htd : decide (trayIx x.t st < 0) = true := decide_eq_true ht
  have HT0 := Lib.hid ht; clear ht
  go_enter Try.func42, Try.ntmps42
  go_wp2_with fail
  generalize (((w.alloc (.cells #[.slice x.TA x.t.length x.tc, .slice x.OA x.o.length x.oc, .int .i64 x.got, .int .i64 x.sold, .int .i64 x.missed] 25)).alloc (.cells #[.int .i64 kd, .int .i64 st, .int .i64 pe, .int .i64 va] 45)).alloc (.cells #[.slice none 0 0, .slice none 0 0, .int .i64 0, .int .i64 0, .int .i64 0] 25)) = W at L1 L2 L3 b3 ⊢
  have hR := h.up b3 (Nat.le_refl _)
  refine (l32Tray_any x st W hR).mono ?_
  rintro e W1 ⟨rfl, hb1⟩
  have hR1 := hR.then hb1
  have L1a := L1.below hb1 L1.lt
  have L2a := L2.below hb1 L2.lt
  have L3a := L3.below hb1 L3.lt
  have b4 := b3.trans (hb1.mono b3.size)
  have hW0 : w.heap.size ≤ W1.heap.size := b4.size
  clear L1 L2 L3 b3 hb1 hR h
  have c0 := L1a.cell 0
  have c1 := L1a.cell 1
  have c2 := L1a.cell 2
  have c3 := L1a.cell 3
  have c4 := L1a.cell 4
  simp only [List.getElem?_cons_zero, List.getElem?_cons_succ] at c0 c1 c2 c3 c4
  have s0 := L2a.cell 0
  have s1 := L2a.cell 1
  have s2 := L2a.cell 2
  have s3 := L2a.cell 3
  simp only [List.getElem?_cons_zero, List.getElem?_cons_succ] at s0 s1 s2 s3

  go_wp2_with fail
  refine (l32Own_any x W1 hR1 (by omega) (by omega)).mono ?_
  rintro e W2 ⟨TA, tc, OA, oc, rfl, hT, hO, hb2⟩
  simp only [Off.c] at hT hO
  have L3b := L3a.below hb2 L3a.lt
  have b5 := b4.trans (hb2.mono b4.size)
  have hT4 := ownsRow_lower hT hW0
  have hO4 := ownsRow_lower hO hW0
  clear c0 c1 c2 c3 c4 s0 s1 s2 s3 L1a L2a L3a b4 hT hO
  have z0 := L3b.cell 0
  have z1 := L3b.cell 1
  have z2 := L3b.cell 2
  have z3 := L3b.cell 3
  have z4 := L3b.cell 4
  simp only [List.getElem?_cons_zero, List.getElem?_cons_succ] at z0 z1 z2 z3 z4
  have f0 := L3b.frozen 0
  have f1 := L3b.frozen 1
  have f2 := L3b.frozen 2
  have f3 := L3b.frozen 3
  have f4 := L3b.frozen 4
  have bz := b5.trans (stOff_below (v0 := .slice TA x.t.length tc) (v1 := .slice OA x.o.length oc) (v2 := .int .i64 x.got) (v3 := .int .i64 x.sold) (v4 := .int .i64 x.missed) L3b (show w.heap.size ≤ w.heap.size + 1 + 1 by omega))
  have HT := Lib.hid (stOff_row (v0 := .slice TA x.t.length tc) (v1 := .slice OA x.o.length oc) (v2 := .int .i64 x.got) (v3 := .int .i64 x.sold) (v4 := .int .i64 x.missed) L3b hT4 ne_owt)
  have HO := Lib.hid (stOff_row (v0 := .slice TA x.t.length tc) (v1 := .slice OA x.o.length oc) (v2 := .int .i64 x.got) (v3 := .int .i64 x.sold) (v4 := .int .i64 x.missed) L3b hO4 ne_owo)
  clear hT4 hO4 b5 hR1 hb2
  simp only [Off.c, Oc.at, Off.val]
  go_wp2
  refine bodyPost_ret (v := .tuple #[.agg #[.slice TA x.t.length tc, .slice OA x.o.length oc, .int .i64 x.got, .int .i64 x.sold, .int .i64 x.missed], .bool false]) (by simp [results, Try.results42, go_sem, *]) rfl ?_
  exact ⟨TA, tc, OA, oc, rfl, HT.out, HO.out, bz⟩
end Go.Proofs.Ytdiojhjkcholiaa

/- A step in the reference: l32Make, sell0. (Printed by gen_specmake.py) -/
namespace Go.Proofs.Ytdiojhjkcholiaa
open Go.RowKit

set_option maxRecDepth 100000 in
set_option maxHeartbeats 4000000 in
theorem make_sell0 (x : Off) (st va : Int) (hst : 1 ≤ st ∧ st ≤ 99) (hva : 1 ≤ va ∧ va ≤ 9999) (ht : 0 ≤ trayIx x.t st) (w : World) (h : OffR w w.heap.size x) (G : Good x) (hcap : x.t.length ≤ x.tc) :
    Calls Try.prog 42 #[x.val, .agg #[.int .i64 4, .int .i64 st, .int .i64 0, .int .i64 va]] w (GivesMk w ((⟨inTrays x.t st (-va), x.o, x.got, x.sold + va, x.missed⟩ : Oc), ((⟨inTrays x.t st (-va), x.o, x.got, x.sold + va, x.missed⟩ : Oc)).good)) := by
  have L1 := ((Lies.new w 25 #[.slice x.TA x.t.length x.tc, .slice x.OA x.o.length x.oc, .int .i64 x.got, .int .i64 x.sold, .int .i64 x.missed]).alloc (.cells #[.int .i64 4, .int .i64 st, .int .i64 0, .int .i64 va] 45)).alloc (.cells #[.slice none 0 0, .slice none 0 0, .int .i64 0, .int .i64 0, .int .i64 0] 25)
  have L2 := (Lies.new1 w (.cells #[.slice x.TA x.t.length x.tc, .slice x.OA x.o.length x.oc, .int .i64 x.got, .int .i64 x.sold, .int .i64 x.missed] 25) 45 #[.int .i64 4, .int .i64 st, .int .i64 0, .int .i64 va]).alloc (.cells #[.slice none 0 0, .slice none 0 0, .int .i64 0, .int .i64 0, .int .i64 0] 25)
  have L3 := Lies.new2 w (.cells #[.slice x.TA x.t.length x.tc, .slice x.OA x.o.length x.oc, .int .i64 x.got, .int .i64 x.sold, .int .i64 x.missed] 25) (.cells #[.int .i64 4, .int .i64 st, .int .i64 0, .int .i64 va] 45) 25 #[.slice none 0 0, .slice none 0 0, .int .i64 0, .int .i64 0, .int .i64 0]
  have b1 := (Below.refl w.heap.size w).alloc (Nat.le_refl _) (.cells #[.slice x.TA x.t.length x.tc, .slice x.OA x.o.length x.oc, .int .i64 x.got, .int .i64 x.sold, .int .i64 x.missed] 25)
  have b2 := b1.alloc b1.size (.cells #[.int .i64 4, .int .i64 st, .int .i64 0, .int .i64 va] 45)
  have b3 := b2.alloc b2.size (.cells #[.slice none 0 0, .slice none 0 0, .int .i64 0, .int .i64 0, .int .i64 0] 25)
  have Sx := G.small
  have htl := G.tl
  have hol := G.ol
  have htc := G.tcs
  obtain ⟨m1, m2⟩ := G.m
  obtain ⟨g1, g2⟩ := G.s
  obtain ⟨o1, o2⟩ := G.g
  clear b1 b2 G
  obtain ⟨v1, v2⟩ := hva
  obtain ⟨gd, hgd⟩ : ∃ gd, ((⟨inTrays x.t st (-va), x.o, x.got, x.sold + va, x.missed⟩ : Oc)).good = gd := ⟨_, rfl⟩
  rw [hgd]
  have HG := Lib.hid hgd; clear hgd
  have i3 : IntKind.i64.wrap (-va) = -va := IntWalk.i64_in _ (by omega)
  have i4 : IntKind.i64.wrap (x.sold + va) = x.sold + va := IntWalk.i64_in _ (by omega)
  have htd : decide (trayIx x.t st < 0) = false := decide_eq_false (by omega)
  have HT0 := Lib.hid ht; clear ht
  go_enter Try.func42, Try.ntmps42
  go_wp2_with fail
  generalize (((w.alloc (.cells #[.slice x.TA x.t.length x.tc, .slice x.OA x.o.length x.oc, .int .i64 x.got, .int .i64 x.sold, .int .i64 x.missed] 25)).alloc (.cells #[.int .i64 4, .int .i64 st, .int .i64 0, .int .i64 va] 45)).alloc (.cells #[.slice none 0 0, .slice none 0 0, .int .i64 0, .int .i64 0, .int .i64 0] 25)) = W at L1 L2 L3 b3 ⊢
  have hR := h.up b3 (Nat.le_refl _)
  refine (l32Tray_any x st W hR).mono ?_
  rintro e W1 ⟨rfl, hb1⟩
  have hR1 := hR.then hb1
  have L1a := L1.below hb1 L1.lt
  have L2a := L2.below hb1 L2.lt
  have L3a := L3.below hb1 L3.lt
  have b4 := b3.trans (hb1.mono b3.size)
  have hW0 : w.heap.size ≤ W1.heap.size := b4.size
  clear L1 L2 L3 b3 hb1 hR h
  have c0 := L1a.cell 0
  have c1 := L1a.cell 1
  have c2 := L1a.cell 2
  have c3 := L1a.cell 3
  have c4 := L1a.cell 4
  simp only [List.getElem?_cons_zero, List.getElem?_cons_succ] at c0 c1 c2 c3 c4
  have s0 := L2a.cell 0
  have s1 := L2a.cell 1
  have s2 := L2a.cell 2
  have s3 := L2a.cell 3
  simp only [List.getElem?_cons_zero, List.getElem?_cons_succ] at s0 s1 s2 s3
  go_wp2_with fail

  refine (inX x st (-va) W1 hR1 Sx (by omega) hcap).mono ?_
  rintro e W2 ⟨v2, rfl, ⟨TA, tc, OA, oc, hv2, hT, hO⟩, hb2⟩
  have hv2 : v2 = .agg #[.slice TA (inTrays x.t st (-va)).length tc, .slice OA x.o.length oc, .int .i64 x.got, .int .i64 x.sold, .int .i64 x.missed] := hv2
  subst hv2
  simp only at hT hO
  have hal := (Below.refl W2.heap.size W2).alloc (Nat.le_refl _) (.cells #[.slice TA (inTrays x.t st (-va)).length tc, .slice OA x.o.length oc, .int .i64 x.got, .int .i64 x.sold, .int .i64 x.missed] 25)
  have L1b := (L1a.below hb2 L1a.lt).below hal (Nat.lt_of_lt_of_le L1a.lt hb2.size)
  have L2b := (L2a.below hb2 L2a.lt).below hal (Nat.lt_of_lt_of_le L2a.lt hb2.size)
  have L3b := (L3a.below hb2 L3a.lt).below hal (Nat.lt_of_lt_of_le L3a.lt hb2.size)
  have P := Lies.new W2 25 #[.slice TA (inTrays x.t st (-va)).length tc, .slice OA x.o.length oc, .int .i64 x.got, .int .i64 x.sold, .int .i64 x.missed]
  have hT3 := ownsRow_lower (ownsRow_below hT hal) hW0
  have hO3 := ownsRow_lower (ownsRow_below hO hal) hW0
  have b5 := b4.trans ((bthen hb2 hal).mono b4.size)
  have hgg : w.heap.size + 1 + 1 < W2.heap.size := Nat.lt_of_lt_of_le L3a.lt hb2.size
  clear c0 c1 c2 c3 c4 s0 s1 s2 s3
  obtain ⟨W3, hW3⟩ : ∃ W3, W2.alloc (.cells #[.slice TA (inTrays x.t st (-va)).length tc, .slice OA x.o.length oc, .int .i64 x.got, .int .i64 x.sold, .int .i64 x.missed] 25) = W3 := ⟨_, rfl⟩
  rw [hW3] at L1b L2b L3b P hT3 hO3 b5
  generalize hg2 : W2.heap.size = g2 at P hgg
  have c0 := L1b.cell 0
  have c1 := L1b.cell 1
  have c2 := L1b.cell 2
  have c3 := L1b.cell 3
  have c4 := L1b.cell 4
  simp only [List.getElem?_cons_zero, List.getElem?_cons_succ] at c0 c1 c2 c3 c4
  have s0 := L2b.cell 0
  have s1 := L2b.cell 1
  have s2 := L2b.cell 2
  have s3 := L2b.cell 3
  simp only [List.getElem?_cons_zero, List.getElem?_cons_succ] at s0 s1 s2 s3
  have p0 := P.cell 0
  have p1 := P.cell 1
  have p2 := P.cell 2
  have p3 := P.cell 3
  have p4 := P.cell 4
  simp only [List.getElem?_cons_zero, List.getElem?_cons_succ] at p0 p1 p2 p3 p4
  have pf0 := P.frozen 0
  have pf1 := P.frozen 1
  have pf2 := P.frozen 2
  have pf3 := P.frozen 3
  have pf4 := P.frozen 4
  have P4 := P.set 3 (.int .i64 (x.sold + va))
  have L1c := L1b.other (p := ⟨g2, 3, none⟩) (by simp; omega) (.int .i64 (x.sold + va))
  have L2c := L2b.other (p := ⟨g2, 3, none⟩) (by simp; omega) (.int .i64 (x.sold + va))
  have L3c := L3b.other (p := ⟨g2, 3, none⟩) (by simp; omega) (.int .i64 (x.sold + va))
  have hT4 := ownsRow_setOther hT3 P ne_owt 3 (.int .i64 (x.sold + va))
  have hO4 := ownsRow_setOther hO3 P ne_owo 3 (.int .i64 (x.sold + va))
  have b6 := b5.setCell (p := ⟨g2, 3, none⟩) (show w.heap.size ≤ g2 by omega) (.int .i64 (x.sold + va))
  simp only [List.set_cons_zero, List.set_cons_succ] at P4
  obtain ⟨W4, hW4⟩ : ∃ W4, W3.setCell ⟨g2, 3, none⟩ (.int .i64 (x.sold + va)) = W4 := ⟨_, rfl⟩
  rw [hW4] at P4 L1c L2c L3c hT4 hO4 b6
  clear hb2 hal hT hO L1a L2a L3a b4 hR1
  go_wp2_with (first | (rw [hW3]; clear hW3; rw [hg2]) | (rw [hW4]; clear hW4))
  clear c0 c1 c2 c3 c4 s0 s1 s2 s3 p0 p1 p2 p3 p4 pf0 pf1 pf2 pf3 pf4

  obtain ⟨D1, hD1⟩ : ∃ D : World → Prop, D = (fun W9 => ∃ W8 TA tc OA oc, Below W4.heap.size W4 W8 ∧ W8.ownsRow w.heap.size 74 2 (.slice TA ((⟨inTrays x.t st (-va), x.o, x.got, x.sold + va, x.missed⟩ : Oc)).t.length tc) ((⟨inTrays x.t st (-va), x.o, x.got, x.sold + va, x.missed⟩ : Oc)).t.length (((⟨inTrays x.t st (-va), x.o, x.got, x.sold + va, x.missed⟩ : Oc)).t.flatMap Tray.enc) ∧ W8.ownsRow w.heap.size 100 3 (.slice OA ((⟨inTrays x.t st (-va), x.o, x.got, x.sold + va, x.missed⟩ : Oc)).o.length oc) ((⟨inTrays x.t st (-va), x.o, x.got, x.sold + va, x.missed⟩ : Oc)).o.length (((⟨inTrays x.t st (-va), x.o, x.got, x.sold + va, x.missed⟩ : Oc)).o.flatMap Outing.enc) ∧ W9 = stOff W8 (w.heap.size + 1 + 1) (.slice TA ((⟨inTrays x.t st (-va), x.o, x.got, x.sold + va, x.missed⟩ : Oc)).t.length tc) (.slice OA ((⟨inTrays x.t st (-va), x.o, x.got, x.sold + va, x.missed⟩ : Oc)).o.length oc) (.int .i64 ((⟨inTrays x.t st (-va), x.o, x.got, x.sold + va, x.missed⟩ : Oc)).got) (.int .i64 ((⟨inTrays x.t st (-va), x.o, x.got, x.sold + va, x.missed⟩ : Oc)).sold) (.int .i64 ((⟨inTrays x.t st (-va), x.o, x.got, x.sold + va, x.missed⟩ : Oc)).missed)) := ⟨_, rfl⟩
  have hDL : ∀ W, D1 W → ∃ W8 v0 v1 v2 v3 v4, Below W4.heap.size W4 W8 ∧ W = stOff W8 (w.heap.size + 1 + 1) v0 v1 v2 v3 v4 := by
    rw [hD1]
    rintro _ ⟨W8, TA, tc, OA, oc, hq, _, _, e⟩
    exact ⟨W8, _, _, _, _, _, hq, e⟩
  have HD1 := Lib.hid hD1; clear hD1
  refine wp_region_factsR (Sw 3 (fun W9 => Below W4.heap.size W4 W9) D1) (fun i w1 w2 => i ∉ [3] → Below w1.heap.size w1 w2) (by kernel_rfl) (by kernel_rfl) (by kernel_rfl) (Sw.start (Below.refl _ _).drew) ?_
  simp only [fillOps, Act.put, List.setIfInBounds_toArray, List.set_cons_zero, List.set_cons_succ, Nat.zero_add, Nat.reduceAdd]
  apply wpFactsR_val
  case h1 =>
    intro vs L9 w9 hG9 hC9 hB K9 hK9
    replace hC9 := hC9.before hG9 (by kernel_rfl)
    have q0 : w9.cell? ⟨g2, 0, none⟩ = some (.slice TA (inTrays x.t st (-va)).length tc) := (P4.below hC9 P4.lt).cell 0
    have q1 : w9.cell? ⟨g2, 1, none⟩ = some (.slice OA x.o.length oc) := (P4.below hC9 P4.lt).cell 1
    have q2 : w9.cell? ⟨g2, 2, none⟩ = some (.int .i64 x.got) := (P4.below hC9 P4.lt).cell 2
    have q3 : w9.cell? ⟨g2, 3, none⟩ = some (.int .i64 (x.sold + va)) := (P4.below hC9 P4.lt).cell 3
    have q4 : w9.cell? ⟨g2, 4, none⟩ = some (.int .i64 x.missed) := (P4.below hC9 P4.lt).cell 4
    simp only [Act.put, List.setIfInBounds_toArray, List.set_cons_zero, List.set_cons_succ] at hK9
    go_simp
    exact hK9 _ _ rfl (Sw.stay hG9 (by kernel_rfl) (by decide) hC9) (fun _ => Below.refl _ _)
  apply wpFactsR_val
  case h1 =>
    intro vs L9 w9 hG9 hC9 hB K9 hK9
    replace hC9 := hC9.before hG9 (by kernel_rfl)
    have q0 : w9.cell? ⟨g2, 0, none⟩ = some (.slice TA (inTrays x.t st (-va)).length tc) := (P4.below hC9 P4.lt).cell 0
    have q1 : w9.cell? ⟨g2, 1, none⟩ = some (.slice OA x.o.length oc) := (P4.below hC9 P4.lt).cell 1
    have q2 : w9.cell? ⟨g2, 2, none⟩ = some (.int .i64 x.got) := (P4.below hC9 P4.lt).cell 2
    have q3 : w9.cell? ⟨g2, 3, none⟩ = some (.int .i64 (x.sold + va)) := (P4.below hC9 P4.lt).cell 3
    have q4 : w9.cell? ⟨g2, 4, none⟩ = some (.int .i64 x.missed) := (P4.below hC9 P4.lt).cell 4
    simp only [Act.put, List.setIfInBounds_toArray, List.set_cons_zero, List.set_cons_succ] at hK9
    go_simp
    exact hK9 _ _ rfl (Sw.stay hG9 (by kernel_rfl) (by decide) hC9) (fun _ => Below.refl _ _)
  apply wpFactsR_val
  case h1 =>
    intro vs L9 w9 hG9 hC9 hB K9 hK9
    replace hC9 := hC9.before hG9 (by kernel_rfl)
    have d1 := FactN.eq (hB 1 _ (by kernel_rfl) (by kernel_rfl) rfl (by decide))
    simp only [d1] at hK9 ⊢
    simp only [Act.put, List.setIfInBounds_toArray, List.set_cons_zero, List.set_cons_succ] at hK9
    go_simp
    refine (show Calls _ _ _ _ (fun e w' => e = .returned (.bool gd) ∧ Below w9.heap.size w9 w') from by rw [← HG.out]; exact goodV (show OwnV w9 w.heap.size (⟨inTrays x.t st (-va), x.o, x.got, x.sold + va, x.missed⟩ : Oc) _ from ⟨TA, tc, OA, oc, rfl, ownsRow_below hT4 hC9, ownsRow_below hO4 hC9⟩)).mono ?_
    rintro en w8 ⟨rfl, hb8⟩
    exact hK9 _ _ rfl (Sw.stay hG9 (by kernel_rfl) (by decide) (hC9.trans (hb8.mono hC9.size))) (fun _ => hb8)
  refine wpFactsR_val (undef) (fun vs L9 w9 hG9 hC9 hB K9 hK9 => ?he3) ?re3
  case he3 =>
    replace hC9 := hC9.here hG9
    have d0 := FactN.eq (hB 0 _ (by kernel_rfl) (by kernel_rfl) rfl (by decide))
    simp only [d0] at hK9 ⊢
    have Lr := L3c.below hC9 L3c.lt
    have z0 := Lr.cell 0
    have z1 := Lr.cell 1
    have z2 := Lr.cell 2
    have z3 := Lr.cell 3
    have z4 := Lr.cell 4
    simp only [List.getElem?_cons_zero, List.getElem?_cons_succ] at z0 z1 z2 z3 z4
    have f0 := Lr.frozen 0
    have f1 := Lr.frozen 1
    have f2 := Lr.frozen 2
    have f3 := Lr.frozen 3
    have f4 := Lr.frozen 4
    clear Lr
    go_simp
    exact hK9 _ _ rfl (Sw.turn (by rw [HD1.out]; exact ⟨w9, TA, tc, OA, oc, hC9, ownsRow_below hT4 hC9, ownsRow_below hO4 hC9, rfl⟩)) (fun hq => (hq (by decide)).elim)
  apply wpFactsR_val
  case h1 =>
    intro vs L9 w9 hG9 hC9 hB K9 hK9
    replace hC9 := hC9.after hG9 (by kernel_rfl)
    have d2 := FactN.eq (hB 2 _ (by kernel_rfl) (by kernel_rfl) rfl (by decide))
    simp only [d2] at hK9 ⊢
    simp only [Act.put, List.setIfInBounds_toArray, List.set_cons_zero, List.set_cons_succ] at hK9
    go_simp
    exact hK9 _ _ rfl (Sw.on hG9 (by kernel_rfl) hC9) (fun _ => Below.refl _ _)
  refine wpFactsR_nil fun vs L9 w9 hL9 hC9 hB => ?_
  replace hC9 := hC9.done hL9 (by decide)
  have dl := FactN.eq (hB 4 _ rfl rfl (by decide))
  simp only [dl]
  clear hB dl
  rw [HD1.out] at hC9
  obtain ⟨W8, TA, tc, OA, oc, hb8, h1, h2, rfl⟩ := hC9
  have Lr := L3c.below hb8 L3c.lt
  have bz := (b6.trans (hb8.mono b6.size)).trans (stOff_below (v0 := .slice TA ((⟨inTrays x.t st (-va), x.o, x.got, x.sold + va, x.missed⟩ : Oc)).t.length tc) (v1 := .slice OA ((⟨inTrays x.t st (-va), x.o, x.got, x.sold + va, x.missed⟩ : Oc)).o.length oc) (v2 := .int .i64 ((⟨inTrays x.t st (-va), x.o, x.got, x.sold + va, x.missed⟩ : Oc)).got) (v3 := .int .i64 ((⟨inTrays x.t st (-va), x.o, x.got, x.sold + va, x.missed⟩ : Oc)).sold) (v4 := .int .i64 ((⟨inTrays x.t st (-va), x.o, x.got, x.sold + va, x.missed⟩ : Oc)).missed) Lr (show w.heap.size ≤ (w.heap.size + 1 + 1) by omega))
  have HT := Lib.hid (stOff_row (v0 := .slice TA ((⟨inTrays x.t st (-va), x.o, x.got, x.sold + va, x.missed⟩ : Oc)).t.length tc) (v1 := .slice OA ((⟨inTrays x.t st (-va), x.o, x.got, x.sold + va, x.missed⟩ : Oc)).o.length oc) (v2 := .int .i64 ((⟨inTrays x.t st (-va), x.o, x.got, x.sold + va, x.missed⟩ : Oc)).got) (v3 := .int .i64 ((⟨inTrays x.t st (-va), x.o, x.got, x.sold + va, x.missed⟩ : Oc)).sold) (v4 := .int .i64 ((⟨inTrays x.t st (-va), x.o, x.got, x.sold + va, x.missed⟩ : Oc)).missed) Lr h1 ne_owt)
  have HO := Lib.hid (stOff_row (v0 := .slice TA ((⟨inTrays x.t st (-va), x.o, x.got, x.sold + va, x.missed⟩ : Oc)).t.length tc) (v1 := .slice OA ((⟨inTrays x.t st (-va), x.o, x.got, x.sold + va, x.missed⟩ : Oc)).o.length oc) (v2 := .int .i64 ((⟨inTrays x.t st (-va), x.o, x.got, x.sold + va, x.missed⟩ : Oc)).got) (v3 := .int .i64 ((⟨inTrays x.t st (-va), x.o, x.got, x.sold + va, x.missed⟩ : Oc)).sold) (v4 := .int .i64 ((⟨inTrays x.t st (-va), x.o, x.got, x.sold + va, x.missed⟩ : Oc)).missed) Lr h2 ne_owo)
  have PR := stOff_is (v0 := .slice TA ((⟨inTrays x.t st (-va), x.o, x.got, x.sold + va, x.missed⟩ : Oc)).t.length tc) (v1 := .slice OA ((⟨inTrays x.t st (-va), x.o, x.got, x.sold + va, x.missed⟩ : Oc)).o.length oc) (v2 := .int .i64 ((⟨inTrays x.t st (-va), x.o, x.got, x.sold + va, x.missed⟩ : Oc)).got) (v3 := .int .i64 ((⟨inTrays x.t st (-va), x.o, x.got, x.sold + va, x.missed⟩ : Oc)).sold) (v4 := .int .i64 ((⟨inTrays x.t st (-va), x.o, x.got, x.sold + va, x.missed⟩ : Oc)).missed) Lr
  generalize stOff W8 (w.heap.size + 1 + 1) (.slice TA ((⟨inTrays x.t st (-va), x.o, x.got, x.sold + va, x.missed⟩ : Oc)).t.length tc) (.slice OA ((⟨inTrays x.t st (-va), x.o, x.got, x.sold + va, x.missed⟩ : Oc)).o.length oc) (.int .i64 ((⟨inTrays x.t st (-va), x.o, x.got, x.sold + va, x.missed⟩ : Oc)).got) (.int .i64 ((⟨inTrays x.t st (-va), x.o, x.got, x.sold + va, x.missed⟩ : Oc)).sold) (.int .i64 ((⟨inTrays x.t st (-va), x.o, x.got, x.sold + va, x.missed⟩ : Oc)).missed) = W9 at bz HT HO PR ⊢
  have k0 := PR.cell 0
  have k1 := PR.cell 1
  have k2 := PR.cell 2
  have k3 := PR.cell 3
  have k4 := PR.cell 4
  simp only [List.getElem?_cons_zero, List.getElem?_cons_succ] at k0 k1 k2 k3 k4
  clear h1 h2 Lr hb8 hL9 PR
  go_wp2
  refine bodyPost_ret (v := .tuple #[.agg #[.slice TA ((⟨inTrays x.t st (-va), x.o, x.got, x.sold + va, x.missed⟩ : Oc)).t.length tc, .slice OA ((⟨inTrays x.t st (-va), x.o, x.got, x.sold + va, x.missed⟩ : Oc)).o.length oc, .int .i64 ((⟨inTrays x.t st (-va), x.o, x.got, x.sold + va, x.missed⟩ : Oc)).got, .int .i64 ((⟨inTrays x.t st (-va), x.o, x.got, x.sold + va, x.missed⟩ : Oc)).sold, .int .i64 ((⟨inTrays x.t st (-va), x.o, x.got, x.sold + va, x.missed⟩ : Oc)).missed], .bool gd]) (by simp [results, Try.results42, go_sem, *]) rfl ?_
  exact ⟨TA, tc, OA, oc, rfl, HT.out, HO.out, bz⟩
end Go.Proofs.Ytdiojhjkcholiaa

/- A step in the reference: l32Make, yes. (Printed by gen_specmake.py) -/
namespace Go.Proofs.Ytdiojhjkcholiaa
open Go.RowKit

set_option maxRecDepth 100000 in
set_option maxHeartbeats 4000000 in
theorem make_person_yes (x : Off) (kd st pe va : Int) (r : Oc) (hk : (kd == 1) = false) (hpe : 1 ≤ pe) (ht : 0 ≤ trayIx x.t st) (w : World) (h : OffR w w.heap.size x) (G : Good x) (hcap : x.t.length ≤ x.tc)
    (hP : ∀ W, OffR W W.heap.size x → Calls Try.prog 74 #[x.val, .agg #[.int .i64 kd, .int .i64 st, .int .i64 pe, .int .i64 va]] W (GivesMk W (r, true))) :
    Calls Try.prog 42 #[x.val, .agg #[.int .i64 kd, .int .i64 st, .int .i64 pe, .int .i64 va]] w (GivesMk w (r, r.good)) := by
  have L1 := ((Lies.new w 25 #[.slice x.TA x.t.length x.tc, .slice x.OA x.o.length x.oc, .int .i64 x.got, .int .i64 x.sold, .int .i64 x.missed]).alloc (.cells #[.int .i64 kd, .int .i64 st, .int .i64 pe, .int .i64 va] 45)).alloc (.cells #[.slice none 0 0, .slice none 0 0, .int .i64 0, .int .i64 0, .int .i64 0] 25)
  have L2 := (Lies.new1 w (.cells #[.slice x.TA x.t.length x.tc, .slice x.OA x.o.length x.oc, .int .i64 x.got, .int .i64 x.sold, .int .i64 x.missed] 25) 45 #[.int .i64 kd, .int .i64 st, .int .i64 pe, .int .i64 va]).alloc (.cells #[.slice none 0 0, .slice none 0 0, .int .i64 0, .int .i64 0, .int .i64 0] 25)
  have L3 := Lies.new2 w (.cells #[.slice x.TA x.t.length x.tc, .slice x.OA x.o.length x.oc, .int .i64 x.got, .int .i64 x.sold, .int .i64 x.missed] 25) (.cells #[.int .i64 kd, .int .i64 st, .int .i64 pe, .int .i64 va] 45) 25 #[.slice none 0 0, .slice none 0 0, .int .i64 0, .int .i64 0, .int .i64 0]
  have b1 := (Below.refl w.heap.size w).alloc (Nat.le_refl _) (.cells #[.slice x.TA x.t.length x.tc, .slice x.OA x.o.length x.oc, .int .i64 x.got, .int .i64 x.sold, .int .i64 x.missed] 25)
  have b2 := b1.alloc b1.size (.cells #[.int .i64 kd, .int .i64 st, .int .i64 pe, .int .i64 va] 45)
  have b3 := b2.alloc b2.size (.cells #[.slice none 0 0, .slice none 0 0, .int .i64 0, .int .i64 0, .int .i64 0] 25)
  have Sx := G.small
  have htl := G.tl
  have hol := G.ol
  have htc := G.tcs
  obtain ⟨m1, m2⟩ := G.m
  obtain ⟨g1, g2⟩ := G.s
  obtain ⟨o1, o2⟩ := G.g
  clear b1 b2 G
  have hpd : (pe == (0 : Int)) = false := by simp; omega
  clear hpe
  have htd : decide (trayIx x.t st < 0) = false := decide_eq_false (by omega)
  have HT0 := Lib.hid ht; clear ht
  obtain ⟨gd, hgd⟩ : ∃ gd, (r).good = gd := ⟨_, rfl⟩
  rw [hgd]
  have HG := Lib.hid hgd; clear hgd
  go_enter Try.func42, Try.ntmps42
  go_wp2_with fail
  generalize (((w.alloc (.cells #[.slice x.TA x.t.length x.tc, .slice x.OA x.o.length x.oc, .int .i64 x.got, .int .i64 x.sold, .int .i64 x.missed] 25)).alloc (.cells #[.int .i64 kd, .int .i64 st, .int .i64 pe, .int .i64 va] 45)).alloc (.cells #[.slice none 0 0, .slice none 0 0, .int .i64 0, .int .i64 0, .int .i64 0] 25)) = W at L1 L2 L3 b3 ⊢
  have hR := h.up b3 (Nat.le_refl _)
  refine (l32Tray_any x st W hR).mono ?_
  rintro e W1 ⟨rfl, hb1⟩
  have hR1 := hR.then hb1
  have L1a := L1.below hb1 L1.lt
  have L2a := L2.below hb1 L2.lt
  have L3a := L3.below hb1 L3.lt
  have b4 := b3.trans (hb1.mono b3.size)
  have hW0 : w.heap.size ≤ W1.heap.size := b4.size
  clear L1 L2 L3 b3 hb1 hR h
  have c0 := L1a.cell 0
  have c1 := L1a.cell 1
  have c2 := L1a.cell 2
  have c3 := L1a.cell 3
  have c4 := L1a.cell 4
  simp only [List.getElem?_cons_zero, List.getElem?_cons_succ] at c0 c1 c2 c3 c4
  have s0 := L2a.cell 0
  have s1 := L2a.cell 1
  have s2 := L2a.cell 2
  have s3 := L2a.cell 3
  simp only [List.getElem?_cons_zero, List.getElem?_cons_succ] at s0 s1 s2 s3
  go_wp2_with fail

  refine (hP W1 hR1).mono ?_
  rintro e W2 ⟨TA, tc, OA, oc, rfl, hT, hO, hb2⟩
  simp only at hT hO
  have hal := (Below.refl W2.heap.size W2).alloc (Nat.le_refl _) (.cells #[.slice TA r.t.length tc, .slice OA r.o.length oc, .int .i64 r.got, .int .i64 r.sold, .int .i64 r.missed] 25)
  have L3b := (L3a.below hb2 L3a.lt).below hal (Nat.lt_of_lt_of_le L3a.lt hb2.size)
  have P4 := Lies.new W2 25 #[.slice TA r.t.length tc, .slice OA r.o.length oc, .int .i64 r.got, .int .i64 r.sold, .int .i64 r.missed]
  have hT4 := ownsRow_lower (ownsRow_below hT hal) hW0
  have hO4 := ownsRow_lower (ownsRow_below hO hal) hW0
  have b6 := b4.trans ((bthen hb2 hal).mono b4.size)
  have hgg : w.heap.size + 1 + 1 < W2.heap.size := Nat.lt_of_lt_of_le L3a.lt hb2.size
  clear c0 c1 c2 c3 c4 s0 s1 s2 s3
  have L3c := L3b
  clear hb2 hal hT hO L1a L2a L3a b4 hR1 L3b hP
  obtain ⟨W4, hW4⟩ : ∃ W4, W2.alloc (.cells #[.slice TA r.t.length tc, .slice OA r.o.length oc, .int .i64 r.got, .int .i64 r.sold, .int .i64 r.missed] 25) = W4 := ⟨_, rfl⟩
  rw [hW4] at L3c P4 hT4 hO4 b6
  generalize hg2 : W2.heap.size = g2 at P4 hgg
  go_wp2_with (rw [hW4]; clear hW4; rw [hg2])

  obtain ⟨D1, hD1⟩ : ∃ D : World → Prop, D = (fun W9 => ∃ W8 TA tc OA oc, Below W4.heap.size W4 W8 ∧ W8.ownsRow w.heap.size 74 2 (.slice TA (r).t.length tc) (r).t.length ((r).t.flatMap Tray.enc) ∧ W8.ownsRow w.heap.size 100 3 (.slice OA (r).o.length oc) (r).o.length ((r).o.flatMap Outing.enc) ∧ W9 = stOff W8 (w.heap.size + 1 + 1) (.slice TA (r).t.length tc) (.slice OA (r).o.length oc) (.int .i64 (r).got) (.int .i64 (r).sold) (.int .i64 (r).missed)) := ⟨_, rfl⟩
  have hDL : ∀ W, D1 W → ∃ W8 v0 v1 v2 v3 v4, Below W4.heap.size W4 W8 ∧ W = stOff W8 (w.heap.size + 1 + 1) v0 v1 v2 v3 v4 := by
    rw [hD1]
    rintro _ ⟨W8, TA, tc, OA, oc, hq, _, _, e⟩
    exact ⟨W8, _, _, _, _, _, hq, e⟩
  have HD1 := Lib.hid hD1; clear hD1
  refine wp_region_factsR (Sw 6 (fun W9 => Below W4.heap.size W4 W9) D1) (fun i w1 w2 => i ∉ [6] → Below w1.heap.size w1 w2) (by kernel_rfl) (by kernel_rfl) (by kernel_rfl) (Sw.start (Below.refl _ _).drew) ?_
  simp only [fillOps, Act.put, List.setIfInBounds_toArray, List.set_cons_zero, List.set_cons_succ, Nat.zero_add, Nat.reduceAdd]
  apply wpFactsR_val
  case h1 =>
    intro vs L9 w9 hG9 hC9 hB K9 hK9
    replace hC9 := hC9.before hG9 (by kernel_rfl)
    have q0 : w9.cell? ⟨g2, 0, none⟩ = some (.slice TA r.t.length tc) := (P4.below hC9 P4.lt).cell 0
    have q1 : w9.cell? ⟨g2, 1, none⟩ = some (.slice OA r.o.length oc) := (P4.below hC9 P4.lt).cell 1
    have q2 : w9.cell? ⟨g2, 2, none⟩ = some (.int .i64 r.got) := (P4.below hC9 P4.lt).cell 2
    have q3 : w9.cell? ⟨g2, 3, none⟩ = some (.int .i64 r.sold) := (P4.below hC9 P4.lt).cell 3
    have q4 : w9.cell? ⟨g2, 4, none⟩ = some (.int .i64 r.missed) := (P4.below hC9 P4.lt).cell 4
    simp only [Act.put, List.setIfInBounds_toArray, List.set_cons_zero, List.set_cons_succ] at hK9
    go_simp
    exact hK9 _ _ rfl (Sw.stay hG9 (by kernel_rfl) (by decide) hC9) (fun _ => Below.refl _ _)
  apply wpFactsR_val
  case h1 =>
    intro vs L9 w9 hG9 hC9 hB K9 hK9
    replace hC9 := hC9.before hG9 (by kernel_rfl)
    simp only [Act.put, List.setIfInBounds_toArray, List.set_cons_zero, List.set_cons_succ] at hK9
    go_simp
    exact hK9 _ _ rfl (Sw.stay hG9 (by kernel_rfl) (by decide) hC9) (fun _ => Below.refl _ _)
  apply wpFactsR_val
  case h1 =>
    intro vs L9 w9 hG9 hC9 hB K9 hK9
    replace hC9 := hC9.before hG9 (by kernel_rfl)
    have d1 := FactN.eq (hB 1 _ (by kernel_rfl) (by kernel_rfl) rfl (by decide))
    simp only [d1] at hK9 ⊢
    simp only [Act.put, List.setIfInBounds_toArray, List.set_cons_zero, List.set_cons_succ] at hK9
    go_simp
    exact hK9 _ _ rfl (Sw.stay hG9 (by kernel_rfl) (by decide) hC9) (fun _ => Below.refl _ _)
  apply wpFactsR_val
  case h1 =>
    intro vs L9 w9 hG9 hC9 hB K9 hK9
    replace hC9 := hC9.before hG9 (by kernel_rfl)
    have d2 := FactN.eq (hB 2 _ (by kernel_rfl) (by kernel_rfl) rfl (by decide))
    simp only [d2] at hK9 ⊢
    have q0 : w9.cell? ⟨g2, 0, none⟩ = some (.slice TA r.t.length tc) := (P4.below hC9 P4.lt).cell 0
    have q1 : w9.cell? ⟨g2, 1, none⟩ = some (.slice OA r.o.length oc) := (P4.below hC9 P4.lt).cell 1
    have q2 : w9.cell? ⟨g2, 2, none⟩ = some (.int .i64 r.got) := (P4.below hC9 P4.lt).cell 2
    have q3 : w9.cell? ⟨g2, 3, none⟩ = some (.int .i64 r.sold) := (P4.below hC9 P4.lt).cell 3
    have q4 : w9.cell? ⟨g2, 4, none⟩ = some (.int .i64 r.missed) := (P4.below hC9 P4.lt).cell 4
    simp only [Act.put, List.setIfInBounds_toArray, List.set_cons_zero, List.set_cons_succ] at hK9
    go_simp
    exact hK9 _ _ rfl (Sw.stay hG9 (by kernel_rfl) (by decide) hC9) (fun _ => Below.refl _ _)
  apply wpFactsR_val
  case h1 =>
    intro vs L9 w9 hG9 hC9 hB K9 hK9
    replace hC9 := hC9.before hG9 (by kernel_rfl)
    have d3 := FactN.eq (hB 3 _ (by kernel_rfl) (by kernel_rfl) rfl (by decide))
    have d2 := FactN.eq (hB 2 _ (by kernel_rfl) (by kernel_rfl) rfl (by decide))
    simp only [d3, d2] at hK9 ⊢
    simp only [Act.put, List.setIfInBounds_toArray, List.set_cons_zero, List.set_cons_succ] at hK9
    go_simp
    refine (show Calls _ _ _ _ (fun e w' => e = .returned (.bool gd) ∧ Below w9.heap.size w9 w') from by rw [← HG.out]; exact goodV (show OwnV w9 w.heap.size r _ from ⟨TA, tc, OA, oc, rfl, ownsRow_below hT4 hC9, ownsRow_below hO4 hC9⟩)).mono ?_
    rintro en w8 ⟨rfl, hb8⟩
    exact hK9 _ _ rfl (Sw.stay hG9 (by kernel_rfl) (by decide) (hC9.trans (hb8.mono hC9.size))) (fun _ => hb8)
  apply wpFactsR_val
  case h1 =>
    intro vs L9 w9 hG9 hC9 hB K9 hK9
    have d2 := FactN.eq (hB 2 _ (by kernel_rfl) (by kernel_rfl) rfl (by decide))
    have d4 := FactN.eq (hB 4 _ (by kernel_rfl) (by kernel_rfl) rfl (by decide))
    simp only [d2, d4] at hK9 ⊢
    simp only [Act.put, List.setIfInBounds_toArray, List.set_cons_zero, List.set_cons_succ] at hK9
    have HC9 := Lib.hid hC9
    clear hC9
    go_simp
    exact hK9 _ _ rfl (Sw.both (by decide) (fun h => h) (fun h => h) HC9.out) (fun _ => Below.refl _ _)
  refine wpFactsR_val (undef) (fun vs L9 w9 hG9 hC9 hB K9 hK9 => ?hq6) ?rq6
  case hq6 =>
    replace hC9 := hC9.here hG9
    have d0 := FactN.eq (hB 0 _ (by kernel_rfl) (by kernel_rfl) rfl (by decide))
    simp only [d0] at hK9 ⊢
    have Lr := L3c.below hC9 L3c.lt
    have z0 := Lr.cell 0
    have z1 := Lr.cell 1
    have z2 := Lr.cell 2
    have z3 := Lr.cell 3
    have z4 := Lr.cell 4
    simp only [List.getElem?_cons_zero, List.getElem?_cons_succ] at z0 z1 z2 z3 z4
    have f0 := Lr.frozen 0
    have f1 := Lr.frozen 1
    have f2 := Lr.frozen 2
    have f3 := Lr.frozen 3
    have f4 := Lr.frozen 4
    clear Lr
    go_simp
    exact hK9 _ _ rfl (Sw.turn (by rw [HD1.out]; exact ⟨w9, TA, tc, OA, oc, hC9, ownsRow_below hT4 hC9, ownsRow_below hO4 hC9, rfl⟩)) (fun hq => (hq (by decide)).elim)
  apply wpFactsR_val
  case h1 =>
    intro vs L9 w9 hG9 hC9 hB K9 hK9
    replace hC9 := hC9.after hG9 (by kernel_rfl)
    have d5 := FactN.eq (hB 5 _ (by kernel_rfl) (by kernel_rfl) rfl (by decide))
    simp only [d5] at hK9 ⊢
    simp only [Act.put, List.setIfInBounds_toArray, List.set_cons_zero, List.set_cons_succ] at hK9
    go_simp
    exact hK9 _ _ rfl (Sw.on hG9 (by kernel_rfl) hC9) (fun _ => Below.refl _ _)
  refine wpFactsR_nil fun vs L9 w9 hL9 hC9 hB => ?_
  replace hC9 := hC9.done hL9 (by decide)
  have dl := FactN.eq (hB 7 _ rfl rfl (by decide))
  simp only [dl]
  clear hB dl
  rw [HD1.out] at hC9
  obtain ⟨W8, TA, tc, OA, oc, hb8, h1, h2, rfl⟩ := hC9
  have Lr := L3c.below hb8 L3c.lt
  have bz := (b6.trans (hb8.mono b6.size)).trans (stOff_below (v0 := .slice TA (r).t.length tc) (v1 := .slice OA (r).o.length oc) (v2 := .int .i64 (r).got) (v3 := .int .i64 (r).sold) (v4 := .int .i64 (r).missed) Lr (show w.heap.size ≤ (w.heap.size + 1 + 1) by omega))
  have HT := Lib.hid (stOff_row (v0 := .slice TA (r).t.length tc) (v1 := .slice OA (r).o.length oc) (v2 := .int .i64 (r).got) (v3 := .int .i64 (r).sold) (v4 := .int .i64 (r).missed) Lr h1 ne_owt)
  have HO := Lib.hid (stOff_row (v0 := .slice TA (r).t.length tc) (v1 := .slice OA (r).o.length oc) (v2 := .int .i64 (r).got) (v3 := .int .i64 (r).sold) (v4 := .int .i64 (r).missed) Lr h2 ne_owo)
  have PR := stOff_is (v0 := .slice TA (r).t.length tc) (v1 := .slice OA (r).o.length oc) (v2 := .int .i64 (r).got) (v3 := .int .i64 (r).sold) (v4 := .int .i64 (r).missed) Lr
  generalize stOff W8 (w.heap.size + 1 + 1) (.slice TA (r).t.length tc) (.slice OA (r).o.length oc) (.int .i64 (r).got) (.int .i64 (r).sold) (.int .i64 (r).missed) = W9 at bz HT HO PR ⊢
  have k0 := PR.cell 0
  have k1 := PR.cell 1
  have k2 := PR.cell 2
  have k3 := PR.cell 3
  have k4 := PR.cell 4
  simp only [List.getElem?_cons_zero, List.getElem?_cons_succ] at k0 k1 k2 k3 k4
  clear h1 h2 Lr hb8 hL9 PR
  go_wp2
  refine bodyPost_ret (v := .tuple #[.agg #[.slice TA (r).t.length tc, .slice OA (r).o.length oc, .int .i64 (r).got, .int .i64 (r).sold, .int .i64 (r).missed], .bool gd]) (by simp [results, Try.results42, go_sem, *]) rfl ?_
  exact ⟨TA, tc, OA, oc, rfl, HT.out, HO.out, bz⟩
end Go.Proofs.Ytdiojhjkcholiaa

/- A step in the reference: l32Make, no. (Printed by gen_specmake.py) -/
namespace Go.Proofs.Ytdiojhjkcholiaa
open Go.RowKit

set_option maxRecDepth 100000 in
set_option maxHeartbeats 4000000 in
theorem make_person_no (x : Off) (kd st pe va : Int) (r : Oc) (hk : (kd == 1) = false) (hpe : 1 ≤ pe) (ht : 0 ≤ trayIx x.t st) (w : World) (h : OffR w w.heap.size x) (G : Good x) (hcap : x.t.length ≤ x.tc)
    (hP : ∀ W, OffR W W.heap.size x → Calls Try.prog 74 #[x.val, .agg #[.int .i64 kd, .int .i64 st, .int .i64 pe, .int .i64 va]] W (GivesMk W (r, false))) :
    Calls Try.prog 42 #[x.val, .agg #[.int .i64 kd, .int .i64 st, .int .i64 pe, .int .i64 va]] w (GivesMk w (r, false)) := by
  have L1 := ((Lies.new w 25 #[.slice x.TA x.t.length x.tc, .slice x.OA x.o.length x.oc, .int .i64 x.got, .int .i64 x.sold, .int .i64 x.missed]).alloc (.cells #[.int .i64 kd, .int .i64 st, .int .i64 pe, .int .i64 va] 45)).alloc (.cells #[.slice none 0 0, .slice none 0 0, .int .i64 0, .int .i64 0, .int .i64 0] 25)
  have L2 := (Lies.new1 w (.cells #[.slice x.TA x.t.length x.tc, .slice x.OA x.o.length x.oc, .int .i64 x.got, .int .i64 x.sold, .int .i64 x.missed] 25) 45 #[.int .i64 kd, .int .i64 st, .int .i64 pe, .int .i64 va]).alloc (.cells #[.slice none 0 0, .slice none 0 0, .int .i64 0, .int .i64 0, .int .i64 0] 25)
  have L3 := Lies.new2 w (.cells #[.slice x.TA x.t.length x.tc, .slice x.OA x.o.length x.oc, .int .i64 x.got, .int .i64 x.sold, .int .i64 x.missed] 25) (.cells #[.int .i64 kd, .int .i64 st, .int .i64 pe, .int .i64 va] 45) 25 #[.slice none 0 0, .slice none 0 0, .int .i64 0, .int .i64 0, .int .i64 0]
  have b1 := (Below.refl w.heap.size w).alloc (Nat.le_refl _) (.cells #[.slice x.TA x.t.length x.tc, .slice x.OA x.o.length x.oc, .int .i64 x.got, .int .i64 x.sold, .int .i64 x.missed] 25)
  have b2 := b1.alloc b1.size (.cells #[.int .i64 kd, .int .i64 st, .int .i64 pe, .int .i64 va] 45)
  have b3 := b2.alloc b2.size (.cells #[.slice none 0 0, .slice none 0 0, .int .i64 0, .int .i64 0, .int .i64 0] 25)
  have Sx := G.small
  have htl := G.tl
  have hol := G.ol
  have htc := G.tcs
  obtain ⟨m1, m2⟩ := G.m
  obtain ⟨g1, g2⟩ := G.s
  obtain ⟨o1, o2⟩ := G.g
  clear b1 b2 G
  have hpd : (pe == (0 : Int)) = false := by simp; omega
  clear hpe
  have htd : decide (trayIx x.t st < 0) = false := decide_eq_false (by omega)
  have HT0 := Lib.hid ht; clear ht
  go_enter Try.func42, Try.ntmps42
  go_wp2_with fail
  generalize (((w.alloc (.cells #[.slice x.TA x.t.length x.tc, .slice x.OA x.o.length x.oc, .int .i64 x.got, .int .i64 x.sold, .int .i64 x.missed] 25)).alloc (.cells #[.int .i64 kd, .int .i64 st, .int .i64 pe, .int .i64 va] 45)).alloc (.cells #[.slice none 0 0, .slice none 0 0, .int .i64 0, .int .i64 0, .int .i64 0] 25)) = W at L1 L2 L3 b3 ⊢
  have hR := h.up b3 (Nat.le_refl _)
  refine (l32Tray_any x st W hR).mono ?_
  rintro e W1 ⟨rfl, hb1⟩
  have hR1 := hR.then hb1
  have L1a := L1.below hb1 L1.lt
  have L2a := L2.below hb1 L2.lt
  have L3a := L3.below hb1 L3.lt
  have b4 := b3.trans (hb1.mono b3.size)
  have hW0 : w.heap.size ≤ W1.heap.size := b4.size
  clear L1 L2 L3 b3 hb1 hR h
  have c0 := L1a.cell 0
  have c1 := L1a.cell 1
  have c2 := L1a.cell 2
  have c3 := L1a.cell 3
  have c4 := L1a.cell 4
  simp only [List.getElem?_cons_zero, List.getElem?_cons_succ] at c0 c1 c2 c3 c4
  have s0 := L2a.cell 0
  have s1 := L2a.cell 1
  have s2 := L2a.cell 2
  have s3 := L2a.cell 3
  simp only [List.getElem?_cons_zero, List.getElem?_cons_succ] at s0 s1 s2 s3
  go_wp2_with fail

  refine (hP W1 hR1).mono ?_
  rintro e W2 ⟨TA, tc, OA, oc, rfl, hT, hO, hb2⟩
  simp only at hT hO
  have hal := (Below.refl W2.heap.size W2).alloc (Nat.le_refl _) (.cells #[.slice TA r.t.length tc, .slice OA r.o.length oc, .int .i64 r.got, .int .i64 r.sold, .int .i64 r.missed] 25)
  have L3b := (L3a.below hb2 L3a.lt).below hal (Nat.lt_of_lt_of_le L3a.lt hb2.size)
  have P4 := Lies.new W2 25 #[.slice TA r.t.length tc, .slice OA r.o.length oc, .int .i64 r.got, .int .i64 r.sold, .int .i64 r.missed]
  have hT4 := ownsRow_lower (ownsRow_below hT hal) hW0
  have hO4 := ownsRow_lower (ownsRow_below hO hal) hW0
  have b6 := b4.trans ((bthen hb2 hal).mono b4.size)
  have hgg : w.heap.size + 1 + 1 < W2.heap.size := Nat.lt_of_lt_of_le L3a.lt hb2.size
  clear c0 c1 c2 c3 c4 s0 s1 s2 s3
  have L3c := L3b
  clear hb2 hal hT hO L1a L2a L3a b4 hR1 L3b hP
  obtain ⟨W4, hW4⟩ : ∃ W4, W2.alloc (.cells #[.slice TA r.t.length tc, .slice OA r.o.length oc, .int .i64 r.got, .int .i64 r.sold, .int .i64 r.missed] 25) = W4 := ⟨_, rfl⟩
  rw [hW4] at L3c P4 hT4 hO4 b6
  generalize hg2 : W2.heap.size = g2 at P4 hgg
  go_wp2_with (rw [hW4]; clear hW4; rw [hg2])

  obtain ⟨D1, hD1⟩ : ∃ D : World → Prop, D = (fun W9 => ∃ W8 TA tc OA oc, Below W4.heap.size W4 W8 ∧ W8.ownsRow w.heap.size 74 2 (.slice TA (r).t.length tc) (r).t.length ((r).t.flatMap Tray.enc) ∧ W8.ownsRow w.heap.size 100 3 (.slice OA (r).o.length oc) (r).o.length ((r).o.flatMap Outing.enc) ∧ W9 = stOff W8 (w.heap.size + 1 + 1) (.slice TA (r).t.length tc) (.slice OA (r).o.length oc) (.int .i64 (r).got) (.int .i64 (r).sold) (.int .i64 (r).missed)) := ⟨_, rfl⟩
  have hDL : ∀ W, D1 W → ∃ W8 v0 v1 v2 v3 v4, Below W4.heap.size W4 W8 ∧ W = stOff W8 (w.heap.size + 1 + 1) v0 v1 v2 v3 v4 := by
    rw [hD1]
    rintro _ ⟨W8, TA, tc, OA, oc, hq, _, _, e⟩
    exact ⟨W8, _, _, _, _, _, hq, e⟩
  have HD1 := Lib.hid hD1; clear hD1
  refine wp_region_factsR (Sw 6 (fun W9 => Below W4.heap.size W4 W9) D1) (fun i w1 w2 => i ∉ [6] → Below w1.heap.size w1 w2) (by kernel_rfl) (by kernel_rfl) (by kernel_rfl) (Sw.start (Below.refl _ _).drew) ?_
  simp only [fillOps, Act.put, List.setIfInBounds_toArray, List.set_cons_zero, List.set_cons_succ, Nat.zero_add, Nat.reduceAdd]
  apply wpFactsR_val
  case h1 =>
    intro vs L9 w9 hG9 hC9 hB K9 hK9
    replace hC9 := hC9.before hG9 (by kernel_rfl)
    have q0 : w9.cell? ⟨g2, 0, none⟩ = some (.slice TA r.t.length tc) := (P4.below hC9 P4.lt).cell 0
    have q1 : w9.cell? ⟨g2, 1, none⟩ = some (.slice OA r.o.length oc) := (P4.below hC9 P4.lt).cell 1
    have q2 : w9.cell? ⟨g2, 2, none⟩ = some (.int .i64 r.got) := (P4.below hC9 P4.lt).cell 2
    have q3 : w9.cell? ⟨g2, 3, none⟩ = some (.int .i64 r.sold) := (P4.below hC9 P4.lt).cell 3
    have q4 : w9.cell? ⟨g2, 4, none⟩ = some (.int .i64 r.missed) := (P4.below hC9 P4.lt).cell 4
    simp only [Act.put, List.setIfInBounds_toArray, List.set_cons_zero, List.set_cons_succ] at hK9
    go_simp
    exact hK9 _ _ rfl (Sw.stay hG9 (by kernel_rfl) (by decide) hC9) (fun _ => Below.refl _ _)
  apply wpFactsR_val
  case h1 =>
    intro vs L9 w9 hG9 hC9 hB K9 hK9
    replace hC9 := hC9.before hG9 (by kernel_rfl)
    simp only [Act.put, List.setIfInBounds_toArray, List.set_cons_zero, List.set_cons_succ] at hK9
    go_simp
    exact hK9 _ _ rfl (Sw.stay hG9 (by kernel_rfl) (by decide) hC9) (fun _ => Below.refl _ _)
  apply wpFactsR_val
  case h1 =>
    intro vs L9 w9 hG9 hC9 hB K9 hK9
    replace hC9 := hC9.before hG9 (by kernel_rfl)
    have d1 := FactN.eq (hB 1 _ (by kernel_rfl) (by kernel_rfl) rfl (by decide))
    simp only [d1] at hK9 ⊢
    simp only [Act.put, List.setIfInBounds_toArray, List.set_cons_zero, List.set_cons_succ] at hK9
    go_simp
    exact hK9 _ _ rfl (Sw.stay hG9 (by kernel_rfl) (by decide) hC9) (fun _ => Below.refl _ _)
  refine wpFactsR_val (undef) (fun vs L9 w9 hG9 hC9 hB K9 hK9 => ?hq3) ?rq3
  case hq3 =>
    replace hC9 := hC9.before hG9 (by kernel_rfl)
    have d2 := FactN.eq (hB 2 _ (by kernel_rfl) (by kernel_rfl) rfl (by decide))
    simp only [d2] at hK9 ⊢
    go_simp
    exact hK9 _ _ rfl (Sw.stay hG9 (by kernel_rfl) (by decide) hC9) (fun _ => Below.refl _ _)
  refine wpFactsR_val (undef) (fun vs L9 w9 hG9 hC9 hB K9 hK9 => ?hq4) ?rq4
  case hq4 =>
    replace hC9 := hC9.before hG9 (by kernel_rfl)
    have d3 := FactN.eq (hB 3 _ (by kernel_rfl) (by kernel_rfl) rfl (by decide))
    have d2 := FactN.eq (hB 2 _ (by kernel_rfl) (by kernel_rfl) rfl (by decide))
    simp only [d3, d2] at hK9 ⊢
    go_simp
    exact hK9 _ _ rfl (Sw.stay hG9 (by kernel_rfl) (by decide) hC9) (fun _ => Below.refl _ _)
  apply wpFactsR_val
  case h1 =>
    intro vs L9 w9 hG9 hC9 hB K9 hK9
    have d2 := FactN.eq (hB 2 _ (by kernel_rfl) (by kernel_rfl) rfl (by decide))
    have d4 := FactN.eq (hB 4 _ (by kernel_rfl) (by kernel_rfl) rfl (by decide))
    simp only [d2, d4] at hK9 ⊢
    simp only [Act.put, List.setIfInBounds_toArray, List.set_cons_zero, List.set_cons_succ] at hK9
    have HC9 := Lib.hid hC9
    clear hC9
    go_simp
    exact hK9 _ _ rfl (Sw.both (by decide) (fun h => h) (fun h => h) HC9.out) (fun _ => Below.refl _ _)
  refine wpFactsR_val (undef) (fun vs L9 w9 hG9 hC9 hB K9 hK9 => ?hq6) ?rq6
  case hq6 =>
    replace hC9 := hC9.here hG9
    have d0 := FactN.eq (hB 0 _ (by kernel_rfl) (by kernel_rfl) rfl (by decide))
    simp only [d0] at hK9 ⊢
    have Lr := L3c.below hC9 L3c.lt
    have z0 := Lr.cell 0
    have z1 := Lr.cell 1
    have z2 := Lr.cell 2
    have z3 := Lr.cell 3
    have z4 := Lr.cell 4
    simp only [List.getElem?_cons_zero, List.getElem?_cons_succ] at z0 z1 z2 z3 z4
    have f0 := Lr.frozen 0
    have f1 := Lr.frozen 1
    have f2 := Lr.frozen 2
    have f3 := Lr.frozen 3
    have f4 := Lr.frozen 4
    clear Lr
    go_simp
    exact hK9 _ _ rfl (Sw.turn (by rw [HD1.out]; exact ⟨w9, TA, tc, OA, oc, hC9, ownsRow_below hT4 hC9, ownsRow_below hO4 hC9, rfl⟩)) (fun hq => (hq (by decide)).elim)
  apply wpFactsR_val
  case h1 =>
    intro vs L9 w9 hG9 hC9 hB K9 hK9
    replace hC9 := hC9.after hG9 (by kernel_rfl)
    have d5 := FactN.eq (hB 5 _ (by kernel_rfl) (by kernel_rfl) rfl (by decide))
    simp only [d5] at hK9 ⊢
    simp only [Act.put, List.setIfInBounds_toArray, List.set_cons_zero, List.set_cons_succ] at hK9
    go_simp
    exact hK9 _ _ rfl (Sw.on hG9 (by kernel_rfl) hC9) (fun _ => Below.refl _ _)
  refine wpFactsR_nil fun vs L9 w9 hL9 hC9 hB => ?_
  replace hC9 := hC9.done hL9 (by decide)
  have dl := FactN.eq (hB 7 _ rfl rfl (by decide))
  simp only [dl]
  clear hB dl
  rw [HD1.out] at hC9
  obtain ⟨W8, TA, tc, OA, oc, hb8, h1, h2, rfl⟩ := hC9
  have Lr := L3c.below hb8 L3c.lt
  have bz := (b6.trans (hb8.mono b6.size)).trans (stOff_below (v0 := .slice TA (r).t.length tc) (v1 := .slice OA (r).o.length oc) (v2 := .int .i64 (r).got) (v3 := .int .i64 (r).sold) (v4 := .int .i64 (r).missed) Lr (show w.heap.size ≤ (w.heap.size + 1 + 1) by omega))
  have HT := Lib.hid (stOff_row (v0 := .slice TA (r).t.length tc) (v1 := .slice OA (r).o.length oc) (v2 := .int .i64 (r).got) (v3 := .int .i64 (r).sold) (v4 := .int .i64 (r).missed) Lr h1 ne_owt)
  have HO := Lib.hid (stOff_row (v0 := .slice TA (r).t.length tc) (v1 := .slice OA (r).o.length oc) (v2 := .int .i64 (r).got) (v3 := .int .i64 (r).sold) (v4 := .int .i64 (r).missed) Lr h2 ne_owo)
  have PR := stOff_is (v0 := .slice TA (r).t.length tc) (v1 := .slice OA (r).o.length oc) (v2 := .int .i64 (r).got) (v3 := .int .i64 (r).sold) (v4 := .int .i64 (r).missed) Lr
  generalize stOff W8 (w.heap.size + 1 + 1) (.slice TA (r).t.length tc) (.slice OA (r).o.length oc) (.int .i64 (r).got) (.int .i64 (r).sold) (.int .i64 (r).missed) = W9 at bz HT HO PR ⊢
  have k0 := PR.cell 0
  have k1 := PR.cell 1
  have k2 := PR.cell 2
  have k3 := PR.cell 3
  have k4 := PR.cell 4
  simp only [List.getElem?_cons_zero, List.getElem?_cons_succ] at k0 k1 k2 k3 k4
  clear h1 h2 Lr hb8 hL9 PR
  go_wp2
  refine bodyPost_ret (v := .tuple #[.agg #[.slice TA (r).t.length tc, .slice OA (r).o.length oc, .int .i64 (r).got, .int .i64 (r).sold, .int .i64 (r).missed], .bool false]) (by simp [results, Try.results42, go_sem, *]) rfl ?_
  exact ⟨TA, tc, OA, oc, rfl, HT.out, HO.out, bz⟩
end Go.Proofs.Ytdiojhjkcholiaa

/- A valid step, in the reference: l32Make and StepOffice. -/
namespace Go.Proofs.Ytdiojhjkcholiaa
open Go.RowKit

theorem make_person (x : Off) (kd st pe va : Int) (R : Oc × Bool) (hk : (kd == 1) = false) (hpe : 1 ≤ pe) (ht : 0 ≤ trayIx x.t st) (w : World) (h : OffR w w.heap.size x) (G : Good x) (hcap : x.t.length ≤ x.tc)
    (hP : ∀ W, OffR W W.heap.size x → Calls Try.prog 74 #[x.val, .agg #[.int .i64 kd, .int .i64 st, .int .i64 pe, .int .i64 va]] W (GivesMk W R)) :
    Calls Try.prog 42 #[x.val, .agg #[.int .i64 kd, .int .i64 st, .int .i64 pe, .int .i64 va]] w (GivesMk w (R.1, R.2 && R.1.good)) := by
  obtain ⟨r, b⟩ := R
  cases b
  · rw [Bool.false_and]; exact make_person_no x kd st pe va r hk hpe ht w h G hcap hP
  · rw [Bool.true_and]; exact make_person_yes x kd st pe va r hk hpe ht w h G hcap hP
theorem l32Make_any (x : Off) (s : Stp) (w : World) (h : OffR w w.heap.size x) (G : Good x) (hcap : x.t.length ≤ x.tc) (hs : s.okS = true) :
    Calls Try.prog 42 #[x.val, s.val] w (GivesMk w (makeS x.c s)) := by
  obtain ⟨hst, hI⟩ := Stp.okS_is hs
  clear hs
  obtain ⟨kd, st, pe, va⟩ := s
  by_cases hT : trayIx x.t st < 0
  · have own : ∀ kd : Int, kd ≠ 1 → Calls Try.prog 42 #[x.val, .agg #[.int .i64 kd, .int .i64 st, .int .i64 pe, .int .i64 va]] w (GivesMk w (makeS x.c ⟨kd, st, pe, va⟩)) := fun kd hk => by
      rw [show makeS x.c ⟨kd, st, pe, va⟩ = (x.c, false) from by
        unfold makeS; rw [if_neg (show ¬ (Stp.mk kd st pe va).kind = 1 from hk), if_pos (show trayIx x.c.t st < 0 from hT)]]
      exact make_own x kd st pe va (by simpa using hk) hT w h G hcap
    cases hI with
    | get hk hp hv =>
      simp only at hk hp hv hst; subst hk
      exact make_get x st pe va hst hv w h G hcap
    | show_ hk hp hv => simp only at hk; subst hk; exact own 2 (by decide)
    | back hk hp hv => simp only at hk; subst hk; exact own 3 (by decide)
    | sell0 hk hp hv => simp only at hk; subst hk; exact own 4 (by decide)
    | sell hk hp hv => simp only at hk; subst hk; exact own 4 (by decide)
    | miss hk hp hv => simp only at hk; subst hk; exact own 5 (by decide)
    | move hk hp hv => simp only at hk; subst hk; exact own 6 (by decide)
  · have h0 : 0 ≤ trayIx x.t st := by omega
    have per : ∀ kd : Int, kd ≠ 1 → (1 ≤ pe ∧ pe ≤ 999) → (∀ W, OffR W W.heap.size x → Calls Try.prog 74 #[x.val, .agg #[.int .i64 kd, .int .i64 st, .int .i64 pe, .int .i64 va]] W (GivesMk W (personS x.c ⟨kd, st, pe, va⟩))) →
        Calls Try.prog 42 #[x.val, .agg #[.int .i64 kd, .int .i64 st, .int .i64 pe, .int .i64 va]] w (GivesMk w (makeS x.c ⟨kd, st, pe, va⟩)) := fun kd hk hpe hP => by
      rw [show makeS x.c ⟨kd, st, pe, va⟩ = ((personS x.c ⟨kd, st, pe, va⟩).1, (personS x.c ⟨kd, st, pe, va⟩).2 && (personS x.c ⟨kd, st, pe, va⟩).1.good) from by
        unfold makeS; rw [if_neg (show ¬ (Stp.mk kd st pe va).kind = 1 from hk), if_neg (show ¬ trayIx x.c.t st < 0 from hT), if_neg (show ¬ (Stp.mk kd st pe va).person = 0 from by show ¬ pe = 0; omega)]]
      exact make_person x kd st pe va _ (by simpa using hk) hpe.1 h0 w h G hcap hP
    cases hI with
    | get hk hp hv =>
      simp only at hk hp hv hst; subst hk
      exact make_get x st pe va hst hv w h G hcap
    | show_ hk hp hv => simp only at hk hp hv hst; subst hk; exact per 2 (by decide) hp fun W hW => person_show x st pe va W hW G hcap hst hp hv
    | back hk hp hv => simp only at hk hp hv hst; subst hk; exact per 3 (by decide) hp fun W hW => person_back x st pe va W hW G hcap hst hp hv
    | sell0 hk hp hv =>
      simp only at hk hp hv hst; subst hk; subst hp
      have := make_sell0 x st va hst hv h0 w h G hcap
      rw [show makeS x.c ⟨4, st, 0, va⟩ = ((⟨inTrays x.t st (-va), x.o, x.got, x.sold + va, x.missed⟩ : Oc), (⟨inTrays x.t st (-va), x.o, x.got, x.sold + va, x.missed⟩ : Oc).good) from by
        unfold makeS; rw [if_neg (show ¬ (4 : Int) = 1 by decide), if_neg (show ¬ trayIx x.c.t st < 0 from hT), if_pos rfl]; rfl]
      exact this
    | sell hk hp hv => simp only at hk hp hv hst; subst hk; exact per 4 (by decide) hp fun W hW => person_sell x st pe va W hW G hcap hst hp hv
    | miss hk hp hv => simp only at hk hp hv hst; subst hk; exact per 5 (by decide) hp fun W hW => person_miss x st pe va W hW G hcap hst hp
    | move hk hp hv => simp only at hk hp hv hst; subst hk; exact per 6 (by decide) hp fun W hW => person_move x st pe va W hW G hcap hst hp hv
/-- The reference's StepOffice. -/
theorem specStep_any (x : Off) (s : Stp) (w : World) (h : OffR w w.heap.size x) (hcap : x.t.length ≤ x.tc) :
    Calls Try.prog 13 #[x.val, s.val] w (GivesStep w (if goodOff x && s.ok then stepD x.c s else none)) := by
  have h1 := specStep_of (fun x s w h G hc hs => l32Make_any x s w h G hc hs) x s w h hcap
  rw [show (if goodOff x && s.ok then stepD x.c s else none) = (if goodOff x && s.okS then okOc (makeS x.c s) else none) from by
    cases hg : goodOff x
    · rfl
    · cases hs : s.okS
      · have := Stp.ok_okS s
        rw [hs, Bool.false_and] at this
        rw [this]; rfl
      · rw [Bool.true_and, Bool.true_and, if_pos rfl, makeS_stepD x s (good_iff.1 hg) hs]]
  exact h1
end Go.Proofs.Ytdiojhjkcholiaa

/- What a step of an office gives. -/
namespace Go.Proofs.Ytdiojhjkcholiaa
open Go.RowKit

theorem stepD_len {y : Oc} {s : Stp} : (resOf (stepD y s)).t.length ≤ 1000000 ∧ (resOf (stepD y s)).o.length ≤ 1000000 := by
  have key : ∀ r : Oc, (resOf (Oc.fin r)).t.length ≤ 1000000 ∧ (resOf (Oc.fin r)).o.length ≤ 1000000 := fun r => by
    unfold Oc.fin
    split
    · rename_i h
      have G := good_iff.1 h
      have h1 := G.tl
      have h2 := G.ol
      exact ⟨Nat.le_trans h1 (by omega), Nat.le_trans h2 (by omega)⟩
    · exact ⟨by simp [resOf, Oc.zero], by simp [resOf, Oc.zero]⟩
  have none_ : (resOf none).t.length ≤ 1000000 ∧ (resOf none).o.length ≤ 1000000 := ⟨by simp [resOf, Oc.zero], by simp [resOf, Oc.zero]⟩
  unfold stepD
  repeat' split
  all_goals first | exact key _ | exact none_
/-- What a step of an office gives: nothing where one of them is not valid. -/
def tryD (y : Oc) (s : Stp) : Option Oc := if y.good && s.ok then stepD y s else none
theorem tryD_len {y : Oc} {s : Stp} : (resOf (tryD y s)).t.length ≤ 1000000 ∧ (resOf (tryD y s)).o.length ≤ 1000000 := by
  unfold tryD; split
  · exact stepD_len
  · exact ⟨by simp [resOf, Oc.zero], by simp [resOf, Oc.zero]⟩
end Go.Proofs.Ytdiojhjkcholiaa

/- Steps of an office in the program: where there is no tray, or nothing at the person. (Printed by gen_step.py) -/
namespace Go.Proofs.Ytdiojhjkcholiaa
open Go.RowKit

theorem copyOffice_val (x : Off) (g : Nat) (w : World) (h : OffAt w w.heap.size g x) (tl : x.t.length ≤ 1000000) (ol : x.o.length ≤ 1000000) :
    Calls Try.prog 55 #[.pointer (some ⟨g, 0, none⟩)] w fun e w' => ∃ TA tc OA oc, e = .returned (.agg #[.slice TA x.t.length tc, .slice OA x.o.length oc, .int .i64 x.got, .int .i64 x.sold, .int .i64 x.missed]) ∧ w'.ownsRow w.heap.size 74 2 (.slice TA x.t.length tc) x.t.length (x.t.flatMap Tray.enc) ∧ w'.ownsRow w.heap.size 100 3 (.slice OA x.o.length oc) x.o.length (x.o.flatMap Outing.enc) ∧ Below w.heap.size w w' := copyOffice_any x g w h tl ol

set_option maxRecDepth 100000 in
set_option maxHeartbeats 1500000 in
/-- No tray of the kind. -/
theorem step_noTray (x : Off) (g : Nat) (kd : Int) (st pe va : Int) (w : World) (h : OffAt w w.heap.size g x) (G : Good x) (hk : (kd == 1) = false) (hI : trayIx x.t st < 0) :
    Calls Try.prog 47 #[.pointer (some ⟨g, 0, none⟩), .agg #[.int .i64 kd, .int .i64 st, .int .i64 pe, .int .i64 va]] w (GivesStep w (stepD x.c ⟨kd, st, pe, va⟩)) := by
  have HN : Hid (stepD x.c ⟨kd, st, pe, va⟩ = none) := by
    unfold Hid stepD
    rw [if_neg (by simpa using hk), if_pos (by show ¬ 0 ≤ trayIx x.t st; omega)]
  have L1 := (Lies.new w 45 #[.int .i64 kd, .int .i64 st, .int .i64 pe, .int .i64 va]).alloc (.cells #[.slice none 0 0, .slice none 0 0, .int .i64 0, .int .i64 0, .int .i64 0] 25)
  have L2 := Lies.new1 w (.cells #[.int .i64 kd, .int .i64 st, .int .i64 pe, .int .i64 va] 45) 25 #[.slice none 0 0, .slice none 0 0, .int .i64 0, .int .i64 0, .int .i64 0]
  have b1 := (Below.refl w.heap.size w).alloc (Nat.le_refl _) (.cells #[.int .i64 kd, .int .i64 st, .int .i64 pe, .int .i64 va] 45)
  have b2 := b1.alloc b1.size (.cells #[.slice none 0 0, .slice none 0 0, .int .i64 0, .int .i64 0, .int .i64 0] 25)
  have hA := h.then b2 b2.size
  have tl := G.tl
  have ol := G.ol
  clear b1
  go_enter Try.func47, Try.ntmps47
  go_wp2_with fail
  generalize ((w.alloc (.cells #[.int .i64 kd, .int .i64 st, .int .i64 pe, .int .i64 va] 45)).alloc (.cells #[.slice none 0 0, .slice none 0 0, .int .i64 0, .int .i64 0, .int .i64 0] 25)) = W2 at L1 L2 b2 hA ⊢
  refine (copyOffice_val x g W2 hA (by omega) (by omega)).mono ?_
  rintro e W3 ⟨TA, tc, OA, oc, rfl, hT, hO, k3⟩
  have hal := (Below.refl W3.heap.size W3).alloc (Nat.le_refl _) (.cells #[.slice TA x.t.length tc, .slice OA x.o.length oc, .int .i64 x.got, .int .i64 x.sold, .int .i64 x.missed] 25)
  have hOwn : OffOwn (W3.alloc (.cells #[.slice TA x.t.length tc, .slice OA x.o.length oc, .int .i64 x.got, .int .i64 x.sold, .int .i64 x.missed] 25)) W2.heap.size W3.heap.size _ _ x.c := ⟨Lies.new W3 25 #[.slice TA x.t.length tc, .slice OA x.o.length oc, .int .i64 x.got, .int .i64 x.sold, .int .i64 x.missed], k3.size, ownsRow_below hT hal, ownsRow_below hO hal⟩
  have k4 := k3.trans (hal.mono k3.size)
  have s0 := (L1.below k4 L1.lt).cell 0
  have s1 := (L1.below k4 L1.lt).cell 1
  simp only [List.getElem?_cons_zero, List.getElem?_cons_succ] at s0 s1
  have hgO : w.heap.size + 1 < W3.heap.size := Nat.lt_of_lt_of_le L2.lt k3.size
  clear hT hO k3
  go_wp2_with fail
  clear s0 s1 hal
  generalize W3.alloc (.cells #[.slice TA x.t.length tc, .slice OA x.o.length oc, .int .i64 x.got, .int .i64 x.sold, .int .i64 x.missed] 25) = W4 at hOwn k4 ⊢
  generalize W3.heap.size = gO at hOwn hgO ⊢
  refine (trayAt_any (x.c.at TA tc OA oc) gO st W4 (OffOwn.at_ (y := x.c) hOwn)).mono ?_
  rintro e W5 ⟨rfl, hb5⟩
  have hOwn5 := hOwn.then hb5
  have k5 := k4.trans (hb5.mono k4.size)
  rw [show trayIx (x.c.at TA tc OA oc).t st = trayIx x.t st from rfl]
  generalize trayIx x.t st = I at hI ⊢
  have L2z := L2.below k5 L2.lt
  have z0 := L2z.cell 0
  have z1 := L2z.cell 1
  have z2 := L2z.cell 2
  have z3 := L2z.cell 3
  have z4 := L2z.cell 4
  have f0 := L2z.frozen 0
  have f1 := L2z.frozen 1
  have f2 := L2z.frozen 2
  have f3 := L2z.frozen 3
  have f4 := L2z.frozen 4
  simp only [List.getElem?_cons_zero, List.getElem?_cons_succ] at z0 z1 z2 z3 z4
  have hgr := grown_set (g := w.heap.size + 1) (i := 4) (u := .int .i64 0) (grown_set (g := w.heap.size + 1) (i := 3) (u := .int .i64 0) (grown_set (g := w.heap.size + 1) (i := 2) (u := .int .i64 0) (grown_set (g := w.heap.size + 1) (i := 1) (u := .slice none 0 0) (grown_set (g := w.heap.size + 1) (i := 0) (u := .slice none 0 0) (World.grownBy.refl W5 (some (w.heap.size + 1)))))))
  have bw := b2.trans (k5.mono b2.size)
  have bz := bw.grown hgr bw.size (by rintro _ ⟨⟩; omega)
  go_wp2
  rw [HN.out]
  refine bodyPost_ret (v := .tuple #[.agg #[.slice none 0 0, .slice none 0 0, .int .i64 0, .int .i64 0, .int .i64 0], .bool false]) (by simp [results, Try.results47, go_sem, *]) rfl (GivesStep.no rfl bz)
end Go.Proofs.Ytdiojhjkcholiaa

/- Steps of an office in the program: stamps come. (Printed by gen_step.py) -/
namespace Go.Proofs.Ytdiojhjkcholiaa
open Go.RowKit

set_option maxRecDepth 100000 in
set_option maxHeartbeats 1500000 in
/-- Get, into a tray that is there. -/
theorem step_getOld (x : Off) (g : Nat) (st pe va : Int) (w : World) (h : OffAt w w.heap.size g x) (G : Good x) (i : Nat) (hi : i < x.t.length) (hI : trayIx x.t st = i) (hpe : pe = 0) (hva : 1 ≤ va ∧ va ≤ 9999) :
    Calls Try.prog 47 #[.pointer (some ⟨g, 0, none⟩), .agg #[.int .i64 1, .int .i64 st, .int .i64 pe, .int .i64 va]] w (GivesStep w (stepD x.c ⟨1, st, pe, va⟩)) := by
  subst hpe
  obtain ⟨tr, htr⟩ : ∃ tr, x.c.t[i] = tr := ⟨_, rfl⟩
  obtain ⟨r, hr⟩ : ∃ r : Oc, r = ⟨x.t.set i ⟨tr.k, tr.c + va⟩, x.o, x.got + va, x.sold, x.missed⟩ := ⟨_, rfl⟩
  have HR : Hid (stepD x.c ⟨1, st, 0, va⟩ = Oc.fin r) := by
    unfold Hid stepD
    rw [if_pos rfl]
    rw [show inTrays x.c.t st (va) = x.t.set i ⟨tr.k, tr.c + va⟩ from by show inTrays x.t st _ = _; rw [inTrays_at hI hi, show x.t[i] = tr from htr]]
    rw [hr]
    rfl
  have hNb := G.at_bd st 0
  have hz0 : (0 : Int) ≤ (i : Int) := by omega
  have hzi : ¬ (i : Int) < 0 := by omega
  have htb := (Tray.bounds (G.tall i hi)).2
  rw [show x.t[i] = tr from htr] at htb
  obtain ⟨htb1, htb2⟩ := htb
  have hgg := G.g
  obtain ⟨hgg1, hgg2⟩ := hgg
  obtain ⟨hva1, hva2⟩ := hva
  have L1 := (Lies.new w 45 #[.int .i64 1, .int .i64 st, .int .i64 0, .int .i64 va]).alloc (.cells #[.slice none 0 0, .slice none 0 0, .int .i64 0, .int .i64 0, .int .i64 0] 25)
  have L2 := Lies.new1 w (.cells #[.int .i64 1, .int .i64 st, .int .i64 0, .int .i64 va] 45) 25 #[.slice none 0 0, .slice none 0 0, .int .i64 0, .int .i64 0, .int .i64 0]
  have b1 := (Below.refl w.heap.size w).alloc (Nat.le_refl _) (.cells #[.int .i64 1, .int .i64 st, .int .i64 0, .int .i64 va] 45)
  have b2 := b1.alloc b1.size (.cells #[.slice none 0 0, .slice none 0 0, .int .i64 0, .int .i64 0, .int .i64 0] 25)
  have hA := h.then b2 b2.size
  have tl := G.tl
  have ol := G.ol
  clear b1
  go_enter Try.func47, Try.ntmps47
  go_wp2_with fail
  generalize ((w.alloc (.cells #[.int .i64 1, .int .i64 st, .int .i64 0, .int .i64 va] 45)).alloc (.cells #[.slice none 0 0, .slice none 0 0, .int .i64 0, .int .i64 0, .int .i64 0] 25)) = W2 at L1 L2 b2 hA ⊢
  refine (copyOffice_val x g W2 hA (by omega) (by omega)).mono ?_
  rintro e W3 ⟨TA, tc, OA, oc, rfl, hT, hO, k3⟩
  obtain ⟨gT, cT, _, hvt, _, _, _⟩ := ownsRow_at hT (by omega)
  injection hvt with e1 e2 e3
  subst e1; subst e3
  have hal := (Below.refl W3.heap.size W3).alloc (Nat.le_refl _) (.cells #[.slice (some ⟨gT, 0, none⟩) x.t.length tc, .slice OA x.o.length oc, .int .i64 x.got, .int .i64 x.sold, .int .i64 x.missed] 25)
  have hOwn : OffOwn (W3.alloc (.cells #[.slice (some ⟨gT, 0, none⟩) x.t.length tc, .slice OA x.o.length oc, .int .i64 x.got, .int .i64 x.sold, .int .i64 x.missed] 25)) W2.heap.size W3.heap.size _ _ x.c := ⟨Lies.new W3 25 #[.slice (some ⟨gT, 0, none⟩) x.t.length tc, .slice OA x.o.length oc, .int .i64 x.got, .int .i64 x.sold, .int .i64 x.missed], k3.size, ownsRow_below hT hal, ownsRow_below hO hal⟩
  have k4 := k3.trans (hal.mono k3.size)
  have s0 := (L1.below k4 L1.lt).cell 0
  have s1 := (L1.below k4 L1.lt).cell 1
  simp only [List.getElem?_cons_zero, List.getElem?_cons_succ] at s0 s1
  have hgO : w.heap.size + 1 < W3.heap.size := Nat.lt_of_lt_of_le L2.lt k3.size
  clear hT hO k3
  have hA4 := hA.then k4 k4.size
  go_wp2_with fail
  clear s0 s1 hal
  generalize W3.alloc (.cells #[.slice (some ⟨gT, 0, none⟩) x.t.length tc, .slice OA x.o.length oc, .int .i64 x.got, .int .i64 x.sold, .int .i64 x.missed] 25) = W4 at hOwn k4 hA4 ⊢
  generalize W3.heap.size = gO at hOwn hgO ⊢
  refine (trayAt_any x g st W4 hA4).mono ?_
  rintro e W4b ⟨rfl, hb4⟩
  rw [hI]
  have hOwn4 := hOwn.then hb4
  have k4b := k4.trans (hb4.mono k4.size)
  have L1b := L1.below k4b L1.lt
  have s1 := L1b.cell 1
  simp only [List.getElem?_cons_zero, List.getElem?_cons_succ] at s1
  go_wp2_with fail
  refine (trayAt_any (x.c.at (some ⟨gT, 0, none⟩) tc OA oc) gO st W4b (OffOwn.at_ (y := x.c) hOwn4)).mono ?_
  rintro e W5 ⟨rfl, hb5⟩
  have hOwn5 := hOwn4.then hb5
  have k5 := k4b.trans (hb5.mono k4b.size)
  clear s1 L1b hOwn4 hb4 k4b hA4
  rw [show trayIx (x.c.at (some ⟨gT, 0, none⟩) tc OA oc).t st = trayIx x.t st from rfl, hI]
  have L1c := L1.below k5 L1.lt
  have hA5 := hA.then k5 k5.size
  have hmf : ∀ (fn : Fn) (first cap : Array Value) (w : World), (Instr.makeFunc fn first cap).run Try.prog w = .ok (.func fn first cap) w := fun _ _ _ _ => rfl
  go_wp2_with fail
  refine (stampsFn_val (B := 0) L1c hA5 G (Nat.zero_le _)).mono ?_
  rintro e W6 ⟨rfl, hb6⟩
  have hOwn6 := hOwn5.then hb6
  have k6 := k5.trans (hb6.mono k5.size)
  have L1d := L1.below k6 L1.lt
  have s0 := L1d.cell 0
  have s1 := L1d.cell 1
  have s2 := L1d.cell 2
  have s3 := L1d.cell 3
  simp only [List.getElem?_cons_zero, List.getElem?_cons_succ] at s0 s1 s2 s3
  clear L1c hA5 hOwn5 hOwn hb5 hb6 k4
  generalize outAt st 0 x.o = N at *
  obtain ⟨hNb1, hNb2⟩ := hNb
  have c0 := hOwn6.lies.cell 0
  simp only [List.getElem?_cons_zero] at c0
  obtain ⟨v, hv⟩ : ∃ v, (N == 0) = v := ⟨_, rfl⟩
  cases v
  all_goals
    go_wp2
    obtain ⟨hOt, kt, ct, cf⟩ := OffOwn.setT' (y := x.c) (hOwn6.then (Below.refl _ _).drew) hi tr htr (tr.c + va)
    have kd := k6.drew
    have L1e := L1.below kd L1.lt
    have u1 := L1e.cell 1
    have u2 := L1e.cell 2
    have u3 := L1e.cell 3
    simp only [List.getElem?_cons_zero, List.getElem?_cons_succ] at u1 u2 u3
    go_still_tail 9, (by kernel_rfl)
    change wpList _ _ _ _ _ W6.drew
    generalize W6.drew = Wd at hOt kt ct cf kd L1e u1 u2 u3 ⊢
    have k7 := kd.trans kt
    have hneT : ¬ gT = w.heap.size := fun e => by have := (hOt.t.lt gT rfl).1; have := L1.lt; omega
    have hneT' : ¬ w.heap.size = gT := fun e => hneT e.symm
    have hneO : ¬ gO = w.heap.size := by omega
    have hneO' : ¬ w.heap.size = gO := by omega
    have hneG : ¬ gT = gO := fun e => hOt.ne_t (by rw [← e]; rfl)
    have hneG' : ¬ gO = gT := fun e => hneG e.symm
    have d2 : Wd.cell? ⟨gO, 2, none⟩ = some (.int .i64 x.got) := by
      have := hOt.lies.cell 2
      rw [World.cell?_setCell_other _ _ _ _ (by simp)] at this
      exact this
    have d2f : Wd.frozen? ⟨gO, 2, none⟩ = false := by
      have := hOt.lies.frozen 2
      rwa [World.frozen?_setCell] at this
    have hOu := (hOt.setN (x.got + va)).1
    have k8 := k7.trans (hOt.belowN 2 (.int .i64 (x.got + va)))
    go_wp2_with fail
    generalize (Wd.setCell ⟨gT, i * 2 + 1, none⟩ (.int .i64 (tr.c + va))).setCell ⟨gO, 2, none⟩ (.int .i64 (x.got + va)) = W8 at hOu k8 ⊢
    replace hO8 : ∃ vt vo, OffOwn W8 W2.heap.size gO vt vo r := ⟨_, _, by rw [hr]; exact hOu⟩
    obtain ⟨vt, vo, hO8⟩ := hO8
    clear hr hOt hOu hOwn6 c0 ct cf u1 u2 u3 s0 s1 s2 s3 L1d L1e kt kd k7 k6 k5 d2 d2f
    obtain ⟨A1, a1, A2, a2, rfl, rfl⟩ := hO8.form
    have cV := isOfficeValid_any (r.at A1 a1 A2 a2) gO W8 (OffOwn.at_ (y := r) hO8)
    rw [Oc.good_at] at cV
    cases hg : r.good
    · rw [hg] at cV
      have HN : Hid (stepD x.c ⟨1, st, 0, va⟩ = none) := by unfold Hid; rw [HR.out, Oc.fin, hg]; rfl
      clear hg
      go_wp2_with fail
      refine cV.mono ?_
      rintro e W9 ⟨rfl, hb9⟩
      have k9 := k8.trans (hb9.mono k8.size)
      clear hb9 cV
      have L2z := L2.below k9 L2.lt
      have z0 := L2z.cell 0
      have z1 := L2z.cell 1
      have z2 := L2z.cell 2
      have z3 := L2z.cell 3
      have z4 := L2z.cell 4
      have f0 := L2z.frozen 0
      have f1 := L2z.frozen 1
      have f2 := L2z.frozen 2
      have f3 := L2z.frozen 3
      have f4 := L2z.frozen 4
      simp only [List.getElem?_cons_zero, List.getElem?_cons_succ] at z0 z1 z2 z3 z4
      have hgr := grown_set (g := w.heap.size + 1) (i := 4) (u := .int .i64 0) (grown_set (g := w.heap.size + 1) (i := 3) (u := .int .i64 0) (grown_set (g := w.heap.size + 1) (i := 2) (u := .int .i64 0) (grown_set (g := w.heap.size + 1) (i := 1) (u := .slice none 0 0) (grown_set (g := w.heap.size + 1) (i := 0) (u := .slice none 0 0) (World.grownBy.refl W9 (some (w.heap.size + 1)))))))
      have bw := b2.trans (k9.mono b2.size)
      have bz := bw.grown hgr bw.size (by rintro _ ⟨⟩; omega)
      go_wp2
      rw [HN.out]
      refine bodyPost_ret (v := .tuple #[.agg #[.slice none 0 0, .slice none 0 0, .int .i64 0, .int .i64 0, .int .i64 0], .bool false]) (by simp [results, Try.results47, go_sem, *]) rfl (GivesStep.no rfl bz)
    · rw [hg] at cV
      have HN : Hid (stepD x.c ⟨1, st, 0, va⟩ = some r) := by unfold Hid; rw [HR.out, Oc.fin, hg]; rfl
      clear hg
      go_wp2_with fail
      refine cV.mono ?_
      rintro e W9 ⟨rfl, hb9⟩
      have k9 := k8.trans (hb9.mono k8.size)
      have hO9 := hO8.then hb9
      clear hb9 cV hO8
      have c0 := hO9.lies.cell 0
      have c1 := hO9.lies.cell 1
      have c2 := hO9.lies.cell 2
      have c3 := hO9.lies.cell 3
      have c4 := hO9.lies.cell 4
      simp only [List.getElem?_cons_zero, List.getElem?_cons_succ] at c0 c1 c2 c3 c4
      have L2z := L2.below k9 L2.lt
      have z0 := L2z.cell 0
      have z1 := L2z.cell 1
      have z2 := L2z.cell 2
      have z3 := L2z.cell 3
      have z4 := L2z.cell 4
      have f0 := L2z.frozen 0
      have f1 := L2z.frozen 1
      have f2 := L2z.frozen 2
      have f3 := L2z.frozen 3
      have f4 := L2z.frozen 4
      simp only [List.getElem?_cons_zero, List.getElem?_cons_succ] at z0 z1 z2 z3 z4
      have hgr := grown_set (g := w.heap.size + 1) (i := 4) (u := .int .i64 r.missed) (grown_set (g := w.heap.size + 1) (i := 3) (u := .int .i64 r.sold) (grown_set (g := w.heap.size + 1) (i := 2) (u := .int .i64 r.got) (grown_set (g := w.heap.size + 1) (i := 1) (u := .slice A2 r.o.length a2) (grown_set (g := w.heap.size + 1) (i := 0) (u := .slice A1 r.t.length a1) (World.grownBy.refl W9 (some (w.heap.size + 1)))))))
      have bw := b2.trans (k9.mono b2.size)
      have bz := bw.grown hgr bw.size (by rintro _ ⟨⟩; omega)
      have r8 := ownsRow_lower (ownsRow_keptG hO9.t L2z ne_TO hgr) b2.size
      have r9 := ownsRow_lower (ownsRow_keptG hO9.o L2z ne_OO hgr) b2.size
      have R8 := Lib.hid r8; clear r8
      have R9 := Lib.hid r9; clear r9
      clear hgr hO9
      go_wp2
      rw [HN.out]
      refine bodyPost_ret (v := .tuple #[.agg #[.slice A1 r.t.length a1, .slice A2 r.o.length a2, .int .i64 r.got, .int .i64 r.sold, .int .i64 r.missed], .bool true]) (by simp [results, Try.results47, go_sem, *]) rfl ?_
      exact GivesStep.yes rfl R8.out R9.out bz

set_option maxRecDepth 100000 in
set_option maxHeartbeats 1500000 in
/-- Get, into a new tray. -/
theorem step_getNew (x : Off) (g : Nat) (st pe va : Int) (w : World) (h : OffAt w w.heap.size g x) (G : Good x) (hI : trayIx x.t st < 0) (hst : 1 ≤ st ∧ st ≤ 99) (hpe : pe = 0) (hva : 1 ≤ va ∧ va ≤ 9999) :
    Calls Try.prog 47 #[.pointer (some ⟨g, 0, none⟩), .agg #[.int .i64 1, .int .i64 st, .int .i64 pe, .int .i64 va]] w (GivesStep w (stepD x.c ⟨1, st, pe, va⟩)) := by
  subst hpe
  obtain ⟨hst1, hst2⟩ := hst
  have hInn : ¬ 0 ≤ trayIx x.t st := by omega
  have hIx := trayIx_new hInn
  have hin := inTrays_new va hInn
  have hple := posT_le x.t st
  have hnl := newTray_len x.t st
  obtain ⟨hi0, hat⟩ := newTray_at x.t st
  have hfl : (x.t.flatMap Tray.enc).take (posT x.t st * 2) ++ Tray.enc ⟨st, 0⟩ ++ (x.t.flatMap Tray.enc).drop (posT x.t st * 2) = (newTray x.t st).flatMap Tray.enc := (flat_ins Tray.enc 2 Tray.enc_len x.t (posT x.t st) ⟨st, 0⟩).symm
  have hlo : ∀ i (h : i < x.t.length), i < posT x.t st → cmpI x.t[i].k st < 0 := fun i h hi => cmpI_lt.2 (posT_lt x.t st i h hi)
  have hhi : ∀ i (h : i < x.t.length), posT x.t st ≤ i → ¬ cmpI x.t[i].k st < 0 := fun i h hi hc => posT_ge x.t st G.ascT i h hi (cmpI_lt.1 hc)
  have hfd : ∀ h : posT x.t st < x.t.length, false = decide (cmpI x.t[posT x.t st].k st = 0) := fun h => by
    symm; rw [decide_eq_false_iff_not, cmpI_zero]; exact trayIx_none hInn _ (List.getElem_mem _)
  have cB := fun (A : Option Addr) (c : Nat) (W : World) (hW : TraysR W W.heap.size A x.t) => bsTray_any (fun t => cmpI t.k st) (.int .i64 st) 81 #[] Try.call81 A c x.t W (fun t p => kindFn_any t st p.val) hW (by have := G.tl; omega) (posT x.t st) hple hlo hhi false hfd (fun _ => rfl)
  obtain ⟨tr, htr0⟩ : ∃ tr : Tray, tr = ⟨st, 0⟩ := ⟨_, rfl⟩
  have htb1 : 0 ≤ tr.c := by rw [htr0]; exact Int.le_refl _
  have htb2 : tr.c ≤ 9999 := by rw [htr0]; show (0 : Int) ≤ 9999; omega
  have hgd : (newTray x.t st).getD (posT x.t st) default = tr := by rw [List.getD_eq_getElem?_getD, List.getElem?_eq_getElem hi0, hat, htr0]; rfl
  rw [hgd] at hin
  rw [← htr0] at hat
  clear hgd hlo hhi hfd htr0
  generalize newTray x.t st = T1 at hIx hin hnl hi0 hat hfl
  generalize posT x.t st = i at hIx hin hple hi0 hat hfl cB
  have hi : i < T1.length := hi0
  have htr : T1[i] = tr := hat
  obtain ⟨r, hr⟩ : ∃ r : Oc, r = ⟨T1.set i ⟨tr.k, tr.c + va⟩, x.o, x.got + va, x.sold, x.missed⟩ := ⟨_, rfl⟩
  have HR : Hid (stepD x.c ⟨1, st, 0, va⟩ = Oc.fin r) := by
    unfold Hid stepD
    rw [if_pos rfl]
    show Oc.fin ⟨inTrays x.t st va, x.o, x.got + va, x.sold, x.missed⟩ = _
    rw [hin, hr]
  have hNb := G.at_bd st 0
  have hz0 : (0 : Int) ≤ (i : Int) := by omega
  have HFL := Lib.hid hfl
  clear hin hfl hat hi0
  have hgg := G.g
  obtain ⟨hgg1, hgg2⟩ := hgg
  obtain ⟨hva1, hva2⟩ := hva
  have L1 := (Lies.new w 45 #[.int .i64 1, .int .i64 st, .int .i64 0, .int .i64 va]).alloc (.cells #[.slice none 0 0, .slice none 0 0, .int .i64 0, .int .i64 0, .int .i64 0] 25)
  have L2 := Lies.new1 w (.cells #[.int .i64 1, .int .i64 st, .int .i64 0, .int .i64 va] 45) 25 #[.slice none 0 0, .slice none 0 0, .int .i64 0, .int .i64 0, .int .i64 0]
  have b1 := (Below.refl w.heap.size w).alloc (Nat.le_refl _) (.cells #[.int .i64 1, .int .i64 st, .int .i64 0, .int .i64 va] 45)
  have b2 := b1.alloc b1.size (.cells #[.slice none 0 0, .slice none 0 0, .int .i64 0, .int .i64 0, .int .i64 0] 25)
  have hA := h.then b2 b2.size
  have tl := G.tl
  have ol := G.ol
  clear b1
  go_enter Try.func47, Try.ntmps47
  go_wp2_with fail
  generalize ((w.alloc (.cells #[.int .i64 1, .int .i64 st, .int .i64 0, .int .i64 va] 45)).alloc (.cells #[.slice none 0 0, .slice none 0 0, .int .i64 0, .int .i64 0, .int .i64 0] 25)) = W2 at L1 L2 b2 hA ⊢
  refine (copyOffice_val x g W2 hA (by omega) (by omega)).mono ?_
  rintro e W3 ⟨TA, tc, OA, oc, rfl, hT, hO, k3⟩
  have hal := (Below.refl W3.heap.size W3).alloc (Nat.le_refl _) (.cells #[.slice TA x.t.length tc, .slice OA x.o.length oc, .int .i64 x.got, .int .i64 x.sold, .int .i64 x.missed] 25)
  have hOwn : OffOwn (W3.alloc (.cells #[.slice TA x.t.length tc, .slice OA x.o.length oc, .int .i64 x.got, .int .i64 x.sold, .int .i64 x.missed] 25)) W2.heap.size W3.heap.size _ _ x.c := ⟨Lies.new W3 25 #[.slice TA x.t.length tc, .slice OA x.o.length oc, .int .i64 x.got, .int .i64 x.sold, .int .i64 x.missed], k3.size, ownsRow_below hT hal, ownsRow_below hO hal⟩
  have k4 := k3.trans (hal.mono k3.size)
  have s0 := (L1.below k4 L1.lt).cell 0
  have s1 := (L1.below k4 L1.lt).cell 1
  simp only [List.getElem?_cons_zero, List.getElem?_cons_succ] at s0 s1
  have hgO : w.heap.size + 1 < W3.heap.size := Nat.lt_of_lt_of_le L2.lt k3.size
  clear hT hO k3
  have hA4 := hA.then k4 k4.size
  go_wp2_with fail
  clear s0 s1 hal
  generalize W3.alloc (.cells #[.slice TA x.t.length tc, .slice OA x.o.length oc, .int .i64 x.got, .int .i64 x.sold, .int .i64 x.missed] 25) = W4 at hOwn k4 hA4 ⊢
  generalize W3.heap.size = gO at hOwn hgO ⊢
  refine (trayAt_any x g st W4 hA4).mono ?_
  rintro e W4b ⟨rfl, hb4⟩
  generalize trayIx x.t st = I0 at hI ⊢
  have hOwn4 := hOwn.then hb4
  have k4b := k4.trans (hb4.mono k4.size)
  have L1b := L1.below k4b L1.lt
  have s1 := L1b.cell 1
  simp only [List.getElem?_cons_zero, List.getElem?_cons_succ] at s1
  have q0 : W4b.cell? ⟨gO, 0, none⟩ = some (.slice TA x.t.length tc) := hOwn4.lies.cell 0
  go_wp2_with fail
  refine (cB TA tc W4b (ownsRow_reads hOwn4.t)).mono ?_
  rintro e W5 ⟨rfl, hb5⟩
  have hOwn5 := hOwn4.then hb5
  have k5 := k4b.trans (hb5.mono k4b.size)
  have L1c := L1.below k5 L1.lt
  clear s1 q0
  have s1 := L1c.cell 1
  simp only [List.getElem?_cons_zero, List.getElem?_cons_succ] at s1
  have q0 : W5.cell? ⟨gO, 0, none⟩ = some (.slice TA x.t.length tc) := hOwn5.lies.cell 0
  have al5 := (Below.refl W5.heap.size W5).alloc (Nat.le_refl _) (.cells #[.int .i64 st, .int .i64 0] 74)
  have hOwn5a := hOwn5.then al5
  have cI := insTray_any W2.heap.size (.slice TA x.t.length tc) x.t.length (x.t.flatMap Tray.enc) (W5.alloc (.cells #[.int .i64 st, .int .i64 0] 74)) hOwn5a.t (by omega) i hple ⟨st, 0⟩ W5.heap.size 1 (Lies.new W5 74 #[.int .i64 st, .int .i64 0]) (fun e => by have := (hOwn5.t.lt _ e).2; omega) (Nat.le_trans k5.size al5.size) tray_cells
  rw [HFL.out, ← hnl] at cI
  clear hnl
  go_wp2_with fail
  clear s1 q0
  generalize W5.alloc (.cells #[.int .i64 st, .int .i64 0] 74) = W5a at al5 hOwn5a cI ⊢
  refine cI.mono ?_
  rintro e W5b ⟨v', rfl, HO5, hg5⟩
  obtain ⟨gT, tc', _, rfl, _, _, _⟩ := ownsRow_at HO5 (by omega)
  have k5b : Below W2.heap.size W2 W5b := (k5.trans (al5.mono k5.size)).grown hg5 (Nat.le_trans k5.size al5.size) (fun j hj => (hOwn5a.t.lt j hj).1)
  have hL5 := hOwn5a.lies.kept hg5 (fun e => hOwn5a.ne_t e.symm)
  have q0 : W5b.cell? ⟨gO, 0, none⟩ = some (.slice TA x.t.length tc) := hL5.cell 0
  have q1 := hL5.frozen 0
  have hOwn6a := hOwn5a.setTs hg5 HO5
  have k6a := k5b.trans ((Below.refl W2.heap.size W5b).grown (grown_set (g := gO) (i := 0) (u := .slice (some ⟨gT, 0, none⟩) T1.length tc') (World.grownBy.refl W5b (some gO))) k5b.size (by rintro _ ⟨⟩; exact hOwn5a.hg))
  have L1f := L1.below k5b L1.lt
  have s1 := L1f.cell 1
  simp only [List.getElem?_cons_zero, List.getElem?_cons_succ] at s1
  have hneO : ¬ gO = w.heap.size := by omega
  have hneO' : ¬ w.heap.size = gO := by omega
  go_wp2_with fail
  generalize W5b.setCell ⟨gO, 0, none⟩ (.slice (some ⟨gT, 0, none⟩) T1.length tc') = W6a at hOwn6a k6a ⊢
  refine (trayAt_any ((⟨T1, x.o, x.got, x.sold, x.missed⟩ : Oc).at (some ⟨gT, 0, none⟩) tc' OA oc) gO st W6a (OffOwn.at_ (y := ⟨T1, x.o, x.got, x.sold, x.missed⟩) hOwn6a)).mono ?_
  rintro e W6b ⟨rfl, hb6b⟩
  have hOwn5' := hOwn6a.then hb6b
  have k5' := k6a.trans (hb6b.mono k6a.size)
  clear hneO hneO' s1 q0 q1 L1f hL5 k5b hOwn5a al5 hOwn5 k5 L1c hOwn4 hb4 k4b hA4 cI cB hg5 HO5 hb5 L1b
  rw [show trayIx ((⟨T1, x.o, x.got, x.sold, x.missed⟩ : Oc).at (some ⟨gT, 0, none⟩) tc' OA oc).t st = trayIx T1 st from rfl, hIx]
  have L1c := L1.below k5' L1.lt
  have hA5 := hA.then k5' k5'.size
  have hmf : ∀ (fn : Fn) (first cap : Array Value) (w : World), (Instr.makeFunc fn first cap).run Try.prog w = .ok (.func fn first cap) w := fun _ _ _ _ => rfl
  go_wp2_with fail
  refine (stampsFn_val (B := 0) L1c hA5 G (Nat.zero_le _)).mono ?_
  rintro e W6 ⟨rfl, hb6⟩
  have hOwn6 := hOwn5'.then hb6
  have k6 := k5'.trans (hb6.mono k5'.size)
  have L1d := L1.below k6 L1.lt
  have s0 := L1d.cell 0
  have s1 := L1d.cell 1
  have s2 := L1d.cell 2
  have s3 := L1d.cell 3
  simp only [List.getElem?_cons_zero, List.getElem?_cons_succ] at s0 s1 s2 s3
  have k5 := k5'
  clear L1c hA5 hOwn5' hOwn6a hb6b k6a hb6 k4
  generalize outAt st 0 x.o = N at *
  obtain ⟨hNb1, hNb2⟩ := hNb
  have c0 := hOwn6.lies.cell 0
  simp only [List.getElem?_cons_zero] at c0
  obtain ⟨v, hv⟩ : ∃ v, (N == 0) = v := ⟨_, rfl⟩
  cases v
  all_goals
    go_wp2
    obtain ⟨hOt, kt, ct, cf⟩ := OffOwn.setT' (y := ⟨T1, x.o, x.got, x.sold, x.missed⟩) (hOwn6.then (Below.refl _ _).drew) hi tr htr (tr.c + va)
    have kd := k6.drew
    have L1e := L1.below kd L1.lt
    have u1 := L1e.cell 1
    have u2 := L1e.cell 2
    have u3 := L1e.cell 3
    simp only [List.getElem?_cons_zero, List.getElem?_cons_succ] at u1 u2 u3
    go_still_tail 9, (by kernel_rfl)
    change wpList _ _ _ _ _ W6.drew
    generalize W6.drew = Wd at hOt kt ct cf kd L1e u1 u2 u3 ⊢
    have k7 := kd.trans kt
    have hneT : ¬ gT = w.heap.size := fun e => by have := (hOt.t.lt gT rfl).1; have := L1.lt; omega
    have hneT' : ¬ w.heap.size = gT := fun e => hneT e.symm
    have hneO : ¬ gO = w.heap.size := by omega
    have hneO' : ¬ w.heap.size = gO := by omega
    have hneG : ¬ gT = gO := fun e => hOt.ne_t (by rw [← e]; rfl)
    have hneG' : ¬ gO = gT := fun e => hneG e.symm
    have d2 : Wd.cell? ⟨gO, 2, none⟩ = some (.int .i64 x.got) := by
      have := hOt.lies.cell 2
      rw [World.cell?_setCell_other _ _ _ _ (by simp)] at this
      exact this
    have d2f : Wd.frozen? ⟨gO, 2, none⟩ = false := by
      have := hOt.lies.frozen 2
      rwa [World.frozen?_setCell] at this
    have hOu := (hOt.setN (x.got + va)).1
    have k8 := k7.trans (hOt.belowN 2 (.int .i64 (x.got + va)))
    go_wp2_with fail
    generalize (Wd.setCell ⟨gT, i * 2 + 1, none⟩ (.int .i64 (tr.c + va))).setCell ⟨gO, 2, none⟩ (.int .i64 (x.got + va)) = W8 at hOu k8 ⊢
    replace hO8 : ∃ vt vo, OffOwn W8 W2.heap.size gO vt vo r := ⟨_, _, by rw [hr]; exact hOu⟩
    obtain ⟨vt, vo, hO8⟩ := hO8
    clear hr hOt hOu hOwn6 c0 ct cf u1 u2 u3 s0 s1 s2 s3 L1d L1e kt kd k7 k6 k5 d2 d2f
    obtain ⟨A1, a1, A2, a2, rfl, rfl⟩ := hO8.form
    have cV := isOfficeValid_any (r.at A1 a1 A2 a2) gO W8 (OffOwn.at_ (y := r) hO8)
    rw [Oc.good_at] at cV
    cases hg : r.good
    · rw [hg] at cV
      have HN : Hid (stepD x.c ⟨1, st, 0, va⟩ = none) := by unfold Hid; rw [HR.out, Oc.fin, hg]; rfl
      clear hg
      go_wp2_with fail
      refine cV.mono ?_
      rintro e W9 ⟨rfl, hb9⟩
      have k9 := k8.trans (hb9.mono k8.size)
      clear hb9 cV
      have L2z := L2.below k9 L2.lt
      have z0 := L2z.cell 0
      have z1 := L2z.cell 1
      have z2 := L2z.cell 2
      have z3 := L2z.cell 3
      have z4 := L2z.cell 4
      have f0 := L2z.frozen 0
      have f1 := L2z.frozen 1
      have f2 := L2z.frozen 2
      have f3 := L2z.frozen 3
      have f4 := L2z.frozen 4
      simp only [List.getElem?_cons_zero, List.getElem?_cons_succ] at z0 z1 z2 z3 z4
      have hgr := grown_set (g := w.heap.size + 1) (i := 4) (u := .int .i64 0) (grown_set (g := w.heap.size + 1) (i := 3) (u := .int .i64 0) (grown_set (g := w.heap.size + 1) (i := 2) (u := .int .i64 0) (grown_set (g := w.heap.size + 1) (i := 1) (u := .slice none 0 0) (grown_set (g := w.heap.size + 1) (i := 0) (u := .slice none 0 0) (World.grownBy.refl W9 (some (w.heap.size + 1)))))))
      have bw := b2.trans (k9.mono b2.size)
      have bz := bw.grown hgr bw.size (by rintro _ ⟨⟩; omega)
      go_wp2
      rw [HN.out]
      refine bodyPost_ret (v := .tuple #[.agg #[.slice none 0 0, .slice none 0 0, .int .i64 0, .int .i64 0, .int .i64 0], .bool false]) (by simp [results, Try.results47, go_sem, *]) rfl (GivesStep.no rfl bz)
    · rw [hg] at cV
      have HN : Hid (stepD x.c ⟨1, st, 0, va⟩ = some r) := by unfold Hid; rw [HR.out, Oc.fin, hg]; rfl
      clear hg
      go_wp2_with fail
      refine cV.mono ?_
      rintro e W9 ⟨rfl, hb9⟩
      have k9 := k8.trans (hb9.mono k8.size)
      have hO9 := hO8.then hb9
      clear hb9 cV hO8
      have c0 := hO9.lies.cell 0
      have c1 := hO9.lies.cell 1
      have c2 := hO9.lies.cell 2
      have c3 := hO9.lies.cell 3
      have c4 := hO9.lies.cell 4
      simp only [List.getElem?_cons_zero, List.getElem?_cons_succ] at c0 c1 c2 c3 c4
      have L2z := L2.below k9 L2.lt
      have z0 := L2z.cell 0
      have z1 := L2z.cell 1
      have z2 := L2z.cell 2
      have z3 := L2z.cell 3
      have z4 := L2z.cell 4
      have f0 := L2z.frozen 0
      have f1 := L2z.frozen 1
      have f2 := L2z.frozen 2
      have f3 := L2z.frozen 3
      have f4 := L2z.frozen 4
      simp only [List.getElem?_cons_zero, List.getElem?_cons_succ] at z0 z1 z2 z3 z4
      have hgr := grown_set (g := w.heap.size + 1) (i := 4) (u := .int .i64 r.missed) (grown_set (g := w.heap.size + 1) (i := 3) (u := .int .i64 r.sold) (grown_set (g := w.heap.size + 1) (i := 2) (u := .int .i64 r.got) (grown_set (g := w.heap.size + 1) (i := 1) (u := .slice A2 r.o.length a2) (grown_set (g := w.heap.size + 1) (i := 0) (u := .slice A1 r.t.length a1) (World.grownBy.refl W9 (some (w.heap.size + 1)))))))
      have bw := b2.trans (k9.mono b2.size)
      have bz := bw.grown hgr bw.size (by rintro _ ⟨⟩; omega)
      have r8 := ownsRow_lower (ownsRow_keptG hO9.t L2z ne_TO hgr) b2.size
      have r9 := ownsRow_lower (ownsRow_keptG hO9.o L2z ne_OO hgr) b2.size
      have R8 := Lib.hid r8; clear r8
      have R9 := Lib.hid r9; clear r9
      clear hgr hO9
      go_wp2
      rw [HN.out]
      refine bodyPost_ret (v := .tuple #[.agg #[.slice A1 r.t.length a1, .slice A2 r.o.length a2, .int .i64 r.got, .int .i64 r.sold, .int .i64 r.missed], .bool true]) (by simp [results, Try.results47, go_sem, *]) rfl ?_
      exact GivesStep.yes rfl R8.out R9.out bz
end Go.Proofs.Ytdiojhjkcholiaa
