/- Tr09: the texts SpecMakA SpecMakB SpecMakC SpecMakD SpecMakE SpecMake TryD RunP, joined into one file. -/
import Derived.Test.YtdiojhjkcholiaaDoorTr01
import Derived.Test.YtdiojhjkcholiaaDoorTr06
import Derived.Test.YtdiojhjkcholiaaDoorTr08

set_option linter.unusedVariables false

/- A step in the reference: l32Make, get. (Printed by gen_specmake.py) -/
namespace Go.Proofs.YtdiojhjkcholiaaDoor
open Go.RowKit

set_option maxRecDepth 100000 in
set_option maxHeartbeats 4000000 in
theorem make_get (x : Off) (st pe va : Int) (hst : 1 ≤ st ∧ st ≤ 99) (hva : 1 ≤ va ∧ va ≤ 9999) (w : World) (h : OffR w w.heap.size x) (G : Good x) (hcap : x.t.length ≤ x.tc) :
    Calls Tryd.prog 76 #[x.val, .agg #[.int .i64 1, .int .i64 st, .int .i64 pe, .int .i64 va]] w (GivesMk w ((⟨inTrays x.t st va, x.o, x.got + va, x.sold, x.missed⟩ : Oc), ((⟨inTrays x.t st va, x.o, x.got + va, x.sold, x.missed⟩ : Oc)).good)) := by
  have L1 := ((Lies.new w 32 #[.slice x.TA x.t.length x.tc, .slice x.OA x.o.length x.oc, .int .i64 x.got, .int .i64 x.sold, .int .i64 x.missed]).alloc (.cells #[.int .i64 1, .int .i64 st, .int .i64 pe, .int .i64 va] 90)).alloc (.cells #[.slice none 0 0, .slice none 0 0, .int .i64 0, .int .i64 0, .int .i64 0] 32)
  have L2 := (Lies.new1 w (.cells #[.slice x.TA x.t.length x.tc, .slice x.OA x.o.length x.oc, .int .i64 x.got, .int .i64 x.sold, .int .i64 x.missed] 32) 90 #[.int .i64 1, .int .i64 st, .int .i64 pe, .int .i64 va]).alloc (.cells #[.slice none 0 0, .slice none 0 0, .int .i64 0, .int .i64 0, .int .i64 0] 32)
  have L3 := Lies.new2 w (.cells #[.slice x.TA x.t.length x.tc, .slice x.OA x.o.length x.oc, .int .i64 x.got, .int .i64 x.sold, .int .i64 x.missed] 32) (.cells #[.int .i64 1, .int .i64 st, .int .i64 pe, .int .i64 va] 90) 32 #[.slice none 0 0, .slice none 0 0, .int .i64 0, .int .i64 0, .int .i64 0]
  have b1 := (Below.refl w.heap.size w).alloc (Nat.le_refl _) (.cells #[.slice x.TA x.t.length x.tc, .slice x.OA x.o.length x.oc, .int .i64 x.got, .int .i64 x.sold, .int .i64 x.missed] 32)
  have b2 := b1.alloc b1.size (.cells #[.int .i64 1, .int .i64 st, .int .i64 pe, .int .i64 va] 90)
  have b3 := b2.alloc b2.size (.cells #[.slice none 0 0, .slice none 0 0, .int .i64 0, .int .i64 0, .int .i64 0] 32)
  have Sx := G.small
  have htl := G.tl
  have hol := G.ol
  have htc := G.tcs
  obtain ⟨m1, m2⟩ := G.m
  obtain ⟨g1, g2⟩ := G.s
  obtain ⟨o1, o2⟩ := G.g
  clear b1 b2 G
  obtain ⟨v1, v2⟩ := hva
  obtain ⟨gd, hgd⟩ : ∃ gd, ((⟨inTrays x.t st va, x.o, x.got + va, x.sold, x.missed⟩ : Oc)).good = gd := ⟨_, rfl⟩
  rw [hgd]
  have HG := Lib.hid hgd; clear hgd
  have i4 : IntKind.i64.wrap (x.got + va) = x.got + va := IntWalk.i64_in _ (by omega)
  go_enter Tryd.func76, Tryd.ntmps76
  go_wp2_with fail
  generalize (((w.alloc (.cells #[.slice x.TA x.t.length x.tc, .slice x.OA x.o.length x.oc, .int .i64 x.got, .int .i64 x.sold, .int .i64 x.missed] 32)).alloc (.cells #[.int .i64 1, .int .i64 st, .int .i64 pe, .int .i64 va] 90)).alloc (.cells #[.slice none 0 0, .slice none 0 0, .int .i64 0, .int .i64 0, .int .i64 0] 32)) = W at L1 L2 L3 b3 ⊢
  have hR := h.up b3 (Nat.le_refl _)
  have hR1 := hR
  have L1a := L1
  have L2a := L2
  have L3a := L3
  have b4 := b3
  have hW0 : w.heap.size ≤ W.heap.size := b4.size
  clear L1 L2 L3 b3 hR h

  refine (inX x st va W hR1 Sx (by omega) hcap).mono ?_
  rintro e W2 ⟨v2, rfl, ⟨TA, tc, OA, oc, hv2, hT, hO⟩, hb2⟩
  have hv2 : v2 = .agg #[.slice TA (inTrays x.t st va).length tc, .slice OA x.o.length oc, .int .i64 x.got, .int .i64 x.sold, .int .i64 x.missed] := hv2
  subst hv2
  simp only at hT hO
  have hal := (Below.refl W2.heap.size W2).alloc (Nat.le_refl _) (.cells #[.slice TA (inTrays x.t st va).length tc, .slice OA x.o.length oc, .int .i64 x.got, .int .i64 x.sold, .int .i64 x.missed] 32)
  have L1b := (L1a.below hb2 L1a.lt).below hal (Nat.lt_of_lt_of_le L1a.lt hb2.size)
  have L2b := (L2a.below hb2 L2a.lt).below hal (Nat.lt_of_lt_of_le L2a.lt hb2.size)
  have L3b := (L3a.below hb2 L3a.lt).below hal (Nat.lt_of_lt_of_le L3a.lt hb2.size)
  have P := Lies.new W2 32 #[.slice TA (inTrays x.t st va).length tc, .slice OA x.o.length oc, .int .i64 x.got, .int .i64 x.sold, .int .i64 x.missed]
  have hT3 := ownsRow_lower (ownsRow_below hT hal) hW0
  have hO3 := ownsRow_lower (ownsRow_below hO hal) hW0
  have b5 := b4.trans ((bthen hb2 hal).mono b4.size)
  have hgg : w.heap.size + 1 + 1 < W2.heap.size := Nat.lt_of_lt_of_le L3a.lt hb2.size
  obtain ⟨W3, hW3⟩ : ∃ W3, W2.alloc (.cells #[.slice TA (inTrays x.t st va).length tc, .slice OA x.o.length oc, .int .i64 x.got, .int .i64 x.sold, .int .i64 x.missed] 32) = W3 := ⟨_, rfl⟩
  rw [hW3] at L1b L2b L3b P hT3 hO3 b5
  generalize hg2 : W2.heap.size = g2 at P hgg
  have c0 := L1b.cell 0
  have c1 := L1b.cell 1
  have c2 := L1b.cell 2
  have c3 := L1b.cell 3
  have c4 := L1b.cell 4
  simp only [List.getElem?_cons_zero, List.getElem?_cons_succ] at c0 c1 c2 c3 c4
  have s0 := L2b.cell 0
  have s1 := L2b.cell 1
  have s2 := L2b.cell 2
  have s3 := L2b.cell 3
  simp only [List.getElem?_cons_zero, List.getElem?_cons_succ] at s0 s1 s2 s3
  have p0 := P.cell 0
  have p1 := P.cell 1
  have p2 := P.cell 2
  have p3 := P.cell 3
  have p4 := P.cell 4
  simp only [List.getElem?_cons_zero, List.getElem?_cons_succ] at p0 p1 p2 p3 p4
  have pf0 := P.frozen 0
  have pf1 := P.frozen 1
  have pf2 := P.frozen 2
  have pf3 := P.frozen 3
  have pf4 := P.frozen 4
  have P4 := P.set 2 (.int .i64 (x.got + va))
  have L1c := L1b.other (p := ⟨g2, 2, none⟩) (by simp; omega) (.int .i64 (x.got + va))
  have L2c := L2b.other (p := ⟨g2, 2, none⟩) (by simp; omega) (.int .i64 (x.got + va))
  have L3c := L3b.other (p := ⟨g2, 2, none⟩) (by simp; omega) (.int .i64 (x.got + va))
  have hT4 := ownsRow_setOther hT3 P ne_owt 2 (.int .i64 (x.got + va))
  have hO4 := ownsRow_setOther hO3 P ne_owo 2 (.int .i64 (x.got + va))
  have b6 := b5.setCell (p := ⟨g2, 2, none⟩) (show w.heap.size ≤ g2 by omega) (.int .i64 (x.got + va))
  simp only [List.set_cons_zero, List.set_cons_succ] at P4
  obtain ⟨W4, hW4⟩ : ∃ W4, W3.setCell ⟨g2, 2, none⟩ (.int .i64 (x.got + va)) = W4 := ⟨_, rfl⟩
  rw [hW4] at P4 L1c L2c L3c hT4 hO4 b6
  clear hb2 hal hT hO L1a L2a L3a b4 hR1
  go_wp2_with (first | (rw [hW3]; clear hW3; rw [hg2]) | (rw [hW4]; clear hW4))
  clear c0 c1 c2 c3 c4 s0 s1 s2 s3 p0 p1 p2 p3 p4 pf0 pf1 pf2 pf3 pf4

  obtain ⟨D1, hD1⟩ : ∃ D : World → Prop, D = (fun W9 => ∃ W8 TA tc OA oc, Below W4.heap.size W4 W8 ∧ W8.ownsRow w.heap.size 68 2 (.slice TA ((⟨inTrays x.t st va, x.o, x.got + va, x.sold, x.missed⟩ : Oc)).t.length tc) ((⟨inTrays x.t st va, x.o, x.got + va, x.sold, x.missed⟩ : Oc)).t.length (((⟨inTrays x.t st va, x.o, x.got + va, x.sold, x.missed⟩ : Oc)).t.flatMap Tray.enc) ∧ W8.ownsRow w.heap.size 71 3 (.slice OA ((⟨inTrays x.t st va, x.o, x.got + va, x.sold, x.missed⟩ : Oc)).o.length oc) ((⟨inTrays x.t st va, x.o, x.got + va, x.sold, x.missed⟩ : Oc)).o.length (((⟨inTrays x.t st va, x.o, x.got + va, x.sold, x.missed⟩ : Oc)).o.flatMap Outing.enc) ∧ W9 = stOff W8 (w.heap.size + 1 + 1) (.slice TA ((⟨inTrays x.t st va, x.o, x.got + va, x.sold, x.missed⟩ : Oc)).t.length tc) (.slice OA ((⟨inTrays x.t st va, x.o, x.got + va, x.sold, x.missed⟩ : Oc)).o.length oc) (.int .i64 ((⟨inTrays x.t st va, x.o, x.got + va, x.sold, x.missed⟩ : Oc)).got) (.int .i64 ((⟨inTrays x.t st va, x.o, x.got + va, x.sold, x.missed⟩ : Oc)).sold) (.int .i64 ((⟨inTrays x.t st va, x.o, x.got + va, x.sold, x.missed⟩ : Oc)).missed)) := ⟨_, rfl⟩
  have hDL : ∀ W, D1 W → ∃ W8 v0 v1 v2 v3 v4, Below W4.heap.size W4 W8 ∧ W = stOff W8 (w.heap.size + 1 + 1) v0 v1 v2 v3 v4 := by
    rw [hD1]
    rintro _ ⟨W8, TA, tc, OA, oc, hq, _, _, e⟩
    exact ⟨W8, _, _, _, _, _, hq, e⟩
  have HD1 := Lib.hid hD1; clear hD1
  refine wp_region_factsR (Sw 3 (fun W9 => Below W4.heap.size W4 W9) D1) (fun i w1 w2 => i ∉ [3] → Below w1.heap.size w1 w2) (by kernel_rfl) (by kernel_rfl) (by kernel_rfl) (Sw.start (Below.refl _ _).drew) ?_
  simp only [fillOps, Act.put, List.setIfInBounds_toArray, List.set_cons_zero, List.set_cons_succ, Nat.zero_add, Nat.reduceAdd]
  apply wpFactsR_val
  case h1 =>
    intro vs L9 w9 hG9 hC9 hB K9 hK9
    replace hC9 := hC9.before hG9 (by kernel_rfl)
    have q0 : w9.cell? ⟨g2, 0, none⟩ = some (.slice TA (inTrays x.t st va).length tc) := (P4.below hC9 P4.lt).cell 0
    have q1 : w9.cell? ⟨g2, 1, none⟩ = some (.slice OA x.o.length oc) := (P4.below hC9 P4.lt).cell 1
    have q2 : w9.cell? ⟨g2, 2, none⟩ = some (.int .i64 (x.got + va)) := (P4.below hC9 P4.lt).cell 2
    have q3 : w9.cell? ⟨g2, 3, none⟩ = some (.int .i64 x.sold) := (P4.below hC9 P4.lt).cell 3
    have q4 : w9.cell? ⟨g2, 4, none⟩ = some (.int .i64 x.missed) := (P4.below hC9 P4.lt).cell 4
    simp only [Act.put, List.setIfInBounds_toArray, List.set_cons_zero, List.set_cons_succ] at hK9
    go_simp
    exact hK9 _ _ rfl (Sw.stay hG9 (by kernel_rfl) (by decide) hC9) (fun _ => Below.refl _ _)
  apply wpFactsR_val
  case h1 =>
    intro vs L9 w9 hG9 hC9 hB K9 hK9
    replace hC9 := hC9.before hG9 (by kernel_rfl)
    have q0 : w9.cell? ⟨g2, 0, none⟩ = some (.slice TA (inTrays x.t st va).length tc) := (P4.below hC9 P4.lt).cell 0
    have q1 : w9.cell? ⟨g2, 1, none⟩ = some (.slice OA x.o.length oc) := (P4.below hC9 P4.lt).cell 1
    have q2 : w9.cell? ⟨g2, 2, none⟩ = some (.int .i64 (x.got + va)) := (P4.below hC9 P4.lt).cell 2
    have q3 : w9.cell? ⟨g2, 3, none⟩ = some (.int .i64 x.sold) := (P4.below hC9 P4.lt).cell 3
    have q4 : w9.cell? ⟨g2, 4, none⟩ = some (.int .i64 x.missed) := (P4.below hC9 P4.lt).cell 4
    simp only [Act.put, List.setIfInBounds_toArray, List.set_cons_zero, List.set_cons_succ] at hK9
    go_simp
    exact hK9 _ _ rfl (Sw.stay hG9 (by kernel_rfl) (by decide) hC9) (fun _ => Below.refl _ _)
  apply wpFactsR_val
  case h1 =>
    intro vs L9 w9 hG9 hC9 hB K9 hK9
    replace hC9 := hC9.before hG9 (by kernel_rfl)
    have d1 := FactN.eq (hB 1 _ (by kernel_rfl) (by kernel_rfl) rfl (by decide))
    simp only [d1] at hK9 ⊢
    simp only [Act.put, List.setIfInBounds_toArray, List.set_cons_zero, List.set_cons_succ] at hK9
    go_simp
    refine (show Calls _ _ _ _ (fun e w' => e = .returned (.bool gd) ∧ Below w9.heap.size w9 w') from by rw [← HG.out]; exact goodV (show OwnV w9 w.heap.size (⟨inTrays x.t st va, x.o, x.got + va, x.sold, x.missed⟩ : Oc) _ from ⟨TA, tc, OA, oc, rfl, ownsRow_below hT4 hC9, ownsRow_below hO4 hC9⟩)).mono ?_
    rintro en w8 ⟨rfl, hb8⟩
    exact hK9 _ _ rfl (Sw.stay hG9 (by kernel_rfl) (by decide) (hC9.trans (hb8.mono hC9.size))) (fun _ => hb8)
  refine wpFactsR_val (undef) (fun vs L9 w9 hG9 hC9 hB K9 hK9 => ?hg3) ?rg3
  case hg3 =>
    replace hC9 := hC9.here hG9
    have d0 := FactN.eq (hB 0 _ (by kernel_rfl) (by kernel_rfl) rfl (by decide))
    simp only [d0] at hK9 ⊢
    have Lr := L3c.below hC9 L3c.lt
    have z0 := Lr.cell 0
    have z1 := Lr.cell 1
    have z2 := Lr.cell 2
    have z3 := Lr.cell 3
    have z4 := Lr.cell 4
    simp only [List.getElem?_cons_zero, List.getElem?_cons_succ] at z0 z1 z2 z3 z4
    have f0 := Lr.frozen 0
    have f1 := Lr.frozen 1
    have f2 := Lr.frozen 2
    have f3 := Lr.frozen 3
    have f4 := Lr.frozen 4
    clear Lr
    go_simp
    exact hK9 _ _ rfl (Sw.turn (by rw [HD1.out]; exact ⟨w9, TA, tc, OA, oc, hC9, ownsRow_below hT4 hC9, ownsRow_below hO4 hC9, rfl⟩)) (fun hq => (hq (by decide)).elim)
  apply wpFactsR_val
  case h1 =>
    intro vs L9 w9 hG9 hC9 hB K9 hK9
    replace hC9 := hC9.after hG9 (by kernel_rfl)
    have d2 := FactN.eq (hB 2 _ (by kernel_rfl) (by kernel_rfl) rfl (by decide))
    simp only [d2] at hK9 ⊢
    simp only [Act.put, List.setIfInBounds_toArray, List.set_cons_zero, List.set_cons_succ] at hK9
    go_simp
    exact hK9 _ _ rfl (Sw.on hG9 (by kernel_rfl) hC9) (fun _ => Below.refl _ _)
  refine wpFactsR_nil fun vs L9 w9 hL9 hC9 hB => ?_
  replace hC9 := hC9.done hL9 (by decide)
  have dl := FactN.eq (hB 4 _ rfl rfl (by decide))
  simp only [dl]
  clear hB dl
  rw [HD1.out] at hC9
  obtain ⟨W8, TA, tc, OA, oc, hb8, h1, h2, rfl⟩ := hC9
  have Lr := L3c.below hb8 L3c.lt
  have bz := (b6.trans (hb8.mono b6.size)).trans (stOff_below (v0 := .slice TA ((⟨inTrays x.t st va, x.o, x.got + va, x.sold, x.missed⟩ : Oc)).t.length tc) (v1 := .slice OA ((⟨inTrays x.t st va, x.o, x.got + va, x.sold, x.missed⟩ : Oc)).o.length oc) (v2 := .int .i64 ((⟨inTrays x.t st va, x.o, x.got + va, x.sold, x.missed⟩ : Oc)).got) (v3 := .int .i64 ((⟨inTrays x.t st va, x.o, x.got + va, x.sold, x.missed⟩ : Oc)).sold) (v4 := .int .i64 ((⟨inTrays x.t st va, x.o, x.got + va, x.sold, x.missed⟩ : Oc)).missed) Lr (show w.heap.size ≤ (w.heap.size + 1 + 1) by omega))
  have HT := Lib.hid (stOff_row (v0 := .slice TA ((⟨inTrays x.t st va, x.o, x.got + va, x.sold, x.missed⟩ : Oc)).t.length tc) (v1 := .slice OA ((⟨inTrays x.t st va, x.o, x.got + va, x.sold, x.missed⟩ : Oc)).o.length oc) (v2 := .int .i64 ((⟨inTrays x.t st va, x.o, x.got + va, x.sold, x.missed⟩ : Oc)).got) (v3 := .int .i64 ((⟨inTrays x.t st va, x.o, x.got + va, x.sold, x.missed⟩ : Oc)).sold) (v4 := .int .i64 ((⟨inTrays x.t st va, x.o, x.got + va, x.sold, x.missed⟩ : Oc)).missed) Lr h1 ne_owt)
  have HO := Lib.hid (stOff_row (v0 := .slice TA ((⟨inTrays x.t st va, x.o, x.got + va, x.sold, x.missed⟩ : Oc)).t.length tc) (v1 := .slice OA ((⟨inTrays x.t st va, x.o, x.got + va, x.sold, x.missed⟩ : Oc)).o.length oc) (v2 := .int .i64 ((⟨inTrays x.t st va, x.o, x.got + va, x.sold, x.missed⟩ : Oc)).got) (v3 := .int .i64 ((⟨inTrays x.t st va, x.o, x.got + va, x.sold, x.missed⟩ : Oc)).sold) (v4 := .int .i64 ((⟨inTrays x.t st va, x.o, x.got + va, x.sold, x.missed⟩ : Oc)).missed) Lr h2 ne_owo)
  have PR := stOff_is (v0 := .slice TA ((⟨inTrays x.t st va, x.o, x.got + va, x.sold, x.missed⟩ : Oc)).t.length tc) (v1 := .slice OA ((⟨inTrays x.t st va, x.o, x.got + va, x.sold, x.missed⟩ : Oc)).o.length oc) (v2 := .int .i64 ((⟨inTrays x.t st va, x.o, x.got + va, x.sold, x.missed⟩ : Oc)).got) (v3 := .int .i64 ((⟨inTrays x.t st va, x.o, x.got + va, x.sold, x.missed⟩ : Oc)).sold) (v4 := .int .i64 ((⟨inTrays x.t st va, x.o, x.got + va, x.sold, x.missed⟩ : Oc)).missed) Lr
  generalize stOff W8 (w.heap.size + 1 + 1) (.slice TA ((⟨inTrays x.t st va, x.o, x.got + va, x.sold, x.missed⟩ : Oc)).t.length tc) (.slice OA ((⟨inTrays x.t st va, x.o, x.got + va, x.sold, x.missed⟩ : Oc)).o.length oc) (.int .i64 ((⟨inTrays x.t st va, x.o, x.got + va, x.sold, x.missed⟩ : Oc)).got) (.int .i64 ((⟨inTrays x.t st va, x.o, x.got + va, x.sold, x.missed⟩ : Oc)).sold) (.int .i64 ((⟨inTrays x.t st va, x.o, x.got + va, x.sold, x.missed⟩ : Oc)).missed) = W9 at bz HT HO PR ⊢
  have k0 := PR.cell 0
  have k1 := PR.cell 1
  have k2 := PR.cell 2
  have k3 := PR.cell 3
  have k4 := PR.cell 4
  simp only [List.getElem?_cons_zero, List.getElem?_cons_succ] at k0 k1 k2 k3 k4
  clear h1 h2 Lr hb8 hL9 PR
  go_wp2
  refine bodyPost_ret (v := .tuple #[.agg #[.slice TA ((⟨inTrays x.t st va, x.o, x.got + va, x.sold, x.missed⟩ : Oc)).t.length tc, .slice OA ((⟨inTrays x.t st va, x.o, x.got + va, x.sold, x.missed⟩ : Oc)).o.length oc, .int .i64 ((⟨inTrays x.t st va, x.o, x.got + va, x.sold, x.missed⟩ : Oc)).got, .int .i64 ((⟨inTrays x.t st va, x.o, x.got + va, x.sold, x.missed⟩ : Oc)).sold, .int .i64 ((⟨inTrays x.t st va, x.o, x.got + va, x.sold, x.missed⟩ : Oc)).missed], .bool gd]) (by simp [results, Tryd.results76, go_sem, *]) rfl ?_
  exact ⟨TA, tc, OA, oc, rfl, HT.out, HO.out, bz⟩
end Go.Proofs.YtdiojhjkcholiaaDoor

/- A step in the reference: l32Make, own. (Printed by gen_specmake.py) -/
namespace Go.Proofs.YtdiojhjkcholiaaDoor
open Go.RowKit

set_option maxRecDepth 100000 in
set_option maxHeartbeats 4000000 in
theorem make_own (x : Off) (kd st pe va : Int) (hk : (kd == 1) = false) (ht : trayIx x.t st < 0) (w : World) (h : OffR w w.heap.size x) (G : Good x) (hcap : x.t.length ≤ x.tc) :
    Calls Tryd.prog 76 #[x.val, .agg #[.int .i64 kd, .int .i64 st, .int .i64 pe, .int .i64 va]] w (GivesMk w (x.c, false)) := by
  have L1 := ((Lies.new w 32 #[.slice x.TA x.t.length x.tc, .slice x.OA x.o.length x.oc, .int .i64 x.got, .int .i64 x.sold, .int .i64 x.missed]).alloc (.cells #[.int .i64 kd, .int .i64 st, .int .i64 pe, .int .i64 va] 90)).alloc (.cells #[.slice none 0 0, .slice none 0 0, .int .i64 0, .int .i64 0, .int .i64 0] 32)
  have L2 := (Lies.new1 w (.cells #[.slice x.TA x.t.length x.tc, .slice x.OA x.o.length x.oc, .int .i64 x.got, .int .i64 x.sold, .int .i64 x.missed] 32) 90 #[.int .i64 kd, .int .i64 st, .int .i64 pe, .int .i64 va]).alloc (.cells #[.slice none 0 0, .slice none 0 0, .int .i64 0, .int .i64 0, .int .i64 0] 32)
  have L3 := Lies.new2 w (.cells #[.slice x.TA x.t.length x.tc, .slice x.OA x.o.length x.oc, .int .i64 x.got, .int .i64 x.sold, .int .i64 x.missed] 32) (.cells #[.int .i64 kd, .int .i64 st, .int .i64 pe, .int .i64 va] 90) 32 #[.slice none 0 0, .slice none 0 0, .int .i64 0, .int .i64 0, .int .i64 0]
  have b1 := (Below.refl w.heap.size w).alloc (Nat.le_refl _) (.cells #[.slice x.TA x.t.length x.tc, .slice x.OA x.o.length x.oc, .int .i64 x.got, .int .i64 x.sold, .int .i64 x.missed] 32)
  have b2 := b1.alloc b1.size (.cells #[.int .i64 kd, .int .i64 st, .int .i64 pe, .int .i64 va] 90)
  have b3 := b2.alloc b2.size (.cells #[.slice none 0 0, .slice none 0 0, .int .i64 0, .int .i64 0, .int .i64 0] 32)
  have Sx := G.small
  have htl := G.tl
  have hol := G.ol
  have htc := G.tcs
  obtain ⟨m1, m2⟩ := G.m
  obtain ⟨g1, g2⟩ := G.s
  obtain ⟨o1, o2⟩ := G.g
  clear b1 b2 G
  have htd : decide (trayIx x.t st < 0) = true := decide_eq_true ht
  have HT0 := Lib.hid ht; clear ht
  go_enter Tryd.func76, Tryd.ntmps76
  go_wp2_with fail
  generalize (((w.alloc (.cells #[.slice x.TA x.t.length x.tc, .slice x.OA x.o.length x.oc, .int .i64 x.got, .int .i64 x.sold, .int .i64 x.missed] 32)).alloc (.cells #[.int .i64 kd, .int .i64 st, .int .i64 pe, .int .i64 va] 90)).alloc (.cells #[.slice none 0 0, .slice none 0 0, .int .i64 0, .int .i64 0, .int .i64 0] 32)) = W at L1 L2 L3 b3 ⊢
  have hR := h.up b3 (Nat.le_refl _)
  refine (l32Tray_any x st W hR).mono ?_
  rintro e W1 ⟨rfl, hb1⟩
  have hR1 := hR.then hb1
  have L1a := L1.below hb1 L1.lt
  have L2a := L2.below hb1 L2.lt
  have L3a := L3.below hb1 L3.lt
  have b4 := b3.trans (hb1.mono b3.size)
  have hW0 : w.heap.size ≤ W1.heap.size := b4.size
  clear L1 L2 L3 b3 hb1 hR h
  have c0 := L1a.cell 0
  have c1 := L1a.cell 1
  have c2 := L1a.cell 2
  have c3 := L1a.cell 3
  have c4 := L1a.cell 4
  simp only [List.getElem?_cons_zero, List.getElem?_cons_succ] at c0 c1 c2 c3 c4
  have s0 := L2a.cell 0
  have s1 := L2a.cell 1
  have s2 := L2a.cell 2
  have s3 := L2a.cell 3
  simp only [List.getElem?_cons_zero, List.getElem?_cons_succ] at s0 s1 s2 s3

  go_wp2_with fail
  refine (l32Own_any x W1 hR1 (by omega) (by omega)).mono ?_
  rintro e W2 ⟨TA, tc, OA, oc, rfl, hT, hO, hb2⟩
  simp only [Off.c] at hT hO
  have L3b := L3a.below hb2 L3a.lt
  have b5 := b4.trans (hb2.mono b4.size)
  have hT4 := ownsRow_lower hT hW0
  have hO4 := ownsRow_lower hO hW0
  clear c0 c1 c2 c3 c4 s0 s1 s2 s3 L1a L2a L3a b4 hT hO
  have z0 := L3b.cell 0
  have z1 := L3b.cell 1
  have z2 := L3b.cell 2
  have z3 := L3b.cell 3
  have z4 := L3b.cell 4
  simp only [List.getElem?_cons_zero, List.getElem?_cons_succ] at z0 z1 z2 z3 z4
  have f0 := L3b.frozen 0
  have f1 := L3b.frozen 1
  have f2 := L3b.frozen 2
  have f3 := L3b.frozen 3
  have f4 := L3b.frozen 4
  have bz := b5.trans (stOff_below (v0 := .slice TA x.t.length tc) (v1 := .slice OA x.o.length oc) (v2 := .int .i64 x.got) (v3 := .int .i64 x.sold) (v4 := .int .i64 x.missed) L3b (show w.heap.size ≤ w.heap.size + 1 + 1 by omega))
  have HT := Lib.hid (stOff_row (v0 := .slice TA x.t.length tc) (v1 := .slice OA x.o.length oc) (v2 := .int .i64 x.got) (v3 := .int .i64 x.sold) (v4 := .int .i64 x.missed) L3b hT4 ne_owt)
  have HO := Lib.hid (stOff_row (v0 := .slice TA x.t.length tc) (v1 := .slice OA x.o.length oc) (v2 := .int .i64 x.got) (v3 := .int .i64 x.sold) (v4 := .int .i64 x.missed) L3b hO4 ne_owo)
  clear hT4 hO4 b5 hR1 hb2
  simp only [Off.c, Oc.at, Off.val]
  go_wp2
  refine bodyPost_ret (v := .tuple #[.agg #[.slice TA x.t.length tc, .slice OA x.o.length oc, .int .i64 x.got, .int .i64 x.sold, .int .i64 x.missed], .bool false]) (by simp [results, Tryd.results76, go_sem, *]) rfl ?_
  exact ⟨TA, tc, OA, oc, rfl, HT.out, HO.out, bz⟩
end Go.Proofs.YtdiojhjkcholiaaDoor

/- A step in the reference: l32Make, sell0. (Printed by gen_specmake.py) -/
namespace Go.Proofs.YtdiojhjkcholiaaDoor
open Go.RowKit

set_option maxRecDepth 100000 in
set_option maxHeartbeats 4000000 in
theorem make_sell0 (x : Off) (st va : Int) (hst : 1 ≤ st ∧ st ≤ 99) (hva : 1 ≤ va ∧ va ≤ 9999) (ht : 0 ≤ trayIx x.t st) (w : World) (h : OffR w w.heap.size x) (G : Good x) (hcap : x.t.length ≤ x.tc) :
    Calls Tryd.prog 76 #[x.val, .agg #[.int .i64 4, .int .i64 st, .int .i64 0, .int .i64 va]] w (GivesMk w ((⟨inTrays x.t st (-va), x.o, x.got, x.sold + va, x.missed⟩ : Oc), ((⟨inTrays x.t st (-va), x.o, x.got, x.sold + va, x.missed⟩ : Oc)).good)) := by
  have L1 := ((Lies.new w 32 #[.slice x.TA x.t.length x.tc, .slice x.OA x.o.length x.oc, .int .i64 x.got, .int .i64 x.sold, .int .i64 x.missed]).alloc (.cells #[.int .i64 4, .int .i64 st, .int .i64 0, .int .i64 va] 90)).alloc (.cells #[.slice none 0 0, .slice none 0 0, .int .i64 0, .int .i64 0, .int .i64 0] 32)
  have L2 := (Lies.new1 w (.cells #[.slice x.TA x.t.length x.tc, .slice x.OA x.o.length x.oc, .int .i64 x.got, .int .i64 x.sold, .int .i64 x.missed] 32) 90 #[.int .i64 4, .int .i64 st, .int .i64 0, .int .i64 va]).alloc (.cells #[.slice none 0 0, .slice none 0 0, .int .i64 0, .int .i64 0, .int .i64 0] 32)
  have L3 := Lies.new2 w (.cells #[.slice x.TA x.t.length x.tc, .slice x.OA x.o.length x.oc, .int .i64 x.got, .int .i64 x.sold, .int .i64 x.missed] 32) (.cells #[.int .i64 4, .int .i64 st, .int .i64 0, .int .i64 va] 90) 32 #[.slice none 0 0, .slice none 0 0, .int .i64 0, .int .i64 0, .int .i64 0]
  have b1 := (Below.refl w.heap.size w).alloc (Nat.le_refl _) (.cells #[.slice x.TA x.t.length x.tc, .slice x.OA x.o.length x.oc, .int .i64 x.got, .int .i64 x.sold, .int .i64 x.missed] 32)
  have b2 := b1.alloc b1.size (.cells #[.int .i64 4, .int .i64 st, .int .i64 0, .int .i64 va] 90)
  have b3 := b2.alloc b2.size (.cells #[.slice none 0 0, .slice none 0 0, .int .i64 0, .int .i64 0, .int .i64 0] 32)
  have Sx := G.small
  have htl := G.tl
  have hol := G.ol
  have htc := G.tcs
  obtain ⟨m1, m2⟩ := G.m
  obtain ⟨g1, g2⟩ := G.s
  obtain ⟨o1, o2⟩ := G.g
  clear b1 b2 G
  obtain ⟨v1, v2⟩ := hva
  obtain ⟨gd, hgd⟩ : ∃ gd, ((⟨inTrays x.t st (-va), x.o, x.got, x.sold + va, x.missed⟩ : Oc)).good = gd := ⟨_, rfl⟩
  rw [hgd]
  have HG := Lib.hid hgd; clear hgd
  have i3 : IntKind.i64.wrap (-va) = -va := IntWalk.i64_in _ (by omega)
  have i4 : IntKind.i64.wrap (x.sold + va) = x.sold + va := IntWalk.i64_in _ (by omega)
  have htd : decide (trayIx x.t st < 0) = false := decide_eq_false (by omega)
  have HT0 := Lib.hid ht; clear ht
  go_enter Tryd.func76, Tryd.ntmps76
  go_wp2_with fail
  generalize (((w.alloc (.cells #[.slice x.TA x.t.length x.tc, .slice x.OA x.o.length x.oc, .int .i64 x.got, .int .i64 x.sold, .int .i64 x.missed] 32)).alloc (.cells #[.int .i64 4, .int .i64 st, .int .i64 0, .int .i64 va] 90)).alloc (.cells #[.slice none 0 0, .slice none 0 0, .int .i64 0, .int .i64 0, .int .i64 0] 32)) = W at L1 L2 L3 b3 ⊢
  have hR := h.up b3 (Nat.le_refl _)
  refine (l32Tray_any x st W hR).mono ?_
  rintro e W1 ⟨rfl, hb1⟩
  have hR1 := hR.then hb1
  have L1a := L1.below hb1 L1.lt
  have L2a := L2.below hb1 L2.lt
  have L3a := L3.below hb1 L3.lt
  have b4 := b3.trans (hb1.mono b3.size)
  have hW0 : w.heap.size ≤ W1.heap.size := b4.size
  clear L1 L2 L3 b3 hb1 hR h
  have c0 := L1a.cell 0
  have c1 := L1a.cell 1
  have c2 := L1a.cell 2
  have c3 := L1a.cell 3
  have c4 := L1a.cell 4
  simp only [List.getElem?_cons_zero, List.getElem?_cons_succ] at c0 c1 c2 c3 c4
  have s0 := L2a.cell 0
  have s1 := L2a.cell 1
  have s2 := L2a.cell 2
  have s3 := L2a.cell 3
  simp only [List.getElem?_cons_zero, List.getElem?_cons_succ] at s0 s1 s2 s3
  go_wp2_with fail

  refine (inX x st (-va) W1 hR1 Sx (by omega) hcap).mono ?_
  rintro e W2 ⟨v2, rfl, ⟨TA, tc, OA, oc, hv2, hT, hO⟩, hb2⟩
  have hv2 : v2 = .agg #[.slice TA (inTrays x.t st (-va)).length tc, .slice OA x.o.length oc, .int .i64 x.got, .int .i64 x.sold, .int .i64 x.missed] := hv2
  subst hv2
  simp only at hT hO
  have hal := (Below.refl W2.heap.size W2).alloc (Nat.le_refl _) (.cells #[.slice TA (inTrays x.t st (-va)).length tc, .slice OA x.o.length oc, .int .i64 x.got, .int .i64 x.sold, .int .i64 x.missed] 32)
  have L1b := (L1a.below hb2 L1a.lt).below hal (Nat.lt_of_lt_of_le L1a.lt hb2.size)
  have L2b := (L2a.below hb2 L2a.lt).below hal (Nat.lt_of_lt_of_le L2a.lt hb2.size)
  have L3b := (L3a.below hb2 L3a.lt).below hal (Nat.lt_of_lt_of_le L3a.lt hb2.size)
  have P := Lies.new W2 32 #[.slice TA (inTrays x.t st (-va)).length tc, .slice OA x.o.length oc, .int .i64 x.got, .int .i64 x.sold, .int .i64 x.missed]
  have hT3 := ownsRow_lower (ownsRow_below hT hal) hW0
  have hO3 := ownsRow_lower (ownsRow_below hO hal) hW0
  have b5 := b4.trans ((bthen hb2 hal).mono b4.size)
  have hgg : w.heap.size + 1 + 1 < W2.heap.size := Nat.lt_of_lt_of_le L3a.lt hb2.size
  clear c0 c1 c2 c3 c4 s0 s1 s2 s3
  obtain ⟨W3, hW3⟩ : ∃ W3, W2.alloc (.cells #[.slice TA (inTrays x.t st (-va)).length tc, .slice OA x.o.length oc, .int .i64 x.got, .int .i64 x.sold, .int .i64 x.missed] 32) = W3 := ⟨_, rfl⟩
  rw [hW3] at L1b L2b L3b P hT3 hO3 b5
  generalize hg2 : W2.heap.size = g2 at P hgg
  have c0 := L1b.cell 0
  have c1 := L1b.cell 1
  have c2 := L1b.cell 2
  have c3 := L1b.cell 3
  have c4 := L1b.cell 4
  simp only [List.getElem?_cons_zero, List.getElem?_cons_succ] at c0 c1 c2 c3 c4
  have s0 := L2b.cell 0
  have s1 := L2b.cell 1
  have s2 := L2b.cell 2
  have s3 := L2b.cell 3
  simp only [List.getElem?_cons_zero, List.getElem?_cons_succ] at s0 s1 s2 s3
  have p0 := P.cell 0
  have p1 := P.cell 1
  have p2 := P.cell 2
  have p3 := P.cell 3
  have p4 := P.cell 4
  simp only [List.getElem?_cons_zero, List.getElem?_cons_succ] at p0 p1 p2 p3 p4
  have pf0 := P.frozen 0
  have pf1 := P.frozen 1
  have pf2 := P.frozen 2
  have pf3 := P.frozen 3
  have pf4 := P.frozen 4
  have P4 := P.set 3 (.int .i64 (x.sold + va))
  have L1c := L1b.other (p := ⟨g2, 3, none⟩) (by simp; omega) (.int .i64 (x.sold + va))
  have L2c := L2b.other (p := ⟨g2, 3, none⟩) (by simp; omega) (.int .i64 (x.sold + va))
  have L3c := L3b.other (p := ⟨g2, 3, none⟩) (by simp; omega) (.int .i64 (x.sold + va))
  have hT4 := ownsRow_setOther hT3 P ne_owt 3 (.int .i64 (x.sold + va))
  have hO4 := ownsRow_setOther hO3 P ne_owo 3 (.int .i64 (x.sold + va))
  have b6 := b5.setCell (p := ⟨g2, 3, none⟩) (show w.heap.size ≤ g2 by omega) (.int .i64 (x.sold + va))
  simp only [List.set_cons_zero, List.set_cons_succ] at P4
  obtain ⟨W4, hW4⟩ : ∃ W4, W3.setCell ⟨g2, 3, none⟩ (.int .i64 (x.sold + va)) = W4 := ⟨_, rfl⟩
  rw [hW4] at P4 L1c L2c L3c hT4 hO4 b6
  clear hb2 hal hT hO L1a L2a L3a b4 hR1
  go_wp2_with (first | (rw [hW3]; clear hW3; rw [hg2]) | (rw [hW4]; clear hW4))
  clear c0 c1 c2 c3 c4 s0 s1 s2 s3 p0 p1 p2 p3 p4 pf0 pf1 pf2 pf3 pf4

  obtain ⟨D1, hD1⟩ : ∃ D : World → Prop, D = (fun W9 => ∃ W8 TA tc OA oc, Below W4.heap.size W4 W8 ∧ W8.ownsRow w.heap.size 68 2 (.slice TA ((⟨inTrays x.t st (-va), x.o, x.got, x.sold + va, x.missed⟩ : Oc)).t.length tc) ((⟨inTrays x.t st (-va), x.o, x.got, x.sold + va, x.missed⟩ : Oc)).t.length (((⟨inTrays x.t st (-va), x.o, x.got, x.sold + va, x.missed⟩ : Oc)).t.flatMap Tray.enc) ∧ W8.ownsRow w.heap.size 71 3 (.slice OA ((⟨inTrays x.t st (-va), x.o, x.got, x.sold + va, x.missed⟩ : Oc)).o.length oc) ((⟨inTrays x.t st (-va), x.o, x.got, x.sold + va, x.missed⟩ : Oc)).o.length (((⟨inTrays x.t st (-va), x.o, x.got, x.sold + va, x.missed⟩ : Oc)).o.flatMap Outing.enc) ∧ W9 = stOff W8 (w.heap.size + 1 + 1) (.slice TA ((⟨inTrays x.t st (-va), x.o, x.got, x.sold + va, x.missed⟩ : Oc)).t.length tc) (.slice OA ((⟨inTrays x.t st (-va), x.o, x.got, x.sold + va, x.missed⟩ : Oc)).o.length oc) (.int .i64 ((⟨inTrays x.t st (-va), x.o, x.got, x.sold + va, x.missed⟩ : Oc)).got) (.int .i64 ((⟨inTrays x.t st (-va), x.o, x.got, x.sold + va, x.missed⟩ : Oc)).sold) (.int .i64 ((⟨inTrays x.t st (-va), x.o, x.got, x.sold + va, x.missed⟩ : Oc)).missed)) := ⟨_, rfl⟩
  have hDL : ∀ W, D1 W → ∃ W8 v0 v1 v2 v3 v4, Below W4.heap.size W4 W8 ∧ W = stOff W8 (w.heap.size + 1 + 1) v0 v1 v2 v3 v4 := by
    rw [hD1]
    rintro _ ⟨W8, TA, tc, OA, oc, hq, _, _, e⟩
    exact ⟨W8, _, _, _, _, _, hq, e⟩
  have HD1 := Lib.hid hD1; clear hD1
  refine wp_region_factsR (Sw 3 (fun W9 => Below W4.heap.size W4 W9) D1) (fun i w1 w2 => i ∉ [3] → Below w1.heap.size w1 w2) (by kernel_rfl) (by kernel_rfl) (by kernel_rfl) (Sw.start (Below.refl _ _).drew) ?_
  simp only [fillOps, Act.put, List.setIfInBounds_toArray, List.set_cons_zero, List.set_cons_succ, Nat.zero_add, Nat.reduceAdd]
  apply wpFactsR_val
  case h1 =>
    intro vs L9 w9 hG9 hC9 hB K9 hK9
    replace hC9 := hC9.before hG9 (by kernel_rfl)
    have q0 : w9.cell? ⟨g2, 0, none⟩ = some (.slice TA (inTrays x.t st (-va)).length tc) := (P4.below hC9 P4.lt).cell 0
    have q1 : w9.cell? ⟨g2, 1, none⟩ = some (.slice OA x.o.length oc) := (P4.below hC9 P4.lt).cell 1
    have q2 : w9.cell? ⟨g2, 2, none⟩ = some (.int .i64 x.got) := (P4.below hC9 P4.lt).cell 2
    have q3 : w9.cell? ⟨g2, 3, none⟩ = some (.int .i64 (x.sold + va)) := (P4.below hC9 P4.lt).cell 3
    have q4 : w9.cell? ⟨g2, 4, none⟩ = some (.int .i64 x.missed) := (P4.below hC9 P4.lt).cell 4
    simp only [Act.put, List.setIfInBounds_toArray, List.set_cons_zero, List.set_cons_succ] at hK9
    go_simp
    exact hK9 _ _ rfl (Sw.stay hG9 (by kernel_rfl) (by decide) hC9) (fun _ => Below.refl _ _)
  apply wpFactsR_val
  case h1 =>
    intro vs L9 w9 hG9 hC9 hB K9 hK9
    replace hC9 := hC9.before hG9 (by kernel_rfl)
    have q0 : w9.cell? ⟨g2, 0, none⟩ = some (.slice TA (inTrays x.t st (-va)).length tc) := (P4.below hC9 P4.lt).cell 0
    have q1 : w9.cell? ⟨g2, 1, none⟩ = some (.slice OA x.o.length oc) := (P4.below hC9 P4.lt).cell 1
    have q2 : w9.cell? ⟨g2, 2, none⟩ = some (.int .i64 x.got) := (P4.below hC9 P4.lt).cell 2
    have q3 : w9.cell? ⟨g2, 3, none⟩ = some (.int .i64 (x.sold + va)) := (P4.below hC9 P4.lt).cell 3
    have q4 : w9.cell? ⟨g2, 4, none⟩ = some (.int .i64 x.missed) := (P4.below hC9 P4.lt).cell 4
    simp only [Act.put, List.setIfInBounds_toArray, List.set_cons_zero, List.set_cons_succ] at hK9
    go_simp
    exact hK9 _ _ rfl (Sw.stay hG9 (by kernel_rfl) (by decide) hC9) (fun _ => Below.refl _ _)
  apply wpFactsR_val
  case h1 =>
    intro vs L9 w9 hG9 hC9 hB K9 hK9
    replace hC9 := hC9.before hG9 (by kernel_rfl)
    have d1 := FactN.eq (hB 1 _ (by kernel_rfl) (by kernel_rfl) rfl (by decide))
    simp only [d1] at hK9 ⊢
    simp only [Act.put, List.setIfInBounds_toArray, List.set_cons_zero, List.set_cons_succ] at hK9
    go_simp
    refine (show Calls _ _ _ _ (fun e w' => e = .returned (.bool gd) ∧ Below w9.heap.size w9 w') from by rw [← HG.out]; exact goodV (show OwnV w9 w.heap.size (⟨inTrays x.t st (-va), x.o, x.got, x.sold + va, x.missed⟩ : Oc) _ from ⟨TA, tc, OA, oc, rfl, ownsRow_below hT4 hC9, ownsRow_below hO4 hC9⟩)).mono ?_
    rintro en w8 ⟨rfl, hb8⟩
    exact hK9 _ _ rfl (Sw.stay hG9 (by kernel_rfl) (by decide) (hC9.trans (hb8.mono hC9.size))) (fun _ => hb8)
  refine wpFactsR_val (undef) (fun vs L9 w9 hG9 hC9 hB K9 hK9 => ?he3) ?re3
  case he3 =>
    replace hC9 := hC9.here hG9
    have d0 := FactN.eq (hB 0 _ (by kernel_rfl) (by kernel_rfl) rfl (by decide))
    simp only [d0] at hK9 ⊢
    have Lr := L3c.below hC9 L3c.lt
    have z0 := Lr.cell 0
    have z1 := Lr.cell 1
    have z2 := Lr.cell 2
    have z3 := Lr.cell 3
    have z4 := Lr.cell 4
    simp only [List.getElem?_cons_zero, List.getElem?_cons_succ] at z0 z1 z2 z3 z4
    have f0 := Lr.frozen 0
    have f1 := Lr.frozen 1
    have f2 := Lr.frozen 2
    have f3 := Lr.frozen 3
    have f4 := Lr.frozen 4
    clear Lr
    go_simp
    exact hK9 _ _ rfl (Sw.turn (by rw [HD1.out]; exact ⟨w9, TA, tc, OA, oc, hC9, ownsRow_below hT4 hC9, ownsRow_below hO4 hC9, rfl⟩)) (fun hq => (hq (by decide)).elim)
  apply wpFactsR_val
  case h1 =>
    intro vs L9 w9 hG9 hC9 hB K9 hK9
    replace hC9 := hC9.after hG9 (by kernel_rfl)
    have d2 := FactN.eq (hB 2 _ (by kernel_rfl) (by kernel_rfl) rfl (by decide))
    simp only [d2] at hK9 ⊢
    simp only [Act.put, List.setIfInBounds_toArray, List.set_cons_zero, List.set_cons_succ] at hK9
    go_simp
    exact hK9 _ _ rfl (Sw.on hG9 (by kernel_rfl) hC9) (fun _ => Below.refl _ _)
  refine wpFactsR_nil fun vs L9 w9 hL9 hC9 hB => ?_
  replace hC9 := hC9.done hL9 (by decide)
  have dl := FactN.eq (hB 4 _ rfl rfl (by decide))
  simp only [dl]
  clear hB dl
  rw [HD1.out] at hC9
  obtain ⟨W8, TA, tc, OA, oc, hb8, h1, h2, rfl⟩ := hC9
  have Lr := L3c.below hb8 L3c.lt
  have bz := (b6.trans (hb8.mono b6.size)).trans (stOff_below (v0 := .slice TA ((⟨inTrays x.t st (-va), x.o, x.got, x.sold + va, x.missed⟩ : Oc)).t.length tc) (v1 := .slice OA ((⟨inTrays x.t st (-va), x.o, x.got, x.sold + va, x.missed⟩ : Oc)).o.length oc) (v2 := .int .i64 ((⟨inTrays x.t st (-va), x.o, x.got, x.sold + va, x.missed⟩ : Oc)).got) (v3 := .int .i64 ((⟨inTrays x.t st (-va), x.o, x.got, x.sold + va, x.missed⟩ : Oc)).sold) (v4 := .int .i64 ((⟨inTrays x.t st (-va), x.o, x.got, x.sold + va, x.missed⟩ : Oc)).missed) Lr (show w.heap.size ≤ (w.heap.size + 1 + 1) by omega))
  have HT := Lib.hid (stOff_row (v0 := .slice TA ((⟨inTrays x.t st (-va), x.o, x.got, x.sold + va, x.missed⟩ : Oc)).t.length tc) (v1 := .slice OA ((⟨inTrays x.t st (-va), x.o, x.got, x.sold + va, x.missed⟩ : Oc)).o.length oc) (v2 := .int .i64 ((⟨inTrays x.t st (-va), x.o, x.got, x.sold + va, x.missed⟩ : Oc)).got) (v3 := .int .i64 ((⟨inTrays x.t st (-va), x.o, x.got, x.sold + va, x.missed⟩ : Oc)).sold) (v4 := .int .i64 ((⟨inTrays x.t st (-va), x.o, x.got, x.sold + va, x.missed⟩ : Oc)).missed) Lr h1 ne_owt)
  have HO := Lib.hid (stOff_row (v0 := .slice TA ((⟨inTrays x.t st (-va), x.o, x.got, x.sold + va, x.missed⟩ : Oc)).t.length tc) (v1 := .slice OA ((⟨inTrays x.t st (-va), x.o, x.got, x.sold + va, x.missed⟩ : Oc)).o.length oc) (v2 := .int .i64 ((⟨inTrays x.t st (-va), x.o, x.got, x.sold + va, x.missed⟩ : Oc)).got) (v3 := .int .i64 ((⟨inTrays x.t st (-va), x.o, x.got, x.sold + va, x.missed⟩ : Oc)).sold) (v4 := .int .i64 ((⟨inTrays x.t st (-va), x.o, x.got, x.sold + va, x.missed⟩ : Oc)).missed) Lr h2 ne_owo)
  have PR := stOff_is (v0 := .slice TA ((⟨inTrays x.t st (-va), x.o, x.got, x.sold + va, x.missed⟩ : Oc)).t.length tc) (v1 := .slice OA ((⟨inTrays x.t st (-va), x.o, x.got, x.sold + va, x.missed⟩ : Oc)).o.length oc) (v2 := .int .i64 ((⟨inTrays x.t st (-va), x.o, x.got, x.sold + va, x.missed⟩ : Oc)).got) (v3 := .int .i64 ((⟨inTrays x.t st (-va), x.o, x.got, x.sold + va, x.missed⟩ : Oc)).sold) (v4 := .int .i64 ((⟨inTrays x.t st (-va), x.o, x.got, x.sold + va, x.missed⟩ : Oc)).missed) Lr
  generalize stOff W8 (w.heap.size + 1 + 1) (.slice TA ((⟨inTrays x.t st (-va), x.o, x.got, x.sold + va, x.missed⟩ : Oc)).t.length tc) (.slice OA ((⟨inTrays x.t st (-va), x.o, x.got, x.sold + va, x.missed⟩ : Oc)).o.length oc) (.int .i64 ((⟨inTrays x.t st (-va), x.o, x.got, x.sold + va, x.missed⟩ : Oc)).got) (.int .i64 ((⟨inTrays x.t st (-va), x.o, x.got, x.sold + va, x.missed⟩ : Oc)).sold) (.int .i64 ((⟨inTrays x.t st (-va), x.o, x.got, x.sold + va, x.missed⟩ : Oc)).missed) = W9 at bz HT HO PR ⊢
  have k0 := PR.cell 0
  have k1 := PR.cell 1
  have k2 := PR.cell 2
  have k3 := PR.cell 3
  have k4 := PR.cell 4
  simp only [List.getElem?_cons_zero, List.getElem?_cons_succ] at k0 k1 k2 k3 k4
  clear h1 h2 Lr hb8 hL9 PR
  go_wp2
  refine bodyPost_ret (v := .tuple #[.agg #[.slice TA ((⟨inTrays x.t st (-va), x.o, x.got, x.sold + va, x.missed⟩ : Oc)).t.length tc, .slice OA ((⟨inTrays x.t st (-va), x.o, x.got, x.sold + va, x.missed⟩ : Oc)).o.length oc, .int .i64 ((⟨inTrays x.t st (-va), x.o, x.got, x.sold + va, x.missed⟩ : Oc)).got, .int .i64 ((⟨inTrays x.t st (-va), x.o, x.got, x.sold + va, x.missed⟩ : Oc)).sold, .int .i64 ((⟨inTrays x.t st (-va), x.o, x.got, x.sold + va, x.missed⟩ : Oc)).missed], .bool gd]) (by simp [results, Tryd.results76, go_sem, *]) rfl ?_
  exact ⟨TA, tc, OA, oc, rfl, HT.out, HO.out, bz⟩
end Go.Proofs.YtdiojhjkcholiaaDoor

/- A step in the reference: l32Make, yes. (Printed by gen_specmake.py) -/
namespace Go.Proofs.YtdiojhjkcholiaaDoor
open Go.RowKit

set_option maxRecDepth 100000 in
set_option maxHeartbeats 4000000 in
theorem make_person_yes (x : Off) (kd st pe va : Int) (r : Oc) (hk : (kd == 1) = false) (hpe : 1 ≤ pe) (ht : 0 ≤ trayIx x.t st) (w : World) (h : OffR w w.heap.size x) (G : Good x) (hcap : x.t.length ≤ x.tc)
    (hP : ∀ W, OffR W W.heap.size x → Calls Tryd.prog 82 #[x.val, .agg #[.int .i64 kd, .int .i64 st, .int .i64 pe, .int .i64 va]] W (GivesMk W (r, true))) :
    Calls Tryd.prog 76 #[x.val, .agg #[.int .i64 kd, .int .i64 st, .int .i64 pe, .int .i64 va]] w (GivesMk w (r, r.good)) := by
  have L1 := ((Lies.new w 32 #[.slice x.TA x.t.length x.tc, .slice x.OA x.o.length x.oc, .int .i64 x.got, .int .i64 x.sold, .int .i64 x.missed]).alloc (.cells #[.int .i64 kd, .int .i64 st, .int .i64 pe, .int .i64 va] 90)).alloc (.cells #[.slice none 0 0, .slice none 0 0, .int .i64 0, .int .i64 0, .int .i64 0] 32)
  have L2 := (Lies.new1 w (.cells #[.slice x.TA x.t.length x.tc, .slice x.OA x.o.length x.oc, .int .i64 x.got, .int .i64 x.sold, .int .i64 x.missed] 32) 90 #[.int .i64 kd, .int .i64 st, .int .i64 pe, .int .i64 va]).alloc (.cells #[.slice none 0 0, .slice none 0 0, .int .i64 0, .int .i64 0, .int .i64 0] 32)
  have L3 := Lies.new2 w (.cells #[.slice x.TA x.t.length x.tc, .slice x.OA x.o.length x.oc, .int .i64 x.got, .int .i64 x.sold, .int .i64 x.missed] 32) (.cells #[.int .i64 kd, .int .i64 st, .int .i64 pe, .int .i64 va] 90) 32 #[.slice none 0 0, .slice none 0 0, .int .i64 0, .int .i64 0, .int .i64 0]
  have b1 := (Below.refl w.heap.size w).alloc (Nat.le_refl _) (.cells #[.slice x.TA x.t.length x.tc, .slice x.OA x.o.length x.oc, .int .i64 x.got, .int .i64 x.sold, .int .i64 x.missed] 32)
  have b2 := b1.alloc b1.size (.cells #[.int .i64 kd, .int .i64 st, .int .i64 pe, .int .i64 va] 90)
  have b3 := b2.alloc b2.size (.cells #[.slice none 0 0, .slice none 0 0, .int .i64 0, .int .i64 0, .int .i64 0] 32)
  have Sx := G.small
  have htl := G.tl
  have hol := G.ol
  have htc := G.tcs
  obtain ⟨m1, m2⟩ := G.m
  obtain ⟨g1, g2⟩ := G.s
  obtain ⟨o1, o2⟩ := G.g
  clear b1 b2 G
  have hpd : (pe == (0 : Int)) = false := by simp; omega
  clear hpe
  have htd : decide (trayIx x.t st < 0) = false := decide_eq_false (by omega)
  have HT0 := Lib.hid ht; clear ht
  obtain ⟨gd, hgd⟩ : ∃ gd, (r).good = gd := ⟨_, rfl⟩
  rw [hgd]
  have HG := Lib.hid hgd; clear hgd
  go_enter Tryd.func76, Tryd.ntmps76
  go_wp2_with fail
  generalize (((w.alloc (.cells #[.slice x.TA x.t.length x.tc, .slice x.OA x.o.length x.oc, .int .i64 x.got, .int .i64 x.sold, .int .i64 x.missed] 32)).alloc (.cells #[.int .i64 kd, .int .i64 st, .int .i64 pe, .int .i64 va] 90)).alloc (.cells #[.slice none 0 0, .slice none 0 0, .int .i64 0, .int .i64 0, .int .i64 0] 32)) = W at L1 L2 L3 b3 ⊢
  have hR := h.up b3 (Nat.le_refl _)
  refine (l32Tray_any x st W hR).mono ?_
  rintro e W1 ⟨rfl, hb1⟩
  have hR1 := hR.then hb1
  have L1a := L1.below hb1 L1.lt
  have L2a := L2.below hb1 L2.lt
  have L3a := L3.below hb1 L3.lt
  have b4 := b3.trans (hb1.mono b3.size)
  have hW0 : w.heap.size ≤ W1.heap.size := b4.size
  clear L1 L2 L3 b3 hb1 hR h
  have c0 := L1a.cell 0
  have c1 := L1a.cell 1
  have c2 := L1a.cell 2
  have c3 := L1a.cell 3
  have c4 := L1a.cell 4
  simp only [List.getElem?_cons_zero, List.getElem?_cons_succ] at c0 c1 c2 c3 c4
  have s0 := L2a.cell 0
  have s1 := L2a.cell 1
  have s2 := L2a.cell 2
  have s3 := L2a.cell 3
  simp only [List.getElem?_cons_zero, List.getElem?_cons_succ] at s0 s1 s2 s3
  go_wp2_with fail

  refine (hP W1 hR1).mono ?_
  rintro e W2 ⟨TA, tc, OA, oc, rfl, hT, hO, hb2⟩
  simp only at hT hO
  have hal := (Below.refl W2.heap.size W2).alloc (Nat.le_refl _) (.cells #[.slice TA r.t.length tc, .slice OA r.o.length oc, .int .i64 r.got, .int .i64 r.sold, .int .i64 r.missed] 32)
  have L3b := (L3a.below hb2 L3a.lt).below hal (Nat.lt_of_lt_of_le L3a.lt hb2.size)
  have P4 := Lies.new W2 32 #[.slice TA r.t.length tc, .slice OA r.o.length oc, .int .i64 r.got, .int .i64 r.sold, .int .i64 r.missed]
  have hT4 := ownsRow_lower (ownsRow_below hT hal) hW0
  have hO4 := ownsRow_lower (ownsRow_below hO hal) hW0
  have b6 := b4.trans ((bthen hb2 hal).mono b4.size)
  have hgg : w.heap.size + 1 + 1 < W2.heap.size := Nat.lt_of_lt_of_le L3a.lt hb2.size
  clear c0 c1 c2 c3 c4 s0 s1 s2 s3
  have L3c := L3b
  clear hb2 hal hT hO L1a L2a L3a b4 hR1 L3b hP
  obtain ⟨W4, hW4⟩ : ∃ W4, W2.alloc (.cells #[.slice TA r.t.length tc, .slice OA r.o.length oc, .int .i64 r.got, .int .i64 r.sold, .int .i64 r.missed] 32) = W4 := ⟨_, rfl⟩
  rw [hW4] at L3c P4 hT4 hO4 b6
  generalize hg2 : W2.heap.size = g2 at P4 hgg
  go_wp2_with (rw [hW4]; clear hW4; rw [hg2])

  obtain ⟨D1, hD1⟩ : ∃ D : World → Prop, D = (fun W9 => ∃ W8 TA tc OA oc, Below W4.heap.size W4 W8 ∧ W8.ownsRow w.heap.size 68 2 (.slice TA (r).t.length tc) (r).t.length ((r).t.flatMap Tray.enc) ∧ W8.ownsRow w.heap.size 71 3 (.slice OA (r).o.length oc) (r).o.length ((r).o.flatMap Outing.enc) ∧ W9 = stOff W8 (w.heap.size + 1 + 1) (.slice TA (r).t.length tc) (.slice OA (r).o.length oc) (.int .i64 (r).got) (.int .i64 (r).sold) (.int .i64 (r).missed)) := ⟨_, rfl⟩
  have hDL : ∀ W, D1 W → ∃ W8 v0 v1 v2 v3 v4, Below W4.heap.size W4 W8 ∧ W = stOff W8 (w.heap.size + 1 + 1) v0 v1 v2 v3 v4 := by
    rw [hD1]
    rintro _ ⟨W8, TA, tc, OA, oc, hq, _, _, e⟩
    exact ⟨W8, _, _, _, _, _, hq, e⟩
  have HD1 := Lib.hid hD1; clear hD1
  refine wp_region_factsR (Sw 6 (fun W9 => Below W4.heap.size W4 W9) D1) (fun i w1 w2 => i ∉ [6] → Below w1.heap.size w1 w2) (by kernel_rfl) (by kernel_rfl) (by kernel_rfl) (Sw.start (Below.refl _ _).drew) ?_
  simp only [fillOps, Act.put, List.setIfInBounds_toArray, List.set_cons_zero, List.set_cons_succ, Nat.zero_add, Nat.reduceAdd]
  apply wpFactsR_val
  case h1 =>
    intro vs L9 w9 hG9 hC9 hB K9 hK9
    replace hC9 := hC9.before hG9 (by kernel_rfl)
    have q0 : w9.cell? ⟨g2, 0, none⟩ = some (.slice TA r.t.length tc) := (P4.below hC9 P4.lt).cell 0
    have q1 : w9.cell? ⟨g2, 1, none⟩ = some (.slice OA r.o.length oc) := (P4.below hC9 P4.lt).cell 1
    have q2 : w9.cell? ⟨g2, 2, none⟩ = some (.int .i64 r.got) := (P4.below hC9 P4.lt).cell 2
    have q3 : w9.cell? ⟨g2, 3, none⟩ = some (.int .i64 r.sold) := (P4.below hC9 P4.lt).cell 3
    have q4 : w9.cell? ⟨g2, 4, none⟩ = some (.int .i64 r.missed) := (P4.below hC9 P4.lt).cell 4
    simp only [Act.put, List.setIfInBounds_toArray, List.set_cons_zero, List.set_cons_succ] at hK9
    go_simp
    exact hK9 _ _ rfl (Sw.stay hG9 (by kernel_rfl) (by decide) hC9) (fun _ => Below.refl _ _)
  apply wpFactsR_val
  case h1 =>
    intro vs L9 w9 hG9 hC9 hB K9 hK9
    replace hC9 := hC9.before hG9 (by kernel_rfl)
    simp only [Act.put, List.setIfInBounds_toArray, List.set_cons_zero, List.set_cons_succ] at hK9
    go_simp
    exact hK9 _ _ rfl (Sw.stay hG9 (by kernel_rfl) (by decide) hC9) (fun _ => Below.refl _ _)
  apply wpFactsR_val
  case h1 =>
    intro vs L9 w9 hG9 hC9 hB K9 hK9
    replace hC9 := hC9.before hG9 (by kernel_rfl)
    have d1 := FactN.eq (hB 1 _ (by kernel_rfl) (by kernel_rfl) rfl (by decide))
    simp only [d1] at hK9 ⊢
    simp only [Act.put, List.setIfInBounds_toArray, List.set_cons_zero, List.set_cons_succ] at hK9
    go_simp
    exact hK9 _ _ rfl (Sw.stay hG9 (by kernel_rfl) (by decide) hC9) (fun _ => Below.refl _ _)
  apply wpFactsR_val
  case h1 =>
    intro vs L9 w9 hG9 hC9 hB K9 hK9
    replace hC9 := hC9.before hG9 (by kernel_rfl)
    have d2 := FactN.eq (hB 2 _ (by kernel_rfl) (by kernel_rfl) rfl (by decide))
    simp only [d2] at hK9 ⊢
    have q0 : w9.cell? ⟨g2, 0, none⟩ = some (.slice TA r.t.length tc) := (P4.below hC9 P4.lt).cell 0
    have q1 : w9.cell? ⟨g2, 1, none⟩ = some (.slice OA r.o.length oc) := (P4.below hC9 P4.lt).cell 1
    have q2 : w9.cell? ⟨g2, 2, none⟩ = some (.int .i64 r.got) := (P4.below hC9 P4.lt).cell 2
    have q3 : w9.cell? ⟨g2, 3, none⟩ = some (.int .i64 r.sold) := (P4.below hC9 P4.lt).cell 3
    have q4 : w9.cell? ⟨g2, 4, none⟩ = some (.int .i64 r.missed) := (P4.below hC9 P4.lt).cell 4
    simp only [Act.put, List.setIfInBounds_toArray, List.set_cons_zero, List.set_cons_succ] at hK9
    go_simp
    exact hK9 _ _ rfl (Sw.stay hG9 (by kernel_rfl) (by decide) hC9) (fun _ => Below.refl _ _)
  apply wpFactsR_val
  case h1 =>
    intro vs L9 w9 hG9 hC9 hB K9 hK9
    replace hC9 := hC9.before hG9 (by kernel_rfl)
    have d3 := FactN.eq (hB 3 _ (by kernel_rfl) (by kernel_rfl) rfl (by decide))
    have d2 := FactN.eq (hB 2 _ (by kernel_rfl) (by kernel_rfl) rfl (by decide))
    simp only [d3, d2] at hK9 ⊢
    simp only [Act.put, List.setIfInBounds_toArray, List.set_cons_zero, List.set_cons_succ] at hK9
    go_simp
    refine (show Calls _ _ _ _ (fun e w' => e = .returned (.bool gd) ∧ Below w9.heap.size w9 w') from by rw [← HG.out]; exact goodV (show OwnV w9 w.heap.size r _ from ⟨TA, tc, OA, oc, rfl, ownsRow_below hT4 hC9, ownsRow_below hO4 hC9⟩)).mono ?_
    rintro en w8 ⟨rfl, hb8⟩
    exact hK9 _ _ rfl (Sw.stay hG9 (by kernel_rfl) (by decide) (hC9.trans (hb8.mono hC9.size))) (fun _ => hb8)
  apply wpFactsR_val
  case h1 =>
    intro vs L9 w9 hG9 hC9 hB K9 hK9
    have d2 := FactN.eq (hB 2 _ (by kernel_rfl) (by kernel_rfl) rfl (by decide))
    have d4 := FactN.eq (hB 4 _ (by kernel_rfl) (by kernel_rfl) rfl (by decide))
    simp only [d2, d4] at hK9 ⊢
    simp only [Act.put, List.setIfInBounds_toArray, List.set_cons_zero, List.set_cons_succ] at hK9
    have HC9 := Lib.hid hC9
    clear hC9
    go_simp
    exact hK9 _ _ rfl (Sw.both (by decide) (fun h => h) (fun h => h) HC9.out) (fun _ => Below.refl _ _)
  refine wpFactsR_val (undef) (fun vs L9 w9 hG9 hC9 hB K9 hK9 => ?hq6) ?rq6
  case hq6 =>
    replace hC9 := hC9.here hG9
    have d0 := FactN.eq (hB 0 _ (by kernel_rfl) (by kernel_rfl) rfl (by decide))
    simp only [d0] at hK9 ⊢
    have Lr := L3c.below hC9 L3c.lt
    have z0 := Lr.cell 0
    have z1 := Lr.cell 1
    have z2 := Lr.cell 2
    have z3 := Lr.cell 3
    have z4 := Lr.cell 4
    simp only [List.getElem?_cons_zero, List.getElem?_cons_succ] at z0 z1 z2 z3 z4
    have f0 := Lr.frozen 0
    have f1 := Lr.frozen 1
    have f2 := Lr.frozen 2
    have f3 := Lr.frozen 3
    have f4 := Lr.frozen 4
    clear Lr
    go_simp
    exact hK9 _ _ rfl (Sw.turn (by rw [HD1.out]; exact ⟨w9, TA, tc, OA, oc, hC9, ownsRow_below hT4 hC9, ownsRow_below hO4 hC9, rfl⟩)) (fun hq => (hq (by decide)).elim)
  apply wpFactsR_val
  case h1 =>
    intro vs L9 w9 hG9 hC9 hB K9 hK9
    replace hC9 := hC9.after hG9 (by kernel_rfl)
    have d5 := FactN.eq (hB 5 _ (by kernel_rfl) (by kernel_rfl) rfl (by decide))
    simp only [d5] at hK9 ⊢
    simp only [Act.put, List.setIfInBounds_toArray, List.set_cons_zero, List.set_cons_succ] at hK9
    go_simp
    exact hK9 _ _ rfl (Sw.on hG9 (by kernel_rfl) hC9) (fun _ => Below.refl _ _)
  refine wpFactsR_nil fun vs L9 w9 hL9 hC9 hB => ?_
  replace hC9 := hC9.done hL9 (by decide)
  have dl := FactN.eq (hB 7 _ rfl rfl (by decide))
  simp only [dl]
  clear hB dl
  rw [HD1.out] at hC9
  obtain ⟨W8, TA, tc, OA, oc, hb8, h1, h2, rfl⟩ := hC9
  have Lr := L3c.below hb8 L3c.lt
  have bz := (b6.trans (hb8.mono b6.size)).trans (stOff_below (v0 := .slice TA (r).t.length tc) (v1 := .slice OA (r).o.length oc) (v2 := .int .i64 (r).got) (v3 := .int .i64 (r).sold) (v4 := .int .i64 (r).missed) Lr (show w.heap.size ≤ (w.heap.size + 1 + 1) by omega))
  have HT := Lib.hid (stOff_row (v0 := .slice TA (r).t.length tc) (v1 := .slice OA (r).o.length oc) (v2 := .int .i64 (r).got) (v3 := .int .i64 (r).sold) (v4 := .int .i64 (r).missed) Lr h1 ne_owt)
  have HO := Lib.hid (stOff_row (v0 := .slice TA (r).t.length tc) (v1 := .slice OA (r).o.length oc) (v2 := .int .i64 (r).got) (v3 := .int .i64 (r).sold) (v4 := .int .i64 (r).missed) Lr h2 ne_owo)
  have PR := stOff_is (v0 := .slice TA (r).t.length tc) (v1 := .slice OA (r).o.length oc) (v2 := .int .i64 (r).got) (v3 := .int .i64 (r).sold) (v4 := .int .i64 (r).missed) Lr
  generalize stOff W8 (w.heap.size + 1 + 1) (.slice TA (r).t.length tc) (.slice OA (r).o.length oc) (.int .i64 (r).got) (.int .i64 (r).sold) (.int .i64 (r).missed) = W9 at bz HT HO PR ⊢
  have k0 := PR.cell 0
  have k1 := PR.cell 1
  have k2 := PR.cell 2
  have k3 := PR.cell 3
  have k4 := PR.cell 4
  simp only [List.getElem?_cons_zero, List.getElem?_cons_succ] at k0 k1 k2 k3 k4
  clear h1 h2 Lr hb8 hL9 PR
  go_wp2
  refine bodyPost_ret (v := .tuple #[.agg #[.slice TA (r).t.length tc, .slice OA (r).o.length oc, .int .i64 (r).got, .int .i64 (r).sold, .int .i64 (r).missed], .bool gd]) (by simp [results, Tryd.results76, go_sem, *]) rfl ?_
  exact ⟨TA, tc, OA, oc, rfl, HT.out, HO.out, bz⟩
end Go.Proofs.YtdiojhjkcholiaaDoor

/- A step in the reference: l32Make, no. (Printed by gen_specmake.py) -/
namespace Go.Proofs.YtdiojhjkcholiaaDoor
open Go.RowKit

set_option maxRecDepth 100000 in
set_option maxHeartbeats 4000000 in
theorem make_person_no (x : Off) (kd st pe va : Int) (r : Oc) (hk : (kd == 1) = false) (hpe : 1 ≤ pe) (ht : 0 ≤ trayIx x.t st) (w : World) (h : OffR w w.heap.size x) (G : Good x) (hcap : x.t.length ≤ x.tc)
    (hP : ∀ W, OffR W W.heap.size x → Calls Tryd.prog 82 #[x.val, .agg #[.int .i64 kd, .int .i64 st, .int .i64 pe, .int .i64 va]] W (GivesMk W (r, false))) :
    Calls Tryd.prog 76 #[x.val, .agg #[.int .i64 kd, .int .i64 st, .int .i64 pe, .int .i64 va]] w (GivesMk w (r, false)) := by
  have L1 := ((Lies.new w 32 #[.slice x.TA x.t.length x.tc, .slice x.OA x.o.length x.oc, .int .i64 x.got, .int .i64 x.sold, .int .i64 x.missed]).alloc (.cells #[.int .i64 kd, .int .i64 st, .int .i64 pe, .int .i64 va] 90)).alloc (.cells #[.slice none 0 0, .slice none 0 0, .int .i64 0, .int .i64 0, .int .i64 0] 32)
  have L2 := (Lies.new1 w (.cells #[.slice x.TA x.t.length x.tc, .slice x.OA x.o.length x.oc, .int .i64 x.got, .int .i64 x.sold, .int .i64 x.missed] 32) 90 #[.int .i64 kd, .int .i64 st, .int .i64 pe, .int .i64 va]).alloc (.cells #[.slice none 0 0, .slice none 0 0, .int .i64 0, .int .i64 0, .int .i64 0] 32)
  have L3 := Lies.new2 w (.cells #[.slice x.TA x.t.length x.tc, .slice x.OA x.o.length x.oc, .int .i64 x.got, .int .i64 x.sold, .int .i64 x.missed] 32) (.cells #[.int .i64 kd, .int .i64 st, .int .i64 pe, .int .i64 va] 90) 32 #[.slice none 0 0, .slice none 0 0, .int .i64 0, .int .i64 0, .int .i64 0]
  have b1 := (Below.refl w.heap.size w).alloc (Nat.le_refl _) (.cells #[.slice x.TA x.t.length x.tc, .slice x.OA x.o.length x.oc, .int .i64 x.got, .int .i64 x.sold, .int .i64 x.missed] 32)
  have b2 := b1.alloc b1.size (.cells #[.int .i64 kd, .int .i64 st, .int .i64 pe, .int .i64 va] 90)
  have b3 := b2.alloc b2.size (.cells #[.slice none 0 0, .slice none 0 0, .int .i64 0, .int .i64 0, .int .i64 0] 32)
  have Sx := G.small
  have htl := G.tl
  have hol := G.ol
  have htc := G.tcs
  obtain ⟨m1, m2⟩ := G.m
  obtain ⟨g1, g2⟩ := G.s
  obtain ⟨o1, o2⟩ := G.g
  clear b1 b2 G
  have hpd : (pe == (0 : Int)) = false := by simp; omega
  clear hpe
  have htd : decide (trayIx x.t st < 0) = false := decide_eq_false (by omega)
  have HT0 := Lib.hid ht; clear ht
  go_enter Tryd.func76, Tryd.ntmps76
  go_wp2_with fail
  generalize (((w.alloc (.cells #[.slice x.TA x.t.length x.tc, .slice x.OA x.o.length x.oc, .int .i64 x.got, .int .i64 x.sold, .int .i64 x.missed] 32)).alloc (.cells #[.int .i64 kd, .int .i64 st, .int .i64 pe, .int .i64 va] 90)).alloc (.cells #[.slice none 0 0, .slice none 0 0, .int .i64 0, .int .i64 0, .int .i64 0] 32)) = W at L1 L2 L3 b3 ⊢
  have hR := h.up b3 (Nat.le_refl _)
  refine (l32Tray_any x st W hR).mono ?_
  rintro e W1 ⟨rfl, hb1⟩
  have hR1 := hR.then hb1
  have L1a := L1.below hb1 L1.lt
  have L2a := L2.below hb1 L2.lt
  have L3a := L3.below hb1 L3.lt
  have b4 := b3.trans (hb1.mono b3.size)
  have hW0 : w.heap.size ≤ W1.heap.size := b4.size
  clear L1 L2 L3 b3 hb1 hR h
  have c0 := L1a.cell 0
  have c1 := L1a.cell 1
  have c2 := L1a.cell 2
  have c3 := L1a.cell 3
  have c4 := L1a.cell 4
  simp only [List.getElem?_cons_zero, List.getElem?_cons_succ] at c0 c1 c2 c3 c4
  have s0 := L2a.cell 0
  have s1 := L2a.cell 1
  have s2 := L2a.cell 2
  have s3 := L2a.cell 3
  simp only [List.getElem?_cons_zero, List.getElem?_cons_succ] at s0 s1 s2 s3
  go_wp2_with fail

  refine (hP W1 hR1).mono ?_
  rintro e W2 ⟨TA, tc, OA, oc, rfl, hT, hO, hb2⟩
  simp only at hT hO
  have hal := (Below.refl W2.heap.size W2).alloc (Nat.le_refl _) (.cells #[.slice TA r.t.length tc, .slice OA r.o.length oc, .int .i64 r.got, .int .i64 r.sold, .int .i64 r.missed] 32)
  have L3b := (L3a.below hb2 L3a.lt).below hal (Nat.lt_of_lt_of_le L3a.lt hb2.size)
  have P4 := Lies.new W2 32 #[.slice TA r.t.length tc, .slice OA r.o.length oc, .int .i64 r.got, .int .i64 r.sold, .int .i64 r.missed]
  have hT4 := ownsRow_lower (ownsRow_below hT hal) hW0
  have hO4 := ownsRow_lower (ownsRow_below hO hal) hW0
  have b6 := b4.trans ((bthen hb2 hal).mono b4.size)
  have hgg : w.heap.size + 1 + 1 < W2.heap.size := Nat.lt_of_lt_of_le L3a.lt hb2.size
  clear c0 c1 c2 c3 c4 s0 s1 s2 s3
  have L3c := L3b
  clear hb2 hal hT hO L1a L2a L3a b4 hR1 L3b hP
  obtain ⟨W4, hW4⟩ : ∃ W4, W2.alloc (.cells #[.slice TA r.t.length tc, .slice OA r.o.length oc, .int .i64 r.got, .int .i64 r.sold, .int .i64 r.missed] 32) = W4 := ⟨_, rfl⟩
  rw [hW4] at L3c P4 hT4 hO4 b6
  generalize hg2 : W2.heap.size = g2 at P4 hgg
  go_wp2_with (rw [hW4]; clear hW4; rw [hg2])

  obtain ⟨D1, hD1⟩ : ∃ D : World → Prop, D = (fun W9 => ∃ W8 TA tc OA oc, Below W4.heap.size W4 W8 ∧ W8.ownsRow w.heap.size 68 2 (.slice TA (r).t.length tc) (r).t.length ((r).t.flatMap Tray.enc) ∧ W8.ownsRow w.heap.size 71 3 (.slice OA (r).o.length oc) (r).o.length ((r).o.flatMap Outing.enc) ∧ W9 = stOff W8 (w.heap.size + 1 + 1) (.slice TA (r).t.length tc) (.slice OA (r).o.length oc) (.int .i64 (r).got) (.int .i64 (r).sold) (.int .i64 (r).missed)) := ⟨_, rfl⟩
  have hDL : ∀ W, D1 W → ∃ W8 v0 v1 v2 v3 v4, Below W4.heap.size W4 W8 ∧ W = stOff W8 (w.heap.size + 1 + 1) v0 v1 v2 v3 v4 := by
    rw [hD1]
    rintro _ ⟨W8, TA, tc, OA, oc, hq, _, _, e⟩
    exact ⟨W8, _, _, _, _, _, hq, e⟩
  have HD1 := Lib.hid hD1; clear hD1
  refine wp_region_factsR (Sw 6 (fun W9 => Below W4.heap.size W4 W9) D1) (fun i w1 w2 => i ∉ [6] → Below w1.heap.size w1 w2) (by kernel_rfl) (by kernel_rfl) (by kernel_rfl) (Sw.start (Below.refl _ _).drew) ?_
  simp only [fillOps, Act.put, List.setIfInBounds_toArray, List.set_cons_zero, List.set_cons_succ, Nat.zero_add, Nat.reduceAdd]
  apply wpFactsR_val
  case h1 =>
    intro vs L9 w9 hG9 hC9 hB K9 hK9
    replace hC9 := hC9.before hG9 (by kernel_rfl)
    have q0 : w9.cell? ⟨g2, 0, none⟩ = some (.slice TA r.t.length tc) := (P4.below hC9 P4.lt).cell 0
    have q1 : w9.cell? ⟨g2, 1, none⟩ = some (.slice OA r.o.length oc) := (P4.below hC9 P4.lt).cell 1
    have q2 : w9.cell? ⟨g2, 2, none⟩ = some (.int .i64 r.got) := (P4.below hC9 P4.lt).cell 2
    have q3 : w9.cell? ⟨g2, 3, none⟩ = some (.int .i64 r.sold) := (P4.below hC9 P4.lt).cell 3
    have q4 : w9.cell? ⟨g2, 4, none⟩ = some (.int .i64 r.missed) := (P4.below hC9 P4.lt).cell 4
    simp only [Act.put, List.setIfInBounds_toArray, List.set_cons_zero, List.set_cons_succ] at hK9
    go_simp
    exact hK9 _ _ rfl (Sw.stay hG9 (by kernel_rfl) (by decide) hC9) (fun _ => Below.refl _ _)
  apply wpFactsR_val
  case h1 =>
    intro vs L9 w9 hG9 hC9 hB K9 hK9
    replace hC9 := hC9.before hG9 (by kernel_rfl)
    simp only [Act.put, List.setIfInBounds_toArray, List.set_cons_zero, List.set_cons_succ] at hK9
    go_simp
    exact hK9 _ _ rfl (Sw.stay hG9 (by kernel_rfl) (by decide) hC9) (fun _ => Below.refl _ _)
  apply wpFactsR_val
  case h1 =>
    intro vs L9 w9 hG9 hC9 hB K9 hK9
    replace hC9 := hC9.before hG9 (by kernel_rfl)
    have d1 := FactN.eq (hB 1 _ (by kernel_rfl) (by kernel_rfl) rfl (by decide))
    simp only [d1] at hK9 ⊢
    simp only [Act.put, List.setIfInBounds_toArray, List.set_cons_zero, List.set_cons_succ] at hK9
    go_simp
    exact hK9 _ _ rfl (Sw.stay hG9 (by kernel_rfl) (by decide) hC9) (fun _ => Below.refl _ _)
  refine wpFactsR_val (undef) (fun vs L9 w9 hG9 hC9 hB K9 hK9 => ?hq3) ?rq3
  case hq3 =>
    replace hC9 := hC9.before hG9 (by kernel_rfl)
    have d2 := FactN.eq (hB 2 _ (by kernel_rfl) (by kernel_rfl) rfl (by decide))
    simp only [d2] at hK9 ⊢
    go_simp
    exact hK9 _ _ rfl (Sw.stay hG9 (by kernel_rfl) (by decide) hC9) (fun _ => Below.refl _ _)
  refine wpFactsR_val (undef) (fun vs L9 w9 hG9 hC9 hB K9 hK9 => ?hq4) ?rq4
  case hq4 =>
    replace hC9 := hC9.before hG9 (by kernel_rfl)
    have d3 := FactN.eq (hB 3 _ (by kernel_rfl) (by kernel_rfl) rfl (by decide))
    have d2 := FactN.eq (hB 2 _ (by kernel_rfl) (by kernel_rfl) rfl (by decide))
    simp only [d3, d2] at hK9 ⊢
    go_simp
    exact hK9 _ _ rfl (Sw.stay hG9 (by kernel_rfl) (by decide) hC9) (fun _ => Below.refl _ _)
  apply wpFactsR_val
  case h1 =>
    intro vs L9 w9 hG9 hC9 hB K9 hK9
    have d2 := FactN.eq (hB 2 _ (by kernel_rfl) (by kernel_rfl) rfl (by decide))
    have d4 := FactN.eq (hB 4 _ (by kernel_rfl) (by kernel_rfl) rfl (by decide))
    simp only [d2, d4] at hK9 ⊢
    simp only [Act.put, List.setIfInBounds_toArray, List.set_cons_zero, List.set_cons_succ] at hK9
    have HC9 := Lib.hid hC9
    clear hC9
    go_simp
    exact hK9 _ _ rfl (Sw.both (by decide) (fun h => h) (fun h => h) HC9.out) (fun _ => Below.refl _ _)
  refine wpFactsR_val (undef) (fun vs L9 w9 hG9 hC9 hB K9 hK9 => ?hq6) ?rq6
  case hq6 =>
    replace hC9 := hC9.here hG9
    have d0 := FactN.eq (hB 0 _ (by kernel_rfl) (by kernel_rfl) rfl (by decide))
    simp only [d0] at hK9 ⊢
    have Lr := L3c.below hC9 L3c.lt
    have z0 := Lr.cell 0
    have z1 := Lr.cell 1
    have z2 := Lr.cell 2
    have z3 := Lr.cell 3
    have z4 := Lr.cell 4
    simp only [List.getElem?_cons_zero, List.getElem?_cons_succ] at z0 z1 z2 z3 z4
    have f0 := Lr.frozen 0
    have f1 := Lr.frozen 1
    have f2 := Lr.frozen 2
    have f3 := Lr.frozen 3
    have f4 := Lr.frozen 4
    clear Lr
    go_simp
    exact hK9 _ _ rfl (Sw.turn (by rw [HD1.out]; exact ⟨w9, TA, tc, OA, oc, hC9, ownsRow_below hT4 hC9, ownsRow_below hO4 hC9, rfl⟩)) (fun hq => (hq (by decide)).elim)
  apply wpFactsR_val
  case h1 =>
    intro vs L9 w9 hG9 hC9 hB K9 hK9
    replace hC9 := hC9.after hG9 (by kernel_rfl)
    have d5 := FactN.eq (hB 5 _ (by kernel_rfl) (by kernel_rfl) rfl (by decide))
    simp only [d5] at hK9 ⊢
    simp only [Act.put, List.setIfInBounds_toArray, List.set_cons_zero, List.set_cons_succ] at hK9
    go_simp
    exact hK9 _ _ rfl (Sw.on hG9 (by kernel_rfl) hC9) (fun _ => Below.refl _ _)
  refine wpFactsR_nil fun vs L9 w9 hL9 hC9 hB => ?_
  replace hC9 := hC9.done hL9 (by decide)
  have dl := FactN.eq (hB 7 _ rfl rfl (by decide))
  simp only [dl]
  clear hB dl
  rw [HD1.out] at hC9
  obtain ⟨W8, TA, tc, OA, oc, hb8, h1, h2, rfl⟩ := hC9
  have Lr := L3c.below hb8 L3c.lt
  have bz := (b6.trans (hb8.mono b6.size)).trans (stOff_below (v0 := .slice TA (r).t.length tc) (v1 := .slice OA (r).o.length oc) (v2 := .int .i64 (r).got) (v3 := .int .i64 (r).sold) (v4 := .int .i64 (r).missed) Lr (show w.heap.size ≤ (w.heap.size + 1 + 1) by omega))
  have HT := Lib.hid (stOff_row (v0 := .slice TA (r).t.length tc) (v1 := .slice OA (r).o.length oc) (v2 := .int .i64 (r).got) (v3 := .int .i64 (r).sold) (v4 := .int .i64 (r).missed) Lr h1 ne_owt)
  have HO := Lib.hid (stOff_row (v0 := .slice TA (r).t.length tc) (v1 := .slice OA (r).o.length oc) (v2 := .int .i64 (r).got) (v3 := .int .i64 (r).sold) (v4 := .int .i64 (r).missed) Lr h2 ne_owo)
  have PR := stOff_is (v0 := .slice TA (r).t.length tc) (v1 := .slice OA (r).o.length oc) (v2 := .int .i64 (r).got) (v3 := .int .i64 (r).sold) (v4 := .int .i64 (r).missed) Lr
  generalize stOff W8 (w.heap.size + 1 + 1) (.slice TA (r).t.length tc) (.slice OA (r).o.length oc) (.int .i64 (r).got) (.int .i64 (r).sold) (.int .i64 (r).missed) = W9 at bz HT HO PR ⊢
  have k0 := PR.cell 0
  have k1 := PR.cell 1
  have k2 := PR.cell 2
  have k3 := PR.cell 3
  have k4 := PR.cell 4
  simp only [List.getElem?_cons_zero, List.getElem?_cons_succ] at k0 k1 k2 k3 k4
  clear h1 h2 Lr hb8 hL9 PR
  go_wp2
  refine bodyPost_ret (v := .tuple #[.agg #[.slice TA (r).t.length tc, .slice OA (r).o.length oc, .int .i64 (r).got, .int .i64 (r).sold, .int .i64 (r).missed], .bool false]) (by simp [results, Tryd.results76, go_sem, *]) rfl ?_
  exact ⟨TA, tc, OA, oc, rfl, HT.out, HO.out, bz⟩
end Go.Proofs.YtdiojhjkcholiaaDoor

/- A valid step, in the reference: l32Make and StepOffice. -/
namespace Go.Proofs.YtdiojhjkcholiaaDoor
open Go.RowKit

theorem make_person (x : Off) (kd st pe va : Int) (R : Oc × Bool) (hk : (kd == 1) = false) (hpe : 1 ≤ pe) (ht : 0 ≤ trayIx x.t st) (w : World) (h : OffR w w.heap.size x) (G : Good x) (hcap : x.t.length ≤ x.tc)
    (hP : ∀ W, OffR W W.heap.size x → Calls Tryd.prog 82 #[x.val, .agg #[.int .i64 kd, .int .i64 st, .int .i64 pe, .int .i64 va]] W (GivesMk W R)) :
    Calls Tryd.prog 76 #[x.val, .agg #[.int .i64 kd, .int .i64 st, .int .i64 pe, .int .i64 va]] w (GivesMk w (R.1, R.2 && R.1.good)) := by
  obtain ⟨r, b⟩ := R
  cases b
  · rw [Bool.false_and]; exact make_person_no x kd st pe va r hk hpe ht w h G hcap hP
  · rw [Bool.true_and]; exact make_person_yes x kd st pe va r hk hpe ht w h G hcap hP
theorem l32Make_any (x : Off) (s : Stp) (w : World) (h : OffR w w.heap.size x) (G : Good x) (hcap : x.t.length ≤ x.tc) (hs : s.okS = true) :
    Calls Tryd.prog 76 #[x.val, s.val] w (GivesMk w (makeS x.c s)) := by
  obtain ⟨hst, hI⟩ := Stp.okS_is hs
  clear hs
  obtain ⟨kd, st, pe, va⟩ := s
  by_cases hT : trayIx x.t st < 0
  · have own : ∀ kd : Int, kd ≠ 1 → Calls Tryd.prog 76 #[x.val, .agg #[.int .i64 kd, .int .i64 st, .int .i64 pe, .int .i64 va]] w (GivesMk w (makeS x.c ⟨kd, st, pe, va⟩)) := fun kd hk => by
      rw [show makeS x.c ⟨kd, st, pe, va⟩ = (x.c, false) from by
        unfold makeS; rw [if_neg (show ¬ (Stp.mk kd st pe va).kind = 1 from hk), if_pos (show trayIx x.c.t st < 0 from hT)]]
      exact make_own x kd st pe va (by simpa using hk) hT w h G hcap
    cases hI with
    | get hk hp hv =>
      simp only at hk hp hv hst; subst hk
      exact make_get x st pe va hst hv w h G hcap
    | show_ hk hp hv => simp only at hk; subst hk; exact own 2 (by decide)
    | back hk hp hv => simp only at hk; subst hk; exact own 3 (by decide)
    | sell0 hk hp hv => simp only at hk; subst hk; exact own 4 (by decide)
    | sell hk hp hv => simp only at hk; subst hk; exact own 4 (by decide)
    | miss hk hp hv => simp only at hk; subst hk; exact own 5 (by decide)
    | move hk hp hv => simp only at hk; subst hk; exact own 6 (by decide)
  · have h0 : 0 ≤ trayIx x.t st := by omega
    have per : ∀ kd : Int, kd ≠ 1 → (1 ≤ pe ∧ pe ≤ 999) → (∀ W, OffR W W.heap.size x → Calls Tryd.prog 82 #[x.val, .agg #[.int .i64 kd, .int .i64 st, .int .i64 pe, .int .i64 va]] W (GivesMk W (personS x.c ⟨kd, st, pe, va⟩))) →
        Calls Tryd.prog 76 #[x.val, .agg #[.int .i64 kd, .int .i64 st, .int .i64 pe, .int .i64 va]] w (GivesMk w (makeS x.c ⟨kd, st, pe, va⟩)) := fun kd hk hpe hP => by
      rw [show makeS x.c ⟨kd, st, pe, va⟩ = ((personS x.c ⟨kd, st, pe, va⟩).1, (personS x.c ⟨kd, st, pe, va⟩).2 && (personS x.c ⟨kd, st, pe, va⟩).1.good) from by
        unfold makeS; rw [if_neg (show ¬ (Stp.mk kd st pe va).kind = 1 from hk), if_neg (show ¬ trayIx x.c.t st < 0 from hT), if_neg (show ¬ (Stp.mk kd st pe va).person = 0 from by show ¬ pe = 0; omega)]]
      exact make_person x kd st pe va _ (by simpa using hk) hpe.1 h0 w h G hcap hP
    cases hI with
    | get hk hp hv =>
      simp only at hk hp hv hst; subst hk
      exact make_get x st pe va hst hv w h G hcap
    | show_ hk hp hv => simp only at hk hp hv hst; subst hk; exact per 2 (by decide) hp fun W hW => person_show x st pe va W hW G hcap hst hp hv
    | back hk hp hv => simp only at hk hp hv hst; subst hk; exact per 3 (by decide) hp fun W hW => person_back x st pe va W hW G hcap hst hp hv
    | sell0 hk hp hv =>
      simp only at hk hp hv hst; subst hk; subst hp
      have := make_sell0 x st va hst hv h0 w h G hcap
      rw [show makeS x.c ⟨4, st, 0, va⟩ = ((⟨inTrays x.t st (-va), x.o, x.got, x.sold + va, x.missed⟩ : Oc), (⟨inTrays x.t st (-va), x.o, x.got, x.sold + va, x.missed⟩ : Oc).good) from by
        unfold makeS; rw [if_neg (show ¬ (4 : Int) = 1 by decide), if_neg (show ¬ trayIx x.c.t st < 0 from hT), if_pos rfl]; rfl]
      exact this
    | sell hk hp hv => simp only at hk hp hv hst; subst hk; exact per 4 (by decide) hp fun W hW => person_sell x st pe va W hW G hcap hst hp hv
    | miss hk hp hv => simp only at hk hp hv hst; subst hk; exact per 5 (by decide) hp fun W hW => person_miss x st pe va W hW G hcap hst hp
    | move hk hp hv => simp only at hk hp hv hst; subst hk; exact per 6 (by decide) hp fun W hW => person_move x st pe va W hW G hcap hst hp hv
/-- The reference's StepOffice. -/
theorem specStep_any (x : Off) (s : Stp) (w : World) (h : OffR w w.heap.size x) (hcap : x.t.length ≤ x.tc) :
    Calls Tryd.prog 68 #[x.val, s.val] w (GivesStep w (if goodOff x && s.ok then stepD x.c s else none)) := by
  have h1 := specStep_of (fun x s w h G hc hs => l32Make_any x s w h G hc hs) x s w h hcap
  rw [show (if goodOff x && s.ok then stepD x.c s else none) = (if goodOff x && s.okS then okOc (makeS x.c s) else none) from by
    cases hg : goodOff x
    · rfl
    · cases hs : s.okS
      · have := Stp.ok_okS s
        rw [hs, Bool.false_and] at this
        rw [this]; rfl
      · rw [Bool.true_and, Bool.true_and, if_pos rfl, makeS_stepD x s (good_iff.1 hg) hs]]
  exact h1
end Go.Proofs.YtdiojhjkcholiaaDoor

/- What a step of an office gives. -/
namespace Go.Proofs.YtdiojhjkcholiaaDoor
open Go.RowKit

theorem stepD_len {y : Oc} {s : Stp} : (resOf (stepD y s)).t.length ≤ 1000000 ∧ (resOf (stepD y s)).o.length ≤ 1000000 := by
  have key : ∀ r : Oc, (resOf (Oc.fin r)).t.length ≤ 1000000 ∧ (resOf (Oc.fin r)).o.length ≤ 1000000 := fun r => by
    unfold Oc.fin
    split
    · rename_i h
      have G := good_iff.1 h
      have h1 := G.tl
      have h2 := G.ol
      exact ⟨Nat.le_trans h1 (by omega), Nat.le_trans h2 (by omega)⟩
    · exact ⟨by simp [resOf, Oc.zero], by simp [resOf, Oc.zero]⟩
  have none_ : (resOf none).t.length ≤ 1000000 ∧ (resOf none).o.length ≤ 1000000 := ⟨by simp [resOf, Oc.zero], by simp [resOf, Oc.zero]⟩
  unfold stepD
  repeat' split
  all_goals first | exact key _ | exact none_
/-- What a step of an office gives: nothing where one of them is not valid. -/
def tryD (y : Oc) (s : Stp) : Option Oc := if y.good && s.ok then stepD y s else none
theorem tryD_len {y : Oc} {s : Stp} : (resOf (tryD y s)).t.length ≤ 1000000 ∧ (resOf (tryD y s)).o.length ≤ 1000000 := by
  unfold tryD; split
  · exact stepD_len
  · exact ⟨by simp [resOf, Oc.zero], by simp [resOf, Oc.zero]⟩
end Go.Proofs.YtdiojhjkcholiaaDoor

/- Steps of an office one after the other (no program in sight), and what a run gives. -/
namespace Go.Proofs.YtdiojhjkcholiaaDoor
open Go.RowKit

def nextD (y : Oc) (s : Stp) : Option Oc := if s.ok then stepD y s else none
/-- Contents and the number of steps made, from y and n on. -/
def runGo : Oc → Int → List Stp → Oc × Int
  | y, n, [] => (y, n)
  | y, n, s :: l => match nextD y s with
    | some r => runGo r (n + 1) l
    | none => runGo y n l
theorem runGo_none {y : Oc} {n : Int} {l : List Stp} {k : Nat} (h : k < l.length) (hd : nextD y l[k] = none) : runGo y n (l.drop k) = runGo y n (l.drop (k + 1)) := by
  rw [List.drop_eq_getElem_cons h, runGo, hd]
theorem runGo_some {y r : Oc} {n : Int} {l : List Stp} {k : Nat} (h : k < l.length) (hd : nextD y l[k] = some r) : runGo y n (l.drop k) = runGo r (n + 1) (l.drop (k + 1)) := by
  rw [List.drop_eq_getElem_cons h, runGo, hd]
theorem fin_good {r r' : Oc} (h : Oc.fin r = some r') : r'.good = true := by
  unfold Oc.fin at h
  split at h
  · rename_i hg; injection h with h; rw [← h]; exact hg
  · cases h
theorem stepD_good {y r : Oc} {s : Stp} (h : stepD y s = some r) : r.good = true := by
  unfold stepD at h
  split at h
  · exact fin_good h
  split at h
  · cases h
  split at h
  · exact fin_good h
  split at h
  · cases h
  split at h
  · exact fin_good h
  split at h
  · split at h <;> exact fin_good h
  split at h <;> exact fin_good h
theorem nextD_good {y r : Oc} {s : Stp} (h : nextD y s = some r) : r.good = true := by
  unfold nextD at h
  split at h
  · exact stepD_good h
  · cases h
theorem Oc.good_off {y : Oc} (h : y.good = true) (TA : Option Addr) (tc : Nat) (OA : Option Addr) (oc : Nat) : Good (y.at TA tc OA oc) := by
  have G : Good (y.at none 0 none 0) := good_iff.1 h
  exact ⟨G.tl, G.ol, G.g, G.s, G.m, G.ts, G.os, G.sum⟩
theorem runGo_good : ∀ (l : List Stp) (y : Oc) (n : Int), y.good = true → (runGo y n l).1.good = true
  | [], _, _, h => h
  | s :: l, y, n, h => by
    rw [runGo]
    cases hd : nextD y s with
    | none => exact runGo_good l y n h
    | some r => exact runGo_good l r (n + 1) (nextD_good hd)
def runR (y : Oc) (l : List Stp) : Oc × Int × Bool := if y.good && decide (l.length ≤ 40) then ((runGo y 0 l).1, (runGo y 0 l).2, true) else (Oc.zero, 0, false)
theorem runR_bad {x : Off} {l : List Stp} (h : goodOff x = false) : runR x.c l = (Oc.zero, 0, false) := by
  unfold runR; rw [show x.c.good = false from h]; rfl
theorem runR_long {y : Oc} {l : List Stp} (h : ¬ l.length ≤ 40) : runR y l = (Oc.zero, 0, false) := by
  unfold runR; rw [decide_eq_false h, Bool.and_false]; rfl
theorem runR_good {x : Off} {l : List Stp} (h : goodOff x = true) (hl : l.length ≤ 40) : runR x.c l = ((runGo x.c 0 l).1, (runGo x.c 0 l).2, true) := by
  unfold runR; rw [show x.c.good = true from h, decide_eq_true hl]; rfl
theorem good_lens {y : Oc} (h : y.good = true) : y.t.length ≤ 1000000 ∧ y.o.length ≤ 1000000 := by
  have G : Good (y.at none 0 none 0) := good_iff.1 h
  exact ⟨Nat.le_trans G.tl (by omega), Nat.le_trans G.ol (by omega)⟩
theorem runR_len (y : Oc) (l : List Stp) : (runR y l).1.t.length ≤ 1000000 ∧ (runR y l).1.o.length ≤ 1000000 := by
  unfold runR
  split
  · rename_i h
    rw [Bool.and_eq_true] at h
    exact good_lens (runGo_good l y 0 h.1)
  · exact ⟨by simp [Oc.zero], by simp [Oc.zero]⟩
/-- A call gives an office of its own, a number, and whether there is one. -/
def GivesN (w : World) (R : Oc × Int × Bool) (e : Ending) (w' : World) : Prop := ∃ v, e = .returned (.tuple #[v, .int .i64 R.2.1, .bool R.2.2]) ∧ OwnV w' w.heap.size R.1 v ∧ Below w.heap.size w w'
end Go.Proofs.YtdiojhjkcholiaaDoor
