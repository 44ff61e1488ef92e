/- Fo11: the texts StepMove StepSell0 StepMiss StepSell StepBack StepShow StepNon StepZ, joined into one file. -/
import Derived.Test.YtdiojhjkcholiaaFo10

/- Steps of an office in the program: stamps move. (Printed by gen_step.py) -/
namespace Go.Proofs.Ytdiojhjkcholiaa
open Go.RowKit

set_option maxRecDepth 100000 in
set_option maxHeartbeats 1500000 in
/-- Move. -/
theorem step_move (x : Off) (g : Nat) (st pe va : Int) (w : World) (h : OffAt w w.heap.size g x) (G : Good x) (i : Nat) (hi : i < x.t.length) (hI : trayIx x.t st = i) (hpe : 1 ≤ pe ∧ pe ≤ 999) (hva : 1 ≤ va ∧ va ≤ 999) (hn1 : outAt st pe x.o ≠ 0) :
    Calls Try.prog 47 #[.pointer (some ⟨g, 0, none⟩), .agg #[.int .i64 6, .int .i64 st, .int .i64 pe, .int .i64 va]] w (GivesStep w (stepD x.c ⟨6, st, pe, va⟩)) := by
  obtain ⟨r, hr⟩ : ∃ r : Oc, r = ⟨x.t, chgO st va (outAt st pe x.o) (chgO st pe (-outAt st pe x.o) x.o), x.got, x.sold, x.missed⟩ := ⟨_, rfl⟩
  have HR : Hid (stepD x.c ⟨6, st, pe, va⟩ = Oc.fin r) := by
    unfold Hid stepD
    rw [if_neg (by simp)]
    rw [if_neg (by show ¬ ¬ 0 ≤ trayIx x.t st; rw [hI]; omega)]
    rw [if_neg (by simp)]
    rw [if_neg (by show ¬ (outAt st pe x.o = 0 ∧ 0 < pe); omega)]
    rw [if_neg (by simp)]
    rw [if_neg (by simp)]
    rw [if_neg (by simp)]
    rw [hr]
    rfl
  have hNb := G.at_bd st pe
  have hasc := G.asc
  have hoc := G.oc
  have hz0 : (0 : Int) ≤ (i : Int) := by omega
  obtain ⟨hpe1, hpe2⟩ := hpe
  obtain ⟨hva1, hva2⟩ := hva
  have hsub : (chgO st pe (-outAt st pe x.o) x.o).Sublist x.o := by
    rw [chgO_atO x.o hasc (fun h => absurd h hn1), show outAt st pe x.o + -outAt st pe x.o = 0 by omega]
    exact atO_zero_sub _
  have L1 := (Lies.new w 45 #[.int .i64 6, .int .i64 st, .int .i64 pe, .int .i64 va]).alloc (.cells #[.slice none 0 0, .slice none 0 0, .int .i64 0, .int .i64 0, .int .i64 0] 25)
  have L2 := Lies.new1 w (.cells #[.int .i64 6, .int .i64 st, .int .i64 pe, .int .i64 va] 45) 25 #[.slice none 0 0, .slice none 0 0, .int .i64 0, .int .i64 0, .int .i64 0]
  have b1 := (Below.refl w.heap.size w).alloc (Nat.le_refl _) (.cells #[.int .i64 6, .int .i64 st, .int .i64 pe, .int .i64 va] 45)
  have b2 := b1.alloc b1.size (.cells #[.slice none 0 0, .slice none 0 0, .int .i64 0, .int .i64 0, .int .i64 0] 25)
  have hA := h.then b2 b2.size
  have tl := G.tl
  have ol := G.ol
  clear b1
  go_enter Try.func47, Try.ntmps47
  go_wp2_with fail
  generalize ((w.alloc (.cells #[.int .i64 6, .int .i64 st, .int .i64 pe, .int .i64 va] 45)).alloc (.cells #[.slice none 0 0, .slice none 0 0, .int .i64 0, .int .i64 0, .int .i64 0] 25)) = W2 at L1 L2 b2 hA ⊢
  refine (copyOffice_val x g W2 hA (by omega) (by omega)).mono ?_
  rintro e W3 ⟨TA, tc, OA, oc, rfl, hT, hO, k3⟩
  obtain ⟨gT, cT, _, hvt, _, _, _⟩ := ownsRow_at hT (by omega)
  injection hvt with e1 e2 e3
  subst e1; subst e3
  have hal := (Below.refl W3.heap.size W3).alloc (Nat.le_refl _) (.cells #[.slice (some ⟨gT, 0, none⟩) x.t.length tc, .slice OA x.o.length oc, .int .i64 x.got, .int .i64 x.sold, .int .i64 x.missed] 25)
  have hOwn : OffOwn (W3.alloc (.cells #[.slice (some ⟨gT, 0, none⟩) x.t.length tc, .slice OA x.o.length oc, .int .i64 x.got, .int .i64 x.sold, .int .i64 x.missed] 25)) W2.heap.size W3.heap.size _ _ x.c := ⟨Lies.new W3 25 #[.slice (some ⟨gT, 0, none⟩) x.t.length tc, .slice OA x.o.length oc, .int .i64 x.got, .int .i64 x.sold, .int .i64 x.missed], k3.size, ownsRow_below hT hal, ownsRow_below hO hal⟩
  have k4 := k3.trans (hal.mono k3.size)
  have s0 := (L1.below k4 L1.lt).cell 0
  have s1 := (L1.below k4 L1.lt).cell 1
  simp only [List.getElem?_cons_zero, List.getElem?_cons_succ] at s0 s1
  have hgO : w.heap.size + 1 < W3.heap.size := Nat.lt_of_lt_of_le L2.lt k3.size
  clear hT hO k3
  go_wp2_with fail
  clear s0 s1 hal
  generalize W3.alloc (.cells #[.slice (some ⟨gT, 0, none⟩) x.t.length tc, .slice OA x.o.length oc, .int .i64 x.got, .int .i64 x.sold, .int .i64 x.missed] 25) = W4 at hOwn k4 ⊢
  generalize W3.heap.size = gO at hOwn hgO ⊢
  refine (trayAt_any (x.c.at (some ⟨gT, 0, none⟩) tc OA oc) gO st W4 (OffOwn.at_ (y := x.c) hOwn)).mono ?_
  rintro e W5 ⟨rfl, hb5⟩
  have hOwn5 := hOwn.then hb5
  have k5 := k4.trans (hb5.mono k4.size)
  rw [show trayIx (x.c.at (some ⟨gT, 0, none⟩) tc OA oc).t st = trayIx x.t st from rfl, hI]
  have L1c := L1.below k5 L1.lt
  have hA5 := hA.then k5 k5.size
  have hmf : ∀ (fn : Fn) (first cap : Array Value) (w : World), (Instr.makeFunc fn first cap).run Try.prog w = .ok (.func fn first cap) w := fun _ _ _ _ => rfl
  go_wp2_with fail
  refine (stampsFn_val (B := 0) L1c hA5 G (Nat.zero_le _)).mono ?_
  rintro e W6 ⟨rfl, hb6⟩
  have hOwn6 := hOwn5.then hb6
  have k6 := k5.trans (hb6.mono k5.size)
  have L1d := L1.below k6 L1.lt
  have s0 := L1d.cell 0
  have s1 := L1d.cell 1
  have s2 := L1d.cell 2
  have s3 := L1d.cell 3
  simp only [List.getElem?_cons_zero, List.getElem?_cons_succ] at s0 s1 s2 s3
  clear L1c hA5 hOwn5 hOwn hb5 hb6 k4
  generalize outAt st pe x.o = N at *
  obtain ⟨hNb1, hNb2⟩ := hNb
  have c0 := hOwn6.lies.cell 0
  simp only [List.getElem?_cons_zero] at c0
  have hn0 : (N == 0) = false := by simp; omega
  have hasc2 : AscO (chgO st pe (-N) x.o) := hasc.sublist hsub
  have hoc2 : ∀ o ∈ chgO st pe (-N) x.o, -1000000000 ≤ o.c ∧ o.c ≤ 1000000000 := fun o ho => hoc o (hsub.subset ho)
  have hl2 := hsub.length_le
  go_wp2_with fail
  have cC := change_any W2.heap.size gO _ _ x.c st pe (-N) W6 hOwn6 k6.size (by exact hasc) (by show x.o.length ≤ 100000; omega) (by exact hoc) (by omega)
  refine cC.mono ?_
  rintro e W7 ⟨vo1, rfl, hO8, hb8⟩
  have k7 := k6.trans hb8
  clear hb8 cC
  have L1e := L1.below k7 L1.lt
  have u1 := L1e.cell 1
  have u3 := L1e.cell 3
  simp only [List.getElem?_cons_zero, List.getElem?_cons_succ] at u1 u3
  have hO7 : OffOwn W7 W2.heap.size gO (.slice (some ⟨gT, 0, none⟩) x.t.length tc) vo1 ⟨x.t, chgO st pe (-N) x.o, x.got, x.sold, x.missed⟩ := hO8
  clear hO8
  go_wp2_with fail
  have cC := change_any W2.heap.size gO _ _ ⟨x.t, chgO st pe (-N) x.o, x.got, x.sold, x.missed⟩ st va N W7 hO7 k7.size (by exact hasc2) (by show (chgO st pe (-N) x.o).length ≤ 100000; omega) (by exact hoc2) (by omega)
  refine cC.mono ?_
  rintro e W8 ⟨vo', rfl, hO8, hb8⟩
  have k8 := k7.trans hb8
  clear hb8 cC
  replace hO8 : ∃ vt, OffOwn W8 W2.heap.size gO vt vo' r := ⟨_, by rw [hr]; exact hO8⟩
  obtain ⟨vt, hO8⟩ := hO8
  clear hr
  clear hO7 hOwn6 c0 u1 u3 s0 s1 s2 s3 L1d L1e k7 k6 k5
  obtain ⟨A1, a1, A2, a2, rfl, rfl⟩ := hO8.form
  have cV := isOfficeValid_any (r.at A1 a1 A2 a2) gO W8 (OffOwn.at_ (y := r) hO8)
  rw [Oc.good_at] at cV
  cases hg : r.good
  · rw [hg] at cV
    have HN : Hid (stepD x.c ⟨6, st, pe, va⟩ = none) := by unfold Hid; rw [HR.out, Oc.fin, hg]; rfl
    clear hg
    go_wp2_with fail
    refine cV.mono ?_
    rintro e W9 ⟨rfl, hb9⟩
    have k9 := k8.trans (hb9.mono k8.size)
    clear hb9 cV
    have L2z := L2.below k9 L2.lt
    have z0 := L2z.cell 0
    have z1 := L2z.cell 1
    have z2 := L2z.cell 2
    have z3 := L2z.cell 3
    have z4 := L2z.cell 4
    have f0 := L2z.frozen 0
    have f1 := L2z.frozen 1
    have f2 := L2z.frozen 2
    have f3 := L2z.frozen 3
    have f4 := L2z.frozen 4
    simp only [List.getElem?_cons_zero, List.getElem?_cons_succ] at z0 z1 z2 z3 z4
    have hgr := grown_set (g := w.heap.size + 1) (i := 4) (u := .int .i64 0) (grown_set (g := w.heap.size + 1) (i := 3) (u := .int .i64 0) (grown_set (g := w.heap.size + 1) (i := 2) (u := .int .i64 0) (grown_set (g := w.heap.size + 1) (i := 1) (u := .slice none 0 0) (grown_set (g := w.heap.size + 1) (i := 0) (u := .slice none 0 0) (World.grownBy.refl W9 (some (w.heap.size + 1)))))))
    have bw := b2.trans (k9.mono b2.size)
    have bz := bw.grown hgr bw.size (by rintro _ ⟨⟩; omega)
    go_wp2
    rw [HN.out]
    refine bodyPost_ret (v := .tuple #[.agg #[.slice none 0 0, .slice none 0 0, .int .i64 0, .int .i64 0, .int .i64 0], .bool false]) (by simp [results, Try.results47, go_sem, *]) rfl (GivesStep.no rfl bz)
  · rw [hg] at cV
    have HN : Hid (stepD x.c ⟨6, st, pe, va⟩ = some r) := by unfold Hid; rw [HR.out, Oc.fin, hg]; rfl
    clear hg
    go_wp2_with fail
    refine cV.mono ?_
    rintro e W9 ⟨rfl, hb9⟩
    have k9 := k8.trans (hb9.mono k8.size)
    have hO9 := hO8.then hb9
    clear hb9 cV hO8
    have c0 := hO9.lies.cell 0
    have c1 := hO9.lies.cell 1
    have c2 := hO9.lies.cell 2
    have c3 := hO9.lies.cell 3
    have c4 := hO9.lies.cell 4
    simp only [List.getElem?_cons_zero, List.getElem?_cons_succ] at c0 c1 c2 c3 c4
    have L2z := L2.below k9 L2.lt
    have z0 := L2z.cell 0
    have z1 := L2z.cell 1
    have z2 := L2z.cell 2
    have z3 := L2z.cell 3
    have z4 := L2z.cell 4
    have f0 := L2z.frozen 0
    have f1 := L2z.frozen 1
    have f2 := L2z.frozen 2
    have f3 := L2z.frozen 3
    have f4 := L2z.frozen 4
    simp only [List.getElem?_cons_zero, List.getElem?_cons_succ] at z0 z1 z2 z3 z4
    have hgr := grown_set (g := w.heap.size + 1) (i := 4) (u := .int .i64 r.missed) (grown_set (g := w.heap.size + 1) (i := 3) (u := .int .i64 r.sold) (grown_set (g := w.heap.size + 1) (i := 2) (u := .int .i64 r.got) (grown_set (g := w.heap.size + 1) (i := 1) (u := .slice A2 r.o.length a2) (grown_set (g := w.heap.size + 1) (i := 0) (u := .slice A1 r.t.length a1) (World.grownBy.refl W9 (some (w.heap.size + 1)))))))
    have bw := b2.trans (k9.mono b2.size)
    have bz := bw.grown hgr bw.size (by rintro _ ⟨⟩; omega)
    have r8 := ownsRow_lower (ownsRow_keptG hO9.t L2z ne_TO hgr) b2.size
    have r9 := ownsRow_lower (ownsRow_keptG hO9.o L2z ne_OO hgr) b2.size
    have R8 := Lib.hid r8; clear r8
    have R9 := Lib.hid r9; clear r9
    clear hgr hO9
    go_wp2
    rw [HN.out]
    refine bodyPost_ret (v := .tuple #[.agg #[.slice A1 r.t.length a1, .slice A2 r.o.length a2, .int .i64 r.got, .int .i64 r.sold, .int .i64 r.missed], .bool true]) (by simp [results, Try.results47, go_sem, *]) rfl ?_
    exact GivesStep.yes rfl R8.out R9.out bz
end Go.Proofs.Ytdiojhjkcholiaa

/- Steps of an office in the program: stamps of a tray are sold. (Printed by gen_step.py) -/
namespace Go.Proofs.Ytdiojhjkcholiaa
open Go.RowKit

set_option maxRecDepth 100000 in
set_option maxHeartbeats 1500000 in
/-- Sell out of the tray. -/
theorem step_sell0 (x : Off) (g : Nat) (st pe va : Int) (w : World) (h : OffAt w w.heap.size g x) (G : Good x) (i : Nat) (hi : i < x.t.length) (hI : trayIx x.t st = i) (hpe : pe = 0) (hva : 1 ≤ va ∧ va ≤ 9999) :
    Calls Try.prog 47 #[.pointer (some ⟨g, 0, none⟩), .agg #[.int .i64 4, .int .i64 st, .int .i64 pe, .int .i64 va]] w (GivesStep w (stepD x.c ⟨4, st, pe, va⟩)) := by
  subst hpe
  obtain ⟨tr, htr⟩ : ∃ tr, x.c.t[i] = tr := ⟨_, rfl⟩
  obtain ⟨r, hr⟩ : ∃ r : Oc, r = ⟨x.t.set i ⟨tr.k, tr.c - va⟩, x.o, x.got, x.sold + va, x.missed⟩ := ⟨_, rfl⟩
  have HR : Hid (stepD x.c ⟨4, st, 0, va⟩ = Oc.fin r) := by
    unfold Hid stepD
    rw [if_neg (by simp)]
    rw [if_neg (by show ¬ ¬ 0 ≤ trayIx x.t st; rw [hI]; omega)]
    rw [if_neg (by simp)]
    rw [if_neg (by show ¬ (outAt st 0 x.o = 0 ∧ (0 : Int) < 0); omega)]
    rw [if_neg (by simp)]
    rw [if_pos rfl, if_pos rfl]
    rw [show inTrays x.c.t st (-va) = x.t.set i ⟨tr.k, tr.c - va⟩ from by show inTrays x.t st _ = _; rw [inTrays_at hI hi, show x.t[i] = tr from htr, ← Int.sub_eq_add_neg]]
    rw [hr]
    rfl
  have hNb := G.at_bd st 0
  have hasc := G.asc
  have hoc := G.oc
  have hz0 : (0 : Int) ≤ (i : Int) := by omega
  have htb := (Tray.bounds (G.tall i hi)).2
  rw [show x.t[i] = tr from htr] at htb
  obtain ⟨htb1, htb2⟩ := htb
  obtain ⟨hva1, hva2⟩ := hva
  have L1 := (Lies.new w 45 #[.int .i64 4, .int .i64 st, .int .i64 0, .int .i64 va]).alloc (.cells #[.slice none 0 0, .slice none 0 0, .int .i64 0, .int .i64 0, .int .i64 0] 25)
  have L2 := Lies.new1 w (.cells #[.int .i64 4, .int .i64 st, .int .i64 0, .int .i64 va] 45) 25 #[.slice none 0 0, .slice none 0 0, .int .i64 0, .int .i64 0, .int .i64 0]
  have b1 := (Below.refl w.heap.size w).alloc (Nat.le_refl _) (.cells #[.int .i64 4, .int .i64 st, .int .i64 0, .int .i64 va] 45)
  have b2 := b1.alloc b1.size (.cells #[.slice none 0 0, .slice none 0 0, .int .i64 0, .int .i64 0, .int .i64 0] 25)
  have hA := h.then b2 b2.size
  have tl := G.tl
  have ol := G.ol
  clear b1
  go_enter Try.func47, Try.ntmps47
  go_wp2_with fail
  generalize ((w.alloc (.cells #[.int .i64 4, .int .i64 st, .int .i64 0, .int .i64 va] 45)).alloc (.cells #[.slice none 0 0, .slice none 0 0, .int .i64 0, .int .i64 0, .int .i64 0] 25)) = W2 at L1 L2 b2 hA ⊢
  refine (copyOffice_val x g W2 hA (by omega) (by omega)).mono ?_
  rintro e W3 ⟨TA, tc, OA, oc, rfl, hT, hO, k3⟩
  obtain ⟨gT, cT, _, hvt, _, _, _⟩ := ownsRow_at hT (by omega)
  injection hvt with e1 e2 e3
  subst e1; subst e3
  have hal := (Below.refl W3.heap.size W3).alloc (Nat.le_refl _) (.cells #[.slice (some ⟨gT, 0, none⟩) x.t.length tc, .slice OA x.o.length oc, .int .i64 x.got, .int .i64 x.sold, .int .i64 x.missed] 25)
  have hOwn : OffOwn (W3.alloc (.cells #[.slice (some ⟨gT, 0, none⟩) x.t.length tc, .slice OA x.o.length oc, .int .i64 x.got, .int .i64 x.sold, .int .i64 x.missed] 25)) W2.heap.size W3.heap.size _ _ x.c := ⟨Lies.new W3 25 #[.slice (some ⟨gT, 0, none⟩) x.t.length tc, .slice OA x.o.length oc, .int .i64 x.got, .int .i64 x.sold, .int .i64 x.missed], k3.size, ownsRow_below hT hal, ownsRow_below hO hal⟩
  have k4 := k3.trans (hal.mono k3.size)
  have s0 := (L1.below k4 L1.lt).cell 0
  have s1 := (L1.below k4 L1.lt).cell 1
  simp only [List.getElem?_cons_zero, List.getElem?_cons_succ] at s0 s1
  have hgO : w.heap.size + 1 < W3.heap.size := Nat.lt_of_lt_of_le L2.lt k3.size
  clear hT hO k3
  go_wp2_with fail
  clear s0 s1 hal
  generalize W3.alloc (.cells #[.slice (some ⟨gT, 0, none⟩) x.t.length tc, .slice OA x.o.length oc, .int .i64 x.got, .int .i64 x.sold, .int .i64 x.missed] 25) = W4 at hOwn k4 ⊢
  generalize W3.heap.size = gO at hOwn hgO ⊢
  refine (trayAt_any (x.c.at (some ⟨gT, 0, none⟩) tc OA oc) gO st W4 (OffOwn.at_ (y := x.c) hOwn)).mono ?_
  rintro e W5 ⟨rfl, hb5⟩
  have hOwn5 := hOwn.then hb5
  have k5 := k4.trans (hb5.mono k4.size)
  rw [show trayIx (x.c.at (some ⟨gT, 0, none⟩) tc OA oc).t st = trayIx x.t st from rfl, hI]
  have L1c := L1.below k5 L1.lt
  have hA5 := hA.then k5 k5.size
  have hmf : ∀ (fn : Fn) (first cap : Array Value) (w : World), (Instr.makeFunc fn first cap).run Try.prog w = .ok (.func fn first cap) w := fun _ _ _ _ => rfl
  go_wp2_with fail
  refine (stampsFn_val (B := 0) L1c hA5 G (Nat.zero_le _)).mono ?_
  rintro e W6 ⟨rfl, hb6⟩
  have hOwn6 := hOwn5.then hb6
  have k6 := k5.trans (hb6.mono k5.size)
  have L1d := L1.below k6 L1.lt
  have s0 := L1d.cell 0
  have s1 := L1d.cell 1
  have s2 := L1d.cell 2
  have s3 := L1d.cell 3
  simp only [List.getElem?_cons_zero, List.getElem?_cons_succ] at s0 s1 s2 s3
  clear L1c hA5 hOwn5 hOwn hb5 hb6 k4
  generalize outAt st 0 x.o = N at *
  obtain ⟨hNb1, hNb2⟩ := hNb
  have c0 := hOwn6.lies.cell 0
  simp only [List.getElem?_cons_zero] at c0
  have d3 : W6.cell? ⟨gO, 3, none⟩ = some (.int .i64 x.sold) := hOwn6.lies.cell 3
  have d4 : W6.cell? ⟨gO, 4, none⟩ = some (.int .i64 x.missed) := hOwn6.lies.cell 4
  have d3f := hOwn6.lies.frozen 3
  have d4f := hOwn6.lies.frozen 4
  have hneO : ¬ gO = w.heap.size := by omega
  have hneO' : ¬ w.heap.size = gO := by omega
  have hgs := G.s
  have hgm := G.m
  have hgg := G.g
  obtain ⟨hgs1, hgs2⟩ := hgs
  obtain ⟨hgm1, hgm2⟩ := hgm
  obtain ⟨hgg1, hgg2⟩ := hgg
  have hOs := (hOwn6.setN (x.sold + va)).2.1
  have k7 := k6.trans (hOwn6.belowN 3 (.int .i64 (x.sold + va)))
  obtain ⟨hOt0, kt0, ct0, cf0⟩ := OffOwn.setT' (y := x.c) hOwn6 hi tr htr 0
  obtain ⟨v, hv⟩ : ∃ v, (N == 0) = v := ⟨_, rfl⟩
  clear hOt0 kt0 ct0 cf0
  cases v
  all_goals
    go_wp2
    generalize W6.setCell ⟨gO, 3, none⟩ (.int .i64 (x.sold + va)) = W7 at hOs k7 ⊢
    obtain ⟨hOt, kt, ct, cf⟩ := OffOwn.setT' (y := ⟨x.t, x.o, x.got, x.sold + va, x.missed⟩) (hOs.then (Below.refl _ _).drew) hi tr htr (tr.c - va)
    have kd := k7.drew
    have L1e := L1.below kd L1.lt
    have u1 := L1e.cell 1
    have u2 := L1e.cell 2
    have u3 := L1e.cell 3
    simp only [List.getElem?_cons_zero, List.getElem?_cons_succ] at u1 u2 u3
    go_still_tail 9, (by kernel_rfl)
    change wpList _ _ _ _ _ W7.drew
    generalize W7.drew = Wd at hOt kt ct cf kd L1e u1 u2 u3 ⊢
    have k8 := kd.trans kt
    have hneT : ¬ gT = w.heap.size := fun e => by have := (hOt.t.lt gT rfl).1; have := L1.lt; omega
    have hneT' : ¬ w.heap.size = gT := fun e => hneT e.symm
    go_wp2_with fail
    generalize Wd.setCell ⟨gT, i * 2 + 1, none⟩ (.int .i64 (tr.c - va)) = W8 at hOt k8 ⊢
    replace hO8 : ∃ vt vo, OffOwn W8 W2.heap.size gO vt vo r := ⟨_, _, by rw [hr]; exact hOt⟩
    obtain ⟨vt, vo, hO8⟩ := hO8
    clear hr hOt hOs hOwn6 c0 ct cf u1 u2 u3 s0 s1 s2 s3 L1d L1e kt kd k7 k6 k5
    obtain ⟨A1, a1, A2, a2, rfl, rfl⟩ := hO8.form
    have cV := isOfficeValid_any (r.at A1 a1 A2 a2) gO W8 (OffOwn.at_ (y := r) hO8)
    rw [Oc.good_at] at cV
    cases hg : r.good
    · rw [hg] at cV
      have HN : Hid (stepD x.c ⟨4, st, 0, va⟩ = none) := by unfold Hid; rw [HR.out, Oc.fin, hg]; rfl
      clear hg
      go_wp2_with fail
      refine cV.mono ?_
      rintro e W9 ⟨rfl, hb9⟩
      have k9 := k8.trans (hb9.mono k8.size)
      clear hb9 cV
      have L2z := L2.below k9 L2.lt
      have z0 := L2z.cell 0
      have z1 := L2z.cell 1
      have z2 := L2z.cell 2
      have z3 := L2z.cell 3
      have z4 := L2z.cell 4
      have f0 := L2z.frozen 0
      have f1 := L2z.frozen 1
      have f2 := L2z.frozen 2
      have f3 := L2z.frozen 3
      have f4 := L2z.frozen 4
      simp only [List.getElem?_cons_zero, List.getElem?_cons_succ] at z0 z1 z2 z3 z4
      have hgr := grown_set (g := w.heap.size + 1) (i := 4) (u := .int .i64 0) (grown_set (g := w.heap.size + 1) (i := 3) (u := .int .i64 0) (grown_set (g := w.heap.size + 1) (i := 2) (u := .int .i64 0) (grown_set (g := w.heap.size + 1) (i := 1) (u := .slice none 0 0) (grown_set (g := w.heap.size + 1) (i := 0) (u := .slice none 0 0) (World.grownBy.refl W9 (some (w.heap.size + 1)))))))
      have bw := b2.trans (k9.mono b2.size)
      have bz := bw.grown hgr bw.size (by rintro _ ⟨⟩; omega)
      go_wp2
      rw [HN.out]
      refine bodyPost_ret (v := .tuple #[.agg #[.slice none 0 0, .slice none 0 0, .int .i64 0, .int .i64 0, .int .i64 0], .bool false]) (by simp [results, Try.results47, go_sem, *]) rfl (GivesStep.no rfl bz)
    · rw [hg] at cV
      have HN : Hid (stepD x.c ⟨4, st, 0, va⟩ = some r) := by unfold Hid; rw [HR.out, Oc.fin, hg]; rfl
      clear hg
      go_wp2_with fail
      refine cV.mono ?_
      rintro e W9 ⟨rfl, hb9⟩
      have k9 := k8.trans (hb9.mono k8.size)
      have hO9 := hO8.then hb9
      clear hb9 cV hO8
      have c0 := hO9.lies.cell 0
      have c1 := hO9.lies.cell 1
      have c2 := hO9.lies.cell 2
      have c3 := hO9.lies.cell 3
      have c4 := hO9.lies.cell 4
      simp only [List.getElem?_cons_zero, List.getElem?_cons_succ] at c0 c1 c2 c3 c4
      have L2z := L2.below k9 L2.lt
      have z0 := L2z.cell 0
      have z1 := L2z.cell 1
      have z2 := L2z.cell 2
      have z3 := L2z.cell 3
      have z4 := L2z.cell 4
      have f0 := L2z.frozen 0
      have f1 := L2z.frozen 1
      have f2 := L2z.frozen 2
      have f3 := L2z.frozen 3
      have f4 := L2z.frozen 4
      simp only [List.getElem?_cons_zero, List.getElem?_cons_succ] at z0 z1 z2 z3 z4
      have hgr := grown_set (g := w.heap.size + 1) (i := 4) (u := .int .i64 r.missed) (grown_set (g := w.heap.size + 1) (i := 3) (u := .int .i64 r.sold) (grown_set (g := w.heap.size + 1) (i := 2) (u := .int .i64 r.got) (grown_set (g := w.heap.size + 1) (i := 1) (u := .slice A2 r.o.length a2) (grown_set (g := w.heap.size + 1) (i := 0) (u := .slice A1 r.t.length a1) (World.grownBy.refl W9 (some (w.heap.size + 1)))))))
      have bw := b2.trans (k9.mono b2.size)
      have bz := bw.grown hgr bw.size (by rintro _ ⟨⟩; omega)
      have r8 := ownsRow_lower (ownsRow_keptG hO9.t L2z ne_TO hgr) b2.size
      have r9 := ownsRow_lower (ownsRow_keptG hO9.o L2z ne_OO hgr) b2.size
      have R8 := Lib.hid r8; clear r8
      have R9 := Lib.hid r9; clear r9
      clear hgr hO9
      go_wp2
      rw [HN.out]
      refine bodyPost_ret (v := .tuple #[.agg #[.slice A1 r.t.length a1, .slice A2 r.o.length a2, .int .i64 r.got, .int .i64 r.sold, .int .i64 r.missed], .bool true]) (by simp [results, Try.results47, go_sem, *]) rfl ?_
      exact GivesStep.yes rfl R8.out R9.out bz
end Go.Proofs.Ytdiojhjkcholiaa

/- Steps of an office in the program: stamps are missed. (Printed by gen_step.py) -/
namespace Go.Proofs.Ytdiojhjkcholiaa
open Go.RowKit

set_option maxRecDepth 100000 in
set_option maxHeartbeats 1500000 in
/-- Miss. -/
theorem step_miss (x : Off) (g : Nat) (st pe va : Int) (w : World) (h : OffAt w w.heap.size g x) (G : Good x) (i : Nat) (hi : i < x.t.length) (hI : trayIx x.t st = i) (hpe : 1 ≤ pe ∧ pe ≤ 999) (hn1 : outAt st pe x.o ≠ 0) :
    Calls Try.prog 47 #[.pointer (some ⟨g, 0, none⟩), .agg #[.int .i64 5, .int .i64 st, .int .i64 pe, .int .i64 va]] w (GivesStep w (stepD x.c ⟨5, st, pe, va⟩)) := by
  obtain ⟨r, hr⟩ : ∃ r : Oc, r = ⟨x.t, chgO st pe (-outAt st pe x.o) x.o, x.got, x.sold, x.missed + outAt st pe x.o⟩ := ⟨_, rfl⟩
  have HR : Hid (stepD x.c ⟨5, st, pe, va⟩ = Oc.fin r) := by
    unfold Hid stepD
    rw [if_neg (by simp)]
    rw [if_neg (by show ¬ ¬ 0 ≤ trayIx x.t st; rw [hI]; omega)]
    rw [if_neg (by simp)]
    rw [if_neg (by show ¬ (outAt st pe x.o = 0 ∧ 0 < pe); omega)]
    rw [if_neg (by simp)]
    rw [if_neg (by simp)]
    rw [if_pos rfl]
    rw [hr]
    rfl
  have hNb := G.at_bd st pe
  have hasc := G.asc
  have hoc := G.oc
  have hz0 : (0 : Int) ≤ (i : Int) := by omega
  obtain ⟨hpe1, hpe2⟩ := hpe
  have L1 := (Lies.new w 45 #[.int .i64 5, .int .i64 st, .int .i64 pe, .int .i64 va]).alloc (.cells #[.slice none 0 0, .slice none 0 0, .int .i64 0, .int .i64 0, .int .i64 0] 25)
  have L2 := Lies.new1 w (.cells #[.int .i64 5, .int .i64 st, .int .i64 pe, .int .i64 va] 45) 25 #[.slice none 0 0, .slice none 0 0, .int .i64 0, .int .i64 0, .int .i64 0]
  have b1 := (Below.refl w.heap.size w).alloc (Nat.le_refl _) (.cells #[.int .i64 5, .int .i64 st, .int .i64 pe, .int .i64 va] 45)
  have b2 := b1.alloc b1.size (.cells #[.slice none 0 0, .slice none 0 0, .int .i64 0, .int .i64 0, .int .i64 0] 25)
  have hA := h.then b2 b2.size
  have tl := G.tl
  have ol := G.ol
  clear b1
  go_enter Try.func47, Try.ntmps47
  go_wp2_with fail
  generalize ((w.alloc (.cells #[.int .i64 5, .int .i64 st, .int .i64 pe, .int .i64 va] 45)).alloc (.cells #[.slice none 0 0, .slice none 0 0, .int .i64 0, .int .i64 0, .int .i64 0] 25)) = W2 at L1 L2 b2 hA ⊢
  refine (copyOffice_val x g W2 hA (by omega) (by omega)).mono ?_
  rintro e W3 ⟨TA, tc, OA, oc, rfl, hT, hO, k3⟩
  obtain ⟨gT, cT, _, hvt, _, _, _⟩ := ownsRow_at hT (by omega)
  injection hvt with e1 e2 e3
  subst e1; subst e3
  have hal := (Below.refl W3.heap.size W3).alloc (Nat.le_refl _) (.cells #[.slice (some ⟨gT, 0, none⟩) x.t.length tc, .slice OA x.o.length oc, .int .i64 x.got, .int .i64 x.sold, .int .i64 x.missed] 25)
  have hOwn : OffOwn (W3.alloc (.cells #[.slice (some ⟨gT, 0, none⟩) x.t.length tc, .slice OA x.o.length oc, .int .i64 x.got, .int .i64 x.sold, .int .i64 x.missed] 25)) W2.heap.size W3.heap.size _ _ x.c := ⟨Lies.new W3 25 #[.slice (some ⟨gT, 0, none⟩) x.t.length tc, .slice OA x.o.length oc, .int .i64 x.got, .int .i64 x.sold, .int .i64 x.missed], k3.size, ownsRow_below hT hal, ownsRow_below hO hal⟩
  have k4 := k3.trans (hal.mono k3.size)
  have s0 := (L1.below k4 L1.lt).cell 0
  have s1 := (L1.below k4 L1.lt).cell 1
  simp only [List.getElem?_cons_zero, List.getElem?_cons_succ] at s0 s1
  have hgO : w.heap.size + 1 < W3.heap.size := Nat.lt_of_lt_of_le L2.lt k3.size
  clear hT hO k3
  go_wp2_with fail
  clear s0 s1 hal
  generalize W3.alloc (.cells #[.slice (some ⟨gT, 0, none⟩) x.t.length tc, .slice OA x.o.length oc, .int .i64 x.got, .int .i64 x.sold, .int .i64 x.missed] 25) = W4 at hOwn k4 ⊢
  generalize W3.heap.size = gO at hOwn hgO ⊢
  refine (trayAt_any (x.c.at (some ⟨gT, 0, none⟩) tc OA oc) gO st W4 (OffOwn.at_ (y := x.c) hOwn)).mono ?_
  rintro e W5 ⟨rfl, hb5⟩
  have hOwn5 := hOwn.then hb5
  have k5 := k4.trans (hb5.mono k4.size)
  rw [show trayIx (x.c.at (some ⟨gT, 0, none⟩) tc OA oc).t st = trayIx x.t st from rfl, hI]
  have L1c := L1.below k5 L1.lt
  have hA5 := hA.then k5 k5.size
  have hmf : ∀ (fn : Fn) (first cap : Array Value) (w : World), (Instr.makeFunc fn first cap).run Try.prog w = .ok (.func fn first cap) w := fun _ _ _ _ => rfl
  go_wp2_with fail
  refine (stampsFn_val (B := 0) L1c hA5 G (Nat.zero_le _)).mono ?_
  rintro e W6 ⟨rfl, hb6⟩
  have hOwn6 := hOwn5.then hb6
  have k6 := k5.trans (hb6.mono k5.size)
  have L1d := L1.below k6 L1.lt
  have s0 := L1d.cell 0
  have s1 := L1d.cell 1
  have s2 := L1d.cell 2
  have s3 := L1d.cell 3
  simp only [List.getElem?_cons_zero, List.getElem?_cons_succ] at s0 s1 s2 s3
  clear L1c hA5 hOwn5 hOwn hb5 hb6 k4
  generalize outAt st pe x.o = N at *
  obtain ⟨hNb1, hNb2⟩ := hNb
  have c0 := hOwn6.lies.cell 0
  simp only [List.getElem?_cons_zero] at c0
  have hn0 : (N == 0) = false := by simp; omega
  have d3 : W6.cell? ⟨gO, 3, none⟩ = some (.int .i64 x.sold) := hOwn6.lies.cell 3
  have d4 : W6.cell? ⟨gO, 4, none⟩ = some (.int .i64 x.missed) := hOwn6.lies.cell 4
  have d3f := hOwn6.lies.frozen 3
  have d4f := hOwn6.lies.frozen 4
  have hneO : ¬ gO = w.heap.size := by omega
  have hneO' : ¬ w.heap.size = gO := by omega
  have hgs := G.s
  have hgm := G.m
  have hgg := G.g
  obtain ⟨hgs1, hgs2⟩ := hgs
  obtain ⟨hgm1, hgm2⟩ := hgm
  obtain ⟨hgg1, hgg2⟩ := hgg
  have hOt := (hOwn6.setN (x.missed + N)).2.2
  have k7 := k6.trans (hOwn6.belowN 4 (.int .i64 (x.missed + N)))
  go_wp2_with fail
  generalize W6.setCell ⟨gO, 4, none⟩ (.int .i64 (x.missed + N)) = W7 at hOt k7 ⊢
  have cC := change_any W2.heap.size gO _ _ ⟨x.t, x.o, x.got, x.sold, x.missed + N⟩ st pe (-N) W7 hOt k7.size (by exact hasc) (by show x.o.length ≤ 100000; omega) (by exact hoc) (by omega)
  refine cC.mono ?_
  rintro e W8 ⟨vo', rfl, hO8, hb8⟩
  have k8 := k7.trans hb8
  clear hb8 cC
  replace hO8 : ∃ vt, OffOwn W8 W2.heap.size gO vt vo' r := ⟨_, by rw [hr]; exact hO8⟩
  obtain ⟨vt, hO8⟩ := hO8
  clear hr
  clear hOt hOwn6 c0 d3 d4 d3f d4f s0 s1 s2 s3 L1d k7 k6 k5
  obtain ⟨A1, a1, A2, a2, rfl, rfl⟩ := hO8.form
  have cV := isOfficeValid_any (r.at A1 a1 A2 a2) gO W8 (OffOwn.at_ (y := r) hO8)
  rw [Oc.good_at] at cV
  cases hg : r.good
  · rw [hg] at cV
    have HN : Hid (stepD x.c ⟨5, st, pe, va⟩ = none) := by unfold Hid; rw [HR.out, Oc.fin, hg]; rfl
    clear hg
    go_wp2_with fail
    refine cV.mono ?_
    rintro e W9 ⟨rfl, hb9⟩
    have k9 := k8.trans (hb9.mono k8.size)
    clear hb9 cV
    have L2z := L2.below k9 L2.lt
    have z0 := L2z.cell 0
    have z1 := L2z.cell 1
    have z2 := L2z.cell 2
    have z3 := L2z.cell 3
    have z4 := L2z.cell 4
    have f0 := L2z.frozen 0
    have f1 := L2z.frozen 1
    have f2 := L2z.frozen 2
    have f3 := L2z.frozen 3
    have f4 := L2z.frozen 4
    simp only [List.getElem?_cons_zero, List.getElem?_cons_succ] at z0 z1 z2 z3 z4
    have hgr := grown_set (g := w.heap.size + 1) (i := 4) (u := .int .i64 0) (grown_set (g := w.heap.size + 1) (i := 3) (u := .int .i64 0) (grown_set (g := w.heap.size + 1) (i := 2) (u := .int .i64 0) (grown_set (g := w.heap.size + 1) (i := 1) (u := .slice none 0 0) (grown_set (g := w.heap.size + 1) (i := 0) (u := .slice none 0 0) (World.grownBy.refl W9 (some (w.heap.size + 1)))))))
    have bw := b2.trans (k9.mono b2.size)
    have bz := bw.grown hgr bw.size (by rintro _ ⟨⟩; omega)
    go_wp2
    rw [HN.out]
    refine bodyPost_ret (v := .tuple #[.agg #[.slice none 0 0, .slice none 0 0, .int .i64 0, .int .i64 0, .int .i64 0], .bool false]) (by simp [results, Try.results47, go_sem, *]) rfl (GivesStep.no rfl bz)
  · rw [hg] at cV
    have HN : Hid (stepD x.c ⟨5, st, pe, va⟩ = some r) := by unfold Hid; rw [HR.out, Oc.fin, hg]; rfl
    clear hg
    go_wp2_with fail
    refine cV.mono ?_
    rintro e W9 ⟨rfl, hb9⟩
    have k9 := k8.trans (hb9.mono k8.size)
    have hO9 := hO8.then hb9
    clear hb9 cV hO8
    have c0 := hO9.lies.cell 0
    have c1 := hO9.lies.cell 1
    have c2 := hO9.lies.cell 2
    have c3 := hO9.lies.cell 3
    have c4 := hO9.lies.cell 4
    simp only [List.getElem?_cons_zero, List.getElem?_cons_succ] at c0 c1 c2 c3 c4
    have L2z := L2.below k9 L2.lt
    have z0 := L2z.cell 0
    have z1 := L2z.cell 1
    have z2 := L2z.cell 2
    have z3 := L2z.cell 3
    have z4 := L2z.cell 4
    have f0 := L2z.frozen 0
    have f1 := L2z.frozen 1
    have f2 := L2z.frozen 2
    have f3 := L2z.frozen 3
    have f4 := L2z.frozen 4
    simp only [List.getElem?_cons_zero, List.getElem?_cons_succ] at z0 z1 z2 z3 z4
    have hgr := grown_set (g := w.heap.size + 1) (i := 4) (u := .int .i64 r.missed) (grown_set (g := w.heap.size + 1) (i := 3) (u := .int .i64 r.sold) (grown_set (g := w.heap.size + 1) (i := 2) (u := .int .i64 r.got) (grown_set (g := w.heap.size + 1) (i := 1) (u := .slice A2 r.o.length a2) (grown_set (g := w.heap.size + 1) (i := 0) (u := .slice A1 r.t.length a1) (World.grownBy.refl W9 (some (w.heap.size + 1)))))))
    have bw := b2.trans (k9.mono b2.size)
    have bz := bw.grown hgr bw.size (by rintro _ ⟨⟩; omega)
    have r8 := ownsRow_lower (ownsRow_keptG hO9.t L2z ne_TO hgr) b2.size
    have r9 := ownsRow_lower (ownsRow_keptG hO9.o L2z ne_OO hgr) b2.size
    have R8 := Lib.hid r8; clear r8
    have R9 := Lib.hid r9; clear r9
    clear hgr hO9
    go_wp2
    rw [HN.out]
    refine bodyPost_ret (v := .tuple #[.agg #[.slice A1 r.t.length a1, .slice A2 r.o.length a2, .int .i64 r.got, .int .i64 r.sold, .int .i64 r.missed], .bool true]) (by simp [results, Try.results47, go_sem, *]) rfl ?_
    exact GivesStep.yes rfl R8.out R9.out bz
end Go.Proofs.Ytdiojhjkcholiaa

/- Steps of an office in the program: stamps at a person are sold. (Printed by gen_step.py) -/
namespace Go.Proofs.Ytdiojhjkcholiaa
open Go.RowKit

set_option maxRecDepth 100000 in
set_option maxHeartbeats 1500000 in
/-- Sell. -/
theorem step_sell (x : Off) (g : Nat) (st pe va : Int) (w : World) (h : OffAt w w.heap.size g x) (G : Good x) (i : Nat) (hi : i < x.t.length) (hI : trayIx x.t st = i) (hpe : 1 ≤ pe ∧ pe ≤ 999) (hva : 1 ≤ va ∧ va ≤ 9999) (hn1 : outAt st pe x.o ≠ 0) :
    Calls Try.prog 47 #[.pointer (some ⟨g, 0, none⟩), .agg #[.int .i64 4, .int .i64 st, .int .i64 pe, .int .i64 va]] w (GivesStep w (stepD x.c ⟨4, st, pe, va⟩)) := by
  obtain ⟨r, hr⟩ : ∃ r : Oc, r = ⟨x.t, chgO st pe (-va) x.o, x.got, x.sold + va, x.missed⟩ := ⟨_, rfl⟩
  have HR : Hid (stepD x.c ⟨4, st, pe, va⟩ = Oc.fin r) := by
    unfold Hid stepD
    rw [if_neg (by simp)]
    rw [if_neg (by show ¬ ¬ 0 ≤ trayIx x.t st; rw [hI]; omega)]
    rw [if_neg (by simp)]
    rw [if_neg (by show ¬ (outAt st pe x.o = 0 ∧ 0 < pe); omega)]
    rw [if_neg (by simp)]
    rw [if_pos rfl, if_neg (by show ¬ pe = 0; omega)]
    rw [hr]
    rfl
  have hNb := G.at_bd st pe
  have hasc := G.asc
  have hoc := G.oc
  have hz0 : (0 : Int) ≤ (i : Int) := by omega
  obtain ⟨hpe1, hpe2⟩ := hpe
  obtain ⟨hva1, hva2⟩ := hva
  have hp0 : (pe == 0) = false := by simp; omega
  have L1 := (Lies.new w 45 #[.int .i64 4, .int .i64 st, .int .i64 pe, .int .i64 va]).alloc (.cells #[.slice none 0 0, .slice none 0 0, .int .i64 0, .int .i64 0, .int .i64 0] 25)
  have L2 := Lies.new1 w (.cells #[.int .i64 4, .int .i64 st, .int .i64 pe, .int .i64 va] 45) 25 #[.slice none 0 0, .slice none 0 0, .int .i64 0, .int .i64 0, .int .i64 0]
  have b1 := (Below.refl w.heap.size w).alloc (Nat.le_refl _) (.cells #[.int .i64 4, .int .i64 st, .int .i64 pe, .int .i64 va] 45)
  have b2 := b1.alloc b1.size (.cells #[.slice none 0 0, .slice none 0 0, .int .i64 0, .int .i64 0, .int .i64 0] 25)
  have hA := h.then b2 b2.size
  have tl := G.tl
  have ol := G.ol
  clear b1
  go_enter Try.func47, Try.ntmps47
  go_wp2_with fail
  generalize ((w.alloc (.cells #[.int .i64 4, .int .i64 st, .int .i64 pe, .int .i64 va] 45)).alloc (.cells #[.slice none 0 0, .slice none 0 0, .int .i64 0, .int .i64 0, .int .i64 0] 25)) = W2 at L1 L2 b2 hA ⊢
  refine (copyOffice_val x g W2 hA (by omega) (by omega)).mono ?_
  rintro e W3 ⟨TA, tc, OA, oc, rfl, hT, hO, k3⟩
  obtain ⟨gT, cT, _, hvt, _, _, _⟩ := ownsRow_at hT (by omega)
  injection hvt with e1 e2 e3
  subst e1; subst e3
  have hal := (Below.refl W3.heap.size W3).alloc (Nat.le_refl _) (.cells #[.slice (some ⟨gT, 0, none⟩) x.t.length tc, .slice OA x.o.length oc, .int .i64 x.got, .int .i64 x.sold, .int .i64 x.missed] 25)
  have hOwn : OffOwn (W3.alloc (.cells #[.slice (some ⟨gT, 0, none⟩) x.t.length tc, .slice OA x.o.length oc, .int .i64 x.got, .int .i64 x.sold, .int .i64 x.missed] 25)) W2.heap.size W3.heap.size _ _ x.c := ⟨Lies.new W3 25 #[.slice (some ⟨gT, 0, none⟩) x.t.length tc, .slice OA x.o.length oc, .int .i64 x.got, .int .i64 x.sold, .int .i64 x.missed], k3.size, ownsRow_below hT hal, ownsRow_below hO hal⟩
  have k4 := k3.trans (hal.mono k3.size)
  have s0 := (L1.below k4 L1.lt).cell 0
  have s1 := (L1.below k4 L1.lt).cell 1
  simp only [List.getElem?_cons_zero, List.getElem?_cons_succ] at s0 s1
  have hgO : w.heap.size + 1 < W3.heap.size := Nat.lt_of_lt_of_le L2.lt k3.size
  clear hT hO k3
  go_wp2_with fail
  clear s0 s1 hal
  generalize W3.alloc (.cells #[.slice (some ⟨gT, 0, none⟩) x.t.length tc, .slice OA x.o.length oc, .int .i64 x.got, .int .i64 x.sold, .int .i64 x.missed] 25) = W4 at hOwn k4 ⊢
  generalize W3.heap.size = gO at hOwn hgO ⊢
  refine (trayAt_any (x.c.at (some ⟨gT, 0, none⟩) tc OA oc) gO st W4 (OffOwn.at_ (y := x.c) hOwn)).mono ?_
  rintro e W5 ⟨rfl, hb5⟩
  have hOwn5 := hOwn.then hb5
  have k5 := k4.trans (hb5.mono k4.size)
  rw [show trayIx (x.c.at (some ⟨gT, 0, none⟩) tc OA oc).t st = trayIx x.t st from rfl, hI]
  have L1c := L1.below k5 L1.lt
  have hA5 := hA.then k5 k5.size
  have hmf : ∀ (fn : Fn) (first cap : Array Value) (w : World), (Instr.makeFunc fn first cap).run Try.prog w = .ok (.func fn first cap) w := fun _ _ _ _ => rfl
  go_wp2_with fail
  refine (stampsFn_val (B := 0) L1c hA5 G (Nat.zero_le _)).mono ?_
  rintro e W6 ⟨rfl, hb6⟩
  have hOwn6 := hOwn5.then hb6
  have k6 := k5.trans (hb6.mono k5.size)
  have L1d := L1.below k6 L1.lt
  have s0 := L1d.cell 0
  have s1 := L1d.cell 1
  have s2 := L1d.cell 2
  have s3 := L1d.cell 3
  simp only [List.getElem?_cons_zero, List.getElem?_cons_succ] at s0 s1 s2 s3
  clear L1c hA5 hOwn5 hOwn hb5 hb6 k4
  generalize outAt st pe x.o = N at *
  obtain ⟨hNb1, hNb2⟩ := hNb
  have c0 := hOwn6.lies.cell 0
  simp only [List.getElem?_cons_zero] at c0
  have hn0 : (N == 0) = false := by simp; omega
  have d3 : W6.cell? ⟨gO, 3, none⟩ = some (.int .i64 x.sold) := hOwn6.lies.cell 3
  have d4 : W6.cell? ⟨gO, 4, none⟩ = some (.int .i64 x.missed) := hOwn6.lies.cell 4
  have d3f := hOwn6.lies.frozen 3
  have d4f := hOwn6.lies.frozen 4
  have hneO : ¬ gO = w.heap.size := by omega
  have hneO' : ¬ w.heap.size = gO := by omega
  have hgs := G.s
  have hgm := G.m
  have hgg := G.g
  obtain ⟨hgs1, hgs2⟩ := hgs
  obtain ⟨hgm1, hgm2⟩ := hgm
  obtain ⟨hgg1, hgg2⟩ := hgg
  have hOt := (hOwn6.setN (x.sold + va)).2.1
  have k7 := k6.trans (hOwn6.belowN 3 (.int .i64 (x.sold + va)))
  go_wp2_with fail
  generalize W6.setCell ⟨gO, 3, none⟩ (.int .i64 (x.sold + va)) = W7 at hOt k7 ⊢
  have cC := change_any W2.heap.size gO _ _ ⟨x.t, x.o, x.got, x.sold + va, x.missed⟩ st pe (-va) W7 hOt k7.size (by exact hasc) (by show x.o.length ≤ 100000; omega) (by exact hoc) (by omega)
  refine cC.mono ?_
  rintro e W8 ⟨vo', rfl, hO8, hb8⟩
  have k8 := k7.trans hb8
  clear hb8 cC
  replace hO8 : ∃ vt, OffOwn W8 W2.heap.size gO vt vo' r := ⟨_, by rw [hr]; exact hO8⟩
  obtain ⟨vt, hO8⟩ := hO8
  clear hr
  clear hOt hOwn6 c0 d3 d4 d3f d4f s0 s1 s2 s3 L1d k7 k6 k5
  obtain ⟨A1, a1, A2, a2, rfl, rfl⟩ := hO8.form
  have cV := isOfficeValid_any (r.at A1 a1 A2 a2) gO W8 (OffOwn.at_ (y := r) hO8)
  rw [Oc.good_at] at cV
  cases hg : r.good
  · rw [hg] at cV
    have HN : Hid (stepD x.c ⟨4, st, pe, va⟩ = none) := by unfold Hid; rw [HR.out, Oc.fin, hg]; rfl
    clear hg
    go_wp2_with fail
    refine cV.mono ?_
    rintro e W9 ⟨rfl, hb9⟩
    have k9 := k8.trans (hb9.mono k8.size)
    clear hb9 cV
    have L2z := L2.below k9 L2.lt
    have z0 := L2z.cell 0
    have z1 := L2z.cell 1
    have z2 := L2z.cell 2
    have z3 := L2z.cell 3
    have z4 := L2z.cell 4
    have f0 := L2z.frozen 0
    have f1 := L2z.frozen 1
    have f2 := L2z.frozen 2
    have f3 := L2z.frozen 3
    have f4 := L2z.frozen 4
    simp only [List.getElem?_cons_zero, List.getElem?_cons_succ] at z0 z1 z2 z3 z4
    have hgr := grown_set (g := w.heap.size + 1) (i := 4) (u := .int .i64 0) (grown_set (g := w.heap.size + 1) (i := 3) (u := .int .i64 0) (grown_set (g := w.heap.size + 1) (i := 2) (u := .int .i64 0) (grown_set (g := w.heap.size + 1) (i := 1) (u := .slice none 0 0) (grown_set (g := w.heap.size + 1) (i := 0) (u := .slice none 0 0) (World.grownBy.refl W9 (some (w.heap.size + 1)))))))
    have bw := b2.trans (k9.mono b2.size)
    have bz := bw.grown hgr bw.size (by rintro _ ⟨⟩; omega)
    go_wp2
    rw [HN.out]
    refine bodyPost_ret (v := .tuple #[.agg #[.slice none 0 0, .slice none 0 0, .int .i64 0, .int .i64 0, .int .i64 0], .bool false]) (by simp [results, Try.results47, go_sem, *]) rfl (GivesStep.no rfl bz)
  · rw [hg] at cV
    have HN : Hid (stepD x.c ⟨4, st, pe, va⟩ = some r) := by unfold Hid; rw [HR.out, Oc.fin, hg]; rfl
    clear hg
    go_wp2_with fail
    refine cV.mono ?_
    rintro e W9 ⟨rfl, hb9⟩
    have k9 := k8.trans (hb9.mono k8.size)
    have hO9 := hO8.then hb9
    clear hb9 cV hO8
    have c0 := hO9.lies.cell 0
    have c1 := hO9.lies.cell 1
    have c2 := hO9.lies.cell 2
    have c3 := hO9.lies.cell 3
    have c4 := hO9.lies.cell 4
    simp only [List.getElem?_cons_zero, List.getElem?_cons_succ] at c0 c1 c2 c3 c4
    have L2z := L2.below k9 L2.lt
    have z0 := L2z.cell 0
    have z1 := L2z.cell 1
    have z2 := L2z.cell 2
    have z3 := L2z.cell 3
    have z4 := L2z.cell 4
    have f0 := L2z.frozen 0
    have f1 := L2z.frozen 1
    have f2 := L2z.frozen 2
    have f3 := L2z.frozen 3
    have f4 := L2z.frozen 4
    simp only [List.getElem?_cons_zero, List.getElem?_cons_succ] at z0 z1 z2 z3 z4
    have hgr := grown_set (g := w.heap.size + 1) (i := 4) (u := .int .i64 r.missed) (grown_set (g := w.heap.size + 1) (i := 3) (u := .int .i64 r.sold) (grown_set (g := w.heap.size + 1) (i := 2) (u := .int .i64 r.got) (grown_set (g := w.heap.size + 1) (i := 1) (u := .slice A2 r.o.length a2) (grown_set (g := w.heap.size + 1) (i := 0) (u := .slice A1 r.t.length a1) (World.grownBy.refl W9 (some (w.heap.size + 1)))))))
    have bw := b2.trans (k9.mono b2.size)
    have bz := bw.grown hgr bw.size (by rintro _ ⟨⟩; omega)
    have r8 := ownsRow_lower (ownsRow_keptG hO9.t L2z ne_TO hgr) b2.size
    have r9 := ownsRow_lower (ownsRow_keptG hO9.o L2z ne_OO hgr) b2.size
    have R8 := Lib.hid r8; clear r8
    have R9 := Lib.hid r9; clear r9
    clear hgr hO9
    go_wp2
    rw [HN.out]
    refine bodyPost_ret (v := .tuple #[.agg #[.slice A1 r.t.length a1, .slice A2 r.o.length a2, .int .i64 r.got, .int .i64 r.sold, .int .i64 r.missed], .bool true]) (by simp [results, Try.results47, go_sem, *]) rfl ?_
    exact GivesStep.yes rfl R8.out R9.out bz
end Go.Proofs.Ytdiojhjkcholiaa

/- Steps of an office in the program: stamps come back. (Printed by gen_step.py) -/
namespace Go.Proofs.Ytdiojhjkcholiaa
open Go.RowKit

set_option maxRecDepth 100000 in
set_option maxHeartbeats 1500000 in
/-- Back. -/
theorem step_back (x : Off) (g : Nat) (st pe va : Int) (w : World) (h : OffAt w w.heap.size g x) (G : Good x) (i : Nat) (hi : i < x.t.length) (hI : trayIx x.t st = i) (hpe : 1 ≤ pe ∧ pe ≤ 999) (hva : 1 ≤ va ∧ va ≤ 9999) (hn1 : outAt st pe x.o ≠ 0) :
    Calls Try.prog 47 #[.pointer (some ⟨g, 0, none⟩), .agg #[.int .i64 3, .int .i64 st, .int .i64 pe, .int .i64 va]] w (GivesStep w (stepD x.c ⟨3, st, pe, va⟩)) := by
  obtain ⟨tr, htr⟩ : ∃ tr, x.c.t[i] = tr := ⟨_, rfl⟩
  obtain ⟨r, hr⟩ : ∃ r : Oc, r = ⟨x.t.set i ⟨tr.k, tr.c + va⟩, chgO st pe (-va) x.o, x.got, x.sold, x.missed⟩ := ⟨_, rfl⟩
  have HR : Hid (stepD x.c ⟨3, st, pe, va⟩ = Oc.fin r) := by
    unfold Hid stepD
    rw [if_neg (by simp)]
    rw [if_neg (by show ¬ ¬ 0 ≤ trayIx x.t st; rw [hI]; omega)]
    rw [if_neg (by simp)]
    rw [if_neg (by show ¬ (outAt st pe x.o = 0 ∧ 0 < pe); omega)]
    rw [if_pos rfl]
    rw [show inTrays x.c.t st (va) = x.t.set i ⟨tr.k, tr.c + va⟩ from by show inTrays x.t st _ = _; rw [inTrays_at hI hi, show x.t[i] = tr from htr]]
    rw [hr]
    rfl
  have hNb := G.at_bd st pe
  have hasc := G.asc
  have hoc := G.oc
  have hz0 : (0 : Int) ≤ (i : Int) := by omega
  have htb := (Tray.bounds (G.tall i hi)).2
  rw [show x.t[i] = tr from htr] at htb
  obtain ⟨htb1, htb2⟩ := htb
  obtain ⟨hpe1, hpe2⟩ := hpe
  obtain ⟨hva1, hva2⟩ := hva
  have L1 := (Lies.new w 45 #[.int .i64 3, .int .i64 st, .int .i64 pe, .int .i64 va]).alloc (.cells #[.slice none 0 0, .slice none 0 0, .int .i64 0, .int .i64 0, .int .i64 0] 25)
  have L2 := Lies.new1 w (.cells #[.int .i64 3, .int .i64 st, .int .i64 pe, .int .i64 va] 45) 25 #[.slice none 0 0, .slice none 0 0, .int .i64 0, .int .i64 0, .int .i64 0]
  have b1 := (Below.refl w.heap.size w).alloc (Nat.le_refl _) (.cells #[.int .i64 3, .int .i64 st, .int .i64 pe, .int .i64 va] 45)
  have b2 := b1.alloc b1.size (.cells #[.slice none 0 0, .slice none 0 0, .int .i64 0, .int .i64 0, .int .i64 0] 25)
  have hA := h.then b2 b2.size
  have tl := G.tl
  have ol := G.ol
  clear b1
  go_enter Try.func47, Try.ntmps47
  go_wp2_with fail
  generalize ((w.alloc (.cells #[.int .i64 3, .int .i64 st, .int .i64 pe, .int .i64 va] 45)).alloc (.cells #[.slice none 0 0, .slice none 0 0, .int .i64 0, .int .i64 0, .int .i64 0] 25)) = W2 at L1 L2 b2 hA ⊢
  refine (copyOffice_val x g W2 hA (by omega) (by omega)).mono ?_
  rintro e W3 ⟨TA, tc, OA, oc, rfl, hT, hO, k3⟩
  obtain ⟨gT, cT, _, hvt, _, _, _⟩ := ownsRow_at hT (by omega)
  injection hvt with e1 e2 e3
  subst e1; subst e3
  have hal := (Below.refl W3.heap.size W3).alloc (Nat.le_refl _) (.cells #[.slice (some ⟨gT, 0, none⟩) x.t.length tc, .slice OA x.o.length oc, .int .i64 x.got, .int .i64 x.sold, .int .i64 x.missed] 25)
  have hOwn : OffOwn (W3.alloc (.cells #[.slice (some ⟨gT, 0, none⟩) x.t.length tc, .slice OA x.o.length oc, .int .i64 x.got, .int .i64 x.sold, .int .i64 x.missed] 25)) W2.heap.size W3.heap.size _ _ x.c := ⟨Lies.new W3 25 #[.slice (some ⟨gT, 0, none⟩) x.t.length tc, .slice OA x.o.length oc, .int .i64 x.got, .int .i64 x.sold, .int .i64 x.missed], k3.size, ownsRow_below hT hal, ownsRow_below hO hal⟩
  have k4 := k3.trans (hal.mono k3.size)
  have s0 := (L1.below k4 L1.lt).cell 0
  have s1 := (L1.below k4 L1.lt).cell 1
  simp only [List.getElem?_cons_zero, List.getElem?_cons_succ] at s0 s1
  have hgO : w.heap.size + 1 < W3.heap.size := Nat.lt_of_lt_of_le L2.lt k3.size
  clear hT hO k3
  go_wp2_with fail
  clear s0 s1 hal
  generalize W3.alloc (.cells #[.slice (some ⟨gT, 0, none⟩) x.t.length tc, .slice OA x.o.length oc, .int .i64 x.got, .int .i64 x.sold, .int .i64 x.missed] 25) = W4 at hOwn k4 ⊢
  generalize W3.heap.size = gO at hOwn hgO ⊢
  refine (trayAt_any (x.c.at (some ⟨gT, 0, none⟩) tc OA oc) gO st W4 (OffOwn.at_ (y := x.c) hOwn)).mono ?_
  rintro e W5 ⟨rfl, hb5⟩
  have hOwn5 := hOwn.then hb5
  have k5 := k4.trans (hb5.mono k4.size)
  rw [show trayIx (x.c.at (some ⟨gT, 0, none⟩) tc OA oc).t st = trayIx x.t st from rfl, hI]
  have L1c := L1.below k5 L1.lt
  have hA5 := hA.then k5 k5.size
  have hmf : ∀ (fn : Fn) (first cap : Array Value) (w : World), (Instr.makeFunc fn first cap).run Try.prog w = .ok (.func fn first cap) w := fun _ _ _ _ => rfl
  go_wp2_with fail
  refine (stampsFn_val (B := 0) L1c hA5 G (Nat.zero_le _)).mono ?_
  rintro e W6 ⟨rfl, hb6⟩
  have hOwn6 := hOwn5.then hb6
  have k6 := k5.trans (hb6.mono k5.size)
  have L1d := L1.below k6 L1.lt
  have s0 := L1d.cell 0
  have s1 := L1d.cell 1
  have s2 := L1d.cell 2
  have s3 := L1d.cell 3
  simp only [List.getElem?_cons_zero, List.getElem?_cons_succ] at s0 s1 s2 s3
  clear L1c hA5 hOwn5 hOwn hb5 hb6 k4
  generalize outAt st pe x.o = N at *
  obtain ⟨hNb1, hNb2⟩ := hNb
  have c0 := hOwn6.lies.cell 0
  simp only [List.getElem?_cons_zero] at c0
  have hn0 : (N == 0) = false := by simp; omega
  go_wp2
  obtain ⟨hOt, kt, ct, cf⟩ := OffOwn.setT' (y := x.c) (hOwn6.then (Below.refl _ _).drew) hi tr htr (tr.c + va)
  have kd := k6.drew
  have L1e := L1.below kd L1.lt
  have u1 := L1e.cell 1
  have u2 := L1e.cell 2
  have u3 := L1e.cell 3
  simp only [List.getElem?_cons_zero, List.getElem?_cons_succ] at u1 u2 u3
  go_still_tail 9, (by kernel_rfl)
  change wpList _ _ _ _ _ W6.drew
  generalize W6.drew = Wd at hOt kt ct cf kd L1e u1 u2 u3 ⊢
  have k7 := kd.trans kt
  have hneT : ¬ gT = w.heap.size := fun e => by have := (hOt.t.lt gT rfl).1; have := L1.lt; omega
  have hneT' : ¬ w.heap.size = gT := fun e => hneT e.symm
  go_wp2_with fail
  generalize Wd.setCell ⟨gT, i * 2 + 1, none⟩ (.int .i64 (tr.c + va)) = W7 at hOt k7 ⊢
  have cC := change_any W2.heap.size gO _ _ ⟨x.t.set i ⟨tr.k, tr.c + va⟩, x.o, x.got, x.sold, x.missed⟩ st pe (-va) W7 hOt k7.size (by exact hasc) (by show x.o.length ≤ 100000; omega) (by exact hoc) (by omega)
  refine cC.mono ?_
  rintro e W8 ⟨vo', rfl, hO8, hb8⟩
  have k8 := k7.trans hb8
  clear hb8 cC
  replace hO8 : ∃ vt, OffOwn W8 W2.heap.size gO vt vo' r := ⟨_, by rw [hr]; exact hO8⟩
  obtain ⟨vt, hO8⟩ := hO8
  clear hr
  clear hOt hOwn6 c0 ct cf u1 u2 u3 s0 s1 s2 s3 L1d L1e kt kd k7 k6 k5
  obtain ⟨A1, a1, A2, a2, rfl, rfl⟩ := hO8.form
  have cV := isOfficeValid_any (r.at A1 a1 A2 a2) gO W8 (OffOwn.at_ (y := r) hO8)
  rw [Oc.good_at] at cV
  cases hg : r.good
  · rw [hg] at cV
    have HN : Hid (stepD x.c ⟨3, st, pe, va⟩ = none) := by unfold Hid; rw [HR.out, Oc.fin, hg]; rfl
    clear hg
    go_wp2_with fail
    refine cV.mono ?_
    rintro e W9 ⟨rfl, hb9⟩
    have k9 := k8.trans (hb9.mono k8.size)
    clear hb9 cV
    have L2z := L2.below k9 L2.lt
    have z0 := L2z.cell 0
    have z1 := L2z.cell 1
    have z2 := L2z.cell 2
    have z3 := L2z.cell 3
    have z4 := L2z.cell 4
    have f0 := L2z.frozen 0
    have f1 := L2z.frozen 1
    have f2 := L2z.frozen 2
    have f3 := L2z.frozen 3
    have f4 := L2z.frozen 4
    simp only [List.getElem?_cons_zero, List.getElem?_cons_succ] at z0 z1 z2 z3 z4
    have hgr := grown_set (g := w.heap.size + 1) (i := 4) (u := .int .i64 0) (grown_set (g := w.heap.size + 1) (i := 3) (u := .int .i64 0) (grown_set (g := w.heap.size + 1) (i := 2) (u := .int .i64 0) (grown_set (g := w.heap.size + 1) (i := 1) (u := .slice none 0 0) (grown_set (g := w.heap.size + 1) (i := 0) (u := .slice none 0 0) (World.grownBy.refl W9 (some (w.heap.size + 1)))))))
    have bw := b2.trans (k9.mono b2.size)
    have bz := bw.grown hgr bw.size (by rintro _ ⟨⟩; omega)
    go_wp2
    rw [HN.out]
    refine bodyPost_ret (v := .tuple #[.agg #[.slice none 0 0, .slice none 0 0, .int .i64 0, .int .i64 0, .int .i64 0], .bool false]) (by simp [results, Try.results47, go_sem, *]) rfl (GivesStep.no rfl bz)
  · rw [hg] at cV
    have HN : Hid (stepD x.c ⟨3, st, pe, va⟩ = some r) := by unfold Hid; rw [HR.out, Oc.fin, hg]; rfl
    clear hg
    go_wp2_with fail
    refine cV.mono ?_
    rintro e W9 ⟨rfl, hb9⟩
    have k9 := k8.trans (hb9.mono k8.size)
    have hO9 := hO8.then hb9
    clear hb9 cV hO8
    have c0 := hO9.lies.cell 0
    have c1 := hO9.lies.cell 1
    have c2 := hO9.lies.cell 2
    have c3 := hO9.lies.cell 3
    have c4 := hO9.lies.cell 4
    simp only [List.getElem?_cons_zero, List.getElem?_cons_succ] at c0 c1 c2 c3 c4
    have L2z := L2.below k9 L2.lt
    have z0 := L2z.cell 0
    have z1 := L2z.cell 1
    have z2 := L2z.cell 2
    have z3 := L2z.cell 3
    have z4 := L2z.cell 4
    have f0 := L2z.frozen 0
    have f1 := L2z.frozen 1
    have f2 := L2z.frozen 2
    have f3 := L2z.frozen 3
    have f4 := L2z.frozen 4
    simp only [List.getElem?_cons_zero, List.getElem?_cons_succ] at z0 z1 z2 z3 z4
    have hgr := grown_set (g := w.heap.size + 1) (i := 4) (u := .int .i64 r.missed) (grown_set (g := w.heap.size + 1) (i := 3) (u := .int .i64 r.sold) (grown_set (g := w.heap.size + 1) (i := 2) (u := .int .i64 r.got) (grown_set (g := w.heap.size + 1) (i := 1) (u := .slice A2 r.o.length a2) (grown_set (g := w.heap.size + 1) (i := 0) (u := .slice A1 r.t.length a1) (World.grownBy.refl W9 (some (w.heap.size + 1)))))))
    have bw := b2.trans (k9.mono b2.size)
    have bz := bw.grown hgr bw.size (by rintro _ ⟨⟩; omega)
    have r8 := ownsRow_lower (ownsRow_keptG hO9.t L2z ne_TO hgr) b2.size
    have r9 := ownsRow_lower (ownsRow_keptG hO9.o L2z ne_OO hgr) b2.size
    have R8 := Lib.hid r8; clear r8
    have R9 := Lib.hid r9; clear r9
    clear hgr hO9
    go_wp2
    rw [HN.out]
    refine bodyPost_ret (v := .tuple #[.agg #[.slice A1 r.t.length a1, .slice A2 r.o.length a2, .int .i64 r.got, .int .i64 r.sold, .int .i64 r.missed], .bool true]) (by simp [results, Try.results47, go_sem, *]) rfl ?_
    exact GivesStep.yes rfl R8.out R9.out bz
end Go.Proofs.Ytdiojhjkcholiaa

/- Steps of an office in the program: stamps are shown. (Printed by gen_step.py) -/
namespace Go.Proofs.Ytdiojhjkcholiaa
open Go.RowKit

set_option maxRecDepth 100000 in
set_option maxHeartbeats 1500000 in
/-- Show. -/
theorem step_show (x : Off) (g : Nat) (st pe va : Int) (w : World) (h : OffAt w w.heap.size g x) (G : Good x) (i : Nat) (hi : i < x.t.length) (hI : trayIx x.t st = i) (hpe : 1 ≤ pe ∧ pe ≤ 999) (hva : 1 ≤ va ∧ va ≤ 9999) :
    Calls Try.prog 47 #[.pointer (some ⟨g, 0, none⟩), .agg #[.int .i64 2, .int .i64 st, .int .i64 pe, .int .i64 va]] w (GivesStep w (stepD x.c ⟨2, st, pe, va⟩)) := by
  obtain ⟨tr, htr⟩ : ∃ tr, x.c.t[i] = tr := ⟨_, rfl⟩
  obtain ⟨r, hr⟩ : ∃ r : Oc, r = ⟨x.t.set i ⟨tr.k, tr.c - va⟩, chgO st pe va x.o, x.got, x.sold, x.missed⟩ := ⟨_, rfl⟩
  have HR : Hid (stepD x.c ⟨2, st, pe, va⟩ = Oc.fin r) := by
    unfold Hid stepD
    rw [if_neg (by simp), if_neg (by show ¬ ¬ 0 ≤ trayIx x.t st; rw [hI]; omega), if_pos rfl, hr]
    show Oc.fin { x.c with t := inTrays x.t st (-va), o := chgO st pe va x.o } = _
    rw [inTrays_at hI hi, show x.t[i] = tr from htr, ← Int.sub_eq_add_neg]
    rfl
  have hNb := G.at_bd st pe
  have hasc := G.asc
  have hoc := G.oc
  have htb := (Tray.bounds (G.tall i hi)).2
  rw [show x.t[i] = tr from htr] at htb
  obtain ⟨hpe1, hpe2⟩ := hpe
  obtain ⟨hva1, hva2⟩ := hva
  obtain ⟨htb1, htb2⟩ := htb
  have hz0 : (0 : Int) ≤ (i : Int) := by omega
  have L1 := (Lies.new w 45 #[.int .i64 2, .int .i64 st, .int .i64 pe, .int .i64 va]).alloc (.cells #[.slice none 0 0, .slice none 0 0, .int .i64 0, .int .i64 0, .int .i64 0] 25)
  have L2 := Lies.new1 w (.cells #[.int .i64 2, .int .i64 st, .int .i64 pe, .int .i64 va] 45) 25 #[.slice none 0 0, .slice none 0 0, .int .i64 0, .int .i64 0, .int .i64 0]
  have b1 := (Below.refl w.heap.size w).alloc (Nat.le_refl _) (.cells #[.int .i64 2, .int .i64 st, .int .i64 pe, .int .i64 va] 45)
  have b2 := b1.alloc b1.size (.cells #[.slice none 0 0, .slice none 0 0, .int .i64 0, .int .i64 0, .int .i64 0] 25)
  have hA := h.then b2 b2.size
  have tl := G.tl
  have ol := G.ol
  clear b1
  go_enter Try.func47, Try.ntmps47
  go_wp2_with fail
  generalize ((w.alloc (.cells #[.int .i64 2, .int .i64 st, .int .i64 pe, .int .i64 va] 45)).alloc (.cells #[.slice none 0 0, .slice none 0 0, .int .i64 0, .int .i64 0, .int .i64 0] 25)) = W2 at L1 L2 b2 hA ⊢
  refine (copyOffice_val x g W2 hA (by omega) (by omega)).mono ?_
  rintro e W3 ⟨TA, tc, OA, oc, rfl, hT, hO, k3⟩
  obtain ⟨gT, cT, _, hvt, _, _, _⟩ := ownsRow_at hT (by omega)
  injection hvt with e1 e2 e3
  subst e1; subst e3
  have hal := (Below.refl W3.heap.size W3).alloc (Nat.le_refl _) (.cells #[.slice (some ⟨gT, 0, none⟩) x.t.length tc, .slice OA x.o.length oc, .int .i64 x.got, .int .i64 x.sold, .int .i64 x.missed] 25)
  have hOwn : OffOwn (W3.alloc (.cells #[.slice (some ⟨gT, 0, none⟩) x.t.length tc, .slice OA x.o.length oc, .int .i64 x.got, .int .i64 x.sold, .int .i64 x.missed] 25)) W2.heap.size W3.heap.size _ _ x.c := ⟨Lies.new W3 25 #[.slice (some ⟨gT, 0, none⟩) x.t.length tc, .slice OA x.o.length oc, .int .i64 x.got, .int .i64 x.sold, .int .i64 x.missed], k3.size, ownsRow_below hT hal, ownsRow_below hO hal⟩
  have k4 := k3.trans (hal.mono k3.size)
  have s0 := (L1.below k4 L1.lt).cell 0
  have s1 := (L1.below k4 L1.lt).cell 1
  simp only [List.getElem?_cons_zero, List.getElem?_cons_succ] at s0 s1
  have hgO : w.heap.size + 1 < W3.heap.size := Nat.lt_of_lt_of_le L2.lt k3.size
  clear hT hO k3
  go_wp2_with fail
  clear s0 s1 hal
  generalize W3.alloc (.cells #[.slice (some ⟨gT, 0, none⟩) x.t.length tc, .slice OA x.o.length oc, .int .i64 x.got, .int .i64 x.sold, .int .i64 x.missed] 25) = W4 at hOwn k4 ⊢
  generalize W3.heap.size = gO at hOwn hgO ⊢
  refine (trayAt_any (x.c.at (some ⟨gT, 0, none⟩) tc OA oc) gO st W4 (OffOwn.at_ (y := x.c) hOwn)).mono ?_
  rintro e W5 ⟨rfl, hb5⟩
  have hOwn5 := hOwn.then hb5
  have k5 := k4.trans (hb5.mono k4.size)
  rw [show trayIx (x.c.at (some ⟨gT, 0, none⟩) tc OA oc).t st = trayIx x.t st from rfl, hI]
  have L1c := L1.below k5 L1.lt
  have hA5 := hA.then k5 k5.size
  have hmf : ∀ (fn : Fn) (first cap : Array Value) (w : World), (Instr.makeFunc fn first cap).run Try.prog w = .ok (.func fn first cap) w := fun _ _ _ _ => rfl
  go_wp2_with fail
  refine (stampsFn_val (B := 0) L1c hA5 G (Nat.zero_le _)).mono ?_
  rintro e W6 ⟨rfl, hb6⟩
  have hOwn6 := hOwn5.then hb6
  have k6 := k5.trans (hb6.mono k5.size)
  have L1d := L1.below k6 L1.lt
  have s0 := L1d.cell 0
  have s1 := L1d.cell 1
  have s2 := L1d.cell 2
  have s3 := L1d.cell 3
  simp only [List.getElem?_cons_zero, List.getElem?_cons_succ] at s0 s1 s2 s3
  clear L1c hA5 hOwn5 hOwn hb5 hb6 k4
  generalize outAt st pe x.o = N at hNb ⊢
  obtain ⟨hNb1, hNb2⟩ := hNb
  have c0 := hOwn6.lies.cell 0
  simp only [List.getElem?_cons_zero, List.getElem?_cons_succ] at c0
  obtain ⟨v, hv⟩ : ∃ v, (N == 0) = v := ⟨_, rfl⟩
  cases v
  all_goals
    go_wp2
    obtain ⟨hOt, kt, ct, cf⟩ := OffOwn.setT' (y := x.c) (hOwn6.then (Below.refl _ _).drew) hi tr htr (tr.c - va)
    have kd := k6.drew
    have L1e := L1.below kd L1.lt
    have u1 := L1e.cell 1
    have u2 := L1e.cell 2
    have u3 := L1e.cell 3
    simp only [List.getElem?_cons_zero, List.getElem?_cons_succ] at u1 u2 u3
    go_still_tail 9, (by kernel_rfl)
    change wpList _ _ _ _ _ W6.drew
    generalize W6.drew = Wd at hOt kt ct cf kd L1e u1 u2 u3 ⊢
    have k7 := kd.trans kt
    have hneT : ¬ gT = w.heap.size := fun e => by have := (hOt.t.lt gT rfl).1; have := L1.lt; omega
    have hneT' : ¬ w.heap.size = gT := fun e => hneT e.symm
    go_wp2_with fail
    generalize Wd.setCell ⟨gT, i * 2 + 1, none⟩ (.int .i64 (tr.c - va)) = W7 at hOt k7 ⊢
    have cC := change_any W2.heap.size gO _ _ ⟨x.t.set i ⟨tr.k, tr.c - va⟩, x.o, x.got, x.sold, x.missed⟩ st pe (va) W7 hOt k7.size (by exact hasc) (by show x.o.length ≤ 100000; omega) (by exact hoc) (by omega)
    refine cC.mono ?_
    rintro e W8 ⟨vo', rfl, hO8, hb8⟩
    have k8 := k7.trans hb8
    clear hb8 cC
    replace hO8 : ∃ vt, OffOwn W8 W2.heap.size gO vt vo' r := ⟨_, by rw [hr]; exact hO8⟩
    obtain ⟨vt, hO8⟩ := hO8
    clear hr
    clear hOt hOwn6 c0 ct cf u1 u2 u3 s0 s1 s2 s3 L1d L1e kt kd k7 k6 k5
    obtain ⟨A1, a1, A2, a2, rfl, rfl⟩ := hO8.form
    have cV := isOfficeValid_any (r.at A1 a1 A2 a2) gO W8 (OffOwn.at_ (y := r) hO8)
    rw [Oc.good_at] at cV
    cases hg : r.good
    · rw [hg] at cV
      have HN : Hid (stepD x.c ⟨2, st, pe, va⟩ = none) := by unfold Hid; rw [HR.out, Oc.fin, hg]; rfl
      clear hg
      go_wp2_with fail
      refine cV.mono ?_
      rintro e W9 ⟨rfl, hb9⟩
      have k9 := k8.trans (hb9.mono k8.size)
      clear hb9 cV
      have L2z := L2.below k9 L2.lt
      have z0 := L2z.cell 0
      have z1 := L2z.cell 1
      have z2 := L2z.cell 2
      have z3 := L2z.cell 3
      have z4 := L2z.cell 4
      have f0 := L2z.frozen 0
      have f1 := L2z.frozen 1
      have f2 := L2z.frozen 2
      have f3 := L2z.frozen 3
      have f4 := L2z.frozen 4
      simp only [List.getElem?_cons_zero, List.getElem?_cons_succ] at z0 z1 z2 z3 z4
      have hgr := grown_set (g := w.heap.size + 1) (i := 4) (u := .int .i64 0) (grown_set (g := w.heap.size + 1) (i := 3) (u := .int .i64 0) (grown_set (g := w.heap.size + 1) (i := 2) (u := .int .i64 0) (grown_set (g := w.heap.size + 1) (i := 1) (u := .slice none 0 0) (grown_set (g := w.heap.size + 1) (i := 0) (u := .slice none 0 0) (World.grownBy.refl W9 (some (w.heap.size + 1)))))))
      have bw := b2.trans (k9.mono b2.size)
      have bz := bw.grown hgr bw.size (by rintro _ ⟨⟩; omega)
      go_wp2
      rw [HN.out]
      refine bodyPost_ret (v := .tuple #[.agg #[.slice none 0 0, .slice none 0 0, .int .i64 0, .int .i64 0, .int .i64 0], .bool false]) (by simp [results, Try.results47, go_sem, *]) rfl (GivesStep.no rfl bz)
    · rw [hg] at cV
      have HN : Hid (stepD x.c ⟨2, st, pe, va⟩ = some r) := by unfold Hid; rw [HR.out, Oc.fin, hg]; rfl
      clear hg
      go_wp2_with fail
      refine cV.mono ?_
      rintro e W9 ⟨rfl, hb9⟩
      have k9 := k8.trans (hb9.mono k8.size)
      have hO9 := hO8.then hb9
      clear hb9 cV hO8
      have c0 := hO9.lies.cell 0
      have c1 := hO9.lies.cell 1
      have c2 := hO9.lies.cell 2
      have c3 := hO9.lies.cell 3
      have c4 := hO9.lies.cell 4
      simp only [List.getElem?_cons_zero, List.getElem?_cons_succ] at c0 c1 c2 c3 c4
      have L2z := L2.below k9 L2.lt
      have z0 := L2z.cell 0
      have z1 := L2z.cell 1
      have z2 := L2z.cell 2
      have z3 := L2z.cell 3
      have z4 := L2z.cell 4
      have f0 := L2z.frozen 0
      have f1 := L2z.frozen 1
      have f2 := L2z.frozen 2
      have f3 := L2z.frozen 3
      have f4 := L2z.frozen 4
      simp only [List.getElem?_cons_zero, List.getElem?_cons_succ] at z0 z1 z2 z3 z4
      have hgr := grown_set (g := w.heap.size + 1) (i := 4) (u := .int .i64 r.missed) (grown_set (g := w.heap.size + 1) (i := 3) (u := .int .i64 r.sold) (grown_set (g := w.heap.size + 1) (i := 2) (u := .int .i64 r.got) (grown_set (g := w.heap.size + 1) (i := 1) (u := .slice A2 r.o.length a2) (grown_set (g := w.heap.size + 1) (i := 0) (u := .slice A1 r.t.length a1) (World.grownBy.refl W9 (some (w.heap.size + 1)))))))
      have bw := b2.trans (k9.mono b2.size)
      have bz := bw.grown hgr bw.size (by rintro _ ⟨⟩; omega)
      have r8 := ownsRow_lower (ownsRow_keptG hO9.t L2z ne_TO hgr) b2.size
      have r9 := ownsRow_lower (ownsRow_keptG hO9.o L2z ne_OO hgr) b2.size
      have R8 := Lib.hid r8; clear r8
      have R9 := Lib.hid r9; clear r9
      clear hgr hO9
      go_wp2
      rw [HN.out]
      refine bodyPost_ret (v := .tuple #[.agg #[.slice A1 r.t.length a1, .slice A2 r.o.length a2, .int .i64 r.got, .int .i64 r.sold, .int .i64 r.missed], .bool true]) (by simp [results, Try.results47, go_sem, *]) rfl ?_
      exact GivesStep.yes rfl R8.out R9.out bz
end Go.Proofs.Ytdiojhjkcholiaa

/- Steps of an office in the program: nothing at the person. (Printed by gen_step.py) -/
namespace Go.Proofs.Ytdiojhjkcholiaa
open Go.RowKit

set_option maxRecDepth 100000 in
set_option maxHeartbeats 1500000 in
/-- Nothing at the person. -/
theorem step_non (x : Off) (g : Nat) (kd : Int) (st pe va : Int) (w : World) (h : OffAt w w.heap.size g x) (G : Good x) (hk : (kd == 1) = false) (hk2 : (kd != 2) = true) (i : Nat) (hi : i < x.t.length) (hI : trayIx x.t st = i) (hpe : 0 < pe) (h0 : outAt st pe x.o = 0) :
    Calls Try.prog 47 #[.pointer (some ⟨g, 0, none⟩), .agg #[.int .i64 kd, .int .i64 st, .int .i64 pe, .int .i64 va]] w (GivesStep w (stepD x.c ⟨kd, st, pe, va⟩)) := by
  have HN : Hid (stepD x.c ⟨kd, st, pe, va⟩ = none) := by
    unfold Hid stepD
    rw [if_neg (by simpa using hk), if_neg (by show ¬ ¬ 0 ≤ trayIx x.t st; rw [hI]; omega), if_neg (by simpa using hk2), if_pos ⟨h0, hpe⟩]
  have hz0 : (0 : Int) ≤ (i : Int) := by omega
  have L1 := (Lies.new w 45 #[.int .i64 kd, .int .i64 st, .int .i64 pe, .int .i64 va]).alloc (.cells #[.slice none 0 0, .slice none 0 0, .int .i64 0, .int .i64 0, .int .i64 0] 25)
  have L2 := Lies.new1 w (.cells #[.int .i64 kd, .int .i64 st, .int .i64 pe, .int .i64 va] 45) 25 #[.slice none 0 0, .slice none 0 0, .int .i64 0, .int .i64 0, .int .i64 0]
  have b1 := (Below.refl w.heap.size w).alloc (Nat.le_refl _) (.cells #[.int .i64 kd, .int .i64 st, .int .i64 pe, .int .i64 va] 45)
  have b2 := b1.alloc b1.size (.cells #[.slice none 0 0, .slice none 0 0, .int .i64 0, .int .i64 0, .int .i64 0] 25)
  have hA := h.then b2 b2.size
  have tl := G.tl
  have ol := G.ol
  clear b1
  go_enter Try.func47, Try.ntmps47
  go_wp2_with fail
  generalize ((w.alloc (.cells #[.int .i64 kd, .int .i64 st, .int .i64 pe, .int .i64 va] 45)).alloc (.cells #[.slice none 0 0, .slice none 0 0, .int .i64 0, .int .i64 0, .int .i64 0] 25)) = W2 at L1 L2 b2 hA ⊢
  refine (copyOffice_val x g W2 hA (by omega) (by omega)).mono ?_
  rintro e W3 ⟨TA, tc, OA, oc, rfl, hT, hO, k3⟩
  obtain ⟨gT, cT, _, hvt, _, _, _⟩ := ownsRow_at hT (by omega)
  injection hvt with e1 e2 e3
  subst e1; subst e3
  have hal := (Below.refl W3.heap.size W3).alloc (Nat.le_refl _) (.cells #[.slice (some ⟨gT, 0, none⟩) x.t.length tc, .slice OA x.o.length oc, .int .i64 x.got, .int .i64 x.sold, .int .i64 x.missed] 25)
  have hOwn : OffOwn (W3.alloc (.cells #[.slice (some ⟨gT, 0, none⟩) x.t.length tc, .slice OA x.o.length oc, .int .i64 x.got, .int .i64 x.sold, .int .i64 x.missed] 25)) W2.heap.size W3.heap.size _ _ x.c := ⟨Lies.new W3 25 #[.slice (some ⟨gT, 0, none⟩) x.t.length tc, .slice OA x.o.length oc, .int .i64 x.got, .int .i64 x.sold, .int .i64 x.missed], k3.size, ownsRow_below hT hal, ownsRow_below hO hal⟩
  have k4 := k3.trans (hal.mono k3.size)
  have s0 := (L1.below k4 L1.lt).cell 0
  have s1 := (L1.below k4 L1.lt).cell 1
  simp only [List.getElem?_cons_zero, List.getElem?_cons_succ] at s0 s1
  have hgO : w.heap.size + 1 < W3.heap.size := Nat.lt_of_lt_of_le L2.lt k3.size
  clear hT hO k3
  go_wp2_with fail
  clear s0 s1 hal
  generalize W3.alloc (.cells #[.slice (some ⟨gT, 0, none⟩) x.t.length tc, .slice OA x.o.length oc, .int .i64 x.got, .int .i64 x.sold, .int .i64 x.missed] 25) = W4 at hOwn k4 ⊢
  generalize W3.heap.size = gO at hOwn hgO ⊢
  refine (trayAt_any (x.c.at (some ⟨gT, 0, none⟩) tc OA oc) gO st W4 (OffOwn.at_ (y := x.c) hOwn)).mono ?_
  rintro e W5 ⟨rfl, hb5⟩
  have hOwn5 := hOwn.then hb5
  have k5 := k4.trans (hb5.mono k4.size)
  rw [show trayIx (x.c.at (some ⟨gT, 0, none⟩) tc OA oc).t st = trayIx x.t st from rfl, hI]
  have L1c := L1.below k5 L1.lt
  have hA5 := hA.then k5 k5.size
  have hmf : ∀ (fn : Fn) (first cap : Array Value) (w : World), (Instr.makeFunc fn first cap).run Try.prog w = .ok (.func fn first cap) w := fun _ _ _ _ => rfl
  go_wp2_with fail
  refine (stampsFn_val (B := 0) L1c hA5 G (Nat.zero_le _)).mono ?_
  rintro e W6 ⟨rfl, hb6⟩
  have hOwn6 := hOwn5.then hb6
  have k6 := k5.trans (hb6.mono k5.size)
  have L1d := L1.below k6 L1.lt
  have s0 := L1d.cell 0
  have s1 := L1d.cell 1
  have s2 := L1d.cell 2
  have s3 := L1d.cell 3
  simp only [List.getElem?_cons_zero, List.getElem?_cons_succ] at s0 s1 s2 s3
  clear L1c hA5 hOwn5 hOwn hb5 hb6 k4
  rw [h0]
  clear h0
  have L2z := L2.below k6 L2.lt
  have z0 := L2z.cell 0
  have z1 := L2z.cell 1
  have z2 := L2z.cell 2
  have z3 := L2z.cell 3
  have z4 := L2z.cell 4
  have f0 := L2z.frozen 0
  have f1 := L2z.frozen 1
  have f2 := L2z.frozen 2
  have f3 := L2z.frozen 3
  have f4 := L2z.frozen 4
  simp only [List.getElem?_cons_zero, List.getElem?_cons_succ] at z0 z1 z2 z3 z4
  have hgr := grown_set (g := w.heap.size + 1) (i := 4) (u := .int .i64 0) (grown_set (g := w.heap.size + 1) (i := 3) (u := .int .i64 0) (grown_set (g := w.heap.size + 1) (i := 2) (u := .int .i64 0) (grown_set (g := w.heap.size + 1) (i := 1) (u := .slice none 0 0) (grown_set (g := w.heap.size + 1) (i := 0) (u := .slice none 0 0) (World.grownBy.refl W6 (some (w.heap.size + 1)))))))
  have bw := b2.trans (k6.mono b2.size)
  have bz := bw.grown hgr bw.size (by rintro _ ⟨⟩; omega)
  go_wp2
  rw [HN.out]
  refine bodyPost_ret (v := .tuple #[.agg #[.slice none 0 0, .slice none 0 0, .int .i64 0, .int .i64 0, .int .i64 0], .bool false]) (by simp [results, Try.results47, go_sem, *]) rfl (GivesStep.no rfl bz)
end Go.Proofs.Ytdiojhjkcholiaa

/- A step in the program: its test, the arms joined, StepOffice. -/
namespace Go.Proofs.Ytdiojhjkcholiaa
open Go.RowKit

/-- The arms joined: a valid step of a valid office. -/
theorem stepOffice_any (x : Off) (g : Nat) (s : Stp) (w : World) (h : OffAt w w.heap.size g x) (G : Good x) (hs : s.ok = true) :
    Calls Try.prog 47 #[.pointer (some ⟨g, 0, none⟩), s.val] w (GivesStep w (stepD x.c s)) := by
  have hS : s.okS = true := by rw [Stp.ok_okS, Bool.and_eq_true] at hs; exact hs.1
  obtain ⟨hst, hI⟩ := Stp.okS_is hS
  clear hS hs
  obtain ⟨kd, st, pe, va⟩ := s
  by_cases hT : trayIx x.t st < 0
  · cases hI with
    | get hk hp hv => simp only at hk hp hv hst; subst hk; exact step_getNew x g st pe va w h G hT hst hp hv
    | show_ hk hp hv => simp only at hk; subst hk; exact step_noTray x g 2 st pe va w h G rfl hT
    | back hk hp hv => simp only at hk; subst hk; exact step_noTray x g 3 st pe va w h G rfl hT
    | sell0 hk hp hv => simp only at hk; subst hk; exact step_noTray x g 4 st pe va w h G rfl hT
    | sell hk hp hv => simp only at hk; subst hk; exact step_noTray x g 4 st pe va w h G rfl hT
    | miss hk hp hv => simp only at hk; subst hk; exact step_noTray x g 5 st pe va w h G rfl hT
    | move hk hp hv => simp only at hk; subst hk; exact step_noTray x g 6 st pe va w h G rfl hT
  · have h0 : 0 ≤ trayIx x.t st := by omega
    have hi := trayIx_lt h0
    have hx : trayIx x.t st = ((trayIx x.t st).toNat : Int) := by omega
    generalize (trayIx x.t st).toNat = i at hi hx
    cases hI with
    | get hk hp hv => simp only at hk hp hv; subst hk; exact step_getOld x g st pe va w h G i hi hx hp hv
    | show_ hk hp hv => simp only at hk hp hv; subst hk; exact step_show x g st pe va w h G i hi hx hp hv
    | sell0 hk hp hv => simp only at hk hp hv; subst hk; exact step_sell0 x g st pe va w h G i hi hx hp hv
    | back hk hp hv =>
      simp only at hk hp hv; subst hk
      by_cases hn : outAt st pe x.o = 0
      · exact step_non x g 3 st pe va w h G rfl rfl i hi hx (by omega) hn
      · exact step_back x g st pe va w h G i hi hx hp hv hn
    | sell hk hp hv =>
      simp only at hk hp hv; subst hk
      by_cases hn : outAt st pe x.o = 0
      · exact step_non x g 4 st pe va w h G rfl rfl i hi hx (by omega) hn
      · exact step_sell x g st pe va w h G i hi hx hp hv hn
    | miss hk hp hv =>
      simp only at hk hp hv; subst hk
      by_cases hn : outAt st pe x.o = 0
      · exact step_non x g 5 st pe va w h G rfl rfl i hi hx (by omega) hn
      · exact step_miss x g st pe va w h G i hi hx hp hn
    | move hk hp hv =>
      simp only at hk hp hv; subst hk
      by_cases hn : outAt st pe x.o = 0
      · exact step_non x g 6 st pe va w h G rfl rfl i hi hx (by omega) hn
      · exact step_move x g st pe va w h G i hi hx hp hv hn

set_option maxHeartbeats 2000000 in
theorem isOfficeStep_any (s : Stp) (w : World) :
    Calls Try.prog 46 #[s.val] w fun e w' => e = .returned (.bool s.ok) ∧ Below w.heap.size w w' := by
  obtain ⟨kd, st, pe, va⟩ := s
  have b1 := (Below.refl w.heap.size w).alloc (Nat.le_refl _) (.cells #[.int .i64 kd, .int .i64 st, .int .i64 pe, .int .i64 va] 45)
  obtain ⟨ok, hok⟩ : ∃ ok, ok = Stp.ok ⟨kd, st, pe, va⟩ := ⟨_, rfl⟩
  rw [← hok]
  unfold Stp.ok at hok
  simp only at hok
  have HO := Lib.hid hok
  clear hok
  cases h1 : inR st 1 99
  · go_enter Try.func46, Try.ntmps46
    go_wp2_with (go_at_call 36; refine (inRange_any _ _ _ _).mono ?_; rintro e w1 ⟨rfl, rfl⟩)
    go_ret
    exact ⟨by rw [HO.out, h1]; rfl, b1⟩

  · by_cases k1 : kd = 1
    · subst k1
      cases h2 : (pe == 0)
      all_goals
        go_enter Try.func46, Try.ntmps46
        go_wp2_with (first | (go_at_call 36; refine (inRange_any _ _ _ _).mono ?_; rintro e w1 ⟨rfl, rfl⟩) | (go_at_call 64; refine (isPerson_any _ _).mono ?_; rintro e w1 ⟨rfl, rfl⟩))
        go_ret
        exact ⟨by rw [HO.out]; simp_all <;> rfl, b1⟩
    · by_cases k2 : kd = 2
      · subst k2
        cases h2 : inR pe 1 999
        all_goals
          go_enter Try.func46, Try.ntmps46
          go_wp2_with (first | (go_at_call 36; refine (inRange_any _ _ _ _).mono ?_; rintro e w1 ⟨rfl, rfl⟩) | (go_at_call 64; refine (isPerson_any _ _).mono ?_; rintro e w1 ⟨rfl, rfl⟩))
          go_ret
          exact ⟨by rw [HO.out]; simp_all <;> rfl, b1⟩
      · by_cases k3 : kd = 3
        · subst k3
          cases h2 : inR pe 1 999
          all_goals
            go_enter Try.func46, Try.ntmps46
            go_wp2_with (first | (go_at_call 36; refine (inRange_any _ _ _ _).mono ?_; rintro e w1 ⟨rfl, rfl⟩) | (go_at_call 64; refine (isPerson_any _ _).mono ?_; rintro e w1 ⟨rfl, rfl⟩))
            go_ret
            exact ⟨by rw [HO.out]; simp_all <;> rfl, b1⟩
        · by_cases k4 : kd = 4
          · subst k4
            cases h2 : inR pe 0 999
            all_goals
              go_enter Try.func46, Try.ntmps46
              go_wp2_with (first | (go_at_call 36; refine (inRange_any _ _ _ _).mono ?_; rintro e w1 ⟨rfl, rfl⟩) | (go_at_call 64; refine (isPerson_any _ _).mono ?_; rintro e w1 ⟨rfl, rfl⟩))
              go_ret
              exact ⟨by rw [HO.out]; simp_all <;> rfl, b1⟩
          · by_cases k5 : kd = 5
            · subst k5
              cases h2 : inR pe 1 999
              all_goals
                go_enter Try.func46, Try.ntmps46
                go_wp2_with (first | (go_at_call 36; refine (inRange_any _ _ _ _).mono ?_; rintro e w1 ⟨rfl, rfl⟩) | (go_at_call 64; refine (isPerson_any _ _).mono ?_; rintro e w1 ⟨rfl, rfl⟩))
                go_ret
                exact ⟨by rw [HO.out]; simp_all <;> rfl, b1⟩
            · by_cases k6 : kd = 6
              · subst k6
                cases h2 : inR pe 1 999
                all_goals cases h3 : inR va 1 999
                all_goals cases h4 : (va != pe)
                all_goals
                  go_enter Try.func46, Try.ntmps46
                  go_wp2_with (first | (go_at_call 36; refine (inRange_any _ _ _ _).mono ?_; rintro e w1 ⟨rfl, rfl⟩) | (go_at_call 64; refine (isPerson_any _ _).mono ?_; rintro e w1 ⟨rfl, rfl⟩))
                  go_ret
                  exact ⟨by rw [HO.out]; simp_all <;> rfl, b1⟩
              · have d1 : (kd == 1) = false := by simp [k1]
                have d2 : (kd == 2) = false := by simp [k2]
                have d3 : (kd == 3) = false := by simp [k3]
                have d4 : (kd == 4) = false := by simp [k4]
                have d5 : (kd == 5) = false := by simp [k5]
                have d6 : (kd == 6) = false := by simp [k6]
                go_enter Try.func46, Try.ntmps46
                go_wp2_with (first | (go_at_call 36; refine (inRange_any _ _ _ _).mono ?_; rintro e w1 ⟨rfl, rfl⟩) | (go_at_call 64; refine (isPerson_any _ _).mono ?_; rintro e w1 ⟨rfl, rfl⟩))
                go_ret
                exact ⟨by rw [HO.out]; simp_all <;> rfl, b1⟩

theorem ne_sto : 100 ≠ 25 := by decide
theorem ne_stt : 74 ≠ 25 := by decide
set_option maxHeartbeats 2000000 in
theorem implStepOffice_any (x : Off) (s : Stp) (w : World) (h : OffR w w.heap.size x) :
    Calls Try.prog 16 #[x.val, s.val] w (GivesStep w (if goodOff x && s.ok then stepD x.c s else none)) := by
  obtain ⟨kd, st, pe, va⟩ := s
  have L1 := ((Lies.new w 25 #[.slice x.TA x.t.length x.tc, .slice x.OA x.o.length x.oc, .int .i64 x.got, .int .i64 x.sold, .int .i64 x.missed]).alloc (.cells #[.int .i64 kd, .int .i64 st, .int .i64 pe, .int .i64 va] 45)).alloc (.cells #[.slice none 0 0, .slice none 0 0, .int .i64 0, .int .i64 0, .int .i64 0] 25)
  have L2 := (Lies.new1 w (.cells #[.slice x.TA x.t.length x.tc, .slice x.OA x.o.length x.oc, .int .i64 x.got, .int .i64 x.sold, .int .i64 x.missed] 25) 45 #[.int .i64 kd, .int .i64 st, .int .i64 pe, .int .i64 va]).alloc (.cells #[.slice none 0 0, .slice none 0 0, .int .i64 0, .int .i64 0, .int .i64 0] 25)
  have L3 := Lies.new2 w (.cells #[.slice x.TA x.t.length x.tc, .slice x.OA x.o.length x.oc, .int .i64 x.got, .int .i64 x.sold, .int .i64 x.missed] 25) (.cells #[.int .i64 kd, .int .i64 st, .int .i64 pe, .int .i64 va] 45) 25 #[.slice none 0 0, .slice none 0 0, .int .i64 0, .int .i64 0, .int .i64 0]
  have b1 := (Below.refl w.heap.size w).alloc (Nat.le_refl _) (.cells #[.slice x.TA x.t.length x.tc, .slice x.OA x.o.length x.oc, .int .i64 x.got, .int .i64 x.sold, .int .i64 x.missed] 25)
  have b2 := b1.alloc b1.size (.cells #[.int .i64 kd, .int .i64 st, .int .i64 pe, .int .i64 va] 45)
  have b3 := b2.alloc b2.size (.cells #[.slice none 0 0, .slice none 0 0, .int .i64 0, .int .i64 0, .int .i64 0] 25)
  clear b1 b2
  have cV := fun W hW => isOfficeValid_any x w.heap.size W hW
  have cO := fun W => isOfficeStep_any ⟨kd, st, pe, va⟩ W
  have cT := fun (G : Good x) (hs : Stp.ok ⟨kd, st, pe, va⟩ = true) W hW => stepOffice_any x w.heap.size ⟨kd, st, pe, va⟩ W hW G hs
  cases hg : goodOff x
  · have HN : Hid ((if goodOff x && Stp.ok ⟨kd, st, pe, va⟩ then stepD x.c ⟨kd, st, pe, va⟩ else none) = none) := by rw [Hid, hg]; rfl
    rw [hg] at cV
    rw [show (if false && Stp.ok ⟨kd, st, pe, va⟩ then stepD x.c ⟨kd, st, pe, va⟩ else none) = none from rfl]
    clear hg HN cO cT
    go_enter Try.func16, Try.ntmps16
    go_wp2_with fail
    generalize (((w.alloc (.cells #[.slice x.TA x.t.length x.tc, .slice x.OA x.o.length x.oc, .int .i64 x.got, .int .i64 x.sold, .int .i64 x.missed] 25)).alloc (.cells #[.int .i64 kd, .int .i64 st, .int .i64 pe, .int .i64 va] 45)).alloc (.cells #[.slice none 0 0, .slice none 0 0, .int .i64 0, .int .i64 0, .int .i64 0] 25)) = W3 at L1 L2 L3 b3 ⊢
    have hA := OffAt.of (x := x) L1 (h.up b3 (Nat.le_refl _))
    refine (cV W3 hA).mono ?_
    rintro e W4 ⟨rfl, hb4⟩
    have k4 := b3.trans (hb4.mono b3.size)
    have L3z := L3.below hb4 L3.lt
    have z0 := L3z.cell 0
    have z1 := L3z.cell 1
    have z2 := L3z.cell 2
    have z3 := L3z.cell 3
    have z4 := L3z.cell 4
    have f0 := L3z.frozen 0
    have f1 := L3z.frozen 1
    have f2 := L3z.frozen 2
    have f3 := L3z.frozen 3
    have f4 := L3z.frozen 4
    simp only [List.getElem?_cons_zero, List.getElem?_cons_succ] at z0 z1 z2 z3 z4
    have hgr := (grown_set (g := w.heap.size + 1 + 1) (i := 4) (u := .int .i64 0) (grown_set (g := w.heap.size + 1 + 1) (i := 3) (u := .int .i64 0) (grown_set (g := w.heap.size + 1 + 1) (i := 2) (u := .int .i64 0) (grown_set (g := w.heap.size + 1 + 1) (i := 1) (u := .slice none 0 0) (grown_set (g := w.heap.size + 1 + 1) (i := 0) (u := .slice none 0 0) (World.grownBy.refl W4 (some (w.heap.size + 1 + 1))))))))
    have bz := k4.grown hgr k4.size (by rintro _ ⟨⟩; omega)
    clear hgr
    go_wp2
    refine bodyPost_ret (v := .tuple #[.agg #[.slice none 0 0, .slice none 0 0, .int .i64 0, .int .i64 0, .int .i64 0], .bool false]) (by simp [results, Try.results16, go_sem, *]) rfl ?_
    exact GivesStep.no rfl bz
  · have G := good_iff.1 hg
    rw [hg] at cV
    have cT := cT G
    clear hg G
    cases hs : Stp.ok ⟨kd, st, pe, va⟩
    · rw [hs] at cO
      rw [show (if true && false then stepD x.c ⟨kd, st, pe, va⟩ else none) = none from rfl]
      clear hs cT
      go_enter Try.func16, Try.ntmps16
      go_wp2_with fail
      generalize (((w.alloc (.cells #[.slice x.TA x.t.length x.tc, .slice x.OA x.o.length x.oc, .int .i64 x.got, .int .i64 x.sold, .int .i64 x.missed] 25)).alloc (.cells #[.int .i64 kd, .int .i64 st, .int .i64 pe, .int .i64 va] 45)).alloc (.cells #[.slice none 0 0, .slice none 0 0, .int .i64 0, .int .i64 0, .int .i64 0] 25)) = W3 at L1 L2 L3 b3 ⊢
      have hA := OffAt.of (x := x) L1 (h.up b3 (Nat.le_refl _))
      refine (cV W3 hA).mono ?_
      rintro e W4 ⟨rfl, hb4⟩
      have L2y := L2.below hb4 L2.lt
      have s0 := L2y.cell 0
      have s1 := L2y.cell 1
      have s2 := L2y.cell 2
      have s3 := L2y.cell 3
      simp only [List.getElem?_cons_zero, List.getElem?_cons_succ] at s0 s1 s2 s3
      go_wp2_with fail
      refine (cO W4).mono ?_
      rintro e W5 ⟨rfl, hb5⟩
      clear s0 s1 s2 s3
      have k5 := b3.trans ((bthen hb4 hb5).mono b3.size)
      have L3z := L3.below (bthen hb4 hb5) L3.lt
      have z0 := L3z.cell 0
      have z1 := L3z.cell 1
      have z2 := L3z.cell 2
      have z3 := L3z.cell 3
      have z4 := L3z.cell 4
      have f0 := L3z.frozen 0
      have f1 := L3z.frozen 1
      have f2 := L3z.frozen 2
      have f3 := L3z.frozen 3
      have f4 := L3z.frozen 4
      simp only [List.getElem?_cons_zero, List.getElem?_cons_succ] at z0 z1 z2 z3 z4
      have hgr := (grown_set (g := w.heap.size + 1 + 1) (i := 4) (u := .int .i64 0) (grown_set (g := w.heap.size + 1 + 1) (i := 3) (u := .int .i64 0) (grown_set (g := w.heap.size + 1 + 1) (i := 2) (u := .int .i64 0) (grown_set (g := w.heap.size + 1 + 1) (i := 1) (u := .slice none 0 0) (grown_set (g := w.heap.size + 1 + 1) (i := 0) (u := .slice none 0 0) (World.grownBy.refl W5 (some (w.heap.size + 1 + 1))))))))
      have bz := k5.grown hgr k5.size (by rintro _ ⟨⟩; omega)
      clear hgr
      go_wp2
      refine bodyPost_ret (v := .tuple #[.agg #[.slice none 0 0, .slice none 0 0, .int .i64 0, .int .i64 0, .int .i64 0], .bool false]) (by simp [results, Try.results16, go_sem, *]) rfl ?_
      exact GivesStep.no rfl bz
    · have cT := cT hs
      rw [hs] at cO
      rw [show (if true && true then stepD x.c ⟨kd, st, pe, va⟩ else none) = stepD x.c ⟨kd, st, pe, va⟩ from rfl]
      clear hs
      generalize stepD x.c ⟨kd, st, pe, va⟩ = R at cT ⊢
      go_enter Try.func16, Try.ntmps16
      go_wp2_with fail
      generalize (((w.alloc (.cells #[.slice x.TA x.t.length x.tc, .slice x.OA x.o.length x.oc, .int .i64 x.got, .int .i64 x.sold, .int .i64 x.missed] 25)).alloc (.cells #[.int .i64 kd, .int .i64 st, .int .i64 pe, .int .i64 va] 45)).alloc (.cells #[.slice none 0 0, .slice none 0 0, .int .i64 0, .int .i64 0, .int .i64 0] 25)) = W3 at L1 L2 L3 b3 ⊢
      have hA := OffAt.of (x := x) L1 (h.up b3 (Nat.le_refl _))
      refine (cV W3 hA).mono ?_
      rintro e W4 ⟨rfl, hb4⟩
      have L2y := L2.below hb4 L2.lt
      have s0 := L2y.cell 0
      have s1 := L2y.cell 1
      have s2 := L2y.cell 2
      have s3 := L2y.cell 3
      simp only [List.getElem?_cons_zero, List.getElem?_cons_succ] at s0 s1 s2 s3
      go_wp2_with fail
      refine (cO W4).mono ?_
      rintro e W5 ⟨rfl, hb5⟩
      clear s0 s1 s2 s3
      have L2y := L2.below (bthen hb4 hb5) L2.lt
      have s0 := L2y.cell 0
      have s1 := L2y.cell 1
      have s2 := L2y.cell 2
      have s3 := L2y.cell 3
      simp only [List.getElem?_cons_zero, List.getElem?_cons_succ] at s0 s1 s2 s3
      go_wp2_with fail
      refine (cT W5 (hA.then (bthen hb4 hb5) (bthen hb4 hb5).size)).mono ?_
      rintro e W6 ⟨TA, tc, OA, oc, rfl, hT, hO, hb6⟩
      clear s0 s1 s2 s3
      have k56 := bthen (bthen hb4 hb5) hb6
      have k6 := b3.trans (k56.mono b3.size)
      have L3z := L3.below k56 L3.lt
      have s36 : W3.heap.size ≤ W5.heap.size := (bthen hb4 hb5).size
      have z0 := L3z.cell 0
      have z1 := L3z.cell 1
      have z2 := L3z.cell 2
      have z3 := L3z.cell 3
      have z4 := L3z.cell 4
      have f0 := L3z.frozen 0
      have f1 := L3z.frozen 1
      have f2 := L3z.frozen 2
      have f3 := L3z.frozen 3
      have f4 := L3z.frozen 4
      simp only [List.getElem?_cons_zero, List.getElem?_cons_succ] at z0 z1 z2 z3 z4
      obtain ⟨r, hr⟩ : ∃ r, resOf R = r := ⟨_, rfl⟩
      obtain ⟨ok, hok⟩ : ∃ ok, R.isSome = ok := ⟨_, rfl⟩
      rw [hr] at hT hO ⊢
      rw [hok]
      have HR := Lib.hid hr; clear hr
      have HK := Lib.hid hok; clear hok
      have hgr := (grown_set (g := w.heap.size + 1 + 1) (i := 4) (u := .int .i64 r.missed) (grown_set (g := w.heap.size + 1 + 1) (i := 3) (u := .int .i64 r.sold) (grown_set (g := w.heap.size + 1 + 1) (i := 2) (u := .int .i64 r.got) (grown_set (g := w.heap.size + 1 + 1) (i := 1) (u := .slice OA r.o.length oc) (grown_set (g := w.heap.size + 1 + 1) (i := 0) (u := .slice TA r.t.length tc) (World.grownBy.refl W6 (some (w.heap.size + 1 + 1))))))))
      have bz := k6.grown hgr k6.size (by rintro _ ⟨⟩; omega)
      have r8 := ownsRow_lower (ownsRow_keptG hT L3z ne_stt hgr) (Nat.le_trans b3.size s36)
      have r9 := ownsRow_lower (ownsRow_keptG hO L3z ne_sto hgr) (Nat.le_trans b3.size s36)
      have R8 := Lib.hid r8; clear r8
      have R9 := Lib.hid r9; clear r9
      clear hgr hT hO
      go_wp2
      refine bodyPost_ret (v := .tuple #[(r.at TA tc OA oc).val, .bool ok]) (by simp [results, Try.results16, go_sem, *]) rfl ?_
      unfold GivesStep
      rw [HR.out, HK.out]
      exact ⟨TA, tc, OA, oc, rfl, R8.out, R9.out, bz⟩
end Go.Proofs.Ytdiojhjkcholiaa
