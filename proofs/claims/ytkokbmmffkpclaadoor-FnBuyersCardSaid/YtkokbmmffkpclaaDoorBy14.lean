/- By14: the texts DrawASt, joined into one file. -/
import Derived.Test.YtkokbmmffkpclaaDoorBy02
import Derived.Test.YtkokbmmffkpclaaDoorBy03
import Derived.Test.YtkokbmmffkpclaaDoorBy04
import Derived.Test.YtkokbmmffkpclaaDoorBy12
import Derived.Test.YtkokbmmffkpclaaDoorBy13

set_option linter.unusedVariables false

/- The reference draws a step of an auction. (Printed by gen_dast.py) -/
namespace Go.Proofs.YtkokbmmffkpclaaDoor
open Go.RowKit

/-- What stands while a step of the auction l is drawn, from the world W of the call. -/
structure LSt (w W wx : World) (g : Nat) (A : Option Addr) (bs : List UInt8) (cap m : Nat) (AL : Option Addr) (l : List Lot) (h5 : Nat) : Prop where
  env : Env w wx g A bs cap m
  out : Lies wx W.heap.size 39 [.int .i64 0, .int .i64 0, .int .i64 0, .int .i64 0]
  x : ∃ n1 n2 n3 n4 n5 : Int, Lies wx h5 41 [.int .i64 n1, .int .i64 n2, .int .i64 n3, .int .i64 n4, .int .i64 n5]
  rl : LotsR wx wx.heap.size AL l
  gr : W.grownBy wx (some g)
  l1 : W.heap.size < h5
  lt : g < W.heap.size
theorem LSt.mono {w W wx : World} {g : Nat} {A : Option Addr} {bs : List UInt8} {cap m m' : Nat} {AL : Option Addr} {l : List Lot} {h5 : Nat} (h : LSt w W wx g A bs cap m AL l h5) (hm : m ≤ m') : LSt w W wx g A bs cap m' AL l h5 := { h with env := h.env.mono hm }
theorem l1Least_any (a b : Int) (w : World) : Calls Tryd.prog 59 #[.int .i64 a, .int .i64 b] w fun e w' => (∃ z : Int, e = .returned (.int .i64 z)) ∧ Below w.heap.size w w' := by
  by_cases h : a < b
  all_goals
    go_enter Tryd.func59, Tryd.ntmps59
    go_wp2
    go_ret
    exact ⟨⟨_, rfl⟩, Below.refl _ _⟩

set_option maxRecDepth 100000 in
set_option maxHeartbeats 8000000 in
set_option linter.unusedVariables false in
theorem auctionStep_any (AL : Option Addr) (c : Nat) (l : List Lot) (g : Nat) (A : Option Addr) (bs : List UInt8) (cap m : Nat) (w W : World) (hm : m ≤ 800000000) (E0 : Env w W g A bs cap m) (hR : LotsR W W.heap.size AL l) (Gl : GoodL l) (hxl : ∀ b, AL.map (·.block) = some b → b ≠ g) :
    Calls Tryd.prog 42 #[.pointer (some ⟨g, 0, none⟩), .slice AL l.length c] W fun e w' => ∃ s : ASt, e = .returned s.val ∧ Env w w' g A bs cap (m + 100) ∧ W.grownBy w' (some g) := by
  have hl1 := hR.big
  have hl8 := Gl.len
  have hB := E0.lt
  have hwW := E0.gr.size
  have L4 := Lies.new W 39 #[.int .i64 0, .int .i64 0, .int .i64 0, .int .i64 0]
  have E2 := E0.alloc (.cells #[.int .i64 0, .int .i64 0, .int .i64 0, .int .i64 0] 39)
  have hal : Below W.heap.size W (W.alloc (.cells #[.int .i64 0, .int .i64 0, .int .i64 0, .int .i64 0] 39)) := (Below.refl W.heap.size W).alloc (Nat.le_refl _) (.cells #[.int .i64 0, .int .i64 0, .int .i64 0, .int .i64 0] 39)
  have G2 : W.grownBy (W.alloc (.cells #[.int .i64 0, .int .i64 0, .int .i64 0, .int .i64 0] 39)) (some g) := grownAny hal _
  have R2 := SlcR.up hR hal (Nat.le_refl _)
  have hsz : (W.alloc (.cells #[.int .i64 0, .int .i64 0, .int .i64 0, .int .i64 0] 39)).heap.size = W.heap.size + 1 := by simp
  clear hal
  go_enter Tryd.func42, Tryd.ntmps42
  go_upto_region 1 with fail
  generalize (W.alloc (.cells #[.int .i64 0, .int .i64 0, .int .i64 0, .int .i64 0] 39)) = W2 at L4 E2 G2 R2 hsz ⊢
  have HS := Lib.hid hsz
  have HXL := Lib.hid hxl
  have HE0 := Lib.hid E0
  have HR := Lib.hid hR
  clear hsz hxl E0 hR
  go_cut [5] (fun s5 wx => ∃ h5 : Nat, s5 = .pointer (some ⟨h5, 0, none⟩) ∧ LSt w W wx g A bs cap (m + 2) AL l h5)
  case first =>
    go_wp2_with fail
    refine (among_env E2 [1, 7] 2 rfl _ rfl (by omega) (by omega) (by omega)).mono ?_
    rintro e W3 ⟨z, rfl, hz, E3, gr⟩
    have M4 := L4.kept gr (by intro e; injection e; omega)
    have g3 := gr.size
    go_wp2_with fail
    go_meet
    case rel =>
      have HL := Lies.new W3 41 #[.int .i64 z, .int .i64 0, .int .i64 0, .int .i64 0, .int .i64 0]
      refine ⟨_, rfl, E3.alloc _, M4.alloc _, ⟨_, _, _, _, _, HL⟩, ?_, grown_alloc (grown_trans G2 gr) _, by have := HS.out; omega, by omega⟩
      have hal2 : Below W3.heap.size W3 (W3.alloc (.cells #[.int .i64 z, .int .i64 0, .int .i64 0, .int .i64 0, .int .i64 0] 41)) := (Below.refl _ _).alloc (Nat.le_refl _) _
      exact SlcR.up (SlcR.gr R2 HXL.out gr) hal2 (Nat.le_refl _)
  case rest =>
    clear L4 E2 G2 R2 HS
    obtain ⟨h5, rfl, St⟩ := hcut
    have l1 := St.l1
    have nx4 : W.heap.size ∉ [g, h5] := by simp only [List.mem_cons, List.not_mem_nil, or_false]; omega
    go_upto_if 14 with fail
    go_cut [] (fun wx => LSt w W wx g A bs cap (m + 22) AL l h5)
    case first =>
      have hXl := rowsX HR.out HXL.out (X := [g, h5]) (by intro k hk hne; simp only [List.mem_cons, List.not_mem_nil, or_false] at hk; omega)
      have HXl := Lib.hid hXl
      clear hXl
      by_cases h0 : 0 < l.length
      · have h0' : (0 : Int) < l.length := by omega
        obtain ⟨b, off, rfl, hb, _⟩ := LotsR.el HR.out h0
        have HBB := Lib.hid hb
        clear hb
        obtain ⟨t1, t2, t3, t4, t5, LV⟩ := St.x
        go_wp2_with fail
        have H0 := Lib.hid h0
        clear h0 h0'
        generalize decide (0 < l.length) = d14
        refine (pick_env St.env l.length (by omega) (by omega)).mono ?_
        rintro e W3 ⟨i, rfl, hi, E3, gr⟩
        have hi' : i < l.length := by have := H0.out; omega
        have hii : (i : Int) < l.length := by omega
        clear hi
        have RL := SlcR.gr St.rl HXL.out gr
        obtain ⟨b9, off9, e0, hb9, hc9⟩ := LotsR.el RL H0.out
        have e9 : b9 = b ∧ off9 = off := by injection e0 with e0; injection e0 with q1 q2; exact ⟨q1.symm, q2.symm⟩
        clear e0
        obtain ⟨rfl, rfl⟩ := e9
        have hcx := hc9 i hi'
        clear hc9
        obtain ⟨z, hze⟩ : ∃ z, z = l[i] := ⟨_, rfl⟩
        rw [← hze] at hcx
        obtain ⟨c0, c1, c2, c3, c4⟩ := hcx
        have q0 := c0 (Since.start _ _)
        have q1 := c1 (Since.start _ _)
        have q2 := c2 (Since.start _ _)
        have q3 := c3 (Since.start _ _)
        have q4 := c4 (Since.start _ _)
        simp only [Since.start] at q0 q1 q2 q3 q4
        clear c0 c1 c2 c3 c4 hze
        have M4 := St.out.kept gr (by intro e; injection e; omega)
        have M5 := LV.kept gr (by intro e; injection e; omega)
        have G3 := grown_trans St.gr gr
        have y0 := M5.cell 0
        have y1 := M5.cell 1
        have y2 := M5.cell 2
        have y3 := M5.cell 3
        have y4 := M5.cell 4
        simp only [List.getElem?_cons_zero, List.getElem?_cons_succ] at y0 y1 y2 y3 y4
        have f0 := M5.frozen 0
        have f1 := M5.frozen 1
        have f2 := M5.frozen 2
        have f3 := M5.frozen 3
        have f4 := M5.frozen 4
        have hG8 := (grown_set (g := h5) (i := 4) (u := .int .i64 z.b) (grown_set (g := h5) (i := 3) (u := .int .i64 z.h) (grown_set (g := h5) (i := 2) (u := .int .i64 z.s) (grown_set (g := h5) (i := 1) (u := .int .i64 z.r) (grown_set (g := h5) (i := 0) (u := .int .i64 z.i) (World.grownBy.refl W3 (some h5)))))))
        have HE8 := Lib.hid (E3.wrote hG8 (by omega) (by omega))
        have HG8 := Lib.hid (grown_own G3 hG8 (by omega))
        have H48 := Lib.hid (M4.kept hG8 (by intro e; injection e; omega))
        have H58 := Lib.hid (((((M5.set 0 (.int .i64 z.i)).set 1 (.int .i64 z.r)).set 2 (.int .i64 z.s)).set 3 (.int .i64 z.h)).set 4 (.int .i64 z.b))
        have HR8 := Lib.hid (SlcR.gr RL (fun b hb => by simp only [Option.map_some, Option.some.injEq] at hb; subst hb; have := HBB.out; omega) hG8)
        clear E3 G3 M4 M5 RL hG8 gr LV
        go_wp2_with fail
        go_meet
        case rel => exact ⟨HE8.out.mono (by omega), H48.out, ⟨_, _, _, _, _, H58.out⟩, HR8.out, HG8.out, l1, hB⟩
      · have h0' : ¬ (0 : Int) < l.length := by omega
        go_wp2_with fail
        go_meet
        case rel => exact St.mono (by omega)
    case rest =>
      clear St nx4
      have St := hcut
      clear hcut
      have nx5 : h5 ∉ [g, W.heap.size] := by simp only [List.mem_cons, List.not_mem_nil, or_false]; omega
      have ng : Hid (∀ k, k ≠ g → some k ≠ some g) := fun k hk e => by injection e with e; exact hk e
      go_wp2_with fail
      refine (one_env St.env 40 (by omega) (by omega)).mono ?_
      rintro e W3 ⟨yes, rfl, E3, gr3⟩
      have L4 := St.out.kept gr3 (ng.out _ (by omega))
      obtain ⟨n1, n2, n3, n4, n5, L5⟩ := St.x
      have L5 := L5.kept gr3 (ng.out _ (by omega))
      have RL := SlcR.gr St.rl HXL.out gr3
      have G := grown_trans St.gr gr3
      clear St gr3
      cases yes
      · go_wp2_with fail
        refine (l29Open_any AL c l W3 RL).mono ?_
        rintro e W4 ⟨rfl, hb4⟩
        have E4 := E3.below hb4
        have L4 := L4.below hb4 L4.lt
        have L5 := L5.below hb4 L5.lt
        have RL := SlcR.then RL hb4
        have G := grown_trans G (grownAny hb4 _)
        clear E3 hb4
        by_cases ho : openIx l < 0
        · have ho' : ¬ (0 : Int) ≤ openIx l := by omega
          generalize openIx l = oi at ho ho' ⊢
          go_wp2_with fail
          refine (pick_env E4 8 (by omega) (by omega)).mono ?_
          rintro e WA ⟨i, rfl, hi, EA, grA⟩
          have L4 := L4.kept grA (ng.out _ (by omega))
          have L5 := L5.kept grA (ng.out _ (by omega))
          have G := grown_trans G grA
          clear grA E4
          have hi' : (i = 0 ∨ i = 1 ∨ i = 2) ∨ i = 3 ∨ i = 4 ∨ (i = 5 ∨ i = 6 ∨ i = 7) := by omega
          clear hi
          rcases hi' with hi | hi | hi | hi
          · rcases hi with rfl | rfl | rfl
            all_goals
              go_wp2_with fail
              refine (among_env EA [1, 7, 20, 33, 98, 99, 100] 7 rfl _ rfl (by omega) (by omega) (by omega)).mono ?_
              rintro e WB ⟨z1, rfl, hz, EB, gr⟩
              have L4 := L4.kept gr (ng.out _ (by omega))
              have G := grown_trans G gr
              clear gr hz EA
              go_wp2_with fail
              refine (among_env EB [0, 1, 50, 99999, 100000] 5 rfl _ rfl (by omega) (by omega) (by omega)).mono ?_
              rintro e WC ⟨z2, rfl, hz, EC, gr⟩
              have L4 := L4.kept gr (ng.out _ (by omega))
              have G := grown_trans G gr
              clear gr hz EB
              have y0 := L4.cell 0
              have y1 := L4.cell 1
              have y2 := L4.cell 2
              have y3 := L4.cell 3
              simp only [List.getElem?_cons_zero, List.getElem?_cons_succ] at y0 y1 y2 y3
              have f0 := L4.frozen 0
              have f1 := L4.frozen 1
              have f2 := L4.frozen 2
              have f3 := L4.frozen 3
              have hG8 := (grown_set (g := W.heap.size) (i := 3) (u := .int .i64 z2) (grown_set (g := W.heap.size) (i := 2) (u := .int .i64 0) (grown_set (g := W.heap.size) (i := 1) (u := .int .i64 z1) (grown_set (g := W.heap.size) (i := 0) (u := .int .i64 1) (World.grownBy.refl WC (some W.heap.size))))))
              have hEE := EC.wrote hG8 (by omega) (by omega)
              have hGG := grown_own G hG8 (by omega)
              have hLS := ((((L4.set 0 (.int .i64 1)).set 1 (.int .i64 z1)).set 2 (.int .i64 0)).set 3 (.int .i64 z2))
              simp only [List.set_cons_zero, List.set_cons_succ] at hLS
              obtain ⟨W8, hW8⟩ : ∃ W8, ((((WC.setCell ⟨W.heap.size, 0, none⟩ (.int .i64 1)).setCell ⟨W.heap.size, 1, none⟩ (.int .i64 z1)).setCell ⟨W.heap.size, 2, none⟩ (.int .i64 0)).setCell ⟨W.heap.size, 3, none⟩ (.int .i64 z2)) = W8 := ⟨_, rfl⟩
              rw [hW8] at hEE hGG hLS
              have HW8 := Lib.hid hW8
              have HLS := Lib.hid hLS
              clear hG8 L4 G hW8 hLS
              repeat (first | go_values | go_skip | go_guarded | go_step | go_upon | simp only [])
              rw [HW8.out]
              have hLS := HLS.out
              have x0 := hLS.cell 0
              have x1 := hLS.cell 1
              have x2 := hLS.cell 2
              have x3 := hLS.cell 3
              simp only [List.getElem?_cons_zero, List.getElem?_cons_succ] at x0 x1 x2 x3
              refine bodyPost_ret (v := .agg #[.int .i64 1, .int .i64 z1, .int .i64 0, .int .i64 z2]) (by simp [results, Tryd.results42, go_sem, x0, x1, x2, x3]) rfl ?_
              exact ⟨⟨1, z1, 0, z2⟩, rfl, hEE.mono (by omega), hGG⟩
          · subst hi
            have u0 := L5.cell 0
            have u1 := L5.cell 1
            have u2 := L5.cell 2
            have u3 := L5.cell 3
            have u4 := L5.cell 4
            simp only [List.getElem?_cons_zero, List.getElem?_cons_succ] at u0 u1 u2 u3 u4
            have y0 := L4.cell 0
            have y1 := L4.cell 1
            have y2 := L4.cell 2
            have y3 := L4.cell 3
            simp only [List.getElem?_cons_zero, List.getElem?_cons_succ] at y0 y1 y2 y3
            have f0 := L4.frozen 0
            have f1 := L4.frozen 1
            have f2 := L4.frozen 2
            have f3 := L4.frozen 3
            have hG8 := (grown_set (g := W.heap.size) (i := 3) (u := .int .i64 0) (grown_set (g := W.heap.size) (i := 2) (u := .int .i64 0) (grown_set (g := W.heap.size) (i := 1) (u := .int .i64 n1) (grown_set (g := W.heap.size) (i := 0) (u := .int .i64 2) (World.grownBy.refl WA (some W.heap.size))))))
            have hEE := EA.wrote hG8 (by omega) (by omega)
            have hGG := grown_own G hG8 (by omega)
            have hLS := ((((L4.set 0 (.int .i64 2)).set 1 (.int .i64 n1)).set 2 (.int .i64 0)).set 3 (.int .i64 0))
            simp only [List.set_cons_zero, List.set_cons_succ] at hLS
            obtain ⟨W8, hW8⟩ : ∃ W8, ((((WA.setCell ⟨W.heap.size, 0, none⟩ (.int .i64 2)).setCell ⟨W.heap.size, 1, none⟩ (.int .i64 n1)).setCell ⟨W.heap.size, 2, none⟩ (.int .i64 0)).setCell ⟨W.heap.size, 3, none⟩ (.int .i64 0)) = W8 := ⟨_, rfl⟩
            rw [hW8] at hEE hGG hLS
            have HW8 := Lib.hid hW8
            have HLS := Lib.hid hLS
            clear hG8 L4 G hW8 hLS
            repeat (first | go_values | go_skip | go_guarded | go_step | go_upon | simp only [])
            rw [HW8.out]
            have hLS := HLS.out
            have x0 := hLS.cell 0
            have x1 := hLS.cell 1
            have x2 := hLS.cell 2
            have x3 := hLS.cell 3
            simp only [List.getElem?_cons_zero, List.getElem?_cons_succ] at x0 x1 x2 x3
            refine bodyPost_ret (v := .agg #[.int .i64 2, .int .i64 n1, .int .i64 0, .int .i64 0]) (by simp [results, Tryd.results42, go_sem, x0, x1, x2, x3]) rfl ?_
            exact ⟨⟨2, n1, 0, 0⟩, rfl, hEE.mono (by omega), hGG⟩
          · subst hi
            have u0 := L5.cell 0
            have u1 := L5.cell 1
            have u2 := L5.cell 2
            have u3 := L5.cell 3
            have u4 := L5.cell 4
            simp only [List.getElem?_cons_zero, List.getElem?_cons_succ] at u0 u1 u2 u3 u4
            have y0 := L4.cell 0
            have y1 := L4.cell 1
            have y2 := L4.cell 2
            have y3 := L4.cell 3
            simp only [List.getElem?_cons_zero, List.getElem?_cons_succ] at y0 y1 y2 y3
            have f0 := L4.frozen 0
            have f1 := L4.frozen 1
            have f2 := L4.frozen 2
            have f3 := L4.frozen 3
            have hG8 := (grown_set (g := W.heap.size) (i := 3) (u := .int .i64 0) (grown_set (g := W.heap.size) (i := 2) (u := .int .i64 0) (grown_set (g := W.heap.size) (i := 1) (u := .int .i64 n1) (grown_set (g := W.heap.size) (i := 0) (u := .int .i64 6) (World.grownBy.refl WA (some W.heap.size))))))
            have hEE := EA.wrote hG8 (by omega) (by omega)
            have hGG := grown_own G hG8 (by omega)
            have hLS := ((((L4.set 0 (.int .i64 6)).set 1 (.int .i64 n1)).set 2 (.int .i64 0)).set 3 (.int .i64 0))
            simp only [List.set_cons_zero, List.set_cons_succ] at hLS
            obtain ⟨W8, hW8⟩ : ∃ W8, ((((WA.setCell ⟨W.heap.size, 0, none⟩ (.int .i64 6)).setCell ⟨W.heap.size, 1, none⟩ (.int .i64 n1)).setCell ⟨W.heap.size, 2, none⟩ (.int .i64 0)).setCell ⟨W.heap.size, 3, none⟩ (.int .i64 0)) = W8 := ⟨_, rfl⟩
            rw [hW8] at hEE hGG hLS
            have HW8 := Lib.hid hW8
            have HLS := Lib.hid hLS
            clear hG8 L4 G hW8 hLS
            repeat (first | go_values | go_skip | go_guarded | go_step | go_upon | simp only [])
            rw [HW8.out]
            have hLS := HLS.out
            have x0 := hLS.cell 0
            have x1 := hLS.cell 1
            have x2 := hLS.cell 2
            have x3 := hLS.cell 3
            simp only [List.getElem?_cons_zero, List.getElem?_cons_succ] at x0 x1 x2 x3
            refine bodyPost_ret (v := .agg #[.int .i64 6, .int .i64 n1, .int .i64 0, .int .i64 0]) (by simp [results, Tryd.results42, go_sem, x0, x1, x2, x3]) rfl ?_
            exact ⟨⟨6, n1, 0, 0⟩, rfl, hEE.mono (by omega), hGG⟩
          · rcases hi with rfl | rfl | rfl
            all_goals
              have u0 := L5.cell 0
              have u1 := L5.cell 1
              have u2 := L5.cell 2
              have u3 := L5.cell 3
              have u4 := L5.cell 4
              simp only [List.getElem?_cons_zero, List.getElem?_cons_succ] at u0 u1 u2 u3 u4
              have y0 := L4.cell 0
              have y1 := L4.cell 1
              have y2 := L4.cell 2
              have y3 := L4.cell 3
              simp only [List.getElem?_cons_zero, List.getElem?_cons_succ] at y0 y1 y2 y3
              have f0 := L4.frozen 0
              have f1 := L4.frozen 1
              have f2 := L4.frozen 2
              have f3 := L4.frozen 3
              have hG8 := (grown_set (g := W.heap.size) (i := 3) (u := .int .i64 0) (grown_set (g := W.heap.size) (i := 2) (u := .int .i64 0) (grown_set (g := W.heap.size) (i := 1) (u := .int .i64 n1) (grown_set (g := W.heap.size) (i := 0) (u := .int .i64 3) (World.grownBy.refl WA (some W.heap.size))))))
              have hEE := EA.wrote hG8 (by omega) (by omega)
              have hGG := grown_own G hG8 (by omega)
              have hLS := ((((L4.set 0 (.int .i64 3)).set 1 (.int .i64 n1)).set 2 (.int .i64 0)).set 3 (.int .i64 0))
              simp only [List.set_cons_zero, List.set_cons_succ] at hLS
              obtain ⟨W8, hW8⟩ : ∃ W8, ((((WA.setCell ⟨W.heap.size, 0, none⟩ (.int .i64 3)).setCell ⟨W.heap.size, 1, none⟩ (.int .i64 n1)).setCell ⟨W.heap.size, 2, none⟩ (.int .i64 0)).setCell ⟨W.heap.size, 3, none⟩ (.int .i64 0)) = W8 := ⟨_, rfl⟩
              rw [hW8] at hEE hGG hLS
              have HW8 := Lib.hid hW8
              have HLS := Lib.hid hLS
              clear hG8 L4 G hW8 hLS
              repeat (first | go_values | go_skip | go_guarded | go_step | go_upon | simp only [])
              rw [HW8.out]
              have hLS := HLS.out
              have x0 := hLS.cell 0
              have x1 := hLS.cell 1
              have x2 := hLS.cell 2
              have x3 := hLS.cell 3
              simp only [List.getElem?_cons_zero, List.getElem?_cons_succ] at x0 x1 x2 x3
              refine bodyPost_ret (v := .agg #[.int .i64 3, .int .i64 n1, .int .i64 0, .int .i64 0]) (by simp [results, Tryd.results42, go_sem, x0, x1, x2, x3]) rfl ?_
              exact ⟨⟨3, n1, 0, 0⟩, rfl, hEE.mono (by omega), hGG⟩
        · obtain ⟨j, hj, hjl⟩ := open_at ho
          have ho' : (0 : Int) ≤ openIx l := by omega
          rw [hj]
          have hj0 : (0 : Int) ≤ (j : Int) := by omega
          clear ho ho' hj
          go_wp2_with fail
          refine (one_env E4 6 (by omega) (by omega)).mono ?_
          rintro e W5 ⟨yes, rfl, E5, gr5⟩
          have L4 := L4.kept gr5 (ng.out _ (by omega))
          have L5 := L5.kept gr5 (ng.out _ (by omega))
          have RL := SlcR.gr RL HXL.out gr5
          have G := grown_trans G gr5
          clear E4 gr5
          cases yes
          · obtain ⟨b, off, rfl, hb, hcell⟩ := LotsR.el RL (by omega)
            have hcx := hcell j hjl
            have hjb := lot_bounds (Gl.all _ (List.getElem_mem hjl))
            obtain ⟨z, hze⟩ : ∃ z, z = l[j] := ⟨_, rfl⟩
            rw [← hze] at hcx hjb
            obtain ⟨_, _, hz0, hz1, _⟩ := hjb
            obtain ⟨c0, c1, c2, c3, c4⟩ := hcx
            have q0 := c0 (Since.start _ _)
            have q1 := c1 (Since.start _ _)
            have q2 := c2 (Since.start _ _)
            have q3 := c3 (Since.start _ _)
            have q4 := c4 (Since.start _ _)
            simp only [Since.start] at q0 q1 q2 q3 q4
            have hji : (j : Int) < l.length := by omega
            clear c0 c1 c2 c3 c4 hze hcell
            go_wp2_with fail
            refine (l29Least_any z W5 hz0 hz1).mono ?_
            rintro e W6 ⟨rfl, hb6⟩
            generalize leastV z = lv
            go_wp2_with fail
            refine (l1Least_any _ _ W6).mono ?_
            rintro e W7 ⟨⟨least, rfl⟩, hb7⟩
            have b7 := bthen hb6 hb7
            have E7 := E5.below b7
            have L4 := L4.below b7 L4.lt
            have L5 := L5.below b7 L5.lt
            have RL := SlcR.then RL b7
            have G := grown_trans G (grownAny b7 _)
            clear E5 hb6 hb7 b7 q0 q1 q2 q3 q4
            go_wp2_with fail
            refine (one_env E7 4 (by omega) (by omega)).mono ?_
            rintro e WH ⟨yes, rfl, EH, gr8⟩
            have L4 := L4.kept gr8 (ng.out _ (by omega))
            have L5 := L5.kept gr8 (ng.out _ (by omega))
            have RL := SlcR.gr RL HXL.out gr8
            have G := grown_trans G gr8
            clear E7 gr8
            cases yes
            · go_wp2_with fail
              have hXm := rowsX HR.out HXL.out (X := [g, W.heap.size]) (by intro k hk hne; simp only [List.mem_cons, List.not_mem_nil, or_false] at hk; omega)
              have HXm := Lib.hid hXm
              have H0 : Hid (0 < l.length) := by rw [Hid]; omega
              have HJ := Lib.hid hjl
              clear hXm
              refine wp_region_factsR (Dr w WH g A bs cap (m + 22 + 2 + 2 + 2) 2 19 [g, W.heap.size] [Room.lies 18 W.heap.size 39 [.int .i64 0, .int .i64 0, .int .i64 0, .int .i64 0]]) (fun i w1 w2 => i ∉ [18] → w1.grownBy w2 (some g)) (by kernel_rfl) (by kernel_rfl) (by kernel_rfl) (Dr.start EH (fun p hp => by simp only [List.mem_singleton] at hp; subst hp; exact ⟨ng.out _ (by omega), L4⟩)) ?_
              simp only [fillOps, Act.put, List.setIfInBounds_toArray, List.set_cons_zero, List.set_cons_succ, Nat.zero_add, Nat.reduceAdd]
              apply wpFactsR_val
              case h1 =>
                intro vs L9 w9 hG9 hC9 hB K9 hK9
                simp only [Act.put, List.setIfInBounds_toArray, List.set_cons_zero, List.set_cons_succ] at hK9
                go_simp
                exact hK9 _ _ rfl (hC9.stay hG9.self (by decide)) (fun _ => World.grownBy.refl _ _)
              refine wpFactsR_some [18] (fun v w9 => ∃ (b : Nat) (l : List Int), v = .slice (some ⟨b, 0, none⟩) 4 4 ∧ l.length = 4 ∧ Lies w9 b 3 (encIs l) ∧ b ≠ g) ?_ (fun vs L9 w9 hG9 hC9 hB K9 hK9 => ?_) ?_
              next =>
                intro i9 hi9 hb9 ha9 v w1 w2 hv hT9
                have hb := hT9 (fun hm => by
                  simp only [List.mem_cons, List.not_mem_nil, or_false] at hm hb9
                  subst hm
                  · exact hb9 (by simp))
                obtain ⟨b, l, q1, q2, q3, q4⟩ := hv
                exact ⟨b, l, q1, q2, q3.kept hb (by intro e; injection e with e; exact q4 e), q4⟩
              next =>
                simp only [Act.put, List.setIfInBounds_toArray, List.set_cons_zero, List.set_cons_succ] at hK9
                go_simp
                exact hK9 _ _ _ rfl ⟨w9.heap.size, [5, 17, 999, 1000], rfl, rfl, Lies.new w9 3 _, by have := hC9.env.lt; omega⟩ (hC9.alloc hG9.self (by decide) _) (fun _ => World.grownBy_alloc _ _ _)
              refine wpFactsR_some [] (fun v _ => ∃ z : Int, v = .int .i64 z) ?_ (fun vs L9 w9 hG9 hC9 hB K9 hK9 => ?_) ?_
              next =>
                intro i9 hi9 hb9 ha9 v w1 w2 hv hT9
                exact hv
              next =>
                have d0 := FactN.eq (hB 0 _ (by kernel_rfl) (by kernel_rfl) rfl (by decide))
                simp only [d0] at hK9 ⊢
                simp only [Act.put, List.setIfInBounds_toArray, List.set_cons_zero, List.set_cons_succ] at hK9
                obtain ⟨b1, l1, e1, el1, eL1, en1⟩ := hB 1 _ (by kernel_rfl) (by kernel_rfl) rfl (by decide)
                simp only [e1] at hK9 ⊢
                go_simp
                refine (among_lies hC9.env b1 4 l1 el1 eL1 en1 (by omega) (by omega) (by have := hC9.cnt; omega)).mono ?_
                rintro en w8 ⟨x8, rfl, hE8, hg8⟩
                exact hK9 _ _ _ rfl ⟨_, rfl⟩ (hC9.call hG9.self (by decide) hE8 (by have := hC9.cnt; omega) hg8 (by simp)) (fun _ => hg8)
              apply wpFactsR_val
              case h1 =>
                intro vs L9 w9 hG9 hC9 hB K9 hK9
                simp only [Act.put, List.setIfInBounds_toArray, List.set_cons_zero, List.set_cons_succ] at hK9
                go_simp
                exact hK9 _ _ rfl (hC9.stay hG9.self (by decide)) (fun _ => World.grownBy.refl _ _)
              apply wpFactsR_val
              case h1 =>
                intro vs L9 w9 hG9 hC9 hB K9 hK9
                simp only [Act.put, List.setIfInBounds_toArray, List.set_cons_zero, List.set_cons_succ] at hK9
                go_simp
                exact hK9 _ _ rfl (hC9.stay hG9.self (by decide)) (fun _ => World.grownBy.refl _ _)
              apply wpFactsR_val
              case h1 =>
                intro vs L9 w9 hG9 hC9 hB K9 hK9
                simp only [Act.put, List.setIfInBounds_toArray, List.set_cons_zero, List.set_cons_succ] at hK9
                go_simp
                exact hK9 _ _ rfl (hC9.stay hG9.self (by decide)) (fun _ => World.grownBy.refl _ _)
              apply wpFactsR_val
              case h1 =>
                intro vs L9 w9 hG9 hC9 hB K9 hK9
                simp only [Act.put, List.setIfInBounds_toArray, List.set_cons_zero, List.set_cons_succ] at hK9
                go_simp
                exact hK9 _ _ rfl (hC9.stay hG9.self (by decide)) (fun _ => World.grownBy.refl _ _)
              refine wpFactsR_some [] (fun v _ => ∃ z : Int, v = .int .i64 z) ?_ (fun vs L9 w9 hG9 hC9 hB K9 hK9 => ?_) ?_
              next =>
                intro i9 hi9 hb9 ha9 v w1 w2 hv hT9
                exact hv
              next =>
                have d6 := FactN.eq (hB 6 _ (by kernel_rfl) (by kernel_rfl) rfl (by decide))
                simp only [d6] at hK9 ⊢
                simp only [Act.put, List.setIfInBounds_toArray, List.set_cons_zero, List.set_cons_succ] at hK9
                go_simp
                exact hK9 _ _ _ rfl ⟨_, rfl⟩ (hC9.stay hG9.self (by decide)) (fun _ => World.grownBy.refl _ _)
              apply wpFactsR_val
              case h1 =>
                intro vs L9 w9 hG9 hC9 hB K9 hK9
                simp only [Act.put, List.setIfInBounds_toArray, List.set_cons_zero, List.set_cons_succ] at hK9
                go_simp
                exact hK9 _ _ rfl (hC9.stay hG9.self (by decide)) (fun _ => World.grownBy.refl _ _)
              refine wpFactsR_some [] (fun v _ => ∃ z : Int, v = .int .i64 z) ?_ (fun vs L9 w9 hG9 hC9 hB K9 hK9 => ?_) ?_
              next =>
                intro i9 hi9 hb9 ha9 v w1 w2 hv hT9
                exact hv
              next =>
                have d8 := FactN.eq (hB 8 _ (by kernel_rfl) (by kernel_rfl) rfl (by decide))
                simp only [d8] at hK9 ⊢
                simp only [Act.put, List.setIfInBounds_toArray, List.set_cons_zero, List.set_cons_succ] at hK9
                go_simp
                exact hK9 _ _ _ rfl ⟨_, rfl⟩ (hC9.stay hG9.self (by decide)) (fun _ => World.grownBy.refl _ _)
              apply wpFactsR_val
              case h1 =>
                intro vs L9 w9 hG9 hC9 hB K9 hK9
                simp only [Act.put, List.setIfInBounds_toArray, List.set_cons_zero, List.set_cons_succ] at hK9
                go_simp
                exact hK9 _ _ rfl (hC9.stay hG9.self (by decide)) (fun _ => World.grownBy.refl _ _)
              apply wpFactsR_val
              case h1 =>
                intro vs L9 w9 hG9 hC9 hB K9 hK9
                simp only [Act.put, List.setIfInBounds_toArray, List.set_cons_zero, List.set_cons_succ] at hK9
                go_simp
                exact hK9 _ _ rfl (hC9.stay hG9.self (by decide)) (fun _ => World.grownBy.refl _ _)
              apply wpFactsR_val
              case h1 =>
                intro vs L9 w9 hG9 hC9 hB K9 hK9
                have d10 := FactN.eq (hB 10 _ (by kernel_rfl) (by kernel_rfl) rfl (by decide))
                have d11 := FactN.eq (hB 11 _ (by kernel_rfl) (by kernel_rfl) rfl (by decide))
                simp only [d10, d11] at hK9 ⊢
                simp only [Act.put, List.setIfInBounds_toArray, List.set_cons_zero, List.set_cons_succ] at hK9
                go_simp
                exact hK9 _ _ rfl (hC9.stay hG9.self (by decide)) (fun _ => World.grownBy.refl _ _)
              apply wpFactsR_val
              case h1 =>
                intro vs L9 w9 hG9 hC9 hB K9 hK9
                have d12 := FactN.eq (hB 12 _ (by kernel_rfl) (by kernel_rfl) rfl (by decide))
                simp only [d12] at hK9 ⊢
                simp only [Act.put, List.setIfInBounds_toArray, List.set_cons_zero, List.set_cons_succ] at hK9
                go_simp
                exact hK9 _ _ rfl (hC9.stay hG9.self (by decide)) (fun _ => World.grownBy.refl _ _)
              refine wpFactsR_val (.int .i64 (l[j]).r) (fun vs L9 w9 hG9 hC9 hB K9 hK9 => ?_) ?_
              next =>
                have d13 := FactN.eq (hB 13 _ (by kernel_rfl) (by kernel_rfl) rfl (by decide))
                simp only [d13] at hK9 ⊢
                have hr9 := hC9.reads RL HXm.out
                obtain ⟨b9, off9, e0, hb9, hc9⟩ := hr9.at_ H0.out
                have e9 : b9 = b ∧ off9 = off := by injection e0 with e0; injection e0 with q1 q2; exact ⟨q1.symm, q2.symm⟩
                clear e0 hr9
                obtain ⟨rfl, rfl⟩ := e9
                have q1 : w9.cell? ⟨b9, off9 + j * 5 + 1, none⟩ = some (.int .i64 (l[j]).r) := by have h := hc9 (j * 5 + 1) (.int .i64 (l[j]).r) (by rw [flat_at Lot.enc 5 Lot.enc_len l j HJ.out 1 (by omega)]; rfl); simpa [Nat.add_assoc] using h
                go_simp
                exact hK9 _ _ rfl (hC9.stay hG9.self (by decide)) (fun _ => World.grownBy.refl _ _)
              refine wpFactsR_some [18] (fun v w9 => ∃ (b : Nat) (l : List Int), v = .slice (some ⟨b, 0, none⟩) 6 6 ∧ l.length = 6 ∧ Lies w9 b 3 (encIs l) ∧ b ≠ g) ?_ (fun vs L9 w9 hG9 hC9 hB K9 hK9 => ?_) ?_
              next =>
                intro i9 hi9 hb9 ha9 v w1 w2 hv hT9
                have hb := hT9 (fun hm => by
                  simp only [List.mem_cons, List.not_mem_nil, or_false] at hm hb9
                  subst hm
                  · exact hb9 (by simp))
                obtain ⟨b, l, q1, q2, q3, q4⟩ := hv
                exact ⟨b, l, q1, q2, q3.kept hb (by intro e; injection e with e; exact q4 e), q4⟩
              next =>
                have d4 := FactN.eq (hB 4 _ (by kernel_rfl) (by kernel_rfl) rfl (by decide))
                have d5 := FactN.eq (hB 5 _ (by kernel_rfl) (by kernel_rfl) rfl (by decide))
                have d14 := FactN.eq (hB 14 _ (by kernel_rfl) (by kernel_rfl) rfl (by decide))
                simp only [d4, d5, d14] at hK9 ⊢
                simp only [Act.put, List.setIfInBounds_toArray, List.set_cons_zero, List.set_cons_succ] at hK9
                obtain ⟨z7, e7⟩ := hB 7 _ (by kernel_rfl) (by kernel_rfl) rfl (by decide)
                obtain ⟨z9, e9⟩ := hB 9 _ (by kernel_rfl) (by kernel_rfl) rfl (by decide)
                simp only [e7, e9] at hK9 ⊢
                go_simp
                exact hK9 _ _ _ rfl ⟨w9.heap.size, [_, _, _, _, 99999, _], rfl, rfl, Lies.new w9 3 _, by have := hC9.env.lt; omega⟩ (hC9.alloc hG9.self (by decide) _) (fun _ => World.grownBy_alloc _ _ _)
              refine wpFactsR_some [] (fun v _ => ∃ z : Int, v = .int .i64 z) ?_ (fun vs L9 w9 hG9 hC9 hB K9 hK9 => ?_) ?_
              next =>
                intro i9 hi9 hb9 ha9 v w1 w2 hv hT9
                exact hv
              next =>
                have d3 := FactN.eq (hB 3 _ (by kernel_rfl) (by kernel_rfl) rfl (by decide))
                simp only [d3] at hK9 ⊢
                simp only [Act.put, List.setIfInBounds_toArray, List.set_cons_zero, List.set_cons_succ] at hK9
                obtain ⟨b15, l15, e15, el15, eL15, en15⟩ := hB 15 _ (by kernel_rfl) (by kernel_rfl) rfl (by decide)
                simp only [e15] at hK9 ⊢
                go_simp
                refine (among_lies hC9.env b15 6 l15 el15 eL15 en15 (by omega) (by omega) (by have := hC9.cnt; omega)).mono ?_
                rintro en w8 ⟨x8, rfl, hE8, hg8⟩
                exact hK9 _ _ _ rfl ⟨_, rfl⟩ (hC9.call hG9.self (by decide) hE8 (by have := hC9.cnt; omega) hg8 (by simp)) (fun _ => hg8)
              refine wpFactsR_some [] (fun v _ => ∃ s : ASt, v = .agg #[.int .i64 s.k, .int .i64 s.i, .int .i64 s.b, .int .i64 s.v]) ?_ (fun vs L9 w9 hG9 hC9 hB K9 hK9 => ?_) ?_
              next =>
                intro i9 hi9 hb9 ha9 v w1 w2 hv hT9
                exact hv
              next =>
                simp only [Act.put, List.setIfInBounds_toArray, List.set_cons_zero, List.set_cons_succ] at hK9
                obtain ⟨z2, e2⟩ := hB 2 _ (by kernel_rfl) (by kernel_rfl) rfl (by decide)
                obtain ⟨z16, e16⟩ := hB 16 _ (by kernel_rfl) (by kernel_rfl) rfl (by decide)
                simp only [e2, e16] at hK9 ⊢
                go_simp
                exact hK9 _ _ _ rfl ⟨⟨_, _, _, _⟩, rfl⟩ (hC9.stay hG9.self (by decide)) (fun _ => World.grownBy.refl _ _)
              refine wpFactsR_some [] (fun _ w9 => ∃ s : ASt, Lies w9 W.heap.size 39 s.enc) ?_ (fun vs L9 w9 hG9 hC9 hB K9 hK9 => ?_) ?_
              next =>
                intro i9 hi9 hb9 ha9 v w1 w2 hv hT9
                have hb := hT9 (fun hm => by
                  simp only [List.mem_cons, List.not_mem_nil, or_false] at hm hb9
                  subst hm
                  · exact hi9 rfl)
                obtain ⟨s, q⟩ := hv
                exact ⟨s, q.kept hb (by intro e; injection e; omega)⟩
              next =>
                simp only [Act.put, List.setIfInBounds_toArray, List.set_cons_zero, List.set_cons_succ] at hK9
                obtain ⟨s17, e17⟩ := hB 17 _ (by kernel_rfl) (by kernel_rfl) rfl (by decide)
                simp only [e17] at hK9 ⊢
                have hL9 : Lies w9 W.heap.size 39 [.int .i64 0, .int .i64 0, .int .i64 0, .int .i64 0] := (hC9.room (Room.lies 18 W.heap.size 39 [.int .i64 0, .int .i64 0, .int .i64 0, .int .i64 0]) (by simp)).2 hG9.self
                have y0 := hL9.cell 0
                have y1 := hL9.cell 1
                have y2 := hL9.cell 2
                have y3 := hL9.cell 3
                simp only [List.getElem?_cons_zero, List.getElem?_cons_succ] at y0 y1 y2 y3
                have f0 := hL9.frozen 0
                have f1 := hL9.frozen 1
                have f2 := hL9.frozen 2
                have f3 := hL9.frozen 3
                have hN9 : Lies _ W.heap.size 39 [.int .i64 s17.k, .int .i64 s17.i, .int .i64 s17.b, .int .i64 s17.v] := ((((hL9.set 0 (.int .i64 s17.k)).set 1 (.int .i64 s17.i)).set 2 (.int .i64 s17.b)).set 3 (.int .i64 s17.v))
                have hG8 := Lib.hid (grown_set (g := W.heap.size) (i := 3) (u := .int .i64 s17.v) (grown_set (g := W.heap.size) (i := 2) (u := .int .i64 s17.b) (grown_set (g := W.heap.size) (i := 1) (u := .int .i64 s17.i) (grown_set (g := W.heap.size) (i := 0) (u := .int .i64 s17.k) (World.grownBy.refl w9 (some W.heap.size))))))
                have hN8 := Lib.hid hN9
                clear hN9 hL9
                go_simp
                exact hK9 _ undef _ rfl ⟨s17, hN8.out⟩ (hC9.wrote hG9.self (by decide) hG8.out (fun b e => by injection e with e; subst e; exact ⟨(by omega), (by omega), .inl (by simp)⟩) (by intro p hp e; simp only [List.mem_cons, List.not_mem_nil, or_false] at hp; first | (subst hp; exact .inl rfl) | (rcases hp with rfl | rfl <;> first | exact .inl rfl | exact absurd (Option.some.inj e) (by omega)))) (fun hq => (hq (by decide)).elim)
              refine wpFactsR_nil fun vs Lq w9 hL9 hC9 hB => ?_
              obtain ⟨s, hS⟩ := hB 18 _ rfl rfl (by decide)
              have hEE := hC9.le
              have hGG := drawn_gr G hC9 (by intro k hk hne; simp only [List.mem_cons, List.not_mem_nil, or_false] at hk; omega) EH
              clear hB hL9 hC9
              have hS : Lies w9 W.heap.size 39 [.int .i64 s.k, .int .i64 s.i, .int .i64 s.b, .int .i64 s.v] := hS
              have y0 := hS.cell 0
              have y1 := hS.cell 1
              have y2 := hS.cell 2
              have y3 := hS.cell 3
              simp only [List.getElem?_cons_zero, List.getElem?_cons_succ] at y0 y1 y2 y3
              clear hS
              repeat (first | go_step)
              refine bodyPost_ret (v := .agg #[.int .i64 s.k, .int .i64 s.i, .int .i64 s.b, .int .i64 s.v]) (by simp [results, Tryd.results42, go_sem, y0, y1, y2, y3]) rfl ?_
              exact ⟨s, rfl, hEE.mono (by omega), hGG⟩
            · skip
              have y0 := L4.cell 0
              have y1 := L4.cell 1
              have y2 := L4.cell 2
              have y3 := L4.cell 3
              simp only [List.getElem?_cons_zero, List.getElem?_cons_succ] at y0 y1 y2 y3
              have f0 := L4.frozen 0
              have f1 := L4.frozen 1
              have f2 := L4.frozen 2
              have f3 := L4.frozen 3
              have hG8 := (grown_set (g := W.heap.size) (i := 3) (u := .int .i64 0) (grown_set (g := W.heap.size) (i := 2) (u := .int .i64 0) (grown_set (g := W.heap.size) (i := 1) (u := .int .i64 0) (grown_set (g := W.heap.size) (i := 0) (u := .int .i64 5) (World.grownBy.refl WH (some W.heap.size))))))
              have hEE := EH.wrote hG8 (by omega) (by omega)
              have hGG := grown_own G hG8 (by omega)
              have hLS := ((((L4.set 0 (.int .i64 5)).set 1 (.int .i64 0)).set 2 (.int .i64 0)).set 3 (.int .i64 0))
              simp only [List.set_cons_zero, List.set_cons_succ] at hLS
              obtain ⟨W8, hW8⟩ : ∃ W8, ((((WH.setCell ⟨W.heap.size, 0, none⟩ (.int .i64 5)).setCell ⟨W.heap.size, 1, none⟩ (.int .i64 0)).setCell ⟨W.heap.size, 2, none⟩ (.int .i64 0)).setCell ⟨W.heap.size, 3, none⟩ (.int .i64 0)) = W8 := ⟨_, rfl⟩
              rw [hW8] at hEE hGG hLS
              have HW8 := Lib.hid hW8
              have HLS := Lib.hid hLS
              clear hG8 L4 G hW8 hLS
              repeat (first | go_values | go_skip | go_guarded | go_step | go_upon | simp only [])
              rw [HW8.out]
              have hLS := HLS.out
              have x0 := hLS.cell 0
              have x1 := hLS.cell 1
              have x2 := hLS.cell 2
              have x3 := hLS.cell 3
              simp only [List.getElem?_cons_zero, List.getElem?_cons_succ] at x0 x1 x2 x3
              refine bodyPost_ret (v := .agg #[.int .i64 5, .int .i64 0, .int .i64 0, .int .i64 0]) (by simp [results, Tryd.results42, go_sem, x0, x1, x2, x3]) rfl ?_
              exact ⟨⟨5, 0, 0, 0⟩, rfl, hEE.mono (by omega), hGG⟩
          · skip
            go_wp2_with fail
            refine (pick_env E5 8 (by omega) (by omega)).mono ?_
            rintro e WA ⟨i, rfl, hi, EA, grA⟩
            have L4 := L4.kept grA (ng.out _ (by omega))
            have L5 := L5.kept grA (ng.out _ (by omega))
            have G := grown_trans G grA
            clear grA E5
            have hi' : (i = 0 ∨ i = 1 ∨ i = 2) ∨ i = 3 ∨ i = 4 ∨ (i = 5 ∨ i = 6 ∨ i = 7) := by omega
            clear hi
            rcases hi' with hi | hi | hi | hi
            · rcases hi with rfl | rfl | rfl
              all_goals
                go_wp2_with fail
                refine (among_env EA [1, 7, 20, 33, 98, 99, 100] 7 rfl _ rfl (by omega) (by omega) (by omega)).mono ?_
                rintro e WB ⟨z1, rfl, hz, EB, gr⟩
                have L4 := L4.kept gr (ng.out _ (by omega))
                have G := grown_trans G gr
                clear gr hz EA
                go_wp2_with fail
                refine (among_env EB [0, 1, 50, 99999, 100000] 5 rfl _ rfl (by omega) (by omega) (by omega)).mono ?_
                rintro e WC ⟨z2, rfl, hz, EC, gr⟩
                have L4 := L4.kept gr (ng.out _ (by omega))
                have G := grown_trans G gr
                clear gr hz EB
                have y0 := L4.cell 0
                have y1 := L4.cell 1
                have y2 := L4.cell 2
                have y3 := L4.cell 3
                simp only [List.getElem?_cons_zero, List.getElem?_cons_succ] at y0 y1 y2 y3
                have f0 := L4.frozen 0
                have f1 := L4.frozen 1
                have f2 := L4.frozen 2
                have f3 := L4.frozen 3
                have hG8 := (grown_set (g := W.heap.size) (i := 3) (u := .int .i64 z2) (grown_set (g := W.heap.size) (i := 2) (u := .int .i64 0) (grown_set (g := W.heap.size) (i := 1) (u := .int .i64 z1) (grown_set (g := W.heap.size) (i := 0) (u := .int .i64 1) (World.grownBy.refl WC (some W.heap.size))))))
                have hEE := EC.wrote hG8 (by omega) (by omega)
                have hGG := grown_own G hG8 (by omega)
                have hLS := ((((L4.set 0 (.int .i64 1)).set 1 (.int .i64 z1)).set 2 (.int .i64 0)).set 3 (.int .i64 z2))
                simp only [List.set_cons_zero, List.set_cons_succ] at hLS
                obtain ⟨W8, hW8⟩ : ∃ W8, ((((WC.setCell ⟨W.heap.size, 0, none⟩ (.int .i64 1)).setCell ⟨W.heap.size, 1, none⟩ (.int .i64 z1)).setCell ⟨W.heap.size, 2, none⟩ (.int .i64 0)).setCell ⟨W.heap.size, 3, none⟩ (.int .i64 z2)) = W8 := ⟨_, rfl⟩
                rw [hW8] at hEE hGG hLS
                have HW8 := Lib.hid hW8
                have HLS := Lib.hid hLS
                clear hG8 L4 G hW8 hLS
                repeat (first | go_values | go_skip | go_guarded | go_step | go_upon | simp only [])
                rw [HW8.out]
                have hLS := HLS.out
                have x0 := hLS.cell 0
                have x1 := hLS.cell 1
                have x2 := hLS.cell 2
                have x3 := hLS.cell 3
                simp only [List.getElem?_cons_zero, List.getElem?_cons_succ] at x0 x1 x2 x3
                refine bodyPost_ret (v := .agg #[.int .i64 1, .int .i64 z1, .int .i64 0, .int .i64 z2]) (by simp [results, Tryd.results42, go_sem, x0, x1, x2, x3]) rfl ?_
                exact ⟨⟨1, z1, 0, z2⟩, rfl, hEE.mono (by omega), hGG⟩
            · subst hi
              have u0 := L5.cell 0
              have u1 := L5.cell 1
              have u2 := L5.cell 2
              have u3 := L5.cell 3
              have u4 := L5.cell 4
              simp only [List.getElem?_cons_zero, List.getElem?_cons_succ] at u0 u1 u2 u3 u4
              have y0 := L4.cell 0
              have y1 := L4.cell 1
              have y2 := L4.cell 2
              have y3 := L4.cell 3
              simp only [List.getElem?_cons_zero, List.getElem?_cons_succ] at y0 y1 y2 y3
              have f0 := L4.frozen 0
              have f1 := L4.frozen 1
              have f2 := L4.frozen 2
              have f3 := L4.frozen 3
              have hG8 := (grown_set (g := W.heap.size) (i := 3) (u := .int .i64 0) (grown_set (g := W.heap.size) (i := 2) (u := .int .i64 0) (grown_set (g := W.heap.size) (i := 1) (u := .int .i64 n1) (grown_set (g := W.heap.size) (i := 0) (u := .int .i64 2) (World.grownBy.refl WA (some W.heap.size))))))
              have hEE := EA.wrote hG8 (by omega) (by omega)
              have hGG := grown_own G hG8 (by omega)
              have hLS := ((((L4.set 0 (.int .i64 2)).set 1 (.int .i64 n1)).set 2 (.int .i64 0)).set 3 (.int .i64 0))
              simp only [List.set_cons_zero, List.set_cons_succ] at hLS
              obtain ⟨W8, hW8⟩ : ∃ W8, ((((WA.setCell ⟨W.heap.size, 0, none⟩ (.int .i64 2)).setCell ⟨W.heap.size, 1, none⟩ (.int .i64 n1)).setCell ⟨W.heap.size, 2, none⟩ (.int .i64 0)).setCell ⟨W.heap.size, 3, none⟩ (.int .i64 0)) = W8 := ⟨_, rfl⟩
              rw [hW8] at hEE hGG hLS
              have HW8 := Lib.hid hW8
              have HLS := Lib.hid hLS
              clear hG8 L4 G hW8 hLS
              repeat (first | go_values | go_skip | go_guarded | go_step | go_upon | simp only [])
              rw [HW8.out]
              have hLS := HLS.out
              have x0 := hLS.cell 0
              have x1 := hLS.cell 1
              have x2 := hLS.cell 2
              have x3 := hLS.cell 3
              simp only [List.getElem?_cons_zero, List.getElem?_cons_succ] at x0 x1 x2 x3
              refine bodyPost_ret (v := .agg #[.int .i64 2, .int .i64 n1, .int .i64 0, .int .i64 0]) (by simp [results, Tryd.results42, go_sem, x0, x1, x2, x3]) rfl ?_
              exact ⟨⟨2, n1, 0, 0⟩, rfl, hEE.mono (by omega), hGG⟩
            · subst hi
              have u0 := L5.cell 0
              have u1 := L5.cell 1
              have u2 := L5.cell 2
              have u3 := L5.cell 3
              have u4 := L5.cell 4
              simp only [List.getElem?_cons_zero, List.getElem?_cons_succ] at u0 u1 u2 u3 u4
              have y0 := L4.cell 0
              have y1 := L4.cell 1
              have y2 := L4.cell 2
              have y3 := L4.cell 3
              simp only [List.getElem?_cons_zero, List.getElem?_cons_succ] at y0 y1 y2 y3
              have f0 := L4.frozen 0
              have f1 := L4.frozen 1
              have f2 := L4.frozen 2
              have f3 := L4.frozen 3
              have hG8 := (grown_set (g := W.heap.size) (i := 3) (u := .int .i64 0) (grown_set (g := W.heap.size) (i := 2) (u := .int .i64 0) (grown_set (g := W.heap.size) (i := 1) (u := .int .i64 n1) (grown_set (g := W.heap.size) (i := 0) (u := .int .i64 6) (World.grownBy.refl WA (some W.heap.size))))))
              have hEE := EA.wrote hG8 (by omega) (by omega)
              have hGG := grown_own G hG8 (by omega)
              have hLS := ((((L4.set 0 (.int .i64 6)).set 1 (.int .i64 n1)).set 2 (.int .i64 0)).set 3 (.int .i64 0))
              simp only [List.set_cons_zero, List.set_cons_succ] at hLS
              obtain ⟨W8, hW8⟩ : ∃ W8, ((((WA.setCell ⟨W.heap.size, 0, none⟩ (.int .i64 6)).setCell ⟨W.heap.size, 1, none⟩ (.int .i64 n1)).setCell ⟨W.heap.size, 2, none⟩ (.int .i64 0)).setCell ⟨W.heap.size, 3, none⟩ (.int .i64 0)) = W8 := ⟨_, rfl⟩
              rw [hW8] at hEE hGG hLS
              have HW8 := Lib.hid hW8
              have HLS := Lib.hid hLS
              clear hG8 L4 G hW8 hLS
              repeat (first | go_values | go_skip | go_guarded | go_step | go_upon | simp only [])
              rw [HW8.out]
              have hLS := HLS.out
              have x0 := hLS.cell 0
              have x1 := hLS.cell 1
              have x2 := hLS.cell 2
              have x3 := hLS.cell 3
              simp only [List.getElem?_cons_zero, List.getElem?_cons_succ] at x0 x1 x2 x3
              refine bodyPost_ret (v := .agg #[.int .i64 6, .int .i64 n1, .int .i64 0, .int .i64 0]) (by simp [results, Tryd.results42, go_sem, x0, x1, x2, x3]) rfl ?_
              exact ⟨⟨6, n1, 0, 0⟩, rfl, hEE.mono (by omega), hGG⟩
            · rcases hi with rfl | rfl | rfl
              all_goals
                have u0 := L5.cell 0
                have u1 := L5.cell 1
                have u2 := L5.cell 2
                have u3 := L5.cell 3
                have u4 := L5.cell 4
                simp only [List.getElem?_cons_zero, List.getElem?_cons_succ] at u0 u1 u2 u3 u4
                have y0 := L4.cell 0
                have y1 := L4.cell 1
                have y2 := L4.cell 2
                have y3 := L4.cell 3
                simp only [List.getElem?_cons_zero, List.getElem?_cons_succ] at y0 y1 y2 y3
                have f0 := L4.frozen 0
                have f1 := L4.frozen 1
                have f2 := L4.frozen 2
                have f3 := L4.frozen 3
                have hG8 := (grown_set (g := W.heap.size) (i := 3) (u := .int .i64 0) (grown_set (g := W.heap.size) (i := 2) (u := .int .i64 0) (grown_set (g := W.heap.size) (i := 1) (u := .int .i64 n1) (grown_set (g := W.heap.size) (i := 0) (u := .int .i64 3) (World.grownBy.refl WA (some W.heap.size))))))
                have hEE := EA.wrote hG8 (by omega) (by omega)
                have hGG := grown_own G hG8 (by omega)
                have hLS := ((((L4.set 0 (.int .i64 3)).set 1 (.int .i64 n1)).set 2 (.int .i64 0)).set 3 (.int .i64 0))
                simp only [List.set_cons_zero, List.set_cons_succ] at hLS
                obtain ⟨W8, hW8⟩ : ∃ W8, ((((WA.setCell ⟨W.heap.size, 0, none⟩ (.int .i64 3)).setCell ⟨W.heap.size, 1, none⟩ (.int .i64 n1)).setCell ⟨W.heap.size, 2, none⟩ (.int .i64 0)).setCell ⟨W.heap.size, 3, none⟩ (.int .i64 0)) = W8 := ⟨_, rfl⟩
                rw [hW8] at hEE hGG hLS
                have HW8 := Lib.hid hW8
                have HLS := Lib.hid hLS
                clear hG8 L4 G hW8 hLS
                repeat (first | go_values | go_skip | go_guarded | go_step | go_upon | simp only [])
                rw [HW8.out]
                have hLS := HLS.out
                have x0 := hLS.cell 0
                have x1 := hLS.cell 1
                have x2 := hLS.cell 2
                have x3 := hLS.cell 3
                simp only [List.getElem?_cons_zero, List.getElem?_cons_succ] at x0 x1 x2 x3
                refine bodyPost_ret (v := .agg #[.int .i64 3, .int .i64 n1, .int .i64 0, .int .i64 0]) (by simp [results, Tryd.results42, go_sem, x0, x1, x2, x3]) rfl ?_
                exact ⟨⟨3, n1, 0, 0⟩, rfl, hEE.mono (by omega), hGG⟩
      · go_wp2_with fail
        refine wp_region_factsR (Dr w W3 g A bs cap (m + 22 + 2) 2 16 [g, W.heap.size] [Room.lies 15 W.heap.size 39 [.int .i64 0, .int .i64 0, .int .i64 0, .int .i64 0]]) (fun i w1 w2 => i ∉ [15] → w1.grownBy w2 (some g)) (by kernel_rfl) (by kernel_rfl) (by kernel_rfl) (Dr.start E3 (fun p hp => by simp only [List.mem_singleton] at hp; subst hp; exact ⟨ng.out _ (by omega), L4⟩)) ?_
        simp only [fillOps, Act.put, List.setIfInBounds_toArray, List.set_cons_zero, List.set_cons_succ, Nat.zero_add, Nat.reduceAdd]
        apply wpFactsR_val
        case h1 =>
          intro vs L9 w9 hG9 hC9 hB K9 hK9
          simp only [Act.put, List.setIfInBounds_toArray, List.set_cons_zero, List.set_cons_succ] at hK9
          go_simp
          exact hK9 _ _ rfl (hC9.stay hG9.self (by decide)) (fun _ => World.grownBy.refl _ _)
        refine wpFactsR_some [15] (fun v w9 => ∃ (b : Nat) (l : List Int), v = .slice (some ⟨b, 0, none⟩) 4 4 ∧ l.length = 4 ∧ Lies w9 b 3 (encIs l) ∧ b ≠ g) ?_ (fun vs L9 w9 hG9 hC9 hB K9 hK9 => ?_) ?_
        next =>
          intro i9 hi9 hb9 ha9 v w1 w2 hv hT9
          have hb := hT9 (fun hm => by
            simp only [List.mem_cons, List.not_mem_nil, or_false] at hm hb9
            subst hm
            · exact hb9 (by simp))
          obtain ⟨b, l, q1, q2, q3, q4⟩ := hv
          exact ⟨b, l, q1, q2, q3.kept hb (by intro e; injection e with e; exact q4 e), q4⟩
        next =>
          simp only [Act.put, List.setIfInBounds_toArray, List.set_cons_zero, List.set_cons_succ] at hK9
          go_simp
          exact hK9 _ _ _ rfl ⟨w9.heap.size, [0, 7, 3, 4], rfl, rfl, Lies.new w9 3 _, by have := hC9.env.lt; omega⟩ (hC9.alloc hG9.self (by decide) _) (fun _ => World.grownBy_alloc _ _ _)
        refine wpFactsR_some [] (fun v _ => ∃ z : Int, v = .int .i64 z) ?_ (fun vs L9 w9 hG9 hC9 hB K9 hK9 => ?_) ?_
        next =>
          intro i9 hi9 hb9 ha9 v w1 w2 hv hT9
          exact hv
        next =>
          have d0 := FactN.eq (hB 0 _ (by kernel_rfl) (by kernel_rfl) rfl (by decide))
          simp only [d0] at hK9 ⊢
          simp only [Act.put, List.setIfInBounds_toArray, List.set_cons_zero, List.set_cons_succ] at hK9
          obtain ⟨b1, l1, e1, el1, eL1, en1⟩ := hB 1 _ (by kernel_rfl) (by kernel_rfl) rfl (by decide)
          simp only [e1] at hK9 ⊢
          go_simp
          refine (among_lies hC9.env b1 4 l1 el1 eL1 en1 (by omega) (by omega) (by have := hC9.cnt; omega)).mono ?_
          rintro en w8 ⟨x8, rfl, hE8, hg8⟩
          exact hK9 _ _ _ rfl ⟨_, rfl⟩ (hC9.call hG9.self (by decide) hE8 (by have := hC9.cnt; omega) hg8 (by simp)) (fun _ => hg8)
        apply wpFactsR_val
        case h1 =>
          intro vs L9 w9 hG9 hC9 hB K9 hK9
          simp only [Act.put, List.setIfInBounds_toArray, List.set_cons_zero, List.set_cons_succ] at hK9
          go_simp
          exact hK9 _ _ rfl (hC9.stay hG9.self (by decide)) (fun _ => World.grownBy.refl _ _)
        apply wpFactsR_val
        case h1 =>
          intro vs L9 w9 hG9 hC9 hB K9 hK9
          simp only [Act.put, List.setIfInBounds_toArray, List.set_cons_zero, List.set_cons_succ] at hK9
          go_simp
          exact hK9 _ _ rfl (hC9.stay hG9.self (by decide)) (fun _ => World.grownBy.refl _ _)
        apply wpFactsR_val
        case h1 =>
          intro vs L9 w9 hG9 hC9 hB K9 hK9
          have d4 := FactN.eq (hB 4 _ (by kernel_rfl) (by kernel_rfl) rfl (by decide))
          simp only [d4] at hK9 ⊢
          have q0 : w9.cell? ⟨h5, 0, none⟩ = some (.int .i64 n1) := (hC9.lies L5 nx5).cell 0
          simp only [Act.put, List.setIfInBounds_toArray, List.set_cons_zero, List.set_cons_succ] at hK9
          go_simp
          exact hK9 _ _ rfl (hC9.stay hG9.self (by decide)) (fun _ => World.grownBy.refl _ _)
        refine wpFactsR_some [15] (fun v w9 => ∃ (b : Nat) (l : List Int), v = .slice (some ⟨b, 0, none⟩) 3 3 ∧ l.length = 3 ∧ Lies w9 b 3 (encIs l) ∧ b ≠ g) ?_ (fun vs L9 w9 hG9 hC9 hB K9 hK9 => ?_) ?_
        next =>
          intro i9 hi9 hb9 ha9 v w1 w2 hv hT9
          have hb := hT9 (fun hm => by
            simp only [List.mem_cons, List.not_mem_nil, or_false] at hm hb9
            subst hm
            · exact hb9 (by simp))
          obtain ⟨b, l, q1, q2, q3, q4⟩ := hv
          exact ⟨b, l, q1, q2, q3.kept hb (by intro e; injection e with e; exact q4 e), q4⟩
        next =>
          have d5 := FactN.eq (hB 5 _ (by kernel_rfl) (by kernel_rfl) rfl (by decide))
          simp only [d5] at hK9 ⊢
          simp only [Act.put, List.setIfInBounds_toArray, List.set_cons_zero, List.set_cons_succ] at hK9
          go_simp
          exact hK9 _ _ _ rfl ⟨w9.heap.size, [0, _, 100], rfl, rfl, Lies.new w9 3 _, by have := hC9.env.lt; omega⟩ (hC9.alloc hG9.self (by decide) _) (fun _ => World.grownBy_alloc _ _ _)
        refine wpFactsR_some [] (fun v _ => ∃ z : Int, v = .int .i64 z) ?_ (fun vs L9 w9 hG9 hC9 hB K9 hK9 => ?_) ?_
        next =>
          intro i9 hi9 hb9 ha9 v w1 w2 hv hT9
          exact hv
        next =>
          have d3 := FactN.eq (hB 3 _ (by kernel_rfl) (by kernel_rfl) rfl (by decide))
          simp only [d3] at hK9 ⊢
          simp only [Act.put, List.setIfInBounds_toArray, List.set_cons_zero, List.set_cons_succ] at hK9
          obtain ⟨b6, l6, e6, el6, eL6, en6⟩ := hB 6 _ (by kernel_rfl) (by kernel_rfl) rfl (by decide)
          simp only [e6] at hK9 ⊢
          go_simp
          refine (among_lies hC9.env b6 3 l6 el6 eL6 en6 (by omega) (by omega) (by have := hC9.cnt; omega)).mono ?_
          rintro en w8 ⟨x8, rfl, hE8, hg8⟩
          exact hK9 _ _ _ rfl ⟨_, rfl⟩ (hC9.call hG9.self (by decide) hE8 (by have := hC9.cnt; omega) hg8 (by simp)) (fun _ => hg8)
        apply wpFactsR_val
        case h1 =>
          intro vs L9 w9 hG9 hC9 hB K9 hK9
          simp only [Act.put, List.setIfInBounds_toArray, List.set_cons_zero, List.set_cons_succ] at hK9
          go_simp
          exact hK9 _ _ rfl (hC9.stay hG9.self (by decide)) (fun _ => World.grownBy.refl _ _)
        refine wpFactsR_some [15] (fun v w9 => ∃ (b : Nat) (l : List Int), v = .slice (some ⟨b, 0, none⟩) 2 2 ∧ l.length = 2 ∧ Lies w9 b 3 (encIs l) ∧ b ≠ g) ?_ (fun vs L9 w9 hG9 hC9 hB K9 hK9 => ?_) ?_
        next =>
          intro i9 hi9 hb9 ha9 v w1 w2 hv hT9
          have hb := hT9 (fun hm => by
            simp only [List.mem_cons, List.not_mem_nil, or_false] at hm hb9
            subst hm
            · exact hb9 (by simp))
          obtain ⟨b, l, q1, q2, q3, q4⟩ := hv
          exact ⟨b, l, q1, q2, q3.kept hb (by intro e; injection e with e; exact q4 e), q4⟩
        next =>
          simp only [Act.put, List.setIfInBounds_toArray, List.set_cons_zero, List.set_cons_succ] at hK9
          go_simp
          exact hK9 _ _ _ rfl ⟨w9.heap.size, [0, 5], rfl, rfl, Lies.new w9 3 _, by have := hC9.env.lt; omega⟩ (hC9.alloc hG9.self (by decide) _) (fun _ => World.grownBy_alloc _ _ _)
        refine wpFactsR_some [] (fun v _ => ∃ z : Int, v = .int .i64 z) ?_ (fun vs L9 w9 hG9 hC9 hB K9 hK9 => ?_) ?_
        next =>
          intro i9 hi9 hb9 ha9 v w1 w2 hv hT9
          exact hv
        next =>
          have d8 := FactN.eq (hB 8 _ (by kernel_rfl) (by kernel_rfl) rfl (by decide))
          simp only [d8] at hK9 ⊢
          simp only [Act.put, List.setIfInBounds_toArray, List.set_cons_zero, List.set_cons_succ] at hK9
          obtain ⟨b9, l9, e9, el9, eL9, en9⟩ := hB 9 _ (by kernel_rfl) (by kernel_rfl) rfl (by decide)
          simp only [e9] at hK9 ⊢
          go_simp
          refine (among_lies hC9.env b9 2 l9 el9 eL9 en9 (by omega) (by omega) (by have := hC9.cnt; omega)).mono ?_
          rintro en w8 ⟨x8, rfl, hE8, hg8⟩
          exact hK9 _ _ _ rfl ⟨_, rfl⟩ (hC9.call hG9.self (by decide) hE8 (by have := hC9.cnt; omega) hg8 (by simp)) (fun _ => hg8)
        apply wpFactsR_val
        case h1 =>
          intro vs L9 w9 hG9 hC9 hB K9 hK9
          simp only [Act.put, List.setIfInBounds_toArray, List.set_cons_zero, List.set_cons_succ] at hK9
          go_simp
          exact hK9 _ _ rfl (hC9.stay hG9.self (by decide)) (fun _ => World.grownBy.refl _ _)
        refine wpFactsR_some [15] (fun v w9 => ∃ (b : Nat) (l : List Int), v = .slice (some ⟨b, 0, none⟩) 3 3 ∧ l.length = 3 ∧ Lies w9 b 3 (encIs l) ∧ b ≠ g) ?_ (fun vs L9 w9 hG9 hC9 hB K9 hK9 => ?_) ?_
        next =>
          intro i9 hi9 hb9 ha9 v w1 w2 hv hT9
          have hb := hT9 (fun hm => by
            simp only [List.mem_cons, List.not_mem_nil, or_false] at hm hb9
            subst hm
            · exact hb9 (by simp))
          obtain ⟨b, l, q1, q2, q3, q4⟩ := hv
          exact ⟨b, l, q1, q2, q3.kept hb (by intro e; injection e with e; exact q4 e), q4⟩
        next =>
          simp only [Act.put, List.setIfInBounds_toArray, List.set_cons_zero, List.set_cons_succ] at hK9
          go_simp
          exact hK9 _ _ _ rfl ⟨w9.heap.size, [0, 1, -1], rfl, rfl, Lies.new w9 3 _, by have := hC9.env.lt; omega⟩ (hC9.alloc hG9.self (by decide) _) (fun _ => World.grownBy_alloc _ _ _)
        refine wpFactsR_some [] (fun v _ => ∃ z : Int, v = .int .i64 z) ?_ (fun vs L9 w9 hG9 hC9 hB K9 hK9 => ?_) ?_
        next =>
          intro i9 hi9 hb9 ha9 v w1 w2 hv hT9
          exact hv
        next =>
          have d11 := FactN.eq (hB 11 _ (by kernel_rfl) (by kernel_rfl) rfl (by decide))
          simp only [d11] at hK9 ⊢
          simp only [Act.put, List.setIfInBounds_toArray, List.set_cons_zero, List.set_cons_succ] at hK9
          obtain ⟨b12, l12, e12, el12, eL12, en12⟩ := hB 12 _ (by kernel_rfl) (by kernel_rfl) rfl (by decide)
          simp only [e12] at hK9 ⊢
          go_simp
          refine (among_lies hC9.env b12 3 l12 el12 eL12 en12 (by omega) (by omega) (by have := hC9.cnt; omega)).mono ?_
          rintro en w8 ⟨x8, rfl, hE8, hg8⟩
          exact hK9 _ _ _ rfl ⟨_, rfl⟩ (hC9.call hG9.self (by decide) hE8 (by have := hC9.cnt; omega) hg8 (by simp)) (fun _ => hg8)
        refine wpFactsR_some [] (fun v _ => ∃ s : ASt, v = .agg #[.int .i64 s.k, .int .i64 s.i, .int .i64 s.b, .int .i64 s.v]) ?_ (fun vs L9 w9 hG9 hC9 hB K9 hK9 => ?_) ?_
        next =>
          intro i9 hi9 hb9 ha9 v w1 w2 hv hT9
          exact hv
        next =>
          simp only [Act.put, List.setIfInBounds_toArray, List.set_cons_zero, List.set_cons_succ] at hK9
          obtain ⟨z2, e2⟩ := hB 2 _ (by kernel_rfl) (by kernel_rfl) rfl (by decide)
          obtain ⟨z7, e7⟩ := hB 7 _ (by kernel_rfl) (by kernel_rfl) rfl (by decide)
          obtain ⟨z10, e10⟩ := hB 10 _ (by kernel_rfl) (by kernel_rfl) rfl (by decide)
          obtain ⟨z13, e13⟩ := hB 13 _ (by kernel_rfl) (by kernel_rfl) rfl (by decide)
          simp only [e2, e7, e10, e13] at hK9 ⊢
          go_simp
          exact hK9 _ _ _ rfl ⟨⟨_, _, _, _⟩, rfl⟩ (hC9.stay hG9.self (by decide)) (fun _ => World.grownBy.refl _ _)
        refine wpFactsR_some [] (fun _ w9 => ∃ s : ASt, Lies w9 W.heap.size 39 s.enc) ?_ (fun vs L9 w9 hG9 hC9 hB K9 hK9 => ?_) ?_
        next =>
          intro i9 hi9 hb9 ha9 v w1 w2 hv hT9
          have hb := hT9 (fun hm => by
            simp only [List.mem_cons, List.not_mem_nil, or_false] at hm hb9
            subst hm
            · exact hi9 rfl)
          obtain ⟨s, q⟩ := hv
          exact ⟨s, q.kept hb (by intro e; injection e; omega)⟩
        next =>
          simp only [Act.put, List.setIfInBounds_toArray, List.set_cons_zero, List.set_cons_succ] at hK9
          obtain ⟨s14, e14⟩ := hB 14 _ (by kernel_rfl) (by kernel_rfl) rfl (by decide)
          simp only [e14] at hK9 ⊢
          have hL9 : Lies w9 W.heap.size 39 [.int .i64 0, .int .i64 0, .int .i64 0, .int .i64 0] := (hC9.room (Room.lies 15 W.heap.size 39 [.int .i64 0, .int .i64 0, .int .i64 0, .int .i64 0]) (by simp)).2 hG9.self
          have y0 := hL9.cell 0
          have y1 := hL9.cell 1
          have y2 := hL9.cell 2
          have y3 := hL9.cell 3
          simp only [List.getElem?_cons_zero, List.getElem?_cons_succ] at y0 y1 y2 y3
          have f0 := hL9.frozen 0
          have f1 := hL9.frozen 1
          have f2 := hL9.frozen 2
          have f3 := hL9.frozen 3
          have hN9 : Lies _ W.heap.size 39 [.int .i64 s14.k, .int .i64 s14.i, .int .i64 s14.b, .int .i64 s14.v] := ((((hL9.set 0 (.int .i64 s14.k)).set 1 (.int .i64 s14.i)).set 2 (.int .i64 s14.b)).set 3 (.int .i64 s14.v))
          have hG8 := Lib.hid (grown_set (g := W.heap.size) (i := 3) (u := .int .i64 s14.v) (grown_set (g := W.heap.size) (i := 2) (u := .int .i64 s14.b) (grown_set (g := W.heap.size) (i := 1) (u := .int .i64 s14.i) (grown_set (g := W.heap.size) (i := 0) (u := .int .i64 s14.k) (World.grownBy.refl w9 (some W.heap.size))))))
          have hN8 := Lib.hid hN9
          clear hN9 hL9
          go_simp
          exact hK9 _ undef _ rfl ⟨s14, hN8.out⟩ (hC9.wrote hG9.self (by decide) hG8.out (fun b e => by injection e with e; subst e; exact ⟨(by omega), (by omega), .inl (by simp)⟩) (by intro p hp e; simp only [List.mem_cons, List.not_mem_nil, or_false] at hp; first | (subst hp; exact .inl rfl) | (rcases hp with rfl | rfl <;> first | exact .inl rfl | exact absurd (Option.some.inj e) (by omega)))) (fun hq => (hq (by decide)).elim)
        refine wpFactsR_nil fun vs Lq w9 hL9 hC9 hB => ?_
        obtain ⟨s, hS⟩ := hB 15 _ rfl rfl (by decide)
        have hEE := hC9.le
        have hGG := drawn_gr G hC9 (by intro k hk hne; simp only [List.mem_cons, List.not_mem_nil, or_false] at hk; omega) E3
        clear hB hL9 hC9
        have hS : Lies w9 W.heap.size 39 [.int .i64 s.k, .int .i64 s.i, .int .i64 s.b, .int .i64 s.v] := hS
        have y0 := hS.cell 0
        have y1 := hS.cell 1
        have y2 := hS.cell 2
        have y3 := hS.cell 3
        simp only [List.getElem?_cons_zero, List.getElem?_cons_succ] at y0 y1 y2 y3
        clear hS
        repeat (first | go_step)
        refine bodyPost_ret (v := .agg #[.int .i64 s.k, .int .i64 s.i, .int .i64 s.b, .int .i64 s.v]) (by simp [results, Tryd.results42, go_sem, y0, y1, y2, y3]) rfl ?_
        exact ⟨s, rfl, hEE.mono (by omega), hGG⟩
end Go.Proofs.YtkokbmmffkpclaaDoor
