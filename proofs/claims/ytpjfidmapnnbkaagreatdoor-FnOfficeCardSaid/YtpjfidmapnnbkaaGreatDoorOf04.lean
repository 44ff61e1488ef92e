/- Of04: the texts DrawRow DrawV DrawRows LogM Bl Emp Strs Num Itoab Itoa, joined into one file. -/
import Derived.Lib.ItoaNum
import Derived.Lib.ItoaLen
import Derived.Lib.IndexLaws
import Derived.Lib.LastIndexLaws
import Derived.Lib.IndexMore
import Derived.Test.YtpjfidmapnnbkaaGreatDoorProg
import Derived.Shelf.LaysM
import Derived.Shelf.LaysC
import Derived.Shelf.Strconv.Itoa3
import Derived.Shelf.Strconv.AtoiAll
import Derived.Shelf.Strings.Search3
import Derived.Shelf.Strings.Prefix
import Derived.Shelf.Strings.Split
import Derived.Shelf.Strings.Replace
import Derived.WalkSmall
import Derived.Lib.AppendIntMem
import Derived.Test.YtpjfidmapnnbkaaGreatDoorOf01
import Derived.Test.YtpjfidmapnnbkaaGreatDoorOf03

set_option linter.unusedVariables false

/- The reference draws a row of the office. (Printed by gen_drow.py) -/
namespace Go.Proofs.YtpjfidmapnnbkaaGreatDoor
open Go.RowKit


set_option maxHeartbeats 4000000 in
set_option linter.unusedVariables false in
theorem officeRow_any (g : Nat) (A : Option Addr) (bs : List UInt8) (cap m : Nat) (mo : Int) (w W : World) (hm : m ≤ 800000000) (E0 : Env w W g A bs cap m) :
    Calls Tryz.prog 33 #[.pointer (some ⟨g, 0, none⟩), .int .i64 mo] W fun e w' => ∃ r : Row, e = .returned r.val ∧ Env w w' g A bs cap (m + 12) ∧ W.grownBy w' (some g) := by
  have hgW := E0.lt
  have hwW := E0.gr.size
  go_enter Tryz.func33, Tryz.ntmps33
  go_wp2_with fail
  have E1 := (E0.alloc (.cells #[.int .i64 0, .int .i64 0, .int .i64 0, .int .i64 0, .int .i64 0] 25)).alloc (.cells #[.int .i64 0, .int .i64 5, .int .i64 30, .int .i64 9999] 3)
  have L4 := (Lies.new W 25 #[.int .i64 0, .int .i64 0, .int .i64 0, .int .i64 0, .int .i64 0]).alloc (.cells #[.int .i64 0, .int .i64 5, .int .i64 30, .int .i64 9999] 3)
  have Li := Lies.newB W (.cells #[.int .i64 0, .int .i64 0, .int .i64 0, .int .i64 0, .int .i64 0] 25) 3 #[.int .i64 0, .int .i64 5, .int .i64 30, .int .i64 9999]
  have G1 := grown_trans (World.grownBy_alloc W (.cells #[.int .i64 0, .int .i64 0, .int .i64 0, .int .i64 0, .int .i64 0] 25) (some g)) (World.grownBy_alloc _ (.cells #[.int .i64 0, .int .i64 5, .int .i64 30, .int .i64 9999] 3) (some g))
  generalize (W.alloc (.cells #[.int .i64 0, .int .i64 0, .int .i64 0, .int .i64 0, .int .i64 0] 25)).alloc (.cells #[.int .i64 0, .int .i64 5, .int .i64 30, .int .i64 9999] 3) = W1 at E1 L4 Li G1 ⊢
  have HG := Lib.hid G1; clear G1 E0
  obtain ⟨g4, hg4⟩ : ∃ g4, W.heap.size = g4 := ⟨_, rfl⟩
  have h4 : g < g4 ∧ w.heap.size ≤ g4 := by omega
  rw [hg4] at L4 Li
  rw [hg4]
  have HQ := Lib.hid hg4
  clear hg4 hgW hwW
  refine (among_lies E1 (g4 + 1) 4 [0, 5, 30, 9999] rfl Li (by omega) (by omega) (by omega) (by omega)).mono ?_
  rintro e W2 ⟨x1, rfl, E2, gr⟩
  replace L4 := L4.kept gr (by intro e; injection e; omega)
  replace HG := Lib.hid (grown_trans HG.out gr)
  clear gr E1 Li
  go_wp2_with fail
  have Li := Lies.new W2 3 #[.int .i64 0, .int .i64 5, .int .i64 20, .int .i64 9999]
  have Ei := E2.alloc (.cells #[.int .i64 0, .int .i64 5, .int .i64 20, .int .i64 9999] 3)
  replace L4 := L4.alloc (.cells #[.int .i64 0, .int .i64 5, .int .i64 20, .int .i64 9999] 3)
  replace HG := Lib.hid (grown_trans HG.out (World.grownBy_alloc W2 (.cells #[.int .i64 0, .int .i64 5, .int .i64 20, .int .i64 9999] 3) (some g)))
  have hl := E2.lt
  generalize W2.alloc (.cells #[.int .i64 0, .int .i64 5, .int .i64 20, .int .i64 9999] 3) = Wi at Li Ei HG L4 ⊢
  generalize W2.heap.size = gi at Li hl ⊢
  refine (among_lies Ei gi 4 [0, 5, 20, 9999] rfl Li (by omega) (by omega) (by omega) (by omega)).mono ?_
  rintro e W3 ⟨x2, rfl, E3, gr⟩
  replace L4 := L4.kept gr (by intro e; injection e; omega)
  replace HG := Lib.hid (grown_trans HG.out gr)
  clear gr Ei Li hl E2
  go_wp2_with fail
  have Li := Lies.new W3 3 #[.int .i64 0, .int .i64 5, .int .i64 (-5), .int .i64 40, .int .i64 (-130), .int .i64 1250, .int .i64 (-1000000), .int .i64 1000000]
  have Ei := E3.alloc (.cells #[.int .i64 0, .int .i64 5, .int .i64 (-5), .int .i64 40, .int .i64 (-130), .int .i64 1250, .int .i64 (-1000000), .int .i64 1000000] 3)
  replace L4 := L4.alloc (.cells #[.int .i64 0, .int .i64 5, .int .i64 (-5), .int .i64 40, .int .i64 (-130), .int .i64 1250, .int .i64 (-1000000), .int .i64 1000000] 3)
  replace HG := Lib.hid (grown_trans HG.out (World.grownBy_alloc W3 (.cells #[.int .i64 0, .int .i64 5, .int .i64 (-5), .int .i64 40, .int .i64 (-130), .int .i64 1250, .int .i64 (-1000000), .int .i64 1000000] 3) (some g)))
  have hl := E3.lt
  generalize W3.alloc (.cells #[.int .i64 0, .int .i64 5, .int .i64 (-5), .int .i64 40, .int .i64 (-130), .int .i64 1250, .int .i64 (-1000000), .int .i64 1000000] 3) = Wi at Li Ei HG L4 ⊢
  generalize W3.heap.size = gi at Li hl ⊢
  refine (among_lies Ei gi 8 [0, 5, -5, 40, -130, 1250, -1000000, 1000000] rfl Li (by omega) (by omega) (by omega) (by omega)).mono ?_
  rintro e W4 ⟨x3, rfl, E4, gr⟩
  replace L4 := L4.kept gr (by intro e; injection e; omega)
  replace HG := Lib.hid (grown_trans HG.out gr)
  clear gr Ei Li hl E3
  go_wp2_with fail
  have Li := Lies.new W4 3 #[.int .i64 0, .int .i64 0, .int .i64 3, .int .i64 999]
  have Ei := E4.alloc (.cells #[.int .i64 0, .int .i64 0, .int .i64 3, .int .i64 999] 3)
  replace L4 := L4.alloc (.cells #[.int .i64 0, .int .i64 0, .int .i64 3, .int .i64 999] 3)
  replace HG := Lib.hid (grown_trans HG.out (World.grownBy_alloc W4 (.cells #[.int .i64 0, .int .i64 0, .int .i64 3, .int .i64 999] 3) (some g)))
  have hl := E4.lt
  generalize W4.alloc (.cells #[.int .i64 0, .int .i64 0, .int .i64 3, .int .i64 999] 3) = Wi at Li Ei HG L4 ⊢
  generalize W4.heap.size = gi at Li hl ⊢
  refine (among_lies Ei gi 4 [0, 0, 3, 999] rfl Li (by omega) (by omega) (by omega) (by omega)).mono ?_
  rintro e W5 ⟨x4, rfl, E5, gr⟩
  replace L4 := L4.kept gr (by intro e; injection e; omega)
  replace HG := Lib.hid (grown_trans HG.out gr)
  clear gr Ei Li hl E4
  go_wp2_with fail
  have E6 := E5.alloc (.cells #[.int .i64 mo, .int .i64 x1, .int .i64 x2, .int .i64 x3, .int .i64 x4] 25)
  have L5 := Lies.new W5 25 #[.int .i64 mo, .int .i64 x1, .int .i64 x2, .int .i64 x3, .int .i64 x4]
  have h45 := L4.lt
  replace L4 := L4.alloc (.cells #[.int .i64 mo, .int .i64 x1, .int .i64 x2, .int .i64 x3, .int .i64 x4] 25)
  replace HG := Lib.hid (grown_trans HG.out (World.grownBy_alloc W5 (.cells #[.int .i64 mo, .int .i64 x1, .int .i64 x2, .int .i64 x3, .int .i64 x4] 25) (some g)))
  generalize W5.alloc (.cells #[.int .i64 mo, .int .i64 x1, .int .i64 x2, .int .i64 x3, .int .i64 x4] 25) = W6 at E6 L5 L4 HG ⊢
  generalize W5.heap.size = g5 at L5 h45 ⊢
  clear E5
  refine (pick_env E6 80 (by omega) (by omega)).mono ?_
  rintro e W7 ⟨x, rfl, hx, E7, gr⟩
  replace L4 := L4.kept gr (by intro e; injection e; omega)
  replace L5 := L5.kept gr (by intro e; injection e; omega)
  replace HG := Lib.hid (grown_trans HG.out gr)
  have hw5 : w.heap.size ≤ g5 := by omega
  clear gr E6
  have hc : x = 0 ∨ x = 1 ∨ x = 2 ∨ x = 3 ∨ x = 4 ∨ 5 ≤ x := by omega
  clear hx
  rcases hc with rfl | rfl | rfl | rfl | rfl | h5
  · go_wp2_with fail
    have Li := Lies.new W7 3 #[.int .i64 0, .int .i64 1200, .int .i64 1201]
    have Ei := E7.alloc (.cells #[.int .i64 0, .int .i64 1200, .int .i64 1201] 3)
    replace L4 := L4.alloc (.cells #[.int .i64 0, .int .i64 1200, .int .i64 1201] 3)
    replace L5 := L5.alloc (.cells #[.int .i64 0, .int .i64 1200, .int .i64 1201] 3)
    replace HG := Lib.hid (grown_trans HG.out (World.grownBy_alloc W7 (.cells #[.int .i64 0, .int .i64 1200, .int .i64 1201] 3) (some g)))
    have hl := E7.lt
    generalize W7.alloc (.cells #[.int .i64 0, .int .i64 1200, .int .i64 1201] 3) = Wi at Li Ei HG L4 L5 ⊢
    generalize W7.heap.size = gi at Li hl ⊢
    refine (among_lies Ei gi 3 [0, 1200, 1201] rfl Li (by omega) (by omega) (by omega) (by omega)).mono ?_
    rintro e W8 ⟨y, rfl, E8, gr⟩
    replace L4 := L4.kept gr (by intro e; injection e; omega)
    replace L5 := L5.kept gr (by intro e; injection e; omega)
    replace HG := Lib.hid (grown_trans HG.out gr)
    clear gr Ei Li hl E7
    have HE := Lib.hid E8
    clear E8
    have d0 := L5.cell 0
    have d1 := L5.cell 1
    have d2 := L5.cell 2
    have d3 := L5.cell 3
    have d4 := L5.cell 4
    simp only [List.getElem?_cons_zero, List.getElem?_cons_succ] at d0 d1 d2 d3 d4
    have e0 := L4.cell 0
    have e1 := L4.cell 1
    have e2 := L4.cell 2
    have e3 := L4.cell 3
    have e4 := L4.cell 4
    simp only [List.getElem?_cons_zero, List.getElem?_cons_succ] at e0 e1 e2 e3 e4
    have f0 := L4.frozen 0
    have f1 := L4.frozen 1
    have f2 := L4.frozen 2
    have f3 := L4.frozen 3
    have f4 := L4.frozen 4
    have p0 := L5.frozen 0
    have HL := Lib.hid (And.intro h4 (And.intro h45 hw5))
    clear h4 hw5
    repeat (first | go_values | go_skip | go_guarded | go_step | go_upon | simp only [])
    refine bodyPost_ret (v := (Row.mk y x1 x2 x3 x4).val) (by simp [results, Tryz.results33, go_sem, *]) rfl ⟨⟨y, x1, x2, x3, x4⟩, rfl, ?_, ?_⟩
    · exact ((HE.out.wrote (h := g5) (grown_set (World.grownBy.refl _ _)) HL.out.2.2 (by have := HL.out; omega)).wrote (h := g4) (grown_set (grown_set (grown_set (grown_set (grown_set (World.grownBy.refl _ _)))))) HL.out.1.2 HL.out.1.1).mono (by omega)
    · exact grown_own (grown_own HG.out (grown_set (g := g5) (World.grownBy.refl _ _)) (by have := HL.out; have := HQ.out; omega)) (grown_set (g := g4) (grown_set (grown_set (grown_set (grown_set (World.grownBy.refl _ _)))))) (by have := HQ.out; omega)
  · go_wp2_with fail
    have Li := Lies.new W7 3 #[.int .i64 (-1), .int .i64 10000]
    have Ei := E7.alloc (.cells #[.int .i64 (-1), .int .i64 10000] 3)
    replace L4 := L4.alloc (.cells #[.int .i64 (-1), .int .i64 10000] 3)
    replace L5 := L5.alloc (.cells #[.int .i64 (-1), .int .i64 10000] 3)
    replace HG := Lib.hid (grown_trans HG.out (World.grownBy_alloc W7 (.cells #[.int .i64 (-1), .int .i64 10000] 3) (some g)))
    have hl := E7.lt
    generalize W7.alloc (.cells #[.int .i64 (-1), .int .i64 10000] 3) = Wi at Li Ei HG L4 L5 ⊢
    generalize W7.heap.size = gi at Li hl ⊢
    refine (among_lies Ei gi 2 [-1, 10000] rfl Li (by omega) (by omega) (by omega) (by omega)).mono ?_
    rintro e W8 ⟨y, rfl, E8, gr⟩
    replace L4 := L4.kept gr (by intro e; injection e; omega)
    replace L5 := L5.kept gr (by intro e; injection e; omega)
    replace HG := Lib.hid (grown_trans HG.out gr)
    clear gr Ei Li hl E7
    have HE := Lib.hid E8
    clear E8
    have d0 := L5.cell 0
    have d1 := L5.cell 1
    have d2 := L5.cell 2
    have d3 := L5.cell 3
    have d4 := L5.cell 4
    simp only [List.getElem?_cons_zero, List.getElem?_cons_succ] at d0 d1 d2 d3 d4
    have e0 := L4.cell 0
    have e1 := L4.cell 1
    have e2 := L4.cell 2
    have e3 := L4.cell 3
    have e4 := L4.cell 4
    simp only [List.getElem?_cons_zero, List.getElem?_cons_succ] at e0 e1 e2 e3 e4
    have f0 := L4.frozen 0
    have f1 := L4.frozen 1
    have f2 := L4.frozen 2
    have f3 := L4.frozen 3
    have f4 := L4.frozen 4
    have p1 := L5.frozen 1
    have HL := Lib.hid (And.intro h4 (And.intro h45 hw5))
    clear h4 hw5
    repeat (first | go_values | go_skip | go_guarded | go_step | go_upon | simp only [])
    refine bodyPost_ret (v := (Row.mk mo y x2 x3 x4).val) (by simp [results, Tryz.results33, go_sem, *]) rfl ⟨⟨mo, y, x2, x3, x4⟩, rfl, ?_, ?_⟩
    · exact ((HE.out.wrote (h := g5) (grown_set (World.grownBy.refl _ _)) HL.out.2.2 (by have := HL.out; omega)).wrote (h := g4) (grown_set (grown_set (grown_set (grown_set (grown_set (World.grownBy.refl _ _)))))) HL.out.1.2 HL.out.1.1).mono (by omega)
    · exact grown_own (grown_own HG.out (grown_set (g := g5) (World.grownBy.refl _ _)) (by have := HL.out; have := HQ.out; omega)) (grown_set (g := g4) (grown_set (grown_set (grown_set (grown_set (World.grownBy.refl _ _)))))) (by have := HQ.out; omega)
  · go_wp2_with fail
    have Li := Lies.new W7 3 #[.int .i64 (-1), .int .i64 10000]
    have Ei := E7.alloc (.cells #[.int .i64 (-1), .int .i64 10000] 3)
    replace L4 := L4.alloc (.cells #[.int .i64 (-1), .int .i64 10000] 3)
    replace L5 := L5.alloc (.cells #[.int .i64 (-1), .int .i64 10000] 3)
    replace HG := Lib.hid (grown_trans HG.out (World.grownBy_alloc W7 (.cells #[.int .i64 (-1), .int .i64 10000] 3) (some g)))
    have hl := E7.lt
    generalize W7.alloc (.cells #[.int .i64 (-1), .int .i64 10000] 3) = Wi at Li Ei HG L4 L5 ⊢
    generalize W7.heap.size = gi at Li hl ⊢
    refine (among_lies Ei gi 2 [-1, 10000] rfl Li (by omega) (by omega) (by omega) (by omega)).mono ?_
    rintro e W8 ⟨y, rfl, E8, gr⟩
    replace L4 := L4.kept gr (by intro e; injection e; omega)
    replace L5 := L5.kept gr (by intro e; injection e; omega)
    replace HG := Lib.hid (grown_trans HG.out gr)
    clear gr Ei Li hl E7
    have HE := Lib.hid E8
    clear E8
    have d0 := L5.cell 0
    have d1 := L5.cell 1
    have d2 := L5.cell 2
    have d3 := L5.cell 3
    have d4 := L5.cell 4
    simp only [List.getElem?_cons_zero, List.getElem?_cons_succ] at d0 d1 d2 d3 d4
    have e0 := L4.cell 0
    have e1 := L4.cell 1
    have e2 := L4.cell 2
    have e3 := L4.cell 3
    have e4 := L4.cell 4
    simp only [List.getElem?_cons_zero, List.getElem?_cons_succ] at e0 e1 e2 e3 e4
    have f0 := L4.frozen 0
    have f1 := L4.frozen 1
    have f2 := L4.frozen 2
    have f3 := L4.frozen 3
    have f4 := L4.frozen 4
    have p2 := L5.frozen 2
    have HL := Lib.hid (And.intro h4 (And.intro h45 hw5))
    clear h4 hw5
    repeat (first | go_values | go_skip | go_guarded | go_step | go_upon | simp only [])
    refine bodyPost_ret (v := (Row.mk mo x1 y x3 x4).val) (by simp [results, Tryz.results33, go_sem, *]) rfl ⟨⟨mo, x1, y, x3, x4⟩, rfl, ?_, ?_⟩
    · exact ((HE.out.wrote (h := g5) (grown_set (World.grownBy.refl _ _)) HL.out.2.2 (by have := HL.out; omega)).wrote (h := g4) (grown_set (grown_set (grown_set (grown_set (grown_set (World.grownBy.refl _ _)))))) HL.out.1.2 HL.out.1.1).mono (by omega)
    · exact grown_own (grown_own HG.out (grown_set (g := g5) (World.grownBy.refl _ _)) (by have := HL.out; have := HQ.out; omega)) (grown_set (g := g4) (grown_set (grown_set (grown_set (grown_set (World.grownBy.refl _ _)))))) (by have := HQ.out; omega)
  · go_wp2_with fail
    have Li := Lies.new W7 3 #[.int .i64 (-1000001), .int .i64 1000001]
    have Ei := E7.alloc (.cells #[.int .i64 (-1000001), .int .i64 1000001] 3)
    replace L4 := L4.alloc (.cells #[.int .i64 (-1000001), .int .i64 1000001] 3)
    replace L5 := L5.alloc (.cells #[.int .i64 (-1000001), .int .i64 1000001] 3)
    replace HG := Lib.hid (grown_trans HG.out (World.grownBy_alloc W7 (.cells #[.int .i64 (-1000001), .int .i64 1000001] 3) (some g)))
    have hl := E7.lt
    generalize W7.alloc (.cells #[.int .i64 (-1000001), .int .i64 1000001] 3) = Wi at Li Ei HG L4 L5 ⊢
    generalize W7.heap.size = gi at Li hl ⊢
    refine (among_lies Ei gi 2 [-1000001, 1000001] rfl Li (by omega) (by omega) (by omega) (by omega)).mono ?_
    rintro e W8 ⟨y, rfl, E8, gr⟩
    replace L4 := L4.kept gr (by intro e; injection e; omega)
    replace L5 := L5.kept gr (by intro e; injection e; omega)
    replace HG := Lib.hid (grown_trans HG.out gr)
    clear gr Ei Li hl E7
    have HE := Lib.hid E8
    clear E8
    have d0 := L5.cell 0
    have d1 := L5.cell 1
    have d2 := L5.cell 2
    have d3 := L5.cell 3
    have d4 := L5.cell 4
    simp only [List.getElem?_cons_zero, List.getElem?_cons_succ] at d0 d1 d2 d3 d4
    have e0 := L4.cell 0
    have e1 := L4.cell 1
    have e2 := L4.cell 2
    have e3 := L4.cell 3
    have e4 := L4.cell 4
    simp only [List.getElem?_cons_zero, List.getElem?_cons_succ] at e0 e1 e2 e3 e4
    have f0 := L4.frozen 0
    have f1 := L4.frozen 1
    have f2 := L4.frozen 2
    have f3 := L4.frozen 3
    have f4 := L4.frozen 4
    have p3 := L5.frozen 3
    have HL := Lib.hid (And.intro h4 (And.intro h45 hw5))
    clear h4 hw5
    repeat (first | go_values | go_skip | go_guarded | go_step | go_upon | simp only [])
    refine bodyPost_ret (v := (Row.mk mo x1 x2 y x4).val) (by simp [results, Tryz.results33, go_sem, *]) rfl ⟨⟨mo, x1, x2, y, x4⟩, rfl, ?_, ?_⟩
    · exact ((HE.out.wrote (h := g5) (grown_set (World.grownBy.refl _ _)) HL.out.2.2 (by have := HL.out; omega)).wrote (h := g4) (grown_set (grown_set (grown_set (grown_set (grown_set (World.grownBy.refl _ _)))))) HL.out.1.2 HL.out.1.1).mono (by omega)
    · exact grown_own (grown_own HG.out (grown_set (g := g5) (World.grownBy.refl _ _)) (by have := HL.out; have := HQ.out; omega)) (grown_set (g := g4) (grown_set (grown_set (grown_set (grown_set (World.grownBy.refl _ _)))))) (by have := HQ.out; omega)
  · go_wp2_with fail
    have Li := Lies.new W7 3 #[.int .i64 (-1), .int .i64 1000]
    have Ei := E7.alloc (.cells #[.int .i64 (-1), .int .i64 1000] 3)
    replace L4 := L4.alloc (.cells #[.int .i64 (-1), .int .i64 1000] 3)
    replace L5 := L5.alloc (.cells #[.int .i64 (-1), .int .i64 1000] 3)
    replace HG := Lib.hid (grown_trans HG.out (World.grownBy_alloc W7 (.cells #[.int .i64 (-1), .int .i64 1000] 3) (some g)))
    have hl := E7.lt
    generalize W7.alloc (.cells #[.int .i64 (-1), .int .i64 1000] 3) = Wi at Li Ei HG L4 L5 ⊢
    generalize W7.heap.size = gi at Li hl ⊢
    refine (among_lies Ei gi 2 [-1, 1000] rfl Li (by omega) (by omega) (by omega) (by omega)).mono ?_
    rintro e W8 ⟨y, rfl, E8, gr⟩
    replace L4 := L4.kept gr (by intro e; injection e; omega)
    replace L5 := L5.kept gr (by intro e; injection e; omega)
    replace HG := Lib.hid (grown_trans HG.out gr)
    clear gr Ei Li hl E7
    have HE := Lib.hid E8
    clear E8
    have d0 := L5.cell 0
    have d1 := L5.cell 1
    have d2 := L5.cell 2
    have d3 := L5.cell 3
    have d4 := L5.cell 4
    simp only [List.getElem?_cons_zero, List.getElem?_cons_succ] at d0 d1 d2 d3 d4
    have e0 := L4.cell 0
    have e1 := L4.cell 1
    have e2 := L4.cell 2
    have e3 := L4.cell 3
    have e4 := L4.cell 4
    simp only [List.getElem?_cons_zero, List.getElem?_cons_succ] at e0 e1 e2 e3 e4
    have f0 := L4.frozen 0
    have f1 := L4.frozen 1
    have f2 := L4.frozen 2
    have f3 := L4.frozen 3
    have f4 := L4.frozen 4
    have p4 := L5.frozen 4
    have HL := Lib.hid (And.intro h4 (And.intro h45 hw5))
    clear h4 hw5
    repeat (first | go_values | go_skip | go_guarded | go_step | go_upon | simp only [])
    refine bodyPost_ret (v := (Row.mk mo x1 x2 x3 y).val) (by simp [results, Tryz.results33, go_sem, *]) rfl ⟨⟨mo, x1, x2, x3, y⟩, rfl, ?_, ?_⟩
    · exact ((HE.out.wrote (h := g5) (grown_set (World.grownBy.refl _ _)) HL.out.2.2 (by have := HL.out; omega)).wrote (h := g4) (grown_set (grown_set (grown_set (grown_set (grown_set (World.grownBy.refl _ _)))))) HL.out.1.2 HL.out.1.1).mono (by omega)
    · exact grown_own (grown_own HG.out (grown_set (g := g5) (World.grownBy.refl _ _)) (by have := HL.out; have := HQ.out; omega)) (grown_set (g := g4) (grown_set (grown_set (grown_set (grown_set (World.grownBy.refl _ _)))))) (by have := HQ.out; omega)
  · have b0 : ((x : Int) == 0) = false := by rw [beq_eq_false_iff_ne]; omega
    have b1 : ((x : Int) == 1) = false := by rw [beq_eq_false_iff_ne]; omega
    have b2 : ((x : Int) == 2) = false := by rw [beq_eq_false_iff_ne]; omega
    have b3 : ((x : Int) == 3) = false := by rw [beq_eq_false_iff_ne]; omega
    have b4 : ((x : Int) == 4) = false := by rw [beq_eq_false_iff_ne]; omega
    have E8 := E7.mono (show _ ≤ m + 2 + 2 + 2 + 2 + 2 + 2 by omega)
    clear h5
    have HE := Lib.hid E8
    clear E8
    have d0 := L5.cell 0
    have d1 := L5.cell 1
    have d2 := L5.cell 2
    have d3 := L5.cell 3
    have d4 := L5.cell 4
    simp only [List.getElem?_cons_zero, List.getElem?_cons_succ] at d0 d1 d2 d3 d4
    have e0 := L4.cell 0
    have e1 := L4.cell 1
    have e2 := L4.cell 2
    have e3 := L4.cell 3
    have e4 := L4.cell 4
    simp only [List.getElem?_cons_zero, List.getElem?_cons_succ] at e0 e1 e2 e3 e4
    have f0 := L4.frozen 0
    have f1 := L4.frozen 1
    have f2 := L4.frozen 2
    have f3 := L4.frozen 3
    have f4 := L4.frozen 4
    have p4 := L5.frozen 4
    have HL := Lib.hid (And.intro h4 (And.intro h45 hw5))
    clear h4 hw5
    repeat (first | go_values | go_skip | go_guarded | go_step | go_upon | simp only [])
    refine bodyPost_ret (v := (Row.mk mo x1 x2 x3 x4).val) (by simp [results, Tryz.results33, go_sem, *]) rfl ⟨⟨mo, x1, x2, x3, x4⟩, rfl, ?_, ?_⟩
    · exact (HE.out.wrote (h := g4) (grown_set (grown_set (grown_set (grown_set (grown_set (World.grownBy.refl _ _)))))) HL.out.1.2 HL.out.1.1).mono (by omega)
    · exact grown_own HG.out (grown_set (g := g4) (grown_set (grown_set (grown_set (grown_set (World.grownBy.refl _ _)))))) (by have := HQ.out; omega)
end Go.Proofs.YtpjfidmapnnbkaaGreatDoor

/- A drawing starts and ends. -/
namespace Go.Proofs.YtpjfidmapnnbkaaGreatDoor
open Go.RowKit

theorem grown_belowR {w w' : World} {g : Nat} (hg : w.grownBy w' (some g)) (h : w.heap.size ≤ g) : Below w.heap.size w w' :=
  ⟨hg.os, hg.tape, hg.output, hg.size, fun k hk => hg.block k hk (by intro e; injection e; omega)⟩
theorem cur_start {w : World} {A : Option Addr} {cap : Nat} {bs : List UInt8} (hr : BytesR w w.heap.size A bs) : Env (w.alloc (.cells #[.slice A bs.length cap, .int .i64 0, .int .u64 0] 59)) (w.alloc (.cells #[.slice A bs.length cap, .int .i64 0, .int .u64 0] 59)) w.heap.size A bs cap 0 :=
  have b1 : Below w.heap.size w (w.alloc (.cells #[.slice A bs.length cap, .int .i64 0, .int .u64 0] 59)) := (Below.refl w.heap.size w).alloc (Nat.le_refl _) (.cells #[.slice A bs.length cap, .int .i64 0, .int .u64 0] 59)
  ⟨⟨0, 0, Lies.new w 59 #[.slice A bs.length cap, .int .i64 0, .int .u64 0], Nat.le_refl _, by omega, by omega⟩, SlcR.below hr b1, World.grownBy.refl _ _⟩
end Go.Proofs.YtpjfidmapnnbkaaGreatDoor

/- The reference draws a list of office rows. (Printed by gen_drows.py) -/
namespace Go.Proofs.YtpjfidmapnnbkaaGreatDoor
open Go.RowKit

theorem Env.wroteV {w W W' : World} {g : Nat} {A : Option Addr} {bs : List UInt8} {cap m B k n : Nat} {e : TypeId} {v : Value} {xs : List Value} (E : Env w W g A bs cap m) (ho : W.ownsRow B e k v n xs) (hg : W.grownBy W' v.ownBlock) (hB : w.heap.size ≤ B) (hgB : g < B) : Env w W' g A bs cap m := by
  cases hv : v.ownBlock with
  | none => rw [hv] at hg; exact E.below ⟨hg.os, hg.tape, hg.output, hg.size, fun j hj => hg.block j hj (by simp)⟩
  | some b => rw [hv] at hg; have := (ho.lt b hv).1; exact E.wrote hg (by omega) (by omega)
theorem ownsRow_gr {W W' : World} {B k n g : Nat} {e : TypeId} {v : Value} {xs : List Value} (h : W.ownsRow B e k v n xs) (hg : W.grownBy W' (some g)) (hB : g < B) : W'.ownsRow B e k v n xs :=
  h.kept hg (by
    cases hv : v.ownBlock with
    | none => left; rfl
    | some b => right; have := (h.lt b hv).1; intro e; injection e; omega)
theorem grown_row {W W' W'' : World} {B k n g : Nat} {e : TypeId} {v : Value} {xs : List Value} (G : W.grownBy W' (some g)) (ho : W'.ownsRow B e k v n xs) (hg : W'.grownBy W'' v.ownBlock) (hB : W.heap.size ≤ B) : W.grownBy W'' (some g) := by
  cases hv : v.ownBlock with
  | none => rw [hv] at hg; exact grown_trans G ⟨hg.os, hg.tape, hg.output, hg.size, fun j hj _ => hg.block j hj (by simp)⟩
  | some b => rw [hv] at hg; have := (ho.lt b hv).1; exact grown_own G hg (by omega)
/-- The rows drawn so far. -/
structure RSt (w W wx : World) (g : Nat) (A : Option Addr) (bs : List UInt8) (cap m : Nat) (l : List Row) (v : Value) : Prop where
  env : Env w wx g A bs cap m
  own : wx.ownsRow W.heap.size 25 5 v l.length (l.flatMap Row.enc)
  gr : W.grownBy wx (some g)
section
variable {w W wx wy : World} {g : Nat} {A : Option Addr} {bs : List UInt8} {cap m m' : Nat} {l : List Row} {v v' : Value}
theorem RSt.mono (h : RSt w W wx g A bs cap m l v) (hm : m ≤ m') : RSt w W wx g A bs cap m' l v := { h with env := h.env.mono hm }
theorem RSt.next (h : RSt w W wx g A bs cap m l v) (E : Env w wy g A bs cap m') (hg : wx.grownBy wy (some g)) (hB : g < W.heap.size) : RSt w W wy g A bs cap m' l v := ⟨E, ownsRow_gr h.own hg hB, grown_trans h.gr hg⟩
theorem RSt.push (h : RSt w W wx g A bs cap m l v) (r : Row) (ho : wy.ownsRow W.heap.size 25 5 v' (l.length + 1) (l.flatMap Row.enc ++ r.enc)) (hg : wx.grownBy wy v.ownBlock) (hB : g < W.heap.size) (hw : w.heap.size ≤ W.heap.size) : RSt w W wy g A bs cap m (l ++ [r]) v' :=
  ⟨h.env.wroteV h.own hg hw hB, by simpa using ho, grown_row h.gr h.own hg (Nat.le_refl _)⟩
end
theorem RSt.fresh {w W wx : World} {g : Nat} {A : Option Addr} {bs : List UInt8} {cap m : Nat} (E : Env w wx g A bs cap m) (G : W.grownBy wx (some g)) : RSt w W (wx.alloc (.cells #[] 25)) g A bs cap m [] (.slice (some ⟨wx.heap.size, 0, none⟩) 0 0) :=
  ⟨E.alloc _, World.ownsRow_lit (base := W.heap.size) (e := 25) (size := 5) wx #[] 0 G.size (by decide) rfl, grown_alloc G _⟩

set_option maxHeartbeats 4000000 in
set_option linter.unusedVariables false in
theorem officeRows_any (g : Nat) (A : Option Addr) (bs : List UInt8) (cap m : Nat) (w W : World) (hm : m ≤ 700000000) (E0 : Env w W g A bs cap m) :
    Calls Tryz.prog 40 #[.pointer (some ⟨g, 0, none⟩)] W fun e w' => ∃ (l : List Row) (v : Value), e = .returned v ∧ l.length ≤ 13 ∧ RSt w W w' g A bs cap (m + 1000) l v := by
  have hgW := E0.lt
  have hwW := E0.gr.size
  have S1 := RSt.fresh (W := W) E0 (World.grownBy.refl W (some g))
  have hl1 : (W.alloc (.cells #[] 25)).heap.size = W.heap.size + 1 := by simp
  go_enter Tryz.func40, Tryz.ntmps40
  go_wp2_with fail
  have Li := Lies.newB W (.cells #[] 25) 3 #[.int .i64 0, .int .i64 0, .int .i64 500, .int .i64 1180]
  have E1 := S1.env.alloc (.cells #[.int .i64 0, .int .i64 0, .int .i64 500, .int .i64 1180] 3)
  have S1 := S1.next E1 (World.grownBy_alloc _ (.cells #[.int .i64 0, .int .i64 0, .int .i64 500, .int .i64 1180] 3) (some g)) hgW
  generalize (W.alloc (.cells #[] 25)).alloc (.cells #[.int .i64 0, .int .i64 0, .int .i64 500, .int .i64 1180] 3) = W1 at S1 E1 Li ⊢
  generalize hv0 : (Value.slice (some ⟨W.heap.size, 0, none⟩) 0 0) = v0 at S1 ⊢
  generalize hb0 : W.heap.size + 1 = b0 at Li ⊢
  refine (among_lies E1 b0 4 [0, 0, 500, 1180] rfl Li (by omega) (by omega) (by omega) (by omega)).mono ?_
  rintro e W2 ⟨z, rfl, E2, gr⟩
  replace S1 := S1.next E2 gr hgW
  clear gr E1 E2 Li hv0 hb0 hl1
  go_wp2_with fail
  refine (pick_env S1.env 7 (by omega) (by omega)).mono ?_
  rintro e W3 ⟨n, rfl, hn, E3, gr⟩
  have HS := Lib.hid ((S1.next E3 gr hgW).mono (show _ ≤ m + 10 + 20 * (6 - n) by omega))
  clear gr E3 S1 E0
  go_wp2_with fail
  go_loopw [3, 4, 5] (fun o mo i wr => ∃ (k : Nat) (l : List Row) (z : Int), k ≤ 6 ∧ i = .int .i64 k ∧ mo = .int .i64 z ∧ l.length + k ≤ 6 ∧ Hid (RSt w W wr g A bs cap (m + 10 + 20 * (6 - k)) l o)) (fun _ _ i _ => (intOf i).toNat)
  case atStart => exact ⟨n, [], z, by omega, rfl, rfl, by simp; omega, HS⟩
  case round =>
    clear HS hn
    obtain ⟨k, l, z2, hk, rfl, rfl, hl, HS⟩ := hrel
    by_cases hlt : 0 < k
    · obtain ⟨k, rfl⟩ : ∃ q, k = q + 1 := ⟨k - 1, by omega⟩
      clear hlt
      have hi0 : (0 : Int) < ((k + 1 : Nat) : Int) := by omega
      go_wp2_with fail
      refine (pick_env HS.out.env 3 (by omega) (by omega)).mono ?_
      rintro e W4 ⟨x1, rfl, -, E4, gr⟩
      have S4 := HS.out.next E4 gr hgW
      clear gr E4 HS
      go_wp2_with fail
      refine (pick_env S4.env 150 (by omega) (by omega)).mono ?_
      rintro e W5 ⟨x2, rfl, -, E5, gr⟩
      have S5 := S4.next E5 gr hgW
      clear gr E5 S4
      go_wp2_with fail
      refine (officeRow_any g A bs cap _ _ w W5 (by omega) S5.env).mono ?_
      rintro e W6 ⟨r, rfl, E6, gr⟩
      have S6 := S5.next E6 gr hgW
      have hz6 := S6.gr.size
      have HO := Lib.hid S6.own
      clear gr E6 S5
      have HS6 := Lib.hid S6
      clear S6
      go_wp2_with (at_builtin; refine wpList_push (w0 := W6) rfl _ _ 33 rfl 25 _ 5 40 Tryz.underlying33 infoRow rfl (by decide) (by omega) W.heap.size _ _ _ rfl HO #[.int .i64 r.m, .int .i64 r.b, .int .i64 r.s, .int .i64 r.c, .int .i64 r.l] 1 _ rfl (by first | rfl | exact Array.size_push _) rfl (by simp [Value.oneCell']) (by omega) hz6 rfl rfl rfl rfl ?_; intro v' W7 HO7 hg7 _)
      have HS7 := Lib.hid ((HS6.out.push r HO7.out hg7 hgW hwW).mono (show _ ≤ m + 10 + 20 * (6 - k) by omega))
      clear HS6 HO HO7 hg7
      go_roundw
      case rel => exact ⟨k, l ++ [r], _, by omega, by go_num, rfl, (by simp; omega), HS7⟩
      case measure => simp [intOf] <;> omega
    · obtain rfl : k = 0 := by omega
      clear hlt
      have hi0 : ¬ (0 : Int) < ((0 : Nat) : Int) := by omega
      go_wp2_with fail
      refine (one_env HS.out.env 24 (by omega) (by omega)).mono ?_
      rintro e W4 ⟨q, rfl, E4, gr⟩
      have S4 := HS.out.next E4 gr hgW
      clear gr E4 HS
      cases q
      · have HS4 := Lib.hid (S4.mono (show _ ≤ m + 1000 by omega))
        clear S4
        go_wp2_with fail
        go_ret
        exact ⟨l, _, rfl, by omega, HS4.out⟩
      · have S5 := RSt.fresh (W := W) S4.env S4.gr
        clear S4
        go_wp2_with fail
        generalize W4.alloc (.cells #[] 25) = W5 at S5 ⊢
        generalize (Value.slice (some ⟨W4.heap.size, 0, none⟩) 0 0) = v5 at S5 ⊢
        have HS := Lib.hid (S5.mono (show _ ≤ m + 10 + 20 * 6 + 2 + 2 * 0 by omega))
        clear S5
        go_loopw [3, 6] (fun o i wr => ∃ (k : Nat) (l : List Row), k ≤ 13 ∧ i = .int .i64 k ∧ l.length = k ∧ Hid (RSt w W wr g A bs cap (m + 10 + 20 * 6 + 2 + 2 * k) l o)) (fun _ i _ => 14 - (intOf i).toNat)
        case atStart => exact ⟨0, [], by omega, rfl, rfl, HS⟩
        case round =>
          clear HS hl l
          obtain ⟨k, l, hk, rfl, hl, HS⟩ := hrel
          go_wp2_with fail
          refine (pick_env HS.out.env 2 (by omega) (by omega)).mono ?_
          rintro e W6 ⟨x, rfl, hx, E6, gr⟩
          have S6 := HS.out.next E6 gr hgW
          clear gr E6 HS
          by_cases hlt : k < 12 + x
          · have hi1 : (k : Int) < 12 + (x : Int) := by omega
            have hz6 := S6.gr.size
            have HO := Lib.hid S6.own
            have HS6 := Lib.hid S6
            clear S6
            go_wp2_with (at_builtin; refine wpList_push (w0 := W6) rfl _ _ 33 rfl 25 _ 5 40 Tryz.underlying33 infoRow rfl (by decide) (by omega) W.heap.size _ _ _ rfl HO #[.int .i64 ((k : Int) + 1), .int .i64 (10 * ((k : Int) % 5)), .int .i64 (k : Int), .int .i64 (100 * ((k : Int) % 3) - 90), .int .i64 0] 1 _ rfl (by first | rfl | exact Array.size_push _) rfl (by simp [Value.oneCell']) (by omega) hz6 rfl rfl rfl rfl ?_; intro v' W7 HO7 hg7 _)
            have HS7 := Lib.hid ((HS6.out.push ⟨(k : Int) + 1, 10 * ((k : Int) % 5), k, 100 * ((k : Int) % 3) - 90, 0⟩ HO7.out hg7 hgW hwW).mono (show _ ≤ m + 10 + 20 * 6 + 2 + 2 * (k + 1) by omega))
            clear HS6 HO HO7 hg7
            go_roundw
            case rel => exact ⟨k + 1, _, by omega, by go_num, by simp [hl], HS7⟩
            case measure => simp [intOf]; omega
          · have hi1 : ¬ (k : Int) < 12 + (x : Int) := by omega
            have HS6 := Lib.hid (S6.mono (show _ ≤ m + 1000 by omega))
            clear S6
            go_wp2_with fail
            go_ret
            exact ⟨l, _, rfl, by omega, HS6.out⟩
def DrawnRows (w : World) (e : Ending) (w' : World) : Prop := ∃ (l : List Row) (A : Option Addr) (c : Nat), e = .returned (.slice A l.length c) ∧ l.length ≤ 13 ∧ RowsR w' w'.heap.size A l ∧ Below w.heap.size w w'
def DrawnStock (w : World) (e : Ending) (w' : World) : Prop := ∃ (l : List Row) (A : Option Addr) (c : Nat) (z : Int), e = .returned (.tuple #[.slice A l.length c, .int .i64 z]) ∧ (-2 ≤ z ∧ z ≤ 1000001) ∧ l.length ≤ 13 ∧ RowsR w' w'.heap.size A l ∧ Below w.heap.size w w'
set_option maxHeartbeats 1000000 in
theorem drawAreRows_any (A : Option Addr) (cap : Nat) (bs : List UInt8) (w : World) (hr : BytesR w w.heap.size A bs) :
    Calls Tryz.prog 48 #[.slice A bs.length cap] w (DrawnRows w) := by
  have E1 := cur_start (cap := cap) hr
  have b1 : Below w.heap.size w (w.alloc (.cells #[.slice A bs.length cap, .int .i64 0, .int .u64 0] 59)) := (Below.refl w.heap.size w).alloc (Nat.le_refl _) (.cells #[.slice A bs.length cap, .int .i64 0, .int .u64 0] 59)
  go_enter Tryz.func48, Tryz.ntmps48
  go_wp2_with fail
  generalize w.alloc (.cells #[.slice A bs.length cap, .int .i64 0, .int .u64 0] 59) = W1 at E1 b1 ⊢
  refine (officeRows_any w.heap.size A bs cap 0 W1 W1 (by omega) E1).mono ?_
  rintro e W2 ⟨l, v, rfl, hl, S2⟩
  obtain ⟨A', c', rfl⟩ := ownsRow_slice S2.own
  have hR : RowsR W2 W2.heap.size A' l := (OwnS.of S2.own).reads
  have hB := grown_belowR (grown_trans (grownAny b1 (some w.heap.size)) S2.gr) (Nat.le_refl _)
  clear S2
  go_wp2_with fail
  go_ret
  exact ⟨l, A', c', rfl, hl, hR, hB⟩
/-- One of the first n of a list that lies in a block. -/
theorem among_take {w W : World} {g : Nat} {A : Option Addr} {bs : List UInt8} {cap m : Nat} (E : Env w W g A bs cap m) (b n c' : Nat) (l : List Int) (hl : n ≤ l.length) (hl' : l.length ≤ 100000) (hL : Lies W b 3 (encIs l)) (hne : b ≠ g) (h0 : 0 < n) (hm : m ≤ 900000000) :
    Calls Tryz.prog 34 #[.pointer (some ⟨g, 0, none⟩), .slice (some ⟨b, 0, none⟩) n c'] W fun e w' => ∃ x : Int, e = .returned (.int .i64 x) ∧ x ∈ l ∧ Env w w' g A bs cap (m + 2) ∧ W.grownBy w' (some g) := by
  have hn : (l.take n).length = n := by rw [List.length_take]; omega
  have hi : IntsR W W.heap.size (some ⟨b, 0, none⟩) (l.take n) := by
    refine ⟨by rw [encIs_len], by omega, fun _ => ⟨b, 0, rfl, hL.lt, fun j u hu => ?_⟩⟩
    rw [Nat.zero_add, hL.cell]
    have hj : j < n := by have := (List.getElem?_eq_some_iff.1 hu).1; rw [encIs_len] at this; omega
    rw [← hu]
    simp [List.getElem?_take, hj]
  have h := among_any g A (some ⟨b, 0, none⟩) cap c' m bs (l.take n) W (by omega) (by omega) hm E.cur E.rd hi (by intro e; injection e with e; exact hne e)
  rw [hn] at h
  exact h.mono fun _ _ ⟨x, he, hx, hc, hg⟩ => ⟨x, he, List.mem_of_mem_take hx, E.next hc hg, hg⟩
end Go.Proofs.YtpjfidmapnnbkaaGreatDoor

/- Records and logs as bytes: plain words, no program in sight. -/
namespace Go.Proofs.YtpjfidmapnnbkaaGreatDoor

/-! ### The bytes ahead of a byte -/
def bef (b : UInt8) : List UInt8 → List UInt8
  | [] => []
  | x :: l => if x = b then [] else x :: bef b l
theorem bef_free {b : UInt8} : ∀ {l : List UInt8}, b ∉ l → bef b l = l
  | [], _ => rfl
  | x :: l, h => by
    simp only [List.mem_cons, not_or] at h
    unfold bef; rw [if_neg (Ne.symm h.1), bef_free h.2]
theorem bef_mid {b : UInt8} {r : List UInt8} : ∀ {t : List UInt8}, b ∉ t → bef b (t ++ b :: r) = t
  | [], _ => by simp [bef]
  | x :: l, h => by
    simp only [List.mem_cons, not_or] at h
    rw [List.cons_append]; unfold bef; rw [if_neg (Ne.symm h.1), bef_mid h.2]
theorem bef_not (b : UInt8) : ∀ l : List UInt8, b ∉ bef b l
  | [] => by simp [bef]
  | x :: l => by
    unfold bef; split
    · simp
    · rename_i h; simp only [List.mem_cons, not_or]; exact ⟨Ne.symm h, bef_not b l⟩
theorem bef_or (b : UInt8) : ∀ l : List UInt8, (b ∉ l ∧ bef b l = l) ∨ ∃ r, l = bef b l ++ b :: r
  | [] => .inl ⟨by simp, rfl⟩
  | x :: l => by
    unfold bef
    by_cases h : x = b
    · rw [if_pos h]; exact .inr ⟨l, by simp [h]⟩
    · rw [if_neg h]
      rcases bef_or b l with ⟨h1, h2⟩ | ⟨r, h1⟩
      · exact .inl ⟨by simp only [List.mem_cons, not_or]; exact ⟨Ne.symm h, h1⟩, by rw [h2]⟩
      · exact .inr ⟨r, by rw [List.cons_append, ← h1]⟩
theorem bef_len (b : UInt8) (l : List UInt8) : (bef b l).length ≤ l.length := by
  rcases bef_or b l with ⟨_, h⟩ | ⟨r, h⟩
  · rw [h]; exact Nat.le_refl _
  · have := congrArg List.length h; simp at this; omega
theorem bef_whole {b : UInt8} {l : List UInt8} : (bef b l).length = l.length ↔ b ∉ l := by
  constructor
  · intro h
    rcases bef_or b l with ⟨h1, _⟩ | ⟨r, h1⟩
    · exact h1
    · have := congrArg List.length h1; simp at this; omega
  · intro h; rw [bef_free h]
theorem take_bef {b : UInt8} (l : List UInt8) : l.take (bef b l).length = bef b l := by
  rcases bef_or b l with ⟨_, h⟩ | ⟨r, h⟩
  · rw [h]; simp
  · have e : (bef b l ++ b :: r).take (bef b l).length = bef b l := List.take_left' rfl
    rwa [← h] at e
theorem parts_bef {b : UInt8} {l : List UInt8} (h : b ∈ l) : l = bef b l ++ b :: l.drop ((bef b l).length + 1) := by
  rcases bef_or b l with ⟨h1, _⟩ | ⟨r, h1⟩
  · exact absurd h h1
  · have e : (bef b l ++ b :: r).drop ((bef b l).length + 1) = r := by
      rw [List.drop_append, List.drop_eq_nil_of_le (by omega)]; simp
    rw [← h1] at e
    rw [e]; exact h1

/-! ### Where a byte stands, in the library's words -/
theorem occ_one (s : List UInt8) (b : UInt8) (i : Nat) : Lib.occAt s [b] i = decide (s[i]? = some b) := by
  unfold Lib.occAt
  rcases Nat.lt_or_ge i s.length with h | h
  · rw [List.drop_eq_getElem_cons h, List.getElem?_eq_getElem h]
    by_cases e : s[i] = b
    · subst e; simp [List.isPrefixOf]
    · simp [List.isPrefixOf, e, Ne.symm e]
  · rw [List.drop_eq_nil_of_le h, List.getElem?_eq_none h]; rfl
theorem index_one_none {s : List UInt8} {b : UInt8} (h : b ∉ s) : Lib.index s [b] = -1 :=
  Lib.index_none fun j _ => by
    rw [occ_one, decide_eq_false_iff_not]; intro e; exact h (List.mem_of_getElem? e)
theorem index_one_mid {t r : List UInt8} {b : UInt8} (h : b ∉ t) : Lib.index (t ++ b :: r) [b] = t.length :=
  Lib.index_first (by simp) (by rw [occ_one]; simp) fun j hj => by
    rw [occ_one, decide_eq_false_iff_not, List.getElem?_append_left hj]; intro e; exact h (List.mem_of_getElem? e)
theorem index_one_or (s : List UInt8) (b : UInt8) : (b ∉ s ∧ Lib.index s [b] = -1) ∨ (b ∈ s ∧ Lib.index s [b] = (bef b s).length) := by
  rcases bef_or b s with ⟨h, _⟩ | ⟨r, h⟩
  · exact .inl ⟨h, index_one_none h⟩
  · refine .inr ⟨by rw [h]; simp, ?_⟩
    rw (occs := [1]) [h]; exact index_one_mid (bef_not b s)
theorem contains_one (s : List UInt8) (b : UInt8) : Lib.contains s [b] = s.contains b := by
  unfold Lib.contains
  rcases index_one_or s b with ⟨h, e⟩ | ⟨h, e⟩
  · rw [e]; simp [h]
  · rw [e]; simp [h]
theorem cut_one_none {s : List UInt8} {b : UInt8} (h : b ∉ s) : Lib.cut s [b] = (s, [], false) := by
  unfold Lib.cut; rw [index_one_none h]; simp
theorem cut_one_mid {t r : List UInt8} {b : UInt8} (h : b ∉ t) : Lib.cut (t ++ b :: r) [b] = (t, r, true) := by
  unfold Lib.cut; rw [index_one_mid h]; simp
theorem last_one_none {s : List UInt8} {b : UInt8} (h : b ∉ s) : Lib.lastIndex s [b] = -1 := by
  unfold Lib.lastIndex
  split
  · rcases Lib.lastOcc_spec s [b] (s.length - [b].length + 1) with ⟨e, _⟩ | ⟨i, _, _, ho, _⟩
    · exact e
    · rw [occ_one, decide_eq_true_eq] at ho; exact absurd (List.mem_of_getElem? ho) h
  · rfl
theorem last_one_mid {t r : List UInt8} {b : UInt8} (h : b ∉ r) : Lib.lastIndex (t ++ b :: r) [b] = t.length := by
  unfold Lib.lastIndex
  rw [if_pos (by simp; omega)]
  rcases Lib.lastOcc_spec (t ++ b :: r) [b] ((t ++ b :: r).length - [b].length + 1) with ⟨_, hn⟩ | ⟨i, hi, e, ho, hn⟩
  · have := hn t.length (by simp; omega)
    rw [occ_one] at this; simp at this
  · rw [e]
    rw [occ_one, decide_eq_true_eq] at ho
    rcases Nat.lt_trichotomy i t.length with hlt | heq | hgt
    · have := hn t.length hlt (by simp; omega)
      rw [occ_one] at this; simp at this
    · rw [heq]
    · exfalso
      rw [List.getElem?_append_right (by omega)] at ho
      obtain ⟨d, hd⟩ : ∃ d, i - t.length = d + 1 := ⟨i - t.length - 1, by omega⟩
      rw [hd, List.getElem?_cons_succ] at ho
      exact h (List.mem_of_getElem? ho)
theorem last_one_ge (s : List UInt8) (b : UInt8) : Lib.lastIndex s [b] = -1 ∨ ∃ i : Nat, Lib.lastIndex s [b] = i ∧ i < s.length ∧ s[i]? = some b := by
  unfold Lib.lastIndex
  split
  · rcases Lib.lastOcc_spec s [b] (s.length - [b].length + 1) with ⟨e, _⟩ | ⟨i, hi, e, ho, _⟩
    · exact .inl e
    · rw [occ_one, decide_eq_true_eq] at ho
      exact .inr ⟨i, e, (List.getElem?_eq_some_iff.1 ho).1, ho⟩
  · exact .inl rfl

/-! ### Records -/
theorem dec_bytes : ∀ (n : Nat) (c : UInt8), c ∈ Lib.decDigits n → 48 ≤ c.toNat ∧ c.toNat ≤ 57 := by
  intro n
  induction n using Nat.strongRecOn with
  | ind n ih =>
    intro c hc
    rw [Lib.decDigits] at hc
    have one : ∀ k, k < 10 → c = UInt8.ofNat (48 + k) → 48 ≤ c.toNat ∧ c.toNat ≤ 57 := by
      intro k hk e
      have : c.toNat = 48 + k := by rw [e, UInt8.toNat_ofNat']; omega
      omega
    split at hc
    · rename_i h; exact one n h (by simpa using hc)
    · rename_i h
      rcases List.mem_append.1 hc with h1 | h1
      · exact ih (n / 10) (by omega) c h1
      · exact one (n % 10) (by omega) (by simpa using h1)
theorem itoa_nat (n : Nat) : Lib.itoa (n : Int) = Lib.decDigits n := by unfold Lib.itoa; rw [if_neg (by omega), Int.toNat_natCast]
theorem itoa_free {n : Nat} {b : UInt8} (h : b.toNat < 48 ∨ 57 < b.toNat) : b ∉ Lib.itoa (n : Int) := by
  rw [itoa_nat]; intro hb; have := dec_bytes n b hb; omega
theorem itoa_le21 {n : Nat} (h : n ≤ 9223372036854775807) : (Lib.itoa (n : Int)).length ≤ 21 := Lib.itoa_length_le _ (by omega) (by omega)

def plainB (c : UInt8) : Bool := decide (32 ≤ c.toNat) && decide (c.toNat ≤ 126) && c != 35
def plainL (l : List UInt8) : Bool := l.all plainB
theorem plain_free {l : List UInt8} (h : plainL l = true) : (35 : UInt8) ∉ l := fun hm => by
  have := List.all_eq_true.1 h _ hm; simp [plainB] at this
theorem plain_nl {l : List UInt8} (h : plainL l = true) : (10 : UInt8) ∉ l := fun hm => by
  have := List.all_eq_true.1 h _ hm; simp [plainB] at this
def recOk (c r : List UInt8) : Bool := decide (1 ≤ c.length) && decide (c.length ≤ 160) && plainL c && !c.contains 64 && plainL r && decide (r.length ≤ 200)
theorem recOk_iff {c r : List UInt8} : recOk c r = true ↔ 1 ≤ c.length ∧ c.length ≤ 160 ∧ plainL c = true ∧ (64 : UInt8) ∉ c ∧ plainL r = true ∧ r.length ≤ 200 := by
  unfold recOk; simp [Bool.and_eq_true, and_assoc]
def sumFrom : Nat → List UInt8 → Nat
  | h, [] => h
  | h, c :: l => sumFrom ((41 * h + c.toNat + 1) % 999979) l
theorem sumFrom_lt : ∀ (l : List UInt8) (h : Nat), h < 999979 → sumFrom h l < 999979
  | [], _, h => h
  | _ :: l, _, _ => sumFrom_lt l _ (Nat.mod_lt _ (by omega))
def sumL (l : List UInt8) : Nat := sumFrom 7 l
theorem sumL_lt (l : List UInt8) : sumL l < 999979 := sumFrom_lt l 7 (by omega)
def sealL (t : List UInt8) : List UInt8 := t ++ 35 :: Lib.itoa (sumL t)
theorem seal_len (t : List UInt8) : (sealL t).length ≤ t.length + 22 := by
  have := itoa_le21 (n := sumL t) (by have := sumL_lt t; omega)
  unfold sealL; simp; omega
theorem seal_bef {t : List UInt8} (h : (35 : UInt8) ∉ t) : bef 35 (sealL t) = t := bef_mid h
theorem seal_last (t : List UInt8) : Lib.lastIndex (sealL t) [35] = t.length := last_one_mid (itoa_free (by decide))
def txtL (k : Nat) (c r : List UInt8) : List UInt8 := Lib.itoa (k : Int) ++ [32] ++ c ++ [64] ++ r
def lineL (k : Nat) (c r : List UInt8) : List UInt8 := sealL (txtL k c r) ++ [10]
theorem txt_free {k : Nat} {c r : List UInt8} (h : recOk c r = true) : (35 : UInt8) ∉ txtL k c r := by
  obtain ⟨_, _, h1, _, h2, _⟩ := recOk_iff.1 h
  have a := itoa_free (n := k) (b := 35) (by decide)
  have b := plain_free h1
  have d := plain_free h2
  unfold txtL; simp [a, b, d]
theorem txt_len {k : Nat} {c r : List UInt8} (h : recOk c r = true) (hk : k ≤ 9223372036854775807) : (txtL k c r).length ≤ 383 := by
  obtain ⟨_, h1, _, _, _, h2⟩ := recOk_iff.1 h
  have := itoa_le21 hk
  unfold txtL; simp; omega
theorem line_len {k : Nat} {c r : List UInt8} (h : recOk c r = true) (hk : k ≤ 9223372036854775807) : (lineL k c r).length ≤ 406 := by
  have := txt_len h hk
  have := seal_len (txtL k c r)
  unfold lineL; simp; omega
theorem seal_nl {k : Nat} {c r : List UInt8} (h : recOk c r = true) : (10 : UInt8) ∉ sealL (txtL k c r) := by
  obtain ⟨_, _, h1, _, h2, _⟩ := recOk_iff.1 h
  have a := itoa_free (n := k) (b := 10) (by decide)
  have a' := itoa_free (n := sumL (txtL k c r)) (b := 10) (by decide)
  have b := plain_nl h1
  have d := plain_nl h2
  unfold sealL
  simp only [List.mem_append, List.mem_cons, not_or]
  refine ⟨?_, by decide, a'⟩
  unfold txtL; simp [a, b, d]

/-- s is the encoding of the record c, r with number k. -/
def Enc (k : Nat) (c r s : List UInt8) : Prop := recOk c r = true ∧ sealL (txtL k c r) = s
theorem Enc.inj {k : Nat} {c r c' r' s : List UInt8} (h : Enc k c r s) (h' : Enc k c' r' s) : c = c' ∧ r = r' := by
  obtain ⟨h1, h2⟩ := h
  obtain ⟨h1', h2'⟩ := h'
  have e : txtL k c r = txtL k c' r' := by rw [← seal_bef (txt_free h1), ← seal_bef (txt_free h1'), h2, h2']
  unfold txtL at e
  simp only [List.append_assoc] at e
  have e2 := List.append_cancel_left (List.append_cancel_left e)
  obtain ⟨_, _, _, n, _⟩ := recOk_iff.1 h1
  obtain ⟨_, _, _, n', _⟩ := recOk_iff.1 h1'
  have a := bef_mid (r := r) n
  have a' := bef_mid (r := r') n'
  have e3 : c ++ 64 :: r = c' ++ 64 :: r' := e2
  rw [e3, a'] at a
  subst a
  exact ⟨rfl, by simpa using List.append_cancel_left e3⟩
open Classical in
/-- What a line decodes to, as the record with number k. -/
noncomputable def decF (k : Nat) (s : List UInt8) : Option (List UInt8 × List UInt8) := if h : ∃ p : List UInt8 × List UInt8, Enc k p.1 p.2 s then some h.choose else none
theorem decF_some {k : Nat} {c r s : List UInt8} (h : Enc k c r s) : decF k s = some (c, r) := by
  have hex : ∃ p : List UInt8 × List UInt8, Enc k p.1 p.2 s := ⟨(c, r), h⟩
  unfold decF
  rw [dif_pos hex]
  obtain ⟨e1, e2⟩ := hex.choose_spec.inj h
  exact congrArg some (Prod.ext e1 e2)
theorem decF_none {k : Nat} {s : List UInt8} (h : ∀ c r, ¬ Enc k c r s) : decF k s = none := by
  unfold decF
  rw [dif_neg (fun ⟨p, hp⟩ => h _ _ hp)]
theorem decF_enc {k : Nat} {c r s : List UInt8} (h : decF k s = some (c, r)) : Enc k c r s := by
  by_cases hex : ∃ p : List UInt8 × List UInt8, Enc k p.1 p.2 s
  · unfold decF at h
    rw [dif_pos hex] at h
    have := hex.choose_spec
    rw [Option.some.inj h] at this
    exact this
  · unfold decF at h
    rw [dif_neg hex] at h; cases h

/-! ### The program's way of decoding: the checksum, a prefix, a cut -/
/-- A text with its checksum verified. -/
def Ver (t s : List UInt8) : Prop := (35 : UInt8) ∉ t ∧ sealL t = s ∧ t.length ≤ 4000 ∧ s.length ≤ 4000
theorem Ver.inj {t t' s : List UInt8} (h : Ver t s) (h' : Ver t' s) : t = t' := by
  rw [← seal_bef h.1, ← seal_bef h'.1, h.2.1, h'.2.1]
theorem Enc.ver {k : Nat} {c r s : List UInt8} (h : Enc k c r s) (hk : k ≤ 9223372036854775807) : Ver (txtL k c r) s := by
  refine ⟨txt_free h.1, h.2, by have := txt_len h.1 hk; omega, ?_⟩
  rw [← h.2]; have := txt_len h.1 hk; have := seal_len (txtL k c r); omega
theorem dec_no_ver {k : Nat} {s : List UInt8} (hk : k ≤ 9223372036854775807) (h : ∀ t, ¬ Ver t s) : decF k s = none := decF_none fun _ _ he => h _ (he.ver hk)
theorem dec_no_num {k : Nat} {s t : List UInt8} (hk : k ≤ 9223372036854775807) (hv : Ver t s) (h : ¬ (Lib.itoa (k : Int) ++ [32]) <+: t) : decF k s = none := decF_none fun c r he => h (by
  rw [hv.inj (he.ver hk)]
  exact ⟨c ++ [64] ++ r, by unfold txtL; simp⟩)
theorem dec_no_at {k : Nat} {s t u : List UInt8} (hk : k ≤ 9223372036854775807) (hv : Ver t s) (ht : t = Lib.itoa (k : Int) ++ [32] ++ u) (h : (64 : UInt8) ∉ u) : decF k s = none := decF_none fun c r he => h (by
  have e := hv.inj (he.ver hk)
  rw [ht] at e
  unfold txtL at e
  simp only [List.append_assoc] at e
  have := List.append_cancel_left (List.append_cancel_left e)
  rw [this]; simp)
theorem dec_iff_rec {k : Nat} {s t c r : List UInt8} (hk : k ≤ 9223372036854775807) (hv : Ver t s) (ht : t = Lib.itoa (k : Int) ++ [32] ++ (c ++ 64 :: r)) (hc : (64 : UInt8) ∉ c) :
    decF k s = if recOk c r = true then some (c, r) else none := by
  have e0 : txtL k c r = t := by rw [ht]; unfold txtL; simp
  split
  · rename_i h; exact decF_some ⟨h, by rw [e0]; exact hv.2.1⟩
  · rename_i h
    refine decF_none fun c' r' he => h ?_
    have e := hv.inj (he.ver hk)
    rw [← e0] at e
    unfold txtL at e
    simp only [List.append_assoc] at e
    have e2 := List.append_cancel_left (List.append_cancel_left e)
    have e3 : c ++ 64 :: r = c' ++ 64 :: r' := e2
    obtain ⟨_, _, _, n', _⟩ := recOk_iff.1 he.1
    have a := bef_mid (r := r) hc
    rw [e3, bef_mid n'] at a
    subst a
    have : r = r' := by simpa using List.append_cancel_left e3
    subst this
    exact he.1

/-! ### The reference's way: the text ahead of the sign -/
theorem dec_spec_num {k : Nat} {s : List UInt8} (h : ¬ (Lib.itoa (k : Int) ++ [32]) <+: bef 35 s) : decF k s = none := decF_none fun c r he => h (by
  rw [← he.2, seal_bef (txt_free he.1)]
  exact ⟨c ++ [64] ++ r, by unfold txtL; simp⟩)
theorem dec_spec_at {k : Nat} {s u : List UInt8} (ht : bef 35 s = Lib.itoa (k : Int) ++ [32] ++ u) (h : (64 : UInt8) ∉ u) : decF k s = none := decF_none fun c r he => h (by
  rw [← he.2, seal_bef (txt_free he.1)] at ht
  unfold txtL at ht
  simp only [List.append_assoc] at ht
  have := List.append_cancel_left (List.append_cancel_left ht)
  rw [← this]; simp)
theorem dec_spec_rec {k : Nat} {s c r : List UInt8} (ht : bef 35 s = Lib.itoa (k : Int) ++ [32] ++ (c ++ 64 :: r)) (hc : (64 : UInt8) ∉ c) :
    decF k s = if recOk c r = true ∧ lineL k c r = s ++ [10] then some (c, r) else none := by
  split
  · rename_i h; exact decF_some ⟨h.1, List.append_cancel_right h.2⟩
  · rename_i h
    refine decF_none fun c' r' he => h ?_
    have e := ht
    rw [← he.2, seal_bef (txt_free he.1)] at e
    unfold txtL at e
    simp only [List.append_assoc] at e
    have e2 := List.append_cancel_left (List.append_cancel_left e)
    have e3 : c' ++ 64 :: r' = c ++ 64 :: r := e2
    obtain ⟨_, _, _, n', _⟩ := recOk_iff.1 he.1
    have a := bef_mid (r := r) hc
    rw [← e3, bef_mid n'] at a
    subst a
    have : r' = r := by simpa using List.append_cancel_left e3
    subst this
    exact ⟨he.1, by unfold lineL; rw [he.2]⟩

/-! ### A log: the records at the start of its bytes -/
/-- At most n records, from number k on, each with the length of its line. -/
noncomputable def openF : Nat → Nat → List UInt8 → List ((List UInt8 × List UInt8) × Nat)
  | 0, _, _ => []
  | n + 1, k, s => if (10 : UInt8) ∈ s then
      match decF k (bef 10 s) with
      | none => []
      | some e => (e, (bef 10 s).length + 1) :: openF n (k + 1) (s.drop ((bef 10 s).length + 1))
    else []
def lens (l : List ((List UInt8 × List UInt8) × Nat)) : Nat := (l.map (·.2)).sum
theorem lens_cons (e : (List UInt8 × List UInt8) × Nat) (l : List ((List UInt8 × List UInt8) × Nat)) : lens (e :: l) = e.2 + lens l := by simp [lens]
theorem openF_no {n k : Nat} {s : List UInt8} (h : (10 : UInt8) ∉ s) : openF n k s = [] := by cases n <;> simp [openF, h]
theorem openF_bad {n k : Nat} {s : List UInt8} (h : decF k (bef 10 s) = none) : openF n k s = [] := by cases n <;> simp [openF, h]
theorem openF_yes {n k : Nat} {s : List UInt8} {e : List UInt8 × List UInt8} (h1 : (10 : UInt8) ∈ s) (h2 : decF k (bef 10 s) = some e) :
    openF (n + 1) k s = (e, (bef 10 s).length + 1) :: openF n (k + 1) (s.drop ((bef 10 s).length + 1)) := by simp [openF, h1, h2]
theorem openF_room : ∀ (n k : Nat) (s : List UInt8), lens (openF n k s) ≤ s.length
  | 0, _, _ => by simp [openF, lens]
  | n + 1, k, s => by
    by_cases h1 : (10 : UInt8) ∈ s
    · cases h2 : decF k (bef 10 s) with
      | none => rw [openF_bad h2]; simp [lens]
      | some e =>
        rw [openF_yes h1 h2, lens_cons]
        have := openF_room n (k + 1) (s.drop ((bef 10 s).length + 1))
        have h3 := congrArg List.length (parts_bef h1)
        simp at this h3
        simp only
        omega
    · rw [openF_no h1]; simp [lens]
theorem openF_length : ∀ (n k : Nat) (s : List UInt8), (openF n k s).length ≤ n
  | 0, _, _ => by simp [openF]
  | n + 1, k, s => by
    by_cases h1 : (10 : UInt8) ∈ s
    · cases h2 : decF k (bef 10 s) with
      | none => rw [openF_bad h2]; simp
      | some e => rw [openF_yes h1 h2, List.length_cons]; have := openF_length n (k + 1) (s.drop ((bef 10 s).length + 1)); omega
    · rw [openF_no h1]; simp
theorem openF_small : ∀ (n k : Nat) (s : List UInt8), n + k ≤ 1000 → lens (openF n k s) ≤ 406 * n
  | 0, _, _, _ => by simp [openF, lens]
  | n + 1, k, s, h => by
    by_cases h1 : (10 : UInt8) ∈ s
    · cases h2 : decF k (bef 10 s) with
      | none => rw [openF_bad h2]; simp [lens]
      | some e =>
        rw [openF_yes h1 h2, lens_cons]
        have := openF_small n (k + 1) (s.drop ((bef 10 s).length + 1)) (by omega)
        obtain ⟨c, r⟩ := e
        have he := decF_enc h2
        have hl := line_len (k := k) he.1 (by omega)
        unfold lineL at hl; rw [he.2] at hl; simp at hl
        simp only
        omega
    · rw [openF_no h1]; simp [lens]

/-- The places where records end, from a on, with a in front. -/
def endsF : Nat → List ((List UInt8 × List UInt8) × Nat) → List Nat
  | a, [] => [a]
  | a, e :: l => a :: endsF (a + e.2) l
theorem endsF_ne (a : Nat) (l : List ((List UInt8 × List UInt8) × Nat)) : endsF a l ≠ [] := by cases l <;> simp [endsF]
theorem endsF_length : ∀ (a : Nat) (l : List ((List UInt8 × List UInt8) × Nat)), (endsF a l).length = l.length + 1
  | _, [] => rfl
  | a, _ :: l => by simp [endsF, endsF_length (a + _) l]
theorem endsF_snoc : ∀ (a : Nat) (l : List ((List UInt8 × List UInt8) × Nat)) (e : (List UInt8 × List UInt8) × Nat), endsF a (l ++ [e]) = endsF a l ++ [a + lens l + e.2]
  | a, [], e => by simp [endsF, lens]
  | a, x :: l, e => by simp [endsF, endsF_snoc (a + x.2) l e, lens_cons, Nat.add_assoc]
theorem endsF_last : ∀ (a : Nat) (l : List ((List UInt8 × List UInt8) × Nat)), (endsF a l)[l.length]? = some (a + lens l)
  | _, [] => by simp [endsF, lens]
  | a, x :: l => by simp [endsF, endsF_last (a + x.2) l, lens_cons, Nat.add_assoc]
theorem endsF_ge : ∀ (a : Nat) (l : List ((List UInt8 × List UInt8) × Nat)) (x : Nat), x ∈ endsF a l → a ≤ x
  | a, [], x, h => by simp [endsF] at h; omega
  | a, e :: l, x, h => by
    simp only [endsF, List.mem_cons] at h
    rcases h with h | h
    · omega
    · have := endsF_ge (a + e.2) l x h; omega

/-- The durable bytes end where a record ends: it is as much as that they are read whole by themselves. -/
theorem kept_iff : ∀ (n k a : Nat) (D P : List UInt8), a + D.length ∈ endsF a (openF n k (D ++ P)) ↔ lens (openF n k D) = D.length
  | 0, k, a, D, P => by simp only [openF, endsF, lens, List.map_nil, List.sum_nil, List.mem_singleton]; omega
  | n + 1, k, a, D, P => by
    by_cases hD : D.length = 0
    · have : D = [] := List.eq_nil_of_length_eq_zero hD
      subst this
      rw [openF_no (s := []) (by simp)]
      constructor
      · intro _; rfl
      · intro _
        have : endsF a (openF (n + 1) k ([] ++ P)) ≠ [] := endsF_ne _ _
        cases h : openF (n + 1) k ([] ++ P) <;> simp [endsF]
    · by_cases h1 : (10 : UInt8) ∈ D
      · have e1 := parts_bef h1
        have h1' : (10 : UInt8) ∈ D ++ P := by simp [h1]
        have hb : bef 10 (D ++ P) = bef 10 D := by
          rw (occs := [1]) [e1]
          rw [List.append_assoc, List.cons_append]; exact bef_mid (bef_not 10 D)
        have hlen : (bef 10 D).length + 1 ≤ D.length := by have := congrArg List.length e1; simp at this; omega
        cases h2 : decF k (bef 10 D) with
        | none =>
          rw [openF_bad (by rw [hb]; exact h2), openF_bad h2]
          simp only [endsF, lens, List.map_nil, List.sum_nil, List.mem_singleton]; omega
        | some e =>
          rw [openF_yes h1' (by rw [hb]; exact h2), openF_yes h1 h2, hb]
          have e2 : (D ++ P).drop ((bef 10 D).length + 1) = D.drop ((bef 10 D).length + 1) ++ P := List.drop_append_of_le_length hlen
          rw [e2, lens_cons]
          simp only [endsF, List.mem_cons]
          have ih := kept_iff n (k + 1) (a + ((bef 10 D).length + 1)) (D.drop ((bef 10 D).length + 1)) P
          rw [List.length_drop] at ih
          have e3 : a + ((bef 10 D).length + 1) + (D.length - ((bef 10 D).length + 1)) = a + D.length := by omega
          rw [e3] at ih
          constructor
          · rintro (h | h)
            · omega
            · have := ih.1 h; omega
          · intro h
            exact .inr (ih.2 (by omega))
      · rw [openF_no h1]
        simp only [lens, List.map_nil, List.sum_nil]
        constructor
        · intro h
          exfalso
          by_cases h3 : (10 : UInt8) ∈ D ++ P
          · cases h2 : decF k (bef 10 (D ++ P)) with
            | none => rw [openF_bad h2] at h; simp only [endsF, List.mem_singleton] at h; omega
            | some e =>
              rw [openF_yes h3 h2] at h
              simp only [endsF, List.mem_cons] at h
              rcases h with h | h
              · omega
              · have := endsF_ge _ _ _ h
                have hge : D.length ≤ (bef 10 (D ++ P)).length := by
                  rcases Nat.lt_or_ge (bef 10 (D ++ P)).length D.length with hlt | hge
                  · exfalso
                    have e4 := parts_bef h3
                    have h5 : (D ++ P)[(bef 10 (D ++ P)).length]? = some 10 := by rw (occs := [1]) [e4]; simp
                    rw [List.getElem?_append_left hlt] at h5
                    exact h1 (List.mem_of_getElem? h5)
                  · exact hge
                omega
          · rw [openF_no h3] at h; simp only [endsF, List.mem_singleton] at h; omega
        · intro h; omega

/-- A log is valid. -/
noncomputable def logOk (D P : List UInt8) (n : Int) : Bool :=
  decide (lens (openF 60 0 (D ++ P)) = D.length + P.length) && decide (lens (openF 60 0 D) = D.length) && decide (((openF 60 0 (D ++ P)).length : Int) = n)
theorem logOk_small {D P : List UInt8} (h : lens (openF 60 0 (D ++ P)) = D.length + P.length) : D.length + P.length ≤ 30000 := by
  have := openF_small 60 0 (D ++ P) (by omega); omega
theorem logOk_iff {D P : List UInt8} {n : Int} : logOk D P n = true ↔ lens (openF 60 0 (D ++ P)) = D.length + P.length ∧ lens (openF 60 0 D) = D.length ∧ ((openF 60 0 (D ++ P)).length : Int) = n := by
  unfold logOk; simp [Bool.and_eq_true, and_assoc]
/-- The same in the program's words. -/
theorem logOk_impl {D P : List UInt8} {n : Int} : logOk D P n = true ↔ lens (openF 60 0 (D ++ P)) = D.length + P.length ∧ D.length ∈ endsF 0 (openF 60 0 (D ++ P)) ∧ n = ((openF 60 0 (D ++ P)).length : Int) := by
  have := kept_iff 60 0 0 D P
  rw [Nat.zero_add] at this
  rw [logOk_iff, this]
  constructor <;> (rintro ⟨h1, h2, h3⟩; exact ⟨h1, h2, h3.symm⟩)
end Go.Proofs.YtpjfidmapnnbkaaGreatDoor

/- The bytes of a text (no program in sight). -/
namespace Go.Proofs.YtpjfidmapnnbkaaGreatDoor
open Go.RowKit

def bl (s : ByteArray) : List UInt8 := s.data.toList
theorem bl_app (a b : ByteArray) : bl (a ++ b) = bl a ++ bl b := by unfold bl; rw [ByteArray.data_append, Array.toList_append]
theorem bl_mk (l : List UInt8) : bl ⟨l.toArray⟩ = l := by simp [bl]
theorem bl_lit (l : Array UInt8) : bl ⟨l⟩ = l.toList := rfl
theorem bl_size (s : ByteArray) : (bl s).length = s.size := rfl
theorem bl_ext {s : ByteArray} {l : List UInt8} (h : bl s = l) : s = ⟨l.toArray⟩ := by
  rw [← h]; simp [bl]
theorem bl_inj {s t : ByteArray} (h : bl s = bl t) : s = t := (bl_ext h).trans (bl_ext rfl).symm
set_option maxRecDepth 10000 in
theorem size_app (a b : ByteArray) : (a ++ b).size = a.size + b.size := by rw [← bl_size (a ++ b), bl_app, List.length_append, bl_size, bl_size]
theorem bl_drop {s : ByteArray} {k : Nat} (h : k < s.size) : (bl s).drop k = s[k] :: (bl s).drop (k + 1) := List.drop_eq_getElem_cons (l := bl s) h
theorem bl_take {s : ByteArray} {k : Nat} (h : k < s.size) : (bl s).take (k + 1) = (bl s).take k ++ [s[k]] := List.take_succ_eq_append_getElem (l := bl s) h
theorem bl_extract (s : ByteArray) (a b : Nat) : bl (s.extract a b) = ((bl s).take b).drop a := by
  unfold bl
  rw [Lib.extract_data, List.drop_take]
theorem u8_eq {a b : UInt8} : ((a.toNat : Int) == (b.toNat : Int)) = decide (a = b) := by
  rw [Bool.eq_iff_iff]; simp [← UInt8.toNat_inj]; omega
end Go.Proofs.YtpjfidmapnnbkaaGreatDoor

/- Texts that are empty or not. -/
namespace Go.Proofs.YtpjfidmapnnbkaaGreatDoor

theorem toL (s : ByteArray) : s.toList = bl s := ByteArray.toList_eq s
theorem empty_of0 {s : ByteArray} (h : ¬ 1 ≤ s.size) : s.toList = [] := by rw [toL]; exact List.eq_nil_of_length_eq_zero (by rw [bl_size]; omega)
theorem empty_not {s : ByteArray} (h : 1 ≤ s.size) : s.toList ≠ [] := fun e => by rw [toL] at e; have := congrArg List.length e; rw [bl_size, List.length_nil] at this; omega
end Go.Proofs.YtpjfidmapnnbkaaGreatDoor

/- Texts drawn: one of a row of texts; a text spoilt. -/
namespace Go.Proofs.YtpjfidmapnnbkaaGreatDoor
open Go.RowKit

abbrev encSs (l : List ByteArray) : List Value := l.map Value.string
theorem ex_size (s : ByteArray) (a b : Nat) : (s.extract a b).size = min b s.size - a := ByteArray.size_extract ..
set_option maxHeartbeats 2000000 in
theorem spoilt_any (g : Nat) (A : Option Addr) (cap m : Nat) (bs : List UInt8) (t s : ByteArray) (w W : World) (hs : 1 ≤ s.size) (hs' : s.size ≤ 100) (ht : t.size ≤ 100000) (hm : m ≤ 800000000) (E : Env w W g A bs cap m) :
    Calls Tryz.prog 36 #[.pointer (some ⟨g, 0, none⟩), .string t, .string s] W fun e w' => ∃ x : ByteArray, e = .returned (.string x) ∧ x.size ≤ t.size + 1 ∧ Env w w' g A bs cap (m + 6) ∧ W.grownBy w' (some g) := by
  by_cases h0 : 1 ≤ t.size
  · have hne : t.toList.isEmpty = false := List.isEmpty_eq_false_iff.2 (empty_not h0)
    go_enter Tryz.func36, Tryz.ntmps36
    go_wp2_with fail
    refine (pick_env E t.size (by omega) (by omega)).mono ?_
    rintro e w1 ⟨i, rfl, hi, E1, gr1⟩
    have hi' : i + 1 ≤ t.size := by omega
    clear hi hne
    go_wp2_with fail
    refine (pick_env E1 s.size (by omega) (by omega)).mono ?_
    rintro e w2 ⟨j, rfl, hj, E2, gr2⟩
    have gr12 := grown_trans gr1 gr2
    have hj' : j + 1 ≤ s.size := by omega
    have z1 := ex_size s j s.size
    clear hj gr1 gr2 E1
    go_wp2_with fail
    have hx1 : ((s.extract j s.size).extract 0 1).size ≤ 1 := by rw [ex_size]; omega
    generalize (s.extract j s.size).extract 0 1 = x at hx1 ⊢
    refine (pick_env E2 3 (by omega) (by omega)).mono ?_
    rintro e w3 ⟨k, rfl, hk, E3, gr3⟩
    have gr := grown_trans gr12 gr3
    have z2 := ex_size t 0 i
    have z3 := ex_size t i t.size
    have z4 := ex_size t (i + 1) t.size
    have y1 := size_app (t.extract 0 i) x
    have y2 := size_app (t.extract 0 i ++ x) (t.extract i t.size)
    have y3 := size_app (t.extract 0 i ++ x) (t.extract (i + 1) t.size)
    have y4 := size_app (t.extract 0 i) (t.extract (i + 1) t.size)
    have hk3 : k = 0 ∨ k = 1 ∨ k = 2 := by omega
    have HE := Lib.hid E3
    have HG := Lib.hid gr
    clear gr12 gr3 E2 E3 gr E hk z1
    rcases hk3 with rfl | rfl | rfl
    · go_wp2_with fail
      refine wp_region_since0 (by kernel_rfl) (by kernel_rfl) ?_
      repeat (any_goals (first | go_big_quiet_step ((fail)) | (refine wpQuiet_step (fun K hK => ?_); go_simp; split <;> (refine hK _ ?_; clear hK K))))
      all_goals (refine wpQuiet_nil ?_; rintro _ ⟨q1, rfl⟩)
      go_wp2_with fail
      go_ret
      exact ⟨_, rfl, by omega, HE.out.below q1.below, grown_trans HG.out (grownAny q1.below _)⟩
    · go_wp2_with fail
      refine wp_region_since0 (by kernel_rfl) (by kernel_rfl) ?_
      repeat (any_goals (first | go_big_quiet_step ((fail)) | (refine wpQuiet_step (fun K hK => ?_); go_simp; split <;> (refine hK _ ?_; clear hK K))))
      all_goals (refine wpQuiet_nil ?_; rintro _ ⟨q1, rfl⟩)
      go_wp2_with fail
      go_ret
      exact ⟨_, rfl, by omega, HE.out.below q1.below, grown_trans HG.out (grownAny q1.below _)⟩
    · go_wp2_with fail
      refine wp_region_since0 (by kernel_rfl) (by kernel_rfl) ?_
      repeat (any_goals (first | go_big_quiet_step ((fail)) | (refine wpQuiet_step (fun K hK => ?_); go_simp; split <;> (refine hK _ ?_; clear hK K))))
      all_goals (refine wpQuiet_nil ?_; rintro _ ⟨q1, rfl⟩)
      go_wp2_with fail
      go_ret
      exact ⟨_, rfl, by omega, HE.out.below q1.below, grown_trans HG.out (grownAny q1.below _)⟩
  · have he : t.toList.isEmpty = true := List.isEmpty_iff.2 (empty_of0 h0)
    have z1 := ex_size s 0 1
    go_enter Tryz.func36, Tryz.ntmps36
    go_wp2_with fail
    go_ret
    exact ⟨_, rfl, by rw [z1]; omega, E.mono (by omega), World.grownBy.refl _ _⟩
end Go.Proofs.YtpjfidmapnnbkaaGreatDoor

/- The text of a number, in the reference (l1Num). -/
namespace Go.Proofs.YtpjfidmapnnbkaaGreatDoor
open Go.RowKit

theorem dec_small {n : Nat} (h : n < 10) : Lib.decDigits n = [UInt8.ofNat (48 + n)] := by rw [Lib.decDigits, dif_pos h]
theorem dec_big {n : Nat} (h : ¬ n < 10) : Lib.decDigits n = Lib.decDigits (n / 10) ++ [UInt8.ofNat (48 + n % 10)] := by rw [Lib.decDigits, dif_neg h]

theorem digit_at : ∀ {n : Nat}, n < 10 → (⟨#[48, 49, 50, 51, 52, 53, 54, 55, 56, 57]⟩ : ByteArray).extract n (n + 1) = ⟨[UInt8.ofNat (48 + n)].toArray⟩
  | 0, _ => by decide | 1, _ => by decide | 2, _ => by decide | 3, _ => by decide | 4, _ => by decide
  | 5, _ => by decide | 6, _ => by decide | 7, _ => by decide | 8, _ => by decide | 9, _ => by decide

theorem dec_len {n : Nat} (h : n ≤ 1000000000) : (⟨(Lib.decDigits n).toArray⟩ : ByteArray).size ≤ 100 := by
  show (Lib.decDigits n).toArray.size ≤ 100
  rw [List.size_toArray, Lib.decDigits_length]
  have := Lib.nDigits_le20 n (by omega)
  omega

set_option maxHeartbeats 1000000 in
theorem l1Num_nat (k : Nat) : ∀ (n : Nat) (w : World), n < 10 ^ k → n ≤ 1000000000 →
    Calls Tryz.prog 51 #[.int .i64 (n : Int)] w fun e w' => e = .returned (.string ⟨(Lib.decDigits n).toArray⟩) ∧ Below w.heap.size w w' := by
  induction k with
  | zero =>
    intro n w hn _
    have h0 : n = 0 := by simpa using hn
    subst h0
    have HD := Lib.hid (dec_small (n := 0) (by omega))
    have HE := Lib.hid (digit_at (n := 0) (by omega))
    go_enter Tryz.func51, Tryz.ntmps51
    go_wp2
    go_ret
    exact ⟨by rw [HD.out, ← HE.out]; rfl, Below.refl _ _⟩
  | succ k ih =>
    intro n w hn hb
    by_cases h10 : n < 10
    · have HD := Lib.hid (dec_small h10)
      have HE := Lib.hid (digit_at h10)
      go_enter Tryz.func51, Tryz.ntmps51
      go_wp2
      go_ret
      exact ⟨by rw [HD.out, ← HE.out]; rfl, Below.refl _ _⟩
    · have HD := Lib.hid (dec_big h10)
      have hr : n % 10 < 10 := Nat.mod_lt _ (by omega)
      have HE := Lib.hid (digit_at hr)
      have hk : n / 10 < 10 ^ k := Nat.div_lt_of_lt_mul (by rw [Nat.mul_comm, ← Nat.pow_succ]; exact hn)
      obtain ⟨sv, hsv⟩ : ∃ s : ByteArray, s = ⟨(Lib.decDigits (n / 10)).toArray⟩ := ⟨_, rfl⟩
      obtain ⟨dv, hdv⟩ : ∃ s : ByteArray, s = (⟨#[48, 49, 50, 51, 52, 53, 54, 55, 56, 57]⟩ : ByteArray).extract (n % 10) (n % 10 + 1) := ⟨_, rfl⟩
      have hss : sv.size ≤ 100 := by rw [hsv]; exact dec_len (by omega)
      have hds : dv.size ≤ 10 := by rw [hdv, HE.out]; exact (by decide : (1 : Nat) ≤ 10)
      have ih' : ∀ W : World, Calls Tryz.prog 51 #[.int .i64 ((n : Int) / 10)] W fun e w' => e = .returned (.string sv) ∧ Below W.heap.size W w' := fun W => by
        have := ih (n / 10) W hk (by omega)
        rw [Int.natCast_ediv] at this; rw [hsv]; exact this
      have IH := Lib.hid ih'; clear ih' ih
      have hex := hdv.symm
      have HSV := Lib.hid hsv; clear hsv
      have HDV := Lib.hid hdv; clear hdv
      have e1 : (n : Int).tdiv 10 = (n : Int) / 10 := Int.tdiv_eq_ediv_of_nonneg (by omega)
      have e2 : (n : Int).tmod 10 = (n : Int) % 10 := Int.tmod_eq_emod_of_nonneg (by omega)
      go_enter Tryz.func51, Tryz.ntmps51
      go_wp2_with fail
      refine wp_region_since0 (by kernel_rfl) (by kernel_rfl) ?_
      repeat (any_goals (first | go_big_quiet_step ((go_at_call 51; refine calls_since (Nat.le_refl _) (IH.out _))) | (refine wpQuiet_step (fun K hK => ?_); go_simp; split <;> (refine hK _ ?_; clear hK K))))
      all_goals (refine wpQuiet_nil ?_; rintro _ ⟨q1, rfl⟩)
      go_wp2
      go_ret
      exact ⟨by rw [HD.out, HSV.out, HDV.out, HE.out, ByteArray.mk_append_mk]; rfl, q1.below⟩
/-- Every number up to a thousand millions. -/
theorem l1Num_any (n : Int) (w : World) (h0 : 0 ≤ n) (h1 : n ≤ 1000000000) :
    Calls Tryz.prog 51 #[.int .i64 n] w fun e w' => e = .returned (.string ⟨(Lib.itoa n).toArray⟩) ∧ Below w.heap.size w w' := by
  obtain ⟨m, rfl⟩ := Int.eq_ofNat_of_zero_le h0
  have e : Lib.itoa (m : Int) = Lib.decDigits m := by unfold Lib.itoa; rw [if_neg (by omega), Int.toNat_natCast]
  have e' : Lib.itoa (Int.ofNat m) = Lib.decDigits m := e
  first | rw [e] | rw [e']
  exact l1Num_nat 10 m w (by omega) (by omega)
theorem itoa_len {n : Int} (h0 : 0 ≤ n) (h1 : n ≤ 1000000000) : (⟨(Lib.itoa n).toArray⟩ : ByteArray).size ≤ 100 := by
  unfold Lib.itoa
  rw [if_neg (by omega)]
  exact dec_len (by omega)
end Go.Proofs.YtpjfidmapnnbkaaGreatDoor

/- Contracts of the library at this dump, as the kit's own tool lays them (plain), the few that are wanted here. -/
namespace Go.Proofs
open Go.Shelf
def Tryz.laysM171_ren : Go.Shelf.Ren := ⟨fun | 171 => 49 | 243 => 70 | 246 => 87 | 283 => 98 | 284 => 99 | 285 => 100 | 286 => 101 | 129 => 107 | 317 => 106 | 318 => 108 | 319 => 109 | 320 => 110 | 337 => 111 | 338 => 112 | n => n, fun | 3 => 3 | 9 => 9 | 2 => 2 | 4 => 4 | 171 => 112 | 0 => 0 | 53 => 57 | 37 => 22 | 5 => 5 | 173 => 115 | 212 => 126 | 51 => 122 | 20 => 20 | 213 => 127 | 46 => 84 | 232 => 130 | 233 => 131 | n => n, fun | 17 => 5 | 18 => 6 | 19 => 7 | n => n⟩
theorem Tryz.laysM171 : Go.Proofs.LaysM.n171 Tryz.prog Tryz.laysM171_ren := {
  mixed := by kernel_rfl
  f129 := Tryz.func107.trans (congrArg some (by kernel_rfl))
  f171 := Tryz.func49.trans (congrArg some (by kernel_rfl))
  f243 := Tryz.func70.trans (congrArg some (by kernel_rfl))
  f246 := Tryz.func87.trans (congrArg some (by kernel_rfl))
  f283 := Tryz.func98.trans (congrArg some (by kernel_rfl))
  f284 := Tryz.func99.trans (congrArg some (by kernel_rfl))
  f285 := Tryz.func100.trans (congrArg some (by kernel_rfl))
  f286 := Tryz.func101.trans (congrArg some (by kernel_rfl))
  f317 := Tryz.func106.trans (congrArg some (by kernel_rfl))
  f318 := Tryz.func108.trans (congrArg some (by kernel_rfl))
  f319 := Tryz.func109.trans (congrArg some (by kernel_rfl))
  f320 := Tryz.func110.trans (congrArg some (by kernel_rfl))
  f337 := Tryz.func111.trans (congrArg some (by kernel_rfl))
  f338 := Tryz.func112.trans (congrArg some (by kernel_rfl))
  t0 := Tryz.underlying0
  a0 := Tryz.isAgg0
  z0 := Tryz.sizeOf0
  v0 := Tryz.zeroValue0
  t2 := Tryz.underlying2
  a2 := Tryz.isAgg2
  z2 := Tryz.sizeOf2
  v2 := Tryz.zeroValue2
  t3 := Tryz.underlying3
  a3 := Tryz.isAgg3
  z3 := Tryz.sizeOf3
  v3 := Tryz.zeroValue3
  t4 := Tryz.underlying4
  a4 := Tryz.isAgg4
  z4 := Tryz.sizeOf4
  v4 := Tryz.zeroValue4
  t5 := Tryz.underlying5
  a5 := Tryz.isAgg5
  z5 := Tryz.sizeOf5
  v5 := Tryz.zeroValue5
  t9 := Tryz.underlying9
  a9 := Tryz.isAgg9
  z9 := Tryz.sizeOf9
  v9 := Tryz.zeroValue9
  t20 := Tryz.underlying20
  a20 := Tryz.isAgg20
  z20 := Tryz.sizeOf20
  v20 := Tryz.zeroValue20
  t37 := Tryz.underlying22
  a37 := Tryz.isAgg22
  z37 := Tryz.sizeOf22
  v37 := Tryz.zeroValue22
  t46 := Tryz.underlying84
  a46 := Tryz.isAgg84
  z46 := Tryz.sizeOf84
  v46 := Tryz.zeroValue84
  t51 := Tryz.underlying122
  a51 := Tryz.isAgg122
  z51 := Tryz.sizeOf122
  v51 := Tryz.zeroValue122
  t53 := Tryz.underlying57
  a53 := Tryz.isAgg57
  z53 := Tryz.sizeOf57
  v53 := Tryz.zeroValue57
  t171 := Tryz.underlying112
  a171 := Tryz.isAgg112
  z171 := Tryz.sizeOf112
  v171 := Tryz.zeroValue112
  t173 := Tryz.underlying115
  a173 := Tryz.isAgg115
  z173 := Tryz.sizeOf115
  v173 := Tryz.zeroValue115
  t212 := Tryz.underlying126
  a212 := Tryz.isAgg126
  z212 := Tryz.sizeOf126
  v212 := Tryz.zeroValue126
  t213 := Tryz.underlying127
  a213 := Tryz.isAgg127
  z213 := Tryz.sizeOf127
  t232 := Tryz.underlying130
  a232 := Tryz.isAgg130
  z232 := Tryz.sizeOf130
  v232 := Tryz.zeroValue130
  t233 := Tryz.underlying131
  a233 := Tryz.isAgg131
  z233 := Tryz.sizeOf131
  v233 := Tryz.zeroValue131
  g17 := by kernel_rfl
  g18 := by kernel_rfl
  g19 := by kernel_rfl
  i0 := by kernel_rfl
  i2 := by kernel_rfl
  i3 := by kernel_rfl
  i4 := by kernel_rfl
  i5 := by kernel_rfl
  i9 := by kernel_rfl
  i20 := by kernel_rfl
  i37 := by kernel_rfl
  i46 := by kernel_rfl
  i51 := by kernel_rfl
  i53 := by kernel_rfl
  i171 := by kernel_rfl
  i173 := by kernel_rfl
  i212 := by kernel_rfl
  i232 := by kernel_rfl
  i233 := by kernel_rfl
  m17 := by kernel_rfl
  m18 := by kernel_rfl
  m19 := by kernel_rfl }
open Go.RowKit Go.Sort Go.Lib in
theorem Tryz.strconv_Itoa (n : Int) (h0 : -9223372036854775808 ≤ n) (h1 : n ≤ 9223372036854775807) (w : World) (htab : Lib.TabIs Tryz.prog w "internal/strconv.uint64pow10" .u64 Lib.pow10Tab) :
    Calls Tryz.prog 49 #[.int .i64 n] w fun e w' => e = .returned (.string ⟨(Lib.itoa n).toArray⟩) ∧ ∃ k os, w' = grow (w.drewN k) os := Any.strconv_Itoa Tryz.laysM171 n h0 h1 w htab
def Tryz.laysC172_ren : Go.Shelf.Ren := ⟨fun | 172 => 31 | 244 => 58 | 245 => 59 | 247 => 74 | 279 => 75 | 280 => 76 | 281 => 77 | 282 => 78 | 287 => 88 | 316 => 89 | 171 => 49 | 205 => 90 | 321 => 102 | 322 => 103 | 243 => 70 | 246 => 87 | 283 => 98 | 284 => 99 | 285 => 100 | 286 => 101 | 129 => 107 | 317 => 106 | 318 => 108 | 319 => 109 | 320 => 110 | 337 => 111 | 338 => 112 | n => n, fun | 9 => 9 | 3 => 3 | 75 => 52 | 76 => 53 | 4 => 4 | 5 => 5 | 167 => 88 | 37 => 22 | 0 => 0 | 85 => 89 | 2 => 2 | 168 => 91 | 53 => 57 | 175 => 98 | 46 => 84 | 210 => 102 | 127 => 95 | 145 => 121 | 143 => 119 | 21 => 21 | 171 => 112 | 173 => 115 | 212 => 126 | 51 => 122 | 20 => 20 | 213 => 127 | 232 => 130 | 233 => 131 | 80 => 82 | n => n, fun | 15 => 0 | 16 => 1 | 17 => 5 | 18 => 6 | 19 => 7 | n => n⟩
theorem Tryz.laysC172 : Go.Proofs.LaysC.n172 Tryz.prog Tryz.laysC172_ren := {
  mixed := by kernel_rfl
  f129 := Tryz.func107.trans (congrArg some (by kernel_rfl))
  f171 := Tryz.func49.trans (congrArg some (by kernel_rfl))
  f172 := Tryz.func31.trans (congrArg some (by kernel_rfl))
  f205 := Tryz.func90.trans (congrArg some (by kernel_rfl))
  f243 := Tryz.func70.trans (congrArg some (by kernel_rfl))
  f244 := Tryz.func58.trans (congrArg some (by kernel_rfl))
  f245 := Tryz.func59.trans (congrArg some (by kernel_rfl))
  f246 := Tryz.func87.trans (congrArg some (by kernel_rfl))
  f247 := Tryz.func74.trans (congrArg some (by kernel_rfl))
  f279 := Tryz.func75.trans (congrArg some (by kernel_rfl))
  f280 := Tryz.func76.trans (congrArg some (by kernel_rfl))
  f281 := Tryz.func77.trans (congrArg some (by kernel_rfl))
  f282 := Tryz.func78.trans (congrArg some (by kernel_rfl))
  f283 := Tryz.func98.trans (congrArg some (by kernel_rfl))
  f284 := Tryz.func99.trans (congrArg some (by kernel_rfl))
  f285 := Tryz.func100.trans (congrArg some (by kernel_rfl))
  f286 := Tryz.func101.trans (congrArg some (by kernel_rfl))
  f287 := Tryz.func88.trans (congrArg some (by kernel_rfl))
  f316 := Tryz.func89.trans (congrArg some (by kernel_rfl))
  f317 := Tryz.func106.trans (congrArg some (by kernel_rfl))
  f318 := Tryz.func108.trans (congrArg some (by kernel_rfl))
  f319 := Tryz.func109.trans (congrArg some (by kernel_rfl))
  f320 := Tryz.func110.trans (congrArg some (by kernel_rfl))
  f321 := Tryz.func102.trans (congrArg some (by kernel_rfl))
  f322 := Tryz.func103.trans (congrArg some (by kernel_rfl))
  f337 := Tryz.func111.trans (congrArg some (by kernel_rfl))
  f338 := Tryz.func112.trans (congrArg some (by kernel_rfl))
  t0 := Tryz.underlying0
  a0 := Tryz.isAgg0
  z0 := Tryz.sizeOf0
  v0 := Tryz.zeroValue0
  t2 := Tryz.underlying2
  a2 := Tryz.isAgg2
  z2 := Tryz.sizeOf2
  v2 := Tryz.zeroValue2
  t3 := Tryz.underlying3
  a3 := Tryz.isAgg3
  z3 := Tryz.sizeOf3
  v3 := Tryz.zeroValue3
  t4 := Tryz.underlying4
  a4 := Tryz.isAgg4
  z4 := Tryz.sizeOf4
  v4 := Tryz.zeroValue4
  t5 := Tryz.underlying5
  a5 := Tryz.isAgg5
  z5 := Tryz.sizeOf5
  v5 := Tryz.zeroValue5
  t9 := Tryz.underlying9
  a9 := Tryz.isAgg9
  z9 := Tryz.sizeOf9
  v9 := Tryz.zeroValue9
  t20 := Tryz.underlying20
  a20 := Tryz.isAgg20
  z20 := Tryz.sizeOf20
  v20 := Tryz.zeroValue20
  t21 := Tryz.underlying21
  a21 := Tryz.isAgg21
  z21 := Tryz.sizeOf21
  v21 := Tryz.zeroValue21
  t37 := Tryz.underlying22
  a37 := Tryz.isAgg22
  z37 := Tryz.sizeOf22
  v37 := Tryz.zeroValue22
  t46 := Tryz.underlying84
  a46 := Tryz.isAgg84
  z46 := Tryz.sizeOf84
  v46 := Tryz.zeroValue84
  t51 := Tryz.underlying122
  a51 := Tryz.isAgg122
  z51 := Tryz.sizeOf122
  v51 := Tryz.zeroValue122
  t53 := Tryz.underlying57
  a53 := Tryz.isAgg57
  z53 := Tryz.sizeOf57
  v53 := Tryz.zeroValue57
  t75 := Tryz.underlying52
  a75 := Tryz.isAgg52
  z75 := Tryz.sizeOf52
  v75 := Tryz.zeroValue52
  t76 := Tryz.underlying53
  a76 := Tryz.isAgg53
  z76 := Tryz.sizeOf53
  v76 := Tryz.zeroValue53
  t85 := Tryz.underlying89
  a85 := Tryz.isAgg89
  z85 := Tryz.sizeOf89
  v85 := Tryz.zeroValue89
  t127 := Tryz.underlying95
  a127 := Tryz.isAgg95
  z127 := Tryz.sizeOf95
  v127 := Tryz.zeroValue95
  t143 := Tryz.underlying119
  a143 := Tryz.isAgg119
  z143 := Tryz.sizeOf119
  v143 := Tryz.zeroValue119
  t145 := Tryz.underlying121
  a145 := Tryz.isAgg121
  z145 := Tryz.sizeOf121
  v145 := Tryz.zeroValue121
  t167 := Tryz.underlying88
  a167 := Tryz.isAgg88
  z167 := Tryz.sizeOf88
  v167 := Tryz.zeroValue88
  t168 := Tryz.underlying91
  a168 := Tryz.isAgg91
  z168 := Tryz.sizeOf91
  v168 := Tryz.zeroValue91
  t171 := Tryz.underlying112
  a171 := Tryz.isAgg112
  z171 := Tryz.sizeOf112
  v171 := Tryz.zeroValue112
  t173 := Tryz.underlying115
  a173 := Tryz.isAgg115
  z173 := Tryz.sizeOf115
  v173 := Tryz.zeroValue115
  t175 := Tryz.underlying98
  a175 := Tryz.isAgg98
  z175 := Tryz.sizeOf98
  v175 := Tryz.zeroValue98
  t210 := Tryz.underlying102
  a210 := Tryz.isAgg102
  z210 := Tryz.sizeOf102
  v210 := Tryz.zeroValue102
  t212 := Tryz.underlying126
  a212 := Tryz.isAgg126
  z212 := Tryz.sizeOf126
  v212 := Tryz.zeroValue126
  t213 := Tryz.underlying127
  a213 := Tryz.isAgg127
  z213 := Tryz.sizeOf127
  t232 := Tryz.underlying130
  a232 := Tryz.isAgg130
  z232 := Tryz.sizeOf130
  v232 := Tryz.zeroValue130
  t233 := Tryz.underlying131
  a233 := Tryz.isAgg131
  z233 := Tryz.sizeOf131
  v233 := Tryz.zeroValue131
  g15 := by kernel_rfl
  g16 := by kernel_rfl
  g17 := by kernel_rfl
  g18 := by kernel_rfl
  g19 := by kernel_rfl
  t80 := Tryz.underlying82
  a80 := Tryz.isAgg82
  z80 := Tryz.sizeOf82
  v80 := Tryz.zeroValue82
  i0 := by kernel_rfl
  i2 := by kernel_rfl
  i3 := by kernel_rfl
  i4 := by kernel_rfl
  i5 := by kernel_rfl
  i9 := by kernel_rfl
  i20 := by kernel_rfl
  i21 := by kernel_rfl
  i37 := by kernel_rfl
  i46 := by kernel_rfl
  i51 := by kernel_rfl
  i53 := by kernel_rfl
  i75 := by kernel_rfl
  i76 := by kernel_rfl
  i80 := by kernel_rfl
  i85 := by kernel_rfl
  i127 := by kernel_rfl
  i143 := by kernel_rfl
  i145 := by kernel_rfl
  i167 := by kernel_rfl
  i168 := by kernel_rfl
  i171 := by kernel_rfl
  i173 := by kernel_rfl
  i175 := by kernel_rfl
  i210 := by kernel_rfl
  i212 := by kernel_rfl
  i232 := by kernel_rfl
  i233 := by kernel_rfl
  m15 := by kernel_rfl
  m16 := by kernel_rfl
  m17 := by kernel_rfl
  m18 := by kernel_rfl
  m19 := by kernel_rfl
  c0 := by kernel_rfl
  c2 := by kernel_rfl
  c3 := by kernel_rfl
  c4 := by kernel_rfl
  c5 := by kernel_rfl
  c9 := by kernel_rfl
  c20 := by kernel_rfl
  c21 := by kernel_rfl
  c37 := by kernel_rfl
  c46 := by kernel_rfl
  c51 := by kernel_rfl
  c53 := by kernel_rfl
  c75 := by kernel_rfl
  c76 := by kernel_rfl
  c80 := by kernel_rfl
  c85 := by kernel_rfl
  c127 := by kernel_rfl
  c143 := by kernel_rfl
  c145 := by kernel_rfl
  c167 := by kernel_rfl
  c168 := by kernel_rfl
  c171 := by kernel_rfl
  c173 := by kernel_rfl
  c175 := by kernel_rfl
  c210 := by kernel_rfl
  c212 := by kernel_rfl
  c213 := by kernel_rfl
  c232 := by kernel_rfl
  c233 := by kernel_rfl }
open Go.RowKit in
theorem Tryz.strconv_Atoi_ok (s : ByteArray) (hmax : s.size ≤ 9223372036854775806) (v : Int) (h : Lib.atoiAll s.data.toList = .ok v) (w : World) :
    Calls Tryz.prog 31 #[.string s] w fun e w' => e = .returned (.tuple #[.int .i64 v, .nilIface]) ∧ (w' = w ∨ ∃ t, w' = Lib.bytesWorld w 5 t) := Any.strconv_Atoi_ok Tryz.laysC172 s hmax v h w
open Go.RowKit in
theorem Tryz.strconv_Atoi_syntax (s : ByteArray) (hlim : s.size ≤ 281474976710656) (h : Lib.atoiAll s.data.toList = Lib.atoiAll []) (ev : Value) (w : World) (hv : w.cell? ⟨0, 0, none⟩ = some ev) (hev : ev = .nilIface ∨ ∃ te pe, ev = .iface te pe) :
    Calls Tryz.prog 31 #[.string s] w fun e w' => ∃ N, e = .returned (.tuple #[.int .i64 (0), .iface 91 (.pointer (some ⟨N, 0, none⟩))]) ∧ w.heap.size ≤ N ∧ w'.heap[N]? = some (.cells #[.string ⟨#[65, 116, 111, 105]⟩, .string s, ev] 102 (0, 0)) ∧ Below w.heap.size w w' := Any.strconv_Atoi_syntax Tryz.laysC172 s hlim (h.trans rfl) ev w hv hev
open Go.RowKit in
theorem Tryz.strconv_Atoi_range (s : ByteArray) (hlim : s.size ≤ 281474976710656) (h : Lib.atoiAll s.data.toList = .range) (ev : Value) (w : World) (hv : w.cell? ⟨1, 0, none⟩ = some ev) (hev : ev = .nilIface ∨ ∃ te pe, ev = .iface te pe) :
    Calls Tryz.prog 31 #[.string s] w fun e w' => ∃ N, e = .returned (.tuple #[.int .i64 (Lib.atoiSat s.data.toList), .iface 91 (.pointer (some ⟨N, 0, none⟩))]) ∧ w.heap.size ≤ N ∧ w'.heap[N]? = some (.cells #[.string ⟨#[65, 116, 111, 105]⟩, .string s, ev] 102 (0, 0)) ∧ Below w.heap.size w w' := Any.strconv_Atoi_range Tryz.laysC172 s hlim h ev w hv hev
def Tryz.lays219_ren : Go.Shelf.Ren := ⟨fun | 219 => 83 | 217 => 93 | 225 => 94 | 224 => 95 | 267 => 96 | 266 => 104 | 314 => 105 | n => n, fun | 9 => 9 | 3 => 3 | 4 => 4 | 5 => 5 | 46 => 84 | 146 => 123 | 51 => 122 | n => n, fun | 1 => 2 | n => n⟩
theorem Tryz.lays219 : Go.Proofs.Lays.n219 Tryz.prog Tryz.lays219_ren := {
  mixed := by kernel_rfl
  f217 := Tryz.func93.trans (congrArg some (by kernel_rfl))
  f219 := Tryz.func83.trans (congrArg some (by kernel_rfl))
  f224 := Tryz.func95.trans (congrArg some (by kernel_rfl))
  f225 := Tryz.func94.trans (congrArg some (by kernel_rfl))
  f266 := Tryz.func104.trans (congrArg some (by kernel_rfl))
  f267 := Tryz.func96.trans (congrArg some (by kernel_rfl))
  f314 := Tryz.func105.trans (congrArg some (by kernel_rfl))
  t3 := Tryz.underlying3
  a3 := Tryz.isAgg3
  z3 := Tryz.sizeOf3
  v3 := Tryz.zeroValue3
  t4 := Tryz.underlying4
  a4 := Tryz.isAgg4
  z4 := Tryz.sizeOf4
  v4 := Tryz.zeroValue4
  t5 := Tryz.underlying5
  a5 := Tryz.isAgg5
  z5 := Tryz.sizeOf5
  v5 := Tryz.zeroValue5
  t9 := Tryz.underlying9
  a9 := Tryz.isAgg9
  z9 := Tryz.sizeOf9
  v9 := Tryz.zeroValue9
  t46 := Tryz.underlying84
  a46 := Tryz.isAgg84
  z46 := Tryz.sizeOf84
  v46 := Tryz.zeroValue84
  t51 := Tryz.underlying122
  a51 := Tryz.isAgg122
  z51 := Tryz.sizeOf122
  v51 := Tryz.zeroValue122
  t146 := Tryz.underlying123
  a146 := Tryz.isAgg123
  z146 := Tryz.sizeOf123
  v146 := Tryz.zeroValue123
  g1 := by kernel_rfl }
open Go.RowKit Go.Lib in
theorem Tryz.stringslite_Index_one (s : ByteArray) (c : UInt8) (w : World) :
    Calls Tryz.prog 83 #[.string s, .string ⟨#[c]⟩] w fun e w' => e = .returned (.int .i64 (Lib.indexByte s.data.toList c)) ∧ w' = w := Any.stringslite_Index_one Tryz.lays219 s c w
def Tryz.lays101_ren : Go.Shelf.Ren := ⟨fun | 101 => 29 | 208 => 56 | 206 => 72 | n => n, fun | 9 => 9 | 4 => 4 | 3 => 3 | n => n, fun | n => n⟩
theorem Tryz.lays101 : Go.Proofs.Lays.n101 Tryz.prog Tryz.lays101_ren := {
  mixed := by kernel_rfl
  f101 := Tryz.func29.trans (congrArg some (by kernel_rfl))
  f206 := Tryz.func72.trans (congrArg some (by kernel_rfl))
  f208 := Tryz.func56.trans (congrArg some (by kernel_rfl))
  t3 := Tryz.underlying3
  a3 := Tryz.isAgg3
  z3 := Tryz.sizeOf3
  v3 := Tryz.zeroValue3
  t4 := Tryz.underlying4
  a4 := Tryz.isAgg4
  z4 := Tryz.sizeOf4
  v4 := Tryz.zeroValue4
  t9 := Tryz.underlying9
  a9 := Tryz.isAgg9
  z9 := Tryz.sizeOf9
  v9 := Tryz.zeroValue9 }
open Go.RowKit Go.Lib in
theorem Tryz.strings_TrimPrefix (s p : ByteArray) (w : World) :
    Calls Tryz.prog 29 #[.string s, .string p] w fun e w' => e = .returned (.string ⟨(Lib.trimPrefix s.data.toList p.data.toList).toArray⟩) ∧ w' = w := Any.strings_TrimPrefix Tryz.lays101 s p w
def Tryz.lays102_ren : Go.Shelf.Ren := ⟨fun | 102 => 30 | 209 => 57 | 207 => 73 | n => n, fun | 9 => 9 | 4 => 4 | 3 => 3 | n => n, fun | n => n⟩
theorem Tryz.lays102 : Go.Proofs.Lays.n102 Tryz.prog Tryz.lays102_ren := {
  mixed := by kernel_rfl
  f102 := Tryz.func30.trans (congrArg some (by kernel_rfl))
  f207 := Tryz.func73.trans (congrArg some (by kernel_rfl))
  f209 := Tryz.func57.trans (congrArg some (by kernel_rfl))
  t3 := Tryz.underlying3
  a3 := Tryz.isAgg3
  z3 := Tryz.sizeOf3
  v3 := Tryz.zeroValue3
  t4 := Tryz.underlying4
  a4 := Tryz.isAgg4
  z4 := Tryz.sizeOf4
  v4 := Tryz.zeroValue4
  t9 := Tryz.underlying9
  a9 := Tryz.isAgg9
  z9 := Tryz.sizeOf9
  v9 := Tryz.zeroValue9 }
open Go.RowKit Go.Lib in
theorem Tryz.strings_TrimSuffix (s p : ByteArray) (w : World) (hs : s.size ≤ 9223372036854775807) :
    Calls Tryz.prog 30 #[.string s, .string p] w fun e w' => e = .returned (.string ⟨(Lib.trimSuffix s.data.toList p.data.toList).toArray⟩) ∧ w' = w := Any.strings_TrimSuffix Tryz.lays102 s p w hs
def Tryz.lays146_ren : Go.Shelf.Ren := ⟨fun | 146 => 27 | 221 => 55 | 268 => 71 | 138 => 60 | 143 => 62 | 195 => 79 | 197 => 64 | 218 => 80 | 219 => 83 | 260 => 84 | 217 => 93 | 225 => 94 | 224 => 95 | 267 => 96 | 266 => 104 | 314 => 105 | n => n, fun | 9 => 9 | 31 => 46 | 3 => 3 | 4 => 4 | 0 => 0 | 105 => 80 | 21 => 21 | 5 => 5 | 46 => 84 | 119 => 107 | 139 => 110 | 138 => 109 | 146 => 123 | 51 => 122 | n => n, fun | 1 => 2 | 3 => 3 | 4 => 4 | n => n⟩
theorem Tryz.lays146 : Go.Proofs.Lays.n146 Tryz.prog Tryz.lays146_ren := {
  mixed := by kernel_rfl
  f138 := Tryz.func60.trans (congrArg some (by kernel_rfl))
  f143 := Tryz.func62.trans (congrArg some (by kernel_rfl))
  f146 := Tryz.func27.trans (congrArg some (by kernel_rfl))
  f195 := Tryz.func79.trans (congrArg some (by kernel_rfl))
  f197 := Tryz.func64.trans (congrArg some (by kernel_rfl))
  f217 := Tryz.func93.trans (congrArg some (by kernel_rfl))
  f218 := Tryz.func80.trans (congrArg some (by kernel_rfl))
  f219 := Tryz.func83.trans (congrArg some (by kernel_rfl))
  f221 := Tryz.func55.trans (congrArg some (by kernel_rfl))
  f224 := Tryz.func95.trans (congrArg some (by kernel_rfl))
  f225 := Tryz.func94.trans (congrArg some (by kernel_rfl))
  f260 := Tryz.func84.trans (congrArg some (by kernel_rfl))
  f266 := Tryz.func104.trans (congrArg some (by kernel_rfl))
  f267 := Tryz.func96.trans (congrArg some (by kernel_rfl))
  f268 := Tryz.func71.trans (congrArg some (by kernel_rfl))
  f314 := Tryz.func105.trans (congrArg some (by kernel_rfl))
  t0 := Tryz.underlying0
  a0 := Tryz.isAgg0
  z0 := Tryz.sizeOf0
  v0 := Tryz.zeroValue0
  t3 := Tryz.underlying3
  a3 := Tryz.isAgg3
  z3 := Tryz.sizeOf3
  v3 := Tryz.zeroValue3
  t4 := Tryz.underlying4
  a4 := Tryz.isAgg4
  z4 := Tryz.sizeOf4
  v4 := Tryz.zeroValue4
  t5 := Tryz.underlying5
  a5 := Tryz.isAgg5
  z5 := Tryz.sizeOf5
  v5 := Tryz.zeroValue5
  t9 := Tryz.underlying9
  a9 := Tryz.isAgg9
  z9 := Tryz.sizeOf9
  v9 := Tryz.zeroValue9
  t21 := Tryz.underlying21
  a21 := Tryz.isAgg21
  z21 := Tryz.sizeOf21
  v21 := Tryz.zeroValue21
  t31 := Tryz.underlying46
  a31 := Tryz.isAgg46
  z31 := Tryz.sizeOf46
  v31 := Tryz.zeroValue46
  t46 := Tryz.underlying84
  a46 := Tryz.isAgg84
  z46 := Tryz.sizeOf84
  v46 := Tryz.zeroValue84
  t51 := Tryz.underlying122
  a51 := Tryz.isAgg122
  z51 := Tryz.sizeOf122
  v51 := Tryz.zeroValue122
  t105 := Tryz.underlying80
  a105 := Tryz.isAgg80
  z105 := Tryz.sizeOf80
  v105 := Tryz.zeroValue80
  t119 := Tryz.underlying107
  a119 := Tryz.isAgg107
  z119 := Tryz.sizeOf107
  t138 := Tryz.underlying109
  a138 := Tryz.isAgg109
  z138 := Tryz.sizeOf109
  v138 := Tryz.zeroValue109
  t139 := Tryz.underlying110
  a139 := Tryz.isAgg110
  z139 := Tryz.sizeOf110
  v139 := Tryz.zeroValue110
  t146 := Tryz.underlying123
  a146 := Tryz.isAgg123
  z146 := Tryz.sizeOf123
  v146 := Tryz.zeroValue123
  g1 := by kernel_rfl
  g3 := by kernel_rfl
  g4 := by kernel_rfl }
open Go.RowKit Go.Lib in
theorem Tryz.strings_Split (s sep : ByteArray) (m : Int) (w : World) (hs : s.size < 4294967281) (hm : w.cell? ⟨2, 0, none⟩ = some (.int .i64 m)) (h1 : 1 ≤ sep.size) :
    Calls Tryz.prog 27 #[.string s, .string sep] w fun e w' =>
      e = .returned (.slice (some ⟨w.heap.size, 0, none⟩) (Lib.countB s sep + 1) (Lib.countB s sep + 1)) ∧ w' = w.alloc (.cells ((Lib.splitB sep 0 (Lib.countB s sep) s).map Value.string).toArray 9) := Any.strings_Split Tryz.lays146 (by kernel_rfl) s sep m w hs hm h1
def Tryz.lays154_ren : Go.Shelf.Ren := ⟨fun | 154 => 32 | 138 => 60 | 165 => 61 | 143 => 62 | 166 => 63 | 197 => 64 | 169 => 65 | 195 => 79 | 218 => 80 | 240 => 81 | 241 => 82 | 219 => 83 | 260 => 84 | 276 => 91 | 277 => 92 | 217 => 93 | 225 => 94 | 224 => 95 | 267 => 96 | 266 => 104 | 314 => 105 | n => n, fun | 9 => 9 | 3 => 3 | 4 => 4 | 72 => 78 | 0 => 0 | 76 => 53 | 105 => 80 | 21 => 21 | 5 => 5 | 70 => 76 | 20 => 20 | 37 => 22 | 75 => 52 | 127 => 95 | 164 => 104 | 46 => 84 | 119 => 107 | 139 => 110 | 138 => 109 | 146 => 123 | 51 => 122 | 80 => 82 | n => n, fun | 1 => 2 | 3 => 3 | 4 => 4 | n => n⟩
theorem Tryz.lays154 : Go.Proofs.Lays.n154 Tryz.prog Tryz.lays154_ren := {
  mixed := by kernel_rfl
  f138 := Tryz.func60.trans (congrArg some (by kernel_rfl))
  f143 := Tryz.func62.trans (congrArg some (by kernel_rfl))
  f154 := Tryz.func32.trans (congrArg some (by kernel_rfl))
  f165 := Tryz.func61.trans (congrArg some (by kernel_rfl))
  f166 := Tryz.func63.trans (congrArg some (by kernel_rfl))
  f169 := Tryz.func65.trans (congrArg some (by kernel_rfl))
  f195 := Tryz.func79.trans (congrArg some (by kernel_rfl))
  f197 := Tryz.func64.trans (congrArg some (by kernel_rfl))
  f217 := Tryz.func93.trans (congrArg some (by kernel_rfl))
  f218 := Tryz.func80.trans (congrArg some (by kernel_rfl))
  f219 := Tryz.func83.trans (congrArg some (by kernel_rfl))
  f224 := Tryz.func95.trans (congrArg some (by kernel_rfl))
  f225 := Tryz.func94.trans (congrArg some (by kernel_rfl))
  f240 := Tryz.func81.trans (congrArg some (by kernel_rfl))
  f241 := Tryz.func82.trans (congrArg some (by kernel_rfl))
  f260 := Tryz.func84.trans (congrArg some (by kernel_rfl))
  f266 := Tryz.func104.trans (congrArg some (by kernel_rfl))
  f267 := Tryz.func96.trans (congrArg some (by kernel_rfl))
  f276 := Tryz.func91.trans (congrArg some (by kernel_rfl))
  f277 := Tryz.func92.trans (congrArg some (by kernel_rfl))
  f314 := Tryz.func105.trans (congrArg some (by kernel_rfl))
  t0 := Tryz.underlying0
  a0 := Tryz.isAgg0
  z0 := Tryz.sizeOf0
  v0 := Tryz.zeroValue0
  t3 := Tryz.underlying3
  a3 := Tryz.isAgg3
  z3 := Tryz.sizeOf3
  v3 := Tryz.zeroValue3
  t4 := Tryz.underlying4
  a4 := Tryz.isAgg4
  z4 := Tryz.sizeOf4
  v4 := Tryz.zeroValue4
  t5 := Tryz.underlying5
  a5 := Tryz.isAgg5
  z5 := Tryz.sizeOf5
  v5 := Tryz.zeroValue5
  t9 := Tryz.underlying9
  a9 := Tryz.isAgg9
  z9 := Tryz.sizeOf9
  v9 := Tryz.zeroValue9
  t20 := Tryz.underlying20
  a20 := Tryz.isAgg20
  z20 := Tryz.sizeOf20
  v20 := Tryz.zeroValue20
  t21 := Tryz.underlying21
  a21 := Tryz.isAgg21
  z21 := Tryz.sizeOf21
  v21 := Tryz.zeroValue21
  t37 := Tryz.underlying22
  a37 := Tryz.isAgg22
  z37 := Tryz.sizeOf22
  v37 := Tryz.zeroValue22
  t46 := Tryz.underlying84
  a46 := Tryz.isAgg84
  z46 := Tryz.sizeOf84
  v46 := Tryz.zeroValue84
  t51 := Tryz.underlying122
  a51 := Tryz.isAgg122
  z51 := Tryz.sizeOf122
  v51 := Tryz.zeroValue122
  t70 := Tryz.underlying76
  a70 := Tryz.isAgg76
  z70 := Tryz.sizeOf76
  v70 := Tryz.zeroValue76
  t72 := Tryz.underlying78
  a72 := Tryz.isAgg78
  z72 := Tryz.sizeOf78
  v72 := Tryz.zeroValue78
  t75 := Tryz.underlying52
  a75 := Tryz.isAgg52
  z75 := Tryz.sizeOf52
  v75 := Tryz.zeroValue52
  t76 := Tryz.underlying53
  a76 := Tryz.isAgg53
  z76 := Tryz.sizeOf53
  v76 := Tryz.zeroValue53
  t105 := Tryz.underlying80
  a105 := Tryz.isAgg80
  z105 := Tryz.sizeOf80
  v105 := Tryz.zeroValue80
  t119 := Tryz.underlying107
  a119 := Tryz.isAgg107
  z119 := Tryz.sizeOf107
  t127 := Tryz.underlying95
  a127 := Tryz.isAgg95
  z127 := Tryz.sizeOf95
  v127 := Tryz.zeroValue95
  t138 := Tryz.underlying109
  a138 := Tryz.isAgg109
  z138 := Tryz.sizeOf109
  v138 := Tryz.zeroValue109
  t139 := Tryz.underlying110
  a139 := Tryz.isAgg110
  z139 := Tryz.sizeOf110
  v139 := Tryz.zeroValue110
  t146 := Tryz.underlying123
  a146 := Tryz.isAgg123
  z146 := Tryz.sizeOf123
  v146 := Tryz.zeroValue123
  t164 := Tryz.underlying104
  a164 := Tryz.isAgg104
  z164 := Tryz.sizeOf104
  v164 := Tryz.zeroValue104
  g1 := by kernel_rfl
  g3 := by kernel_rfl
  g4 := by kernel_rfl }
theorem Tryz.Builder_Extra_154 : Builder.Extra Tryz.prog Tryz.lays154_ren := {
  sizeBuilder := by kernel_rfl
  liesBuilder := by kernel_rfl
  t5 := Tryz.underlying5
  a5 := Tryz.isAgg5
  z5 := Tryz.sizeOf5
  v5 := Tryz.zeroValue5
  infoByte := by kernel_rfl
  cellsByte := by kernel_rfl
  sizeByte := by kernel_rfl
  neB5 := by decide }
open Go.RowKit Go.Lib in
theorem Tryz.strings_Replace (s old new : ByteArray) (n : Int) (m : Int) (w : World) (hs : s.size < 4294967281) (hm : w.cell? ⟨2, 0, none⟩ = some (.int .i64 m)) (h1 : 1 ≤ old.size) (hlen : s.size + Lib.countB s old * new.size ≤ 140737488355328) :
    Calls Tryz.prog 32 #[.string s, .string old, .string new, .int .i64 n] w fun e w' =>
      e = .returned (.string ⟨(Lib.replace s.data.toList old.data.toList new.data.toList n).toArray⟩) ∧ Below w.heap.size w w' := Any.strings_Replace Tryz.lays154 Tryz.Builder_Extra_154 s old new n m w hs hm h1 hlen
end Go.Proofs

/- The text of a number, in the program (strconv.Itoa), and what its table asks of the world. -/
namespace Go.Proofs.YtpjfidmapnnbkaaGreatDoor
open Go.RowKit

theorem below_grow (w : World) (k : Nat) (os : Array Obj) : Below w.heap.size w (Sort.grow (w.drewN k) os) := by
  have h1 : Below w.heap.size w (w.drewN k) := below_drewN (Below.refl _ _) k
  refine h1.trans ⟨rfl, rfl, rfl, by simp [Sort.grow], fun i hi => ?_⟩
  have hs : (w.drewN k).heap = w.heap := by simp
  simp only [Sort.grow]
  rw [Array.getElem?_append_left (by rw [hs]; exact hi)]
/-- The table of the powers of ten lies, now and in every world since. -/
abbrev Tab (w : World) : Prop := Lib.TabBelow Tryz.prog w.heap.size w "internal/strconv.uint64pow10" .u64 Lib.pow10Tab
theorem Tab.is {w : World} (h : Tab w) : Lib.TabIs Tryz.prog w "internal/strconv.uint64pow10" .u64 Lib.pow10Tab := h w (Below.refl _ _)
theorem Tab.then {w w' : World} (h : Tab w) (hb : Below w.heap.size w w') : Tab w' := fun w'' h'' => h w'' (hb.trans (h''.mono hb.size))
theorem Tab.at {w : World} (h : Tab w) (q : Since w.heap.size w) : Tab q.val := h.then q.below

theorem itoa_any (n : Int) (w : World) (h0 : -9223372036854775808 ≤ n) (h1 : n ≤ 9223372036854775807) (ht : Tab w) :
    Calls Tryz.prog 49 #[.int .i64 n] w fun e w' => e = .returned (.string ⟨(Lib.itoa n).toArray⟩) ∧ Below w.heap.size w w' :=
  (Tryz.strconv_Itoa n h0 h1 w ht.is).mono fun e w' ⟨he, k, os, hw⟩ => ⟨he, by rw [hw]; exact below_grow w k os⟩
end Go.Proofs.YtpjfidmapnnbkaaGreatDoor
