/- Tr11: the texts DrawTr OffPick OffBusy, joined into one file. -/
import Derived.Test.YtdiojhjkcholiaaDoorTr03
import Derived.Test.YtdiojhjkcholiaaDoorTr10

set_option linter.unusedVariables false

/- The reference draws an office, an office and a person, an office and a kind (FnTrays). (Printed by gen_drawtr.py) -/
namespace Go.Proofs.YtdiojhjkcholiaaDoor
open Go.RowKit

theorem grown_below {w w' : World} {g : Nat} (hg : w.grownBy w' (some g)) (h : w.heap.size ≤ g) : Below w.heap.size w w' :=
  ⟨hg.os, hg.tape, hg.output, hg.size, fun k hk => hg.block k hk (by intro e; injection e; omega)⟩
/-- An office is stored into a block of the call's own. -/
theorem office_stored {w W4 : World} {b B : Nat} (y : Oc) (TA : Option Addr) (tc : Nat) (OA : Option Addr) (oc : Nat) (h : Lies W4 b 32 [.slice none 0 0, .slice none 0 0, .int .i64 0, .int .i64 0, .int .i64 0]) (hT : W4.ownsRow B 68 2 (.slice TA y.t.length tc) y.t.length (y.t.flatMap Tray.enc)) (hO : W4.ownsRow B 71 3 (.slice OA y.o.length oc) y.o.length (y.o.flatMap Outing.enc)) (G : Below w.heap.size w W4) (hb : w.heap.size ≤ b) :
    Lies (((((W4.setCell ⟨b, 0, none⟩ (.slice TA y.t.length tc)).setCell ⟨b, 1, none⟩ (.slice OA y.o.length oc)).setCell ⟨b, 2, none⟩ (.int .i64 y.got)).setCell ⟨b, 3, none⟩ (.int .i64 y.sold)).setCell ⟨b, 4, none⟩ (.int .i64 y.missed)) b 32 [.slice TA y.t.length tc, .slice OA y.o.length oc, .int .i64 y.got, .int .i64 y.sold, .int .i64 y.missed] ∧ (((((W4.setCell ⟨b, 0, none⟩ (.slice TA y.t.length tc)).setCell ⟨b, 1, none⟩ (.slice OA y.o.length oc)).setCell ⟨b, 2, none⟩ (.int .i64 y.got)).setCell ⟨b, 3, none⟩ (.int .i64 y.sold)).setCell ⟨b, 4, none⟩ (.int .i64 y.missed)).ownsRow B 68 2 (.slice TA y.t.length tc) y.t.length (y.t.flatMap Tray.enc) ∧ (((((W4.setCell ⟨b, 0, none⟩ (.slice TA y.t.length tc)).setCell ⟨b, 1, none⟩ (.slice OA y.o.length oc)).setCell ⟨b, 2, none⟩ (.int .i64 y.got)).setCell ⟨b, 3, none⟩ (.int .i64 y.sold)).setCell ⟨b, 4, none⟩ (.int .i64 y.missed)).ownsRow B 71 3 (.slice OA y.o.length oc) y.o.length (y.o.flatMap Outing.enc) ∧ Below w.heap.size w (((((W4.setCell ⟨b, 0, none⟩ (.slice TA y.t.length tc)).setCell ⟨b, 1, none⟩ (.slice OA y.o.length oc)).setCell ⟨b, 2, none⟩ (.int .i64 y.got)).setCell ⟨b, 3, none⟩ (.int .i64 y.sold)).setCell ⟨b, 4, none⟩ (.int .i64 y.missed)) := by
  have e0 := (((((h.set 0 (.slice TA y.t.length tc)).set 1 (.slice OA y.o.length oc)).set 2 (.int .i64 y.got)).set 3 (.int .i64 y.sold)).set 4 (.int .i64 y.missed))
  have hgr := grown_set (g := b) (i := 4) (u := .int .i64 y.missed) (grown_set (g := b) (i := 3) (u := .int .i64 y.sold) (grown_set (g := b) (i := 2) (u := .int .i64 y.got) (grown_set (g := b) (i := 1) (u := .slice OA y.o.length oc) (grown_set (g := b) (i := 0) (u := .slice TA y.t.length tc) (World.grownBy.refl W4 (some b))))))
  simp only [List.set_cons_zero, List.set_cons_succ] at e0
  exact ⟨e0, ownsRow_keptG hT h ne_TO hgr, ownsRow_keptG hO h ne_OO hgr, G.grown hgr G.size (by rintro _ ⟨⟩; exact hb)⟩
set_option maxRecDepth 100000 in
set_option maxHeartbeats 4000000 in
set_option linter.unusedVariables false in
theorem drawIsOffice_any (A : Option Addr) (cap : Nat) (bs : List UInt8) (w : World) (hr : BytesR w w.heap.size A bs) :
    Calls Tryd.prog 48 #[.slice A bs.length cap] w fun e w' => ∃ (y : Oc) (v : Value), e = .returned v ∧ OwnV w' w.heap.size y v ∧ Below w.heap.size w w' := by
  have L2 := (Lies.new w 32 #[.slice none 0 0, .slice none 0 0, .int .i64 0, .int .i64 0, .int .i64 0]).alloc (.cells #[.slice A bs.length cap, .int .i64 0, .int .u64 0] 64)
  have Lc := Lies.new1 w (.cells #[.slice none 0 0, .slice none 0 0, .int .i64 0, .int .i64 0, .int .i64 0] 32) 64 #[.slice A bs.length cap, .int .i64 0, .int .u64 0]
  have b1 : Below w.heap.size w ((w.alloc (.cells #[.slice none 0 0, .slice none 0 0, .int .i64 0, .int .i64 0, .int .i64 0] 32)).alloc (.cells #[.slice A bs.length cap, .int .i64 0, .int .u64 0] 64)) := ((Below.refl w.heap.size w).alloc (Nat.le_refl _) (.cells #[.slice none 0 0, .slice none 0 0, .int .i64 0, .int .i64 0, .int .i64 0] 32)).alloc (by simp) (.cells #[.slice A bs.length cap, .int .i64 0, .int .u64 0] 64)
  go_enter Tryd.func48, Tryd.ntmps48
  go_wp2_with fail
  generalize ((w.alloc (.cells #[.slice none 0 0, .slice none 0 0, .int .i64 0, .int .i64 0, .int .i64 0] 32)).alloc (.cells #[.slice A bs.length cap, .int .i64 0, .int .u64 0] 64)) = W1 at L2 Lc b1 ⊢
  have E1 : Env w W1 (w.heap.size + 1) A bs cap 0 := ⟨⟨0, 0, Lc, Nat.le_refl _, by omega, by omega⟩, (SlcR.below hr b1).mono (by omega), grownAny b1 _⟩
  have hgl := Lc.lt
  clear hr Lc
  refine (office_any (w.heap.size + 1) A bs cap 0 w W1 (by omega) E1).mono ?_
  rintro e W2 ⟨y, v, rfl, ⟨TA, tc, OA, oc, rfl, hT, hO⟩, ⟨hy1, hy2⟩, E2, gr2⟩
  have M4 := L2.kept gr2 (by intro e; injection e; omega)
  have G4 : Below w.heap.size w W2 := grown_below (grown_trans (grownAny b1 (some (w.heap.size + 1))) gr2) (by omega)
  replace hT := ownsRow_lower hT b1.size
  replace hO := ownsRow_lower hO b1.size
  clear L2 gr2 b1 E1 E2
  have x0 := M4.cell 0
  have x1 := M4.cell 1
  have x2 := M4.cell 2
  have x3 := M4.cell 3
  have x4 := M4.cell 4
  simp only [List.getElem?_cons_zero, List.getElem?_cons_succ] at x0 x1 x2 x3 x4
  have f0 := M4.frozen 0
  have f1 := M4.frozen 1
  have f2 := M4.frozen 2
  have f3 := M4.frozen 3
  have f4 := M4.frozen 4
  obtain ⟨e0, hT5, hO5, BB⟩ := office_stored (b := w.heap.size) y TA tc OA oc M4 hT hO G4 (Nat.le_refl _)
  have HE := Lib.hid e0
  have HTO := Lib.hid (And.intro hT5 hO5)
  have HB := Lib.hid BB
  clear e0 hT5 hO5 BB M4 hT hO G4
  repeat (first | go_values | go_skip | go_guarded | go_step | go_upon | simp only [])
  generalize (((((W2.setCell ⟨w.heap.size, 0, none⟩ (.slice TA y.t.length tc)).setCell ⟨w.heap.size, 1, none⟩ (.slice OA y.o.length oc)).setCell ⟨w.heap.size, 2, none⟩ (.int .i64 y.got)).setCell ⟨w.heap.size, 3, none⟩ (.int .i64 y.sold)).setCell ⟨w.heap.size, 4, none⟩ (.int .i64 y.missed)) = W5 at HE HTO HB ⊢
  have e0 := HE.out
  have z0 := e0.cell 0
  have z1 := e0.cell 1
  have z2 := e0.cell 2
  have z3 := e0.cell 3
  have z4 := e0.cell 4
  simp only [List.getElem?_cons_zero, List.getElem?_cons_succ] at z0 z1 z2 z3 z4
  clear e0 HE
  refine bodyPost_ret (v := .agg #[.slice TA y.t.length tc, .slice OA y.o.length oc, .int .i64 y.got, .int .i64 y.sold, .int .i64 y.missed]) (by simp [results, Tryd.results48, go_sem, z0, z1, z2, z3, z4]) rfl ?_
  exact ⟨y, _, rfl, ⟨TA, tc, OA, oc, rfl, HTO.out.1, HTO.out.2⟩, HB.out⟩
set_option maxRecDepth 100000 in
set_option maxHeartbeats 4000000 in
set_option linter.unusedVariables false in
theorem drawStampsIn_any (A : Option Addr) (cap : Nat) (bs : List UInt8) (w : World) (hr : BytesR w w.heap.size A bs) :
    Calls Tryd.prog 20 #[.slice A bs.length cap] w fun e w' => ∃ (y : Oc) (v : Value), e = .returned v ∧ OwnV w' w.heap.size y v ∧ Below w.heap.size w w' := by
  have L2 := Lies.new w 32 #[.slice none 0 0, .slice none 0 0, .int .i64 0, .int .i64 0, .int .i64 0]
  have b1 : Below w.heap.size w (w.alloc (.cells #[.slice none 0 0, .slice none 0 0, .int .i64 0, .int .i64 0, .int .i64 0] 32)) := (Below.refl w.heap.size w).alloc (Nat.le_refl _) (.cells #[.slice none 0 0, .slice none 0 0, .int .i64 0, .int .i64 0, .int .i64 0] 32)
  go_enter Tryd.func20, Tryd.ntmps20
  go_wp2_with fail
  generalize (w.alloc (.cells #[.slice none 0 0, .slice none 0 0, .int .i64 0, .int .i64 0, .int .i64 0] 32)) = W1 at L2 b1 ⊢
  refine (drawIsOffice_any A cap bs W1 ((SlcR.below hr b1).mono b1.size)).mono ?_
  rintro e W2 ⟨y, v, rfl, ⟨TA, tc, OA, oc, rfl, hT, hO⟩, b2⟩
  have M4 := L2.below b2 L2.lt
  have G4 : Below w.heap.size w W2 := b1.trans (b2.mono b1.size)
  replace hT := ownsRow_lower hT b1.size
  replace hO := ownsRow_lower hO b1.size
  clear L2 b1 b2 hr
  have x0 := M4.cell 0
  have x1 := M4.cell 1
  have x2 := M4.cell 2
  have x3 := M4.cell 3
  have x4 := M4.cell 4
  simp only [List.getElem?_cons_zero, List.getElem?_cons_succ] at x0 x1 x2 x3 x4
  have f0 := M4.frozen 0
  have f1 := M4.frozen 1
  have f2 := M4.frozen 2
  have f3 := M4.frozen 3
  have f4 := M4.frozen 4
  obtain ⟨e0, hT5, hO5, BB⟩ := office_stored (b := w.heap.size) y TA tc OA oc M4 hT hO G4 (Nat.le_refl _)
  have HE := Lib.hid e0
  have HTO := Lib.hid (And.intro hT5 hO5)
  have HB := Lib.hid BB
  clear e0 hT5 hO5 BB M4 hT hO G4
  repeat (first | go_values | go_skip | go_guarded | go_step | go_upon | simp only [])
  generalize (((((W2.setCell ⟨w.heap.size, 0, none⟩ (.slice TA y.t.length tc)).setCell ⟨w.heap.size, 1, none⟩ (.slice OA y.o.length oc)).setCell ⟨w.heap.size, 2, none⟩ (.int .i64 y.got)).setCell ⟨w.heap.size, 3, none⟩ (.int .i64 y.sold)).setCell ⟨w.heap.size, 4, none⟩ (.int .i64 y.missed)) = W5 at HE HTO HB ⊢
  have e0 := HE.out
  have z0 := e0.cell 0
  have z1 := e0.cell 1
  have z2 := e0.cell 2
  have z3 := e0.cell 3
  have z4 := e0.cell 4
  simp only [List.getElem?_cons_zero, List.getElem?_cons_succ] at z0 z1 z2 z3 z4
  clear e0 HE
  refine bodyPost_ret (v := .agg #[.slice TA y.t.length tc, .slice OA y.o.length oc, .int .i64 y.got, .int .i64 y.sold, .int .i64 y.missed]) (by simp [results, Tryd.results20, go_sem, z0, z1, z2, z3, z4]) rfl ?_
  exact ⟨y, _, rfl, ⟨TA, tc, OA, oc, rfl, HTO.out.1, HTO.out.2⟩, HB.out⟩
set_option maxRecDepth 100000 in
set_option maxHeartbeats 4000000 in
set_option linter.unusedVariables false in
theorem drawKindsAt_any (A : Option Addr) (cap : Nat) (bs : List UInt8) (w : World) (hr : BytesR w w.heap.size A bs) :
    Calls Tryd.prog 25 #[.slice A bs.length cap] w fun e w' => ∃ (y : Oc) (v : Value) (z : Int), e = .returned (.tuple #[v, .int .i64 z]) ∧ OwnV w' w.heap.size y v ∧ Below w.heap.size w w' := by
  have L2 := (Lies.new w 32 #[.slice none 0 0, .slice none 0 0, .int .i64 0, .int .i64 0, .int .i64 0]).alloc (.cells #[.slice A bs.length cap, .int .i64 0, .int .u64 0] 64)
  have Lc := Lies.new1 w (.cells #[.slice none 0 0, .slice none 0 0, .int .i64 0, .int .i64 0, .int .i64 0] 32) 64 #[.slice A bs.length cap, .int .i64 0, .int .u64 0]
  have b1 : Below w.heap.size w ((w.alloc (.cells #[.slice none 0 0, .slice none 0 0, .int .i64 0, .int .i64 0, .int .i64 0] 32)).alloc (.cells #[.slice A bs.length cap, .int .i64 0, .int .u64 0] 64)) := ((Below.refl w.heap.size w).alloc (Nat.le_refl _) (.cells #[.slice none 0 0, .slice none 0 0, .int .i64 0, .int .i64 0, .int .i64 0] 32)).alloc (by simp) (.cells #[.slice A bs.length cap, .int .i64 0, .int .u64 0] 64)
  go_enter Tryd.func25, Tryd.ntmps25
  go_wp2_with fail
  generalize ((w.alloc (.cells #[.slice none 0 0, .slice none 0 0, .int .i64 0, .int .i64 0, .int .i64 0] 32)).alloc (.cells #[.slice A bs.length cap, .int .i64 0, .int .u64 0] 64)) = W1 at L2 Lc b1 ⊢
  have E1 : Env w W1 (w.heap.size + 1) A bs cap 0 := ⟨⟨0, 0, Lc, Nat.le_refl _, by omega, by omega⟩, (SlcR.below hr b1).mono (by omega), grownAny b1 _⟩
  have hgl := Lc.lt
  clear hr Lc
  refine (office_any (w.heap.size + 1) A bs cap 0 w W1 (by omega) E1).mono ?_
  rintro e W2 ⟨y, v, rfl, ⟨TA, tc, OA, oc, rfl, hT, hO⟩, ⟨hy1, hy2⟩, E2, gr2⟩
  have L7 := Lies.new W2 3 #[.int .i64 5, .int .i64 5, .int .i64 17, .int .i64 40, .int .i64 999, .int .i64 0, .int .i64 1000]
  have E3 := E2.alloc (.cells #[.int .i64 5, .int .i64 5, .int .i64 17, .int .i64 40, .int .i64 999, .int .i64 0, .int .i64 1000] 3)
  have M3 := (L2.kept gr2 (by intro e; injection e; omega)).alloc (.cells #[.int .i64 5, .int .i64 5, .int .i64 17, .int .i64 40, .int .i64 999, .int .i64 0, .int .i64 1000] 3)
  have G3 := grown_alloc (grown_trans (grownAny b1 (some (w.heap.size + 1))) gr2) (.cells #[.int .i64 5, .int .i64 5, .int .i64 17, .int .i64 40, .int .i64 999, .int .i64 0, .int .i64 1000] 3)
  replace hT := hT.alloc (.cells #[.int .i64 5, .int .i64 5, .int .i64 17, .int .i64 40, .int .i64 999, .int .i64 0, .int .i64 1000] 3)
  replace hO := hO.alloc (.cells #[.int .i64 5, .int .i64 5, .int .i64 17, .int .i64 40, .int .i64 999, .int .i64 0, .int .i64 1000] 3)
  have hB1 := b1.size
  have hs2 := gr2.size
  have hsl : W2.heap.size < (W2.alloc (.cells #[.int .i64 5, .int .i64 5, .int .i64 17, .int .i64 40, .int .i64 999, .int .i64 0, .int .i64 1000] 3)).heap.size := by simp
  clear L2 gr2 b1 E1 E2
  go_wp2_with fail
  generalize W2.alloc (.cells #[.int .i64 5, .int .i64 5, .int .i64 17, .int .i64 40, .int .i64 999, .int .i64 0, .int .i64 1000] 3) = W3 at L7 E3 M3 G3 hT hO hsl ⊢
  generalize W2.heap.size = g7 at L7 hs2 hsl ⊢
  refine (among_lies E3 g7 7 [5, 5, 17, 40, 999, 0, 1000] rfl L7 (by omega) (by omega) (by omega) (by omega)).mono ?_
  rintro e W4 ⟨z, rfl, E4, gr4⟩
  have M4 := M3.kept gr4 (by intro e; injection e; omega)
  have G4 : Below w.heap.size w W4 := grown_below (grown_trans G3 gr4) (by omega)
  replace hT := ownsRow_lower (ownsRow_grown hT gr4 hgl) hB1
  replace hO := ownsRow_lower (ownsRow_grown hO gr4 hgl) hB1
  clear M3 G3 gr4 E4 E3 L7 hsl hs2
  have x0 := M4.cell 0
  have x1 := M4.cell 1
  have x2 := M4.cell 2
  have x3 := M4.cell 3
  have x4 := M4.cell 4
  simp only [List.getElem?_cons_zero, List.getElem?_cons_succ] at x0 x1 x2 x3 x4
  have f0 := M4.frozen 0
  have f1 := M4.frozen 1
  have f2 := M4.frozen 2
  have f3 := M4.frozen 3
  have f4 := M4.frozen 4
  obtain ⟨e0, hT5, hO5, BB⟩ := office_stored (b := w.heap.size) y TA tc OA oc M4 hT hO G4 (Nat.le_refl _)
  have HE := Lib.hid e0
  have HTO := Lib.hid (And.intro hT5 hO5)
  have HB := Lib.hid BB
  clear e0 hT5 hO5 BB M4 hT hO G4
  repeat (first | go_values | go_skip | go_guarded | go_step | go_upon | simp only [])
  generalize (((((W4.setCell ⟨w.heap.size, 0, none⟩ (.slice TA y.t.length tc)).setCell ⟨w.heap.size, 1, none⟩ (.slice OA y.o.length oc)).setCell ⟨w.heap.size, 2, none⟩ (.int .i64 y.got)).setCell ⟨w.heap.size, 3, none⟩ (.int .i64 y.sold)).setCell ⟨w.heap.size, 4, none⟩ (.int .i64 y.missed)) = W5 at HE HTO HB ⊢
  have e0 := HE.out
  have z0 := e0.cell 0
  have z1 := e0.cell 1
  have z2 := e0.cell 2
  have z3 := e0.cell 3
  have z4 := e0.cell 4
  simp only [List.getElem?_cons_zero, List.getElem?_cons_succ] at z0 z1 z2 z3 z4
  clear e0 HE
  refine bodyPost_ret (v := .tuple #[.agg #[.slice TA y.t.length tc, .slice OA y.o.length oc, .int .i64 y.got, .int .i64 y.sold, .int .i64 y.missed], .int .i64 z]) (by simp [results, Tryd.results25, go_sem, z0, z1, z2, z3, z4]) rfl ?_
  exact ⟨y, _, _, rfl, ⟨TA, tc, OA, oc, rfl, HTO.out.1, HTO.out.2⟩, HB.out⟩
theorem Dr.wroteB {w W : World} {g : Nat} {A : Option Addr} {bs : List UInt8} {cap m K n k : Nat} {X : List Nat} {R : List Room} {L : Nat → Bool} {W9 W8 : World} {b : Nat} (h : Dr w W g A bs cap m K n X R L W9) (hL : L k = false) (hk : k < n) (gr : W9.grownBy W8 (some b)) (hgb : g ≠ b) (hrd : BytesR W8 g A bs) (hw : w.heap.size ≤ b) (hX : b ∈ X ∨ W.heap.size ≤ b) (hr : ∀ p ∈ R, p.blk = some b → p.op = k) : Dr w W g A bs cap m K n X R (Listed.but L k) W8 := by
  have hE : Env w W8 g A bs cap (m + K * cntB L n) :=
    ⟨h.env.cur.kept gr (by intro e; injection e with e; exact hgb e), hrd, ⟨gr.os.trans h.env.gr.os, gr.tape.trans h.env.gr.tape, gr.output.trans h.env.gr.output, Nat.le_trans h.env.gr.size gr.size, fun j hj hne => (gr.block j (Nat.lt_of_lt_of_le hj h.env.gr.size) (by intro e; injection e; omega)).trans (h.env.gr.block j hj hne)⟩⟩
  refine ⟨hE.mono (by rw [cntB_but hL n hk, Nat.mul_add]; omega), Nat.le_trans h.size gr.size, fun k hk' hX' => (gr.block k (Nat.lt_of_lt_of_le hk' h.size) (by intro e; injection e with e; subst e; rcases hX with h1 | h1; exact hX' h1; omega)).trans (h.keep k hk' hX'), fun p hp => ⟨(h.room p hp).1, fun hl => ?_⟩⟩
  obtain ⟨h1, h2⟩ := Listed.was hl
  refine p.st _ _ _ gr ?_ ((h.room p hp).2 h1)
  by_cases e : p.blk = some b
  · exact absurd (hr p hp e) h2
  · exact .inr e
/-- The bytes that came in stand, whatever the call's own blocks turned into. -/
theorem drawn_bytes {w0 w W W9 W8 : World} {g b : Nat} {A : Option Addr} {bs : List UInt8} {cap m K n : Nat} {X : List Nat} {R : List Room} {L : Nat → Bool} (hr : BytesR w0 w0.heap.size A bs) (G : w0.grownBy W (some g)) (h : Dr w W g A bs cap m K n X R L W9) (hX : ∀ k ∈ X, w0.heap.size ≤ k) (gr : W9.grownBy W8 (some b)) (hb : w0.heap.size ≤ b) (hg : w0.heap.size ≤ g) : BytesR W8 g A bs := by
  refine SlcR.mono (hr.keep fun p hp => ?_) hg
  refine World.cell?_of_block ?_
  have h0 : p.block < W.heap.size := Nat.lt_of_lt_of_le hp G.size
  rw [gr.block p.block (Nat.lt_of_lt_of_le h0 h.size) (by intro e; injection e; omega), h.keep p.block h0 (fun hm => by have := hX _ hm; omega), G.block p.block hp (by intro e; injection e; omega)]
set_option maxRecDepth 100000 in
set_option maxHeartbeats 4000000 in
set_option linter.unusedVariables false in
theorem drawPersonsWith_any (A : Option Addr) (cap : Nat) (bs : List UInt8) (w : World) (hr : BytesR w w.heap.size A bs) :
    Calls Tryd.prog 11 #[.slice A bs.length cap] w fun e w' => ∃ (y : Oc) (v : Value) (z : Int), e = .returned (.tuple #[v, .int .i64 z]) ∧ OwnV w' w.heap.size y v ∧ Below w.heap.size w w' := by
  have L2 := (Lies.new w 32 #[.slice none 0 0, .slice none 0 0, .int .i64 0, .int .i64 0, .int .i64 0]).alloc (.cells #[.slice A bs.length cap, .int .i64 0, .int .u64 0] 64)
  have Lc := Lies.new1 w (.cells #[.slice none 0 0, .slice none 0 0, .int .i64 0, .int .i64 0, .int .i64 0] 32) 64 #[.slice A bs.length cap, .int .i64 0, .int .u64 0]
  have b1 : Below w.heap.size w ((w.alloc (.cells #[.slice none 0 0, .slice none 0 0, .int .i64 0, .int .i64 0, .int .i64 0] 32)).alloc (.cells #[.slice A bs.length cap, .int .i64 0, .int .u64 0] 64)) := ((Below.refl w.heap.size w).alloc (Nat.le_refl _) (.cells #[.slice none 0 0, .slice none 0 0, .int .i64 0, .int .i64 0, .int .i64 0] 32)).alloc (by simp) (.cells #[.slice A bs.length cap, .int .i64 0, .int .u64 0] 64)
  go_enter Tryd.func11, Tryd.ntmps11
  go_wp2_with fail
  generalize ((w.alloc (.cells #[.slice none 0 0, .slice none 0 0, .int .i64 0, .int .i64 0, .int .i64 0] 32)).alloc (.cells #[.slice A bs.length cap, .int .i64 0, .int .u64 0] 64)) = W1 at L2 Lc b1 ⊢
  have E1 : Env w W1 (w.heap.size + 1) A bs cap 0 := ⟨⟨0, 0, Lc, Nat.le_refl _, by omega, by omega⟩, (SlcR.below hr b1).mono (by omega), grownAny b1 _⟩
  have hgl := Lc.lt
  have HBR := Lib.hid hr
  clear hr Lc
  refine (office_any (w.heap.size + 1) A bs cap 0 w W1 (by omega) E1).mono ?_
  rintro e W2 ⟨y, v, rfl, ⟨TA, tc, OA, oc, rfl, hT, hO⟩, ⟨hy1, hy2⟩, E2, gr2⟩
  have K5 := Lies.new W2 32 #[.slice TA y.t.length tc, .slice OA y.o.length oc, .int .i64 y.got, .int .i64 y.sold, .int .i64 y.missed]
  have E3 := E2.alloc (.cells #[.slice TA y.t.length tc, .slice OA y.o.length oc, .int .i64 y.got, .int .i64 y.sold, .int .i64 y.missed] 32)
  have M3 := (L2.kept gr2 (by intro e; injection e; omega)).alloc (.cells #[.slice TA y.t.length tc, .slice OA y.o.length oc, .int .i64 y.got, .int .i64 y.sold, .int .i64 y.missed] 32)
  replace hT := hT.alloc (.cells #[.slice TA y.t.length tc, .slice OA y.o.length oc, .int .i64 y.got, .int .i64 y.sold, .int .i64 y.missed] 32)
  replace hO := hO.alloc (.cells #[.slice TA y.t.length tc, .slice OA y.o.length oc, .int .i64 y.got, .int .i64 y.sold, .int .i64 y.missed] 32)
  have G3 := grown_alloc (grown_trans (grownAny b1 (some (w.heap.size + 1))) gr2) (.cells #[.slice TA y.t.length tc, .slice OA y.o.length oc, .int .i64 y.got, .int .i64 y.sold, .int .i64 y.missed] 32)
  have hs2 := gr2.size
  have HB1 := Lib.hid b1.size
  have hl3 : (W2.alloc (.cells #[.slice TA y.t.length tc, .slice OA y.o.length oc, .int .i64 y.got, .int .i64 y.sold, .int .i64 y.missed] 32)).heap.size = W2.heap.size + 1 := by simp
  clear L2 E2 gr2 E1 b1
  by_cases h0 : 0 < y.t.length
  · obtain ⟨bT, oT, rfl, -⟩ := (ownsRow_reads hT).at_ h0
    have H0 := Lib.hid h0
    have hi0 : (0 : Int) < y.t.length := by omega
    clear h0
    go_wp2_with fail
    generalize W2.alloc (.cells #[.slice (some ⟨bT, oT, none⟩) y.t.length tc, .slice OA y.o.length oc, .int .i64 y.got, .int .i64 y.sold, .int .i64 y.missed] 32) = W3 at K5 E3 M3 G3 hT hO hl3 ⊢
    generalize W2.heap.size = g5 at K5 hs2 hl3 ⊢
    refine (one_env E3 6 (by omega) (by omega)).mono ?_
    rintro e W4 ⟨q, rfl, E4, gr4⟩
    have E4 := E4.mono (show _ ≤ 200000 by omega)
    replace K5 := K5.kept gr4 (by intro e; injection e; omega)
    have HM := Lib.hid (M3.kept gr4 (by intro e; injection e; omega))
    have HG4 := Lib.hid (grown_trans G3 gr4)
    have HT := Lib.hid (ownsRow_grown hT gr4 hgl)
    have HO := Lib.hid (ownsRow_grown hO gr4 hgl)
    have hs4 := gr4.size
    clear hT hO M3 G3 gr4 E3
    have nx5 : g5 ∉ [(w.heap.size + 1), w.heap.size] := by simp only [List.mem_cons, List.not_mem_nil, or_false]; omega
    have HXt : Hid (∀ b, Value.ownBlock (.slice (some ⟨bT, oT, none⟩) y.t.length tc) = some b → b ∉ [(w.heap.size + 1), w.heap.size]) := fun b hb hm => by
      have := (HT.out.lt b hb).1
      simp only [List.mem_cons, List.not_mem_nil, or_false] at hm; omega
    have HXo : Hid (∀ b, Value.ownBlock (.slice OA y.o.length oc) = some b → b ∉ [(w.heap.size + 1), w.heap.size]) := fun b hb hm => by
      have := (HO.out.lt b hb).1
      simp only [List.mem_cons, List.not_mem_nil, or_false] at hm; omega
    cases q with
    | false =>
      go_wp2_with fail
      have HR0 : Hid (∀ p ∈ [Room.lies 11 w.heap.size 32 [.slice none 0 0, .slice none 0 0, .int .i64 0, .int .i64 0, .int .i64 0]], p.blk ≠ some (w.heap.size + 1) ∧ p.P W4) := by
        intro p hp
        simp only [List.mem_cons, List.not_mem_nil, or_false] at hp
        subst hp
        exact ⟨by intro e; injection e; omega, HM.out⟩
      refine wp_region_factsR (Dr w W4 (w.heap.size + 1) A bs cap (200000) 2 13 [(w.heap.size + 1), w.heap.size] [Room.lies 11 w.heap.size 32 [.slice none 0 0, .slice none 0 0, .int .i64 0, .int .i64 0, .int .i64 0]]) (fun i w1 w2 => i ∉ [11] → w1.grownBy w2 (some (w.heap.size + 1))) (by kernel_rfl) (by kernel_rfl) (by kernel_rfl) (Dr.start E4 HR0.out) ?_
      simp only [fillOps, Act.put, List.setIfInBounds_toArray, List.set_cons_zero, List.set_cons_succ, Nat.zero_add, Nat.reduceAdd]
      apply wpFactsR_val
      case h1 =>
        intro vs L9 w9 hG9 hC9 hB K9 hK9
        have q0 : w9.cell? ⟨g5, 0, none⟩ = some (.slice (some ⟨bT, oT, none⟩) y.t.length tc) := (hC9.lies K5 nx5).cell 0
        have q1 : w9.cell? ⟨g5, 1, none⟩ = some (.slice OA y.o.length oc) := (hC9.lies K5 nx5).cell 1
        have q2 : w9.cell? ⟨g5, 2, none⟩ = some (.int .i64 y.got) := (hC9.lies K5 nx5).cell 2
        have q3 : w9.cell? ⟨g5, 3, none⟩ = some (.int .i64 y.sold) := (hC9.lies K5 nx5).cell 3
        have q4 : w9.cell? ⟨g5, 4, none⟩ = some (.int .i64 y.missed) := (hC9.lies K5 nx5).cell 4
        simp only [Act.put, List.setIfInBounds_toArray, List.set_cons_zero, List.set_cons_succ] at hK9
        go_simp
        exact hK9 _ _ rfl (hC9.stay hG9.self (by decide)) (fun _ => World.grownBy.refl _ _)
      apply wpFactsR_val
      case h1 =>
        intro vs L9 w9 hG9 hC9 hB K9 hK9
        simp only [Act.put, List.setIfInBounds_toArray, List.set_cons_zero, List.set_cons_succ] at hK9
        go_simp
        exact hK9 _ _ rfl (hC9.stay hG9.self (by decide)) (fun _ => World.grownBy.refl _ _)
      apply wpFactsR_val
      case h1 =>
        intro vs L9 w9 hG9 hC9 hB K9 hK9
        have d1 := FactN.eq (hB 1 _ (by kernel_rfl) (by kernel_rfl) rfl (by decide))
        simp only [d1] at hK9 ⊢
        have q0 : w9.cell? ⟨g5, 0, none⟩ = some (.slice (some ⟨bT, oT, none⟩) y.t.length tc) := (hC9.lies K5 nx5).cell 0
        simp only [Act.put, List.setIfInBounds_toArray, List.set_cons_zero, List.set_cons_succ] at hK9
        go_simp
        exact hK9 _ _ rfl (hC9.stay hG9.self (by decide)) (fun _ => World.grownBy.refl _ _)
      apply wpFactsR_val
      case h1 =>
        intro vs L9 w9 hG9 hC9 hB K9 hK9
        simp only [Act.put, List.setIfInBounds_toArray, List.set_cons_zero, List.set_cons_succ] at hK9
        go_simp
        exact hK9 _ _ rfl (hC9.stay hG9.self (by decide)) (fun _ => World.grownBy.refl _ _)
      apply wpFactsR_val
      case h1 =>
        intro vs L9 w9 hG9 hC9 hB K9 hK9
        simp only [Act.put, List.setIfInBounds_toArray, List.set_cons_zero, List.set_cons_succ] at hK9
        go_simp
        exact hK9 _ _ rfl (hC9.stay hG9.self (by decide)) (fun _ => World.grownBy.refl _ _)
      apply wpFactsR_val
      case h1 =>
        intro vs L9 w9 hG9 hC9 hB K9 hK9
        have d4 := FactN.eq (hB 4 _ (by kernel_rfl) (by kernel_rfl) rfl (by decide))
        simp only [d4] at hK9 ⊢
        have q0 : w9.cell? ⟨g5, 0, none⟩ = some (.slice (some ⟨bT, oT, none⟩) y.t.length tc) := (hC9.lies K5 nx5).cell 0
        simp only [Act.put, List.setIfInBounds_toArray, List.set_cons_zero, List.set_cons_succ] at hK9
        go_simp
        exact hK9 _ _ rfl (hC9.stay hG9.self (by decide)) (fun _ => World.grownBy.refl _ _)
      apply wpFactsR_val
      case h1 =>
        intro vs L9 w9 hG9 hC9 hB K9 hK9
        have d5 := FactN.eq (hB 5 _ (by kernel_rfl) (by kernel_rfl) rfl (by decide))
        simp only [d5] at hK9 ⊢
        simp only [Act.put, List.setIfInBounds_toArray, List.set_cons_zero, List.set_cons_succ] at hK9
        go_simp
        exact hK9 _ _ rfl (hC9.stay hG9.self (by decide)) (fun _ => World.grownBy.refl _ _)
      refine wpFactsR_some [] (fun v _ => ∃ i : Nat, v = .int .i64 i ∧ i ≤ y.t.length - 1) ?_ (fun vs L9 w9 hG9 hC9 hB K9 hK9 => ?_) ?_
      next =>
        intro i9 hi9 hb9 ha9 v w1 w2 hv hT9
        exact hv
      next =>
        have d3 := FactN.eq (hB 3 _ (by kernel_rfl) (by kernel_rfl) rfl (by decide))
        have d6 := FactN.eq (hB 6 _ (by kernel_rfl) (by kernel_rfl) rfl (by decide))
        simp only [d3, d6] at hK9 ⊢
        simp only [Act.put, List.setIfInBounds_toArray, List.set_cons_zero, List.set_cons_succ] at hK9
        go_simp
        refine (pick_env hC9.env y.t.length (by omega) (by have := hC9.cnt; omega)).mono ?_
        rintro en w8 ⟨x8, rfl, hx8, hE8, hg8⟩
        exact hK9 _ _ _ rfl ⟨_, rfl, hx8⟩ (hC9.call hG9.self (by decide) hE8 (by have := hC9.cnt; omega) hg8 (by simp)) (fun _ => hg8)
      refine wpFactsR_some [] (fun v _ => ∃ i : Nat, v = .pointer (some ⟨bT, oT + i * 2, none⟩) ∧ i < y.t.length) ?_ (fun vs L9 w9 hG9 hC9 hB K9 hK9 => ?_) ?_
      next =>
        intro i9 hi9 hb9 ha9 v w1 w2 hv hT9
        exact hv
      next =>
        have d2 := FactN.eq (hB 2 _ (by kernel_rfl) (by kernel_rfl) rfl (by decide))
        simp only [d2] at hK9 ⊢
        simp only [Act.put, List.setIfInBounds_toArray, List.set_cons_zero, List.set_cons_succ] at hK9
        obtain ⟨x7, e7, ex7⟩ := hB 7 _ (by kernel_rfl) (by kernel_rfl) rfl (by decide)
        simp only [e7] at hK9 ⊢
        have hx7 : x7 < y.t.length := by have := H0.out; omega
        go_simp
        exact hK9 _ _ _ rfl ⟨x7, rfl, hx7⟩ (hC9.stay hG9.self (by decide)) (fun _ => World.grownBy.refl _ _)
      refine wpFactsR_some [] (fun v _ => ∃ i : Nat, v = .pointer (some ⟨bT, oT + i * 2, none⟩) ∧ i < y.t.length) ?_ (fun vs L9 w9 hG9 hC9 hB K9 hK9 => ?_) ?_
      next =>
        intro i9 hi9 hb9 ha9 v w1 w2 hv hT9
        exact hv
      next =>
        simp only [Act.put, List.setIfInBounds_toArray, List.set_cons_zero, List.set_cons_succ] at hK9
        obtain ⟨i8, e8, ei8⟩ := hB 8 _ (by kernel_rfl) (by kernel_rfl) rfl (by decide)
        simp only [e8] at hK9 ⊢
        go_simp
        exact hK9 _ _ _ rfl ⟨i8, rfl, ei8⟩ (hC9.stay hG9.self (by decide)) (fun _ => World.grownBy.refl _ _)
      refine wpFactsR_some [] (fun v _ => ∃ z : Int, v = .int .i64 z) ?_ (fun vs L9 w9 hG9 hC9 hB K9 hK9 => ?_) ?_
      next =>
        intro i9 hi9 hb9 ha9 v w1 w2 hv hT9
        exact hv
      next =>
        simp only [Act.put, List.setIfInBounds_toArray, List.set_cons_zero, List.set_cons_succ] at hK9
        obtain ⟨i9, e9, ei9⟩ := hB 9 _ (by kernel_rfl) (by kernel_rfl) rfl (by decide)
        simp only [e9] at hK9 ⊢
        have hr9 := ownsRow_reads (hC9.owns HT.out HXt.out)
        obtain ⟨b9, off9, e0, hb9, hc9⟩ := hr9.at_ H0.out
        injection e0 with e0
        injection e0 with q1 q2
        subst q1 q2
        have q0 : w9.cell? ⟨bT, oT + i9 * 2, none⟩ = some (.int .i64 (y.t[i9]).k) := by have h := hc9 (i9 * 2 + 0) (.int .i64 (y.t[i9]).k) (by rw [flat_at Tray.enc 2 Tray.enc_len y.t i9 ei9 0 (by omega)]; rfl); simpa [Nat.add_assoc] using h
        go_simp
        exact hK9 _ _ _ rfl ⟨_, rfl⟩ (hC9.stay hG9.self (by decide)) (fun _ => World.grownBy.refl _ _)
      refine wpFactsR_some [] (fun _ w9 => Lies w9 w.heap.size 32 [.slice (some ⟨bT, oT, none⟩) y.t.length tc, .slice OA y.o.length oc, .int .i64 y.got, .int .i64 y.sold, .int .i64 y.missed]) ?_ (fun vs L9 w9 hG9 hC9 hB K9 hK9 => ?_) ?_
      next =>
        intro i9 hi9 hb9 ha9 v w1 w2 hv hT9
        have hb := hT9 (fun hm => by
          simp only [List.mem_cons, List.not_mem_nil, or_false] at hm hb9
          subst hm
          · exact hi9 rfl)
        exact hv.kept hb (by intro e; injection e; omega)
      next =>
        have d0 := FactN.eq (hB 0 _ (by kernel_rfl) (by kernel_rfl) rfl (by decide))
        simp only [d0] at hK9 ⊢
        simp only [Act.put, List.setIfInBounds_toArray, List.set_cons_zero, List.set_cons_succ] at hK9
        have hL9 : Lies w9 w.heap.size 32 [.slice none 0 0, .slice none 0 0, .int .i64 0, .int .i64 0, .int .i64 0] := (hC9.room (Room.lies 11 w.heap.size 32 [.slice none 0 0, .slice none 0 0, .int .i64 0, .int .i64 0, .int .i64 0]) (by simp)).2 hG9.self
        have y0 := hL9.cell 0
        have y1 := hL9.cell 1
        have y2 := hL9.cell 2
        have y3 := hL9.cell 3
        have y4 := hL9.cell 4
        simp only [List.getElem?_cons_zero, List.getElem?_cons_succ] at y0 y1 y2 y3 y4
        have f0 := hL9.frozen 0
        have f1 := hL9.frozen 1
        have f2 := hL9.frozen 2
        have f3 := hL9.frozen 3
        have f4 := hL9.frozen 4
        have hN9 : Lies _ w.heap.size 32 [.slice (some ⟨bT, oT, none⟩) y.t.length tc, .slice OA y.o.length oc, .int .i64 y.got, .int .i64 y.sold, .int .i64 y.missed] := (((((hL9.set 0 (.slice (some ⟨bT, oT, none⟩) y.t.length tc)).set 1 (.slice OA y.o.length oc)).set 2 (.int .i64 y.got)).set 3 (.int .i64 y.sold)).set 4 (.int .i64 y.missed))
        have hG8 := Lib.hid (grown_set (g := w.heap.size) (i := 4) (u := .int .i64 y.missed) (grown_set (g := w.heap.size) (i := 3) (u := .int .i64 y.sold) (grown_set (g := w.heap.size) (i := 2) (u := .int .i64 y.got) (grown_set (g := w.heap.size) (i := 1) (u := .slice OA y.o.length oc) (grown_set (g := w.heap.size) (i := 0) (u := .slice (some ⟨bT, oT, none⟩) y.t.length tc) (World.grownBy.refl w9 (some w.heap.size)))))))
        have hN8 := Lib.hid hN9
        clear hN9 hL9
        go_simp
        exact hK9 _ undef _ rfl hN8.out (hC9.wroteB hG9.self (by decide) hG8.out (by omega) (drawn_bytes HBR.out HG4.out hC9 (by intro k hk; simp only [List.mem_cons, List.not_mem_nil, or_false] at hk; omega) hG8.out (by omega) (by omega)) (by omega) (.inl (by simp)) (by intro p hp e; simp only [List.mem_cons, List.not_mem_nil, or_false] at hp; subst hp; rfl)) (fun hq => (hq (by decide)).elim)
      refine wpFactsR_some [] (fun v _ => ∃ z : Int, v = .int .i64 z) ?_ (fun vs L9 w9 hG9 hC9 hB K9 hK9 => ?_) ?_
      next =>
        intro i9 hi9 hb9 ha9 v w1 w2 hv hT9
        exact hv
      next =>
        simp only [Act.put, List.setIfInBounds_toArray, List.set_cons_zero, List.set_cons_succ] at hK9
        obtain ⟨z10, e10⟩ := hB 10 _ (by kernel_rfl) (by kernel_rfl) rfl (by decide)
        simp only [e10] at hK9 ⊢
        go_simp
        exact hK9 _ _ _ rfl ⟨_, rfl⟩ (hC9.stay hG9.self (by decide)) (fun _ => World.grownBy.refl _ _)
      refine wpFactsR_nil fun vs Lq W5 hL9 hC5 hB => ?_
      obtain ⟨z, hz⟩ := hB 12 _ rfl rfl (by decide)
      have hY := hB 11 _ rfl rfl (by decide)
      clear hB hL9
      have hY : Lies W5 w.heap.size 32 [.slice (some ⟨bT, oT, none⟩) y.t.length tc, .slice OA y.o.length oc, .int .i64 y.got, .int .i64 y.sold, .int .i64 y.missed] := hY
      have hT5 := ownsRow_lower (hC5.owns HT.out HXt.out) HB1.out
      have hO5 := ownsRow_lower (hC5.owns HO.out HXo.out) HB1.out
      have G5 := drawn_gr HG4.out hC5 (by intro k hk hne; simp only [List.mem_cons, List.not_mem_nil, or_false] at hk; omega) E4
      have BB := grown_below G5 (by omega)
      have x0 := hY.cell 0
      have x1 := hY.cell 1
      have x2 := hY.cell 2
      have x3 := hY.cell 3
      have x4 := hY.cell 4
      simp only [List.getElem?_cons_zero, List.getElem?_cons_succ] at x0 x1 x2 x3 x4
      have HHT := Lib.hid hT5
      have HHO := Lib.hid hO5
      clear hC5 hT5 hO5 hY G5 HR0 HXt HXo K5 HG4
      repeat (first | go_values | go_skip | go_guarded | go_step | go_upon | simp only [])
      refine bodyPost_ret (v := .tuple #[.agg #[.slice (some ⟨bT, oT, none⟩) y.t.length tc, .slice OA y.o.length oc, .int .i64 y.got, .int .i64 y.sold, .int .i64 y.missed], .int .i64 z]) (by simp [results, Tryd.results11, go_sem, x0, x1, x2, x3, x4, hz]) rfl ?_
      exact ⟨y, _, _, rfl, ⟨_, tc, OA, oc, rfl, HHT.out, HHO.out⟩, BB⟩
    | true =>
      go_wp2_with fail
      have HR0 : Hid (∀ p ∈ [Room.lies 4 w.heap.size 32 [.slice none 0 0, .slice none 0 0, .int .i64 0, .int .i64 0, .int .i64 0]], p.blk ≠ some (w.heap.size + 1) ∧ p.P W4) := by
        intro p hp
        simp only [List.mem_cons, List.not_mem_nil, or_false] at hp
        subst hp
        exact ⟨by intro e; injection e; omega, HM.out⟩
      refine wp_region_factsR (Dr w W4 (w.heap.size + 1) A bs cap (200000) 2 6 [(w.heap.size + 1), w.heap.size] [Room.lies 4 w.heap.size 32 [.slice none 0 0, .slice none 0 0, .int .i64 0, .int .i64 0, .int .i64 0]]) (fun i w1 w2 => i ∉ [4] → w1.grownBy w2 (some (w.heap.size + 1))) (by kernel_rfl) (by kernel_rfl) (by kernel_rfl) (Dr.start E4 HR0.out) ?_
      simp only [fillOps, Act.put, List.setIfInBounds_toArray, List.set_cons_zero, List.set_cons_succ, Nat.zero_add, Nat.reduceAdd]
      apply wpFactsR_val
      case h1 =>
        intro vs L9 w9 hG9 hC9 hB K9 hK9
        have q0 : w9.cell? ⟨g5, 0, none⟩ = some (.slice (some ⟨bT, oT, none⟩) y.t.length tc) := (hC9.lies K5 nx5).cell 0
        have q1 : w9.cell? ⟨g5, 1, none⟩ = some (.slice OA y.o.length oc) := (hC9.lies K5 nx5).cell 1
        have q2 : w9.cell? ⟨g5, 2, none⟩ = some (.int .i64 y.got) := (hC9.lies K5 nx5).cell 2
        have q3 : w9.cell? ⟨g5, 3, none⟩ = some (.int .i64 y.sold) := (hC9.lies K5 nx5).cell 3
        have q4 : w9.cell? ⟨g5, 4, none⟩ = some (.int .i64 y.missed) := (hC9.lies K5 nx5).cell 4
        simp only [Act.put, List.setIfInBounds_toArray, List.set_cons_zero, List.set_cons_succ] at hK9
        go_simp
        exact hK9 _ _ rfl (hC9.stay hG9.self (by decide)) (fun _ => World.grownBy.refl _ _)
      apply wpFactsR_val
      case h1 =>
        intro vs L9 w9 hG9 hC9 hB K9 hK9
        simp only [Act.put, List.setIfInBounds_toArray, List.set_cons_zero, List.set_cons_succ] at hK9
        go_simp
        exact hK9 _ _ rfl (hC9.stay hG9.self (by decide)) (fun _ => World.grownBy.refl _ _)
      refine wpFactsR_some [4] (fun v w9 => ∃ (b : Nat) (l : List Int), v = .slice (some ⟨b, 0, none⟩) 3 3 ∧ l.length = 3 ∧ Lies w9 b 3 (encIs l) ∧ b ≠ (w.heap.size + 1)) ?_ (fun vs L9 w9 hG9 hC9 hB K9 hK9 => ?_) ?_
      next =>
        intro i9 hi9 hb9 ha9 v w1 w2 hv hT9
        have hb := hT9 (fun hm => by
          simp only [List.mem_cons, List.not_mem_nil, or_false] at hm hb9
          subst hm
          · exact hb9 (by simp))
        obtain ⟨b, l, q1, q2, q3, q4⟩ := hv
        exact ⟨b, l, q1, q2, q3.kept hb (by intro e; injection e with e; exact q4 e), q4⟩
      next =>
        simp only [Act.put, List.setIfInBounds_toArray, List.set_cons_zero, List.set_cons_succ] at hK9
        go_simp
        exact hK9 _ _ _ rfl ⟨w9.heap.size, [0, 1, 7], rfl, rfl, Lies.new w9 3 _, by have := hC9.env.lt; omega⟩ (hC9.alloc hG9.self (by decide) _) (fun _ => World.grownBy_alloc _ _ _)
      refine wpFactsR_some [] (fun v _ => ∃ z : Int, v = .int .i64 z) ?_ (fun vs L9 w9 hG9 hC9 hB K9 hK9 => ?_) ?_
      next =>
        intro i9 hi9 hb9 ha9 v w1 w2 hv hT9
        exact hv
      next =>
        have d1 := FactN.eq (hB 1 _ (by kernel_rfl) (by kernel_rfl) rfl (by decide))
        simp only [d1] at hK9 ⊢
        simp only [Act.put, List.setIfInBounds_toArray, List.set_cons_zero, List.set_cons_succ] at hK9
        obtain ⟨b2, l2, e2, el2, eL2, en2⟩ := hB 2 _ (by kernel_rfl) (by kernel_rfl) rfl (by decide)
        simp only [e2] at hK9 ⊢
        go_simp
        refine (among_lies hC9.env b2 3 l2 el2 eL2 en2 (by omega) (by omega) (by have := hC9.cnt; omega)).mono ?_
        rintro en w8 ⟨x8, rfl, hE8, hg8⟩
        exact hK9 _ _ _ rfl ⟨_, rfl⟩ (hC9.call hG9.self (by decide) hE8 (by have := hC9.cnt; omega) hg8 (by simp)) (fun _ => hg8)
      refine wpFactsR_some [] (fun _ w9 => Lies w9 w.heap.size 32 [.slice (some ⟨bT, oT, none⟩) y.t.length tc, .slice OA y.o.length oc, .int .i64 y.got, .int .i64 y.sold, .int .i64 y.missed]) ?_ (fun vs L9 w9 hG9 hC9 hB K9 hK9 => ?_) ?_
      next =>
        intro i9 hi9 hb9 ha9 v w1 w2 hv hT9
        have hb := hT9 (fun hm => by
          simp only [List.mem_cons, List.not_mem_nil, or_false] at hm hb9
          subst hm
          · exact hi9 rfl)
        exact hv.kept hb (by intro e; injection e; omega)
      next =>
        have d0 := FactN.eq (hB 0 _ (by kernel_rfl) (by kernel_rfl) rfl (by decide))
        simp only [d0] at hK9 ⊢
        simp only [Act.put, List.setIfInBounds_toArray, List.set_cons_zero, List.set_cons_succ] at hK9
        have hL9 : Lies w9 w.heap.size 32 [.slice none 0 0, .slice none 0 0, .int .i64 0, .int .i64 0, .int .i64 0] := (hC9.room (Room.lies 4 w.heap.size 32 [.slice none 0 0, .slice none 0 0, .int .i64 0, .int .i64 0, .int .i64 0]) (by simp)).2 hG9.self
        have y0 := hL9.cell 0
        have y1 := hL9.cell 1
        have y2 := hL9.cell 2
        have y3 := hL9.cell 3
        have y4 := hL9.cell 4
        simp only [List.getElem?_cons_zero, List.getElem?_cons_succ] at y0 y1 y2 y3 y4
        have f0 := hL9.frozen 0
        have f1 := hL9.frozen 1
        have f2 := hL9.frozen 2
        have f3 := hL9.frozen 3
        have f4 := hL9.frozen 4
        have hN9 : Lies _ w.heap.size 32 [.slice (some ⟨bT, oT, none⟩) y.t.length tc, .slice OA y.o.length oc, .int .i64 y.got, .int .i64 y.sold, .int .i64 y.missed] := (((((hL9.set 0 (.slice (some ⟨bT, oT, none⟩) y.t.length tc)).set 1 (.slice OA y.o.length oc)).set 2 (.int .i64 y.got)).set 3 (.int .i64 y.sold)).set 4 (.int .i64 y.missed))
        have hG8 := Lib.hid (grown_set (g := w.heap.size) (i := 4) (u := .int .i64 y.missed) (grown_set (g := w.heap.size) (i := 3) (u := .int .i64 y.sold) (grown_set (g := w.heap.size) (i := 2) (u := .int .i64 y.got) (grown_set (g := w.heap.size) (i := 1) (u := .slice OA y.o.length oc) (grown_set (g := w.heap.size) (i := 0) (u := .slice (some ⟨bT, oT, none⟩) y.t.length tc) (World.grownBy.refl w9 (some w.heap.size)))))))
        have hN8 := Lib.hid hN9
        clear hN9 hL9
        go_simp
        exact hK9 _ undef _ rfl hN8.out (hC9.wroteB hG9.self (by decide) hG8.out (by omega) (drawn_bytes HBR.out HG4.out hC9 (by intro k hk; simp only [List.mem_cons, List.not_mem_nil, or_false] at hk; omega) hG8.out (by omega) (by omega)) (by omega) (.inl (by simp)) (by intro p hp e; simp only [List.mem_cons, List.not_mem_nil, or_false] at hp; subst hp; rfl)) (fun hq => (hq (by decide)).elim)
      refine wpFactsR_some [] (fun v _ => ∃ z : Int, v = .int .i64 z) ?_ (fun vs L9 w9 hG9 hC9 hB K9 hK9 => ?_) ?_
      next =>
        intro i9 hi9 hb9 ha9 v w1 w2 hv hT9
        exact hv
      next =>
        simp only [Act.put, List.setIfInBounds_toArray, List.set_cons_zero, List.set_cons_succ] at hK9
        obtain ⟨z3, e3⟩ := hB 3 _ (by kernel_rfl) (by kernel_rfl) rfl (by decide)
        simp only [e3] at hK9 ⊢
        go_simp
        exact hK9 _ _ _ rfl ⟨_, rfl⟩ (hC9.stay hG9.self (by decide)) (fun _ => World.grownBy.refl _ _)
      refine wpFactsR_nil fun vs Lq W5 hL9 hC5 hB => ?_
      obtain ⟨z, hz⟩ := hB 5 _ rfl rfl (by decide)
      have hY := hB 4 _ rfl rfl (by decide)
      clear hB hL9
      have hY : Lies W5 w.heap.size 32 [.slice (some ⟨bT, oT, none⟩) y.t.length tc, .slice OA y.o.length oc, .int .i64 y.got, .int .i64 y.sold, .int .i64 y.missed] := hY
      have hT5 := ownsRow_lower (hC5.owns HT.out HXt.out) HB1.out
      have hO5 := ownsRow_lower (hC5.owns HO.out HXo.out) HB1.out
      have G5 := drawn_gr HG4.out hC5 (by intro k hk hne; simp only [List.mem_cons, List.not_mem_nil, or_false] at hk; omega) E4
      have BB := grown_below G5 (by omega)
      have x0 := hY.cell 0
      have x1 := hY.cell 1
      have x2 := hY.cell 2
      have x3 := hY.cell 3
      have x4 := hY.cell 4
      simp only [List.getElem?_cons_zero, List.getElem?_cons_succ] at x0 x1 x2 x3 x4
      have HHT := Lib.hid hT5
      have HHO := Lib.hid hO5
      clear hC5 hT5 hO5 hY G5 HR0 HXt HXo K5 HG4
      repeat (first | go_values | go_skip | go_guarded | go_step | go_upon | simp only [])
      refine bodyPost_ret (v := .tuple #[.agg #[.slice (some ⟨bT, oT, none⟩) y.t.length tc, .slice OA y.o.length oc, .int .i64 y.got, .int .i64 y.sold, .int .i64 y.missed], .int .i64 z]) (by simp [results, Tryd.results11, go_sem, x0, x1, x2, x3, x4, hz]) rfl ?_
      exact ⟨y, _, _, rfl, ⟨_, tc, OA, oc, rfl, HHT.out, HHO.out⟩, BB⟩
  · have hi0 : ¬ (0 : Int) < y.t.length := by omega
    clear h0
    go_wp2_with fail
    generalize W2.alloc (.cells #[.slice TA y.t.length tc, .slice OA y.o.length oc, .int .i64 y.got, .int .i64 y.sold, .int .i64 y.missed] 32) = W4 at K5 E3 M3 G3 hT hO hl3 ⊢
    generalize W2.heap.size = g5 at K5 hs2 hl3 ⊢
    have E4 := E3.mono (show _ ≤ 200000 by omega)
    have HM := Lib.hid M3
    have HG4 := Lib.hid G3
    have HT := Lib.hid hT
    have HO := Lib.hid hO
    clear hT hO M3 G3 E3
    have nx5 : g5 ∉ [(w.heap.size + 1), w.heap.size] := by simp only [List.mem_cons, List.not_mem_nil, or_false]; omega
    have HXt : Hid (∀ b, Value.ownBlock (.slice TA y.t.length tc) = some b → b ∉ [(w.heap.size + 1), w.heap.size]) := fun b hb hm => by
      have := (HT.out.lt b hb).1
      simp only [List.mem_cons, List.not_mem_nil, or_false] at hm; omega
    have HXo : Hid (∀ b, Value.ownBlock (.slice OA y.o.length oc) = some b → b ∉ [(w.heap.size + 1), w.heap.size]) := fun b hb hm => by
      have := (HO.out.lt b hb).1
      simp only [List.mem_cons, List.not_mem_nil, or_false] at hm; omega
    have HR0 : Hid (∀ p ∈ [Room.lies 4 w.heap.size 32 [.slice none 0 0, .slice none 0 0, .int .i64 0, .int .i64 0, .int .i64 0]], p.blk ≠ some (w.heap.size + 1) ∧ p.P W4) := by
      intro p hp
      simp only [List.mem_cons, List.not_mem_nil, or_false] at hp
      subst hp
      exact ⟨by intro e; injection e; omega, HM.out⟩
    refine wp_region_factsR (Dr w W4 (w.heap.size + 1) A bs cap (200000) 2 6 [(w.heap.size + 1), w.heap.size] [Room.lies 4 w.heap.size 32 [.slice none 0 0, .slice none 0 0, .int .i64 0, .int .i64 0, .int .i64 0]]) (fun i w1 w2 => i ∉ [4] → w1.grownBy w2 (some (w.heap.size + 1))) (by kernel_rfl) (by kernel_rfl) (by kernel_rfl) (Dr.start E4 HR0.out) ?_
    simp only [fillOps, Act.put, List.setIfInBounds_toArray, List.set_cons_zero, List.set_cons_succ, Nat.zero_add, Nat.reduceAdd]
    apply wpFactsR_val
    case h1 =>
      intro vs L9 w9 hG9 hC9 hB K9 hK9
      have q0 : w9.cell? ⟨g5, 0, none⟩ = some (.slice TA y.t.length tc) := (hC9.lies K5 nx5).cell 0
      have q1 : w9.cell? ⟨g5, 1, none⟩ = some (.slice OA y.o.length oc) := (hC9.lies K5 nx5).cell 1
      have q2 : w9.cell? ⟨g5, 2, none⟩ = some (.int .i64 y.got) := (hC9.lies K5 nx5).cell 2
      have q3 : w9.cell? ⟨g5, 3, none⟩ = some (.int .i64 y.sold) := (hC9.lies K5 nx5).cell 3
      have q4 : w9.cell? ⟨g5, 4, none⟩ = some (.int .i64 y.missed) := (hC9.lies K5 nx5).cell 4
      simp only [Act.put, List.setIfInBounds_toArray, List.set_cons_zero, List.set_cons_succ] at hK9
      go_simp
      exact hK9 _ _ rfl (hC9.stay hG9.self (by decide)) (fun _ => World.grownBy.refl _ _)
    apply wpFactsR_val
    case h1 =>
      intro vs L9 w9 hG9 hC9 hB K9 hK9
      simp only [Act.put, List.setIfInBounds_toArray, List.set_cons_zero, List.set_cons_succ] at hK9
      go_simp
      exact hK9 _ _ rfl (hC9.stay hG9.self (by decide)) (fun _ => World.grownBy.refl _ _)
    refine wpFactsR_some [4] (fun v w9 => ∃ (b : Nat) (l : List Int), v = .slice (some ⟨b, 0, none⟩) 3 3 ∧ l.length = 3 ∧ Lies w9 b 3 (encIs l) ∧ b ≠ (w.heap.size + 1)) ?_ (fun vs L9 w9 hG9 hC9 hB K9 hK9 => ?_) ?_
    next =>
      intro i9 hi9 hb9 ha9 v w1 w2 hv hT9
      have hb := hT9 (fun hm => by
        simp only [List.mem_cons, List.not_mem_nil, or_false] at hm hb9
        subst hm
        · exact hb9 (by simp))
      obtain ⟨b, l, q1, q2, q3, q4⟩ := hv
      exact ⟨b, l, q1, q2, q3.kept hb (by intro e; injection e with e; exact q4 e), q4⟩
    next =>
      simp only [Act.put, List.setIfInBounds_toArray, List.set_cons_zero, List.set_cons_succ] at hK9
      go_simp
      exact hK9 _ _ _ rfl ⟨w9.heap.size, [0, 1, 7], rfl, rfl, Lies.new w9 3 _, by have := hC9.env.lt; omega⟩ (hC9.alloc hG9.self (by decide) _) (fun _ => World.grownBy_alloc _ _ _)
    refine wpFactsR_some [] (fun v _ => ∃ z : Int, v = .int .i64 z) ?_ (fun vs L9 w9 hG9 hC9 hB K9 hK9 => ?_) ?_
    next =>
      intro i9 hi9 hb9 ha9 v w1 w2 hv hT9
      exact hv
    next =>
      have d1 := FactN.eq (hB 1 _ (by kernel_rfl) (by kernel_rfl) rfl (by decide))
      simp only [d1] at hK9 ⊢
      simp only [Act.put, List.setIfInBounds_toArray, List.set_cons_zero, List.set_cons_succ] at hK9
      obtain ⟨b2, l2, e2, el2, eL2, en2⟩ := hB 2 _ (by kernel_rfl) (by kernel_rfl) rfl (by decide)
      simp only [e2] at hK9 ⊢
      go_simp
      refine (among_lies hC9.env b2 3 l2 el2 eL2 en2 (by omega) (by omega) (by have := hC9.cnt; omega)).mono ?_
      rintro en w8 ⟨x8, rfl, hE8, hg8⟩
      exact hK9 _ _ _ rfl ⟨_, rfl⟩ (hC9.call hG9.self (by decide) hE8 (by have := hC9.cnt; omega) hg8 (by simp)) (fun _ => hg8)
    refine wpFactsR_some [] (fun _ w9 => Lies w9 w.heap.size 32 [.slice TA y.t.length tc, .slice OA y.o.length oc, .int .i64 y.got, .int .i64 y.sold, .int .i64 y.missed]) ?_ (fun vs L9 w9 hG9 hC9 hB K9 hK9 => ?_) ?_
    next =>
      intro i9 hi9 hb9 ha9 v w1 w2 hv hT9
      have hb := hT9 (fun hm => by
        simp only [List.mem_cons, List.not_mem_nil, or_false] at hm hb9
        subst hm
        · exact hi9 rfl)
      exact hv.kept hb (by intro e; injection e; omega)
    next =>
      have d0 := FactN.eq (hB 0 _ (by kernel_rfl) (by kernel_rfl) rfl (by decide))
      simp only [d0] at hK9 ⊢
      simp only [Act.put, List.setIfInBounds_toArray, List.set_cons_zero, List.set_cons_succ] at hK9
      have hL9 : Lies w9 w.heap.size 32 [.slice none 0 0, .slice none 0 0, .int .i64 0, .int .i64 0, .int .i64 0] := (hC9.room (Room.lies 4 w.heap.size 32 [.slice none 0 0, .slice none 0 0, .int .i64 0, .int .i64 0, .int .i64 0]) (by simp)).2 hG9.self
      have y0 := hL9.cell 0
      have y1 := hL9.cell 1
      have y2 := hL9.cell 2
      have y3 := hL9.cell 3
      have y4 := hL9.cell 4
      simp only [List.getElem?_cons_zero, List.getElem?_cons_succ] at y0 y1 y2 y3 y4
      have f0 := hL9.frozen 0
      have f1 := hL9.frozen 1
      have f2 := hL9.frozen 2
      have f3 := hL9.frozen 3
      have f4 := hL9.frozen 4
      have hN9 : Lies _ w.heap.size 32 [.slice TA y.t.length tc, .slice OA y.o.length oc, .int .i64 y.got, .int .i64 y.sold, .int .i64 y.missed] := (((((hL9.set 0 (.slice TA y.t.length tc)).set 1 (.slice OA y.o.length oc)).set 2 (.int .i64 y.got)).set 3 (.int .i64 y.sold)).set 4 (.int .i64 y.missed))
      have hG8 := Lib.hid (grown_set (g := w.heap.size) (i := 4) (u := .int .i64 y.missed) (grown_set (g := w.heap.size) (i := 3) (u := .int .i64 y.sold) (grown_set (g := w.heap.size) (i := 2) (u := .int .i64 y.got) (grown_set (g := w.heap.size) (i := 1) (u := .slice OA y.o.length oc) (grown_set (g := w.heap.size) (i := 0) (u := .slice TA y.t.length tc) (World.grownBy.refl w9 (some w.heap.size)))))))
      have hN8 := Lib.hid hN9
      clear hN9 hL9
      go_simp
      exact hK9 _ undef _ rfl hN8.out (hC9.wroteB hG9.self (by decide) hG8.out (by omega) (drawn_bytes HBR.out HG4.out hC9 (by intro k hk; simp only [List.mem_cons, List.not_mem_nil, or_false] at hk; omega) hG8.out (by omega) (by omega)) (by omega) (.inl (by simp)) (by intro p hp e; simp only [List.mem_cons, List.not_mem_nil, or_false] at hp; subst hp; rfl)) (fun hq => (hq (by decide)).elim)
    refine wpFactsR_some [] (fun v _ => ∃ z : Int, v = .int .i64 z) ?_ (fun vs L9 w9 hG9 hC9 hB K9 hK9 => ?_) ?_
    next =>
      intro i9 hi9 hb9 ha9 v w1 w2 hv hT9
      exact hv
    next =>
      simp only [Act.put, List.setIfInBounds_toArray, List.set_cons_zero, List.set_cons_succ] at hK9
      obtain ⟨z3, e3⟩ := hB 3 _ (by kernel_rfl) (by kernel_rfl) rfl (by decide)
      simp only [e3] at hK9 ⊢
      go_simp
      exact hK9 _ _ _ rfl ⟨_, rfl⟩ (hC9.stay hG9.self (by decide)) (fun _ => World.grownBy.refl _ _)
    refine wpFactsR_nil fun vs Lq W5 hL9 hC5 hB => ?_
    obtain ⟨z, hz⟩ := hB 5 _ rfl rfl (by decide)
    have hY := hB 4 _ rfl rfl (by decide)
    clear hB hL9
    have hY : Lies W5 w.heap.size 32 [.slice TA y.t.length tc, .slice OA y.o.length oc, .int .i64 y.got, .int .i64 y.sold, .int .i64 y.missed] := hY
    have hT5 := ownsRow_lower (hC5.owns HT.out HXt.out) HB1.out
    have hO5 := ownsRow_lower (hC5.owns HO.out HXo.out) HB1.out
    have G5 := drawn_gr HG4.out hC5 (by intro k hk hne; simp only [List.mem_cons, List.not_mem_nil, or_false] at hk; omega) E4
    have BB := grown_below G5 (by omega)
    have x0 := hY.cell 0
    have x1 := hY.cell 1
    have x2 := hY.cell 2
    have x3 := hY.cell 3
    have x4 := hY.cell 4
    simp only [List.getElem?_cons_zero, List.getElem?_cons_succ] at x0 x1 x2 x3 x4
    have HHT := Lib.hid hT5
    have HHO := Lib.hid hO5
    clear hC5 hT5 hO5 hY G5 HR0 HXt HXo K5 HG4
    repeat (first | go_values | go_skip | go_guarded | go_step | go_upon | simp only [])
    refine bodyPost_ret (v := .tuple #[.agg #[.slice TA y.t.length tc, .slice OA y.o.length oc, .int .i64 y.got, .int .i64 y.sold, .int .i64 y.missed], .int .i64 z]) (by simp [results, Tryd.results11, go_sem, x0, x1, x2, x3, x4, hz]) rfl ?_
    exact ⟨y, _, _, rfl, ⟨_, tc, OA, oc, rfl, HHT.out, HHO.out⟩, BB⟩
set_option maxRecDepth 100000 in
set_option maxHeartbeats 4000000 in
set_option linter.unusedVariables false in
theorem drawTrayText_any (A : Option Addr) (cap : Nat) (bs : List UInt8) (w : World) (hr : BytesR w w.heap.size A bs) :
    Calls Tryd.prog 27 #[.slice A bs.length cap] w fun e w' => ∃ (y : Oc) (v : Value) (z : Int), e = .returned (.tuple #[v, .int .i64 z]) ∧ OwnV w' w.heap.size y v ∧ Below w.heap.size w w' := by
  have L2 := Lies.new w 32 #[.slice none 0 0, .slice none 0 0, .int .i64 0, .int .i64 0, .int .i64 0]
  have b1 : Below w.heap.size w (w.alloc (.cells #[.slice none 0 0, .slice none 0 0, .int .i64 0, .int .i64 0, .int .i64 0] 32)) := (Below.refl w.heap.size w).alloc (Nat.le_refl _) (.cells #[.slice none 0 0, .slice none 0 0, .int .i64 0, .int .i64 0, .int .i64 0] 32)
  go_enter Tryd.func27, Tryd.ntmps27
  go_wp2_with fail
  generalize (w.alloc (.cells #[.slice none 0 0, .slice none 0 0, .int .i64 0, .int .i64 0, .int .i64 0] 32)) = W1 at L2 b1 ⊢
  refine (drawPersonsWith_any A cap bs W1 ((SlcR.below hr b1).mono b1.size)).mono ?_
  rintro e W2 ⟨y, v, z, rfl, ⟨TA, tc, OA, oc, rfl, hT, hO⟩, b2⟩
  have M4 := L2.below b2 L2.lt
  have G4 : Below w.heap.size w W2 := b1.trans (b2.mono b1.size)
  replace hT := ownsRow_lower hT b1.size
  replace hO := ownsRow_lower hO b1.size
  clear L2 b1 b2 hr
  have x0 := M4.cell 0
  have x1 := M4.cell 1
  have x2 := M4.cell 2
  have x3 := M4.cell 3
  have x4 := M4.cell 4
  simp only [List.getElem?_cons_zero, List.getElem?_cons_succ] at x0 x1 x2 x3 x4
  have f0 := M4.frozen 0
  have f1 := M4.frozen 1
  have f2 := M4.frozen 2
  have f3 := M4.frozen 3
  have f4 := M4.frozen 4
  obtain ⟨e0, hT5, hO5, BB⟩ := office_stored (b := w.heap.size) y TA tc OA oc M4 hT hO G4 (Nat.le_refl _)
  have HE := Lib.hid e0
  have HTO := Lib.hid (And.intro hT5 hO5)
  have HB := Lib.hid BB
  clear e0 hT5 hO5 BB M4 hT hO G4
  repeat (first | go_values | go_skip | go_guarded | go_step | go_upon | simp only [])
  generalize (((((W2.setCell ⟨w.heap.size, 0, none⟩ (.slice TA y.t.length tc)).setCell ⟨w.heap.size, 1, none⟩ (.slice OA y.o.length oc)).setCell ⟨w.heap.size, 2, none⟩ (.int .i64 y.got)).setCell ⟨w.heap.size, 3, none⟩ (.int .i64 y.sold)).setCell ⟨w.heap.size, 4, none⟩ (.int .i64 y.missed)) = W5 at HE HTO HB ⊢
  have e0 := HE.out
  have z0 := e0.cell 0
  have z1 := e0.cell 1
  have z2 := e0.cell 2
  have z3 := e0.cell 3
  have z4 := e0.cell 4
  simp only [List.getElem?_cons_zero, List.getElem?_cons_succ] at z0 z1 z2 z3 z4
  clear e0 HE
  refine bodyPost_ret (v := .tuple #[.agg #[.slice TA y.t.length tc, .slice OA y.o.length oc, .int .i64 y.got, .int .i64 y.sold, .int .i64 y.missed], .int .i64 z]) (by simp [results, Tryd.results27, go_sem, z0, z1, z2, z3, z4]) rfl ?_
  exact ⟨y, _, _, rfl, ⟨TA, tc, OA, oc, rfl, HTO.out.1, HTO.out.2⟩, HB.out⟩
end Go.Proofs.YtdiojhjkcholiaaDoor

/- KindsAt, PersonsWith, in the reference and in the program. (Printed by gen_picks.py) -/
namespace Go.Proofs.YtdiojhjkcholiaaDoor
open Go.RowKit

def picks (sel : Outing → Bool) (get : Outing → Int) : List Outing → List Int
  | [] => []
  | r :: l => if sel r then get r :: picks sel get l else picks sel get l
theorem picks_yes {sel : Outing → Bool} {get : Outing → Int} {l : List Outing} {k : Nat} (h : k < l.length) (hs : sel l[k] = true) : picks sel get (l.drop k) = get l[k] :: picks sel get (l.drop (k + 1)) := by
  rw [List.drop_eq_getElem_cons h, picks, if_pos hs]
theorem picks_no {sel : Outing → Bool} {get : Outing → Int} {l : List Outing} {k : Nat} (h : k < l.length) (hs : sel l[k] = false) : picks sel get (l.drop k) = picks sel get (l.drop (k + 1)) := by
  rw [List.drop_eq_getElem_cons h, picks, if_neg (by rw [hs]; exact Bool.false_ne_true)]
theorem picks_len (sel : Outing → Bool) (get : Outing → Int) : ∀ l : List Outing, (picks sel get l).length ≤ l.length
  | [] => Nat.le_refl _
  | r :: l => by
    have := picks_len sel get l
    unfold picks
    split <;> simp <;> omega
def listOf (ok : Bool) (l : List Int) : List Int := if ok then l else []
theorem OwnS.lower {w : World} {B B' : Nat} {t : TypeId} {k : Nat} {A : Option Addr} {n : Nat} {cs : List Value} (h : OwnS w B t k A n cs) (hB : B' ≤ B) : OwnS w B' t k A n cs := by
  obtain ⟨hl, hn, h0 | ⟨g, rest, hA, hg, hh⟩⟩ := h
  · exact ⟨hl, hn, .inl h0⟩
  · exact ⟨hl, hn, .inr ⟨g, rest, hA, Nat.le_trans hB hg, hh⟩⟩
theorem infoInt : (Tryd.prog.info? 3).map (fun i => (i.zero, i.size, i.bytes)) = some (some (.int .i64 0), 1, 8) := by kernel_rfl

set_option maxHeartbeats 2000000 in
theorem specKindsAt_any (x : Off) (st : Int) (w : World) (h : OffR w w.heap.size x) :
    Calls Tryd.prog 26 #[x.val, .int .i64 st] w fun e w' => ∃ A' c', e = .returned (.tuple #[.slice A' (listOf (goodOff x && inR st 1 999) (picks (fun r : Outing => decide (r.p = st)) Outing.k x.o)).length c', .bool (goodOff x && inR st 1 999)]) ∧ OwnS w' w.heap.size 3 1 A' (listOf (goodOff x && inR st 1 999) (picks (fun r : Outing => decide (r.p = st)) Outing.k x.o)).length (encIs (listOf (goodOff x && inR st 1 999) (picks (fun r : Outing => decide (r.p = st)) Outing.k x.o))) ∧ Below w.heap.size w w' := by
  have b2 := (Below.refl w.heap.size w).alloc (Nat.le_refl _) (.cells #[.slice x.TA x.t.length x.tc, .slice x.OA x.o.length x.oc, .int .i64 x.got, .int .i64 x.sold, .int .i64 x.missed] 32)
  have hA := box_at h 32
  have hsW : (w.alloc (.cells #[.slice x.TA x.t.length x.tc, .slice x.OA x.o.length x.oc, .int .i64 x.got, .int .i64 x.sold, .int .i64 x.missed] 32)).heap.size = w.heap.size + 1 := Array.size_push _
  have HSW := Lib.hid hsW; clear hsW
  have cG := fun W hW => l32Good_any x W hW
  cases hg : goodOff x
  · rw [hg] at cG
    clear hg
    go_enter Tryd.func26, Tryd.ntmps26
    go_wp2_with fail
    generalize (w.alloc (.cells #[.slice x.TA x.t.length x.tc, .slice x.OA x.o.length x.oc, .int .i64 x.got, .int .i64 x.sold, .int .i64 x.missed] 32)) = W at b2 hA HSW ⊢
    obtain ⟨q0, hq0⟩ : ∃ q0 : Since W.heap.size W, W.alloc (.cells #[] 3) = q0.val := ⟨⟨W.alloc (.cells #[] 3), (Below.refl _ _).alloc (Nat.le_refl _) _⟩, rfl⟩
    have hO : Lies q0.val (w.heap.size + 1) 3 [] := by rw [← hq0, ← HSW.out]; exact Lies.new W 3 #[]
    rw [hq0]
    clear hq0
    refine (cG _ (hA.r.at q0)).mono ?_
    rintro e w1 ⟨rfl, hb1⟩
    obtain ⟨q1, rfl⟩ : ∃ q1 : Since W.heap.size W, w1 = q1.val := ⟨q0.go (Nat.le_refl _) hb1, rfl⟩
    go_wp2
    go_ret2
    show ∃ A' c', _ = Ending.returned (.tuple #[.slice A' ([] : List Int).length c', .bool false]) ∧ OwnS _ _ _ 1 A' ([] : List Int).length (encIs []) ∧ _
    exact ⟨_, _, rfl, ⟨rfl, by simp, .inr ⟨w.heap.size + 1, [], rfl, Nat.le_succ _, by simpa using (hO.below (hb1) hO.lt)⟩⟩, b2.trans (q1.below.mono b2.size)⟩
  · rw [hg] at cG
    have G := good_iff.1 hg
    have ol := G.ol
    have hl := h.os.big
    clear hg G
    obtain ⟨v2, hv2⟩ : ∃ v, inR st 1 999 = v := ⟨_, rfl⟩
    have H2 := Lib.hid hv2
    rw [hv2]
    clear hv2
    cases v2
    · go_enter Tryd.func26, Tryd.ntmps26
      go_wp2_with fail
      generalize (w.alloc (.cells #[.slice x.TA x.t.length x.tc, .slice x.OA x.o.length x.oc, .int .i64 x.got, .int .i64 x.sold, .int .i64 x.missed] 32)) = W at b2 hA HSW ⊢
      obtain ⟨q0, hq0⟩ : ∃ q0 : Since W.heap.size W, W.alloc (.cells #[] 3) = q0.val := ⟨⟨W.alloc (.cells #[] 3), (Below.refl _ _).alloc (Nat.le_refl _) _⟩, rfl⟩
      have hO : Lies q0.val (w.heap.size + 1) 3 [] := by rw [← hq0, ← HSW.out]; exact Lies.new W 3 #[]
      rw [hq0]
      clear hq0
      obtain ⟨p0, p1, p2, p3, p4⟩ := hA.s
      refine (cG _ (hA.r.at q0)).mono ?_
      rintro e w1 ⟨rfl, hb1⟩
      obtain ⟨q1, rfl⟩ : ∃ q1 : Since W.heap.size W, w1 = q1.val := ⟨q0.go (Nat.le_refl _) hb1, rfl⟩
      go_wp2_with fail
      refine ((l1In_any st 1 999 _)).mono ?_
      rw [H2.out]
      rintro e w2 ⟨rfl, rfl⟩
      go_wp2
      go_ret2
      show ∃ A' c', _ = Ending.returned (.tuple #[.slice A' ([] : List Int).length c', .bool false]) ∧ OwnS _ _ _ 1 A' ([] : List Int).length (encIs []) ∧ _
      exact ⟨_, _, rfl, ⟨rfl, by simp, .inr ⟨w.heap.size + 1, [], rfl, Nat.le_succ _, by simpa using (hO.below (hb1) hO.lt)⟩⟩, b2.trans (q1.below.mono b2.size)⟩
    · have HF : Hid (picks (fun r : Outing => decide (r.p = st)) Outing.k (x.o.drop 0) = picks (fun r : Outing => decide (r.p = st)) Outing.k x.o) := rfl
      go_enter Tryd.func26, Tryd.ntmps26
      go_wp2_with fail
      generalize (w.alloc (.cells #[.slice x.TA x.t.length x.tc, .slice x.OA x.o.length x.oc, .int .i64 x.got, .int .i64 x.sold, .int .i64 x.missed] 32)) = W at b2 hA HSW ⊢
      obtain ⟨q0, hq0⟩ : ∃ q0 : Since W.heap.size W, W.alloc (.cells #[] 3) = q0.val := ⟨⟨W.alloc (.cells #[] 3), (Below.refl _ _).alloc (Nat.le_refl _) _⟩, rfl⟩
      have hO : Lies q0.val (w.heap.size + 1) 3 [] := by rw [← hq0, ← HSW.out]; exact Lies.new W 3 #[]
      rw [hq0]
      clear hq0
      obtain ⟨p0, p1, p2, p3, p4⟩ := hA.s
      have hro := hA.r.os.el
      refine (cG _ (hA.r.at q0)).mono ?_
      rintro e w1 ⟨rfl, hb1⟩
      obtain ⟨q1, rfl⟩ : ∃ q1 : Since W.heap.size W, w1 = q1.val := ⟨q0.go (Nat.le_refl _) hb1, rfl⟩
      go_wp2_with fail
      refine ((l1In_any st 1 999 _)).mono ?_
      rw [H2.out]
      rintro e w2 ⟨rfl, rfl⟩
      obtain ⟨OA, hOA⟩ : ∃ A, x.OA = A := ⟨_, rfl⟩
      rw [hOA] at hro
      simp only [hOA] at p1
      clear hOA
      go_wp2
      go_loopw [6, 7] (fun out i wr => ∃ (k : Nat) (acc : List Int), k ≤ x.o.length ∧ i = .int .i64 k ∧ acc.length ≤ k ∧ Hid (wr.ownsRow W.heap.size 3 1 out acc.length (encIs acc)) ∧ (Below W.heap.size W wr) ∧ Hid (acc ++ picks (fun r : Outing => decide (r.p = st)) Outing.k (x.o.drop k) = picks (fun r : Outing => decide (r.p = st)) Outing.k x.o)) (fun _ i _ => x.o.length - (intOf i).toNat)
      case atStart => exact ⟨0, [], Nat.zero_le _, rfl, Nat.zero_le _, ((hO.below (hb1) hO.lt).own (B := W.heap.size) (k := 1) (n := 0) (by rw [HSW.out]; exact Nat.le_refl _) rfl (by unfold maxLen; omega)), q1.below, HF⟩
      case round =>
        obtain ⟨k, acc, hk, rfl, hacc, HO, hbr, HR⟩ := hrel
        obtain ⟨q, rfl⟩ : ∃ q : Since W.heap.size W, wr = q.val := ⟨⟨wr, hbr⟩, rfl⟩
        by_cases hlt : k < x.o.length
        · obtain ⟨b, off, rfl, hb, hcell⟩ := hro (by omega)
          obtain ⟨e0, e1, e2⟩ := hcell k hlt
          have hy := fun hv => picks_yes (sel := (fun r : Outing => decide (r.p = st))) (get := Outing.k) hlt hv
          have hn := fun hv => picks_no (sel := (fun r : Outing => decide (r.p = st))) (get := Outing.k) hlt hv
          obtain ⟨r, hre⟩ : ∃ r, r = x.o[k] := ⟨_, rfl⟩
          rw [← hre] at e0 e1 e2 hy hn
          clear hre hcell hro
          by_cases hz : r.p = st
          · have hv : (r.p == st) = true := by simp [hz]
            have HE : Hid ((acc ++ [r.k]) ++ picks (fun r : Outing => decide (r.p = st)) Outing.k (x.o.drop (k + 1)) = picks (fun r : Outing => decide (r.p = st)) Outing.k x.o) := by
              have h1 := HR.out; rw [hy (decide_eq_true hz)] at h1; unfold Hid; rw [List.append_assoc]; exact h1
            clear hy hn hz HR
            go_wp2_with (at_builtin; refine wpList_push (w0 := q.val) rfl _ _ 40 rfl 3 (.int .i64 0) 1 8 Tryd.underlying40 infoInt rfl (by decide) (by omega) W.heap.size _ _ _ rfl HO #[.int .i64 r.k] 1 _ rfl (by first | rfl | exact Array.size_push _) rfl (by simp [Value.oneCell']) (by omega) q.size rfl rfl rfl rfl ?_; intro v' w3 HO3 hg3 hb3)
            obtain ⟨A3, c3, rfl⟩ := ownsRow_slice HO3.out
            go_wp2
            go_roundw
            case rel => exact ⟨k + 1, acc ++ [r.k], by omega, by go_num, by simp; omega, by rw [List.length_append]; unfold encIs at HO3 ⊢; rw [List.map_append]; exact HO3, q.below.grown hg3 q.size (fun g hg => (HO.out.lt g hg).1), HE⟩
            case measure => simp [intOf]; omega
          · have hv : (r.p == st) = false := by simp [hz]
            have HE : Hid (acc ++ picks (fun r : Outing => decide (r.p = st)) Outing.k (x.o.drop (k + 1)) = picks (fun r : Outing => decide (r.p = st)) Outing.k x.o) := by
              have h1 := HR.out; rw [hn (decide_eq_false hz)] at h1; exact h1
            clear hy hn hz HR
            go_wp2
            go_roundw
            case rel => exact ⟨k + 1, acc, by omega, by go_num, by omega, HO, q.below, HE⟩
            case measure => simp [intOf]; omega
        · have HE : Hid (acc = picks (fun r : Outing => decide (r.p = st)) Outing.k x.o) := by
            have h1 := HR.out; rw [List.drop_eq_nil_of_le (by omega), show picks (fun r : Outing => decide (r.p = st)) Outing.k [] = [] from rfl, List.append_nil] at h1; exact h1
          obtain ⟨A3, c3, rfl⟩ := ownsRow_slice HO.out
          clear hro
          go_wp2
          go_ret2
          have e1 : listOf (true && true) (picks (fun r : Outing => decide (r.p = st)) Outing.k x.o) = acc := HE.out.symm
          rw [e1]
          exact ⟨_, _, rfl, (OwnS.of HO.out).lower b2.size, b2.trans (q.below.mono b2.size)⟩

set_option maxHeartbeats 2000000 in
theorem implKindsAt_any (x : Off) (st : Int) (w : World) (h : OffR w w.heap.size x) :
    Calls Tryd.prog 15 #[x.val, .int .i64 st] w fun e w' => ∃ A' c', e = .returned (.tuple #[.slice A' (listOf (goodOff x && inR st 1 999) (picks (fun r : Outing => decide (r.p = st)) Outing.k x.o)).length c', .bool (goodOff x && inR st 1 999)]) ∧ OwnS w' w.heap.size 3 1 A' (listOf (goodOff x && inR st 1 999) (picks (fun r : Outing => decide (r.p = st)) Outing.k x.o)).length (encIs (listOf (goodOff x && inR st 1 999) (picks (fun r : Outing => decide (r.p = st)) Outing.k x.o))) ∧ Below w.heap.size w w' := by
  have b2 := (Below.refl w.heap.size w).alloc (Nat.le_refl _) (.cells #[.slice x.TA x.t.length x.tc, .slice x.OA x.o.length x.oc, .int .i64 x.got, .int .i64 x.sold, .int .i64 x.missed] 32)
  have hA := box_at h 32
  have hsW : (w.alloc (.cells #[.slice x.TA x.t.length x.tc, .slice x.OA x.o.length x.oc, .int .i64 x.got, .int .i64 x.sold, .int .i64 x.missed] 32)).heap.size = w.heap.size + 1 := Array.size_push _
  have HSW := Lib.hid hsW; clear hsW
  have cG := fun W hW => isOfficeValid_any x w.heap.size W hW
  cases hg : goodOff x
  · rw [hg] at cG
    clear hg
    go_enter Tryd.func15, Tryd.ntmps15
    go_wp2_with fail
    generalize (w.alloc (.cells #[.slice x.TA x.t.length x.tc, .slice x.OA x.o.length x.oc, .int .i64 x.got, .int .i64 x.sold, .int .i64 x.missed] 32)) = W at b2 hA HSW ⊢
    refine (calls_since0 (cG _ hA)).mono ?_
    rintro e w1 ⟨rfl, q1, rfl⟩
    go_wp2
    go_ret2
    show ∃ A' c', _ = Ending.returned (.tuple #[.slice A' ([] : List Int).length c', .bool false]) ∧ OwnS _ _ _ 1 A' ([] : List Int).length (encIs []) ∧ _
    exact ⟨_, _, rfl, ⟨rfl, by simp, .inl ⟨rfl, rfl⟩⟩, b2.trans (q1.below.mono b2.size)⟩
  · rw [hg] at cG
    have G := good_iff.1 hg
    have ol := G.ol
    have hl := h.os.big
    clear hg G
    obtain ⟨v2, hv2⟩ : ∃ v, inR st 1 999 = v := ⟨_, rfl⟩
    have H2 := Lib.hid hv2
    rw [hv2]
    clear hv2
    cases v2
    · go_enter Tryd.func15, Tryd.ntmps15
      go_wp2_with fail
      generalize (w.alloc (.cells #[.slice x.TA x.t.length x.tc, .slice x.OA x.o.length x.oc, .int .i64 x.got, .int .i64 x.sold, .int .i64 x.missed] 32)) = W at b2 hA HSW ⊢
      obtain ⟨p0, p1, p2, p3, p4⟩ := hA.s
      refine (calls_since0 (cG _ hA)).mono ?_
      rintro e w1 ⟨rfl, q1, rfl⟩
      go_wp2_with fail
      refine ((isPerson_any st _)).mono ?_
      rw [H2.out]
      rintro e w2 ⟨rfl, rfl⟩
      go_wp2
      go_ret2
      show ∃ A' c', _ = Ending.returned (.tuple #[.slice A' ([] : List Int).length c', .bool false]) ∧ OwnS _ _ _ 1 A' ([] : List Int).length (encIs []) ∧ _
      exact ⟨_, _, rfl, ⟨rfl, by simp, .inl ⟨rfl, rfl⟩⟩, b2.trans (q1.below.mono b2.size)⟩
    · have HF : Hid (picks (fun r : Outing => decide (r.p = st)) Outing.k (x.o.drop 0) = picks (fun r : Outing => decide (r.p = st)) Outing.k x.o) := rfl
      go_enter Tryd.func15, Tryd.ntmps15
      go_wp2_with fail
      generalize (w.alloc (.cells #[.slice x.TA x.t.length x.tc, .slice x.OA x.o.length x.oc, .int .i64 x.got, .int .i64 x.sold, .int .i64 x.missed] 32)) = W at b2 hA HSW ⊢
      obtain ⟨p0, p1, p2, p3, p4⟩ := hA.s
      have hro := hA.r.os.el
      refine (calls_since0 (cG _ hA)).mono ?_
      rintro e w1 ⟨rfl, q1, rfl⟩
      go_wp2_with fail
      refine ((isPerson_any st _)).mono ?_
      rw [H2.out]
      rintro e w2 ⟨rfl, rfl⟩
      obtain ⟨OA, hOA⟩ : ∃ A, x.OA = A := ⟨_, rfl⟩
      rw [hOA] at hro
      simp only [hOA] at p1
      clear hOA
      go_wp2
      go_loopw [6, 19] (fun out i wr => ∃ (k : Nat) (acc : List Int), k ≤ x.o.length ∧ i = .int .i64 k ∧ acc.length ≤ k ∧ Hid (wr.ownsRow W.heap.size 3 1 out acc.length (encIs acc)) ∧ (Below W.heap.size W wr) ∧ Hid (acc ++ picks (fun r : Outing => decide (r.p = st)) Outing.k (x.o.drop k) = picks (fun r : Outing => decide (r.p = st)) Outing.k x.o)) (fun _ i _ => x.o.length - (intOf i).toNat)
      case atStart => exact ⟨0, [], Nat.zero_le _, rfl, Nat.zero_le _, (World.ownsRow_nil _ _ _ _), q1.below, HF⟩
      case round =>
        obtain ⟨k, acc, hk, rfl, hacc, HO, hbr, HR⟩ := hrel
        obtain ⟨q, rfl⟩ : ∃ q : Since W.heap.size W, wr = q.val := ⟨⟨wr, hbr⟩, rfl⟩
        by_cases hlt : k < x.o.length
        · obtain ⟨b, off, rfl, hb, hcell⟩ := hro (by omega)
          obtain ⟨e0, e1, e2⟩ := hcell k hlt
          have hy := fun hv => picks_yes (sel := (fun r : Outing => decide (r.p = st))) (get := Outing.k) hlt hv
          have hn := fun hv => picks_no (sel := (fun r : Outing => decide (r.p = st))) (get := Outing.k) hlt hv
          obtain ⟨r, hre⟩ : ∃ r, r = x.o[k] := ⟨_, rfl⟩
          rw [← hre] at e0 e1 e2 hy hn
          clear hre hcell hro
          by_cases hz : r.p = st
          · have hv : (r.p == st) = true := by simp [hz]
            have HE : Hid ((acc ++ [r.k]) ++ picks (fun r : Outing => decide (r.p = st)) Outing.k (x.o.drop (k + 1)) = picks (fun r : Outing => decide (r.p = st)) Outing.k x.o) := by
              have h1 := HR.out; rw [hy (decide_eq_true hz)] at h1; unfold Hid; rw [List.append_assoc]; exact h1
            clear hy hn hz HR
            have HOW := Lib.hid (HO.out.alloc (.cells #[.int .i64 r.k, .int .i64 r.p, .int .i64 r.c] 71))
            have hbV := q.below.alloc q.size (.cells #[.int .i64 r.k, .int .i64 r.p, .int .i64 r.c] 71)
            have hsV := hbV.size
            clear HO
            go_wp2_with (at_builtin; refine wpList_push (w0 := q.val.alloc (.cells #[.int .i64 r.k, .int .i64 r.p, .int .i64 r.c] 71)) rfl _ _ 40 rfl 3 (.int .i64 0) 1 8 Tryd.underlying40 infoInt rfl (by decide) (by omega) W.heap.size _ _ _ rfl HOW #[.int .i64 r.k] 1 _ rfl (by first | rfl | exact Array.size_push _) rfl (by simp [Value.oneCell']) (by omega) hsV rfl rfl rfl rfl ?_; intro v' w3 HO3 hg3 hb3)
            obtain ⟨A3, c3, rfl⟩ := ownsRow_slice HO3.out
            go_wp2
            go_roundw
            case rel => exact ⟨k + 1, acc ++ [r.k], by omega, by go_num, by simp; omega, by rw [List.length_append]; unfold encIs at HO3 ⊢; rw [List.map_append]; exact HO3, hbV.grown hg3 hbV.size (fun g hg => (HOW.out.lt g hg).1), HE⟩
            case measure => simp [intOf]; omega
          · have hv : (r.p == st) = false := by simp [hz]
            have HE : Hid (acc ++ picks (fun r : Outing => decide (r.p = st)) Outing.k (x.o.drop (k + 1)) = picks (fun r : Outing => decide (r.p = st)) Outing.k x.o) := by
              have h1 := HR.out; rw [hn (decide_eq_false hz)] at h1; exact h1
            clear hy hn hz HR
            go_wp2
            go_roundw
            case rel => exact ⟨k + 1, acc, by omega, by go_num, by omega, Lib.hid (HO.out.alloc _), q.below.alloc q.size _, HE⟩
            case measure => simp [intOf]; omega
        · have HE : Hid (acc = picks (fun r : Outing => decide (r.p = st)) Outing.k x.o) := by
            have h1 := HR.out; rw [List.drop_eq_nil_of_le (by omega), show picks (fun r : Outing => decide (r.p = st)) Outing.k [] = [] from rfl, List.append_nil] at h1; exact h1
          obtain ⟨A3, c3, rfl⟩ := ownsRow_slice HO.out
          clear hro
          go_wp2
          go_ret2
          have e1 : listOf (true && true) (picks (fun r : Outing => decide (r.p = st)) Outing.k x.o) = acc := HE.out.symm
          rw [e1]
          exact ⟨_, _, rfl, (OwnS.of HO.out).lower b2.size, b2.trans (q.below.mono b2.size)⟩

set_option maxHeartbeats 2000000 in
theorem specPersonsWith_any (x : Off) (st : Int) (w : World) (h : OffR w w.heap.size x) :
    Calls Tryd.prog 13 #[x.val, .int .i64 st] w fun e w' => ∃ A' c', e = .returned (.tuple #[.slice A' (listOf (goodOff x && hasTray x.t st) (picks (fun r : Outing => decide (r.k = st)) Outing.p x.o)).length c', .bool (goodOff x && hasTray x.t st)]) ∧ OwnS w' w.heap.size 3 1 A' (listOf (goodOff x && hasTray x.t st) (picks (fun r : Outing => decide (r.k = st)) Outing.p x.o)).length (encIs (listOf (goodOff x && hasTray x.t st) (picks (fun r : Outing => decide (r.k = st)) Outing.p x.o))) ∧ Below w.heap.size w w' := by
  have b2 := (Below.refl w.heap.size w).alloc (Nat.le_refl _) (.cells #[.slice x.TA x.t.length x.tc, .slice x.OA x.o.length x.oc, .int .i64 x.got, .int .i64 x.sold, .int .i64 x.missed] 32)
  have hA := box_at h 32
  have hsW : (w.alloc (.cells #[.slice x.TA x.t.length x.tc, .slice x.OA x.o.length x.oc, .int .i64 x.got, .int .i64 x.sold, .int .i64 x.missed] 32)).heap.size = w.heap.size + 1 := Array.size_push _
  have HSW := Lib.hid hsW; clear hsW
  have cG := fun W hW => l32Good_any x W hW
  cases hg : goodOff x
  · rw [hg] at cG
    clear hg
    go_enter Tryd.func13, Tryd.ntmps13
    go_wp2_with fail
    generalize (w.alloc (.cells #[.slice x.TA x.t.length x.tc, .slice x.OA x.o.length x.oc, .int .i64 x.got, .int .i64 x.sold, .int .i64 x.missed] 32)) = W at b2 hA HSW ⊢
    obtain ⟨q0, hq0⟩ : ∃ q0 : Since W.heap.size W, W.alloc (.cells #[] 3) = q0.val := ⟨⟨W.alloc (.cells #[] 3), (Below.refl _ _).alloc (Nat.le_refl _) _⟩, rfl⟩
    have hO : Lies q0.val (w.heap.size + 1) 3 [] := by rw [← hq0, ← HSW.out]; exact Lies.new W 3 #[]
    rw [hq0]
    clear hq0
    refine (cG _ (hA.r.at q0)).mono ?_
    rintro e w1 ⟨rfl, hb1⟩
    obtain ⟨q1, rfl⟩ : ∃ q1 : Since W.heap.size W, w1 = q1.val := ⟨q0.go (Nat.le_refl _) hb1, rfl⟩
    go_wp2
    go_ret2
    show ∃ A' c', _ = Ending.returned (.tuple #[.slice A' ([] : List Int).length c', .bool false]) ∧ OwnS _ _ _ 1 A' ([] : List Int).length (encIs []) ∧ _
    exact ⟨_, _, rfl, ⟨rfl, by simp, .inr ⟨w.heap.size + 1, [], rfl, Nat.le_succ _, by simpa using (hO.below (hb1) hO.lt)⟩⟩, b2.trans (q1.below.mono b2.size)⟩
  · rw [hg] at cG
    have G := good_iff.1 hg
    have ol := G.ol
    have hl := h.os.big
    clear hg G
    obtain ⟨X, hX⟩ : ∃ X, trayIx x.t st = X := ⟨_, rfl⟩
    have HX : Hid (Value.int .i64 (trayIx x.t st) = .int .i64 X) := by rw [hX]; rfl
    obtain ⟨v2, hv2⟩ : ∃ v, hasTray x.t st = v := ⟨_, rfl⟩
    have hX0 : decide (0 ≤ X) = v2 := by rw [← hX, ← hv2]; exact trayIx_has _ _
    rw [hv2]
    clear hX hv2
    cases v2
    · go_enter Tryd.func13, Tryd.ntmps13
      have hX1 : X < 0 := by have := of_decide_eq_false hX0; omega
      clear hX0
      go_wp2_with fail
      generalize (w.alloc (.cells #[.slice x.TA x.t.length x.tc, .slice x.OA x.o.length x.oc, .int .i64 x.got, .int .i64 x.sold, .int .i64 x.missed] 32)) = W at b2 hA HSW ⊢
      obtain ⟨q0, hq0⟩ : ∃ q0 : Since W.heap.size W, W.alloc (.cells #[] 3) = q0.val := ⟨⟨W.alloc (.cells #[] 3), (Below.refl _ _).alloc (Nat.le_refl _) _⟩, rfl⟩
      have hO : Lies q0.val (w.heap.size + 1) 3 [] := by rw [← hq0, ← HSW.out]; exact Lies.new W 3 #[]
      rw [hq0]
      clear hq0
      obtain ⟨p0, p1, p2, p3, p4⟩ := hA.s
      refine (cG _ (hA.r.at q0)).mono ?_
      rintro e w1 ⟨rfl, hb1⟩
      obtain ⟨q1, rfl⟩ : ∃ q1 : Since W.heap.size W, w1 = q1.val := ⟨q0.go (Nat.le_refl _) hb1, rfl⟩
      go_wp2_with fail
      refine (l32Tray_any x st _ (hA.r.at q1)).mono ?_
      rw [HX.out]
      rintro e w2 ⟨rfl, hb2⟩
      have hb12 := bthen hb1 hb2
      obtain ⟨q2, rfl⟩ : ∃ q2 : Since W.heap.size W, w2 = q2.val := ⟨q1.go (Nat.le_refl _) hb2, rfl⟩
      go_wp2
      go_ret2
      show ∃ A' c', _ = Ending.returned (.tuple #[.slice A' ([] : List Int).length c', .bool false]) ∧ OwnS _ _ _ 1 A' ([] : List Int).length (encIs []) ∧ _
      exact ⟨_, _, rfl, ⟨rfl, by simp, .inr ⟨w.heap.size + 1, [], rfl, Nat.le_succ _, by simpa using (hO.below (hb12) hO.lt)⟩⟩, b2.trans (q2.below.mono b2.size)⟩
    · have HF : Hid (picks (fun r : Outing => decide (r.k = st)) Outing.p (x.o.drop 0) = picks (fun r : Outing => decide (r.k = st)) Outing.p x.o) := rfl
      have hX1 : 0 ≤ X := of_decide_eq_true hX0
      clear hX0
      go_enter Tryd.func13, Tryd.ntmps13
      go_wp2_with fail
      generalize (w.alloc (.cells #[.slice x.TA x.t.length x.tc, .slice x.OA x.o.length x.oc, .int .i64 x.got, .int .i64 x.sold, .int .i64 x.missed] 32)) = W at b2 hA HSW ⊢
      obtain ⟨q0, hq0⟩ : ∃ q0 : Since W.heap.size W, W.alloc (.cells #[] 3) = q0.val := ⟨⟨W.alloc (.cells #[] 3), (Below.refl _ _).alloc (Nat.le_refl _) _⟩, rfl⟩
      have hO : Lies q0.val (w.heap.size + 1) 3 [] := by rw [← hq0, ← HSW.out]; exact Lies.new W 3 #[]
      rw [hq0]
      clear hq0
      obtain ⟨p0, p1, p2, p3, p4⟩ := hA.s
      have hro := hA.r.os.el
      refine (cG _ (hA.r.at q0)).mono ?_
      rintro e w1 ⟨rfl, hb1⟩
      obtain ⟨q1, rfl⟩ : ∃ q1 : Since W.heap.size W, w1 = q1.val := ⟨q0.go (Nat.le_refl _) hb1, rfl⟩
      go_wp2_with fail
      refine (l32Tray_any x st _ (hA.r.at q1)).mono ?_
      rw [HX.out]
      rintro e w2 ⟨rfl, hb2⟩
      have hb12 := bthen hb1 hb2
      obtain ⟨q2, rfl⟩ : ∃ q2 : Since W.heap.size W, w2 = q2.val := ⟨q1.go (Nat.le_refl _) hb2, rfl⟩
      obtain ⟨OA, hOA⟩ : ∃ A, x.OA = A := ⟨_, rfl⟩
      rw [hOA] at hro
      simp only [hOA] at p1
      clear hOA
      go_wp2
      go_loopw [6, 7] (fun out i wr => ∃ (k : Nat) (acc : List Int), k ≤ x.o.length ∧ i = .int .i64 k ∧ acc.length ≤ k ∧ Hid (wr.ownsRow W.heap.size 3 1 out acc.length (encIs acc)) ∧ (Below W.heap.size W wr) ∧ Hid (acc ++ picks (fun r : Outing => decide (r.k = st)) Outing.p (x.o.drop k) = picks (fun r : Outing => decide (r.k = st)) Outing.p x.o)) (fun _ i _ => x.o.length - (intOf i).toNat)
      case atStart => exact ⟨0, [], Nat.zero_le _, rfl, Nat.zero_le _, ((hO.below (hb12) hO.lt).own (B := W.heap.size) (k := 1) (n := 0) (by rw [HSW.out]; exact Nat.le_refl _) rfl (by unfold maxLen; omega)), q2.below, HF⟩
      case round =>
        obtain ⟨k, acc, hk, rfl, hacc, HO, hbr, HR⟩ := hrel
        obtain ⟨q, rfl⟩ : ∃ q : Since W.heap.size W, wr = q.val := ⟨⟨wr, hbr⟩, rfl⟩
        by_cases hlt : k < x.o.length
        · obtain ⟨b, off, rfl, hb, hcell⟩ := hro (by omega)
          obtain ⟨e0, e1, e2⟩ := hcell k hlt
          have hy := fun hv => picks_yes (sel := (fun r : Outing => decide (r.k = st))) (get := Outing.p) hlt hv
          have hn := fun hv => picks_no (sel := (fun r : Outing => decide (r.k = st))) (get := Outing.p) hlt hv
          obtain ⟨r, hre⟩ : ∃ r, r = x.o[k] := ⟨_, rfl⟩
          rw [← hre] at e0 e1 e2 hy hn
          clear hre hcell hro
          by_cases hz : r.k = st
          · have hv : (r.k == st) = true := by simp [hz]
            have HE : Hid ((acc ++ [r.p]) ++ picks (fun r : Outing => decide (r.k = st)) Outing.p (x.o.drop (k + 1)) = picks (fun r : Outing => decide (r.k = st)) Outing.p x.o) := by
              have h1 := HR.out; rw [hy (decide_eq_true hz)] at h1; unfold Hid; rw [List.append_assoc]; exact h1
            clear hy hn hz HR
            go_wp2_with (at_builtin; refine wpList_push (w0 := q.val) rfl _ _ 40 rfl 3 (.int .i64 0) 1 8 Tryd.underlying40 infoInt rfl (by decide) (by omega) W.heap.size _ _ _ rfl HO #[.int .i64 r.p] 1 _ rfl (by first | rfl | exact Array.size_push _) rfl (by simp [Value.oneCell']) (by omega) q.size rfl rfl rfl rfl ?_; intro v' w3 HO3 hg3 hb3)
            obtain ⟨A3, c3, rfl⟩ := ownsRow_slice HO3.out
            go_wp2
            go_roundw
            case rel => exact ⟨k + 1, acc ++ [r.p], by omega, by go_num, by simp; omega, by rw [List.length_append]; unfold encIs at HO3 ⊢; rw [List.map_append]; exact HO3, q.below.grown hg3 q.size (fun g hg => (HO.out.lt g hg).1), HE⟩
            case measure => simp [intOf]; omega
          · have hv : (r.k == st) = false := by simp [hz]
            have HE : Hid (acc ++ picks (fun r : Outing => decide (r.k = st)) Outing.p (x.o.drop (k + 1)) = picks (fun r : Outing => decide (r.k = st)) Outing.p x.o) := by
              have h1 := HR.out; rw [hn (decide_eq_false hz)] at h1; exact h1
            clear hy hn hz HR
            go_wp2
            go_roundw
            case rel => exact ⟨k + 1, acc, by omega, by go_num, by omega, HO, q.below, HE⟩
            case measure => simp [intOf]; omega
        · have HE : Hid (acc = picks (fun r : Outing => decide (r.k = st)) Outing.p x.o) := by
            have h1 := HR.out; rw [List.drop_eq_nil_of_le (by omega), show picks (fun r : Outing => decide (r.k = st)) Outing.p [] = [] from rfl, List.append_nil] at h1; exact h1
          obtain ⟨A3, c3, rfl⟩ := ownsRow_slice HO.out
          clear hro
          go_wp2
          go_ret2
          have e1 : listOf (true && true) (picks (fun r : Outing => decide (r.k = st)) Outing.p x.o) = acc := HE.out.symm
          rw [e1]
          exact ⟨_, _, rfl, (OwnS.of HO.out).lower b2.size, b2.trans (q.below.mono b2.size)⟩

set_option maxHeartbeats 2000000 in
theorem implPersonsWith_any (x : Off) (st : Int) (w : World) (h : OffR w w.heap.size x) :
    Calls Tryd.prog 12 #[x.val, .int .i64 st] w fun e w' => ∃ A' c', e = .returned (.tuple #[.slice A' (listOf (goodOff x && hasTray x.t st) (picks (fun r : Outing => decide (r.k = st)) Outing.p x.o)).length c', .bool (goodOff x && hasTray x.t st)]) ∧ OwnS w' w.heap.size 3 1 A' (listOf (goodOff x && hasTray x.t st) (picks (fun r : Outing => decide (r.k = st)) Outing.p x.o)).length (encIs (listOf (goodOff x && hasTray x.t st) (picks (fun r : Outing => decide (r.k = st)) Outing.p x.o))) ∧ Below w.heap.size w w' := by
  have b2 := (Below.refl w.heap.size w).alloc (Nat.le_refl _) (.cells #[.slice x.TA x.t.length x.tc, .slice x.OA x.o.length x.oc, .int .i64 x.got, .int .i64 x.sold, .int .i64 x.missed] 32)
  have hA := box_at h 32
  have hsW : (w.alloc (.cells #[.slice x.TA x.t.length x.tc, .slice x.OA x.o.length x.oc, .int .i64 x.got, .int .i64 x.sold, .int .i64 x.missed] 32)).heap.size = w.heap.size + 1 := Array.size_push _
  have HSW := Lib.hid hsW; clear hsW
  have cG := fun W hW => isOfficeValid_any x w.heap.size W hW
  cases hg : goodOff x
  · rw [hg] at cG
    clear hg
    go_enter Tryd.func12, Tryd.ntmps12
    go_wp2_with fail
    generalize (w.alloc (.cells #[.slice x.TA x.t.length x.tc, .slice x.OA x.o.length x.oc, .int .i64 x.got, .int .i64 x.sold, .int .i64 x.missed] 32)) = W at b2 hA HSW ⊢
    refine (calls_since0 (cG _ hA)).mono ?_
    rintro e w1 ⟨rfl, q1, rfl⟩
    go_wp2
    go_ret2
    show ∃ A' c', _ = Ending.returned (.tuple #[.slice A' ([] : List Int).length c', .bool false]) ∧ OwnS _ _ _ 1 A' ([] : List Int).length (encIs []) ∧ _
    exact ⟨_, _, rfl, ⟨rfl, by simp, .inl ⟨rfl, rfl⟩⟩, b2.trans (q1.below.mono b2.size)⟩
  · rw [hg] at cG
    have G := good_iff.1 hg
    have ol := G.ol
    have hl := h.os.big
    clear hg G
    obtain ⟨X, hX⟩ : ∃ X, trayIx x.t st = X := ⟨_, rfl⟩
    have HX : Hid (Value.int .i64 (trayIx x.t st) = .int .i64 X) := by rw [hX]; rfl
    obtain ⟨v2, hv2⟩ : ∃ v, hasTray x.t st = v := ⟨_, rfl⟩
    have hX0 : decide (0 ≤ X) = v2 := by rw [← hX, ← hv2]; exact trayIx_has _ _
    rw [hv2]
    clear hX hv2
    cases v2
    · go_enter Tryd.func12, Tryd.ntmps12
      have hX1 : X < 0 := by have := of_decide_eq_false hX0; omega
      clear hX0
      go_wp2_with fail
      generalize (w.alloc (.cells #[.slice x.TA x.t.length x.tc, .slice x.OA x.o.length x.oc, .int .i64 x.got, .int .i64 x.sold, .int .i64 x.missed] 32)) = W at b2 hA HSW ⊢
      obtain ⟨p0, p1, p2, p3, p4⟩ := hA.s
      refine (calls_since0 (cG _ hA)).mono ?_
      rintro e w1 ⟨rfl, q1, rfl⟩
      go_wp2_with fail
      refine (calls_sinceE HX (Nat.le_refl _) (trayAt_any x w.heap.size st _ (hA.at q1))).mono ?_
      rintro e w2 ⟨rfl, q2, rfl⟩
      go_wp2
      go_ret2
      show ∃ A' c', _ = Ending.returned (.tuple #[.slice A' ([] : List Int).length c', .bool false]) ∧ OwnS _ _ _ 1 A' ([] : List Int).length (encIs []) ∧ _
      exact ⟨_, _, rfl, ⟨rfl, by simp, .inl ⟨rfl, rfl⟩⟩, b2.trans (q2.below.mono b2.size)⟩
    · have HF : Hid (picks (fun r : Outing => decide (r.k = st)) Outing.p (x.o.drop 0) = picks (fun r : Outing => decide (r.k = st)) Outing.p x.o) := rfl
      have hX1 : 0 ≤ X := of_decide_eq_true hX0
      clear hX0
      go_enter Tryd.func12, Tryd.ntmps12
      go_wp2_with fail
      generalize (w.alloc (.cells #[.slice x.TA x.t.length x.tc, .slice x.OA x.o.length x.oc, .int .i64 x.got, .int .i64 x.sold, .int .i64 x.missed] 32)) = W at b2 hA HSW ⊢
      obtain ⟨p0, p1, p2, p3, p4⟩ := hA.s
      have hro := hA.r.os.el
      refine (calls_since0 (cG _ hA)).mono ?_
      rintro e w1 ⟨rfl, q1, rfl⟩
      go_wp2_with fail
      refine (calls_sinceE HX (Nat.le_refl _) (trayAt_any x w.heap.size st _ (hA.at q1))).mono ?_
      rintro e w2 ⟨rfl, q2, rfl⟩
      obtain ⟨OA, hOA⟩ : ∃ A, x.OA = A := ⟨_, rfl⟩
      rw [hOA] at hro
      simp only [hOA] at p1
      clear hOA
      go_wp2
      go_loopw [6, 19] (fun out i wr => ∃ (k : Nat) (acc : List Int), k ≤ x.o.length ∧ i = .int .i64 k ∧ acc.length ≤ k ∧ Hid (wr.ownsRow W.heap.size 3 1 out acc.length (encIs acc)) ∧ (Below W.heap.size W wr) ∧ Hid (acc ++ picks (fun r : Outing => decide (r.k = st)) Outing.p (x.o.drop k) = picks (fun r : Outing => decide (r.k = st)) Outing.p x.o)) (fun _ i _ => x.o.length - (intOf i).toNat)
      case atStart => exact ⟨0, [], Nat.zero_le _, rfl, Nat.zero_le _, (World.ownsRow_nil _ _ _ _), q2.below, HF⟩
      case round =>
        obtain ⟨k, acc, hk, rfl, hacc, HO, hbr, HR⟩ := hrel
        obtain ⟨q, rfl⟩ : ∃ q : Since W.heap.size W, wr = q.val := ⟨⟨wr, hbr⟩, rfl⟩
        by_cases hlt : k < x.o.length
        · obtain ⟨b, off, rfl, hb, hcell⟩ := hro (by omega)
          obtain ⟨e0, e1, e2⟩ := hcell k hlt
          have hy := fun hv => picks_yes (sel := (fun r : Outing => decide (r.k = st))) (get := Outing.p) hlt hv
          have hn := fun hv => picks_no (sel := (fun r : Outing => decide (r.k = st))) (get := Outing.p) hlt hv
          obtain ⟨r, hre⟩ : ∃ r, r = x.o[k] := ⟨_, rfl⟩
          rw [← hre] at e0 e1 e2 hy hn
          clear hre hcell hro
          by_cases hz : r.k = st
          · have hv : (r.k == st) = true := by simp [hz]
            have HE : Hid ((acc ++ [r.p]) ++ picks (fun r : Outing => decide (r.k = st)) Outing.p (x.o.drop (k + 1)) = picks (fun r : Outing => decide (r.k = st)) Outing.p x.o) := by
              have h1 := HR.out; rw [hy (decide_eq_true hz)] at h1; unfold Hid; rw [List.append_assoc]; exact h1
            clear hy hn hz HR
            have HOW := Lib.hid (HO.out.alloc (.cells #[.int .i64 r.k, .int .i64 r.p, .int .i64 r.c] 71))
            have hbV := q.below.alloc q.size (.cells #[.int .i64 r.k, .int .i64 r.p, .int .i64 r.c] 71)
            have hsV := hbV.size
            clear HO
            go_wp2_with (at_builtin; refine wpList_push (w0 := q.val.alloc (.cells #[.int .i64 r.k, .int .i64 r.p, .int .i64 r.c] 71)) rfl _ _ 40 rfl 3 (.int .i64 0) 1 8 Tryd.underlying40 infoInt rfl (by decide) (by omega) W.heap.size _ _ _ rfl HOW #[.int .i64 r.p] 1 _ rfl (by first | rfl | exact Array.size_push _) rfl (by simp [Value.oneCell']) (by omega) hsV rfl rfl rfl rfl ?_; intro v' w3 HO3 hg3 hb3)
            obtain ⟨A3, c3, rfl⟩ := ownsRow_slice HO3.out
            go_wp2
            go_roundw
            case rel => exact ⟨k + 1, acc ++ [r.p], by omega, by go_num, by simp; omega, by rw [List.length_append]; unfold encIs at HO3 ⊢; rw [List.map_append]; exact HO3, hbV.grown hg3 hbV.size (fun g hg => (HOW.out.lt g hg).1), HE⟩
            case measure => simp [intOf]; omega
          · have hv : (r.k == st) = false := by simp [hz]
            have HE : Hid (acc ++ picks (fun r : Outing => decide (r.k = st)) Outing.p (x.o.drop (k + 1)) = picks (fun r : Outing => decide (r.k = st)) Outing.p x.o) := by
              have h1 := HR.out; rw [hn (decide_eq_false hz)] at h1; exact h1
            clear hy hn hz HR
            go_wp2
            go_roundw
            case rel => exact ⟨k + 1, acc, by omega, by go_num, by omega, Lib.hid (HO.out.alloc _), q.below.alloc q.size _, HE⟩
            case measure => simp [intOf]; omega
        · have HE : Hid (acc = picks (fun r : Outing => decide (r.k = st)) Outing.p x.o) := by
            have h1 := HR.out; rw [List.drop_eq_nil_of_le (by omega), show picks (fun r : Outing => decide (r.k = st)) Outing.p [] = [] from rfl, List.append_nil] at h1; exact h1
          obtain ⟨A3, c3, rfl⟩ := ownsRow_slice HO.out
          clear hro
          go_wp2
          go_ret2
          have e1 : listOf (true && true) (picks (fun r : Outing => decide (r.k = st)) Outing.p x.o) = acc := HE.out.symm
          rw [e1]
          exact ⟨_, _, rfl, (OwnS.of HO.out).lower b2.size, b2.trans (q.below.mono b2.size)⟩
end Go.Proofs.YtdiojhjkcholiaaDoor

/- BusiestPerson: the plain law. -/
namespace Go.Proofs.YtdiojhjkcholiaaDoor
open Go.RowKit

/-- How many stamps are at a person. -/
def atP (l : List Outing) (p : Int) : Int := outSum (fun o => decide (o.p = p)) l
/-- The best so far: its person and its stamps; the reference goes through the outings. -/
def specBest (l : List Outing) : List Outing → Int × Int → Int × Int
  | [], b => b
  | r :: rest, b => specBest l rest (if b.2 < atP l r.p ∨ atP l r.p = b.2 ∧ r.p < b.1 then (r.p, atP l r.p) else b)
/-- The program goes through all persons from one on. -/
def implBest (l : List Outing) : Nat → Int → Int × Int → Int × Int
  | 0, _, b => b
  | n + 1, p, b => implBest l n (p + 1) (if b.2 < atP l p then (p, atP l p) else b)

theorem outFrom_nonneg (f : Outing → Bool) : ∀ (l : List Outing) (s : Int), (∀ r ∈ l, 1 ≤ r.c) → s ≤ outFrom f s l
  | [], s, _ => Int.le_refl _
  | r :: l, s, h => by
    have h1 := h r (List.mem_cons_self ..)
    have := outFrom_nonneg f l (if f r then s + r.c else s) (fun x hx => h x (List.mem_cons_of_mem _ hx))
    simp only [outFrom]
    cases hf : f r <;> simp only [hf, if_true, if_false, Bool.false_eq_true] at this ⊢ <;> omega
theorem outFrom_pos (f : Outing → Bool) : ∀ (l : List Outing) (s : Int), (∀ r ∈ l, 1 ≤ r.c) → (∃ r ∈ l, f r = true) → s < outFrom f s l
  | [], _, _, ⟨_, h, _⟩ => by cases h
  | r :: l, s, h, ⟨x, hx, hf⟩ => by
    have h1 := h r (List.mem_cons_self ..)
    have hl : ∀ y ∈ l, 1 ≤ y.c := fun y hy => h y (List.mem_cons_of_mem _ hy)
    simp only [outFrom]
    cases hr : f r
    · simp only [Bool.false_eq_true, if_false]
      rcases List.mem_cons.1 hx with rfl | hx
      · rw [hf] at hr; cases hr
      · exact outFrom_pos f l s hl ⟨x, hx, hf⟩
    · simp only [if_true]
      have := outFrom_nonneg f l (s + r.c) hl
      omega
theorem outFrom_none (f : Outing → Bool) : ∀ (l : List Outing) (s : Int), (∀ r ∈ l, f r = false) → outFrom f s l = s
  | [], _, _ => rfl
  | r :: l, s, h => by
    simp only [outFrom]
    rw [h r (List.mem_cons_self ..)]
    exact outFrom_none f l s fun x hx => h x (List.mem_cons_of_mem _ hx)

/-- b is the best among the persons that P tells: its stamps the most, the least person among several; nothing at all: (0, 0). -/
structure Best (l : List Outing) (P : Int → Prop) (b : Int × Int) : Prop where
  top : ∀ p, P p → atP l p ≤ b.2
  is : (b = (0, 0) ∧ ∀ p, P p → atP l p ≤ 0) ∨ (P b.1 ∧ b.2 = atP l b.1 ∧ 0 < b.2 ∧ ∀ p, P p → atP l p = b.2 → b.1 ≤ p)
theorem Best.unique {l : List Outing} {P Q : Int → Prop} {a b : Int × Int} (ha : Best l P a) (hb : Best l Q b) (hpq : ∀ p, 0 < atP l p → (P p ↔ Q p)) : a = b := by
  rcases ha.is with ⟨rfl, ha0⟩ | ⟨ha1, ha2, ha3, ha4⟩
  · rcases hb.is with ⟨rfl, _⟩ | ⟨hb1, hb2, hb3, _⟩
    · rfl
    · have := ha0 b.1 ((hpq b.1 (by omega)).2 hb1); omega
  · rcases hb.is with ⟨rfl, hb0⟩ | ⟨hb1, hb2, hb3, hb4⟩
    · have := hb0 a.1 ((hpq a.1 (by omega)).1 ha1); omega
    · have h1 := ha.top b.1 ((hpq b.1 (by omega)).2 hb1)
      have h2 := hb.top a.1 ((hpq a.1 (by omega)).1 ha1)
      have e2 : a.2 = b.2 := by omega
      have h3 := ha4 b.1 ((hpq b.1 (by omega)).2 hb1) (by omega)
      have h4 := hb4 a.1 ((hpq a.1 (by omega)).1 ha1) (by omega)
      have e1 : a.1 = b.1 := by omega
      cases a; cases b; simp only at e1 e2; rw [e1, e2]
theorem Best.nil (l : List Outing) {P : Int → Prop} (h : ∀ p, ¬ P p) : Best l P (0, 0) := ⟨fun p hp => absurd hp (h p), .inl ⟨rfl, fun p hp => absurd hp (h p)⟩⟩
/-- One person more, wherever it stands (the reference's step). -/
theorem Best.step {l : List Outing} {P : Int → Prop} {b : Int × Int} (h : Best l P b) (q : Int) (hq : 0 < atP l q) :
    Best l (fun p => P p ∨ p = q) (if b.2 < atP l q ∨ atP l q = b.2 ∧ q < b.1 then (q, atP l q) else b) := by
  split
  · rename_i hc
    refine ⟨fun p hp => ?_, .inr ⟨.inr rfl, rfl, hq, fun p hp he => ?_⟩⟩
    · rcases hp with hp | rfl
      · have := h.top p hp; simp only; omega
      · exact Int.le_refl _
    · simp only at he ⊢
      rcases hp with hp | rfl
      · have h1 := h.top p hp
        rcases h.is with ⟨rfl, h0⟩ | ⟨_, _, _, h4⟩
        · have := h0 p hp; omega
        · rcases hc with hc | ⟨hc, hlt⟩
          · omega
          · have := h4 p hp (by omega); omega
      · exact Int.le_refl _
  · rename_i hc
    have hc1 : atP l q ≤ b.2 := by omega
    have hc2 : atP l q = b.2 → b.1 ≤ q := fun e => by omega
    refine ⟨fun p hp => ?_, .inr ?_⟩
    · rcases hp with hp | rfl
      · exact h.top p hp
      · exact hc1
    · rcases h.is with ⟨rfl, _⟩ | ⟨h1, h2, h3, h4⟩
      · simp only at hc1; omega
      · exact ⟨.inl h1, h2, h3, fun p hp he => by
          rcases hp with hp | rfl
          · exact h4 p hp he
          · exact hc2 he⟩
/-- One person more, behind all that came (the program's step). -/
theorem Best.next {l : List Outing} {lo q : Int} {b : Int × Int} (h : Best l (fun p => lo ≤ p ∧ p < q) b) (hlo : lo ≤ q) (h0 : 0 ≤ atP l q) :
    Best l (fun p => lo ≤ p ∧ p < q + 1) (if b.2 < atP l q then (q, atP l q) else b) := by
  have hb0 : 0 ≤ b.2 := by
    rcases h.is with ⟨rfl, _⟩ | ⟨_, _, h3, _⟩
    · exact Int.le_refl _
    · omega
  split
  · rename_i hc
    refine ⟨fun p hp => ?_, .inr ⟨⟨hlo, by simp only; omega⟩, rfl, by simp only; omega, fun p hp he => ?_⟩⟩
    · rcases Int.lt_or_le p q with hlt | hge
      · have := h.top p ⟨hp.1, hlt⟩; simp only; omega
      · obtain rfl : p = q := by omega
        exact Int.le_refl _
    · simp only at he ⊢
      rcases Int.lt_or_le p q with hlt | hge
      · have := h.top p ⟨hp.1, hlt⟩; omega
      · exact hge
  · rename_i hc
    refine ⟨fun p hp => ?_, ?_⟩
    · rcases Int.lt_or_le p q with hlt | hge
      · exact h.top p ⟨hp.1, hlt⟩
      · obtain rfl : p = q := by omega
        omega
    · rcases h.is with ⟨rfl, hz⟩ | ⟨h1, h2, h3, h4⟩
      · refine .inl ⟨rfl, fun p hp => ?_⟩
        rcases Int.lt_or_le p q with hlt | hge
        · exact hz p ⟨hp.1, hlt⟩
        · obtain rfl : p = q := by omega
          simp only at hc; omega
      · refine .inr ⟨⟨h1.1, by omega⟩, h2, h3, fun p hp he => ?_⟩
        rcases Int.lt_or_le p q with hlt | hge
        · exact h4 p ⟨hp.1, hlt⟩ he
        · omega

theorem specBest_is (l : List Outing) (hc : ∀ r ∈ l, 1 ≤ r.c) : ∀ (rest : List Outing) (P : Int → Prop) (b : Int × Int), (∀ r ∈ rest, r ∈ l) → Best l P b → Best l (fun p => P p ∨ ∃ r ∈ rest, r.p = p) (specBest l rest b)
  | [], P, b, _, h => by
    have e : (fun p => P p ∨ ∃ r ∈ ([] : List Outing), r.p = p) = P := by funext p; simp
    rw [e]; exact h
  | r :: rest, P, b, hm, h => by
    have hr : 0 < atP l r.p := outFrom_pos _ l 0 hc ⟨r, hm r (List.mem_cons_self ..), decide_eq_true rfl⟩
    have := specBest_is l hc rest _ _ (fun x hx => hm x (List.mem_cons_of_mem _ hx)) (h.step r.p hr)
    have e : (fun p => P p ∨ ∃ x ∈ r :: rest, x.p = p) = (fun p => (P p ∨ p = r.p) ∨ ∃ x ∈ rest, x.p = p) := by
      funext p
      simp only [List.mem_cons, eq_iff_iff]
      constructor
      · rintro (h | ⟨x, (rfl | hx), rfl⟩)
        · exact .inl (.inl h)
        · exact .inl (.inr rfl)
        · exact .inr ⟨x, hx, rfl⟩
      · rintro ((h | rfl) | ⟨x, hx, rfl⟩)
        · exact .inl h
        · exact .inr ⟨r, .inl rfl, rfl⟩
        · exact .inr ⟨x, .inr hx, rfl⟩
    rw [e]; exact this
theorem implBest_is (l : List Outing) (hc : ∀ r ∈ l, 1 ≤ r.c) (lo : Int) : ∀ (n : Nat) (q : Int) (b : Int × Int), lo ≤ q → Best l (fun p => lo ≤ p ∧ p < q) b → Best l (fun p => lo ≤ p ∧ p < q + n) (implBest l n q b)
  | 0, q, b, _, h => by simpa [implBest] using h
  | n + 1, q, b, hq, h => by
    have h0 : 0 ≤ atP l q := outFrom_nonneg _ l 0 hc
    have := implBest_is l hc lo n (q + 1) _ (by omega) (h.next hq h0)
    have e : q + 1 + (n : Int) = q + ((n + 1 : Nat) : Int) := by omega
    rw [e] at this
    exact this
theorem best_same (l : List Outing) (hc : ∀ r ∈ l, 1 ≤ r.c) (hp : ∀ r ∈ l, 1 ≤ r.p ∧ r.p ≤ 999) : implBest l 999 1 (0, 0) = specBest l l (0, 0) := by
  have h1 := implBest_is l hc 1 999 1 (0, 0) (Int.le_refl _) (Best.nil l fun p h => by omega)
  have h2 := specBest_is l hc l (fun _ => False) (0, 0) (fun _ h => h) (Best.nil l fun p h => h)
  refine Best.unique h1 h2 fun p hpos => ?_
  have hex : ∃ r ∈ l, r.p = p := by
    rcases Classical.em (∃ r ∈ l, r.p = p) with h | h
    · exact h
    · have : atP l p = 0 := outFrom_none _ l 0 fun r hr => decide_eq_false fun e => h ⟨r, hr, e⟩
      omega
  obtain ⟨r, hr, rfl⟩ := hex
  have := hp r hr
  exact ⟨fun _ => .inr ⟨r, hr, rfl⟩, fun _ => ⟨this.1, by omega⟩⟩
end Go.Proofs.YtdiojhjkcholiaaDoor
