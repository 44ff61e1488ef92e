/- Pl05: the texts ParseS ParseW RowGive PList PhrMark, joined into one file. -/
import Derived.Test.YtchkjiadnackaaaDoorPl02
import Derived.Test.YtchkjiadnackaaaDoorPl03
import Derived.Test.YtchkjiadnackaaaDoorPl04

set_option linter.unusedVariables false

/- The reference reads a phrase. (Printed by gen_parses.py) -/
namespace Go.Proofs.YtchkjiadnackaaaDoor
open Go.RowKit

theorem grownB {w w' : World} (h : Below w.heap.size w w') (row : Option Nat) : w.grownBy w' row := ⟨h.os, h.tape, h.output, h.size, fun k hk _ => h.block k hk⟩
theorem specD_is {s t0 u0 z : List UInt8} {ps fs hs : List (List UInt8)} {price sd sd2 cop : Int} {gs : List Int} {A : Option Addr} {cc n : Nat}
    (h1 : splitL 61 s = ps) (h2 : (if ps.length = 2 then numD (ps.getD 1 []) else 0) = price) (h3 : ps.headD [] = t0) (h4 : splitL 33 t0 = fs) (h5 : gs = fs.tail.map numD) (h6 : fs.headD [] = u0) (h7 : splitL 40 u0 = hs)
    (h8 : (if hs.headD [] = [42, 42] then (1 : Int) else 3) = sd) (h9 : (if hs.headD [] = [42] then (2 : Int) else sd) = sd2) (h10 : hs.getLastD [] = z) (hn : z.length = n) (h11 : (if hs.length = 2 ∧ 1 < n then numD (z.take (n - 1)) else 1) = cop) :
    specD s = Ph.ph { s := sd2, c := cop, f := gs, p := price, A := A, cap := cc } := by
  unfold specD Ph.ph
  simp only
  subst hn
  rw [h1, h3, h4, h6, h7, h10, h11, h2, ← h5, ← h9, ← h8]
/-- What reading gives, in the reference. -/
def GivesR (s : ByteArray) (w : World) (e : Ending) (w' : World) : Prop := ∃ (x : Ph) (ok : Bool), e = .returned (.tuple #[x.val, .bool ok]) ∧ (readD (bl s) = if ok = true then some x.ph else none) ∧ OwnS w' w.heap.size 3 1 x.A x.f.length (encIs x.f) ∧ Below w.heap.size w w'

set_option maxRecDepth 100000 in
set_option maxHeartbeats 8000000 in
set_option linter.unusedVariables false in
theorem l30Read_any (s : ByteArray) (w : World) (hs : s.size ≤ 2000000) (hL : LW w) :
    Calls Tryd.prog 15 #[.string s] w (GivesR s w) := by
  have L2 := (Lies.new w 24 #[.int .i64 0, .int .i64 0, .slice none 0 0, .int .i64 0]).alloc (.cells #[.int .i64 3, .int .i64 1, .slice none 0 0, .int .i64 0] 24)
  have L4 := Lies.new1 w (.cells #[.int .i64 0, .int .i64 0, .slice none 0 0, .int .i64 0] 24) 24 #[.int .i64 3, .int .i64 1, .slice none 0 0, .int .i64 0]
  have b2 := ((Below.refl w.heap.size w).alloc (Nat.le_refl _) (.cells #[.int .i64 0, .int .i64 0, .slice none 0 0, .int .i64 0] 24)).alloc (by simp) (.cells #[.int .i64 3, .int .i64 1, .slice none 0 0, .int .i64 0] 24)
  have S4 : PRd w ((w.alloc (.cells #[.int .i64 0, .int .i64 0, .slice none 0 0, .int .i64 0] 24)).alloc (.cells #[.int .i64 3, .int .i64 1, .slice none 0 0, .int .i64 0] 24)) (w.heap.size + 1) { s := 3, c := 1, f := [], p := 0, A := none, cap := 0 } (.slice none 0 0) :=
    ⟨b2, hL, L2, L4, World.ownsRow_nil _ _ _ _, by omega⟩
  clear L2 L4 b2
  by_cases hlong : 40 < s.size
  · have hl1 : (40 : Int) < (s.size : Int) := by omega
    have HRD : Hid (readD (bl s) = none) := readD_long (by rw [bl_size]; omega)
    go_enter Tryd.func15, Tryd.ntmps15
    go_upto_region 3 with fail
    generalize ((w.alloc (.cells #[.int .i64 0, .int .i64 0, .slice none 0 0, .int .i64 0] 24)).alloc (.cells #[.int .i64 3, .int .i64 1, .slice none 0 0, .int .i64 0] 24)) = W4 at S4 ⊢
    generalize w.heap.size + 1 = g4 at S4 ⊢
    have K2 := S4.out
    have K7 := S4.now
    have a0 := K2.cell 0
    have a1 := K2.cell 1
    have a2 := K2.cell 2
    have a3 := K2.cell 3
    simp only [List.getElem?_cons_zero, List.getElem?_cons_succ] at a0 a1 a2 a3
    have d0 := K7.cell 0
    have d1 := K7.cell 1
    have d2 := K7.cell 2
    have d3 := K7.cell 3
    simp only [List.getElem?_cons_zero, List.getElem?_cons_succ] at d0 d1 d2 d3
    have fa0 := K2.frozen 0
    have fa1 := K2.frozen 1
    have fa2 := K2.frozen 2
    have fa3 := K2.frozen 3
    obtain ⟨W20, hW20⟩ : ∃ W20, ((((W4.setCell ⟨w.heap.size, 0, none⟩ (.int .i64 3)).setCell ⟨w.heap.size, 1, none⟩ (.int .i64 1)).setCell ⟨w.heap.size, 2, none⟩ (.slice none 0 0)).setCell ⟨w.heap.size, 3, none⟩ (.int .i64 0)) = W20 := ⟨_, rfl⟩
    have gw : W4.grownBy ((((W4.setCell ⟨w.heap.size, 0, none⟩ (.int .i64 3)).setCell ⟨w.heap.size, 1, none⟩ (.int .i64 1)).setCell ⟨w.heap.size, 2, none⟩ (.slice none 0 0)).setCell ⟨w.heap.size, 3, none⟩ (.int .i64 0)) (some w.heap.size) := (grown_set (g := w.heap.size) (i := 3) (u := .int .i64 0) (grown_set (g := w.heap.size) (i := 2) (u := .slice none 0 0) (grown_set (g := w.heap.size) (i := 1) (u := .int .i64 1) (grown_set (g := w.heap.size) (i := 0) (u := .int .i64 3) (World.grownBy.refl _ _)))))
    have kw : Lies ((((W4.setCell ⟨w.heap.size, 0, none⟩ (.int .i64 3)).setCell ⟨w.heap.size, 1, none⟩ (.int .i64 1)).setCell ⟨w.heap.size, 2, none⟩ (.slice none 0 0)).setCell ⟨w.heap.size, 3, none⟩ (.int .i64 0)) w.heap.size 24 [.int .i64 3, .int .i64 1, .slice none 0 0, .int .i64 0] := K2.set 0 (.int .i64 3) |>.set 1 (.int .i64 1) |>.set 2 (.slice none 0 0) |>.set 3 (.int .i64 0)
    have BB := Lib.hid (bel_grow S4.bl gw (Nat.le_refl _) (Nat.le_refl _))
    rw [hW20] at kw BB
    have HW20 := Lib.hid hW20
    have HK := Lib.hid kw
    clear gw kw hW20 K2 K7 S4
    repeat (first | go_values | go_skip | go_guarded | go_step | go_upon | simp only [])
    rw [HW20.out]
    have LS := HK.out
    have x0 := LS.cell 0
    have x1 := LS.cell 1
    have x2 := LS.cell 2
    have x3 := LS.cell 3
    simp only [List.getElem?_cons_zero, List.getElem?_cons_succ] at x0 x1 x2 x3
    refine bodyPost_ret (v := .tuple #[.agg #[.int .i64 3, .int .i64 1, .slice none 0 0, .int .i64 0], .bool false]) (by simp [results, Tryd.results15, go_sem, x0, x1, x2, x3]) rfl ?_
    exact ⟨{ s := 3, c := 1, f := [], p := 0, A := none, cap := 0 }, false, rfl, HRD.out, ⟨rfl, by simp, .inl ⟨rfl, rfl⟩⟩, BB.out⟩
  · have hl1 : ¬ (40 : Int) < (s.size : Int) := by omega
    have hs40 : s.size ≤ 40 := by omega
    clear hlong
    have HSP := Lib.hid (fun W => l1Split_lies s 61 W (by omega))
    obtain ⟨ps, hps⟩ : ∃ l, splitL 61 (bl s) = l := ⟨_, rfl⟩
    have hpc := parts_count (b := 61) (n := 40) (by rw [bl_size]; exact hs40)
    have hpm := parts_short (b := 61) (n := 40) (by rw [bl_size]; exact hs40)
    rw [hps] at HSP hpc hpm
    have HPS := Lib.hid hps
    have Hps := Lib.hid hpm
    clear hps hpm
    obtain ⟨hp1, hp2⟩ := hpc
    go_enter Tryd.func15, Tryd.ntmps15
    go_upto_region 4 with fail
    generalize ((w.alloc (.cells #[.int .i64 0, .int .i64 0, .slice none 0 0, .int .i64 0] 24)).alloc (.cells #[.int .i64 3, .int .i64 1, .slice none 0 0, .int .i64 0] 24)) = W4 at S4 ⊢
    generalize w.heap.size + 1 = g4 at S4 ⊢
    have h4lt : g4 < W4.heap.size := S4.now.lt
    go_wp2_with fail
    refine (HSP.out W4).mono ?_
    rintro e w5 ⟨g5, c5, rest5, rfl, L5, hg5, hb5⟩
    have S5 := S4.below hb5
    have h45 : g4 < g5 := by omega
    clear S4 hb5 HSP h4lt hg5
    go_upto_region 5 with fail
    -- the price
    go_cut [21] (fun s21 wx => (∃ b : Bool, s21 = .bool b ∧ Hid (b = decide (ps.length = 2))) ∧ w5 = wx)
    case first =>
      have HS5 := Lib.hid S5
      clear S5
      by_cases h2 : ps.length = 2
      · have e2 : ((ps.length : Int) == 2) = true := by simp; omega
        go_wp2_with fail
        go_meet
        case rel => exact ⟨⟨true, rfl, by simp [h2, Hid]⟩, rfl⟩
      · have e2 : ((ps.length : Int) == 2) = false := by rw [beq_eq_false_iff_ne]; omega
        go_wp2_with fail
        go_meet
        case rel => exact ⟨⟨false, rfl, by simp [h2, Hid]⟩, rfl⟩
    case rest =>
      obtain ⟨⟨b2, rfl, hb2⟩, rfl⟩ := hcut
      go_upto_if 21 with fail
      go_cut [] (fun wx => PRd w wx g4 { s := 3, c := 1, f := [], p := if ps.length = 2 then numD (ps.getD 1 []) else 0, A := none, cap := 0 } (.slice none 0 0) ∧ Lies wx g5 9 (texts ps ++ rest5))
      case first =>
        cases b2
        case true =>
          have h2 : ps.length = 2 := by simpa using hb2.out.symm
          have c0 : w5.cell? ⟨g5, 1, none⟩ = some (.string ⟨(ps[1]'(by omega)).toArray⟩) := by
            rw [L5.cell]; exact texts_at2 ps _ _ (by omega)
          have ht := Hps.out (ps[1]'(by omega)) (List.getElem_mem _)
          obtain ⟨t1, hte⟩ : ∃ t : ByteArray, t = ⟨(ps[1]'(by omega)).toArray⟩ := ⟨_, rfl⟩
          have hbt1 : bl t1 = ps[1]'(by omega) := by rw [hte, bl_mk]
          rw [← hte] at c0
          have hzt1 : t1.size ≤ 40 := by rw [← bl_size, hbt1]; exact ht
          clear hte ht
          have hgd : ps.getD 1 [] = bl t1 := by rw [hbt1, List.getD_eq_getElem?_getD, List.getElem?_eq_getElem (by omega)]; rfl
          have HR := Lib.hid (fun W => l1Read_any t1 W (by omega))
          have HGD := Lib.hid hgd
          have HS5 := Lib.hid S5
          have HL5 := Lib.hid L5
          have hi1 : (1 : Int) < (ps.length : Int) := by omega
          have H2 := Lib.hid h2
          clear S5 L5 hbt1 hgd h2 hb2
          go_wp2_with fail
          refine (HR.out _).mono ?_
          rintro e w6 ⟨rfl, hb6⟩
          have S6 := HS5.out.below hb6
          have L6 := HL5.out.below hb6 HL5.out.lt
          clear HS5 HL5 hb6 c0 HR
          have K := S6.now
          have d0 := K.cell 0
          have d1 := K.cell 1
          have d2 := K.cell 2
          have d3 := K.cell 3
          simp only [List.getElem?_cons_zero, List.getElem?_cons_succ] at d0 d1 d2 d3
          have fd0 := K.frozen 0
          have fd1 := K.frozen 1
          have fd2 := K.frozen 2
          have fd3 := K.frozen 3
          have gw : w6.grownBy (w6.setCell ⟨g4, 3, none⟩ (.int .i64 (numD (bl t1)))) (some g4) := grown_set (World.grownBy.refl _ _)
          have kw := K.set 3 (.int .i64 (numD (bl t1)))
          have HS := Lib.hid (S6.put (y := { s := 3, c := 1, f := [], p := numD (bl t1), A := none, cap := 0 }) gw kw rfl)
          clear gw kw K
          have HL := Lib.hid (L6.kept (grown_set (g := g4) (i := 3) (u := .int .i64 (numD (bl t1))) (World.grownBy.refl _ _)) (by intro e; injection e; omega))
          clear L6
          go_wp2_with fail
          go_meet
          case rel => exact ⟨by rw [if_pos H2.out, HGD.out]; exact HS.out, HL.out⟩
        case false =>
          have H2 : Hid (¬ ps.length = 2) := by have := hb2.out.symm; simp at this; exact this
          have HS5 := Lib.hid S5
          have HL5 := Lib.hid L5
          clear S5 L5
          go_wp2_with fail
          go_meet
          case rel => exact ⟨by rw [if_neg H2.out]; exact HS5.out, HL5.out⟩
      case rest =>
        clear S5 L5 hb2
        obtain ⟨S5, L5⟩ := hcut
        generalize hprice : (if ps.length = 2 then numD (ps.getD 1 []) else 0) = price at S5
        have HPR := Lib.hid hprice
        clear hprice
        -- the faults
        have c0 : wc.cell? ⟨g5, 0, none⟩ = some (.string ⟨(ps[0]'(by omega)).toArray⟩) := by
          rw [L5.cell]; exact texts_at2 ps _ _ (by omega)
        have ht := Hps.out (ps[0]'(by omega)) (List.getElem_mem _)
        obtain ⟨t0, hte⟩ : ∃ t : ByteArray, t = ⟨(ps[0]'(by omega)).toArray⟩ := ⟨_, rfl⟩
        have hbt0 : bl t0 = ps[0]'(by omega) := by rw [hte, bl_mk]
        rw [← hte] at c0
        have hzt0 : t0.size ≤ 40 := by rw [← bl_size, hbt0]; exact ht
        clear hte ht
        have HH1 : Hid (ps.headD [] = bl t0) := by rw [hbt0]; exact head_at hp1
        have HSP := Lib.hid (fun W => l1Split_lies t0 33 W (by omega))
        obtain ⟨fs, hfs⟩ : ∃ l, splitL 33 (bl t0) = l := ⟨_, rfl⟩
        have hfc := parts_count (b := 33) (n := 40) (s := bl t0) (by rw [bl_size]; exact hzt0)
        have hfm := parts_short (b := 33) (n := 40) (s := bl t0) (by rw [bl_size]; exact hzt0)
        rw [hfs] at HSP hfc hfm
        have HFS := Lib.hid hfs
        have Hfs := Lib.hid hfm
        obtain ⟨hf1, hf2⟩ := hfc
        have hi0 : (0 : Int) < (ps.length : Int) := by omega
        have h4lt : g4 < wc.heap.size := S5.now.lt
        clear hfs hfm hbt0 hp2
        go_wp2_with fail
        refine (HSP.out _).mono ?_
        rintro e w6 ⟨g6, c6, rest6, rfl, L6, hg6, hb6⟩
        have HS6 := Lib.hid (S5.below hb6)
        have HL6 := Lib.hid L6
        have h46 : g4 < g6 := by omega
        clear S5 L5 L6 hb6 HSP c0 h4lt hg6
        go_wp2_with fail
        go_loopw [7, 8, 9] (fun i _ _ wr => ∃ (k : Nat) (gs : List Int) (v : Value), k + 1 ≤ fs.length ∧ i = .int .i64 ((k + 1 : Nat) : Int) ∧ gs.length = k ∧ Hid (PRd w wr g4 { s := 3, c := 1, f := gs, p := price, A := none, cap := 0 } v) ∧ Hid (Lies wr g6 9 (texts fs ++ rest6)) ∧ Hid (gs = (fs.tail.take k).map numD)) (fun i _ _ _ => fs.length + 1 - (intOf i).toNat)
        case atStart => exact ⟨0, [], _, by omega, rfl, rfl, HS6, HL6, by simp [Hid]⟩
        case round =>
          clear HS6 HL6
          obtain ⟨k, gs, v, hk, rfl, hgl, HS, HL, HF⟩ := hrel
          have HGL := Lib.hid hgl
          have hgl2 : gs.length ≤ 41 := by omega
          clear hgl
          by_cases hlt : k + 1 < fs.length
          · have hlt2 : ((k + 1 : Nat) : Int) < (fs.length : Int) := by omega
            have L6 := HL.out
            have c0 : wr.cell? ⟨g6, k + 1, none⟩ = some (.string ⟨(fs[k + 1]'(by omega)).toArray⟩) := by
              rw [L6.cell]; exact texts_at2 fs _ _ (by omega)
            have ht := Hfs.out (fs[k + 1]'(by omega)) (List.getElem_mem _)
            obtain ⟨t, hte⟩ : ∃ t : ByteArray, t = ⟨(fs[k + 1]'(by omega)).toArray⟩ := ⟨_, rfl⟩
            have hbt : bl t = fs[k + 1]'(by omega) := by rw [hte, bl_mk]
            rw [← hte] at c0
            have hzt : t.size ≤ 40 := by rw [← bl_size, hbt]; exact ht
            clear hte ht
            have HST : Hid (gs ++ [numD (bl t)] = (fs.tail.take (k + 1)).map numD) := by
              have h1 : fs.tail[k]? = some (bl t) := by rw [List.getElem?_tail, List.getElem?_eq_getElem (by omega), hbt]
              have h2 : fs.tail.take (k + 1) = fs.tail.take k ++ [bl t] := by rw [List.take_add_one, h1]; rfl
              rw [h2, List.map_append, ← HF.out]; rfl
            have HR := Lib.hid (fun W => l1Read_any t W (by omega))
            clear hbt HF hlt L6
            go_wp2_with fail
            refine (HR.out _).mono ?_
            rintro e w7 ⟨rfl, hb7⟩
            have S7 := HS.out.below hb7
            have HL7 := Lib.hid (HL.out.below hb7 HL.out.lt)
            have K7 := S7.now
            have d0 := K7.cell 0
            have d1 := K7.cell 1
            have d2 := K7.cell 2
            have d3 := K7.cell 3
            simp only [List.getElem?_cons_zero, List.getElem?_cons_succ] at d0 d1 d2 d3
            have fd0 := K7.frozen 0
            have fd1 := K7.frozen 1
            have fd2 := K7.frozen 2
            have fd3 := K7.frozen 3
            have HRW := Lib.hid S7.row
            have hz7 : w.heap.size ≤ w7.heap.size := S7.bl.size
            have HS7 := Lib.hid S7
            clear HS HL c0 S7 K7 HR hb7
            go_wp2_with (at_builtin; refine wpList_push (w0 := w7) rfl _ _ 22 rfl 3 (.int .i64 0) 1 8 Tryd.underlying22 infoI rfl (by omega) (by omega) w.heap.size _ _ _ rfl HRW #[.int .i64 (numD (bl t))] 1 _ rfl (by first | rfl | exact Array.size_push _) rfl (by simp [Value.oneCell']) (by omega) hz7 rfl rfl rfl rfl ?_; intro v8 w8 HO8 hg8 hb8; obtain ⟨A8, c8, hv8⟩ := ownsRow_slice HO8.out; subst hv8; have K8 := HS7.out.now.kept hg8 (ownsRow_far HRW.out HS7.out.now ne_int_ph); have e2 := K8.cell 2; have fe2 := K8.frozen 2; simp only [List.getElem?_cons_zero, List.getElem?_cons_succ] at e2)
            have HS8 := Lib.hid (HS7.out.push (y := { s := 3, c := 1, f := gs ++ [numD (bl t)], p := price, A := none, cap := 0 }) (n := numD (bl t)) HO8.out hg8 hb8 rfl rfl rfl rfl)
            have HL8 : Hid (Lies (w8.setCell ⟨g4, 2, none⟩ (.slice A8 (gs.length + 1) c8)) g6 9 (texts fs ++ rest6)) :=
              (HL7.out.kept hg8 (ownsRow_far HRW.out HL7.out (by decide))).kept (grown_set (g := g4) (World.grownBy.refl _ _)) (by intro e; injection e; omega)
            clear HS7 HL7 HO8 hg8 hb8 K8 HRW d0 d1 d2 d3 fd0 fd1 fd2 fd3 e2 fe2
            go_roundw
            case rel => exact ⟨k + 1, gs ++ [numD (bl t)], _, by omega, by go_num, by have := HGL.out; simp; omega, HS8, HL8, HST⟩
            case measure => simp [intOf] <;> omega
          · have hlt2 : ¬ ((k + 1 : Nat) : Int) < (fs.length : Int) := by omega
            have HFF : Hid (gs = fs.tail.map numD) := by
              have h1 := HF.out
              rw [List.take_of_length_le (by rw [List.length_tail]; omega)] at h1; exact h1
            have L6 := HL.out
            have c0 : wr.cell? ⟨g6, 0, none⟩ = some (.string ⟨(fs[0]'(by omega)).toArray⟩) := by
              rw [L6.cell]; exact texts_at2 fs _ _ (by omega)
            have ht := Hfs.out (fs[0]'(by omega)) (List.getElem_mem _)
            obtain ⟨u0, hte⟩ : ∃ t : ByteArray, t = ⟨(fs[0]'(by omega)).toArray⟩ := ⟨_, rfl⟩
            have hbu0 : bl u0 = fs[0]'(by omega) := by rw [hte, bl_mk]
            rw [← hte] at c0
            have hzu0 : u0.size ≤ 40 := by rw [← bl_size, hbu0]; exact ht
            clear hte ht
            have HH2 : Hid (fs.headD [] = bl u0) := by rw [hbu0]; exact head_at hf1
            have HSP := Lib.hid (fun W => l1Split_lies u0 40 W (by omega))
            obtain ⟨hs2, hhs⟩ : ∃ l, splitL 40 (bl u0) = l := ⟨_, rfl⟩
            have hhc := parts_count (b := 40) (n := 40) (s := bl u0) (by rw [bl_size]; exact hzu0)
            have hhm := parts_short (b := 40) (n := 40) (s := bl u0) (by rw [bl_size]; exact hzu0)
            rw [hhs] at HSP hhc hhm
            have HHS := Lib.hid hhs
            have Hhs2 := Lib.hid hhm
            obtain ⟨hh1, hh2⟩ := hhc
            have hi3 : (0 : Int) < (fs.length : Int) := by omega
            have h4lt : g4 < wr.heap.size := HS.out.now.lt
            have HK := Lib.hid hk
            clear hhs hhm hbu0 HF hlt hgl2 HGL L6
            go_wp2_with fail
            refine (HSP.out _).mono ?_
            rintro e w7 ⟨g7, c7, rest7, rfl, L7, hg7, hb7⟩
            have S7 := HS.out.below hb7
            have h47 : g4 < g7 := by omega
            clear HS HL hb7 HSP c0 h4lt hg7
            -- the state
            obtain ⟨sd, hsd⟩ : ∃ z : Int, (if hs2.headD [] = [42, 42] then (1 : Int) else 3) = z := ⟨_, rfl⟩
            obtain ⟨sd2, hsd2⟩ : ∃ z : Int, (if hs2.headD [] = [42] then (2 : Int) else sd) = z := ⟨_, rfl⟩
            have HSD := Lib.hid hsd
            have HSD2 := Lib.hid hsd2
            clear hsd hsd2
            have c0 : w7.cell? ⟨g7, 0, none⟩ = some (.string ⟨(hs2[0]'(by omega)).toArray⟩) := by
              rw [L7.cell]; exact texts_at2 hs2 _ _ (by omega)
            have ht := Hhs2.out (hs2[0]'(by omega)) (List.getElem_mem _)
            obtain ⟨v0, hte⟩ : ∃ t : ByteArray, t = ⟨(hs2[0]'(by omega)).toArray⟩ := ⟨_, rfl⟩
            have hbv0 : bl v0 = hs2[0]'(by omega) := by rw [hte, bl_mk]
            rw [← hte] at c0
            have hzv0 : v0.size ≤ 40 := by rw [← bl_size, hbv0]; exact ht
            clear hte ht
            have HV := Lib.hid (head_at hh1)
            rw [← hbv0] at HV
            obtain ⟨q2, hq2⟩ : ∃ b : Bool, (v0.toList == [42, 42]) = b := ⟨_, rfl⟩
            obtain ⟨q1, hq1⟩ : ∃ b : Bool, (v0.toList == [42]) = b := ⟨_, rfl⟩
            have HQ2 : Hid (q2 = decide (hs2.headD [] = [42, 42])) := by rw [Hid, ← hq2, HV.out, beq_lit]
            have HQ1 : Hid (q1 = decide (hs2.headD [] = [42])) := by rw [Hid, ← hq1, HV.out, beq_lit]
            have HVS : Hid (Value.string ⟨(hs2[0]'(by omega)).toArray⟩ = Value.string v0) := by rw [Hid, ← hbv0]; exact congrArg Value.string (bl_ext rfl).symm
            clear hbv0
            have hi4 : (0 : Int) < (hs2.length : Int) := by omega
            go_upto_if 61 with fail
            go_cut [] (fun wx => PRd w wx g4 { s := sd, c := 1, f := gs, p := price, A := none, cap := 0 } v ∧ Lies wx g7 9 (texts hs2 ++ rest7))
            case first =>
              have HL7 := Lib.hid L7
              cases q2
              case true =>
                have K := S7.now
                have d0 := K.cell 0
                have d1 := K.cell 1
                have d2 := K.cell 2
                have d3 := K.cell 3
                simp only [List.getElem?_cons_zero, List.getElem?_cons_succ] at d0 d1 d2 d3
                have fd0 := K.frozen 0
                have fd1 := K.frozen 1
                have fd2 := K.frozen 2
                have fd3 := K.frozen 3
                have gw : w7.grownBy (w7.setCell ⟨g4, 0, none⟩ (.int .i64 1)) (some g4) := grown_set (World.grownBy.refl _ _)
                have kw := K.set 0 (.int .i64 1)
                have HS := Lib.hid (S7.put (y := { s := 1, c := 1, f := gs, p := price, A := none, cap := 0 }) gw kw rfl)
                clear gw kw K
                have HL := Lib.hid (HL7.out.kept (grown_set (g := g4) (i := 0) (u := .int .i64 1) (World.grownBy.refl _ _)) (by intro e; injection e; omega))
                have HE : Hid (hs2.headD [] = [42, 42]) := by have := HQ2.out.symm; simp only [decide_eq_true_eq] at this; exact this
                clear L7 S7 hq1 HQ2
                go_wp2_with fail
                go_meet
                case rel => exact ⟨by rw [← HSD.out, if_pos HE.out]; exact HS.out, HL.out⟩
              case false =>
                have HS := Lib.hid S7
                have HE : Hid (¬ hs2.headD [] = [42, 42]) := by have := HQ2.out.symm; simp only [decide_eq_false_iff_not] at this; exact this
                clear L7 S7 hq1 HQ2
                go_wp2_with fail
                go_meet
                case rel => exact ⟨by rw [← HSD.out, if_neg HE.out]; exact HS.out, HL7.out⟩
            case rest =>
              clear S7 L7 c0
              obtain ⟨S7, L7⟩ := hcut
              have c0 : wc.cell? ⟨g7, 0, none⟩ = some (.string v0) := by
                rw [L7.cell]; exact (texts_at2 hs2 _ 0 (by omega)).trans (congrArg some HVS.out)
              go_upto_if 66 with fail
              go_cut [] (fun wx => PRd w wx g4 { s := sd2, c := 1, f := gs, p := price, A := none, cap := 0 } v ∧ Lies wx g7 9 (texts hs2 ++ rest7))
              case first =>
                have HL7 := Lib.hid L7
                cases q1
                case true =>
                  have K := S7.now
                  have d0 := K.cell 0
                  have d1 := K.cell 1
                  have d2 := K.cell 2
                  have d3 := K.cell 3
                  simp only [List.getElem?_cons_zero, List.getElem?_cons_succ] at d0 d1 d2 d3
                  have fd0 := K.frozen 0
                  have fd1 := K.frozen 1
                  have fd2 := K.frozen 2
                  have fd3 := K.frozen 3
                  have gw : wc.grownBy (wc.setCell ⟨g4, 0, none⟩ (.int .i64 2)) (some g4) := grown_set (World.grownBy.refl _ _)
                  have kw := K.set 0 (.int .i64 2)
                  have HS := Lib.hid (S7.put (y := { s := 2, c := 1, f := gs, p := price, A := none, cap := 0 }) gw kw rfl)
                  clear gw kw K
                  have HL := Lib.hid (HL7.out.kept (grown_set (g := g4) (i := 0) (u := .int .i64 2) (World.grownBy.refl _ _)) (by intro e; injection e; omega))
                  have HE : Hid (hs2.headD [] = [42]) := by have := HQ1.out.symm; simp only [decide_eq_true_eq] at this; exact this
                  clear L7 S7 HQ1 hq2
                  go_wp2_with fail
                  go_meet
                  case rel => exact ⟨by rw [← HSD2.out, if_pos HE.out]; exact HS.out, HL.out⟩
                case false =>
                  have HS := Lib.hid S7
                  have HE : Hid (¬ hs2.headD [] = [42]) := by have := HQ1.out.symm; simp only [decide_eq_false_iff_not] at this; exact this
                  clear L7 S7 HQ1 hq2
                  go_wp2_with fail
                  go_meet
                  case rel => exact ⟨by rw [← HSD2.out, if_neg HE.out]; exact HS.out, HL7.out⟩
              case rest =>
                clear S7 L7 c0 hq1 hq2 HQ1 HQ2
                obtain ⟨S7, L7⟩ := hcut
                -- the copies
                have h0l : hs2.length - 1 < hs2.length := by omega
                have c0 : wc.cell? ⟨g7, hs2.length - 1, none⟩ = some (.string ⟨(hs2[hs2.length - 1]'h0l).toArray⟩) := by
                  rw [L7.cell]; exact texts_at2 hs2 _ _ h0l
                have ht := Hhs2.out (hs2[hs2.length - 1]'h0l) (List.getElem_mem _)
                obtain ⟨z1, hte⟩ : ∃ t : ByteArray, t = ⟨(hs2[hs2.length - 1]'h0l).toArray⟩ := ⟨_, rfl⟩
                have hbz1 : bl z1 = hs2[hs2.length - 1]'h0l := by rw [hte, bl_mk]
                rw [← hte] at c0
                have hzz1 : z1.size ≤ 40 := by rw [← bl_size, hbz1]; exact ht
                clear hte ht
                have HLA := Lib.hid (last_at hh1)
                rw [← hbz1] at HLA
                have hw9 : IntKind.i64.wrap ((hs2.length : Int) - 1) = ((hs2.length - 1 : Nat) : Int) := by rw [IntWalk.i64_in _ (by omega)]; omega
                have hi5 : ((hs2.length - 1 : Nat) : Int) < (hs2.length : Int) := by omega
                have hi6 : (0 : Int) ≤ ((hs2.length - 1 : Nat) : Int) := by omega
                have HVZ : Hid (hs2[hs2.length - 1]'h0l = bl z1) := hbz1.symm
                clear hbz1
                go_upto_region 19 with fail
                go_cut [81] (fun s81 wx => (∃ b : Bool, s81 = .bool b ∧ Hid (b = decide (hs2.length = 2 ∧ 1 < z1.size))) ∧ wc = wx)
                case first =>
                  have HS7 := Lib.hid S7
                  have HL7 := Lib.hid L7
                  clear S7 L7 c0
                  by_cases h2 : hs2.length = 2
                  · have e2 : ((hs2.length : Int) == 2) = true := by simp; omega
                    have H2 := Lib.hid h2
                    clear h2
                    by_cases hn1 : 1 < z1.size
                    · have e3 : (1 : Int) < (z1.size : Int) := by omega
                      have HN := Lib.hid hn1
                      go_wp2_with fail
                      go_meet
                      case rel => exact ⟨⟨true, rfl, by rw [Hid]; simp [H2.out, HN.out]⟩, rfl⟩
                    · have e3 : ¬ (1 : Int) < (z1.size : Int) := by omega
                      have HN := Lib.hid hn1
                      go_wp2_with fail
                      go_meet
                      case rel => exact ⟨⟨false, rfl, by rw [Hid]; simp [HN.out]⟩, rfl⟩
                  · have e2 : ((hs2.length : Int) == 2) = false := by rw [beq_eq_false_iff_ne]; omega
                    have H2 := Lib.hid h2
                    clear h2
                    go_wp2_with fail
                    go_meet
                    case rel => exact ⟨⟨false, rfl, by rw [Hid]; simp [H2.out]⟩, rfl⟩
                case rest =>
                  obtain ⟨⟨b3, rfl, hb3⟩, rfl⟩ := hcut
                  go_upto_if 81 with fail
                  go_cut [] (fun wx => PRd w wx g4 { s := sd2, c := if hs2.length = 2 ∧ 1 < z1.size then numD ((bl z1).take (z1.size - 1)) else 1, f := gs, p := price, A := none, cap := 0 } v)
                  case first =>
                    cases b3
                    case true =>
                      have h2 := hb3.out.symm
                      simp only [decide_eq_true_eq] at h2
                      obtain ⟨h2, hn1⟩ := h2
                      have c1 : wc.cell? ⟨g7, 1, none⟩ = some (.string z1) := by
                        rw [L7.cell]
                        refine (texts_at2 hs2 _ 1 (by omega)).trans (congrArg some ?_)
                        have e9 : hs2[1]'(by omega) = bl z1 := by rw [← HVZ.out]; congr 1; omega
                        rw [e9]; exact congrArg Value.string (bl_ext rfl).symm
                      have hi7 : (1 : Int) < (hs2.length : Int) := by omega
                      have hw8 : IntKind.i64.wrap ((z1.size : Int) - 1) = ((z1.size - 1 : Nat) : Int) := by rw [IntWalk.i64_in _ (by omega)]; omega
                      have hi8 : ((z1.size - 1 : Nat) : Int) ≤ (z1.size : Int) := by omega
                      have hi9 : (0 : Int) ≤ ((z1.size - 1 : Nat) : Int) := by omega
                      obtain ⟨z2, hz2⟩ : ∃ x, z1.extract 0 (z1.size - 1) = x := ⟨_, rfl⟩
                      have hbz2 : bl z2 = (bl z1).take (z1.size - 1) := by rw [← hz2, bl_extract]; simp
                      have hzz2 : z2.size ≤ 40 := by rw [← bl_size, hbz2, List.length_take, bl_size]; omega
                      have HR := Lib.hid (fun W => l1Read_any z2 W (by omega))
                      have HBZ := Lib.hid hbz2
                      have HN := Lib.hid (And.intro h2 hn1)
                      have HS7 := Lib.hid S7
                      clear S7 L7 c0 h2 hn1 hbz2 hb3
                      go_wp2_with fail
                      refine (HR.out _).mono ?_
                      rintro e w8 ⟨rfl, hb8⟩
                      have S8 := HS7.out.below hb8
                      clear HS7 hb8 c1 HR
                      have K := S8.now
                      have d0 := K.cell 0
                      have d1 := K.cell 1
                      have d2 := K.cell 2
                      have d3 := K.cell 3
                      simp only [List.getElem?_cons_zero, List.getElem?_cons_succ] at d0 d1 d2 d3
                      have fd0 := K.frozen 0
                      have fd1 := K.frozen 1
                      have fd2 := K.frozen 2
                      have fd3 := K.frozen 3
                      have gw : w8.grownBy (w8.setCell ⟨g4, 1, none⟩ (.int .i64 (numD (bl z2)))) (some g4) := grown_set (World.grownBy.refl _ _)
                      have kw := K.set 1 (.int .i64 (numD (bl z2)))
                      have HS := Lib.hid (S8.put (y := { s := sd2, c := numD (bl z2), f := gs, p := price, A := none, cap := 0 }) gw kw rfl)
                      clear gw kw K
                      go_wp2_with fail
                      go_meet
                      case rel => rw [if_pos HN.out, ← HBZ.out]; exact HS.out
                    case false =>
                      have HN : Hid (¬ (hs2.length = 2 ∧ 1 < z1.size)) := by have := hb3.out.symm; simp only [decide_eq_false_iff_not] at this; exact this
                      have HS7 := Lib.hid S7
                      clear S7 L7 c0 hb3
                      go_wp2_with fail
                      go_meet
                      case rel => rw [if_neg HN.out]; exact HS7.out
                  case rest =>
                    clear S7 L7 c0 hb3
                    generalize hcop : (if hs2.length = 2 ∧ 1 < z1.size then numD ((bl z1).take (z1.size - 1)) else 1) = cop at hcut
                    have HCOP := Lib.hid hcop
                    clear hcop
                    have S10 := hcut
                    obtain ⟨A, cc, hv⟩ := ownsRow_slice S10.row
                    subst hv
                    obtain ⟨X, hX⟩ : ∃ X : Ph, X = { s := sd2, c := cop, f := gs, p := price, A := A, cap := cc } := ⟨_, rfl⟩
                    have HPD : Hid (specD (bl s) = X.ph) := by
                      rw [hX]
                      exact specD_is HPS.out HPR.out HH1.out HFS.out HFF.out HH2.out HHS.out HSD.out HSD2.out HLA.out (bl_size z1) HCOP.out
                    have S : PRd w wc g4 X (.slice X.A X.f.length X.cap) := by rw [hX]; exact ⟨S10.bl, S10.lw, S10.out, S10.now, S10.row, S10.hg⟩
                    clear hcut S10 hX HPR HH1 HFS HFF HH2 HHS HSD HSD2 HLA HCOP HPS HVZ HV HVS Hps Hfs Hhs2
                    have HLW := Lib.hid S.now_lw
                    have HXR : Hid (IntsR wc wc.heap.size X.A X.f) := (OwnS.of S.row).reads
                    have K := S.now
                    have HSX := Lib.hid S
                    have hg24 : w.heap.size < g4 := S.hg
                    clear S
                    go_upto_region 21 with fail
                    cases hok : X.ok with
                    | false =>
                      have HRD : Hid (readD (bl s) = none) := by
                        rw [readD_spec, HPD.out, if_neg (by rw [← ok_okD, hok]; simp)]; rfl
                      refine wp_region_factsR (Sw 9 (fun W9 => Below wc.heap.size wc W9) (fun W9 => wc.grownBy W9 (some w.heap.size) ∧ Lies W9 w.heap.size 24 [.int .i64 X.s, .int .i64 X.c, .slice X.A X.f.length X.cap, .int .i64 X.p])) (fun i w1 w2 => i ∉ [9] → Below w1.heap.size w1 w2) (by kernel_rfl) (by kernel_rfl) (by kernel_rfl) (Sw.start (Below.refl _ _).drew) ?_
                      simp only [fillOps, Act.put, List.setIfInBounds_toArray, List.set_cons_zero, List.set_cons_succ, Nat.zero_add, Nat.reduceAdd]
                      apply wpFactsR_val
                      case h1 =>
                        intro vs L9 w9 hG9 hC9 hB K9 hK9
                        replace hC9 := hC9.before hG9 (by kernel_rfl)
                        have q0 : w9.cell? ⟨g4, 0, none⟩ = some (.int .i64 X.s) := (K.below hC9 K.lt).cell 0
                        have q1 : w9.cell? ⟨g4, 1, none⟩ = some (.int .i64 X.c) := (K.below hC9 K.lt).cell 1
                        have q2 : w9.cell? ⟨g4, 2, none⟩ = some (.slice X.A X.f.length X.cap) := (K.below hC9 K.lt).cell 2
                        have q3 : w9.cell? ⟨g4, 3, none⟩ = some (.int .i64 X.p) := (K.below hC9 K.lt).cell 3
                        simp only [Act.put, List.setIfInBounds_toArray, List.set_cons_zero, List.set_cons_succ] at hK9
                        go_simp
                        exact hK9 _ _ rfl (Sw.stay hG9 (by kernel_rfl) (by decide) hC9) (fun _ => Below.refl _ _)
                      apply wpFactsR_val
                      case h1 =>
                        intro vs L9 w9 hG9 hC9 hB K9 hK9
                        replace hC9 := hC9.before hG9 (by kernel_rfl)
                        have q0 : w9.cell? ⟨g4, 0, none⟩ = some (.int .i64 X.s) := (K.below hC9 K.lt).cell 0
                        have q1 : w9.cell? ⟨g4, 1, none⟩ = some (.int .i64 X.c) := (K.below hC9 K.lt).cell 1
                        have q2 : w9.cell? ⟨g4, 2, none⟩ = some (.slice X.A X.f.length X.cap) := (K.below hC9 K.lt).cell 2
                        have q3 : w9.cell? ⟨g4, 3, none⟩ = some (.int .i64 X.p) := (K.below hC9 K.lt).cell 3
                        simp only [Act.put, List.setIfInBounds_toArray, List.set_cons_zero, List.set_cons_succ] at hK9
                        go_simp
                        exact hK9 _ _ rfl (Sw.stay hG9 (by kernel_rfl) (by decide) hC9) (fun _ => Below.refl _ _)
                      refine wpFactsR_val (.bool false) (fun vs L9 w9 hG9 hC9 hB K9 hK9 => ?_) ?_
                      next =>
                        replace hC9 := hC9.before hG9 (by kernel_rfl)
                        have d1 := FactN.eq (hB 1 _ (by kernel_rfl) (by kernel_rfl) rfl (by decide))
                        simp only [d1] at hK9 ⊢
                        go_simp
                        refine (l30One_any X w9 (SlcR.below HXR.out hC9 |>.mono hC9.size)).mono ?_
                        rintro en w8 ⟨rfl, hb8⟩
                        rw [hok]
                        exact hK9 _ _ rfl (Sw.stay hG9 (by kernel_rfl) (by decide) (bthen hC9 hb8)) (fun _ => hb8)
                      apply wpFactsR_val
                      case h1 =>
                        intro vs L9 w9 hG9 hC9 hB K9 hK9
                        replace hC9 := hC9.before hG9 (by kernel_rfl)
                        have d2 := FactN.eq (hB 2 _ (by kernel_rfl) (by kernel_rfl) rfl (by decide))
                        simp only [d2] at hK9 ⊢
                        simp only [Act.put, List.setIfInBounds_toArray, List.set_cons_zero, List.set_cons_succ] at hK9
                        go_simp
                        exact hK9 _ _ rfl (Sw.stay hG9 (by kernel_rfl) (by decide) hC9) (fun _ => Below.refl _ _)
                      refine wpFactsR_val (undef) (fun vs L9 w9 hG9 hC9 hB K9 hK9 => ?_) ?_
                      next =>
                        replace hC9 := hC9.before hG9 (by kernel_rfl)
                        have d3 := FactN.eq (hB 3 _ (by kernel_rfl) (by kernel_rfl) rfl (by decide))
                        simp only [d3] at hK9 ⊢
                        go_simp
                        exact hK9 _ _ rfl (Sw.stay hG9 (by kernel_rfl) (by decide) hC9) (fun _ => Below.refl _ _)
                      refine wpFactsR_val (undef) (fun vs L9 w9 hG9 hC9 hB K9 hK9 => ?_) ?_
                      next =>
                        replace hC9 := hC9.before hG9 (by kernel_rfl)
                        have d4 := FactN.eq (hB 4 _ (by kernel_rfl) (by kernel_rfl) rfl (by decide))
                        have d3 := FactN.eq (hB 3 _ (by kernel_rfl) (by kernel_rfl) rfl (by decide))
                        simp only [d4, d3] at hK9 ⊢
                        go_simp
                        exact hK9 _ _ rfl (Sw.stay hG9 (by kernel_rfl) (by decide) hC9) (fun _ => Below.refl _ _)
                      refine wpFactsR_val (undef) (fun vs L9 w9 hG9 hC9 hB K9 hK9 => ?_) ?_
                      next =>
                        have d3 := FactN.eq (hB 3 _ (by kernel_rfl) (by kernel_rfl) rfl (by decide))
                        simp only [d3] at hK9 ⊢
                        have HC9 := Lib.hid hC9
                        clear hC9
                        go_simp
                        exact hK9 _ _ rfl (Sw.both (by decide) (fun h => h) (fun h => h) HC9.out) (fun _ => Below.refl _ _)
                      refine wpFactsR_val (undef) (fun vs L9 w9 hG9 hC9 hB K9 hK9 => ?_) ?_
                      next =>
                        have d5 := FactN.eq (hB 5 _ (by kernel_rfl) (by kernel_rfl) rfl (by decide))
                        have d6 := FactN.eq (hB 6 _ (by kernel_rfl) (by kernel_rfl) rfl (by decide))
                        have d3 := FactN.eq (hB 3 _ (by kernel_rfl) (by kernel_rfl) rfl (by decide))
                        simp only [d5, d6, d3] at hK9 ⊢
                        have HC9 := Lib.hid hC9
                        clear hC9
                        go_simp
                        exact hK9 _ _ rfl (Sw.both (by decide) (fun h => h) (fun h => h) HC9.out) (fun _ => Below.refl _ _)
                      apply wpFactsR_val
                      case h1 =>
                        intro vs L9 w9 hG9 hC9 hB K9 hK9
                        have d3 := FactN.eq (hB 3 _ (by kernel_rfl) (by kernel_rfl) rfl (by decide))
                        have d7 := FactN.eq (hB 7 _ (by kernel_rfl) (by kernel_rfl) rfl (by decide))
                        simp only [d3, d7] at hK9 ⊢
                        simp only [Act.put, List.setIfInBounds_toArray, List.set_cons_zero, List.set_cons_succ] at hK9
                        have HC9 := Lib.hid hC9
                        clear hC9
                        go_simp
                        exact hK9 _ _ rfl (Sw.both (by decide) (fun h => h) (fun h => h) HC9.out) (fun _ => Below.refl _ _)
                      refine wpFactsR_val (undef) (fun vs L9 w9 hG9 hC9 hB K9 hK9 => ?_) ?_
                      next =>
                        replace hC9 := hC9.here hG9
                        have d0 := FactN.eq (hB 0 _ (by kernel_rfl) (by kernel_rfl) rfl (by decide))
                        simp only [d0] at hK9 ⊢
                        have KO := HSX.out.out.below hC9 HSX.out.out.lt
                        have y0 := KO.cell 0
                        have y1 := KO.cell 1
                        have y2 := KO.cell 2
                        have y3 := KO.cell 3
                        simp only [List.getElem?_cons_zero, List.getElem?_cons_succ] at y0 y1 y2 y3
                        have f0 := KO.frozen 0
                        have f1 := KO.frozen 1
                        have f2 := KO.frozen 2
                        have f3 := KO.frozen 3
                        have hG8 := Lib.hid (grown_trans (grownB hC9 (some w.heap.size)) (grown_set (g := w.heap.size) (i := 3) (u := .int .i64 X.p) (grown_set (g := w.heap.size) (i := 2) (u := .slice X.A X.f.length X.cap) (grown_set (g := w.heap.size) (i := 1) (u := .int .i64 X.c) (grown_set (g := w.heap.size) (i := 0) (u := .int .i64 X.s) (World.grownBy.refl _ _))))))
                        have hN8 := Lib.hid (show Lies _ w.heap.size 24 [.int .i64 X.s, .int .i64 X.c, .slice X.A X.f.length X.cap, .int .i64 X.p] from ((((KO.set 0 (.int .i64 X.s)).set 1 (.int .i64 X.c)).set 2 (.slice X.A X.f.length X.cap)).set 3 (.int .i64 X.p)))
                        clear KO
                        go_simp
                        exact hK9 _ _ rfl (Sw.turn ⟨hG8.out, hN8.out⟩) (fun hq => (hq (by decide)).elim)
                      apply wpFactsR_val
                      case h1 =>
                        intro vs L9 w9 hG9 hC9 hB K9 hK9
                        replace hC9 := hC9.after hG9 (by kernel_rfl)
                        have d8 := FactN.eq (hB 8 _ (by kernel_rfl) (by kernel_rfl) rfl (by decide))
                        simp only [d8] at hK9 ⊢
                        simp only [Act.put, List.setIfInBounds_toArray, List.set_cons_zero, List.set_cons_succ] at hK9
                        go_simp
                        exact hK9 _ _ rfl (Sw.on hG9 (by kernel_rfl) hC9) (fun _ => Below.refl _ _)
                      refine wpFactsR_nil fun vs L9 w9 hL9 hC9 hB => ?_
                      replace hC9 := hC9.done hL9 (by decide)
                      obtain ⟨hG, LS⟩ := hC9
                      have d10 := FactN.eq (hB 10 _ rfl rfl (by decide))
                      simp only [d10]
                      have OO := Lib.hid ((OwnS.of HSX.out.row).ne hG ((OwnS.of HSX.out.row).off HSX.out.out ne_int_ph))
                      have BB := Lib.hid (bel_grow HSX.out.bl hG (Nat.le_refl _) (Nat.le_refl _))
                      have HLS := Lib.hid LS
                      clear hB hL9 d10 hG LS K
                      repeat (first | go_values | go_skip | go_guarded | go_step | go_upon | simp only [])
                      have LS := HLS.out
                      have x0 := LS.cell 0
                      have x1 := LS.cell 1
                      have x2 := LS.cell 2
                      have x3 := LS.cell 3
                      simp only [List.getElem?_cons_zero, List.getElem?_cons_succ] at x0 x1 x2 x3
                      refine bodyPost_ret (v := .tuple #[.agg #[.int .i64 X.s, .int .i64 X.c, .slice X.A X.f.length X.cap, .int .i64 X.p], .bool false]) (by simp [results, Tryd.results15, go_sem, x0, x1, x2, x3]) rfl ?_
                      exact ⟨X, false, rfl, HRD.out, OO.out, BB.out⟩
                    | true =>
                      have HOK := Lib.hid hok
                      have HSH := Lib.hid (fun W (h : IntsR W W.heap.size X.A X.f) => l30Short_any X W h HOK.out)
                      obtain ⟨sx, hsx⟩ : ∃ x : ByteArray, x = ⟨(shortT X).toArray⟩ := ⟨_, rfl⟩
                      have hbx : bl sx = shortD X.ph := by rw [hsx, bl_mk]; rfl
                      rw [← hsx] at HSH
                      clear hsx
                      obtain ⟨q, hq⟩ : ∃ b : Bool, (sx.toList == s.toList) = b := ⟨_, rfl⟩
                      have HRD : Hid (readD (bl s) = if q = true then some X.ph else none) := by
                        rw [← hq, str_beqL, hbx, readD_spec, HPD.out]
                        by_cases h : shortD X.ph = bl s
                        · rw [if_pos ⟨HOK.out, h⟩, decide_eq_true h]; rfl
                        · rw [if_neg (fun h2 => h h2.2), decide_eq_false h]; rfl
                      clear hbx
                      refine wp_region_factsR (Sw 9 (fun W9 => Below wc.heap.size wc W9) (fun W9 => wc.grownBy W9 (some w.heap.size) ∧ Lies W9 w.heap.size 24 [.int .i64 X.s, .int .i64 X.c, .slice X.A X.f.length X.cap, .int .i64 X.p])) (fun i w1 w2 => i ∉ [9] → Below w1.heap.size w1 w2) (by kernel_rfl) (by kernel_rfl) (by kernel_rfl) (Sw.start (Below.refl _ _).drew) ?_
                      simp only [fillOps, Act.put, List.setIfInBounds_toArray, List.set_cons_zero, List.set_cons_succ, Nat.zero_add, Nat.reduceAdd]
                      apply wpFactsR_val
                      case h1 =>
                        intro vs L9 w9 hG9 hC9 hB K9 hK9
                        replace hC9 := hC9.before hG9 (by kernel_rfl)
                        have q0 : w9.cell? ⟨g4, 0, none⟩ = some (.int .i64 X.s) := (K.below hC9 K.lt).cell 0
                        have q1 : w9.cell? ⟨g4, 1, none⟩ = some (.int .i64 X.c) := (K.below hC9 K.lt).cell 1
                        have q2 : w9.cell? ⟨g4, 2, none⟩ = some (.slice X.A X.f.length X.cap) := (K.below hC9 K.lt).cell 2
                        have q3 : w9.cell? ⟨g4, 3, none⟩ = some (.int .i64 X.p) := (K.below hC9 K.lt).cell 3
                        simp only [Act.put, List.setIfInBounds_toArray, List.set_cons_zero, List.set_cons_succ] at hK9
                        go_simp
                        exact hK9 _ _ rfl (Sw.stay hG9 (by kernel_rfl) (by decide) hC9) (fun _ => Below.refl _ _)
                      apply wpFactsR_val
                      case h1 =>
                        intro vs L9 w9 hG9 hC9 hB K9 hK9
                        replace hC9 := hC9.before hG9 (by kernel_rfl)
                        have q0 : w9.cell? ⟨g4, 0, none⟩ = some (.int .i64 X.s) := (K.below hC9 K.lt).cell 0
                        have q1 : w9.cell? ⟨g4, 1, none⟩ = some (.int .i64 X.c) := (K.below hC9 K.lt).cell 1
                        have q2 : w9.cell? ⟨g4, 2, none⟩ = some (.slice X.A X.f.length X.cap) := (K.below hC9 K.lt).cell 2
                        have q3 : w9.cell? ⟨g4, 3, none⟩ = some (.int .i64 X.p) := (K.below hC9 K.lt).cell 3
                        simp only [Act.put, List.setIfInBounds_toArray, List.set_cons_zero, List.set_cons_succ] at hK9
                        go_simp
                        exact hK9 _ _ rfl (Sw.stay hG9 (by kernel_rfl) (by decide) hC9) (fun _ => Below.refl _ _)
                      refine wpFactsR_val (.bool true) (fun vs L9 w9 hG9 hC9 hB K9 hK9 => ?_) ?_
                      next =>
                        replace hC9 := hC9.before hG9 (by kernel_rfl)
                        have d1 := FactN.eq (hB 1 _ (by kernel_rfl) (by kernel_rfl) rfl (by decide))
                        simp only [d1] at hK9 ⊢
                        go_simp
                        refine (l30One_any X w9 (SlcR.below HXR.out hC9 |>.mono hC9.size)).mono ?_
                        rintro en w8 ⟨rfl, hb8⟩
                        rw [hok]
                        exact hK9 _ _ rfl (Sw.stay hG9 (by kernel_rfl) (by decide) (bthen hC9 hb8)) (fun _ => hb8)
                      apply wpFactsR_val
                      case h1 =>
                        intro vs L9 w9 hG9 hC9 hB K9 hK9
                        replace hC9 := hC9.before hG9 (by kernel_rfl)
                        have d2 := FactN.eq (hB 2 _ (by kernel_rfl) (by kernel_rfl) rfl (by decide))
                        simp only [d2] at hK9 ⊢
                        simp only [Act.put, List.setIfInBounds_toArray, List.set_cons_zero, List.set_cons_succ] at hK9
                        go_simp
                        exact hK9 _ _ rfl (Sw.stay hG9 (by kernel_rfl) (by decide) hC9) (fun _ => Below.refl _ _)
                      apply wpFactsR_val
                      case h1 =>
                        intro vs L9 w9 hG9 hC9 hB K9 hK9
                        replace hC9 := hC9.before hG9 (by kernel_rfl)
                        have d3 := FactN.eq (hB 3 _ (by kernel_rfl) (by kernel_rfl) rfl (by decide))
                        simp only [d3] at hK9 ⊢
                        have q0 : w9.cell? ⟨g4, 0, none⟩ = some (.int .i64 X.s) := (K.below hC9 K.lt).cell 0
                        have q1 : w9.cell? ⟨g4, 1, none⟩ = some (.int .i64 X.c) := (K.below hC9 K.lt).cell 1
                        have q2 : w9.cell? ⟨g4, 2, none⟩ = some (.slice X.A X.f.length X.cap) := (K.below hC9 K.lt).cell 2
                        have q3 : w9.cell? ⟨g4, 3, none⟩ = some (.int .i64 X.p) := (K.below hC9 K.lt).cell 3
                        simp only [Act.put, List.setIfInBounds_toArray, List.set_cons_zero, List.set_cons_succ] at hK9
                        go_simp
                        exact hK9 _ _ rfl (Sw.stay hG9 (by kernel_rfl) (by decide) hC9) (fun _ => Below.refl _ _)
                      refine wpFactsR_val (.string sx) (fun vs L9 w9 hG9 hC9 hB K9 hK9 => ?_) ?_
                      next =>
                        replace hC9 := hC9.before hG9 (by kernel_rfl)
                        have d4 := FactN.eq (hB 4 _ (by kernel_rfl) (by kernel_rfl) rfl (by decide))
                        have d3 := FactN.eq (hB 3 _ (by kernel_rfl) (by kernel_rfl) rfl (by decide))
                        simp only [d4, d3] at hK9 ⊢
                        go_simp
                        refine (HSH.out w9 (SlcR.below HXR.out hC9 |>.mono hC9.size)).mono ?_
                        rintro en w8 ⟨rfl, hb8⟩
                        exact hK9 _ _ rfl (Sw.stay hG9 (by kernel_rfl) (by decide) (bthen hC9 hb8)) (fun _ => hb8)
                      apply wpFactsR_val
                      case h1 =>
                        intro vs L9 w9 hG9 hC9 hB K9 hK9
                        have d3 := FactN.eq (hB 3 _ (by kernel_rfl) (by kernel_rfl) rfl (by decide))
                        simp only [d3] at hK9 ⊢
                        simp only [Act.put, List.setIfInBounds_toArray, List.set_cons_zero, List.set_cons_succ] at hK9
                        have HC9 := Lib.hid hC9
                        clear hC9
                        go_simp
                        exact hK9 _ _ rfl (Sw.both (by decide) (fun h => h) (fun h => h) HC9.out) (fun _ => Below.refl _ _)
                      apply wpFactsR_val
                      case h1 =>
                        intro vs L9 w9 hG9 hC9 hB K9 hK9
                        have d5 := FactN.eq (hB 5 _ (by kernel_rfl) (by kernel_rfl) rfl (by decide))
                        have d6 := FactN.eq (hB 6 _ (by kernel_rfl) (by kernel_rfl) rfl (by decide))
                        have d3 := FactN.eq (hB 3 _ (by kernel_rfl) (by kernel_rfl) rfl (by decide))
                        simp only [d5, d6, d3] at hK9 ⊢
                        simp only [Act.put, List.setIfInBounds_toArray, List.set_cons_zero, List.set_cons_succ] at hK9
                        have HC9 := Lib.hid hC9
                        clear hC9
                        go_simp
                        exact hK9 _ _ rfl (Sw.both (by decide) (fun h => h) (fun h => h) HC9.out) (fun _ => Below.refl _ _)
                      apply wpFactsR_val
                      case h1 =>
                        intro vs L9 w9 hG9 hC9 hB K9 hK9
                        have d3 := FactN.eq (hB 3 _ (by kernel_rfl) (by kernel_rfl) rfl (by decide))
                        have d7 := FactN.eq (hB 7 _ (by kernel_rfl) (by kernel_rfl) rfl (by decide))
                        simp only [d3, d7] at hK9 ⊢
                        simp only [Act.put, List.setIfInBounds_toArray, List.set_cons_zero, List.set_cons_succ] at hK9
                        have HC9 := Lib.hid hC9
                        clear hC9
                        go_simp
                        exact hK9 _ _ rfl (Sw.both (by decide) (fun h => h) (fun h => h) HC9.out) (fun _ => Below.refl _ _)
                      refine wpFactsR_val (undef) (fun vs L9 w9 hG9 hC9 hB K9 hK9 => ?_) ?_
                      next =>
                        replace hC9 := hC9.here hG9
                        have d0 := FactN.eq (hB 0 _ (by kernel_rfl) (by kernel_rfl) rfl (by decide))
                        simp only [d0] at hK9 ⊢
                        have KO := HSX.out.out.below hC9 HSX.out.out.lt
                        have y0 := KO.cell 0
                        have y1 := KO.cell 1
                        have y2 := KO.cell 2
                        have y3 := KO.cell 3
                        simp only [List.getElem?_cons_zero, List.getElem?_cons_succ] at y0 y1 y2 y3
                        have f0 := KO.frozen 0
                        have f1 := KO.frozen 1
                        have f2 := KO.frozen 2
                        have f3 := KO.frozen 3
                        have hG8 := Lib.hid (grown_trans (grownB hC9 (some w.heap.size)) (grown_set (g := w.heap.size) (i := 3) (u := .int .i64 X.p) (grown_set (g := w.heap.size) (i := 2) (u := .slice X.A X.f.length X.cap) (grown_set (g := w.heap.size) (i := 1) (u := .int .i64 X.c) (grown_set (g := w.heap.size) (i := 0) (u := .int .i64 X.s) (World.grownBy.refl _ _))))))
                        have hN8 := Lib.hid (show Lies _ w.heap.size 24 [.int .i64 X.s, .int .i64 X.c, .slice X.A X.f.length X.cap, .int .i64 X.p] from ((((KO.set 0 (.int .i64 X.s)).set 1 (.int .i64 X.c)).set 2 (.slice X.A X.f.length X.cap)).set 3 (.int .i64 X.p)))
                        clear KO
                        go_simp
                        exact hK9 _ _ rfl (Sw.turn ⟨hG8.out, hN8.out⟩) (fun hq => (hq (by decide)).elim)
                      apply wpFactsR_val
                      case h1 =>
                        intro vs L9 w9 hG9 hC9 hB K9 hK9
                        replace hC9 := hC9.after hG9 (by kernel_rfl)
                        have d8 := FactN.eq (hB 8 _ (by kernel_rfl) (by kernel_rfl) rfl (by decide))
                        simp only [d8] at hK9 ⊢
                        simp only [Act.put, List.setIfInBounds_toArray, List.set_cons_zero, List.set_cons_succ] at hK9
                        go_simp
                        exact hK9 _ _ rfl (Sw.on hG9 (by kernel_rfl) hC9) (fun _ => Below.refl _ _)
                      refine wpFactsR_nil fun vs L9 w9 hL9 hC9 hB => ?_
                      replace hC9 := hC9.done hL9 (by decide)
                      obtain ⟨hG, LS⟩ := hC9
                      have d10 := FactN.eq (hB 10 _ rfl rfl (by decide))
                      simp only [d10]
                      have OO := Lib.hid ((OwnS.of HSX.out.row).ne hG ((OwnS.of HSX.out.row).off HSX.out.out ne_int_ph))
                      have BB := Lib.hid (bel_grow HSX.out.bl hG (Nat.le_refl _) (Nat.le_refl _))
                      have HLS := Lib.hid LS
                      clear hB hL9 d10 hG LS K
                      repeat (first | go_values | go_skip | go_guarded | go_step | go_upon | simp only [])
                      have LS := HLS.out
                      have x0 := LS.cell 0
                      have x1 := LS.cell 1
                      have x2 := LS.cell 2
                      have x3 := LS.cell 3
                      simp only [List.getElem?_cons_zero, List.getElem?_cons_succ] at x0 x1 x2 x3
                      refine bodyPost_ret (v := .tuple #[.agg #[.int .i64 X.s, .int .i64 X.c, .slice X.A X.f.length X.cap, .int .i64 X.p], .bool q]) (by simp [results, Tryd.results15, go_sem, x0, x1, x2, x3]) rfl ?_
                      exact ⟨X, q, rfl, HRD.out, OO.out, BB.out⟩
end Go.Proofs.YtchkjiadnackaaaDoor

/- ParsePhrase, in the program and in the reference. (Printed by gen_parsew.py) -/
namespace Go.Proofs.YtchkjiadnackaaaDoor
open Go.RowKit

/-- What ParsePhrase gives. -/
def GivesP (s : ByteArray) (w : World) (e : Ending) (w' : World) : Prop := ∃ (x : Ph) (ok : Bool), e = .returned (.tuple #[x.val, .bool ok]) ∧ readOf (bl s) = (x.ph, ok) ∧ OwnS w' w.heap.size 3 1 x.A x.f.length (encIs x.f) ∧ Below w.heap.size w w'

set_option maxHeartbeats 2000000 in
theorem implParse_any (s : ByteArray) (w : World) (hs : s.size ≤ 2000000) (hL : LW w) :
    Calls Tryd.prog 6 #[.string s] w (GivesP s w) := by
  have L2 := Lies.new w 24 #[.int .i64 0, .int .i64 0, .slice none 0 0, .int .i64 0]
  have b2 := (Below.refl w.heap.size w).alloc (Nat.le_refl _) (.cells #[.int .i64 0, .int .i64 0, .slice none 0 0, .int .i64 0] 24)
  have HP := Lib.hid (parsePhrase_any s (w.alloc (.cells #[.int .i64 0, .int .i64 0, .slice none 0 0, .int .i64 0] 24)) hs (hL.then b2))
  go_enter Tryd.func6, Tryd.ntmps6
  go_wp2_with fail
  refine HP.out.mono ?_
  rintro e w3 ⟨x, ok, rfl, hrd, ho, hb⟩
  have K2 := L2.below hb L2.lt
  have b3 := bthen b2 hb
  have ho3 := ho.lower (show w.heap.size ≤ _ from b2.size)
  have HRD := Lib.hid hrd
  have HO := Lib.hid ho3
  have HB := Lib.hid b3
  have HFAR := Lib.hid (ho3.off K2 ne_int_ph)
  clear hrd ho ho3 b3 hb b2 L2 HP
  have a0 := K2.cell 0
  have a1 := K2.cell 1
  have a2 := K2.cell 2
  have a3 := K2.cell 3
  simp only [List.getElem?_cons_zero, List.getElem?_cons_succ] at a0 a1 a2 a3
  have fa0 := K2.frozen 0
  have fa1 := K2.frozen 1
  have fa2 := K2.frozen 2
  have fa3 := K2.frozen 3
  obtain ⟨W20, hW20⟩ : ∃ W20, ((((w3.setCell ⟨w.heap.size, 0, none⟩ (.int .i64 x.s)).setCell ⟨w.heap.size, 1, none⟩ (.int .i64 x.c)).setCell ⟨w.heap.size, 2, none⟩ (.slice x.A x.f.length x.cap)).setCell ⟨w.heap.size, 3, none⟩ (.int .i64 x.p)) = W20 := ⟨_, rfl⟩
  have gw : w3.grownBy ((((w3.setCell ⟨w.heap.size, 0, none⟩ (.int .i64 x.s)).setCell ⟨w.heap.size, 1, none⟩ (.int .i64 x.c)).setCell ⟨w.heap.size, 2, none⟩ (.slice x.A x.f.length x.cap)).setCell ⟨w.heap.size, 3, none⟩ (.int .i64 x.p)) (some w.heap.size) := (grown_set (g := w.heap.size) (i := 3) (u := .int .i64 x.p) (grown_set (g := w.heap.size) (i := 2) (u := .slice x.A x.f.length x.cap) (grown_set (g := w.heap.size) (i := 1) (u := .int .i64 x.c) (grown_set (g := w.heap.size) (i := 0) (u := .int .i64 x.s) (World.grownBy.refl _ _)))))
  have kw : Lies ((((w3.setCell ⟨w.heap.size, 0, none⟩ (.int .i64 x.s)).setCell ⟨w.heap.size, 1, none⟩ (.int .i64 x.c)).setCell ⟨w.heap.size, 2, none⟩ (.slice x.A x.f.length x.cap)).setCell ⟨w.heap.size, 3, none⟩ (.int .i64 x.p)) w.heap.size 24 [.int .i64 x.s, .int .i64 x.c, .slice x.A x.f.length x.cap, .int .i64 x.p] := K2.set 0 (.int .i64 x.s) |>.set 1 (.int .i64 x.c) |>.set 2 (.slice x.A x.f.length x.cap) |>.set 3 (.int .i64 x.p)
  have BB := Lib.hid (bel_grow HB.out gw (Nat.le_refl _) (Nat.le_refl _))
  have OO := Lib.hid (HO.out.ne gw HFAR.out)
  rw [hW20] at kw BB OO
  have HW20 := Lib.hid hW20
  have HK := Lib.hid kw
  clear gw kw hW20 K2
  repeat (first | go_values | go_skip | go_guarded | go_step | go_upon | simp only [])
  rw [HW20.out]
  have LS := HK.out
  have x0 := LS.cell 0
  have x1 := LS.cell 1
  have x2 := LS.cell 2
  have x3 := LS.cell 3
  simp only [List.getElem?_cons_zero, List.getElem?_cons_succ] at x0 x1 x2 x3
  refine bodyPost_ret (v := .tuple #[.agg #[.int .i64 x.s, .int .i64 x.c, .slice x.A x.f.length x.cap, .int .i64 x.p], .bool ok]) (by simp [results, Tryd.results6, go_sem, x0, x1, x2, x3]) rfl ?_
  exact ⟨x, ok, rfl, HRD.out, OO.out, BB.out⟩

set_option maxHeartbeats 2000000 in
theorem specParse_any (s : ByteArray) (w : World) (hs : s.size ≤ 2000000) (hL : LW w) :
    Calls Tryd.prog 5 #[.string s] w (GivesP s w) := by
  have L2 := Lies.new w 24 #[.int .i64 0, .int .i64 0, .slice none 0 0, .int .i64 0]
  have b2 := (Below.refl w.heap.size w).alloc (Nat.le_refl _) (.cells #[.int .i64 0, .int .i64 0, .slice none 0 0, .int .i64 0] 24)
  have HP := Lib.hid (l30Read_any s (w.alloc (.cells #[.int .i64 0, .int .i64 0, .slice none 0 0, .int .i64 0] 24)) hs (hL.then b2))
  go_enter Tryd.func5, Tryd.ntmps5
  go_wp2_with fail
  refine HP.out.mono ?_
  rintro e w3 ⟨x, ok, rfl, hrd, ho, hb⟩
  have b3 := bthen b2 hb
  have ha := (Below.refl w3.heap.size w3).alloc (Nat.le_refl _) (.cells #[.int .i64 x.s, .int .i64 x.c, .slice x.A x.f.length x.cap, .int .i64 x.p] 24)
  have K2 := (L2.below hb L2.lt).alloc (.cells #[.int .i64 x.s, .int .i64 x.c, .slice x.A x.f.length x.cap, .int .i64 x.p] 24)
  have K4 := Lies.new w3 24 #[.int .i64 x.s, .int .i64 x.c, .slice x.A x.f.length x.cap, .int .i64 x.p]
  have ho3 := (ho.lower (show w.heap.size ≤ _ from b2.size)).then ha
  have HRD := Lib.hid hrd
  have HO := Lib.hid ho3
  have HB := Lib.hid (bthen b3 ha)
  have HFAR := Lib.hid (ho3.off K2 ne_int_ph)
  clear hrd ho ho3 b3 hb b2 L2 HP ha
  go_upto_region 2 with fail
  generalize w3.alloc (.cells #[.int .i64 x.s, .int .i64 x.c, .slice x.A x.f.length x.cap, .int .i64 x.p] 24) = W4 at K2 K4 HO HB HFAR ⊢
  generalize w3.heap.size = g4 at K4 ⊢
  have k0 := K4.cell 0
  have k1 := K4.cell 1
  have k2 := K4.cell 2
  have k3 := K4.cell 3
  simp only [List.getElem?_cons_zero, List.getElem?_cons_succ] at k0 k1 k2 k3
  cases ok
  case false =>
    have HRE : Hid (readOf (bl s) = ((0, 0, [], 0), false)) := by
      have h1 := HRD.out
      unfold readOf Hid
      rw [h1]; rfl
    have a0 := K2.cell 0
    have a1 := K2.cell 1
    have a2 := K2.cell 2
    have a3 := K2.cell 3
    simp only [List.getElem?_cons_zero, List.getElem?_cons_succ] at a0 a1 a2 a3
    have fa0 := K2.frozen 0
    have fa1 := K2.frozen 1
    have fa2 := K2.frozen 2
    have fa3 := K2.frozen 3
    obtain ⟨W20, hW20⟩ : ∃ W20, ((((W4.setCell ⟨w.heap.size, 0, none⟩ (.int .i64 0)).setCell ⟨w.heap.size, 1, none⟩ (.int .i64 0)).setCell ⟨w.heap.size, 2, none⟩ (.slice none 0 0)).setCell ⟨w.heap.size, 3, none⟩ (.int .i64 0)) = W20 := ⟨_, rfl⟩
    have gw : W4.grownBy ((((W4.setCell ⟨w.heap.size, 0, none⟩ (.int .i64 0)).setCell ⟨w.heap.size, 1, none⟩ (.int .i64 0)).setCell ⟨w.heap.size, 2, none⟩ (.slice none 0 0)).setCell ⟨w.heap.size, 3, none⟩ (.int .i64 0)) (some w.heap.size) := (grown_set (g := w.heap.size) (i := 3) (u := .int .i64 0) (grown_set (g := w.heap.size) (i := 2) (u := .slice none 0 0) (grown_set (g := w.heap.size) (i := 1) (u := .int .i64 0) (grown_set (g := w.heap.size) (i := 0) (u := .int .i64 0) (World.grownBy.refl _ _)))))
    have kw : Lies ((((W4.setCell ⟨w.heap.size, 0, none⟩ (.int .i64 0)).setCell ⟨w.heap.size, 1, none⟩ (.int .i64 0)).setCell ⟨w.heap.size, 2, none⟩ (.slice none 0 0)).setCell ⟨w.heap.size, 3, none⟩ (.int .i64 0)) w.heap.size 24 [.int .i64 0, .int .i64 0, .slice none 0 0, .int .i64 0] := K2.set 0 (.int .i64 0) |>.set 1 (.int .i64 0) |>.set 2 (.slice none 0 0) |>.set 3 (.int .i64 0)
    have BB := Lib.hid (bel_grow HB.out gw (Nat.le_refl _) (Nat.le_refl _))
    have OO := Lib.hid ((⟨rfl, by simp, .inl ⟨rfl, rfl⟩⟩ : OwnS ((((W4.setCell ⟨w.heap.size, 0, none⟩ (.int .i64 0)).setCell ⟨w.heap.size, 1, none⟩ (.int .i64 0)).setCell ⟨w.heap.size, 2, none⟩ (.slice none 0 0)).setCell ⟨w.heap.size, 3, none⟩ (.int .i64 0)) w.heap.size 3 1 none 0 []))
    rw [hW20] at kw BB OO
    have HW20 := Lib.hid hW20
    have HK := Lib.hid kw
    clear gw kw hW20 K2
    repeat (first | go_values | go_skip | go_guarded | go_step | go_upon | simp only [])
    rw [HW20.out]
    have LS := HK.out
    have x0 := LS.cell 0
    have x1 := LS.cell 1
    have x2 := LS.cell 2
    have x3 := LS.cell 3
    simp only [List.getElem?_cons_zero, List.getElem?_cons_succ] at x0 x1 x2 x3
    refine bodyPost_ret (v := .tuple #[.agg #[.int .i64 0, .int .i64 0, .slice none 0 0, .int .i64 0], .bool false]) (by simp [results, Tryd.results5, go_sem, x0, x1, x2, x3]) rfl ?_
    exact ⟨{ s := 0, c := 0, f := [], p := 0, A := none, cap := 0 }, false, rfl, HRE.out, OO.out, BB.out⟩
  case true =>
    have HRE : Hid (readOf (bl s) = (x.ph, true)) := by
      have h1 := HRD.out
      unfold readOf Hid
      rw [h1]; rfl
    have a0 := K2.cell 0
    have a1 := K2.cell 1
    have a2 := K2.cell 2
    have a3 := K2.cell 3
    simp only [List.getElem?_cons_zero, List.getElem?_cons_succ] at a0 a1 a2 a3
    have fa0 := K2.frozen 0
    have fa1 := K2.frozen 1
    have fa2 := K2.frozen 2
    have fa3 := K2.frozen 3
    obtain ⟨W20, hW20⟩ : ∃ W20, ((((W4.setCell ⟨w.heap.size, 0, none⟩ (.int .i64 x.s)).setCell ⟨w.heap.size, 1, none⟩ (.int .i64 x.c)).setCell ⟨w.heap.size, 2, none⟩ (.slice x.A x.f.length x.cap)).setCell ⟨w.heap.size, 3, none⟩ (.int .i64 x.p)) = W20 := ⟨_, rfl⟩
    have gw : W4.grownBy ((((W4.setCell ⟨w.heap.size, 0, none⟩ (.int .i64 x.s)).setCell ⟨w.heap.size, 1, none⟩ (.int .i64 x.c)).setCell ⟨w.heap.size, 2, none⟩ (.slice x.A x.f.length x.cap)).setCell ⟨w.heap.size, 3, none⟩ (.int .i64 x.p)) (some w.heap.size) := (grown_set (g := w.heap.size) (i := 3) (u := .int .i64 x.p) (grown_set (g := w.heap.size) (i := 2) (u := .slice x.A x.f.length x.cap) (grown_set (g := w.heap.size) (i := 1) (u := .int .i64 x.c) (grown_set (g := w.heap.size) (i := 0) (u := .int .i64 x.s) (World.grownBy.refl _ _)))))
    have kw : Lies ((((W4.setCell ⟨w.heap.size, 0, none⟩ (.int .i64 x.s)).setCell ⟨w.heap.size, 1, none⟩ (.int .i64 x.c)).setCell ⟨w.heap.size, 2, none⟩ (.slice x.A x.f.length x.cap)).setCell ⟨w.heap.size, 3, none⟩ (.int .i64 x.p)) w.heap.size 24 [.int .i64 x.s, .int .i64 x.c, .slice x.A x.f.length x.cap, .int .i64 x.p] := K2.set 0 (.int .i64 x.s) |>.set 1 (.int .i64 x.c) |>.set 2 (.slice x.A x.f.length x.cap) |>.set 3 (.int .i64 x.p)
    have BB := Lib.hid (bel_grow HB.out gw (Nat.le_refl _) (Nat.le_refl _))
    have OO := Lib.hid (HO.out.ne gw HFAR.out)
    rw [hW20] at kw BB OO
    have HW20 := Lib.hid hW20
    have HK := Lib.hid kw
    clear gw kw hW20 K2
    repeat (first | go_values | go_skip | go_guarded | go_step | go_upon | simp only [])
    rw [HW20.out]
    have LS := HK.out
    have x0 := LS.cell 0
    have x1 := LS.cell 1
    have x2 := LS.cell 2
    have x3 := LS.cell 3
    simp only [List.getElem?_cons_zero, List.getElem?_cons_succ] at x0 x1 x2 x3
    refine bodyPost_ret (v := .tuple #[.agg #[.int .i64 x.s, .int .i64 x.c, .slice x.A x.f.length x.cap, .int .i64 x.p], .bool true]) (by simp [results, Tryd.results5, go_sem, x0, x1, x2, x3]) rfl ?_
    exact ⟨x, true, rfl, HRE.out, OO.out, BB.out⟩
end Go.Proofs.YtchkjiadnackaaaDoor

/- A row of phrases as a result. -/
namespace Go.Proofs.YtchkjiadnackaaaDoor
open Go.RowKit

/-- A row of phrases of the call's own, and whether there is one. -/
def GivesRow (w : World) (R : List PhD × Bool) (e : Ending) (w' : World) : Prop := ∃ A c m, e = .returned (.tuple #[.slice A m.length c, .bool R.2]) ∧ m.map Ph.ph = R.1 ∧ RowPh w' w.heap.size (.slice A m.length c) m ∧ Below w.heap.size w w'

theorem eqRow_yes {A B : Option Addr} {c d : Nat} {l m : List Ph} {R : List PhD} {w : World} (hA : PhsR w w.heap.size A l) (hB : PhsR w w.heap.size B m) (hl : l.map Ph.ph = R) (hm : m.map Ph.ph = R) :
    Calls Tryd.prog 12 #[.slice A l.length c, .slice B m.length d] w fun e w' => e = .returned (.bool true) ∧ Below w.heap.size w w' := by
  have := eqPhraseS_any A B c d l m w hA hB
  rwa [show samePhs l m = true by unfold samePhs; rw [hl, hm]; exact decide_eq_true rfl] at this
end Go.Proofs.YtchkjiadnackaaaDoor

/- A list of phrases is read, in the program and in the reference. (Printed by gen_plist.py) -/
namespace Go.Proofs.YtchkjiadnackaaaDoor
open Go.RowKit

theorem readAll_app : ∀ (a : List (List UInt8)) (t : List UInt8) (xs : List PhD) (x : PhD), readAll a = some xs → readD t = some x → readAll (a ++ [t]) = some (xs ++ [x])
  | [], t, xs, x, h, hx => by
    simp only [readAll, Option.some.injEq] at h; subst h
    simp only [List.nil_append, readAll, hx]
  | u :: a, t, xs, x, h, hx => by
    simp only [readAll] at h
    cases hu : readD u with
    | none => rw [hu] at h; cases h
    | some y =>
      rw [hu] at h; simp only at h
      cases ha : readAll a with
      | none => rw [ha] at h; cases h
      | some ys =>
        rw [ha] at h; simp only [Option.some.injEq] at h; subst h
        simp only [List.cons_append, readAll, hu, readAll_app a t ys x ha hx]
theorem readAll_bad : ∀ (a : List (List UInt8)) (t : List UInt8), t ∈ a → readD t = none → readAll a = none
  | [], t, h, _ => by simp at h
  | u :: a, t, h, hx => by
    rcases List.mem_cons.1 h with rfl | h
    · simp only [readAll, hx]
    · simp only [readAll, readAll_bad a t h hx]; cases readD u <;> rfl
theorem readAll_next {ws : List (List UInt8)} {k : Nat} {xs : List PhD} {x : PhD} (hk : k < ws.length) (h : readAll (ws.take k) = some xs) (hx : readD ws[k] = some x) : readAll (ws.take (k + 1)) = some (xs ++ [x]) := by
  rw [List.take_succ_eq_append_getElem hk]; exact readAll_app _ _ _ _ h hx
theorem readL_no {s : List UInt8} {ws : List (List UInt8)} (hw : splitL 32 s = ws) (h0 : s ≠ []) (h : ¬ ws.length ≤ 10 ∨ readAll ws = none) : readL s = ([], false) := by
  unfold readL
  rw [if_neg h0, hw]
  rcases h with h | h
  · rw [if_neg h]
  · rw [h]; split <;> rfl
theorem readL_yes {s : List UInt8} {ws : List (List UInt8)} {xs : List PhD} (hw : splitL 32 s = ws) (h0 : s ≠ []) (h : ws.length ≤ 10) (hx : readAll ws = some xs) : readL s = (xs, true) := by
  unfold readL
  rw [if_neg h0, hw, if_pos h, hx]
theorem readL_nil {s : List UInt8} (h : s = []) : readL s = ([], true) := by unfold readL; rw [if_pos h]
theorem readOf_read {s : List UInt8} {x : PhD} {ok : Bool} (h : readOf s = (x, ok)) : readD s = if ok = true then some x else none := by
  unfold readOf at h
  cases hd : readD s with
  | none => rw [hd] at h; injection h with h1 h2; subst h2; rfl
  | some y => rw [hd] at h; injection h with h1 h2; subst h1; subst h2; rfl
/-- A list while it is read: block g8 holds the words. -/
structure LSt (w wx : World) (g8 : Nat) (ws : List (List UInt8)) (rest : List Value) (v : Value) (m : List Ph) : Prop where
  bl : Below w.heap.size w wx
  lw : LW w
  ws : Lies wx g8 9 (texts ws ++ rest)
  row : RowPh wx w.heap.size v m
section
variable {w wx wy wz : World} {g8 : Nat} {ws : List (List UInt8)} {rest : List Value} {v v' : Value} {m : List Ph} {x : Ph}
theorem LSt.now (S : LSt w wx g8 ws rest v m) : LW wx := S.lw.then S.bl
theorem LSt.then (S : LSt w wx g8 ws rest v m) (hb : Below wx.heap.size wx wy) : LSt w wy g8 ws rest v m :=
  ⟨bthen S.bl hb, S.lw, S.ws.below hb S.ws.lt, S.row.below hb⟩
theorem LSt.push (S : LSt w wx g8 ws rest v m) (hb : Below wx.heap.size wx wy) (hx : OwnS wy wx.heap.size 3 1 x.A x.f.length (encIs x.f))
    (ho : wz.ownsRow w.heap.size 24 4 v' (m.length + 1) (m.flatMap Ph.enc ++ x.enc)) (hg : wy.grownBy wz v.ownBlock) (hb2 : Below w.heap.size wy wz) : LSt w wz g8 ws rest v' (m ++ [x]) := by
  have S2 := S.then hb
  exact ⟨S2.bl.trans hb2, S.lw, S2.ws.kept hg (ownsRow_far S2.row.row S2.ws (by decide)), RowPh.push S.row hb hx S.bl.size ho hg⟩
end

set_option maxRecDepth 100000 in
set_option maxHeartbeats 8000000 in
set_option linter.unusedVariables false in
theorem implList_any (s : ByteArray) (w : World) (hs : s.size ≤ 2000000) (hL : LW w) :
    Calls Tryd.prog 11 #[.string s] w (GivesRow w (readL (bl s))) := by
  have HE : Hid ((s.toList == []) = decide (bl s = [])) := beq_lit s []
  by_cases hnil : bl s = []
  · have he : (s.toList == []) = true := by rw [HE.out]; exact decide_eq_true hnil
    have HM := Lib.hid (readL_nil hnil)
    clear hnil HE
    go_enter Tryd.func11, Tryd.ntmps11
    go_wp2_with fail
    go_ret2
    rw [HM.out]
    exact ⟨none, 0, [], rfl, rfl, RowPh.nil _ _, Below.refl _ _⟩
  · have he : (s.toList == []) = false := by rw [HE.out]; exact decide_eq_false hnil
    have HNE := Lib.hid hnil
    obtain ⟨ws, hws⟩ : ∃ l, splitL 32 (bl s) = l := ⟨_, rfl⟩
    have hpc := parts_count (b := 32) (n := 2000000) (s := bl s) (by rw [bl_size]; exact hs)
    have hpm := parts_short (b := 32) (n := 2000000) (s := bl s) (by rw [bl_size]; exact hs)
    rw [hws] at hpc hpm
    obtain ⟨hp1, hp2⟩ := hpc
    have HWS := Lib.hid hws
    have HPT := Lib.hid hpm
    clear hnil HE hpm
    have HSP := Lib.hid (split_any s 32 w (by omega) hL)
    rw [hws] at HSP
    clear hws
    go_enter Tryd.func11, Tryd.ntmps11
    go_wp2_with fail
    refine HSP.out.mono ?_
    rintro e w3 ⟨rfl, L8, hb3⟩
    have S3 := Lib.hid (LSt.mk (v := .slice none 0 0) (m := []) (rest := []) hb3 hL (by rw [List.append_nil]; exact L8) (RowPh.nil _ _))
    clear hb3 HSP
    generalize w.heap.size = g8 at S3 L8
    go_wp2_with fail
    go_loopw [4, 6, 7, 8, 14] (fun o _ _ _ i wr => ∃ (k : Nat) (A : Option Addr) (c : Nat) (m : List Ph), k ≤ ws.length ∧ i = .int .i64 k ∧ o = .slice A m.length c ∧ Hid (m.length = k) ∧ m.length ≤ 10 ∧ Hid (LSt w wr g8 ws [] (.slice A m.length c) m) ∧ Hid (readAll (ws.take k) = some (m.map Ph.ph))) (fun _ _ _ _ i _ => ws.length - (intOf i).toNat)
    case atStart => exact ⟨0, none, 0, [], Nat.zero_le _, rfl, rfl, rfl, by simp, S3, rfl⟩
    case round =>
      clear S3
      obtain ⟨k, A, c, m, hk, rfl, rfl, HMK, hm10, HS, HR⟩ := hrel
      by_cases hlt : k < ws.length
      · have hlt2 : (k : Int) < (ws.length : Int) := by omega
        have L8 := HS.out.ws
        have c0 : wr.cell? ⟨g8, k, none⟩ = some (.string ⟨(ws[k]'hlt).toArray⟩) := by
          rw [L8.cell]; exact texts_at2 ws _ _ hlt
        have ht := HPT.out (ws[k]'hlt) (List.getElem_mem _)
        obtain ⟨t, hte⟩ : ∃ t : ByteArray, t = ⟨(ws[k]'hlt).toArray⟩ := ⟨_, rfl⟩
        have hbt : bl t = ws[k]'hlt := by rw [hte, bl_mk]
        rw [← hte] at c0
        have hzt : t.size ≤ 2000000 := by rw [← bl_size, hbt]; exact ht
        have HBT := Lib.hid hbt
        clear hte ht hbt L8
        have hlw := HS.out.now
        go_wp2_with fail
        refine (parsePhrase_any t wr (by omega) hlw).mono ?_
        rintro e w4 ⟨x, okx, rfl, hx, ox, hb4⟩
        have ha := (Below.refl w4.heap.size w4).alloc (Nat.le_refl _) (.cells #[.int .i64 x.s, .int .i64 x.c, .slice x.A x.f.length x.cap, .int .i64 x.p] 24)
        have KX := Lies.new w4 24 #[.int .i64 x.s, .int .i64 x.c, .slice x.A x.f.length x.cap, .int .i64 x.p]
        have HOX := Lib.hid (ox.then ha)
        have HB := Lib.hid (bthen hb4 ha)
        have HX : Hid (readD (ws[k]'hlt) = if okx = true then some x.ph else none) := by rw [← HBT.out]; exact readOf_read hx
        clear ox ha hb4 hx c0 hlw
        go_upto_region 8 with fail
        generalize w4.alloc (.cells #[.int .i64 x.s, .int .i64 x.c, .slice x.A x.f.length x.cap, .int .i64 x.p] 24) = w5 at KX HOX HB ⊢
        generalize w4.heap.size = g9 at KX ⊢
        cases okx with
        | false =>
          have HM := Lib.hid (readL_no HWS.out HNE.out (.inr (readAll_bad _ _ (List.getElem_mem hlt) HX.out)))
          have BB := Lib.hid (bthen HS.out.bl HB.out)
          clear KX HOX HB HX HS HR
          go_wp2_with fail
          go_ret2
          rw [HM.out]
          exact ⟨none, 0, [], rfl, rfl, RowPh.nil _ _, BB.out⟩
        | true =>
          by_cases h10 : m.length = 10
          · have e10 : ((m.length : Int) == 10) = true := by simp; omega
            have HM := Lib.hid (readL_no HWS.out HNE.out (.inl (by have := HMK.out; omega)))
            have BB := Lib.hid (bthen HS.out.bl HB.out)
            clear KX HOX HB HX HS HR h10
            go_wp2_with fail
            go_ret2
            rw [HM.out]
            exact ⟨none, 0, [], rfl, rfl, RowPh.nil _ _, BB.out⟩
          · have e10 : ((m.length : Int) == 10) = false := by rw [beq_eq_false_iff_ne]; omega
            have HN := Lib.hid (readAll_next hlt HR.out HX.out)
            have hm9 : m.length < 10 := by omega
            have d0 := KX.cell 0
            have d1 := KX.cell 1
            have d2 := KX.cell 2
            have d3 := KX.cell 3
            simp only [List.getElem?_cons_zero, List.getElem?_cons_succ] at d0 d1 d2 d3
            have HRW := Lib.hid (HS.out.then HB.out).row.row
            have hsz : w.heap.size ≤ w5.heap.size := (HS.out.then HB.out).bl.size
            clear h10 KX HX HR
            go_wp2_with (at_builtin; refine wpList_push (w0 := w5) rfl _ _ 30 rfl 24 _ 4 48 Tryd.underlying30 infoPh rfl (by omega) (by omega) w.heap.size _ _ _ rfl HRW #[.int .i64 x.s, .int .i64 x.c, .slice x.A x.f.length x.cap, .int .i64 x.p] 1 _ rfl (by first | rfl | exact Array.size_push _) rfl (by simp [Value.oneCell']) (by omega) hsz rfl rfl rfl rfl ?_; intro v6 w6 HO6 hg6 hb6)
            have HNEW := Lib.hid (HS.out.push (x := x) HB.out HOX.out HO6.out hg6 hb6)
            obtain ⟨A6, c6, hv6⟩ := ownsRow_slice HO6.out
            subst hv6
            go_roundw
            case rel => exact ⟨k + 1, A6, c6, m ++ [x], by omega, by go_num, by simp, by have := HMK.out; rw [Hid]; simp; omega, by simp; omega, by rw [Hid]; simpa using HNEW.out, by rw [Hid, HN.out]; simp⟩
            case measure => simp [intOf]; omega
      · have hlt2 : ¬ (k : Int) < (ws.length : Int) := by omega
        have HA : Hid (readAll ws = some (m.map Ph.ph)) := by
          have h1 := HR.out; rw [List.take_of_length_le (by omega)] at h1; exact h1
        have HM := Lib.hid (readL_yes HWS.out HNE.out (by have := HMK.out; omega) HA.out)
        clear HR HA
        go_wp2_with fail
        go_ret2
        rw [HM.out]
        exact ⟨A, c, m, rfl, rfl, HS.out.row, HS.out.bl⟩

set_option maxRecDepth 100000 in
set_option maxHeartbeats 8000000 in
set_option linter.unusedVariables false in
theorem specList_any (s : ByteArray) (w : World) (hs : s.size ≤ 2000000) (hL : LW w) :
    Calls Tryd.prog 10 #[.string s] w (GivesRow w (readL (bl s))) := by
  have HE : Hid ((s.toList == []) = decide (bl s = [])) := beq_lit s []
  have b0 := (Below.refl w.heap.size w).alloc (Nat.le_refl _) (.cells #[] 24)
  have R0 : RowPh (w.alloc (.cells #[] 24)) w.heap.size (.slice (some ⟨w.heap.size, 0, none⟩) 0 0) [] := ⟨owns_empty (Lies.new w 24 #[]) (Nat.le_refl _), by simp, List.Pairwise.nil⟩
  by_cases hnil : bl s = []
  · have he : (s.toList == []) = true := by rw [HE.out]; exact decide_eq_true hnil
    have HM := Lib.hid (readL_nil hnil)
    clear hnil HE
    go_enter Tryd.func10, Tryd.ntmps10
    go_wp2_with fail
    go_ret2
    rw [HM.out]
    exact ⟨some ⟨w.heap.size, 0, none⟩, 0, [], rfl, rfl, R0, b0⟩
  · have he : (s.toList == []) = false := by rw [HE.out]; exact decide_eq_false hnil
    have HNE := Lib.hid hnil
    obtain ⟨ws, hws⟩ : ∃ l, splitL 32 (bl s) = l := ⟨_, rfl⟩
    have hpc := parts_count (b := 32) (n := 2000000) (s := bl s) (by rw [bl_size]; exact hs)
    have hpm := parts_short (b := 32) (n := 2000000) (s := bl s) (by rw [bl_size]; exact hs)
    rw [hws] at hpc hpm
    obtain ⟨hp1, hp2⟩ := hpc
    have HWS := Lib.hid hws
    have HPT := Lib.hid hpm
    clear hnil HE hpm
    have HSP := Lib.hid (l1Split_lies s 32 (w.alloc (.cells #[] 24)) (by omega))
    rw [hws] at HSP
    clear hws
    go_enter Tryd.func10, Tryd.ntmps10
    go_wp2_with fail
    refine HSP.out.mono ?_
    rintro e w3 ⟨g8, c8, rest, rfl, L8, hg8, hb3⟩
    have S3 := Lib.hid (LSt.mk (v := .slice (some ⟨w.heap.size, 0, none⟩) 0 0) (m := []) (bthen b0 hb3) hL L8 (R0.below hb3))
    clear b0 R0 hb3 HSP hg8 L8
    rcases Nat.lt_or_ge 400 s.size with hz4 | hz4
    · have i0 : (400 : Int) < (s.size : Int) := by omega
      have HM := Lib.hid (readL_long (s := bl s) (by rw [bl_size]; omega))
      go_wp2_with fail
      go_ret2
      rw [HM.out]
      exact ⟨some ⟨w.heap.size, 0, none⟩, 0, [], rfl, rfl, S3.out.row, S3.out.bl⟩
    have i0 : ¬ (400 : Int) < (s.size : Int) := by omega
    rcases Nat.lt_or_ge 10 ws.length with hw10 | hw10
    · have i1 : (10 : Int) < (ws.length : Int) := by omega
      have HM := Lib.hid (readL_no HWS.out HNE.out (.inl (by omega)))
      go_wp2_with fail
      go_ret2
      rw [HM.out]
      exact ⟨some ⟨w.heap.size, 0, none⟩, 0, [], rfl, rfl, S3.out.row, S3.out.bl⟩
    have i1 : ¬ (10 : Int) < (ws.length : Int) := by omega
    go_wp2_with fail
    go_loopw [4, 6, 7, 8] (fun o i _ _ wr => ∃ (k : Nat) (A : Option Addr) (c : Nat) (m : List Ph), k ≤ ws.length ∧ i = .int .i64 k ∧ o = .slice A m.length c ∧ Hid (m.length = k) ∧ m.length ≤ 10 ∧ Hid (LSt w wr g8 ws rest (.slice A m.length c) m) ∧ Hid (readAll (ws.take k) = some (m.map Ph.ph))) (fun _ i _ _ _ => ws.length - (intOf i).toNat)
    case atStart => exact ⟨0, some ⟨w.heap.size, 0, none⟩, 0, [], Nat.zero_le _, rfl, rfl, rfl, by simp, S3, rfl⟩
    case round =>
      clear S3
      obtain ⟨k, A, c, m, hk, rfl, rfl, HMK, hm10, HS, HR⟩ := hrel
      by_cases hlt : k < ws.length
      · have hlt2 : (k : Int) < (ws.length : Int) := by omega
        have L8 := HS.out.ws
        have c0 : wr.cell? ⟨g8, k, none⟩ = some (.string ⟨(ws[k]'hlt).toArray⟩) := by
          rw [L8.cell]; exact texts_at2 ws _ _ hlt
        have ht := HPT.out (ws[k]'hlt) (List.getElem_mem _)
        obtain ⟨t, hte⟩ : ∃ t : ByteArray, t = ⟨(ws[k]'hlt).toArray⟩ := ⟨_, rfl⟩
        have hbt : bl t = ws[k]'hlt := by rw [hte, bl_mk]
        rw [← hte] at c0
        have hzt : t.size ≤ 2000000 := by rw [← bl_size, hbt]; exact ht
        have HBT := Lib.hid hbt
        clear hte ht hbt L8
        have hlw := HS.out.now
        go_wp2_with fail
        refine (l30Read_any t wr (by omega) hlw).mono ?_
        rintro e w4 ⟨x, okx, rfl, hx, ox, hb4⟩
        have ha := (Below.refl w4.heap.size w4).alloc (Nat.le_refl _) (.cells #[.int .i64 x.s, .int .i64 x.c, .slice x.A x.f.length x.cap, .int .i64 x.p] 24)
        have KX := Lies.new w4 24 #[.int .i64 x.s, .int .i64 x.c, .slice x.A x.f.length x.cap, .int .i64 x.p]
        have HOX := Lib.hid (ox.then ha)
        have HB := Lib.hid (bthen hb4 ha)
        have HX : Hid (readD (ws[k]'hlt) = if okx = true then some x.ph else none) := by rw [← HBT.out]; exact hx
        clear ox ha hb4 hx c0 hlw
        go_upto_region 11 with fail
        generalize w4.alloc (.cells #[.int .i64 x.s, .int .i64 x.c, .slice x.A x.f.length x.cap, .int .i64 x.p] 24) = w5 at KX HOX HB ⊢
        generalize w4.heap.size = g9 at KX ⊢
        cases okx with
        | false =>
          have HM := Lib.hid (readL_no HWS.out HNE.out (.inr (readAll_bad _ _ (List.getElem_mem hlt) HX.out)))
          have BB := Lib.hid (bthen HS.out.bl HB.out)
          have R5 := Lib.hid (show RowPh (w5.alloc (.cells #[] 24)) w.heap.size (.slice (some ⟨w5.heap.size, 0, none⟩) 0 0) [] from ⟨owns_empty (Lies.new w5 24 #[]) BB.out.size, by simp, List.Pairwise.nil⟩)
          have B5 := Lib.hid (bthen BB.out ((Below.refl w5.heap.size w5).alloc (Nat.le_refl _) (.cells #[] 24)))
          clear KX HOX HB HX HS HR BB
          go_wp2_with fail
          go_ret2
          rw [HM.out]
          exact ⟨some ⟨w5.heap.size, 0, none⟩, 0, [], rfl, rfl, R5.out, B5.out⟩
        | true =>
          have HN := Lib.hid (readAll_next hlt HR.out HX.out)
          have hm9 : k < 10 := by omega
          have d0 := KX.cell 0
          have d1 := KX.cell 1
          have d2 := KX.cell 2
          have d3 := KX.cell 3
          simp only [List.getElem?_cons_zero, List.getElem?_cons_succ] at d0 d1 d2 d3
          have HRW := Lib.hid (HS.out.then HB.out).row.row
          have hsz : w.heap.size ≤ w5.heap.size := (HS.out.then HB.out).bl.size
          clear KX HX HR
          go_wp2_with (at_builtin; refine wpList_push (w0 := w5) rfl _ _ 30 rfl 24 _ 4 48 Tryd.underlying30 infoPh rfl (by omega) (by omega) w.heap.size _ _ _ rfl HRW #[.int .i64 x.s, .int .i64 x.c, .slice x.A x.f.length x.cap, .int .i64 x.p] 1 _ rfl (by first | rfl | exact Array.size_push _) rfl (by simp [Value.oneCell']) (by omega) hsz rfl rfl rfl rfl ?_; intro v6 w6 HO6 hg6 hb6)
          have HNEW := Lib.hid (HS.out.push (x := x) HB.out HOX.out HO6.out hg6 hb6)
          obtain ⟨A6, c6, hv6⟩ := ownsRow_slice HO6.out
          subst hv6
          go_roundw
          case rel => exact ⟨k + 1, A6, c6, m ++ [x], by omega, by go_num, by simp, by have := HMK.out; rw [Hid]; simp; omega, by have := HMK.out; simp; omega, by rw [Hid]; simpa using HNEW.out, by rw [Hid, HN.out]; simp⟩
          case measure => simp [intOf]; omega
      · have hlt2 : ¬ (k : Int) < (ws.length : Int) := by omega
        have HA : Hid (readAll ws = some (m.map Ph.ph)) := by
          have h1 := HR.out; rw [List.take_of_length_le (by omega)] at h1; exact h1
        have HM := Lib.hid (readL_yes HWS.out HNE.out hw10 HA.out)
        clear HR HA
        go_wp2_with fail
        go_ret2
        rw [HM.out]
        exact ⟨A, c, m, rfl, rfl, HS.out.row, HS.out.bl⟩

end Go.Proofs.YtchkjiadnackaaaDoor

/- Marks on a list of phrases of the call's own. -/
namespace Go.Proofs.YtchkjiadnackaaaDoor
open Go.RowKit

theorem fsum_take {l : List Ph} {k : Nat} (h : k < l.length) : fsum (l.take (k + 1)) = fsum (l.take k) + l[k].f.length := by
  induction l generalizing k with
  | nil => simp at h
  | cons x l ih =>
    cases k with
    | zero => simp [fsum]
    | succ k =>
      have := ih (k := k) (by simpa using h)
      simp only [List.take_succ_cons, fsum, this, List.getElem_cons_succ]; omega
theorem fsum_take_le (l : List Ph) (k : Nat) : fsum (l.take k) ≤ fsum l := by
  induction l generalizing k with
  | nil => simp
  | cons x l ih =>
    cases k with
    | zero => simp [fsum]
    | succ k => have := ih k; simp only [List.take_succ_cons, fsum]; omega

/-- What still lies unmarked. -/
structure Left (w : World) (lo hi G : Nat) (n : Nat) (l : List Ph) : Prop where
  lies : ∃ done rest, done.length = n * 4 ∧ Lies w G 24 (done ++ (l.flatMap Ph.enc ++ rest))
  at_ : lo ≤ G ∧ G < hi
  fs : ∀ x ∈ l, ∃ g, x.A = some ⟨g, 0, none⟩ ∧ G < g ∧ g < hi ∧ Lies w g 3 (encIs x.f)
  nd : l.Pairwise fun x y => x.A ≠ y.A

set_option maxHeartbeats 2000000 in
theorem markPhraseS_any (lo hi G c : Nat) (k0 : Int) (l : List Ph) (w : World) (hk : 0 ≤ k0) (hk' : k0 ≤ 1000) (hn : need l ≤ 1048576) (h : Left w lo hi G 0 l) :
    Calls Tryd.prog 13 #[.slice (some ⟨G, 0, none⟩) l.length c, .int .i64 k0] w fun e w' => (∃ k1 : Int, e = .returned (.int .i64 k1) ∧ 0 ≤ k1) ∧ Mid lo hi w w' := by
  have hlen : l.length ≤ 1048576 := by unfold need at hn; omega
  have hft : Hid (∀ k, fsum (l.take k) ≤ 1048576) := fun k => by have := fsum_take_le l k; unfold need at hn; omega
  go_enter Tryd.func13, Tryd.ntmps13
  go_wp2
  go_loopw [1, 5] (fun kk i wr => ∃ (j s : Nat), j ≤ l.length ∧ i = .int .i64 j ∧ kk = .int .i64 (k0 + (3 * j + s : Nat)) ∧ s ≤ 1048576 ∧ Hid (s = fsum (l.take j)) ∧ Hid (Left wr lo hi G j (l.drop j)) ∧ Mid lo hi w wr) (fun _ i _ => l.length - (intOf i).toNat)
  case atStart => exact ⟨0, 0, Nat.zero_le _, rfl, congrArg _ (by simp), Nat.zero_le _, rfl, h, Mid.refl _ _ _⟩
  case round =>
    obtain ⟨j, s, hj, rfl, rfl, hs, HS, HR, hgr⟩ := hrel
    by_cases hlt : j < l.length
    · have HN : Hid (s + l[j].f.length = fsum (l.take (j + 1))) := by unfold Hid; rw [fsum_take hlt, HS.out]
      have hs1 : s + l[j].f.length ≤ 1048576 := by have := hft.out (j + 1); rw [← HN.out] at this; exact this
      have HD : Hid (l.drop j = l[j] :: l.drop (j + 1)) := List.drop_eq_getElem_cons hlt
      obtain ⟨x, hxe⟩ : ∃ x, x = l[j] := ⟨_, rfl⟩
      rw [← hxe] at HN hs1 HD
      clear hxe h
      have hR := HR.out
      rw [HD.out] at hR
      obtain ⟨⟨done, rest, hdl, hL⟩, ⟨hG1, hG2⟩, hfs, hnd⟩ := hR
      have HL := Lib.hid hL; clear hL
      have HDL := Lib.hid hdl; clear hdl
      obtain ⟨g, hA, hGg, hgh, hLg⟩ := hfs x (List.mem_cons_self ..)
      have HF : Hid (∀ y ∈ l.drop (j + 1), ∃ g', y.A = some ⟨g', 0, none⟩ ∧ G < g' ∧ g' < hi ∧ g' ≠ g ∧ Lies wr g' 3 (encIs y.f)) := fun y hy => by
        obtain ⟨g', hA', h1, h2, h3⟩ := hfs y (List.mem_cons_of_mem _ hy)
        refine ⟨g', hA', h1, h2, fun e => (List.pairwise_cons.1 hnd).1 y hy ?_, h3⟩
        rw [hA, hA', e]
      have HND := Lib.hid (List.pairwise_cons.1 hnd).2
      clear hfs hnd
      have hL' : Lies wr G 24 (done ++ (.int .i64 x.s :: .int .i64 x.c :: .slice x.A x.f.length x.cap :: .int .i64 x.p :: ((l.drop (j + 1)).flatMap Ph.enc ++ rest))) := by
        have := HL.out; simpa [Ph.enc] using this
      clear HL
      have HL := Lib.hid hL'; clear hL'
      have c0 : wr.cell? ⟨G, j * 4, none⟩ = some (.int .i64 x.s) := (HL.out.cell _).trans (at_behind HDL.out 0)
      have c1 : wr.cell? ⟨G, j * 4 + 1, none⟩ = some (.int .i64 x.c) := (HL.out.cell _).trans (at_behind HDL.out 1)
      have c2 : wr.cell? ⟨G, j * 4 + 2, none⟩ = some (.slice x.A x.f.length x.cap) := (HL.out.cell _).trans (at_behind HDL.out 2)
      have c3 : wr.cell? ⟨G, j * 4 + 3, none⟩ = some (.int .i64 x.p) := (HL.out.cell _).trans (at_behind HDL.out 3)
      rw [hA] at c2
      have HA := Lib.hid hA; clear hA
      have f0 : wr.frozen? ⟨G, j * 4, none⟩ = false := HL.out.frozen _
      have f1 : wr.frozen? ⟨G, j * 4 + 1, none⟩ = false := HL.out.frozen _
      have f2 : wr.frozen? ⟨G, j * 4 + 2, none⟩ = false := HL.out.frozen _
      have f3 : wr.frozen? ⟨G, j * 4 + 3, none⟩ = false := HL.out.frozen _
      have hm0 : Mid lo hi w ((wr.setCell ⟨G, j * 4, none⟩ (.int .i64 (k0 + (3 * (j : Int) + (s : Int))))).setCell ⟨G, j * 4 + 1, none⟩ (.int .i64 (k0 + (3 * (j : Int) + (s : Int)) + 1))) :=
        hgr.trans (Mid.of (grown_set (grown_set (World.grownBy.refl wr (some G)))) (by rintro _ ⟨⟩; exact ⟨hG1, hG2⟩))
      have hL0 : Hid (Lies ((wr.setCell ⟨G, j * 4, none⟩ (.int .i64 (k0 + (3 * (j : Int) + (s : Int))))).setCell ⟨G, j * 4 + 1, none⟩ (.int .i64 (k0 + (3 * (j : Int) + (s : Int)) + 1))) G 24 (done ++ (.int .i64 (k0 + (3 * (j : Int) + (s : Int))) :: .int .i64 (k0 + (3 * (j : Int) + (s : Int)) + 1) :: .slice x.A x.f.length x.cap :: .int .i64 x.p :: ((l.drop (j + 1)).flatMap Ph.enc ++ rest)))) := by
        have h1 := HL.out.set (j * 4) (.int .i64 (k0 + (3 * (j : Int) + (s : Int))))
        have e0 := fun r u => set_behind (r := r) HDL.out 0 (u : Value)
        rw [Nat.add_zero] at e0
        rw [e0] at h1
        have h2 := h1.set (j * 4 + 1) (.int .i64 (k0 + (3 * (j : Int) + (s : Int)) + 1))
        rw [set_behind HDL.out 1] at h2
        exact h2
      have hg0 := (hLg.other (p := ⟨G, j * 4, none⟩) (by simp only; omega) (.int .i64 (k0 + (3 * (j : Int) + (s : Int))))).other (p := ⟨G, j * 4 + 1, none⟩) (by simp only; omega) (.int .i64 (k0 + (3 * (j : Int) + (s : Int)) + 1))
      have HF0 : Hid (∀ y ∈ l.drop (j + 1), ∃ g', y.A = some ⟨g', 0, none⟩ ∧ G < g' ∧ g' < hi ∧ g' ≠ g ∧ Lies ((wr.setCell ⟨G, j * 4, none⟩ (.int .i64 (k0 + (3 * (j : Int) + (s : Int))))).setCell ⟨G, j * 4 + 1, none⟩ (.int .i64 (k0 + (3 * (j : Int) + (s : Int)) + 1))) g' 3 (encIs y.f)) := fun y hy => by
        obtain ⟨g', hA', h1, h2, h3, h4⟩ := HF.out y hy
        exact ⟨g', hA', h1, h2, h3, (h4.other (by simp only; omega) _).other (by simp only; omega) _⟩
      clear HL hLg HF hgr
      go_wp2_with fail
      clear c0 c1 c2 c3 f0 f1 f2 f3
      generalize ((wr.setCell ⟨G, j * 4, none⟩ (.int .i64 (k0 + (3 * (j : Int) + (s : Int))))).setCell ⟨G, j * 4 + 1, none⟩ (.int .i64 (k0 + (3 * (j : Int) + (s : Int)) + 1))) = W at hm0 hL0 hg0 HF0 ⊢
      refine (markIntS_any (some ⟨g, 0, none⟩) x.cap x.f.length lo _ (encIs x.f) W (by omega) (by omega) (by omega) ⟨by simp, by omega, .inr ⟨g, [], rfl, by omega, by simpa using hg0⟩⟩).mono ?_
      rintro e w1 ⟨rfl, hO1, hgr0⟩
      have hgr1 : W.grownBy w1 (some g) := hgr0
      clear hgr0
      have hL1 := Lib.hid (hL0.out.kept hgr1 (by intro e; injection e with e; omega))
      have c3 : w1.cell? ⟨G, j * 4 + 3, none⟩ = some (.int .i64 x.p) := (hL1.out.cell _).trans (at_behind HDL.out 3)
      have f3 : w1.frozen? ⟨G, j * 4 + 3, none⟩ = false := hL1.out.frozen _
      have hm1 := hm0.trans (Mid.of hgr1 (by rintro _ ⟨⟩; exact ⟨by omega, hgh⟩))
      have HF1 : Hid (∀ y ∈ l.drop (j + 1), ∃ g', y.A = some ⟨g', 0, none⟩ ∧ G < g' ∧ g' < hi ∧ Lies w1 g' 3 (encIs y.f)) := fun y hy => by
        obtain ⟨g', hA', h1, h2, h3, h4⟩ := HF0.out y hy
        exact ⟨g', hA', h1, h2, h4.kept hgr1 (by intro e; injection e with e; exact h3 e)⟩
      clear hL0 HF0 hO1 hm0 hg0
      go_wp2
      go_roundw
      case rel =>
        refine ⟨j + 1, s + x.f.length, by omega, by go_num, congrArg _ (by omega), by omega, HN.out, ⟨⟨done ++ [.int .i64 (k0 + (3 * (j : Int) + (s : Int))), .int .i64 (k0 + (3 * (j : Int) + (s : Int)) + 1), .slice x.A x.f.length x.cap, .int .i64 (k0 + (3 * (j : Int) + (s : Int)) + 1 + 1 + x.f.length)], rest, by simp [HDL.out]; omega, ?_⟩, ⟨hG1, hG2⟩, ?_, HND.out⟩, hm1.trans (Mid.of (grown_set (World.grownBy.refl _ (some G))) (by rintro _ ⟨⟩; exact ⟨hG1, hG2⟩))⟩
        · have h1 := hL1.out.set (j * 4 + 3) (.int .i64 (k0 + (3 * (j : Int) + (s : Int)) + 1 + 1 + x.f.length))
          rw [set_behind HDL.out 3] at h1
          rw [List.append_assoc]
          exact h1
        · intro y hy
          obtain ⟨g', hA', h1, h2, h3⟩ := HF1.out y hy
          exact ⟨g', hA', h1, h2, h3.other (by simp only; omega) _⟩
      case measure => simp [intOf]; omega
    · go_wp2
      go_ret
      exact ⟨⟨_, rfl, by omega⟩, hgr⟩
end Go.Proofs.YtchkjiadnackaaaDoor
