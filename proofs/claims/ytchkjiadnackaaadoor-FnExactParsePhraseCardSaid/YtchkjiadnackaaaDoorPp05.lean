/- Pp05: the texts ParseS ParseW PhrHeld LawParse Open OpenText, joined into one file. -/
import Derived.ProofKit
import Derived.ChangeOld
import Derived.ShutString
import Derived.OpenShut
import Derived.Deep.Slices
import Derived.Deep.Fields
import Derived.Test.YtchkjiadnackaaaDoorProg
import Derived.Test.YtchkjiadnackaaaDoorPp01
import Derived.Test.YtchkjiadnackaaaDoorPp02
import Derived.Test.YtchkjiadnackaaaDoorPp03
import Derived.Test.YtchkjiadnackaaaDoorPp04

set_option linter.unusedVariables false

/- The reference reads a phrase. (Printed by gen_parses.py) -/
namespace Go.Proofs.YtchkjiadnackaaaDoor
open Go.RowKit

theorem grownB {w w' : World} (h : Below w.heap.size w w') (row : Option Nat) : w.grownBy w' row := ⟨h.os, h.tape, h.output, h.size, fun k hk _ => h.block k hk⟩
theorem texts_at2 (ps : List (List UInt8)) (rest : List Value) (k : Nat) (h : k < ps.length) : (texts ps ++ rest)[k]? = some (.string ⟨(ps[k]).toArray⟩) := by
  rw [List.getElem?_append_left (by rw [texts_len]; omega)]; exact texts_at ps k h
theorem l1Split_lies (s : ByteArray) (b : UInt8) (w : World) (hs : s.size ≤ 100000000) :
    Calls Tryd.prog 20 #[.string s, .int .u8 b.toNat] w fun e w' => ∃ (g c : Nat) (rest : List Value), e = .returned (.slice (some ⟨g, 0, none⟩) (splitL b (bl s)).length c) ∧ Lies w' g 9 (texts (splitL b (bl s)) ++ rest) ∧ w.heap.size ≤ g ∧ Below w.heap.size w w' := by
  refine (l1Split_any s b w hs).mono ?_
  rintro e w' ⟨A, c, rfl, ho, hb⟩
  obtain ⟨_, _, ⟨h1, h2⟩ | ⟨g, rest, hA, hg, hL⟩⟩ := OwnS.of ho
  · exact absurd (List.eq_nil_of_length_eq_zero h2) (parts_ne b _ _)
  · subst hA; exact ⟨g, c, rest, rfl, hL, hg, hb⟩
theorem parts_short {b : UInt8} {s : List UInt8} {n : Nat} (h : s.length ≤ n) : ∀ t ∈ splitL b s, t.length ≤ n := fun t ht => by
  have := parts_mem s [] ht; simp at this; omega
theorem parts_count {b : UInt8} {s : List UInt8} {n : Nat} (h : s.length ≤ n) : 1 ≤ (splitL b s).length ∧ (splitL b s).length ≤ n + 1 := by
  have h1 := parts_len b s []
  have h3 : 0 < (partsL b [] s).length := List.length_pos_iff.2 (parts_ne b s [])
  unfold splitL; omega
theorem beq_lit (v : ByteArray) (l : List UInt8) : (v.toList == l) = decide (bl v = l) := by
  rw [ByteArray.toList_eq]; unfold bl
  by_cases h : v.data.toList = l <;> simp [h]
theorem head_at {ps : List (List UInt8)} (h : 0 < ps.length) : ps.headD [] = ps[0] := by
  cases ps with
  | nil => simp at h
  | cons a l => rfl
theorem last_at {ps : List (List UInt8)} (h : 0 < ps.length) : ps.getLastD [] = ps[ps.length - 1] := by
  rw [List.getLastD_eq_getLast?, List.getLast?_eq_getElem?, List.getElem?_eq_getElem (by omega)]; rfl
theorem specD_is {s t0 u0 z : List UInt8} {ps fs hs : List (List UInt8)} {price sd sd2 cop : Int} {gs : List Int} {A : Option Addr} {cc n : Nat}
    (h1 : splitL 61 s = ps) (h2 : (if ps.length = 2 then numD (ps.getD 1 []) else 0) = price) (h3 : ps.headD [] = t0) (h4 : splitL 33 t0 = fs) (h5 : gs = fs.tail.map numD) (h6 : fs.headD [] = u0) (h7 : splitL 40 u0 = hs)
    (h8 : (if hs.headD [] = [42, 42] then (1 : Int) else 3) = sd) (h9 : (if hs.headD [] = [42] then (2 : Int) else sd) = sd2) (h10 : hs.getLastD [] = z) (hn : z.length = n) (h11 : (if hs.length = 2 ∧ 1 < n then numD (z.take (n - 1)) else 1) = cop) :
    specD s = Ph.ph { s := sd2, c := cop, f := gs, p := price, A := A, cap := cc } := by
  unfold specD Ph.ph
  simp only
  subst hn
  rw [h1, h3, h4, h6, h7, h10, h11, h2, ← h5, ← h9, ← h8]
/-- What reading gives, in the reference. -/
def GivesR (s : ByteArray) (w : World) (e : Ending) (w' : World) : Prop := ∃ (x : Ph) (ok : Bool), e = .returned (.tuple #[x.val, .bool ok]) ∧ (readD (bl s) = if ok = true then some x.ph else none) ∧ OwnS w' w.heap.size 3 1 x.A x.f.length (encIs x.f) ∧ Below w.heap.size w w'

set_option maxRecDepth 100000 in
set_option maxHeartbeats 8000000 in
set_option linter.unusedVariables false in
theorem l30Read_any (s : ByteArray) (w : World) (hs : s.size ≤ 2000000) (hL : LW w) :
    Calls Tryd.prog 15 #[.string s] w (GivesR s w) := by
  have L2 := (Lies.new w 24 #[.int .i64 0, .int .i64 0, .slice none 0 0, .int .i64 0]).alloc (.cells #[.int .i64 3, .int .i64 1, .slice none 0 0, .int .i64 0] 24)
  have L4 := Lies.new1 w (.cells #[.int .i64 0, .int .i64 0, .slice none 0 0, .int .i64 0] 24) 24 #[.int .i64 3, .int .i64 1, .slice none 0 0, .int .i64 0]
  have b2 := ((Below.refl w.heap.size w).alloc (Nat.le_refl _) (.cells #[.int .i64 0, .int .i64 0, .slice none 0 0, .int .i64 0] 24)).alloc (by simp) (.cells #[.int .i64 3, .int .i64 1, .slice none 0 0, .int .i64 0] 24)
  have S4 : PRd w ((w.alloc (.cells #[.int .i64 0, .int .i64 0, .slice none 0 0, .int .i64 0] 24)).alloc (.cells #[.int .i64 3, .int .i64 1, .slice none 0 0, .int .i64 0] 24)) (w.heap.size + 1) { s := 3, c := 1, f := [], p := 0, A := none, cap := 0 } (.slice none 0 0) :=
    ⟨b2, hL, L2, L4, World.ownsRow_nil _ _ _ _, by omega⟩
  clear L2 L4 b2
  by_cases hlong : 40 < s.size
  · have hl1 : (40 : Int) < (s.size : Int) := by omega
    have HRD : Hid (readD (bl s) = none) := readD_long (by rw [bl_size]; omega)
    go_enter Tryd.func15, Tryd.ntmps15
    go_upto_region 3 with fail
    generalize ((w.alloc (.cells #[.int .i64 0, .int .i64 0, .slice none 0 0, .int .i64 0] 24)).alloc (.cells #[.int .i64 3, .int .i64 1, .slice none 0 0, .int .i64 0] 24)) = W4 at S4 ⊢
    generalize w.heap.size + 1 = g4 at S4 ⊢
    have K2 := S4.out
    have K7 := S4.now
    have a0 := K2.cell 0
    have a1 := K2.cell 1
    have a2 := K2.cell 2
    have a3 := K2.cell 3
    simp only [List.getElem?_cons_zero, List.getElem?_cons_succ] at a0 a1 a2 a3
    have d0 := K7.cell 0
    have d1 := K7.cell 1
    have d2 := K7.cell 2
    have d3 := K7.cell 3
    simp only [List.getElem?_cons_zero, List.getElem?_cons_succ] at d0 d1 d2 d3
    have fa0 := K2.frozen 0
    have fa1 := K2.frozen 1
    have fa2 := K2.frozen 2
    have fa3 := K2.frozen 3
    obtain ⟨W20, hW20⟩ : ∃ W20, ((((W4.setCell ⟨w.heap.size, 0, none⟩ (.int .i64 3)).setCell ⟨w.heap.size, 1, none⟩ (.int .i64 1)).setCell ⟨w.heap.size, 2, none⟩ (.slice none 0 0)).setCell ⟨w.heap.size, 3, none⟩ (.int .i64 0)) = W20 := ⟨_, rfl⟩
    have gw : W4.grownBy ((((W4.setCell ⟨w.heap.size, 0, none⟩ (.int .i64 3)).setCell ⟨w.heap.size, 1, none⟩ (.int .i64 1)).setCell ⟨w.heap.size, 2, none⟩ (.slice none 0 0)).setCell ⟨w.heap.size, 3, none⟩ (.int .i64 0)) (some w.heap.size) := (grown_set (g := w.heap.size) (i := 3) (u := .int .i64 0) (grown_set (g := w.heap.size) (i := 2) (u := .slice none 0 0) (grown_set (g := w.heap.size) (i := 1) (u := .int .i64 1) (grown_set (g := w.heap.size) (i := 0) (u := .int .i64 3) (World.grownBy.refl _ _)))))
    have kw : Lies ((((W4.setCell ⟨w.heap.size, 0, none⟩ (.int .i64 3)).setCell ⟨w.heap.size, 1, none⟩ (.int .i64 1)).setCell ⟨w.heap.size, 2, none⟩ (.slice none 0 0)).setCell ⟨w.heap.size, 3, none⟩ (.int .i64 0)) w.heap.size 24 [.int .i64 3, .int .i64 1, .slice none 0 0, .int .i64 0] := K2.set 0 (.int .i64 3) |>.set 1 (.int .i64 1) |>.set 2 (.slice none 0 0) |>.set 3 (.int .i64 0)
    have BB := Lib.hid (bel_grow S4.bl gw (Nat.le_refl _) (Nat.le_refl _))
    rw [hW20] at kw BB
    have HW20 := Lib.hid hW20
    have HK := Lib.hid kw
    clear gw kw hW20 K2 K7 S4
    repeat (first | go_values | go_skip | go_guarded | go_step | go_upon | simp only [])
    rw [HW20.out]
    have LS := HK.out
    have x0 := LS.cell 0
    have x1 := LS.cell 1
    have x2 := LS.cell 2
    have x3 := LS.cell 3
    simp only [List.getElem?_cons_zero, List.getElem?_cons_succ] at x0 x1 x2 x3
    refine bodyPost_ret (v := .tuple #[.agg #[.int .i64 3, .int .i64 1, .slice none 0 0, .int .i64 0], .bool false]) (by simp [results, Tryd.results15, go_sem, x0, x1, x2, x3]) rfl ?_
    exact ⟨{ s := 3, c := 1, f := [], p := 0, A := none, cap := 0 }, false, rfl, HRD.out, ⟨rfl, by simp, .inl ⟨rfl, rfl⟩⟩, BB.out⟩
  · have hl1 : ¬ (40 : Int) < (s.size : Int) := by omega
    have hs40 : s.size ≤ 40 := by omega
    clear hlong
    have HSP := Lib.hid (fun W => l1Split_lies s 61 W (by omega))
    obtain ⟨ps, hps⟩ : ∃ l, splitL 61 (bl s) = l := ⟨_, rfl⟩
    have hpc := parts_count (b := 61) (n := 40) (by rw [bl_size]; exact hs40)
    have hpm := parts_short (b := 61) (n := 40) (by rw [bl_size]; exact hs40)
    rw [hps] at HSP hpc hpm
    have HPS := Lib.hid hps
    have Hps := Lib.hid hpm
    clear hps hpm
    obtain ⟨hp1, hp2⟩ := hpc
    go_enter Tryd.func15, Tryd.ntmps15
    go_upto_region 4 with fail
    generalize ((w.alloc (.cells #[.int .i64 0, .int .i64 0, .slice none 0 0, .int .i64 0] 24)).alloc (.cells #[.int .i64 3, .int .i64 1, .slice none 0 0, .int .i64 0] 24)) = W4 at S4 ⊢
    generalize w.heap.size + 1 = g4 at S4 ⊢
    have h4lt : g4 < W4.heap.size := S4.now.lt
    go_wp2_with fail
    refine (HSP.out W4).mono ?_
    rintro e w5 ⟨g5, c5, rest5, rfl, L5, hg5, hb5⟩
    have S5 := S4.below hb5
    have h45 : g4 < g5 := by omega
    clear S4 hb5 HSP h4lt hg5
    go_upto_region 5 with fail
    -- the price
    go_cut [21] (fun s21 wx => (∃ b : Bool, s21 = .bool b ∧ Hid (b = decide (ps.length = 2))) ∧ w5 = wx)
    case first =>
      have HS5 := Lib.hid S5
      clear S5
      by_cases h2 : ps.length = 2
      · have e2 : ((ps.length : Int) == 2) = true := by simp; omega
        go_wp2_with fail
        go_meet
        case rel => exact ⟨⟨true, rfl, by simp [h2, Hid]⟩, rfl⟩
      · have e2 : ((ps.length : Int) == 2) = false := by rw [beq_eq_false_iff_ne]; omega
        go_wp2_with fail
        go_meet
        case rel => exact ⟨⟨false, rfl, by simp [h2, Hid]⟩, rfl⟩
    case rest =>
      obtain ⟨⟨b2, rfl, hb2⟩, rfl⟩ := hcut
      go_upto_if 21 with fail
      go_cut [] (fun wx => PRd w wx g4 { s := 3, c := 1, f := [], p := if ps.length = 2 then numD (ps.getD 1 []) else 0, A := none, cap := 0 } (.slice none 0 0) ∧ Lies wx g5 9 (texts ps ++ rest5))
      case first =>
        cases b2
        case true =>
          have h2 : ps.length = 2 := by simpa using hb2.out.symm
          have c0 : w5.cell? ⟨g5, 1, none⟩ = some (.string ⟨(ps[1]'(by omega)).toArray⟩) := by
            rw [L5.cell]; exact texts_at2 ps _ _ (by omega)
          have ht := Hps.out (ps[1]'(by omega)) (List.getElem_mem _)
          obtain ⟨t1, hte⟩ : ∃ t : ByteArray, t = ⟨(ps[1]'(by omega)).toArray⟩ := ⟨_, rfl⟩
          have hbt1 : bl t1 = ps[1]'(by omega) := by rw [hte, bl_mk]
          rw [← hte] at c0
          have hzt1 : t1.size ≤ 40 := by rw [← bl_size, hbt1]; exact ht
          clear hte ht
          have hgd : ps.getD 1 [] = bl t1 := by rw [hbt1, List.getD_eq_getElem?_getD, List.getElem?_eq_getElem (by omega)]; rfl
          have HR := Lib.hid (fun W => l1Read_any t1 W (by omega))
          have HGD := Lib.hid hgd
          have HS5 := Lib.hid S5
          have HL5 := Lib.hid L5
          have hi1 : (1 : Int) < (ps.length : Int) := by omega
          have H2 := Lib.hid h2
          clear S5 L5 hbt1 hgd h2 hb2
          go_wp2_with fail
          refine (HR.out _).mono ?_
          rintro e w6 ⟨rfl, hb6⟩
          have S6 := HS5.out.below hb6
          have L6 := HL5.out.below hb6 HL5.out.lt
          clear HS5 HL5 hb6 c0 HR
          have K := S6.now
          have d0 := K.cell 0
          have d1 := K.cell 1
          have d2 := K.cell 2
          have d3 := K.cell 3
          simp only [List.getElem?_cons_zero, List.getElem?_cons_succ] at d0 d1 d2 d3
          have fd0 := K.frozen 0
          have fd1 := K.frozen 1
          have fd2 := K.frozen 2
          have fd3 := K.frozen 3
          have gw : w6.grownBy (w6.setCell ⟨g4, 3, none⟩ (.int .i64 (numD (bl t1)))) (some g4) := grown_set (World.grownBy.refl _ _)
          have kw := K.set 3 (.int .i64 (numD (bl t1)))
          have HS := Lib.hid (S6.put (y := { s := 3, c := 1, f := [], p := numD (bl t1), A := none, cap := 0 }) gw kw rfl)
          clear gw kw K
          have HL := Lib.hid (L6.kept (grown_set (g := g4) (i := 3) (u := .int .i64 (numD (bl t1))) (World.grownBy.refl _ _)) (by intro e; injection e; omega))
          clear L6
          go_wp2_with fail
          go_meet
          case rel => exact ⟨by rw [if_pos H2.out, HGD.out]; exact HS.out, HL.out⟩
        case false =>
          have H2 : Hid (¬ ps.length = 2) := by have := hb2.out.symm; simp at this; exact this
          have HS5 := Lib.hid S5
          have HL5 := Lib.hid L5
          clear S5 L5
          go_wp2_with fail
          go_meet
          case rel => exact ⟨by rw [if_neg H2.out]; exact HS5.out, HL5.out⟩
      case rest =>
        clear S5 L5 hb2
        obtain ⟨S5, L5⟩ := hcut
        generalize hprice : (if ps.length = 2 then numD (ps.getD 1 []) else 0) = price at S5
        have HPR := Lib.hid hprice
        clear hprice
        -- the faults
        have c0 : wc.cell? ⟨g5, 0, none⟩ = some (.string ⟨(ps[0]'(by omega)).toArray⟩) := by
          rw [L5.cell]; exact texts_at2 ps _ _ (by omega)
        have ht := Hps.out (ps[0]'(by omega)) (List.getElem_mem _)
        obtain ⟨t0, hte⟩ : ∃ t : ByteArray, t = ⟨(ps[0]'(by omega)).toArray⟩ := ⟨_, rfl⟩
        have hbt0 : bl t0 = ps[0]'(by omega) := by rw [hte, bl_mk]
        rw [← hte] at c0
        have hzt0 : t0.size ≤ 40 := by rw [← bl_size, hbt0]; exact ht
        clear hte ht
        have HH1 : Hid (ps.headD [] = bl t0) := by rw [hbt0]; exact head_at hp1
        have HSP := Lib.hid (fun W => l1Split_lies t0 33 W (by omega))
        obtain ⟨fs, hfs⟩ : ∃ l, splitL 33 (bl t0) = l := ⟨_, rfl⟩
        have hfc := parts_count (b := 33) (n := 40) (s := bl t0) (by rw [bl_size]; exact hzt0)
        have hfm := parts_short (b := 33) (n := 40) (s := bl t0) (by rw [bl_size]; exact hzt0)
        rw [hfs] at HSP hfc hfm
        have HFS := Lib.hid hfs
        have Hfs := Lib.hid hfm
        obtain ⟨hf1, hf2⟩ := hfc
        have hi0 : (0 : Int) < (ps.length : Int) := by omega
        have h4lt : g4 < wc.heap.size := S5.now.lt
        clear hfs hfm hbt0 hp2
        go_wp2_with fail
        refine (HSP.out _).mono ?_
        rintro e w6 ⟨g6, c6, rest6, rfl, L6, hg6, hb6⟩
        have HS6 := Lib.hid (S5.below hb6)
        have HL6 := Lib.hid L6
        have h46 : g4 < g6 := by omega
        clear S5 L5 L6 hb6 HSP c0 h4lt hg6
        go_wp2_with fail
        go_loopw [7, 8, 9] (fun i _ _ wr => ∃ (k : Nat) (gs : List Int) (v : Value), k + 1 ≤ fs.length ∧ i = .int .i64 ((k + 1 : Nat) : Int) ∧ gs.length = k ∧ Hid (PRd w wr g4 { s := 3, c := 1, f := gs, p := price, A := none, cap := 0 } v) ∧ Hid (Lies wr g6 9 (texts fs ++ rest6)) ∧ Hid (gs = (fs.tail.take k).map numD)) (fun i _ _ _ => fs.length + 1 - (intOf i).toNat)
        case atStart => exact ⟨0, [], _, by omega, rfl, rfl, HS6, HL6, by simp [Hid]⟩
        case round =>
          clear HS6 HL6
          obtain ⟨k, gs, v, hk, rfl, hgl, HS, HL, HF⟩ := hrel
          have HGL := Lib.hid hgl
          have hgl2 : gs.length ≤ 41 := by omega
          clear hgl
          by_cases hlt : k + 1 < fs.length
          · have hlt2 : ((k + 1 : Nat) : Int) < (fs.length : Int) := by omega
            have L6 := HL.out
            have c0 : wr.cell? ⟨g6, k + 1, none⟩ = some (.string ⟨(fs[k + 1]'(by omega)).toArray⟩) := by
              rw [L6.cell]; exact texts_at2 fs _ _ (by omega)
            have ht := Hfs.out (fs[k + 1]'(by omega)) (List.getElem_mem _)
            obtain ⟨t, hte⟩ : ∃ t : ByteArray, t = ⟨(fs[k + 1]'(by omega)).toArray⟩ := ⟨_, rfl⟩
            have hbt : bl t = fs[k + 1]'(by omega) := by rw [hte, bl_mk]
            rw [← hte] at c0
            have hzt : t.size ≤ 40 := by rw [← bl_size, hbt]; exact ht
            clear hte ht
            have HST : Hid (gs ++ [numD (bl t)] = (fs.tail.take (k + 1)).map numD) := by
              have h1 : fs.tail[k]? = some (bl t) := by rw [List.getElem?_tail, List.getElem?_eq_getElem (by omega), hbt]
              have h2 : fs.tail.take (k + 1) = fs.tail.take k ++ [bl t] := by rw [List.take_add_one, h1]; rfl
              rw [h2, List.map_append, ← HF.out]; rfl
            have HR := Lib.hid (fun W => l1Read_any t W (by omega))
            clear hbt HF hlt L6
            go_wp2_with fail
            refine (HR.out _).mono ?_
            rintro e w7 ⟨rfl, hb7⟩
            have S7 := HS.out.below hb7
            have HL7 := Lib.hid (HL.out.below hb7 HL.out.lt)
            have K7 := S7.now
            have d0 := K7.cell 0
            have d1 := K7.cell 1
            have d2 := K7.cell 2
            have d3 := K7.cell 3
            simp only [List.getElem?_cons_zero, List.getElem?_cons_succ] at d0 d1 d2 d3
            have fd0 := K7.frozen 0
            have fd1 := K7.frozen 1
            have fd2 := K7.frozen 2
            have fd3 := K7.frozen 3
            have HRW := Lib.hid S7.row
            have hz7 : w.heap.size ≤ w7.heap.size := S7.bl.size
            have HS7 := Lib.hid S7
            clear HS HL c0 S7 K7 HR hb7
            go_wp2_with (at_builtin; refine wpList_push (w0 := w7) rfl _ _ 22 rfl 3 (.int .i64 0) 1 8 Tryd.underlying22 infoI rfl (by omega) (by omega) w.heap.size _ _ _ rfl HRW #[.int .i64 (numD (bl t))] 1 _ rfl (by first | rfl | exact Array.size_push _) rfl (by simp [Value.oneCell']) (by omega) hz7 rfl rfl rfl rfl ?_; intro v8 w8 HO8 hg8 hb8; obtain ⟨A8, c8, hv8⟩ := ownsRow_slice HO8.out; subst hv8; have K8 := HS7.out.now.kept hg8 (ownsRow_far HRW.out HS7.out.now ne_int_ph); have e2 := K8.cell 2; have fe2 := K8.frozen 2; simp only [List.getElem?_cons_zero, List.getElem?_cons_succ] at e2)
            have HS8 := Lib.hid (HS7.out.push (y := { s := 3, c := 1, f := gs ++ [numD (bl t)], p := price, A := none, cap := 0 }) (n := numD (bl t)) HO8.out hg8 hb8 rfl rfl rfl rfl)
            have HL8 : Hid (Lies (w8.setCell ⟨g4, 2, none⟩ (.slice A8 (gs.length + 1) c8)) g6 9 (texts fs ++ rest6)) :=
              (HL7.out.kept hg8 (ownsRow_far HRW.out HL7.out (by decide))).kept (grown_set (g := g4) (World.grownBy.refl _ _)) (by intro e; injection e; omega)
            clear HS7 HL7 HO8 hg8 hb8 K8 HRW d0 d1 d2 d3 fd0 fd1 fd2 fd3 e2 fe2
            go_roundw
            case rel => exact ⟨k + 1, gs ++ [numD (bl t)], _, by omega, by go_num, by have := HGL.out; simp; omega, HS8, HL8, HST⟩
            case measure => simp [intOf] <;> omega
          · have hlt2 : ¬ ((k + 1 : Nat) : Int) < (fs.length : Int) := by omega
            have HFF : Hid (gs = fs.tail.map numD) := by
              have h1 := HF.out
              rw [List.take_of_length_le (by rw [List.length_tail]; omega)] at h1; exact h1
            have L6 := HL.out
            have c0 : wr.cell? ⟨g6, 0, none⟩ = some (.string ⟨(fs[0]'(by omega)).toArray⟩) := by
              rw [L6.cell]; exact texts_at2 fs _ _ (by omega)
            have ht := Hfs.out (fs[0]'(by omega)) (List.getElem_mem _)
            obtain ⟨u0, hte⟩ : ∃ t : ByteArray, t = ⟨(fs[0]'(by omega)).toArray⟩ := ⟨_, rfl⟩
            have hbu0 : bl u0 = fs[0]'(by omega) := by rw [hte, bl_mk]
            rw [← hte] at c0
            have hzu0 : u0.size ≤ 40 := by rw [← bl_size, hbu0]; exact ht
            clear hte ht
            have HH2 : Hid (fs.headD [] = bl u0) := by rw [hbu0]; exact head_at hf1
            have HSP := Lib.hid (fun W => l1Split_lies u0 40 W (by omega))
            obtain ⟨hs2, hhs⟩ : ∃ l, splitL 40 (bl u0) = l := ⟨_, rfl⟩
            have hhc := parts_count (b := 40) (n := 40) (s := bl u0) (by rw [bl_size]; exact hzu0)
            have hhm := parts_short (b := 40) (n := 40) (s := bl u0) (by rw [bl_size]; exact hzu0)
            rw [hhs] at HSP hhc hhm
            have HHS := Lib.hid hhs
            have Hhs2 := Lib.hid hhm
            obtain ⟨hh1, hh2⟩ := hhc
            have hi3 : (0 : Int) < (fs.length : Int) := by omega
            have h4lt : g4 < wr.heap.size := HS.out.now.lt
            have HK := Lib.hid hk
            clear hhs hhm hbu0 HF hlt hgl2 HGL L6
            go_wp2_with fail
            refine (HSP.out _).mono ?_
            rintro e w7 ⟨g7, c7, rest7, rfl, L7, hg7, hb7⟩
            have S7 := HS.out.below hb7
            have h47 : g4 < g7 := by omega
            clear HS HL hb7 HSP c0 h4lt hg7
            -- the state
            obtain ⟨sd, hsd⟩ : ∃ z : Int, (if hs2.headD [] = [42, 42] then (1 : Int) else 3) = z := ⟨_, rfl⟩
            obtain ⟨sd2, hsd2⟩ : ∃ z : Int, (if hs2.headD [] = [42] then (2 : Int) else sd) = z := ⟨_, rfl⟩
            have HSD := Lib.hid hsd
            have HSD2 := Lib.hid hsd2
            clear hsd hsd2
            have c0 : w7.cell? ⟨g7, 0, none⟩ = some (.string ⟨(hs2[0]'(by omega)).toArray⟩) := by
              rw [L7.cell]; exact texts_at2 hs2 _ _ (by omega)
            have ht := Hhs2.out (hs2[0]'(by omega)) (List.getElem_mem _)
            obtain ⟨v0, hte⟩ : ∃ t : ByteArray, t = ⟨(hs2[0]'(by omega)).toArray⟩ := ⟨_, rfl⟩
            have hbv0 : bl v0 = hs2[0]'(by omega) := by rw [hte, bl_mk]
            rw [← hte] at c0
            have hzv0 : v0.size ≤ 40 := by rw [← bl_size, hbv0]; exact ht
            clear hte ht
            have HV := Lib.hid (head_at hh1)
            rw [← hbv0] at HV
            obtain ⟨q2, hq2⟩ : ∃ b : Bool, (v0.toList == [42, 42]) = b := ⟨_, rfl⟩
            obtain ⟨q1, hq1⟩ : ∃ b : Bool, (v0.toList == [42]) = b := ⟨_, rfl⟩
            have HQ2 : Hid (q2 = decide (hs2.headD [] = [42, 42])) := by rw [Hid, ← hq2, HV.out, beq_lit]
            have HQ1 : Hid (q1 = decide (hs2.headD [] = [42])) := by rw [Hid, ← hq1, HV.out, beq_lit]
            have HVS : Hid (Value.string ⟨(hs2[0]'(by omega)).toArray⟩ = Value.string v0) := by rw [Hid, ← hbv0]; exact congrArg Value.string (bl_ext rfl).symm
            clear hbv0
            have hi4 : (0 : Int) < (hs2.length : Int) := by omega
            go_upto_if 61 with fail
            go_cut [] (fun wx => PRd w wx g4 { s := sd, c := 1, f := gs, p := price, A := none, cap := 0 } v ∧ Lies wx g7 9 (texts hs2 ++ rest7))
            case first =>
              have HL7 := Lib.hid L7
              cases q2
              case true =>
                have K := S7.now
                have d0 := K.cell 0
                have d1 := K.cell 1
                have d2 := K.cell 2
                have d3 := K.cell 3
                simp only [List.getElem?_cons_zero, List.getElem?_cons_succ] at d0 d1 d2 d3
                have fd0 := K.frozen 0
                have fd1 := K.frozen 1
                have fd2 := K.frozen 2
                have fd3 := K.frozen 3
                have gw : w7.grownBy (w7.setCell ⟨g4, 0, none⟩ (.int .i64 1)) (some g4) := grown_set (World.grownBy.refl _ _)
                have kw := K.set 0 (.int .i64 1)
                have HS := Lib.hid (S7.put (y := { s := 1, c := 1, f := gs, p := price, A := none, cap := 0 }) gw kw rfl)
                clear gw kw K
                have HL := Lib.hid (HL7.out.kept (grown_set (g := g4) (i := 0) (u := .int .i64 1) (World.grownBy.refl _ _)) (by intro e; injection e; omega))
                have HE : Hid (hs2.headD [] = [42, 42]) := by have := HQ2.out.symm; simp only [decide_eq_true_eq] at this; exact this
                clear L7 S7 hq1 HQ2
                go_wp2_with fail
                go_meet
                case rel => exact ⟨by rw [← HSD.out, if_pos HE.out]; exact HS.out, HL.out⟩
              case false =>
                have HS := Lib.hid S7
                have HE : Hid (¬ hs2.headD [] = [42, 42]) := by have := HQ2.out.symm; simp only [decide_eq_false_iff_not] at this; exact this
                clear L7 S7 hq1 HQ2
                go_wp2_with fail
                go_meet
                case rel => exact ⟨by rw [← HSD.out, if_neg HE.out]; exact HS.out, HL7.out⟩
            case rest =>
              clear S7 L7 c0
              obtain ⟨S7, L7⟩ := hcut
              have c0 : wc.cell? ⟨g7, 0, none⟩ = some (.string v0) := by
                rw [L7.cell]; exact (texts_at2 hs2 _ 0 (by omega)).trans (congrArg some HVS.out)
              go_upto_if 66 with fail
              go_cut [] (fun wx => PRd w wx g4 { s := sd2, c := 1, f := gs, p := price, A := none, cap := 0 } v ∧ Lies wx g7 9 (texts hs2 ++ rest7))
              case first =>
                have HL7 := Lib.hid L7
                cases q1
                case true =>
                  have K := S7.now
                  have d0 := K.cell 0
                  have d1 := K.cell 1
                  have d2 := K.cell 2
                  have d3 := K.cell 3
                  simp only [List.getElem?_cons_zero, List.getElem?_cons_succ] at d0 d1 d2 d3
                  have fd0 := K.frozen 0
                  have fd1 := K.frozen 1
                  have fd2 := K.frozen 2
                  have fd3 := K.frozen 3
                  have gw : wc.grownBy (wc.setCell ⟨g4, 0, none⟩ (.int .i64 2)) (some g4) := grown_set (World.grownBy.refl _ _)
                  have kw := K.set 0 (.int .i64 2)
                  have HS := Lib.hid (S7.put (y := { s := 2, c := 1, f := gs, p := price, A := none, cap := 0 }) gw kw rfl)
                  clear gw kw K
                  have HL := Lib.hid (HL7.out.kept (grown_set (g := g4) (i := 0) (u := .int .i64 2) (World.grownBy.refl _ _)) (by intro e; injection e; omega))
                  have HE : Hid (hs2.headD [] = [42]) := by have := HQ1.out.symm; simp only [decide_eq_true_eq] at this; exact this
                  clear L7 S7 HQ1 hq2
                  go_wp2_with fail
                  go_meet
                  case rel => exact ⟨by rw [← HSD2.out, if_pos HE.out]; exact HS.out, HL.out⟩
                case false =>
                  have HS := Lib.hid S7
                  have HE : Hid (¬ hs2.headD [] = [42]) := by have := HQ1.out.symm; simp only [decide_eq_false_iff_not] at this; exact this
                  clear L7 S7 HQ1 hq2
                  go_wp2_with fail
                  go_meet
                  case rel => exact ⟨by rw [← HSD2.out, if_neg HE.out]; exact HS.out, HL7.out⟩
              case rest =>
                clear S7 L7 c0 hq1 hq2 HQ1 HQ2
                obtain ⟨S7, L7⟩ := hcut
                -- the copies
                have h0l : hs2.length - 1 < hs2.length := by omega
                have c0 : wc.cell? ⟨g7, hs2.length - 1, none⟩ = some (.string ⟨(hs2[hs2.length - 1]'h0l).toArray⟩) := by
                  rw [L7.cell]; exact texts_at2 hs2 _ _ h0l
                have ht := Hhs2.out (hs2[hs2.length - 1]'h0l) (List.getElem_mem _)
                obtain ⟨z1, hte⟩ : ∃ t : ByteArray, t = ⟨(hs2[hs2.length - 1]'h0l).toArray⟩ := ⟨_, rfl⟩
                have hbz1 : bl z1 = hs2[hs2.length - 1]'h0l := by rw [hte, bl_mk]
                rw [← hte] at c0
                have hzz1 : z1.size ≤ 40 := by rw [← bl_size, hbz1]; exact ht
                clear hte ht
                have HLA := Lib.hid (last_at hh1)
                rw [← hbz1] at HLA
                have hw9 : IntKind.i64.wrap ((hs2.length : Int) - 1) = ((hs2.length - 1 : Nat) : Int) := by rw [IntWalk.i64_in _ (by omega)]; omega
                have hi5 : ((hs2.length - 1 : Nat) : Int) < (hs2.length : Int) := by omega
                have hi6 : (0 : Int) ≤ ((hs2.length - 1 : Nat) : Int) := by omega
                have HVZ : Hid (hs2[hs2.length - 1]'h0l = bl z1) := hbz1.symm
                clear hbz1
                go_upto_region 19 with fail
                go_cut [81] (fun s81 wx => (∃ b : Bool, s81 = .bool b ∧ Hid (b = decide (hs2.length = 2 ∧ 1 < z1.size))) ∧ wc = wx)
                case first =>
                  have HS7 := Lib.hid S7
                  have HL7 := Lib.hid L7
                  clear S7 L7 c0
                  by_cases h2 : hs2.length = 2
                  · have e2 : ((hs2.length : Int) == 2) = true := by simp; omega
                    have H2 := Lib.hid h2
                    clear h2
                    by_cases hn1 : 1 < z1.size
                    · have e3 : (1 : Int) < (z1.size : Int) := by omega
                      have HN := Lib.hid hn1
                      go_wp2_with fail
                      go_meet
                      case rel => exact ⟨⟨true, rfl, by rw [Hid]; simp [H2.out, HN.out]⟩, rfl⟩
                    · have e3 : ¬ (1 : Int) < (z1.size : Int) := by omega
                      have HN := Lib.hid hn1
                      go_wp2_with fail
                      go_meet
                      case rel => exact ⟨⟨false, rfl, by rw [Hid]; simp [HN.out]⟩, rfl⟩
                  · have e2 : ((hs2.length : Int) == 2) = false := by rw [beq_eq_false_iff_ne]; omega
                    have H2 := Lib.hid h2
                    clear h2
                    go_wp2_with fail
                    go_meet
                    case rel => exact ⟨⟨false, rfl, by rw [Hid]; simp [H2.out]⟩, rfl⟩
                case rest =>
                  obtain ⟨⟨b3, rfl, hb3⟩, rfl⟩ := hcut
                  go_upto_if 81 with fail
                  go_cut [] (fun wx => PRd w wx g4 { s := sd2, c := if hs2.length = 2 ∧ 1 < z1.size then numD ((bl z1).take (z1.size - 1)) else 1, f := gs, p := price, A := none, cap := 0 } v)
                  case first =>
                    cases b3
                    case true =>
                      have h2 := hb3.out.symm
                      simp only [decide_eq_true_eq] at h2
                      obtain ⟨h2, hn1⟩ := h2
                      have c1 : wc.cell? ⟨g7, 1, none⟩ = some (.string z1) := by
                        rw [L7.cell]
                        refine (texts_at2 hs2 _ 1 (by omega)).trans (congrArg some ?_)
                        have e9 : hs2[1]'(by omega) = bl z1 := by rw [← HVZ.out]; congr 1; omega
                        rw [e9]; exact congrArg Value.string (bl_ext rfl).symm
                      have hi7 : (1 : Int) < (hs2.length : Int) := by omega
                      have hw8 : IntKind.i64.wrap ((z1.size : Int) - 1) = ((z1.size - 1 : Nat) : Int) := by rw [IntWalk.i64_in _ (by omega)]; omega
                      have hi8 : ((z1.size - 1 : Nat) : Int) ≤ (z1.size : Int) := by omega
                      have hi9 : (0 : Int) ≤ ((z1.size - 1 : Nat) : Int) := by omega
                      obtain ⟨z2, hz2⟩ : ∃ x, z1.extract 0 (z1.size - 1) = x := ⟨_, rfl⟩
                      have hbz2 : bl z2 = (bl z1).take (z1.size - 1) := by rw [← hz2, bl_extract]; simp
                      have hzz2 : z2.size ≤ 40 := by rw [← bl_size, hbz2, List.length_take, bl_size]; omega
                      have HR := Lib.hid (fun W => l1Read_any z2 W (by omega))
                      have HBZ := Lib.hid hbz2
                      have HN := Lib.hid (And.intro h2 hn1)
                      have HS7 := Lib.hid S7
                      clear S7 L7 c0 h2 hn1 hbz2 hb3
                      go_wp2_with fail
                      refine (HR.out _).mono ?_
                      rintro e w8 ⟨rfl, hb8⟩
                      have S8 := HS7.out.below hb8
                      clear HS7 hb8 c1 HR
                      have K := S8.now
                      have d0 := K.cell 0
                      have d1 := K.cell 1
                      have d2 := K.cell 2
                      have d3 := K.cell 3
                      simp only [List.getElem?_cons_zero, List.getElem?_cons_succ] at d0 d1 d2 d3
                      have fd0 := K.frozen 0
                      have fd1 := K.frozen 1
                      have fd2 := K.frozen 2
                      have fd3 := K.frozen 3
                      have gw : w8.grownBy (w8.setCell ⟨g4, 1, none⟩ (.int .i64 (numD (bl z2)))) (some g4) := grown_set (World.grownBy.refl _ _)
                      have kw := K.set 1 (.int .i64 (numD (bl z2)))
                      have HS := Lib.hid (S8.put (y := { s := sd2, c := numD (bl z2), f := gs, p := price, A := none, cap := 0 }) gw kw rfl)
                      clear gw kw K
                      go_wp2_with fail
                      go_meet
                      case rel => rw [if_pos HN.out, ← HBZ.out]; exact HS.out
                    case false =>
                      have HN : Hid (¬ (hs2.length = 2 ∧ 1 < z1.size)) := by have := hb3.out.symm; simp only [decide_eq_false_iff_not] at this; exact this
                      have HS7 := Lib.hid S7
                      clear S7 L7 c0 hb3
                      go_wp2_with fail
                      go_meet
                      case rel => rw [if_neg HN.out]; exact HS7.out
                  case rest =>
                    clear S7 L7 c0 hb3
                    generalize hcop : (if hs2.length = 2 ∧ 1 < z1.size then numD ((bl z1).take (z1.size - 1)) else 1) = cop at hcut
                    have HCOP := Lib.hid hcop
                    clear hcop
                    have S10 := hcut
                    obtain ⟨A, cc, hv⟩ := ownsRow_slice S10.row
                    subst hv
                    obtain ⟨X, hX⟩ : ∃ X : Ph, X = { s := sd2, c := cop, f := gs, p := price, A := A, cap := cc } := ⟨_, rfl⟩
                    have HPD : Hid (specD (bl s) = X.ph) := by
                      rw [hX]
                      exact specD_is HPS.out HPR.out HH1.out HFS.out HFF.out HH2.out HHS.out HSD.out HSD2.out HLA.out (bl_size z1) HCOP.out
                    have S : PRd w wc g4 X (.slice X.A X.f.length X.cap) := by rw [hX]; exact ⟨S10.bl, S10.lw, S10.out, S10.now, S10.row, S10.hg⟩
                    clear hcut S10 hX HPR HH1 HFS HFF HH2 HHS HSD HSD2 HLA HCOP HPS HVZ HV HVS Hps Hfs Hhs2
                    have HLW := Lib.hid S.now_lw
                    have HXR : Hid (IntsR wc wc.heap.size X.A X.f) := (OwnS.of S.row).reads
                    have K := S.now
                    have HSX := Lib.hid S
                    have hg24 : w.heap.size < g4 := S.hg
                    clear S
                    go_upto_region 21 with fail
                    cases hok : X.ok with
                    | false =>
                      have HRD : Hid (readD (bl s) = none) := by
                        rw [readD_spec, HPD.out, if_neg (by rw [← ok_okD, hok]; simp)]; rfl
                      refine wp_region_factsR (Sw 9 (fun W9 => Below wc.heap.size wc W9) (fun W9 => wc.grownBy W9 (some w.heap.size) ∧ Lies W9 w.heap.size 24 [.int .i64 X.s, .int .i64 X.c, .slice X.A X.f.length X.cap, .int .i64 X.p])) (fun i w1 w2 => i ∉ [9] → Below w1.heap.size w1 w2) (by kernel_rfl) (by kernel_rfl) (by kernel_rfl) (Sw.start (Below.refl _ _).drew) ?_
                      simp only [fillOps, Act.put, List.setIfInBounds_toArray, List.set_cons_zero, List.set_cons_succ, Nat.zero_add, Nat.reduceAdd]
                      apply wpFactsR_val
                      case h1 =>
                        intro vs L9 w9 hG9 hC9 hB K9 hK9
                        replace hC9 := hC9.before hG9 (by kernel_rfl)
                        have q0 : w9.cell? ⟨g4, 0, none⟩ = some (.int .i64 X.s) := (K.below hC9 K.lt).cell 0
                        have q1 : w9.cell? ⟨g4, 1, none⟩ = some (.int .i64 X.c) := (K.below hC9 K.lt).cell 1
                        have q2 : w9.cell? ⟨g4, 2, none⟩ = some (.slice X.A X.f.length X.cap) := (K.below hC9 K.lt).cell 2
                        have q3 : w9.cell? ⟨g4, 3, none⟩ = some (.int .i64 X.p) := (K.below hC9 K.lt).cell 3
                        simp only [Act.put, List.setIfInBounds_toArray, List.set_cons_zero, List.set_cons_succ] at hK9
                        go_simp
                        exact hK9 _ _ rfl (Sw.stay hG9 (by kernel_rfl) (by decide) hC9) (fun _ => Below.refl _ _)
                      apply wpFactsR_val
                      case h1 =>
                        intro vs L9 w9 hG9 hC9 hB K9 hK9
                        replace hC9 := hC9.before hG9 (by kernel_rfl)
                        have q0 : w9.cell? ⟨g4, 0, none⟩ = some (.int .i64 X.s) := (K.below hC9 K.lt).cell 0
                        have q1 : w9.cell? ⟨g4, 1, none⟩ = some (.int .i64 X.c) := (K.below hC9 K.lt).cell 1
                        have q2 : w9.cell? ⟨g4, 2, none⟩ = some (.slice X.A X.f.length X.cap) := (K.below hC9 K.lt).cell 2
                        have q3 : w9.cell? ⟨g4, 3, none⟩ = some (.int .i64 X.p) := (K.below hC9 K.lt).cell 3
                        simp only [Act.put, List.setIfInBounds_toArray, List.set_cons_zero, List.set_cons_succ] at hK9
                        go_simp
                        exact hK9 _ _ rfl (Sw.stay hG9 (by kernel_rfl) (by decide) hC9) (fun _ => Below.refl _ _)
                      refine wpFactsR_val (.bool false) (fun vs L9 w9 hG9 hC9 hB K9 hK9 => ?_) ?_
                      next =>
                        replace hC9 := hC9.before hG9 (by kernel_rfl)
                        have d1 := FactN.eq (hB 1 _ (by kernel_rfl) (by kernel_rfl) rfl (by decide))
                        simp only [d1] at hK9 ⊢
                        go_simp
                        refine (l30One_any X w9 (SlcR.below HXR.out hC9 |>.mono hC9.size)).mono ?_
                        rintro en w8 ⟨rfl, hb8⟩
                        rw [hok]
                        exact hK9 _ _ rfl (Sw.stay hG9 (by kernel_rfl) (by decide) (bthen hC9 hb8)) (fun _ => hb8)
                      apply wpFactsR_val
                      case h1 =>
                        intro vs L9 w9 hG9 hC9 hB K9 hK9
                        replace hC9 := hC9.before hG9 (by kernel_rfl)
                        have d2 := FactN.eq (hB 2 _ (by kernel_rfl) (by kernel_rfl) rfl (by decide))
                        simp only [d2] at hK9 ⊢
                        simp only [Act.put, List.setIfInBounds_toArray, List.set_cons_zero, List.set_cons_succ] at hK9
                        go_simp
                        exact hK9 _ _ rfl (Sw.stay hG9 (by kernel_rfl) (by decide) hC9) (fun _ => Below.refl _ _)
                      refine wpFactsR_val (undef) (fun vs L9 w9 hG9 hC9 hB K9 hK9 => ?_) ?_
                      next =>
                        replace hC9 := hC9.before hG9 (by kernel_rfl)
                        have d3 := FactN.eq (hB 3 _ (by kernel_rfl) (by kernel_rfl) rfl (by decide))
                        simp only [d3] at hK9 ⊢
                        go_simp
                        exact hK9 _ _ rfl (Sw.stay hG9 (by kernel_rfl) (by decide) hC9) (fun _ => Below.refl _ _)
                      refine wpFactsR_val (undef) (fun vs L9 w9 hG9 hC9 hB K9 hK9 => ?_) ?_
                      next =>
                        replace hC9 := hC9.before hG9 (by kernel_rfl)
                        have d4 := FactN.eq (hB 4 _ (by kernel_rfl) (by kernel_rfl) rfl (by decide))
                        have d3 := FactN.eq (hB 3 _ (by kernel_rfl) (by kernel_rfl) rfl (by decide))
                        simp only [d4, d3] at hK9 ⊢
                        go_simp
                        exact hK9 _ _ rfl (Sw.stay hG9 (by kernel_rfl) (by decide) hC9) (fun _ => Below.refl _ _)
                      refine wpFactsR_val (undef) (fun vs L9 w9 hG9 hC9 hB K9 hK9 => ?_) ?_
                      next =>
                        have d3 := FactN.eq (hB 3 _ (by kernel_rfl) (by kernel_rfl) rfl (by decide))
                        simp only [d3] at hK9 ⊢
                        have HC9 := Lib.hid hC9
                        clear hC9
                        go_simp
                        exact hK9 _ _ rfl (Sw.both (by decide) (fun h => h) (fun h => h) HC9.out) (fun _ => Below.refl _ _)
                      refine wpFactsR_val (undef) (fun vs L9 w9 hG9 hC9 hB K9 hK9 => ?_) ?_
                      next =>
                        have d5 := FactN.eq (hB 5 _ (by kernel_rfl) (by kernel_rfl) rfl (by decide))
                        have d6 := FactN.eq (hB 6 _ (by kernel_rfl) (by kernel_rfl) rfl (by decide))
                        have d3 := FactN.eq (hB 3 _ (by kernel_rfl) (by kernel_rfl) rfl (by decide))
                        simp only [d5, d6, d3] at hK9 ⊢
                        have HC9 := Lib.hid hC9
                        clear hC9
                        go_simp
                        exact hK9 _ _ rfl (Sw.both (by decide) (fun h => h) (fun h => h) HC9.out) (fun _ => Below.refl _ _)
                      apply wpFactsR_val
                      case h1 =>
                        intro vs L9 w9 hG9 hC9 hB K9 hK9
                        have d3 := FactN.eq (hB 3 _ (by kernel_rfl) (by kernel_rfl) rfl (by decide))
                        have d7 := FactN.eq (hB 7 _ (by kernel_rfl) (by kernel_rfl) rfl (by decide))
                        simp only [d3, d7] at hK9 ⊢
                        simp only [Act.put, List.setIfInBounds_toArray, List.set_cons_zero, List.set_cons_succ] at hK9
                        have HC9 := Lib.hid hC9
                        clear hC9
                        go_simp
                        exact hK9 _ _ rfl (Sw.both (by decide) (fun h => h) (fun h => h) HC9.out) (fun _ => Below.refl _ _)
                      refine wpFactsR_val (undef) (fun vs L9 w9 hG9 hC9 hB K9 hK9 => ?_) ?_
                      next =>
                        replace hC9 := hC9.here hG9
                        have d0 := FactN.eq (hB 0 _ (by kernel_rfl) (by kernel_rfl) rfl (by decide))
                        simp only [d0] at hK9 ⊢
                        have KO := HSX.out.out.below hC9 HSX.out.out.lt
                        have y0 := KO.cell 0
                        have y1 := KO.cell 1
                        have y2 := KO.cell 2
                        have y3 := KO.cell 3
                        simp only [List.getElem?_cons_zero, List.getElem?_cons_succ] at y0 y1 y2 y3
                        have f0 := KO.frozen 0
                        have f1 := KO.frozen 1
                        have f2 := KO.frozen 2
                        have f3 := KO.frozen 3
                        have hG8 := Lib.hid (grown_trans (grownB hC9 (some w.heap.size)) (grown_set (g := w.heap.size) (i := 3) (u := .int .i64 X.p) (grown_set (g := w.heap.size) (i := 2) (u := .slice X.A X.f.length X.cap) (grown_set (g := w.heap.size) (i := 1) (u := .int .i64 X.c) (grown_set (g := w.heap.size) (i := 0) (u := .int .i64 X.s) (World.grownBy.refl _ _))))))
                        have hN8 := Lib.hid (show Lies _ w.heap.size 24 [.int .i64 X.s, .int .i64 X.c, .slice X.A X.f.length X.cap, .int .i64 X.p] from ((((KO.set 0 (.int .i64 X.s)).set 1 (.int .i64 X.c)).set 2 (.slice X.A X.f.length X.cap)).set 3 (.int .i64 X.p)))
                        clear KO
                        go_simp
                        exact hK9 _ _ rfl (Sw.turn ⟨hG8.out, hN8.out⟩) (fun hq => (hq (by decide)).elim)
                      apply wpFactsR_val
                      case h1 =>
                        intro vs L9 w9 hG9 hC9 hB K9 hK9
                        replace hC9 := hC9.after hG9 (by kernel_rfl)
                        have d8 := FactN.eq (hB 8 _ (by kernel_rfl) (by kernel_rfl) rfl (by decide))
                        simp only [d8] at hK9 ⊢
                        simp only [Act.put, List.setIfInBounds_toArray, List.set_cons_zero, List.set_cons_succ] at hK9
                        go_simp
                        exact hK9 _ _ rfl (Sw.on hG9 (by kernel_rfl) hC9) (fun _ => Below.refl _ _)
                      refine wpFactsR_nil fun vs L9 w9 hL9 hC9 hB => ?_
                      replace hC9 := hC9.done hL9 (by decide)
                      obtain ⟨hG, LS⟩ := hC9
                      have d10 := FactN.eq (hB 10 _ rfl rfl (by decide))
                      simp only [d10]
                      have OO := Lib.hid ((OwnS.of HSX.out.row).ne hG ((OwnS.of HSX.out.row).off HSX.out.out ne_int_ph))
                      have BB := Lib.hid (bel_grow HSX.out.bl hG (Nat.le_refl _) (Nat.le_refl _))
                      have HLS := Lib.hid LS
                      clear hB hL9 d10 hG LS K
                      repeat (first | go_values | go_skip | go_guarded | go_step | go_upon | simp only [])
                      have LS := HLS.out
                      have x0 := LS.cell 0
                      have x1 := LS.cell 1
                      have x2 := LS.cell 2
                      have x3 := LS.cell 3
                      simp only [List.getElem?_cons_zero, List.getElem?_cons_succ] at x0 x1 x2 x3
                      refine bodyPost_ret (v := .tuple #[.agg #[.int .i64 X.s, .int .i64 X.c, .slice X.A X.f.length X.cap, .int .i64 X.p], .bool false]) (by simp [results, Tryd.results15, go_sem, x0, x1, x2, x3]) rfl ?_
                      exact ⟨X, false, rfl, HRD.out, OO.out, BB.out⟩
                    | true =>
                      have HOK := Lib.hid hok
                      have HSH := Lib.hid (fun W (h : IntsR W W.heap.size X.A X.f) => l30Short_any X W h HOK.out)
                      obtain ⟨sx, hsx⟩ : ∃ x : ByteArray, x = ⟨(shortT X).toArray⟩ := ⟨_, rfl⟩
                      have hbx : bl sx = shortD X.ph := by rw [hsx, bl_mk]; rfl
                      rw [← hsx] at HSH
                      clear hsx
                      obtain ⟨q, hq⟩ : ∃ b : Bool, (sx.toList == s.toList) = b := ⟨_, rfl⟩
                      have HRD : Hid (readD (bl s) = if q = true then some X.ph else none) := by
                        rw [← hq, str_beqL, hbx, readD_spec, HPD.out]
                        by_cases h : shortD X.ph = bl s
                        · rw [if_pos ⟨HOK.out, h⟩, decide_eq_true h]; rfl
                        · rw [if_neg (fun h2 => h h2.2), decide_eq_false h]; rfl
                      clear hbx
                      refine wp_region_factsR (Sw 9 (fun W9 => Below wc.heap.size wc W9) (fun W9 => wc.grownBy W9 (some w.heap.size) ∧ Lies W9 w.heap.size 24 [.int .i64 X.s, .int .i64 X.c, .slice X.A X.f.length X.cap, .int .i64 X.p])) (fun i w1 w2 => i ∉ [9] → Below w1.heap.size w1 w2) (by kernel_rfl) (by kernel_rfl) (by kernel_rfl) (Sw.start (Below.refl _ _).drew) ?_
                      simp only [fillOps, Act.put, List.setIfInBounds_toArray, List.set_cons_zero, List.set_cons_succ, Nat.zero_add, Nat.reduceAdd]
                      apply wpFactsR_val
                      case h1 =>
                        intro vs L9 w9 hG9 hC9 hB K9 hK9
                        replace hC9 := hC9.before hG9 (by kernel_rfl)
                        have q0 : w9.cell? ⟨g4, 0, none⟩ = some (.int .i64 X.s) := (K.below hC9 K.lt).cell 0
                        have q1 : w9.cell? ⟨g4, 1, none⟩ = some (.int .i64 X.c) := (K.below hC9 K.lt).cell 1
                        have q2 : w9.cell? ⟨g4, 2, none⟩ = some (.slice X.A X.f.length X.cap) := (K.below hC9 K.lt).cell 2
                        have q3 : w9.cell? ⟨g4, 3, none⟩ = some (.int .i64 X.p) := (K.below hC9 K.lt).cell 3
                        simp only [Act.put, List.setIfInBounds_toArray, List.set_cons_zero, List.set_cons_succ] at hK9
                        go_simp
                        exact hK9 _ _ rfl (Sw.stay hG9 (by kernel_rfl) (by decide) hC9) (fun _ => Below.refl _ _)
                      apply wpFactsR_val
                      case h1 =>
                        intro vs L9 w9 hG9 hC9 hB K9 hK9
                        replace hC9 := hC9.before hG9 (by kernel_rfl)
                        have q0 : w9.cell? ⟨g4, 0, none⟩ = some (.int .i64 X.s) := (K.below hC9 K.lt).cell 0
                        have q1 : w9.cell? ⟨g4, 1, none⟩ = some (.int .i64 X.c) := (K.below hC9 K.lt).cell 1
                        have q2 : w9.cell? ⟨g4, 2, none⟩ = some (.slice X.A X.f.length X.cap) := (K.below hC9 K.lt).cell 2
                        have q3 : w9.cell? ⟨g4, 3, none⟩ = some (.int .i64 X.p) := (K.below hC9 K.lt).cell 3
                        simp only [Act.put, List.setIfInBounds_toArray, List.set_cons_zero, List.set_cons_succ] at hK9
                        go_simp
                        exact hK9 _ _ rfl (Sw.stay hG9 (by kernel_rfl) (by decide) hC9) (fun _ => Below.refl _ _)
                      refine wpFactsR_val (.bool true) (fun vs L9 w9 hG9 hC9 hB K9 hK9 => ?_) ?_
                      next =>
                        replace hC9 := hC9.before hG9 (by kernel_rfl)
                        have d1 := FactN.eq (hB 1 _ (by kernel_rfl) (by kernel_rfl) rfl (by decide))
                        simp only [d1] at hK9 ⊢
                        go_simp
                        refine (l30One_any X w9 (SlcR.below HXR.out hC9 |>.mono hC9.size)).mono ?_
                        rintro en w8 ⟨rfl, hb8⟩
                        rw [hok]
                        exact hK9 _ _ rfl (Sw.stay hG9 (by kernel_rfl) (by decide) (bthen hC9 hb8)) (fun _ => hb8)
                      apply wpFactsR_val
                      case h1 =>
                        intro vs L9 w9 hG9 hC9 hB K9 hK9
                        replace hC9 := hC9.before hG9 (by kernel_rfl)
                        have d2 := FactN.eq (hB 2 _ (by kernel_rfl) (by kernel_rfl) rfl (by decide))
                        simp only [d2] at hK9 ⊢
                        simp only [Act.put, List.setIfInBounds_toArray, List.set_cons_zero, List.set_cons_succ] at hK9
                        go_simp
                        exact hK9 _ _ rfl (Sw.stay hG9 (by kernel_rfl) (by decide) hC9) (fun _ => Below.refl _ _)
                      apply wpFactsR_val
                      case h1 =>
                        intro vs L9 w9 hG9 hC9 hB K9 hK9
                        replace hC9 := hC9.before hG9 (by kernel_rfl)
                        have d3 := FactN.eq (hB 3 _ (by kernel_rfl) (by kernel_rfl) rfl (by decide))
                        simp only [d3] at hK9 ⊢
                        have q0 : w9.cell? ⟨g4, 0, none⟩ = some (.int .i64 X.s) := (K.below hC9 K.lt).cell 0
                        have q1 : w9.cell? ⟨g4, 1, none⟩ = some (.int .i64 X.c) := (K.below hC9 K.lt).cell 1
                        have q2 : w9.cell? ⟨g4, 2, none⟩ = some (.slice X.A X.f.length X.cap) := (K.below hC9 K.lt).cell 2
                        have q3 : w9.cell? ⟨g4, 3, none⟩ = some (.int .i64 X.p) := (K.below hC9 K.lt).cell 3
                        simp only [Act.put, List.setIfInBounds_toArray, List.set_cons_zero, List.set_cons_succ] at hK9
                        go_simp
                        exact hK9 _ _ rfl (Sw.stay hG9 (by kernel_rfl) (by decide) hC9) (fun _ => Below.refl _ _)
                      refine wpFactsR_val (.string sx) (fun vs L9 w9 hG9 hC9 hB K9 hK9 => ?_) ?_
                      next =>
                        replace hC9 := hC9.before hG9 (by kernel_rfl)
                        have d4 := FactN.eq (hB 4 _ (by kernel_rfl) (by kernel_rfl) rfl (by decide))
                        have d3 := FactN.eq (hB 3 _ (by kernel_rfl) (by kernel_rfl) rfl (by decide))
                        simp only [d4, d3] at hK9 ⊢
                        go_simp
                        refine (HSH.out w9 (SlcR.below HXR.out hC9 |>.mono hC9.size)).mono ?_
                        rintro en w8 ⟨rfl, hb8⟩
                        exact hK9 _ _ rfl (Sw.stay hG9 (by kernel_rfl) (by decide) (bthen hC9 hb8)) (fun _ => hb8)
                      apply wpFactsR_val
                      case h1 =>
                        intro vs L9 w9 hG9 hC9 hB K9 hK9
                        have d3 := FactN.eq (hB 3 _ (by kernel_rfl) (by kernel_rfl) rfl (by decide))
                        simp only [d3] at hK9 ⊢
                        simp only [Act.put, List.setIfInBounds_toArray, List.set_cons_zero, List.set_cons_succ] at hK9
                        have HC9 := Lib.hid hC9
                        clear hC9
                        go_simp
                        exact hK9 _ _ rfl (Sw.both (by decide) (fun h => h) (fun h => h) HC9.out) (fun _ => Below.refl _ _)
                      apply wpFactsR_val
                      case h1 =>
                        intro vs L9 w9 hG9 hC9 hB K9 hK9
                        have d5 := FactN.eq (hB 5 _ (by kernel_rfl) (by kernel_rfl) rfl (by decide))
                        have d6 := FactN.eq (hB 6 _ (by kernel_rfl) (by kernel_rfl) rfl (by decide))
                        have d3 := FactN.eq (hB 3 _ (by kernel_rfl) (by kernel_rfl) rfl (by decide))
                        simp only [d5, d6, d3] at hK9 ⊢
                        simp only [Act.put, List.setIfInBounds_toArray, List.set_cons_zero, List.set_cons_succ] at hK9
                        have HC9 := Lib.hid hC9
                        clear hC9
                        go_simp
                        exact hK9 _ _ rfl (Sw.both (by decide) (fun h => h) (fun h => h) HC9.out) (fun _ => Below.refl _ _)
                      apply wpFactsR_val
                      case h1 =>
                        intro vs L9 w9 hG9 hC9 hB K9 hK9
                        have d3 := FactN.eq (hB 3 _ (by kernel_rfl) (by kernel_rfl) rfl (by decide))
                        have d7 := FactN.eq (hB 7 _ (by kernel_rfl) (by kernel_rfl) rfl (by decide))
                        simp only [d3, d7] at hK9 ⊢
                        simp only [Act.put, List.setIfInBounds_toArray, List.set_cons_zero, List.set_cons_succ] at hK9
                        have HC9 := Lib.hid hC9
                        clear hC9
                        go_simp
                        exact hK9 _ _ rfl (Sw.both (by decide) (fun h => h) (fun h => h) HC9.out) (fun _ => Below.refl _ _)
                      refine wpFactsR_val (undef) (fun vs L9 w9 hG9 hC9 hB K9 hK9 => ?_) ?_
                      next =>
                        replace hC9 := hC9.here hG9
                        have d0 := FactN.eq (hB 0 _ (by kernel_rfl) (by kernel_rfl) rfl (by decide))
                        simp only [d0] at hK9 ⊢
                        have KO := HSX.out.out.below hC9 HSX.out.out.lt
                        have y0 := KO.cell 0
                        have y1 := KO.cell 1
                        have y2 := KO.cell 2
                        have y3 := KO.cell 3
                        simp only [List.getElem?_cons_zero, List.getElem?_cons_succ] at y0 y1 y2 y3
                        have f0 := KO.frozen 0
                        have f1 := KO.frozen 1
                        have f2 := KO.frozen 2
                        have f3 := KO.frozen 3
                        have hG8 := Lib.hid (grown_trans (grownB hC9 (some w.heap.size)) (grown_set (g := w.heap.size) (i := 3) (u := .int .i64 X.p) (grown_set (g := w.heap.size) (i := 2) (u := .slice X.A X.f.length X.cap) (grown_set (g := w.heap.size) (i := 1) (u := .int .i64 X.c) (grown_set (g := w.heap.size) (i := 0) (u := .int .i64 X.s) (World.grownBy.refl _ _))))))
                        have hN8 := Lib.hid (show Lies _ w.heap.size 24 [.int .i64 X.s, .int .i64 X.c, .slice X.A X.f.length X.cap, .int .i64 X.p] from ((((KO.set 0 (.int .i64 X.s)).set 1 (.int .i64 X.c)).set 2 (.slice X.A X.f.length X.cap)).set 3 (.int .i64 X.p)))
                        clear KO
                        go_simp
                        exact hK9 _ _ rfl (Sw.turn ⟨hG8.out, hN8.out⟩) (fun hq => (hq (by decide)).elim)
                      apply wpFactsR_val
                      case h1 =>
                        intro vs L9 w9 hG9 hC9 hB K9 hK9
                        replace hC9 := hC9.after hG9 (by kernel_rfl)
                        have d8 := FactN.eq (hB 8 _ (by kernel_rfl) (by kernel_rfl) rfl (by decide))
                        simp only [d8] at hK9 ⊢
                        simp only [Act.put, List.setIfInBounds_toArray, List.set_cons_zero, List.set_cons_succ] at hK9
                        go_simp
                        exact hK9 _ _ rfl (Sw.on hG9 (by kernel_rfl) hC9) (fun _ => Below.refl _ _)
                      refine wpFactsR_nil fun vs L9 w9 hL9 hC9 hB => ?_
                      replace hC9 := hC9.done hL9 (by decide)
                      obtain ⟨hG, LS⟩ := hC9
                      have d10 := FactN.eq (hB 10 _ rfl rfl (by decide))
                      simp only [d10]
                      have OO := Lib.hid ((OwnS.of HSX.out.row).ne hG ((OwnS.of HSX.out.row).off HSX.out.out ne_int_ph))
                      have BB := Lib.hid (bel_grow HSX.out.bl hG (Nat.le_refl _) (Nat.le_refl _))
                      have HLS := Lib.hid LS
                      clear hB hL9 d10 hG LS K
                      repeat (first | go_values | go_skip | go_guarded | go_step | go_upon | simp only [])
                      have LS := HLS.out
                      have x0 := LS.cell 0
                      have x1 := LS.cell 1
                      have x2 := LS.cell 2
                      have x3 := LS.cell 3
                      simp only [List.getElem?_cons_zero, List.getElem?_cons_succ] at x0 x1 x2 x3
                      refine bodyPost_ret (v := .tuple #[.agg #[.int .i64 X.s, .int .i64 X.c, .slice X.A X.f.length X.cap, .int .i64 X.p], .bool q]) (by simp [results, Tryd.results15, go_sem, x0, x1, x2, x3]) rfl ?_
                      exact ⟨X, q, rfl, HRD.out, OO.out, BB.out⟩
end Go.Proofs.YtchkjiadnackaaaDoor

/- ParsePhrase, in the program and in the reference. (Printed by gen_parsew.py) -/
namespace Go.Proofs.YtchkjiadnackaaaDoor
open Go.RowKit

/-- What ParsePhrase gives. -/
def GivesP (s : ByteArray) (w : World) (e : Ending) (w' : World) : Prop := ∃ (x : Ph) (ok : Bool), e = .returned (.tuple #[x.val, .bool ok]) ∧ readOf (bl s) = (x.ph, ok) ∧ OwnS w' w.heap.size 3 1 x.A x.f.length (encIs x.f) ∧ Below w.heap.size w w'

set_option maxHeartbeats 2000000 in
theorem implParse_any (s : ByteArray) (w : World) (hs : s.size ≤ 2000000) (hL : LW w) :
    Calls Tryd.prog 6 #[.string s] w (GivesP s w) := by
  have L2 := Lies.new w 24 #[.int .i64 0, .int .i64 0, .slice none 0 0, .int .i64 0]
  have b2 := (Below.refl w.heap.size w).alloc (Nat.le_refl _) (.cells #[.int .i64 0, .int .i64 0, .slice none 0 0, .int .i64 0] 24)
  have HP := Lib.hid (parsePhrase_any s (w.alloc (.cells #[.int .i64 0, .int .i64 0, .slice none 0 0, .int .i64 0] 24)) hs (hL.then b2))
  go_enter Tryd.func6, Tryd.ntmps6
  go_wp2_with fail
  refine HP.out.mono ?_
  rintro e w3 ⟨x, ok, rfl, hrd, ho, hb⟩
  have K2 := L2.below hb L2.lt
  have b3 := bthen b2 hb
  have ho3 := ho.lower (show w.heap.size ≤ _ from b2.size)
  have HRD := Lib.hid hrd
  have HO := Lib.hid ho3
  have HB := Lib.hid b3
  have HFAR := Lib.hid (ho3.off K2 ne_int_ph)
  clear hrd ho ho3 b3 hb b2 L2 HP
  have a0 := K2.cell 0
  have a1 := K2.cell 1
  have a2 := K2.cell 2
  have a3 := K2.cell 3
  simp only [List.getElem?_cons_zero, List.getElem?_cons_succ] at a0 a1 a2 a3
  have fa0 := K2.frozen 0
  have fa1 := K2.frozen 1
  have fa2 := K2.frozen 2
  have fa3 := K2.frozen 3
  obtain ⟨W20, hW20⟩ : ∃ W20, ((((w3.setCell ⟨w.heap.size, 0, none⟩ (.int .i64 x.s)).setCell ⟨w.heap.size, 1, none⟩ (.int .i64 x.c)).setCell ⟨w.heap.size, 2, none⟩ (.slice x.A x.f.length x.cap)).setCell ⟨w.heap.size, 3, none⟩ (.int .i64 x.p)) = W20 := ⟨_, rfl⟩
  have gw : w3.grownBy ((((w3.setCell ⟨w.heap.size, 0, none⟩ (.int .i64 x.s)).setCell ⟨w.heap.size, 1, none⟩ (.int .i64 x.c)).setCell ⟨w.heap.size, 2, none⟩ (.slice x.A x.f.length x.cap)).setCell ⟨w.heap.size, 3, none⟩ (.int .i64 x.p)) (some w.heap.size) := (grown_set (g := w.heap.size) (i := 3) (u := .int .i64 x.p) (grown_set (g := w.heap.size) (i := 2) (u := .slice x.A x.f.length x.cap) (grown_set (g := w.heap.size) (i := 1) (u := .int .i64 x.c) (grown_set (g := w.heap.size) (i := 0) (u := .int .i64 x.s) (World.grownBy.refl _ _)))))
  have kw : Lies ((((w3.setCell ⟨w.heap.size, 0, none⟩ (.int .i64 x.s)).setCell ⟨w.heap.size, 1, none⟩ (.int .i64 x.c)).setCell ⟨w.heap.size, 2, none⟩ (.slice x.A x.f.length x.cap)).setCell ⟨w.heap.size, 3, none⟩ (.int .i64 x.p)) w.heap.size 24 [.int .i64 x.s, .int .i64 x.c, .slice x.A x.f.length x.cap, .int .i64 x.p] := K2.set 0 (.int .i64 x.s) |>.set 1 (.int .i64 x.c) |>.set 2 (.slice x.A x.f.length x.cap) |>.set 3 (.int .i64 x.p)
  have BB := Lib.hid (bel_grow HB.out gw (Nat.le_refl _) (Nat.le_refl _))
  have OO := Lib.hid (HO.out.ne gw HFAR.out)
  rw [hW20] at kw BB OO
  have HW20 := Lib.hid hW20
  have HK := Lib.hid kw
  clear gw kw hW20 K2
  repeat (first | go_values | go_skip | go_guarded | go_step | go_upon | simp only [])
  rw [HW20.out]
  have LS := HK.out
  have x0 := LS.cell 0
  have x1 := LS.cell 1
  have x2 := LS.cell 2
  have x3 := LS.cell 3
  simp only [List.getElem?_cons_zero, List.getElem?_cons_succ] at x0 x1 x2 x3
  refine bodyPost_ret (v := .tuple #[.agg #[.int .i64 x.s, .int .i64 x.c, .slice x.A x.f.length x.cap, .int .i64 x.p], .bool ok]) (by simp [results, Tryd.results6, go_sem, x0, x1, x2, x3]) rfl ?_
  exact ⟨x, ok, rfl, HRD.out, OO.out, BB.out⟩

set_option maxHeartbeats 2000000 in
theorem specParse_any (s : ByteArray) (w : World) (hs : s.size ≤ 2000000) (hL : LW w) :
    Calls Tryd.prog 5 #[.string s] w (GivesP s w) := by
  have L2 := Lies.new w 24 #[.int .i64 0, .int .i64 0, .slice none 0 0, .int .i64 0]
  have b2 := (Below.refl w.heap.size w).alloc (Nat.le_refl _) (.cells #[.int .i64 0, .int .i64 0, .slice none 0 0, .int .i64 0] 24)
  have HP := Lib.hid (l30Read_any s (w.alloc (.cells #[.int .i64 0, .int .i64 0, .slice none 0 0, .int .i64 0] 24)) hs (hL.then b2))
  go_enter Tryd.func5, Tryd.ntmps5
  go_wp2_with fail
  refine HP.out.mono ?_
  rintro e w3 ⟨x, ok, rfl, hrd, ho, hb⟩
  have b3 := bthen b2 hb
  have ha := (Below.refl w3.heap.size w3).alloc (Nat.le_refl _) (.cells #[.int .i64 x.s, .int .i64 x.c, .slice x.A x.f.length x.cap, .int .i64 x.p] 24)
  have K2 := (L2.below hb L2.lt).alloc (.cells #[.int .i64 x.s, .int .i64 x.c, .slice x.A x.f.length x.cap, .int .i64 x.p] 24)
  have K4 := Lies.new w3 24 #[.int .i64 x.s, .int .i64 x.c, .slice x.A x.f.length x.cap, .int .i64 x.p]
  have ho3 := (ho.lower (show w.heap.size ≤ _ from b2.size)).then ha
  have HRD := Lib.hid hrd
  have HO := Lib.hid ho3
  have HB := Lib.hid (bthen b3 ha)
  have HFAR := Lib.hid (ho3.off K2 ne_int_ph)
  clear hrd ho ho3 b3 hb b2 L2 HP ha
  go_upto_region 2 with fail
  generalize w3.alloc (.cells #[.int .i64 x.s, .int .i64 x.c, .slice x.A x.f.length x.cap, .int .i64 x.p] 24) = W4 at K2 K4 HO HB HFAR ⊢
  generalize w3.heap.size = g4 at K4 ⊢
  have k0 := K4.cell 0
  have k1 := K4.cell 1
  have k2 := K4.cell 2
  have k3 := K4.cell 3
  simp only [List.getElem?_cons_zero, List.getElem?_cons_succ] at k0 k1 k2 k3
  cases ok
  case false =>
    have HRE : Hid (readOf (bl s) = ((0, 0, [], 0), false)) := by
      have h1 := HRD.out
      unfold readOf Hid
      rw [h1]; rfl
    have a0 := K2.cell 0
    have a1 := K2.cell 1
    have a2 := K2.cell 2
    have a3 := K2.cell 3
    simp only [List.getElem?_cons_zero, List.getElem?_cons_succ] at a0 a1 a2 a3
    have fa0 := K2.frozen 0
    have fa1 := K2.frozen 1
    have fa2 := K2.frozen 2
    have fa3 := K2.frozen 3
    obtain ⟨W20, hW20⟩ : ∃ W20, ((((W4.setCell ⟨w.heap.size, 0, none⟩ (.int .i64 0)).setCell ⟨w.heap.size, 1, none⟩ (.int .i64 0)).setCell ⟨w.heap.size, 2, none⟩ (.slice none 0 0)).setCell ⟨w.heap.size, 3, none⟩ (.int .i64 0)) = W20 := ⟨_, rfl⟩
    have gw : W4.grownBy ((((W4.setCell ⟨w.heap.size, 0, none⟩ (.int .i64 0)).setCell ⟨w.heap.size, 1, none⟩ (.int .i64 0)).setCell ⟨w.heap.size, 2, none⟩ (.slice none 0 0)).setCell ⟨w.heap.size, 3, none⟩ (.int .i64 0)) (some w.heap.size) := (grown_set (g := w.heap.size) (i := 3) (u := .int .i64 0) (grown_set (g := w.heap.size) (i := 2) (u := .slice none 0 0) (grown_set (g := w.heap.size) (i := 1) (u := .int .i64 0) (grown_set (g := w.heap.size) (i := 0) (u := .int .i64 0) (World.grownBy.refl _ _)))))
    have kw : Lies ((((W4.setCell ⟨w.heap.size, 0, none⟩ (.int .i64 0)).setCell ⟨w.heap.size, 1, none⟩ (.int .i64 0)).setCell ⟨w.heap.size, 2, none⟩ (.slice none 0 0)).setCell ⟨w.heap.size, 3, none⟩ (.int .i64 0)) w.heap.size 24 [.int .i64 0, .int .i64 0, .slice none 0 0, .int .i64 0] := K2.set 0 (.int .i64 0) |>.set 1 (.int .i64 0) |>.set 2 (.slice none 0 0) |>.set 3 (.int .i64 0)
    have BB := Lib.hid (bel_grow HB.out gw (Nat.le_refl _) (Nat.le_refl _))
    have OO := Lib.hid ((⟨rfl, by simp, .inl ⟨rfl, rfl⟩⟩ : OwnS ((((W4.setCell ⟨w.heap.size, 0, none⟩ (.int .i64 0)).setCell ⟨w.heap.size, 1, none⟩ (.int .i64 0)).setCell ⟨w.heap.size, 2, none⟩ (.slice none 0 0)).setCell ⟨w.heap.size, 3, none⟩ (.int .i64 0)) w.heap.size 3 1 none 0 []))
    rw [hW20] at kw BB OO
    have HW20 := Lib.hid hW20
    have HK := Lib.hid kw
    clear gw kw hW20 K2
    repeat (first | go_values | go_skip | go_guarded | go_step | go_upon | simp only [])
    rw [HW20.out]
    have LS := HK.out
    have x0 := LS.cell 0
    have x1 := LS.cell 1
    have x2 := LS.cell 2
    have x3 := LS.cell 3
    simp only [List.getElem?_cons_zero, List.getElem?_cons_succ] at x0 x1 x2 x3
    refine bodyPost_ret (v := .tuple #[.agg #[.int .i64 0, .int .i64 0, .slice none 0 0, .int .i64 0], .bool false]) (by simp [results, Tryd.results5, go_sem, x0, x1, x2, x3]) rfl ?_
    exact ⟨{ s := 0, c := 0, f := [], p := 0, A := none, cap := 0 }, false, rfl, HRE.out, OO.out, BB.out⟩
  case true =>
    have HRE : Hid (readOf (bl s) = (x.ph, true)) := by
      have h1 := HRD.out
      unfold readOf Hid
      rw [h1]; rfl
    have a0 := K2.cell 0
    have a1 := K2.cell 1
    have a2 := K2.cell 2
    have a3 := K2.cell 3
    simp only [List.getElem?_cons_zero, List.getElem?_cons_succ] at a0 a1 a2 a3
    have fa0 := K2.frozen 0
    have fa1 := K2.frozen 1
    have fa2 := K2.frozen 2
    have fa3 := K2.frozen 3
    obtain ⟨W20, hW20⟩ : ∃ W20, ((((W4.setCell ⟨w.heap.size, 0, none⟩ (.int .i64 x.s)).setCell ⟨w.heap.size, 1, none⟩ (.int .i64 x.c)).setCell ⟨w.heap.size, 2, none⟩ (.slice x.A x.f.length x.cap)).setCell ⟨w.heap.size, 3, none⟩ (.int .i64 x.p)) = W20 := ⟨_, rfl⟩
    have gw : W4.grownBy ((((W4.setCell ⟨w.heap.size, 0, none⟩ (.int .i64 x.s)).setCell ⟨w.heap.size, 1, none⟩ (.int .i64 x.c)).setCell ⟨w.heap.size, 2, none⟩ (.slice x.A x.f.length x.cap)).setCell ⟨w.heap.size, 3, none⟩ (.int .i64 x.p)) (some w.heap.size) := (grown_set (g := w.heap.size) (i := 3) (u := .int .i64 x.p) (grown_set (g := w.heap.size) (i := 2) (u := .slice x.A x.f.length x.cap) (grown_set (g := w.heap.size) (i := 1) (u := .int .i64 x.c) (grown_set (g := w.heap.size) (i := 0) (u := .int .i64 x.s) (World.grownBy.refl _ _)))))
    have kw : Lies ((((W4.setCell ⟨w.heap.size, 0, none⟩ (.int .i64 x.s)).setCell ⟨w.heap.size, 1, none⟩ (.int .i64 x.c)).setCell ⟨w.heap.size, 2, none⟩ (.slice x.A x.f.length x.cap)).setCell ⟨w.heap.size, 3, none⟩ (.int .i64 x.p)) w.heap.size 24 [.int .i64 x.s, .int .i64 x.c, .slice x.A x.f.length x.cap, .int .i64 x.p] := K2.set 0 (.int .i64 x.s) |>.set 1 (.int .i64 x.c) |>.set 2 (.slice x.A x.f.length x.cap) |>.set 3 (.int .i64 x.p)
    have BB := Lib.hid (bel_grow HB.out gw (Nat.le_refl _) (Nat.le_refl _))
    have OO := Lib.hid (HO.out.ne gw HFAR.out)
    rw [hW20] at kw BB OO
    have HW20 := Lib.hid hW20
    have HK := Lib.hid kw
    clear gw kw hW20 K2
    repeat (first | go_values | go_skip | go_guarded | go_step | go_upon | simp only [])
    rw [HW20.out]
    have LS := HK.out
    have x0 := LS.cell 0
    have x1 := LS.cell 1
    have x2 := LS.cell 2
    have x3 := LS.cell 3
    simp only [List.getElem?_cons_zero, List.getElem?_cons_succ] at x0 x1 x2 x3
    refine bodyPost_ret (v := .tuple #[.agg #[.int .i64 x.s, .int .i64 x.c, .slice x.A x.f.length x.cap, .int .i64 x.p], .bool true]) (by simp [results, Tryd.results5, go_sem, x0, x1, x2, x3]) rfl ?_
    exact ⟨x, true, rfl, HRE.out, OO.out, BB.out⟩
end Go.Proofs.YtchkjiadnackaaaDoor

/- Marks on one phrase's faults, and their reading. -/
namespace Go.Proofs.YtchkjiadnackaaaDoor
open Go.RowKit

set_option maxHeartbeats 1000000 in
theorem markPhrase_any (x : Ph) (B : Nat) (k0 : Int) (w : World) (hk : 0 ≤ k0) (hk' : k0 ≤ 1000) (hn : x.f.length ≤ 1000) (h : OwnS w B 3 1 x.A x.f.length (encIs x.f)) :
    Calls Tryd.prog 8 #[x.val, .int .i64 k0] w fun e w' => e = .returned (.int .i64 (k0 + x.f.length)) ∧ OwnS w' B 3 1 x.A x.f.length (encIs (ramp k0 x.f.length)) ∧ w.grownBy w' (x.A.map (·.block)) := by
  have b1 := (Below.refl w.heap.size w).alloc (Nat.le_refl _) (.cells #[.int .i64 x.s, .int .i64 x.c, .slice x.A x.f.length x.cap, .int .i64 x.p] 24)
  have L1 := Lies.new w 24 #[.int .i64 x.s, .int .i64 x.c, .slice x.A x.f.length x.cap, .int .i64 x.p]
  have h1 := h.then b1
  have g1 := World.grownBy_alloc w (.cells #[.int .i64 x.s, .int .i64 x.c, .slice x.A x.f.length x.cap, .int .i64 x.p] 24) (x.A.map (·.block))
  go_enter Tryd.func8, Tryd.ntmps8
  go_wp2_with fail
  generalize w.alloc (.cells #[.int .i64 x.s, .int .i64 x.c, .slice x.A x.f.length x.cap, .int .i64 x.p] 24) = W1 at b1 L1 h1 g1 ⊢
  generalize w.heap.size = g at L1 ⊢
  have c2 := L1.cell 2
  simp only [List.getElem?_cons_zero, List.getElem?_cons_succ] at c2
  go_wp2_with fail
  refine (markIntS_any x.A x.cap x.f.length B k0 (encIs x.f) W1 (by omega) (by omega) (by omega) h1).mono ?_
  rintro e w2 ⟨rfl, h2, g2⟩
  have HG := Lib.hid (grown_trans g1 g2)
  have HO := Lib.hid h2
  clear g1 g2 h2 h1 b1 L1 c2
  go_wp2_with fail
  go_ret
  exact ⟨rfl, HO.out, HG.out⟩

set_option maxHeartbeats 1000000 in
theorem heldPhrase_any (x : Ph) (B : Nat) (k0 : Int) (w : World) (hk : 0 ≤ k0) (hk' : k0 ≤ 1000) (hn : x.f.length ≤ 1000) (h : OwnS w B 3 1 x.A x.f.length (encIs (ramp k0 x.f.length))) :
    Calls Tryd.prog 9 #[x.val, .int .i64 k0] w fun e w' => e = .returned (.int .i64 (k0 + x.f.length)) ∧ Below w.heap.size w w' := by
  have b1 := (Below.refl w.heap.size w).alloc (Nat.le_refl _) (.cells #[.int .i64 x.s, .int .i64 x.c, .slice x.A x.f.length x.cap, .int .i64 x.p] 24)
  have L1 := Lies.new w 24 #[.int .i64 x.s, .int .i64 x.c, .slice x.A x.f.length x.cap, .int .i64 x.p]
  have h1 := OwnS.held (h.then b1)
  go_enter Tryd.func9, Tryd.ntmps9
  go_wp2_with fail
  generalize w.alloc (.cells #[.int .i64 x.s, .int .i64 x.c, .slice x.A x.f.length x.cap, .int .i64 x.p] 24) = W1 at b1 L1 h1 ⊢
  generalize hg : w.heap.size = g at L1 ⊢
  have c2 := L1.cell 2
  simp only [List.getElem?_cons_zero, List.getElem?_cons_succ] at c2
  go_wp2_with fail
  refine (heldIntS_any x.A x.cap x.f.length k0 W1 (by omega) (by omega) (by omega) h1).mono ?_
  rintro e w2 ⟨rfl, hb2⟩
  have HB := Lib.hid (bthen b1 hb2)
  have i0 : ¬ k0 + (x.f.length : Int) < 0 := by omega
  clear hb2 b1 L1 h1 c2
  go_wp2_with fail
  go_ret
  exact ⟨rfl, HB.out⟩
end Go.Proofs.YtchkjiadnackaaaDoor

/- The law on ParsePhrase. (Printed by gen_lawparse.py) -/
namespace Go.Proofs.YtchkjiadnackaaaDoor
open Go.RowKit

theorem readOf_len (s : List UInt8) : (readOf s).1.2.2.1.length ≤ 9 := by
  unfold readOf
  cases h : readD s with
  | none => simp
  | some x => exact faults9 (okD_iff.1 (readD_is h).1).2.2.1
theorem lies_grown {w w' : World} {B g : Nat} {t t' : TypeId} {A : Option Addr} {n : Nat} {cs cs' : List Value} (hL : Lies w g t' cs') (ho : OwnS w B t 1 A n cs) (hne : t ≠ t') (hg : w.grownBy w' (A.map (·.block))) : Lies w' g t' cs' :=
  hL.kept hg (by
    cases hA : A.map (·.block) with
    | none => simp
    | some b => intro e; injection e with e; exact ho.off hL hne b hA e.symm)
theorem bel_row {w w1 w2 : World} {B : Nat} {t : TypeId} {A : Option Addr} {n : Nat} {cs : List Value} (h : Below B w w1) (ho : OwnS w1 B t 1 A n cs) (hg : w1.grownBy w2 (A.map (·.block))) (hB : B ≤ w.heap.size) : Below B w w2 := by
  cases hA : A.map (·.block) with
  | none => rw [hA] at hg; exact h.trans ⟨hg.os, hg.tape, hg.output, hg.size, fun k hk => hg.block k (by have := h.size; omega) (by simp)⟩
  | some b => rw [hA] at hg; exact bel_grow h hg (ho.ge b hA) hB

set_option maxRecDepth 100000 in
set_option maxHeartbeats 4000000 in
set_option linter.unusedVariables false in
theorem lawParse_any (s : ByteArray) (w : World) (_hz : s.size ≤ 9223372036854775807) (hL : LW w) :
    Calls Tryd.prog 3 #[.string s] w fun e w' => e = .returned (.bool true) ∧ Below w.heap.size w w' := by
  by_cases hbig : 1048576 < s.size
  · have hi : (1048576 : Int) < (s.size : Int) := by omega
    go_enter Tryd.func3, Tryd.ntmps3
    go_wp2_with fail
    go_ret
    exact ⟨rfl, Below.refl _ _⟩
  · have hi : ¬ (1048576 : Int) < (s.size : Int) := by omega
    have hs : s.size ≤ 2000000 := by omega
    clear hbig
    have hr9 := readOf_len (bl s)
    obtain ⟨R, hR⟩ : ∃ R, readOf (bl s) = R := ⟨_, rfl⟩
    rw [hR] at hr9
    have HSP := Lib.hid (fun W (h : LW W) => specParse_any s W hs h)
    have HIP := Lib.hid (fun W (h : LW W) => implParse_any s W hs h)
    have HRR := Lib.hid hR
    clear hR
    go_enter Tryd.func3, Tryd.ntmps3
    go_wp2_with fail
    refine (HSP.out _ hL).mono ?_
    rintro e w1 ⟨x, okx, rfl, hx, ox, b1⟩
    rw [HRR.out] at hx
    have ha1 := (Below.refl w1.heap.size w1).alloc (Nat.le_refl _) (.cells #[.int .i64 x.s, .int .i64 x.c, .slice x.A x.f.length x.cap, .int .i64 x.p] 24)
    have K3 := Lies.new w1 24 #[.int .i64 x.s, .int .i64 x.c, .slice x.A x.f.length x.cap, .int .i64 x.p]
    have hx1 := (ox.then ha1).reads
    have bb1 := bthen b1 ha1
    have hlw1 := Lib.hid (hL.then bb1)
    have HB1 := Lib.hid bb1
    clear ox ha1 b1 bb1
    go_upto_region 4 with fail
    generalize w1.alloc (.cells #[.int .i64 x.s, .int .i64 x.c, .slice x.A x.f.length x.cap, .int .i64 x.p] 24) = W1 at K3 hx1 hlw1 HB1 ⊢
    generalize w1.heap.size = g3 at K3 ⊢
    have HX1 := Lib.hid hx1
    clear hx1
    go_wp2_with fail
    refine (HIP.out _ hlw1.out).mono ?_
    rintro e w2 ⟨y, oky, rfl, hy, oy, b2⟩
    rw [HRR.out] at hy
    have hph : y.ph = x.ph ∧ oky = okx := by rw [hx] at hy; injection hy with h1 h2; exact ⟨h1.symm, h2.symm⟩
    obtain ⟨hph, rfl⟩ := hph
    have ha2 := (Below.refl w2.heap.size w2).alloc (Nat.le_refl _) (.cells #[.int .i64 y.s, .int .i64 y.c, .slice y.A y.f.length y.cap, .int .i64 y.p] 24)
    have K5 := Lies.new w2 24 #[.int .i64 y.s, .int .i64 y.c, .slice y.A y.f.length y.cap, .int .i64 y.p]
    have HO2 := Lib.hid (oy.then ha2)
    have B12 := bthen b2 ha2
    have K3 := K3.below B12 K3.lt
    have hlw2 := Lib.hid (hlw1.out.then B12)
    have HB12 := Lib.hid B12
    have hyn : y.f.length ≤ 9 := by rw [hy] at hr9; exact hr9
    have hboo : ∀ b : Bool, (b != b) = false := by simp
    have e1 := hboo oky
    have HRZ : Hid (R = (x.ph, oky)) := hx
    clear oy ha2 b2 B12 hy hx
    go_upto_region 5 with fail
    generalize w2.alloc (.cells #[.int .i64 y.s, .int .i64 y.c, .slice y.A y.f.length y.cap, .int .i64 y.p] 24) = W2 at K5 HO2 K3 hlw2 HB12 ⊢
    generalize w2.heap.size = g5 at K5 ⊢
    have c0 := K3.cell 0
    have c1 := K3.cell 1
    have c2 := K3.cell 2
    have c3 := K3.cell 3
    simp only [List.getElem?_cons_zero, List.getElem?_cons_succ] at c0 c1 c2 c3
    have d0 := K5.cell 0
    have d1 := K5.cell 1
    have d2 := K5.cell 2
    have d3 := K5.cell 3
    simp only [List.getElem?_cons_zero, List.getElem?_cons_succ] at d0 d1 d2 d3
    have HK3 := Lib.hid K3
    have HK5 := Lib.hid K5
    have HX2 := Lib.hid (SlcR.below HX1.out HB12.out |>.mono HB12.out.size)
    have HSAME : Hid (Ph.same y x = true) := by rw [Ph.same_ph, hph]; simp [Hid]
    have HPH := Lib.hid hph
    clear K3 K5 hph
    go_wp2_with fail
    refine (eqPhrase_any y x W2 HO2.out.reads HX2.out).mono ?_
    rw [HSAME.out]
    rintro e w3 ⟨rfl, b3⟩
    have HB13 := Lib.hid (bthen HB12.out b3)
    have K3 := HK3.out.below b3 HK3.out.lt
    have K5 := HK5.out.below b3 HK5.out.lt
    have HO3 := Lib.hid (HO2.out.then b3)
    have hlw3 := Lib.hid (hlw2.out.then b3)
    clear b3 HK3 HK5 HX2 HO2 HB12 hlw2 c0 c1 c2 c3 d0 d1 d2 d3
    have d0 := K5.cell 0
    have d1 := K5.cell 1
    have d2 := K5.cell 2
    have d3 := K5.cell 3
    simp only [List.getElem?_cons_zero, List.getElem?_cons_succ] at d0 d1 d2 d3
    go_upto_region 8 with fail
    go_wp2_with fail
    refine (markPhrase_any y W1.heap.size 1 w3 (by omega) (by omega) (by omega) HO3.out).mono ?_
    rintro e w4 ⟨rfl, o4, g4⟩
    have HB14 := Lib.hid (bel_row HB13.out HO3.out g4 (Nat.le_refl _))
    have K3 := lies_grown K3 HO3.out ne_int_ph g4
    have K5 := lies_grown K5 HO3.out ne_int_ph g4
    have HO4 := Lib.hid o4
    have hlw4 := Lib.hid (hlw1.out.then HB14.out)
    clear o4 g4 HO3 hlw3 HB13 d0 d1 d2 d3
    have d0 := K5.cell 0
    have d1 := K5.cell 1
    have d2 := K5.cell 2
    have d3 := K5.cell 3
    simp only [List.getElem?_cons_zero, List.getElem?_cons_succ] at d0 d1 d2 d3
    have j1 : ¬ (1 : Int) + (y.f.length : Int) < 0 := by omega
    go_wp2_with fail
    refine (heldPhrase_any y W1.heap.size 1 w4 (by omega) (by omega) (by omega) HO4.out).mono ?_
    rintro e w5 ⟨rfl, b5⟩
    have HB15 := Lib.hid (bthen HB14.out b5)
    have HK3 := Lib.hid (K3.below b5 K3.lt)
    have HK5 := Lib.hid (K5.below b5 K5.lt)
    have HO5 := Lib.hid (HO4.out.then b5)
    have hlw5 := Lib.hid (hlw4.out.then b5)
    clear K3 K5 HO4 HB14 hlw4 b5 d0 d1 d2 d3
    go_wp2_with fail
    refine (HIP.out _ hlw5.out).mono ?_
    rintro e w6 ⟨z, okz, rfl, hz, oz, b6⟩
    rw [HRR.out] at hz
    have hph : z.ph = x.ph ∧ okz = oky := by rw [HRZ.out] at hz; injection hz with h1 h2; exact ⟨h1.symm, h2.symm⟩
    obtain ⟨hph, rfl⟩ := hph
    have ha6 := (Below.refl w6.heap.size w6).alloc (Nat.le_refl _) (.cells #[.int .i64 z.s, .int .i64 z.c, .slice z.A z.f.length z.cap, .int .i64 z.p] 24)
    have K9 := Lies.new w6 24 #[.int .i64 z.s, .int .i64 z.c, .slice z.A z.f.length z.cap, .int .i64 z.p]
    have HO6 := Lib.hid (oz.then ha6)
    have B56 := bthen b6 ha6
    have HB16 := Lib.hid (bthen HB15.out B56)
    have K3 := HK3.out.below B56 HK3.out.lt
    have K5 := HK5.out.below B56 HK5.out.lt
    have HOY := Lib.hid (HO5.out.then B56)
    have e1 := hboo okz
    clear oz ha6 b6 B56 hz HK3 HK5 HO5 HB15 hlw5
    go_upto_region 16 with fail
    generalize w6.alloc (.cells #[.int .i64 z.s, .int .i64 z.c, .slice z.A z.f.length z.cap, .int .i64 z.p] 24) = W6 at K9 HO6 K3 K5 HOY HB16 ⊢
    generalize w6.heap.size = g9 at K9 ⊢
    have c0 := K3.cell 0
    have c1 := K3.cell 1
    have c2 := K3.cell 2
    have c3 := K3.cell 3
    simp only [List.getElem?_cons_zero, List.getElem?_cons_succ] at c0 c1 c2 c3
    have d0 := K9.cell 0
    have d1 := K9.cell 1
    have d2 := K9.cell 2
    have d3 := K9.cell 3
    simp only [List.getElem?_cons_zero, List.getElem?_cons_succ] at d0 d1 d2 d3
    have HK5 := Lib.hid K5
    have HX6 := Lib.hid (SlcR.below HX1.out HB16.out |>.mono HB16.out.size)
    have HSAME : Hid (Ph.same z x = true) := by rw [Ph.same_ph, hph]; simp [Hid]
    clear K3 K5 K9 hph
    go_wp2_with fail
    refine (eqPhrase_any z x W6 HO6.out.reads HX6.out).mono ?_
    rw [HSAME.out]
    rintro e w7 ⟨rfl, b7⟩
    have HB17 := Lib.hid (bthen HB16.out b7)
    have K5 := HK5.out.below b7 HK5.out.lt
    have HO7 := Lib.hid (HOY.out.then b7)
    clear b7 HK5 HX6 HO6 HOY HB16 c0 c1 c2 c3 d0 d1 d2 d3
    have d0 := K5.cell 0
    have d1 := K5.cell 1
    have d2 := K5.cell 2
    have d3 := K5.cell 3
    simp only [List.getElem?_cons_zero, List.getElem?_cons_succ] at d0 d1 d2 d3
    go_upto_region 19 with fail
    go_wp2_with fail
    refine (heldPhrase_any y W1.heap.size 1 w7 (by omega) (by omega) (by omega) HO7.out).mono ?_
    rintro e w8 ⟨rfl, b8⟩
    have HEND := Lib.hid (HB1.out.trans ((bthen HB17.out b8).mono HB1.out.size))
    clear K5 HO7 HB17 b8 d0 d1 d2 d3
    go_wp2_with fail
    go_ret
    exact ⟨rfl, HEND.out⟩
end Go.Proofs.YtchkjiadnackaaaDoor

/- Arguments that came in: from the reader's own reading to plain words (no program in sight). -/
namespace Go.Proofs.YtchkjiadnackaaaDoor
open Go.ChangeShapes Go.WideShapes Go.ChangeAt Go.RowKit Go.Deep

section
variable {H : Type} {enc : TypeId × Value → H} {P : Program} {w : World} {base : Nat} {spare : Nat → Bool} {held : Bool}

/-- The fields of a struct of one-cell fields: place by place. -/
theorem trod_fields {e : TypeId} {fs : Array Field} {n : Nat} {cs : List Value} {x : DataW H × List MemPlace} (he : P.underlying e = some (.struct fs)) (hone : oneCellFields P fs = true) (hC : P.cellsOf e = fs.size)
    (h : DataW.trod enc P w base spare held n e cs = some x) :
    cs.length = fs.size ∧ ∀ (j : Nat) (f : Field), fs[j]? = some f → ∃ v m y, cs[j]? = some v ∧ DataW.trod enc P w base spare held m f.type [v] = some y := by
  obtain ⟨ys, n', _, _, hlen, hyl, hf⟩ := DataW.trod_struct he h
  refine ⟨by rw [hlen, hC], fun j f hj => ?_⟩
  obtain ⟨ho, hk⟩ := hone_of hone j f hj
  have hjl : j < fs.size := (Array.getElem?_eq_some_iff.1 hj).1
  have hjc : j < cs.length := by rw [hlen, hC]; exact hjl
  have h1 := hf j f hj
  rw [ho, hk, List.drop_eq_getElem_cons hjc] at h1
  have hys : ys[j]? = some (ys[j]'(by omega)) := List.getElem?_eq_getElem (by omega)
  exact ⟨_, n', _, List.getElem?_eq_getElem hjc, h1.trans hys⟩

theorem cell_spot {w : World} {a : Addr} {u : Value} (h : w.cell? a = some u) : ∃ b off, a = ⟨b, off, none⟩ ∧ b < w.heap.size := by
  obtain ⟨b, off, sp⟩ := a
  cases sp with
  | none => exact ⟨b, off, rfl, block_lt_of_cell h⟩
  | some s =>
    simp only [World.cell?] at h
    split at h <;> simp_all

/-- A slice that came in, whatever its elements: k cells each; what the reader knows of an element's cells. -/
theorem trod_slc {t e : TypeId} {k n : Nat} {v : Value} {x : DataW H × List MemPlace} (ht : P.underlying t = some (.slice e)) (hk : P.cellsOf e = k) (hk0 : 0 < k)
    (h : DataW.trod enc P w base spare held n t [v] = some x) :
    ∃ A len cap, v = .slice A len cap ∧ ∃ css : List (List Value), css.length = len ∧ SlcR w w.heap.size k A len css.flatten ∧
      ∀ cs ∈ css, cs.length = k ∧ ∃ m y, DataW.trod enc P w base spare held m e cs = some y := by
  rcases open_slice ht h with ⟨h0, _⟩ | ⟨a, len, cap, m, n', D, Pl, hcs, hb, hl, hm, hmm, hx, hi⟩
  · have : v = .slice none 0 0 := by simpa using h0
    exact ⟨none, 0, 0, this, [], rfl, SlcR.nil _ _ _ _, by simp⟩
  · have hv : v = .slice (some a) len cap := by simpa using hcs
    have hle : len ≤ m := by rw [hmm]; split <;> omega
    rw [hk] at hi
    have hsel : ∀ i : Nat, ∃ cs : List Value, cs.length = k ∧ (i < len → (∀ j u, cs[j]? = some u → w.cell? ((a.add (i * k)).add j) = some u) ∧ ∃ m y, DataW.trod enc P w base spare held m e cs = some y) := fun i => by
      by_cases hlt : i < len
      · obtain ⟨cs', hc, ht'⟩ := hi i (by omega)
        obtain ⟨_, hcl, hat⟩ := World.cells?_some hc
        exact ⟨cs', hcl, fun _ => ⟨fun j u hu => by
          have hj : j < cs'.length := (List.getElem?_eq_some_iff.1 hu).1
          rw [hat j (by omega), hu], _, _, ht'⟩⟩
      · exact ⟨List.replicate k undef, by simp, fun h => absurd h hlt⟩
    obtain ⟨f, hf⟩ := Classical.axiomOfChoice hsel
    have hfk : ∀ i, (f i).length = k := fun i => (hf i).1
    have hlen := flat_len f k hfk (List.range len)
    rw [List.length_range, List.flatMap_def] at hlen
    refine ⟨some a, len, cap, hv, (List.range len).map f, by simp, ⟨hlen, by unfold maxLen at hm; omega, fun hpos => ?_⟩, ?_⟩
    · have h00 : (f 0)[0]? = some ((f 0)[0]'(by rw [hfk]; exact hk0)) := List.getElem?_eq_getElem _
      have hc0 := ((hf 0).2 hpos).1 0 _ h00
      rw [Nat.zero_mul] at hc0
      obtain ⟨b, off, rfl, hb'⟩ := cell_spot (a := a) hc0
      refine ⟨b, off, rfl, hb', fun j u hu => ?_⟩
      have hj : j < len * k := by rw [← hlen]; exact (List.getElem?_eq_some_iff.1 hu).1
      have hi' : j / k < len := Nat.div_lt_of_lt_mul (by rw [Nat.mul_comm]; exact hj)
      have hr : j % k < k := Nat.mod_lt _ hk0
      have e : j = j / k * k + j % k := by rw [Nat.mul_comm]; exact (Nat.div_add_mod j k).symm
      have hat := flat_at f k hfk (List.range len) (j / k) (by simpa using hi') (j % k) hr
      rw [List.flatMap_def, ← e, List.getElem_range, hu] at hat
      have hc := ((hf (j / k)).2 hi').1 (j % k) u hat.symm
      have hadd : ((⟨b, off, none⟩ : Addr).add (j / k * k)).add (j % k) = ⟨b, off + j, none⟩ := by
        unfold Addr.add
        by_cases h1 : j / k * k = 0 <;> by_cases h2 : j % k = 0 <;> simp [h1, h2] <;> omega
      rw [hadd] at hc
      exact hc
    · intro cs hcs
      obtain ⟨i, hi, rfl⟩ := List.mem_map.1 hcs
      exact ⟨hfk i, ((hf i).2 (List.mem_range.1 hi)).2⟩
end

/-- A list of lists of cells, each the image of something. -/
theorem lift_list {α : Type} (enc : α → List Value) : ∀ css : List (List Value), (∀ cs ∈ css, ∃ x, cs = enc x) → ∃ l : List α, css.flatten = l.flatMap enc ∧ l.length = css.length
  | [], _ => ⟨[], rfl, rfl⟩
  | cs :: css, h => by
    obtain ⟨x, hx⟩ := h cs (by simp)
    obtain ⟨l, hl, hn⟩ := lift_list enc css (fun c hc => h c (by simp [hc]))
    exact ⟨x :: l, by simp [hl, hx], by simp [hn]⟩

section
variable {H : Type} {enc : TypeId × Value → H} {P : Program} {w : World} {base : Nat} {spare : Nat → Bool} {held : Bool}
/-- A field that is an int. -/
theorem trod_i64 {t : TypeId} {n : Nat} {v : Value} {x : DataW H × List MemPlace} (ht : P.underlying t = some (.int .i64)) (h : DataW.trod enc P w base spare held n t [v] = some x) :
    ∃ m : Int, v = .int .i64 m ∧ -9223372036854775808 ≤ m ∧ m ≤ 9223372036854775807 := by
  obtain ⟨m, e, _, hw⟩ := DataW.trod_int ht h
  refine ⟨m, by simpa using e, ?_⟩
  simp [Lit.wf, IntKind.min, IntKind.max, IntKind.signed, IntKind.bits] at hw
  omega
end

/-- Structs of ints alone. -/
def intFields (P : Program) (fs : Array Field) : Bool := fs.all fun f => match P.underlying f.type with | some (.int .i64) => true | _ => false
theorem intFields_at {P : Program} {fs : Array Field} (h : intFields P fs = true) (j : Nat) (f : Field) (hj : fs[j]? = some f) : P.underlying f.type = some (.int .i64) := by
  have := (Array.all_eq_true_iff_forall_mem.1 h) f (Array.mem_of_getElem? hj)
  split at this
  · assumption
  · cases this

section
variable {H : Type} {enc : TypeId × Value → H} {P : Program} {w : World} {base : Nat} {spare : Nat → Bool} {held : Bool}
theorem trod_int_cells {e : TypeId} {fs : Array Field} {n k : Nat} {cs : List Value} {x : DataW H × List MemPlace} (he : P.underlying e = some (.struct fs)) (hone : oneCellFields P fs = true) (hC : P.cellsOf e = fs.size) (hint : intFields P fs = true) (hk : fs.size = k)
    (h : DataW.trod enc P w base spare held n e cs = some x) : ∃ ns : List Int, ns.length = k ∧ cs = ns.map (Value.int .i64) := by
  obtain ⟨hl, hf⟩ := trod_fields he hone hC h
  subst hk
  refine ⟨cs.map fun v => match v with | .int _ m => m | _ => 0, by simpa using hl, List.ext_getElem? fun j => ?_⟩
  rw [List.getElem?_map, List.getElem?_map]
  by_cases hj : j < cs.length
  · obtain ⟨v, m, y, hv, hy⟩ := hf j (fs[j]'(by omega)) (Array.getElem?_eq_getElem (by omega))
    obtain ⟨z, rfl, _, _⟩ := trod_i64 (intFields_at hint j _ (Array.getElem?_eq_getElem (by omega))) hy
    rw [hv]; rfl
  · rw [List.getElem?_eq_none (by omega)]; rfl

/-- A struct of ints, by value. -/
theorem open_int_struct {t : TypeId} {fs : Array Field} {k b0 : Nat} {r : Reach} {v : Value} {d : DataW H} {p : List MemPlace} (he : P.underlying t = some (.struct fs)) (hone : oneCellFields P fs = true) (hC : P.cellsOf t = fs.size) (hint : intFields P fs = true) (hk : fs.size = k)
    (hv : Value.okWide P w r b0 t v) (h : DataW.Trod enc P w base spare held t v d p) : ∃ ns : List Int, ns.length = k ∧ v = .agg (ns.map (Value.int .i64)).toArray := by
  obtain ⟨cs, rfl, hsz⟩ := okWide_struct he hv
  obtain ⟨n, hn⟩ := h
  obtain ⟨ns, hl, hc⟩ := trod_int_cells he hone hC hint hk hn
  refine ⟨ns, hl, ?_⟩
  rw [← hc]; simp [Value.cells]

/-- A slice of structs of ints. -/
theorem open_int_structs {α : Type} (en : α → List Value) {t e : TypeId} {fs : Array Field} {k b0 : Nat} {r : Reach} {v : Value} {d : DataW H} {p : List MemPlace} (ht : P.underlying t = some (.slice e)) (he : P.underlying e = some (.struct fs)) (hone : oneCellFields P fs = true) (hC : P.cellsOf e = fs.size) (hint : intFields P fs = true) (hk : fs.size = k) (hk0 : 0 < k)
    (hen : ∀ ns : List Int, ns.length = k → ∃ x, ns.map (Value.int .i64) = en x)
    (hv : Value.okWide P w r b0 t v) (h : DataW.Trod enc P w base spare held t v d p) : ∃ A c, ∃ l : List α, v = .slice A l.length c ∧ SlcR w w.heap.size k A l.length (l.flatMap en) := by
  obtain ⟨A, len, cap, rfl⟩ := okWide_slice ht hv
  obtain ⟨n, hn⟩ := h
  obtain ⟨A', len', cap', e', css, hl, hS, hcs⟩ := trod_slc ht (hC.trans hk) hk0 hn
  injection e' with e1 e2 e3
  subst e1; subst e2; subst e3
  obtain ⟨l, hfl, hll⟩ := lift_list en css (fun cs hc => by
    obtain ⟨hlen, m, y, hy⟩ := hcs cs hc
    obtain ⟨ns, hn', hc'⟩ := trod_int_cells he hone hC hint hk hy
    obtain ⟨x, hx⟩ := hen ns hn'
    exact ⟨x, by rw [hc', hx]⟩)
  refine ⟨A, cap, l, by rw [hll, hl], ?_⟩
  rw [hll, hl, ← hfl]; exact hS
end
theorem i64_lo {n : Int} (h : (Lit.int .i64 n).wf = true) : -9223372036854775808 ≤ n := by
  simp [Lit.wf, IntKind.min, IntKind.max, IntKind.signed, IntKind.bits] at h; omega
theorem i64_hi {n : Int} (h : (Lit.int .i64 n).wf = true) : n ≤ 9223372036854775807 := by
  simp [Lit.wf, IntKind.min, IntKind.max, IntKind.signed, IntKind.bits] at h; omega
end Go.Proofs.YtchkjiadnackaaaDoor

/- Texts and flags that came in. -/
namespace Go.Proofs.YtchkjiadnackaaaDoor
open Go.ChangeShapes Go.WideShapes Go.ChangeAt Go.RowKit Go.Deep
section
variable {H : Type} {enc : TypeId × Value → H} {w : World} {base : Nat} {spare : Nat → Bool} {held : Bool}
theorem open_text_of {P : Program} {t : TypeId} {b0 : Nat} {r : Reach} {v : Value} {d : DataW H} {q : List MemPlace} (ht : P.underlying t = some .string) (hv : Value.okWide P w r b0 t v) (h : DataW.Trod enc P w base spare held t v d q) :
    ∃ s : ByteArray, v = .string s ∧ s.size ≤ 9223372036854775807 := by
  obtain ⟨s, rfl⟩ := okWide_string ht hv
  obtain ⟨n, hn⟩ := h
  obtain ⟨s', e, _, hs⟩ := DataW.trod_string ht hn
  simp [Value.cells] at e
  subst e
  exact ⟨s, rfl, by unfold maxLen at hs; exact hs⟩
theorem open_flag_of {P : Program} {t : TypeId} {b0 : Nat} {r : Reach} {v : Value} {d : DataW H} {q : List MemPlace} (ht : P.underlying t = some .bool) (hv : Value.okWide P w r b0 t v) (_ : DataW.Trod enc P w base spare held t v d q) :
    ∃ b : Bool, v = .bool b := by
  obtain ⟨b, rfl⟩ := okWide_bool ht hv
  exact ⟨b, rfl⟩
set_option maxRecDepth 20000 in
theorem open_text {b0 : Nat} {r : Reach} {v : Value} {d : DataW H} {q : List MemPlace} (hv : Value.okWide Tryd.prog w r b0 9 v) (h : DataW.Trod enc Tryd.prog w base spare held 9 v d q) :
    ∃ s : ByteArray, v = .string s ∧ s.size ≤ 9223372036854775807 := open_text_of Tryd.underlying9 hv h
set_option maxRecDepth 20000 in
theorem open_flag {b0 : Nat} {r : Reach} {v : Value} {d : DataW H} {q : List MemPlace} (hv : Value.okWide Tryd.prog w r b0 4 v) (h : DataW.Trod enc Tryd.prog w base spare held 4 v d q) :
    ∃ b : Bool, v = .bool b := open_flag_of Tryd.underlying4 hv h
end
end Go.Proofs.YtchkjiadnackaaaDoor
