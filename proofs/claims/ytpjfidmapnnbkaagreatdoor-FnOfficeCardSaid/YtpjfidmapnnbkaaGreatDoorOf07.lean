/- Of07: the texts OffPS Report ReportI LawOffice Open, joined into one file. -/
import Derived.Deep.DeepCutAuto
import Derived.ProofKit
import Derived.ChangeOld
import Derived.ShutString
import Derived.OpenShut
import Derived.Deep.Slices
import Derived.Deep.Fields
import Derived.Test.YtpjfidmapnnbkaaGreatDoorOf01
import Derived.Test.YtpjfidmapnnbkaaGreatDoorOf03
import Derived.Test.YtpjfidmapnnbkaaGreatDoorOf05
import Derived.Test.YtpjfidmapnnbkaaGreatDoorOf06

set_option linter.unusedVariables false

/- The reference reads a row of the office. (Printed by gen_offs.py) -/
namespace Go.Proofs.YtpjfidmapnnbkaaGreatDoor
open Go.RowKit

set_option maxRecDepth 100000 in
set_option maxHeartbeats 4000000 in
set_option linter.unusedVariables false in
theorem l31Cents_any (s : ByteArray) (w : World) (hs : s.size ≤ 70) :
    Calls Tryz.prog 38 #[.string s] w fun e w' => e = .returned (.int .i64 (centS (bl s))) ∧ Below w.heap.size w w' := by
  obtain ⟨minus, hminus⟩ : ∃ b : Bool, decide ((bl s).head? = some 45) = b := ⟨_, rfl⟩
  obtain ⟨u, hu⟩ : ∃ u : ByteArray, u = (if minus = true then s.extract 1 s.size else s) := ⟨_, rfl⟩
  have hbu : bl u = (if minus = true then (bl s).drop 1 else bl s) := by
    rw [hu]; cases minus
    · rfl
    · simp only [if_true]; rw [bl_extract, List.take_of_length_le (by rw [bl_size]; exact Nat.le_refl _)]
  have hzu : u.size ≤ 70 := by rw [← bl_size, hbu]; split; rw [List.length_drop, bl_size]; omega; rw [bl_size]; omega
  have HU := Lib.hid hu
  obtain ⟨ps, hps⟩ : ∃ l, splitL 46 (bl u) = l := ⟨_, rfl⟩
  have hpc := parts_count (b := 46) (n := 70) (s := bl u) (by rw [bl_size]; exact hzu)
  have hpm := parts_short (b := 46) (n := 70) (s := bl u) (by rw [bl_size]; exact hzu)
  have HSP := Lib.hid (fun W => l1Split_lies u 46 W (by omega))
  rw [hps] at hpc hpm HSP
  have HCE : Hid (centS (bl s) = if ps.length = 2 ∧ (ps.getD 1 []).length = 2 then
      (if minus = true then -100 * numD (ps.getD 0 []) - 10 * numD ((ps.getD 1 []).take 1) - numD ((ps.getD 1 []).drop 1)
       else 100 * numD (ps.getD 0 []) + 10 * numD ((ps.getD 1 []).take 1) + numD ((ps.getD 1 []).drop 1)) else 0) := by
    unfold centS Hid
    simp only [hminus]
    rw [← hbu, hps]
  have Hps := Lib.hid hpm
  have HMI := Lib.hid hminus
  obtain ⟨hp1, hp2⟩ := hpc
  clear hu hbu hps hpm hminus
  go_enter Tryz.func38, Tryz.ntmps38
  
  go_upto_region 1 with fail
  go_cut [3] (fun s3 wx => s3 = .bool minus ∧ w = wx)
  case first =>
    by_cases h0 : 0 < s.size
    · have i0 : (0 : Int) < (s.size : Int) := by omega
      have hd : (bl s).head? = some s[0] := by
        have := bl_drop (s := s) (k := 0) h0
        rw [List.drop_zero] at this; rw [this]; rfl
      have hq : ((s[0].toNat : Int) == 45) = minus := by
        rw [← HMI.out, hd, Bool.eq_iff_iff]; simp only [beq_iff_eq, decide_eq_true_eq, Option.some.injEq]
        constructor
        · intro h; exact UInt8.toNat_inj.1 (by have : (45 : UInt8).toNat = 45 := rfl; omega)
        · intro h; rw [h]; rfl
      clear hd
      go_wp2_with fail
      go_meet
      case rel => exact ⟨rfl, rfl⟩
    · have i0 : ¬ (0 : Int) < (s.size : Int) := by omega
      have hm : minus = false := by
        rw [← HMI.out, List.eq_nil_of_length_eq_zero (l := bl s) (by rw [bl_size]; omega)]; rfl
      have HM2 := Lib.hid hm
      clear hm
      go_wp2_with fail
      go_meet
      case rel => exact ⟨by rw [HM2.out], rfl⟩
  case rest =>
    obtain ⟨rfl, rfl⟩ := hcut
    go_upto_if 19 with fail
    go_cut [0] (fun s0 wx => s0 = .string u ∧ w = wx)
    case first =>
      cases minus with
      | true =>
        have h0 : 0 < s.size := by
          rcases Nat.eq_zero_or_pos s.size with h | h
          · exfalso
            have h1 := HMI.out
            rw [List.eq_nil_of_length_eq_zero (l := bl s) (by rw [bl_size]; exact h)] at h1
            simp at h1
          · exact h
        have i0 : (1 : Int) ≤ (s.size : Int) := by omega
        go_wp2_with fail
        go_meet
        case rel => exact ⟨by rw [HU.out]; rfl, rfl⟩
      | false =>
        go_wp2_with fail
        go_meet
        case rel => exact ⟨by rw [HU.out]; rfl, rfl⟩
    case rest =>
      obtain ⟨rfl, rfl⟩ := hcut
      go_wp2_with fail
      refine (HSP.out _).mono ?_
      rintro e w1 ⟨g4, c4, rest4, rfl, L4, hg4, hb1⟩
      have HL4 := Lib.hid L4
      have HB1 := Lib.hid hb1
      clear L4 hb1 hg4 HSP
      by_cases hl2 : ps.length = 2
      · have e2 : ((ps.length : Int) != 2) = false := by simp [hl2]
        have j0 : (0 : Int) < (ps.length : Int) := by omega
        have j1 : (1 : Int) < (ps.length : Int) := by omega
        have L4 := HL4.out
        have ct0 : w1.cell? ⟨g4, 0, none⟩ = some (.string ⟨(ps[0]'(by omega)).toArray⟩) := by
          rw [L4.cell]; exact texts_at2 ps _ _ (by omega)
        have ht := Hps.out (ps[0]'(by omega)) (List.getElem_mem _)
        obtain ⟨t0, hte⟩ : ∃ t : ByteArray, t = ⟨(ps[0]'(by omega)).toArray⟩ := ⟨_, rfl⟩
        have hbt0 : bl t0 = ps.getD 0 [] := by rw [hte, bl_mk, getD_at]
        rw [← hte] at ct0
        have hzt0 : t0.size ≤ 70 := by rw [← bl_size, hbt0, getD_at (by omega)]; exact ht
        clear hte ht
        have ct1 : w1.cell? ⟨g4, 1, none⟩ = some (.string ⟨(ps[1]'(by omega)).toArray⟩) := by
          rw [L4.cell]; exact texts_at2 ps _ _ (by omega)
        have ht := Hps.out (ps[1]'(by omega)) (List.getElem_mem _)
        obtain ⟨t1, hte⟩ : ∃ t : ByteArray, t = ⟨(ps[1]'(by omega)).toArray⟩ := ⟨_, rfl⟩
        have hbt1 : bl t1 = ps.getD 1 [] := by rw [hte, bl_mk, getD_at]
        rw [← hte] at ct1
        have hzt1 : t1.size ≤ 70 := by rw [← bl_size, hbt1, getD_at (by omega)]; exact ht
        clear hte ht
        have H2 := Lib.hid hl2
        clear L4 hl2
        by_cases hn2 : t1.size = 2
        · have e3 : ((t1.size : Int) != 2) = false := by simp [hn2]
          obtain ⟨ta, hta⟩ : ∃ x, t1.extract 0 1 = x := ⟨_, rfl⟩
          obtain ⟨tb, htb⟩ : ∃ x, t1.extract 1 t1.size = x := ⟨_, rfl⟩
          have hba : bl ta = (ps.getD 1 []).take 1 := by rw [← hta, bl_extract, hbt1]; simp
          have hbb : bl tb = (ps.getD 1 []).drop 1 := by rw [← htb, bl_extract, List.take_of_length_le (by rw [bl_size]; exact Nat.le_refl _), hbt1]
          have hza : ta.size ≤ 70 := by rw [← bl_size, hba, List.length_take, ← hbt1, bl_size]; omega
          have hzb : tb.size ≤ 70 := by rw [← bl_size, hbb, List.length_drop, ← hbt1, bl_size]; omega
          have k1 : (1 : Int) ≤ (t1.size : Int) := by omega
          have HR0 := Lib.hid (fun W => l1Read_any t0 W (by omega))
          have HRA := Lib.hid (fun W => l1Read_any ta W (by omega))
          have HRB := Lib.hid (fun W => l1Read_any tb W (by omega))
          obtain ⟨a, ha⟩ : ∃ z, (numF (bl t0)).getD 0 = z := ⟨_, rfl⟩
          obtain ⟨b, hb⟩ : ∃ z, (numF (bl ta)).getD 0 = z := ⟨_, rfl⟩
          obtain ⟨d, hd⟩ : ∃ z, (numF (bl tb)).getD 0 = z := ⟨_, rfl⟩
          have sa : Six a := by rw [← ha]; exact numD_six (bl t0)
          have sb : Six b := by rw [← hb]; exact numD_six (bl ta)
          have sd : Six d := by rw [← hd]; exact numD_six (bl tb)
          obtain ⟨sa1, sa2⟩ := sa
          obtain ⟨sb1, sb2⟩ := sb
          obtain ⟨sd1, sd2⟩ := sd
          have HV : Hid (centS (bl s) = if minus = true then -100 * a - 10 * b - d else 100 * a + 10 * b + d) := by
            rw [Hid, HCE.out, if_pos ⟨H2.out, by rw [← hbt1, bl_size]; exact hn2⟩, ← hbt0, ← hba, ← hbb]
            unfold numD
            rw [ha, hb, hd]
          have HN2 := Lib.hid hn2
          have HABD := Lib.hid (And.intro ha (And.intro hb hd))
          clear hba hbb hn2 hbt0 hbt1 HCE
          go_wp2_with fail
          refine (HR0.out _).mono ?_
          rintro e w2 ⟨rfl, hb2⟩
          rw [ha]
          have ct1' : w2.cell? ⟨g4, 1, none⟩ = some (.string t1) := (hb2.cell (by have := HL4.out.lt; exact this)).trans ct1
          have HB2 := Lib.hid (bthen HB1.out hb2)
          clear ct0 ct1 hb2 HB1
          go_wp2_with fail
          refine (HRA.out _).mono ?_
          rintro e w3 ⟨rfl, hb3⟩
          rw [hb]
          have ct2' : w3.cell? ⟨g4, 1, none⟩ = some (.string t1) := (hb3.cell (cell_lt ct1')).trans ct1'
          have HB3 := Lib.hid (bthen HB2.out hb3)
          clear ct1' hb3 HB2
          go_wp2_with fail
          refine (HRB.out _).mono ?_
          rintro e w4 ⟨rfl, hb4⟩
          rw [hd]
          have HB4 := Lib.hid (bthen HB3.out hb4)
          clear ct2' hb4 HB3 ha hb hd
          have m1 : IntKind.i64.wrap (-100 * a) = -100 * a := IntWalk.i64_in _ (by omega)
          have m2 : IntKind.i64.wrap (10 * b) = 10 * b := IntWalk.i64_in _ (by omega)
          have m3 : IntKind.i64.wrap (-100 * a - 10 * b) = -100 * a - 10 * b := IntWalk.i64_in _ (by omega)
          have m4 : IntKind.i64.wrap (-100 * a - 10 * b - d) = -100 * a - 10 * b - d := IntWalk.i64_in _ (by omega)
          have m5 : IntKind.i64.wrap (100 * a) = 100 * a := IntWalk.i64_in _ (by omega)
          have m6 : IntKind.i64.wrap (100 * a + 10 * b) = 100 * a + 10 * b := IntWalk.i64_in _ (by omega)
          have m7 : IntKind.i64.wrap (100 * a + 10 * b + d) = 100 * a + 10 * b + d := IntWalk.i64_in _ (by omega)
          cases minus with
          | true =>
            go_wp2_with fail
            go_ret
            exact ⟨by rw [HV.out]; rfl, HB4.out⟩
          | false =>
            go_wp2_with fail
            go_ret
            exact ⟨by rw [HV.out]; rfl, HB4.out⟩
        · have e3 : ((t1.size : Int) != 2) = true := by rw [bne_iff_ne]; omega
          have HV : Hid (centS (bl s) = 0) := by rw [Hid, HCE.out, if_neg (fun h => hn2 (by rw [← bl_size, hbt1]; exact h.2))]
          clear hn2
          go_wp2_with fail
          go_ret
          exact ⟨by rw [HV.out]; rfl, HB1.out⟩
      · have e2 : ((ps.length : Int) != 2) = true := by rw [bne_iff_ne]; omega
        have HV : Hid (centS (bl s) = 0) := by rw [Hid, HCE.out, if_neg (fun h => hl2 h.1)]
        clear hl2
        go_wp2_with fail
        go_ret
        exact ⟨by rw [HV.out]; rfl, HB1.out⟩


/-- The rows of words and of numbers, while a row is read. -/
structure OS2 (w wx : World) (g8 : Nat) (ws : List (List UInt8)) (rest : List Value) (g6 : Nat) (cs : List Value) : Prop where
  bl : Below w.heap.size w wx
  out : Lies wx w.heap.size 25 [.int .i64 0, .int .i64 0, .int .i64 0, .int .i64 0, .int .i64 0]
  ws : Lies wx g8 9 (texts ws ++ rest)
  now : Lies wx g6 25 cs
  h1 : w.heap.size < g6
  h2 : g8 < g6
theorem OS2.then {w wx wy : World} {g8 g6 : Nat} {ws : List (List UInt8)} {rest cs : List Value} (h : OS2 w wx g8 ws rest g6 cs) (hb : Below wx.heap.size wx wy) : OS2 w wy g8 ws rest g6 cs :=
  ⟨bthen h.bl hb, h.out.below hb h.out.lt, h.ws.below hb h.ws.lt, h.now.below hb h.now.lt, h.h1, h.h2⟩
theorem OS2.put {w wx wy : World} {g8 g6 : Nat} {ws : List (List UInt8)} {rest cs cs' : List Value} (h : OS2 w wx g8 ws rest g6 cs) (hg : wx.grownBy wy (some g6)) (hL : Lies wy g6 25 cs') : OS2 w wy g8 ws rest g6 cs' :=
  ⟨bel_grow h.bl hg (Nat.le_of_lt h.h1) (Nat.le_refl _), h.out.kept hg (by intro e; injection e with e; have := h.h1; omega), h.ws.kept hg (by intro e; injection e with e; have := h.h2; omega), hL, h.h1, h.h2⟩
structure OS3 (w wx : World) : Prop where
  bl : Below w.heap.size w wx
  out : Lies wx w.heap.size 25 [.int .i64 0, .int .i64 0, .int .i64 0, .int .i64 0, .int .i64 0]
theorem grownB {w w' : World} (h : Below w.heap.size w w') (row : Option Nat) : w.grownBy w' row := ⟨h.os, h.tape, h.output, h.size, fun k hk _ => h.block k hk⟩
/-- What the reference asks ahead. -/
def Pre0 (s : List UInt8) (ws : List (List UInt8)) : Prop := s.length ≤ 70 ∧ (ws.length = 5 ∨ ws.length = 7) ∧ 3 ≤ (ws.getD 0 []).length ∧ 2 ≤ (ws.getD 1 []).length ∧ 2 ≤ (ws.getD 2 []).length
theorem pre_no {s : List UInt8} {ws : List (List UInt8)} (hw : splitL 32 s = ws) (h : ¬ (Pre0 s ws ∧ (rowS ws).ok = true ∧ lineT (rowS ws) = s)) : lineR s = (zrow, false) := by
  have hn : lineF s = none := lineF_none fun r hr e => by
    have hl := line_read hr
    have hz := line_short hr
    rw [e] at hl hz
    simp only [hw] at hl
    obtain ⟨h1, _, _, _, _, _, h7, h8, h9, h10⟩ := hl
    exact h ⟨⟨hz, h1, h8, h9, h10⟩, by rw [h7]; exact hr, by rw [h7]; exact e⟩
  unfold lineR; rw [hn]
theorem pre_yes {s : List UInt8} {ws : List (List UInt8)} (h : (rowS ws).ok = true ∧ lineT (rowS ws) = s) : lineR s = (rowS ws, true) := by
  unfold lineR; rw [lineF_eq h.1 h.2]

set_option maxRecDepth 100000 in
set_option maxHeartbeats 8000000 in
set_option linter.unusedVariables false in
theorem specParseOffice_any (s : ByteArray) (w : World) (hs : s.size ≤ 2000000) :
    Calls Tryz.prog 11 #[.string s] w (GivesLn s w) := by
  have L2 := Lies.new w 25 #[.int .i64 0, .int .i64 0, .int .i64 0, .int .i64 0, .int .i64 0]
  have b2 := (Below.refl w.heap.size w).alloc (Nat.le_refl _) (.cells #[.int .i64 0, .int .i64 0, .int .i64 0, .int .i64 0, .int .i64 0] 25)
  have HSP := Lib.hid (l1Split_lies s 32 (w.alloc (.cells #[.int .i64 0, .int .i64 0, .int .i64 0, .int .i64 0, .int .i64 0] 25)) (by omega))
  obtain ⟨ws, hws⟩ : ∃ l, splitL 32 (bl s) = l := ⟨_, rfl⟩
  rw [hws] at HSP
  have hpc := parts_count (b := 32) (n := 2000000) (s := bl s) (by rw [bl_size]; exact hs)
  have hpm := parts_short (b := 32) (n := 2000000) (s := bl s) (by rw [bl_size]; exact hs)
  rw [hws] at hpc hpm
  obtain ⟨hp1, hp2⟩ := hpc
  have HWS := Lib.hid hws
  have Hws := Lib.hid hpm
  clear hws hpm
  go_enter Tryz.func11, Tryz.ntmps11
  go_wp2_with fail
  refine HSP.out.mono ?_
  rintro e w3 ⟨g8, c8, rest, rfl, L8, hg8, hb3⟩
  have b3 := bthen b2 hb3
  have K2 := L2.below hb3 L2.lt
  clear L2 b2 hb3 HSP
  have HB3 := Lib.hid b3
  have HK2 := Lib.hid K2
  have HL8 := Lib.hid L8
  clear b3 K2 L8
  go_upto_region 3 with fail
  go_cut [42] (fun s42 wx => (∃ b : Bool, s42 = .bool b ∧ Hid (b = false ↔ Pre0 (bl s) ws)) ∧ w3 = wx)
  case first =>
    by_cases h70 : s.size ≤ 70
    · have i0 : ¬ (70 : Int) < (s.size : Int) := by omega
      by_cases h57 : ws.length = 5 ∨ ws.length = 7
      · have j0 : (0 : Int) < (ws.length : Int) := by omega
        have j1 : (1 : Int) < (ws.length : Int) := by omega
        have j2 : (2 : Int) < (ws.length : Int) := by omega
        have L8 := HL8.out
        have ct0 : w3.cell? ⟨g8, 0, none⟩ = some (.string ⟨(ws[0]'(by omega)).toArray⟩) := by
          rw [L8.cell]; exact texts_at2 ws _ _ (by omega)
        have ht := Hws.out (ws[0]'(by omega)) (List.getElem_mem _)
        obtain ⟨t0, hte⟩ : ∃ t : ByteArray, t = ⟨(ws[0]'(by omega)).toArray⟩ := ⟨_, rfl⟩
        have hbt0 : bl t0 = ws.getD 0 [] := by rw [hte, bl_mk, getD_at]
        rw [← hte] at ct0
        have hzt0 : t0.size ≤ 2000000 := by rw [← bl_size, hbt0, getD_at (by omega)]; exact ht
        clear hte ht
        have ct1 : w3.cell? ⟨g8, 1, none⟩ = some (.string ⟨(ws[1]'(by omega)).toArray⟩) := by
          rw [L8.cell]; exact texts_at2 ws _ _ (by omega)
        have ht := Hws.out (ws[1]'(by omega)) (List.getElem_mem _)
        obtain ⟨t1, hte⟩ : ∃ t : ByteArray, t = ⟨(ws[1]'(by omega)).toArray⟩ := ⟨_, rfl⟩
        have hbt1 : bl t1 = ws.getD 1 [] := by rw [hte, bl_mk, getD_at]
        rw [← hte] at ct1
        have hzt1 : t1.size ≤ 2000000 := by rw [← bl_size, hbt1, getD_at (by omega)]; exact ht
        clear hte ht
        have ct2 : w3.cell? ⟨g8, 2, none⟩ = some (.string ⟨(ws[2]'(by omega)).toArray⟩) := by
          rw [L8.cell]; exact texts_at2 ws _ _ (by omega)
        have ht := Hws.out (ws[2]'(by omega)) (List.getElem_mem _)
        obtain ⟨t2, hte⟩ : ∃ t : ByteArray, t = ⟨(ws[2]'(by omega)).toArray⟩ := ⟨_, rfl⟩
        have hbt2 : bl t2 = ws.getD 2 [] := by rw [hte, bl_mk, getD_at]
        rw [← hte] at ct2
        have hzt2 : t2.size ≤ 2000000 := by rw [← bl_size, hbt2, getD_at (by omega)]; exact ht
        clear hte ht
        clear L8
        have H57 := Lib.hid h57
        have e57 : ((ws.length : Int) != 5) = false ∨ (((ws.length : Int) != 5) = true ∧ ((ws.length : Int) != 7) = false) := by
          rcases h57 with h | h
          · left; simp [h]
          · right; rw [h]; exact ⟨rfl, rfl⟩
        clear h57
        obtain ⟨q0, hq0⟩ : ∃ b : Bool, decide ((t0.size : Int) < 3) = b := ⟨_, rfl⟩
        obtain ⟨q1, hq1⟩ : ∃ b : Bool, decide ((t1.size : Int) < 2) = b := ⟨_, rfl⟩
        obtain ⟨q2, hq2⟩ : ∃ b : Bool, decide ((t2.size : Int) < 2) = b := ⟨_, rfl⟩
        have HP : Hid ((q0 = false ∧ q1 = false ∧ q2 = false) ↔ Pre0 (bl s) ws) := by
          unfold Pre0 Hid
          rw [← hq0, ← hq1, ← hq2, ← hbt0, ← hbt1, ← hbt2, bl_size, bl_size, bl_size, bl_size]
          simp only [decide_eq_false_iff_not]
          constructor
          · rintro ⟨a, b, c⟩; exact ⟨h70, H57.out, by omega, by omega, by omega⟩
          · rintro ⟨_, _, a, b, c⟩; exact ⟨by omega, by omega, by omega⟩
        clear hbt0 hbt1 hbt2
        rcases e57 with e5 | ⟨e5, e7⟩
        · cases q0 with
          | true =>
            have i1 : (t0.size : Int) < 3 := of_decide_eq_true hq0
            clear hq0 hq1 hq2
            go_wp2_with fail
            go_meet
            case rel => exact ⟨⟨true, rfl, ⟨fun h => by (cases h), fun h => by (have := HP.out.2 h; cases this.1)⟩⟩, rfl⟩
          | false =>
            have i1 : ¬ (t0.size : Int) < 3 := of_decide_eq_false hq0
            cases q1 with
            | true =>
              have i2 : (t1.size : Int) < 2 := of_decide_eq_true hq1
              clear hq0 hq1 hq2
              go_wp2_with fail
              go_meet
              case rel => exact ⟨⟨true, rfl, ⟨fun h => by (cases h), fun h => by (have := HP.out.2 h; cases this.2.1)⟩⟩, rfl⟩
            | false =>
              have i2 : ¬ (t1.size : Int) < 2 := of_decide_eq_false hq1
              cases q2 with
              | true =>
                have i3 : (t2.size : Int) < 2 := of_decide_eq_true hq2
                clear hq0 hq1 hq2
                go_wp2_with fail
                go_meet
                case rel => exact ⟨⟨true, rfl, ⟨fun h => by (cases h), fun h => by (have := HP.out.2 h; cases this.2.2)⟩⟩, rfl⟩
              | false =>
                have i3 : ¬ (t2.size : Int) < 2 := of_decide_eq_false hq2
                clear hq0 hq1 hq2
                go_wp2_with fail
                go_meet
                case rel => exact ⟨⟨false, rfl, ⟨fun _ => HP.out.1 (by simp), fun _ => rfl⟩⟩, rfl⟩
        · cases q0 with
          | true =>
            have i1 : (t0.size : Int) < 3 := of_decide_eq_true hq0
            clear hq0 hq1 hq2
            go_wp2_with fail
            go_meet
            case rel => exact ⟨⟨true, rfl, ⟨fun h => by (cases h), fun h => by (have := HP.out.2 h; cases this.1)⟩⟩, rfl⟩
          | false =>
            have i1 : ¬ (t0.size : Int) < 3 := of_decide_eq_false hq0
            cases q1 with
            | true =>
              have i2 : (t1.size : Int) < 2 := of_decide_eq_true hq1
              clear hq0 hq1 hq2
              go_wp2_with fail
              go_meet
              case rel => exact ⟨⟨true, rfl, ⟨fun h => by (cases h), fun h => by (have := HP.out.2 h; cases this.2.1)⟩⟩, rfl⟩
            | false =>
              have i2 : ¬ (t1.size : Int) < 2 := of_decide_eq_false hq1
              cases q2 with
              | true =>
                have i3 : (t2.size : Int) < 2 := of_decide_eq_true hq2
                clear hq0 hq1 hq2
                go_wp2_with fail
                go_meet
                case rel => exact ⟨⟨true, rfl, ⟨fun h => by (cases h), fun h => by (have := HP.out.2 h; cases this.2.2)⟩⟩, rfl⟩
              | false =>
                have i3 : ¬ (t2.size : Int) < 2 := of_decide_eq_false hq2
                clear hq0 hq1 hq2
                go_wp2_with fail
                go_meet
                case rel => exact ⟨⟨false, rfl, ⟨fun _ => HP.out.1 (by simp), fun _ => rfl⟩⟩, rfl⟩
      · have e5 : ((ws.length : Int) != 5) = true := by rw [bne_iff_ne]; omega
        have e7 : ((ws.length : Int) != 7) = true := by rw [bne_iff_ne]; omega
        have HN := Lib.hid h57
        clear h57
        go_wp2_with fail
        go_meet
        case rel => exact ⟨⟨true, rfl, ⟨fun h => by (cases h), fun h => absurd h.2.1 HN.out⟩⟩, rfl⟩
    · have i0 : (70 : Int) < (s.size : Int) := by omega
      go_wp2_with fail
      go_meet
      case rel => exact ⟨⟨true, rfl, ⟨fun h => by (cases h), fun h => absurd h.1 (by rw [bl_size]; exact h70)⟩⟩, rfl⟩
  case rest =>
    obtain ⟨⟨b, rfl, hb⟩, rfl⟩ := hcut
    cases b with
    | true =>
      have HRD := Lib.hid (pre_no HWS.out (fun h => by have := hb.out.2 h.1; cases this))
      have S3 := Lib.hid (OS3.mk HB3.out HK2.out)
      clear hb HB3 HK2 HL8
      have K2 := S3.out.out
      have a0 := K2.cell 0
      have a1 := K2.cell 1
      have a2 := K2.cell 2
      have a3 := K2.cell 3
      have a4 := K2.cell 4
      simp only [List.getElem?_cons_zero, List.getElem?_cons_succ] at a0 a1 a2 a3 a4
      have fa0 := K2.frozen 0
      have fa1 := K2.frozen 1
      have fa2 := K2.frozen 2
      have fa3 := K2.frozen 3
      have fa4 := K2.frozen 4

      obtain ⟨W20, hW20⟩ : ∃ W20, (((((w3.setCell ⟨w.heap.size, 0, none⟩ (.int .i64 0)).setCell ⟨w.heap.size, 1, none⟩ (.int .i64 0)).setCell ⟨w.heap.size, 2, none⟩ (.int .i64 0)).setCell ⟨w.heap.size, 3, none⟩ (.int .i64 0)).setCell ⟨w.heap.size, 4, none⟩ (.int .i64 0)) = W20 := ⟨_, rfl⟩
      have gw : w3.grownBy (((((w3.setCell ⟨w.heap.size, 0, none⟩ (.int .i64 0)).setCell ⟨w.heap.size, 1, none⟩ (.int .i64 0)).setCell ⟨w.heap.size, 2, none⟩ (.int .i64 0)).setCell ⟨w.heap.size, 3, none⟩ (.int .i64 0)).setCell ⟨w.heap.size, 4, none⟩ (.int .i64 0)) (some w.heap.size) := (grown_set (g := w.heap.size) (i := 4) (u := .int .i64 0) (grown_set (g := w.heap.size) (i := 3) (u := .int .i64 0) (grown_set (g := w.heap.size) (i := 2) (u := .int .i64 0) (grown_set (g := w.heap.size) (i := 1) (u := .int .i64 0) (grown_set (g := w.heap.size) (i := 0) (u := .int .i64 0) (World.grownBy.refl _ _))))))
      have kw : Lies (((((w3.setCell ⟨w.heap.size, 0, none⟩ (.int .i64 0)).setCell ⟨w.heap.size, 1, none⟩ (.int .i64 0)).setCell ⟨w.heap.size, 2, none⟩ (.int .i64 0)).setCell ⟨w.heap.size, 3, none⟩ (.int .i64 0)).setCell ⟨w.heap.size, 4, none⟩ (.int .i64 0)) w.heap.size 25 [.int .i64 0, .int .i64 0, .int .i64 0, .int .i64 0, .int .i64 0] := K2.set 0 (.int .i64 0) |>.set 1 (.int .i64 0) |>.set 2 (.int .i64 0) |>.set 3 (.int .i64 0) |>.set 4 (.int .i64 0)
      have BB := Lib.hid (bel_grow S3.out.bl gw (Nat.le_refl _) (Nat.le_refl _))
      rw [hW20] at kw BB
      have HW20 := Lib.hid hW20
      have HK := Lib.hid kw
      clear gw kw hW20 K2 S3
      repeat (first | go_values | go_skip | go_guarded | go_step | go_upon | simp only [])
      rw [HW20.out]
      have LS := HK.out
      have x0 := LS.cell 0
      have x1 := LS.cell 1
      have x2 := LS.cell 2
      have x3 := LS.cell 3
      have x4 := LS.cell 4
      simp only [List.getElem?_cons_zero, List.getElem?_cons_succ] at x0 x1 x2 x3 x4
      refine bodyPost_ret (v := .tuple #[.agg #[.int .i64 0, .int .i64 0, .int .i64 0, .int .i64 0, .int .i64 0], .bool false]) (by simp [results, Tryz.results11, go_sem, x0, x1, x2, x3, x4]) rfl ?_
      exact ⟨zrow, false, rfl, HRD.out, BB.out⟩
    | false =>
      have hpre := hb.out.1 rfl
      have h57 := hpre.2.1
      have H57 := Lib.hid h57
      have h5l : 5 ≤ ws.length := by omega
      have HP0 := Lib.hid hpre.2.2.1
      have HP1 := Lib.hid hpre.2.2.2.1
      have HP2 := Lib.hid hpre.2.2.2.2
      have HPRE := Lib.hid hpre
      have h70 : s.size ≤ 70 := by rw [← bl_size]; exact hpre.1
      clear hb h57 hpre
      have j0 : (0 : Int) < (ws.length : Int) := by omega
      have j1 : (1 : Int) < (ws.length : Int) := by omega
      have j2 : (2 : Int) < (ws.length : Int) := by omega
      have j4 : (4 : Int) < (ws.length : Int) := by omega
      have L8 := HL8.out
      have ct4 : w3.cell? ⟨g8, 4, none⟩ = some (.string ⟨(ws[4]'(by omega)).toArray⟩) := by
        rw [L8.cell]; exact texts_at2 ws _ _ (by omega)
      have ht := Hws.out (ws[4]'(by omega)) (List.getElem_mem _)
      obtain ⟨t4, hte⟩ : ∃ t : ByteArray, t = ⟨(ws[4]'(by omega)).toArray⟩ := ⟨_, rfl⟩
      have hbt4 : bl t4 = ws.getD 4 [] := by rw [hte, bl_mk, getD_at]
      rw [← hte] at ct4
      have hzt4 : t4.size ≤ 2000000 := by rw [← bl_size, hbt4, getD_at (by omega)]; exact ht
      clear hte ht
      clear L8
      have hz4 : t4.size ≤ 70 := by
        have h1 := parts_mem (b := 32) (t := bl t4) (bl s) [] (by
          have h2 : bl t4 ∈ splitL 32 (bl s) := by rw [HWS.out, hbt4, getD_at (by omega)]; exact List.getElem_mem _
          exact h2)
        rw [bl_size, bl_size] at h1; simp at h1; omega
      have HCE := Lib.hid (fun W => l31Cents_any t4 W hz4)
      obtain ⟨ce, hce⟩ : ∃ z, centS (bl t4) = z := ⟨_, rfl⟩
      rw [hce] at HCE
      have HVC : Hid (centS (ws.getD 4 []) = ce) := by rw [← hbt4]; exact hce
      clear hce hbt4
      go_wp2_with fail
      refine (HCE.out _).mono ?_
      rintro e w4 ⟨rfl, hb4⟩
      have ha := (Below.refl w4.heap.size w4).alloc (Nat.le_refl _) (.cells #[.int .i64 0, .int .i64 0, .int .i64 0, .int .i64 ce, .int .i64 0] 25)
      have K6 := Lies.new w4 25 #[.int .i64 0, .int .i64 0, .int .i64 0, .int .i64 ce, .int .i64 0]
      have S5 := Lib.hid (OS2.mk (bthen (bthen HB3.out hb4) ha) ((HK2.out.below hb4 HK2.out.lt).below ha (HK2.out.below hb4 HK2.out.lt).lt) ((HL8.out.below hb4 HL8.out.lt).below ha (HL8.out.below hb4 HL8.out.lt).lt) K6 (HK2.out.below hb4 HK2.out.lt).lt (HL8.out.below hb4 HL8.out.lt).lt)
      clear hb4 ha K6 HB3 HK2 HL8 HCE ct4
      go_upto_region 6 with fail
      generalize w4.alloc (.cells #[.int .i64 0, .int .i64 0, .int .i64 0, .int .i64 ce, .int .i64 0] 25) = w5 at S5 ⊢
      generalize w4.heap.size = g6 at S5 ⊢
      -- the month
      have L8 := S5.out.ws
      have ct0 : w5.cell? ⟨g8, 0, none⟩ = some (.string ⟨(ws[0]'(by omega)).toArray⟩) := by
        rw [L8.cell]; exact texts_at2 ws _ _ (by omega)
      have ht := Hws.out (ws[0]'(by omega)) (List.getElem_mem _)
      obtain ⟨t0, hte⟩ : ∃ t : ByteArray, t = ⟨(ws[0]'(by omega)).toArray⟩ := ⟨_, rfl⟩
      have hbt0 : bl t0 = ws.getD 0 [] := by rw [hte, bl_mk, getD_at]
      rw [← hte] at ct0
      have hzt0 : t0.size ≤ 2000000 := by rw [← bl_size, hbt0, getD_at (by omega)]; exact ht
      clear hte ht
      clear L8
      have k3 : 3 ≤ t0.size := by have := HP0.out; rw [← hbt0, bl_size] at this; exact this
      have kw : IntKind.i64.wrap ((t0.size : Int) - 1) = ((t0.size - 1 : Nat) : Int) := by rw [IntWalk.i64_in _ (by omega)]; omega
      have k1 : (1 : Int) ≤ ((t0.size - 1 : Nat) : Int) := by omega
      have k2 : ((t0.size - 1 : Nat) : Int) ≤ (t0.size : Int) := by omega
      obtain ⟨tm, htm⟩ : ∃ x, t0.extract 1 (t0.size - 1) = x := ⟨_, rfl⟩
      have hbtm : bl tm = ((ws.getD 0 []).take ((ws.getD 0 []).length - 1)).drop 1 := by rw [← htm, bl_extract, ← hbt0, bl_size]
      have hztm : tm.size ≤ 2000000 := by rw [← bl_size, hbtm, List.length_drop, List.length_take, ← hbt0, bl_size]; omega
      have HRM := Lib.hid (fun W => l1Read_any tm W (by omega))
      obtain ⟨m, hm⟩ : ∃ z, (numF (bl tm)).getD 0 = z := ⟨_, rfl⟩
      obtain ⟨one, h1⟩ : ∃ z, (numF (bl tm)).isSome = z := ⟨_, rfl⟩
      have HVM : Hid (numD (((ws.getD 0 []).take ((ws.getD 0 []).length - 1)).drop 1) = m) := by rw [← hbtm]; exact hm
      clear hbtm hbt0
      have n0 : 0 < ws.length := by omega
      refine wp_region_factsR (Sw 14 (fun W9 => Below w5.heap.size w5 W9) (fun W9 => w5.grownBy W9 (some g6) ∧ Lies W9 g6 25 [.int .i64 m, .int .i64 0, .int .i64 0, .int .i64 ce, .int .i64 0])) (fun i w1 w2 => i ∉ [14] → Below w1.heap.size w1 w2) (by kernel_rfl) (by kernel_rfl) (by kernel_rfl) (Sw.start (Below.refl _ _).drew) ?_
      simp only [fillOps, Act.put, List.setIfInBounds_toArray, List.set_cons_zero, List.set_cons_succ, Nat.zero_add, Nat.reduceAdd]
      apply wpFactsR_val
      case h1 =>
        intro vs L9 w9 hG9 hC9 hB K9 hK9
        replace hC9 := hC9.before hG9 (by kernel_rfl)
        simp only [Act.put, List.setIfInBounds_toArray, List.set_cons_zero, List.set_cons_succ] at hK9
        go_simp
        exact hK9 _ _ rfl (Sw.stay hG9 (by kernel_rfl) (by decide) hC9) (fun _ => Below.refl _ _)
      apply wpFactsR_val
      case h1 =>
        intro vs L9 w9 hG9 hC9 hB K9 hK9
        replace hC9 := hC9.before hG9 (by kernel_rfl)
        have d0 := FactN.eq (hB 0 _ (by kernel_rfl) (by kernel_rfl) rfl (by decide))
        simp only [d0] at hK9 ⊢
        simp only [Act.put, List.setIfInBounds_toArray, List.set_cons_zero, List.set_cons_succ] at hK9
        go_simp
        exact hK9 _ _ rfl (Sw.stay hG9 (by kernel_rfl) (by decide) hC9) (fun _ => Below.refl _ _)
      apply wpFactsR_val
      case h1 =>
        intro vs L9 w9 hG9 hC9 hB K9 hK9
        replace hC9 := hC9.before hG9 (by kernel_rfl)
        have d1 := FactN.eq (hB 1 _ (by kernel_rfl) (by kernel_rfl) rfl (by decide))
        simp only [d1] at hK9 ⊢
        have q0 : w9.cell? ⟨g8, 0, none⟩ = some (.string t0) := (hC9.cell (cell_lt ct0)).trans ct0
        simp only [Act.put, List.setIfInBounds_toArray, List.set_cons_zero, List.set_cons_succ] at hK9
        go_simp
        exact hK9 _ _ rfl (Sw.stay hG9 (by kernel_rfl) (by decide) hC9) (fun _ => Below.refl _ _)
      apply wpFactsR_val
      case h1 =>
        intro vs L9 w9 hG9 hC9 hB K9 hK9
        replace hC9 := hC9.before hG9 (by kernel_rfl)
        simp only [Act.put, List.setIfInBounds_toArray, List.set_cons_zero, List.set_cons_succ] at hK9
        go_simp
        exact hK9 _ _ rfl (Sw.stay hG9 (by kernel_rfl) (by decide) hC9) (fun _ => Below.refl _ _)
      apply wpFactsR_val
      case h1 =>
        intro vs L9 w9 hG9 hC9 hB K9 hK9
        replace hC9 := hC9.before hG9 (by kernel_rfl)
        have d3 := FactN.eq (hB 3 _ (by kernel_rfl) (by kernel_rfl) rfl (by decide))
        simp only [d3] at hK9 ⊢
        simp only [Act.put, List.setIfInBounds_toArray, List.set_cons_zero, List.set_cons_succ] at hK9
        go_simp
        exact hK9 _ _ rfl (Sw.stay hG9 (by kernel_rfl) (by decide) hC9) (fun _ => Below.refl _ _)
      apply wpFactsR_val
      case h1 =>
        intro vs L9 w9 hG9 hC9 hB K9 hK9
        replace hC9 := hC9.before hG9 (by kernel_rfl)
        have d4 := FactN.eq (hB 4 _ (by kernel_rfl) (by kernel_rfl) rfl (by decide))
        simp only [d4] at hK9 ⊢
        have q0 : w9.cell? ⟨g8, 0, none⟩ = some (.string t0) := (hC9.cell (cell_lt ct0)).trans ct0
        simp only [Act.put, List.setIfInBounds_toArray, List.set_cons_zero, List.set_cons_succ] at hK9
        go_simp
        exact hK9 _ _ rfl (Sw.stay hG9 (by kernel_rfl) (by decide) hC9) (fun _ => Below.refl _ _)
      apply wpFactsR_val
      case h1 =>
        intro vs L9 w9 hG9 hC9 hB K9 hK9
        replace hC9 := hC9.before hG9 (by kernel_rfl)
        have d5 := FactN.eq (hB 5 _ (by kernel_rfl) (by kernel_rfl) rfl (by decide))
        simp only [d5] at hK9 ⊢
        simp only [Act.put, List.setIfInBounds_toArray, List.set_cons_zero, List.set_cons_succ] at hK9
        go_simp
        exact hK9 _ _ rfl (Sw.stay hG9 (by kernel_rfl) (by decide) hC9) (fun _ => Below.refl _ _)
      apply wpFactsR_val
      case h1 =>
        intro vs L9 w9 hG9 hC9 hB K9 hK9
        replace hC9 := hC9.before hG9 (by kernel_rfl)
        have d6 := FactN.eq (hB 6 _ (by kernel_rfl) (by kernel_rfl) rfl (by decide))
        simp only [d6] at hK9 ⊢
        simp only [Act.put, List.setIfInBounds_toArray, List.set_cons_zero, List.set_cons_succ] at hK9
        go_simp
        exact hK9 _ _ rfl (Sw.stay hG9 (by kernel_rfl) (by decide) hC9) (fun _ => Below.refl _ _)
      refine wpFactsR_val (.string tm) (fun vs L9 w9 hG9 hC9 hB K9 hK9 => ?_) ?_
      next =>
        replace hC9 := hC9.before hG9 (by kernel_rfl)
        have d2 := FactN.eq (hB 2 _ (by kernel_rfl) (by kernel_rfl) rfl (by decide))
        have d7 := FactN.eq (hB 7 _ (by kernel_rfl) (by kernel_rfl) rfl (by decide))
        simp only [d2, d7] at hK9 ⊢
        go_simp
        exact hK9 _ _ rfl (Sw.stay hG9 (by kernel_rfl) (by decide) hC9) (fun _ => Below.refl _ _)
      refine wpFactsR_val (.tuple #[.int .i64 m, .bool one]) (fun vs L9 w9 hG9 hC9 hB K9 hK9 => ?_) ?_
      next =>
        replace hC9 := hC9.before hG9 (by kernel_rfl)
        have d8 := FactN.eq (hB 8 _ (by kernel_rfl) (by kernel_rfl) rfl (by decide))
        simp only [d8] at hK9 ⊢
        go_simp
        refine (HRM.out w9).mono ?_
        rintro en w8 ⟨rfl, hb8⟩
        rw [hm, h1]
        exact hK9 _ _ rfl (Sw.stay hG9 (by kernel_rfl) (by decide) (bthen hC9 hb8)) (fun _ => hb8)
      apply wpFactsR_val
      case h1 =>
        intro vs L9 w9 hG9 hC9 hB K9 hK9
        replace hC9 := hC9.before hG9 (by kernel_rfl)
        have d9 := FactN.eq (hB 9 _ (by kernel_rfl) (by kernel_rfl) rfl (by decide))
        simp only [d9] at hK9 ⊢
        simp only [Act.put, List.setIfInBounds_toArray, List.set_cons_zero, List.set_cons_succ] at hK9
        go_simp
        exact hK9 _ _ rfl (Sw.stay hG9 (by kernel_rfl) (by decide) hC9) (fun _ => Below.refl _ _)
      apply wpFactsR_val
      case h1 =>
        intro vs L9 w9 hG9 hC9 hB K9 hK9
        replace hC9 := hC9.before hG9 (by kernel_rfl)
        have d10 := FactN.eq (hB 10 _ (by kernel_rfl) (by kernel_rfl) rfl (by decide))
        simp only [d10] at hK9 ⊢
        simp only [Act.put, List.setIfInBounds_toArray, List.set_cons_zero, List.set_cons_succ] at hK9
        go_simp
        exact hK9 _ _ rfl (Sw.stay hG9 (by kernel_rfl) (by decide) hC9) (fun _ => Below.refl _ _)
      apply wpFactsR_val
      case h1 =>
        intro vs L9 w9 hG9 hC9 hB K9 hK9
        have d10 := FactN.eq (hB 10 _ (by kernel_rfl) (by kernel_rfl) rfl (by decide))
        simp only [d10] at hK9 ⊢
        simp only [Act.put, List.setIfInBounds_toArray, List.set_cons_zero, List.set_cons_succ] at hK9
        have HC9 := Lib.hid hC9
        clear hC9
        go_simp
        exact hK9 _ _ rfl (Sw.both (by decide) (fun h => h) (fun h => h) HC9.out) (fun _ => Below.refl _ _)
      apply wpFactsR_val
      case h1 =>
        intro vs L9 w9 hG9 hC9 hB K9 hK9
        replace hC9 := hC9.before hG9 (by kernel_rfl)
        simp only [Act.put, List.setIfInBounds_toArray, List.set_cons_zero, List.set_cons_succ] at hK9
        go_simp
        exact hK9 _ _ rfl (Sw.stay hG9 (by kernel_rfl) (by decide) hC9) (fun _ => Below.refl _ _)
      refine wpFactsR_val (undef) (fun vs L9 w9 hG9 hC9 hB K9 hK9 => ?_) ?_
      next =>
        replace hC9 := hC9.here hG9
        have d11 := FactN.eq (hB 11 _ (by kernel_rfl) (by kernel_rfl) rfl (by decide))
        have d13 := FactN.eq (hB 13 _ (by kernel_rfl) (by kernel_rfl) rfl (by decide))
        simp only [d11, d13] at hK9 ⊢
        have K6 := S5.out.now.below hC9 S5.out.now.lt
        have y0 := K6.cell 0
        have y1 := K6.cell 1
        have y2 := K6.cell 2
        have y3 := K6.cell 3
        have y4 := K6.cell 4
        simp only [List.getElem?_cons_zero, List.getElem?_cons_succ] at y0 y1 y2 y3 y4
        have f0 := K6.frozen 0
        have f1 := K6.frozen 1
        have f2 := K6.frozen 2
        have f3 := K6.frozen 3
        have f4 := K6.frozen 4
        have hG8 := Lib.hid (grown_trans (grownB hC9 (some g6)) (grown_set (g := g6) (i := 0) (u := .int .i64 m) (World.grownBy.refl _ _)))
        have hN8 := Lib.hid (K6.set 0 (.int .i64 m))
        clear K6
        go_simp
        exact hK9 _ _ rfl (Sw.turn ⟨hG8.out, hN8.out⟩) (fun hq => (hq (by decide)).elim)
      refine wpFactsR_nil fun vs L9 w9 hL9 hC9 hB => ?_
      replace hC9 := hC9.done hL9 (by decide)
      obtain ⟨hG, LS⟩ := hC9
      have S6 := Lib.hid (S5.out.put (cs' := [.int .i64 m, .int .i64 0, .int .i64 0, .int .i64 ce, .int .i64 0]) hG LS)
      clear hB hL9 hG LS S5
      clear n0
      go_upto_region 7 with fail
      have L8 := S6.out.ws
      have ct1 : w9.cell? ⟨g8, 1, none⟩ = some (.string ⟨(ws[1]'(by omega)).toArray⟩) := by
        rw [L8.cell]; exact texts_at2 ws _ _ (by omega)
      have ht := Hws.out (ws[1]'(by omega)) (List.getElem_mem _)
      obtain ⟨t1, hte⟩ : ∃ t : ByteArray, t = ⟨(ws[1]'(by omega)).toArray⟩ := ⟨_, rfl⟩
      have hbt1 : bl t1 = ws.getD 1 [] := by rw [hte, bl_mk, getD_at]
      rw [← hte] at ct1
      have hzt1 : t1.size ≤ 2000000 := by rw [← bl_size, hbt1, getD_at (by omega)]; exact ht
      clear hte ht
      clear L8
      have k1 : (1 : Int) ≤ (t1.size : Int) := by have := HP1.out; rw [← hbt1, bl_size] at this; omega
      obtain ⟨ux, hux⟩ : ∃ x, t1.extract 1 t1.size = x := ⟨_, rfl⟩
      have hbux : bl ux = (ws.getD 1 []).drop 1 := by rw [← hux, bl_extract, List.take_of_length_le (by rw [bl_size]; exact Nat.le_refl _), hbt1]
      have hzux : ux.size ≤ 2000000 := by rw [← bl_size, hbux, List.length_drop, ← hbt1, bl_size]; omega
      have HR := Lib.hid (fun W => l1Read_any ux W (by omega))
      obtain ⟨bb, hbb⟩ : ∃ z, (numF (bl ux)).getD 0 = z := ⟨_, rfl⟩
      have HVbb : Hid (numD ((ws.getD 1 []).drop 1) = bb) := by rw [← hbux]; exact hbb
      clear hbux hbt1
      go_wp2_with fail
      refine (HR.out _).mono ?_
      rintro e w10 ⟨rfl, hb9⟩
      rw [hbb]
      have S70 := Lib.hid (S6.out.then hb9)
      clear hb9 HR hbb ct1 k1 hux S6
      have K := S70.out.now
      have d0 := K.cell 0
      have d1 := K.cell 1
      have d2 := K.cell 2
      have d3 := K.cell 3
      have d4 := K.cell 4
      simp only [List.getElem?_cons_zero, List.getElem?_cons_succ] at d0 d1 d2 d3 d4
      have fd0 := K.frozen 0
      have fd1 := K.frozen 1
      have fd2 := K.frozen 2
      have fd3 := K.frozen 3
      have fd4 := K.frozen 4
      have gw : w10.grownBy (w10.setCell ⟨g6, 1, none⟩ (.int .i64 bb)) (some g6) := grown_set (World.grownBy.refl _ _)
      have HS := Lib.hid (S70.out.put (cs' := [.int .i64 m, .int .i64 bb, .int .i64 0, .int .i64 ce, .int .i64 0]) gw (K.set 1 (.int .i64 bb)))
      clear gw K
      clear S70
      go_upto_region 8 with fail
      generalize w10.setCell ⟨g6, 1, none⟩ (.int .i64 bb) = w11 at HS ⊢
      have L8 := HS.out.ws
      have ct2 : w11.cell? ⟨g8, 2, none⟩ = some (.string ⟨(ws[2]'(by omega)).toArray⟩) := by
        rw [L8.cell]; exact texts_at2 ws _ _ (by omega)
      have ht := Hws.out (ws[2]'(by omega)) (List.getElem_mem _)
      obtain ⟨t2, hte⟩ : ∃ t : ByteArray, t = ⟨(ws[2]'(by omega)).toArray⟩ := ⟨_, rfl⟩
      have hbt2 : bl t2 = ws.getD 2 [] := by rw [hte, bl_mk, getD_at]
      rw [← hte] at ct2
      have hzt2 : t2.size ≤ 2000000 := by rw [← bl_size, hbt2, getD_at (by omega)]; exact ht
      clear hte ht
      clear L8
      have k1 : (1 : Int) ≤ (t2.size : Int) := by have := HP2.out; rw [← hbt2, bl_size] at this; omega
      obtain ⟨ux, hux⟩ : ∃ x, t2.extract 1 t2.size = x := ⟨_, rfl⟩
      have hbux : bl ux = (ws.getD 2 []).drop 1 := by rw [← hux, bl_extract, List.take_of_length_le (by rw [bl_size]; exact Nat.le_refl _), hbt2]
      have hzux : ux.size ≤ 2000000 := by rw [← bl_size, hbux, List.length_drop, ← hbt2, bl_size]; omega
      have HR := Lib.hid (fun W => l1Read_any ux W (by omega))
      obtain ⟨sv, hsv⟩ : ∃ z, (numF (bl ux)).getD 0 = z := ⟨_, rfl⟩
      have HVsv : Hid (numD ((ws.getD 2 []).drop 1) = sv) := by rw [← hbux]; exact hsv
      clear hbux hbt2
      go_wp2_with fail
      refine (HR.out _).mono ?_
      rintro e w12 ⟨rfl, hb9⟩
      rw [hsv]
      have S80 := Lib.hid (HS.out.then hb9)
      clear hb9 HR hsv ct2 k1 hux HS
      have K := S80.out.now
      have d0 := K.cell 0
      have d1 := K.cell 1
      have d2 := K.cell 2
      have d3 := K.cell 3
      have d4 := K.cell 4
      simp only [List.getElem?_cons_zero, List.getElem?_cons_succ] at d0 d1 d2 d3 d4
      have fd0 := K.frozen 0
      have fd1 := K.frozen 1
      have fd2 := K.frozen 2
      have fd3 := K.frozen 3
      have fd4 := K.frozen 4
      have gw : w12.grownBy (w12.setCell ⟨g6, 2, none⟩ (.int .i64 sv)) (some g6) := grown_set (World.grownBy.refl _ _)
      have HS2 := Lib.hid (S80.out.put (cs' := [.int .i64 m, .int .i64 bb, .int .i64 sv, .int .i64 ce, .int .i64 0]) gw (K.set 2 (.int .i64 sv)))
      clear gw K
      clear S80
      go_upto_region 9 with fail
      generalize w12.setCell ⟨g6, 2, none⟩ (.int .i64 sv) = w13 at HS2 ⊢
      go_cut [82] (fun s82 wx => (∃ b : Bool, s82 = .bool b ∧ Hid (b = decide (ws.length = 7))) ∧ w13 = wx)
      case first =>
        by_cases h7 : ws.length = 7
        · have e7 : ((ws.length : Int) == 7) = true := by simp; omega
          have H7 := Lib.hid h7
          clear h7
          go_wp2_with fail
          go_meet
          case rel => exact ⟨⟨true, rfl, by rw [Hid]; simp [H7.out]⟩, rfl⟩
        · have e7 : ((ws.length : Int) == 7) = false := by rw [beq_eq_false_iff_ne]; omega
          have H7 := Lib.hid h7
          clear h7
          go_wp2_with fail
          go_meet
          case rel => exact ⟨⟨false, rfl, by rw [Hid]; simp [H7.out]⟩, rfl⟩
      case rest =>
        obtain ⟨⟨b7, rfl, hb7⟩, rfl⟩ := hcut
        go_upto_if 82 with fail
        go_cut [] (fun wx => OS2 w wx g8 ws rest g6 [.int .i64 m, .int .i64 bb, .int .i64 sv, .int .i64 ce, .int .i64 (if ws.length = 7 then numD (ws.getD 5 []) else 0)])
        case first =>
          cases b7 with
          | true =>
            have h7 : ws.length = 7 := by simpa using hb7.out.symm
            have H7 := Lib.hid h7
            have j5 : (5 : Int) < (ws.length : Int) := by omega
            have L8 := HS2.out.ws
            have ct5 : w13.cell? ⟨g8, 5, none⟩ = some (.string ⟨(ws[5]'(by omega)).toArray⟩) := by
              rw [L8.cell]; exact texts_at2 ws _ _ (by omega)
            have ht := Hws.out (ws[5]'(by omega)) (List.getElem_mem _)
            obtain ⟨t5, hte⟩ : ∃ t : ByteArray, t = ⟨(ws[5]'(by omega)).toArray⟩ := ⟨_, rfl⟩
            have hbt5 : bl t5 = ws.getD 5 [] := by rw [hte, bl_mk, getD_at]
            rw [← hte] at ct5
            have hzt5 : t5.size ≤ 2000000 := by rw [← bl_size, hbt5, getD_at (by omega)]; exact ht
            clear hte ht
            clear L8
            have HRL := Lib.hid (fun W => l1Read_any t5 W (by omega))
            obtain ⟨lo, hlo⟩ : ∃ z, (numF (bl t5)).getD 0 = z := ⟨_, rfl⟩
            have HVL : Hid (numD (ws.getD 5 []) = lo) := by rw [← hbt5]; exact hlo
            clear h7 hb7 hbt5
            go_wp2_with fail
            refine (HRL.out _).mono ?_
            rintro e w14 ⟨rfl, hb14⟩
            rw [hlo]
            have HS4 := Lib.hid (HS2.out.then hb14)
            clear hb14 HRL hlo ct5 HS2
            have K := HS4.out.now
            have d0 := K.cell 0
            have d1 := K.cell 1
            have d2 := K.cell 2
            have d3 := K.cell 3
            have d4 := K.cell 4
            simp only [List.getElem?_cons_zero, List.getElem?_cons_succ] at d0 d1 d2 d3 d4
            have fd0 := K.frozen 0
            have fd1 := K.frozen 1
            have fd2 := K.frozen 2
            have fd3 := K.frozen 3
            have fd4 := K.frozen 4
            have gw : w14.grownBy (w14.setCell ⟨g6, 4, none⟩ (.int .i64 lo)) (some g6) := grown_set (World.grownBy.refl _ _)
            have HS5 := Lib.hid (HS4.out.put (cs' := [.int .i64 m, .int .i64 bb, .int .i64 sv, .int .i64 ce, .int .i64 lo]) gw (K.set 4 (.int .i64 lo)))
            clear gw K
            clear HS4
            go_wp2_with fail
            go_meet
            case rel => rw [if_pos H7.out, HVL.out]; exact HS5.out
          | false =>
            have H7 : Hid (¬ ws.length = 7) := by have := hb7.out.symm; simp only [decide_eq_false_iff_not] at this; exact this
            clear hb7
            go_wp2_with fail
            go_meet
            case rel => rw [if_neg H7.out]; exact HS2.out
        case rest =>
          clear HS2 hb7
          have S9 := Lib.hid hcut
          clear hcut
          generalize hlo : (if ws.length = 7 then numD (ws.getD 5 []) else 0) = lo at S9
          have HLO := Lib.hid hlo
          clear hlo
          obtain ⟨r, hr⟩ : ∃ r : Row, r = ⟨m, bb, sv, ce, lo⟩ := ⟨_, rfl⟩
          have HR : Hid (rowS ws = r) := by
            rw [hr]
            unfold rowS Hid
            rw [HVM.out, HVbb.out, HVsv.out, HVC.out, HLO.out]
          have K : Lies wc g6 25 [.int .i64 r.m, .int .i64 r.b, .int .i64 r.s, .int .i64 r.c, .int .i64 r.l] := by rw [hr]; exact S9.out.now
          clear hr HLO HVM HVbb HVsv HVC
          have d0 := K.cell 0
          have d1 := K.cell 1
          have d2 := K.cell 2
          have d3 := K.cell 3
          have d4 := K.cell 4
          simp only [List.getElem?_cons_zero, List.getElem?_cons_succ] at d0 d1 d2 d3 d4
          have HK := Lib.hid K
          clear K
          have HIS := Lib.hid (fun W => l31One_any r W)
          have HLN := Lib.hid (fun W (h : r.ok = true) => l31Line_any r W h)
          obtain ⟨tx, htx⟩ : ∃ x : ByteArray, x = lineO r := ⟨_, rfl⟩
          have hbtx : bl tx = lineT r := by rw [htx]; exact bl_mk _
          rw [← htx] at HLN
          clear htx
          obtain ⟨q, hq⟩ : ∃ b : Bool, (tx.toList == s.toList) = b := ⟨_, rfl⟩
          have HQ : Hid (q = decide (lineT r = bl s)) := by rw [Hid, ← hq, str_beqL, hbtx]
          obtain ⟨ro, hro⟩ : ∃ b : Bool, r.ok = b := ⟨_, rfl⟩
          rw [hro] at HIS
          have HRO := Lib.hid hro
          have HPQ : Hid (((rowS ws).ok = true ∧ lineT (rowS ws) = bl s) ↔ (ro = true ∧ q = true)) := by
            rw [Hid, HR.out, HRO.out, HQ.out]; simp
          clear hro hbtx HQ
          go_upto_region 11 with fail
          go_cut [99] (fun s99 wx => (∃ b : Bool, s99 = .bool b ∧ Hid (b = false ↔ ((rowS ws).ok = true ∧ lineT (rowS ws) = bl s))) ∧ Below wc.heap.size wc wx)
          case first =>
            cases ro with
            | false =>
              clear hq
              go_wp2_with fail
              refine (HIS.out _).mono ?_
              rintro e w15 ⟨rfl, hb15⟩
              go_wp2_with fail
              go_meet
              case rel => exact ⟨⟨true, rfl, by rw [Hid, HPQ.out]; simp⟩, hb15⟩
            | true =>
              go_wp2_with fail
              refine (HIS.out _).mono ?_
              rintro e w15 ⟨rfl, hb15⟩
              have K := HK.out.below hb15 HK.out.lt
              clear d0 d1 d2 d3 d4
              have d0 := K.cell 0
              have d1 := K.cell 1
              have d2 := K.cell 2
              have d3 := K.cell 3
              have d4 := K.cell 4
              simp only [List.getElem?_cons_zero, List.getElem?_cons_succ] at d0 d1 d2 d3 d4
              go_wp2_with fail
              refine (HLN.out _ HRO.out).mono ?_
              rintro e w16 ⟨rfl, hb16⟩
              have HB16 := Lib.hid (bthen hb15 hb16)
              clear hb15 hb16 K d0 d1 d2 d3 d4
              cases q with
              | false =>
                go_wp2_with fail
                go_meet
                case rel => exact ⟨⟨true, rfl, by rw [Hid, HPQ.out]; simp⟩, HB16.out⟩
              | true =>
                go_wp2_with fail
                go_meet
                case rel => exact ⟨⟨false, rfl, by rw [Hid, HPQ.out]; simp⟩, HB16.out⟩
          case rest =>
            obtain ⟨⟨b, rfl, hbp⟩, hb17⟩ := hcut
            have S17 := Lib.hid (OS3.mk (bthen S9.out.bl hb17) (S9.out.out.below hb17 S9.out.out.lt))
            have K := HK.out.below hb17 HK.out.lt
            clear S9 HK d0 d1 d2 d3 d4 hb17 HIS HLN HPQ hq
            cases b with
            | true =>
              have HRD := Lib.hid (pre_no HWS.out (fun h => by have := hbp.out.2 h.2; cases this))
              clear hbp K
              have K2 := S17.out.out
              have a0 := K2.cell 0
              have a1 := K2.cell 1
              have a2 := K2.cell 2
              have a3 := K2.cell 3
              have a4 := K2.cell 4
              simp only [List.getElem?_cons_zero, List.getElem?_cons_succ] at a0 a1 a2 a3 a4
              have fa0 := K2.frozen 0
              have fa1 := K2.frozen 1
              have fa2 := K2.frozen 2
              have fa3 := K2.frozen 3
              have fa4 := K2.frozen 4

              obtain ⟨W20, hW20⟩ : ∃ W20, (((((wc.setCell ⟨w.heap.size, 0, none⟩ (.int .i64 0)).setCell ⟨w.heap.size, 1, none⟩ (.int .i64 0)).setCell ⟨w.heap.size, 2, none⟩ (.int .i64 0)).setCell ⟨w.heap.size, 3, none⟩ (.int .i64 0)).setCell ⟨w.heap.size, 4, none⟩ (.int .i64 0)) = W20 := ⟨_, rfl⟩
              have gw : wc.grownBy (((((wc.setCell ⟨w.heap.size, 0, none⟩ (.int .i64 0)).setCell ⟨w.heap.size, 1, none⟩ (.int .i64 0)).setCell ⟨w.heap.size, 2, none⟩ (.int .i64 0)).setCell ⟨w.heap.size, 3, none⟩ (.int .i64 0)).setCell ⟨w.heap.size, 4, none⟩ (.int .i64 0)) (some w.heap.size) := (grown_set (g := w.heap.size) (i := 4) (u := .int .i64 0) (grown_set (g := w.heap.size) (i := 3) (u := .int .i64 0) (grown_set (g := w.heap.size) (i := 2) (u := .int .i64 0) (grown_set (g := w.heap.size) (i := 1) (u := .int .i64 0) (grown_set (g := w.heap.size) (i := 0) (u := .int .i64 0) (World.grownBy.refl _ _))))))
              have kw : Lies (((((wc.setCell ⟨w.heap.size, 0, none⟩ (.int .i64 0)).setCell ⟨w.heap.size, 1, none⟩ (.int .i64 0)).setCell ⟨w.heap.size, 2, none⟩ (.int .i64 0)).setCell ⟨w.heap.size, 3, none⟩ (.int .i64 0)).setCell ⟨w.heap.size, 4, none⟩ (.int .i64 0)) w.heap.size 25 [.int .i64 0, .int .i64 0, .int .i64 0, .int .i64 0, .int .i64 0] := K2.set 0 (.int .i64 0) |>.set 1 (.int .i64 0) |>.set 2 (.int .i64 0) |>.set 3 (.int .i64 0) |>.set 4 (.int .i64 0)
              have BB := Lib.hid (bel_grow S17.out.bl gw (Nat.le_refl _) (Nat.le_refl _))
              rw [hW20] at kw BB
              have HW20 := Lib.hid hW20
              have HK := Lib.hid kw
              clear gw kw hW20 K2 S17
              repeat (first | go_values | go_skip | go_guarded | go_step | go_upon | simp only [])
              rw [HW20.out]
              have LS := HK.out
              have x0 := LS.cell 0
              have x1 := LS.cell 1
              have x2 := LS.cell 2
              have x3 := LS.cell 3
              have x4 := LS.cell 4
              simp only [List.getElem?_cons_zero, List.getElem?_cons_succ] at x0 x1 x2 x3 x4
              refine bodyPost_ret (v := .tuple #[.agg #[.int .i64 0, .int .i64 0, .int .i64 0, .int .i64 0, .int .i64 0], .bool false]) (by simp [results, Tryz.results11, go_sem, x0, x1, x2, x3, x4]) rfl ?_
              exact ⟨zrow, false, rfl, HRD.out, BB.out⟩
            | false =>
              have HRD : Hid (lineR (bl s) = (r, true)) := by rw [← HR.out]; exact pre_yes (hbp.out.1 rfl)
              clear hbp
              have d0 := K.cell 0
              have d1 := K.cell 1
              have d2 := K.cell 2
              have d3 := K.cell 3
              have d4 := K.cell 4
              simp only [List.getElem?_cons_zero, List.getElem?_cons_succ] at d0 d1 d2 d3 d4
              have K2 := S17.out.out
              have a0 := K2.cell 0
              have a1 := K2.cell 1
              have a2 := K2.cell 2
              have a3 := K2.cell 3
              have a4 := K2.cell 4
              simp only [List.getElem?_cons_zero, List.getElem?_cons_succ] at a0 a1 a2 a3 a4
              have fa0 := K2.frozen 0
              have fa1 := K2.frozen 1
              have fa2 := K2.frozen 2
              have fa3 := K2.frozen 3
              have fa4 := K2.frozen 4

              obtain ⟨W20, hW20⟩ : ∃ W20, (((((wc.setCell ⟨w.heap.size, 0, none⟩ (.int .i64 r.m)).setCell ⟨w.heap.size, 1, none⟩ (.int .i64 r.b)).setCell ⟨w.heap.size, 2, none⟩ (.int .i64 r.s)).setCell ⟨w.heap.size, 3, none⟩ (.int .i64 r.c)).setCell ⟨w.heap.size, 4, none⟩ (.int .i64 r.l)) = W20 := ⟨_, rfl⟩
              have gw : wc.grownBy (((((wc.setCell ⟨w.heap.size, 0, none⟩ (.int .i64 r.m)).setCell ⟨w.heap.size, 1, none⟩ (.int .i64 r.b)).setCell ⟨w.heap.size, 2, none⟩ (.int .i64 r.s)).setCell ⟨w.heap.size, 3, none⟩ (.int .i64 r.c)).setCell ⟨w.heap.size, 4, none⟩ (.int .i64 r.l)) (some w.heap.size) := (grown_set (g := w.heap.size) (i := 4) (u := .int .i64 r.l) (grown_set (g := w.heap.size) (i := 3) (u := .int .i64 r.c) (grown_set (g := w.heap.size) (i := 2) (u := .int .i64 r.s) (grown_set (g := w.heap.size) (i := 1) (u := .int .i64 r.b) (grown_set (g := w.heap.size) (i := 0) (u := .int .i64 r.m) (World.grownBy.refl _ _))))))
              have kw : Lies (((((wc.setCell ⟨w.heap.size, 0, none⟩ (.int .i64 r.m)).setCell ⟨w.heap.size, 1, none⟩ (.int .i64 r.b)).setCell ⟨w.heap.size, 2, none⟩ (.int .i64 r.s)).setCell ⟨w.heap.size, 3, none⟩ (.int .i64 r.c)).setCell ⟨w.heap.size, 4, none⟩ (.int .i64 r.l)) w.heap.size 25 [.int .i64 r.m, .int .i64 r.b, .int .i64 r.s, .int .i64 r.c, .int .i64 r.l] := K2.set 0 (.int .i64 r.m) |>.set 1 (.int .i64 r.b) |>.set 2 (.int .i64 r.s) |>.set 3 (.int .i64 r.c) |>.set 4 (.int .i64 r.l)
              have BB := Lib.hid (bel_grow S17.out.bl gw (Nat.le_refl _) (Nat.le_refl _))
              rw [hW20] at kw BB
              have HW20 := Lib.hid hW20
              have HK := Lib.hid kw
              clear gw kw hW20 K2 S17
              repeat (first | go_values | go_skip | go_guarded | go_step | go_upon | simp only [])
              rw [HW20.out]
              have LS := HK.out
              have x0 := LS.cell 0
              have x1 := LS.cell 1
              have x2 := LS.cell 2
              have x3 := LS.cell 3
              have x4 := LS.cell 4
              simp only [List.getElem?_cons_zero, List.getElem?_cons_succ] at x0 x1 x2 x3 x4
              refine bodyPost_ret (v := .tuple #[.agg #[.int .i64 r.m, .int .i64 r.b, .int .i64 r.s, .int .i64 r.c, .int .i64 r.l], .bool true]) (by simp [results, Tryz.results11, go_sem, x0, x1, x2, x3, x4]) rfl ?_
              exact ⟨r, true, rfl, HRD.out, BB.out⟩
end Go.Proofs.YtpjfidmapnnbkaaGreatDoor

/- OfficeReport: both sides. -/
namespace Go.Proofs.YtpjfidmapnnbkaaGreatDoor
open Go.RowKit

def repT : List Row → List UInt8
  | [] => []
  | r :: l => lineT r ++ (10 :: repT l)
def soldF : Int → List Row → Int
  | s, [] => s
  | s, r :: l => soldF (s + r.s) l
theorem sums_sold : ∀ (l : List Row) (b s c m : Int), (sumsFrom b s c m l)[1]? = some (soldF s l)
  | [], _, _, _, _ => rfl
  | r :: l, b, s, c, m => by unfold sumsFrom soldF; exact sums_sold l _ _ _ _
theorem soldF_drop {l : List Row} {k : Nat} (h : k < l.length) (s : Int) : soldF s (l.drop k) = soldF (s + l[k].s) (l.drop (k + 1)) := by rw [List.drop_eq_getElem_cons h]; rfl
theorem repT_drop {l : List Row} {k : Nat} (h : k < l.length) : repT (l.drop k) = lineT l[k] ++ (10 :: repT (l.drop (k + 1))) := by rw [List.drop_eq_getElem_cons h]; rfl
def reportT (l : List Row) : List UInt8 := repT l ++ ([115, 111, 108, 100, 32] ++ Lib.itoa (soldF 0 l))
def reportV (l : List Row) : ByteArray := if goodRows l then ⟨(reportT l).toArray⟩ else ⟨#[]⟩
theorem lineO_bl (r : Row) : bl (lineO r) = lineT r := by unfold lineO; rw [bl_mk]
theorem lineO_size {r : Row} (h : r.ok = true) : (lineO r).size ≤ 2000 := by
  have e : ∀ l : List UInt8, (⟨l.toArray⟩ : ByteArray).size = l.length := fun l => rfl
  obtain ⟨a1, a2, a3, a4, a5, a6, a7, a8, a9, a10⟩ := Row.ok_bounds h
  have h1 := itoa_len (n := r.m) (by omega) (by omega)
  have h2 := itoa_len (n := r.b) (by omega) (by omega)
  have h3 := itoa_len (n := r.s) (by omega) (by omega)
  have h4 := itoa_len (n := r.l) (by omega) (by omega)
  have h5 := hund_len (n := r.c.natAbs) (by omega)
  rw [e] at h1 h2 h3 h4 h5
  unfold lineO
  rw [e]
  unfold lineT
  simp only [List.length_append, List.length_cons, List.length_nil]
  split <;> split <;> simp only [List.length_append, List.length_cons, List.length_nil] <;> omega
theorem soldF_bound : ∀ (l : List Row) (s : Int), (∀ i (hi : i < l.length), l[i].ok = true) → 0 ≤ s → 0 ≤ soldF s l ∧ soldF s l ≤ s + 9999 * l.length
  | [], s, _, h => by simp [soldF]; omega
  | r :: l, s, hok, h => by
    have h0 := hok 0 (by simp)
    obtain ⟨_, _, ⟨b1, b2⟩, _⟩ := Row.bounds h0
    simp only [List.getElem_cons_zero] at b1 b2
    have h1 := soldF_bound l (s + r.s) (fun i hi => by have := hok (i + 1) (by simpa using hi); simpa using this) (by omega)
    unfold soldF
    simp only [List.length_cons]
    omega

set_option maxRecDepth 100000 in
set_option maxHeartbeats 2000000 in
theorem specReport_any (A : Option Addr) (c : Nat) (l : List Row) (w : World) (h : RowsR w w.heap.size A l) :
    Calls Tryz.prog 19 #[.slice A l.length c] w fun e w' => e = .returned (.tuple #[.string (reportV l), .bool (goodRows l)]) ∧ Below w.heap.size w w' := by
  have hl := h.big
  have hS := specSums_any A c l w h
  cases hg : goodRows l
  · have HV : Hid (reportV l = ⟨#[]⟩) := by unfold reportV Hid; rw [hg]; rfl
    rw [hg] at hS
    have HG := Lib.hid hg; clear hg
    have HS := Lib.hid hS; clear hS
    go_enter Tryz.func19, Tryz.ntmps19
    go_wp2_with fail
    refine (HS.out).mono ?_
    rintro e w1 ⟨A1, c1, rfl, hO1, hb1⟩
    clear hO1
    go_wp2_with fail
    go_ret2
    exact ⟨by rw [HV.out]; rfl, hb1⟩
  · have h12 := good_len hg
    have hall : ∀ i (hi : i < l.length), l[i].ok = true := fun i hi => good_at hg hi
    have HA := Lib.hid hall
    have hsb := soldF_bound l 0 hall (by omega)
    have hsr : sumsR l = sumsFrom 0 0 0 0 l := by unfold sumsR; rw [hg]; rfl
    have hs1 : (sumsR l)[1]? = some (soldF 0 l) := by rw [hsr]; exact sums_sold l 0 0 0 0
    have hs4 : (sumsR l).length = 4 := by rw [hsr]; exact sumsFrom_len l 0 0 0 0
    have HV : Hid (reportV l = ⟨(reportT l).toArray⟩) := by unfold reportV Hid; rw [hg]; rfl
    rw [hg] at hS
    clear hall hsr
    have HG := Lib.hid hg; clear hg
    have hrd := Lib.hid h.row
    have HS2 : Hid (Calls Tryz.prog 50 #[.slice A l.length c] w fun e w' => ∃ b off c', e = .returned (.tuple #[.slice (some ⟨b, off, none⟩) 4 c', .bool true]) ∧ b < w'.heap.size ∧ w'.cell? ⟨b, off + 1, none⟩ = some (.int .i64 (soldF 0 l)) ∧ Below w.heap.size w w') := by
      refine hS.mono ?_
      rintro e w1 ⟨A1, c1, rfl, hO1, hb1⟩
      obtain ⟨b, off, hA, hb, hc⟩ := SlcR.at_ hO1.reads (by omega)
      refine ⟨b, off, c1, by rw [hs4, hA], hb, hc 1 _ ?_, hb1⟩
      rw [List.getElem?_map, hs1]; rfl
    clear hS hs1 hs4
    obtain ⟨sd, hsd⟩ : ∃ sd, sd = soldF 0 l := ⟨_, rfl⟩
    rw [← hsd] at HS2 hsb
    obtain ⟨ts, hts⟩ : ∃ t : ByteArray, t = ⟨(Lib.itoa sd).toArray⟩ := ⟨_, rfl⟩
    have hz : ts.size ≤ 100 := by rw [hts]; exact itoa_len (by omega) (by omega)
    have HN : Hid (∀ W, Calls Tryz.prog 51 #[.int .i64 sd] W fun e w' => e = .returned (.string ts) ∧ Below W.heap.size W w') := fun W => by rw [hts]; exact l1Num_any sd W (by omega) (by omega)
    have HF : Hid (bl ⟨#[]⟩ ++ repT (l.drop 0) = repT l) := rfl
    have HT : Hid (reportT l = repT l ++ ([115, 111, 108, 100, 32] ++ bl ts)) := by rw [Hid, hts, bl_mk, hsd]; rfl
    clear hts hsd
    have z1 : (⟨#[10]⟩ : ByteArray).size = 1 := rfl
    have z2 : (⟨#[115, 111, 108, 100, 32]⟩ : ByteArray).size = 5 := rfl
    go_enter Tryz.func19, Tryz.ntmps19
    go_wp2_with fail
    refine (HS2.out).mono ?_
    rintro e w1 ⟨bs, offs, cs, rfl, hbs, hcs, hb1⟩
    have hr1 : RowsR w1 w1.heap.size A l := h.then hb1
    clear hrd
    have hrd := hr1.row
    go_wp2_with fail
    go_loopw [6, 7] (fun o i wr => ∃ (k : Nat) (x : ByteArray), k ≤ l.length ∧ i = .int .i64 k ∧ o = .string x ∧ x.size ≤ 3000 * k ∧ Hid (bl x ++ repT (l.drop k) = repT l) ∧ (∃ q : Since w1.heap.size w1, wr = q.val)) (fun _ i _ => l.length - (intOf i).toNat)
    case atStart => exact ⟨0, ⟨#[]⟩, Nat.zero_le _, rfl, rfl, by decide, HF, ⟨Since.start _ _, rfl⟩⟩
    case round =>
      obtain ⟨k, x, hk, rfl, rfl, hx, HR, ⟨q, rfl⟩⟩ := hrel
      by_cases hlt : k < l.length
      · obtain ⟨b, off, rfl, hb, hcell⟩ := hrd (by omega)
        obtain ⟨c0, c1, c2, c3, c4⟩ := hcell k hlt
        have hok := HA.out k hlt
        have HD := Lib.hid (repT_drop hlt)
        obtain ⟨y, hy⟩ : ∃ y, y = l[k] := ⟨_, rfl⟩
        rw [← hy] at c0 c1 c2 c3 c4 hok HD
        have HL := Lib.hid (fun W => l31Line_any y W hok)
        have hls := lineO_size hok
        have HLB := Lib.hid (lineO_bl y)
        clear hy hcell hrd hok
        generalize lineO y = t at HL hls HLB
        go_wp2_with fail
        refine (HL.out _).mono ?_
        rintro e w2 ⟨rfl, hb2⟩
        go_wp2_with fail
        go_roundw
        case rel => exact ⟨k + 1, x ++ t ++ ⟨#[10]⟩, by omega, by go_num, rfl, by rw [size_app, size_app, z1]; omega, by
          have h9 := HR.out
          rw [HD.out, ← HLB.out] at h9
          rw [Hid, bl_app, bl_app, ← h9]
          simp [bl], ⟨q.go (Nat.le_refl _) hb2, rfl⟩⟩
        case measure => simp [intOf]; omega
      · have HX : Hid (bl x = repT l) := by
          have h9 := HR.out
          rw [List.drop_eq_nil_of_le (by omega), show repT [] = [] from rfl, List.append_nil] at h9; exact h9
        have hcs' : q.val.cell? ⟨bs, offs + 1, none⟩ = some (.int .i64 sd) := (q.cell hbs).trans hcs
        clear hrd
        go_wp2_with fail
        refine (HN.out _).mono ?_
        rintro e w2 ⟨rfl, hb2⟩
        go_wp2_with fail
        have key : (x ++ ⟨#[115, 111, 108, 100, 32]⟩ ++ ts : ByteArray) = reportV l := by
          rw [HV.out]; refine bl_ext ?_
          rw [HT.out, bl_app, bl_app, HX.out, List.append_assoc]; rfl
        go_ret2
        exact ⟨by rw [← key]; rfl, bthen hb1 (q.below.trans (hb2.mono q.size))⟩
end Go.Proofs.YtpjfidmapnnbkaaGreatDoor

/- OfficeReport in the program; the law. -/
namespace Go.Proofs.YtpjfidmapnnbkaaGreatDoor
open Go.RowKit

set_option maxRecDepth 100000 in
set_option maxHeartbeats 2000000 in
theorem implReport_any (A : Option Addr) (c : Nat) (l : List Row) (w : World) (h : RowsR w w.heap.size A l) (ht : Tab w) :
    Calls Tryz.prog 18 #[.slice A l.length c] w fun e w' => e = .returned (.tuple #[.string (reportV l), .bool (goodRows l)]) ∧ Below w.heap.size w w' := by
  have hl := h.big
  have hS := areOfficeRows_any A c l w h
  cases hg : goodRows l
  · have HV : Hid (reportV l = ⟨#[]⟩) := by unfold reportV Hid; rw [hg]; rfl
    rw [hg] at hS
    have HG := Lib.hid hg; clear hg
    have HS := Lib.hid hS; clear hS
    go_enter Tryz.func18, Tryz.ntmps18
    go_wp2_with fail
    refine (HS.out).mono ?_
    rintro e w1 ⟨rfl, hb1⟩
    go_wp2_with fail
    go_ret2
    exact ⟨by rw [HV.out]; rfl, hb1⟩
  · have h12 := good_len hg
    have hall : ∀ i (hi : i < l.length), l[i].ok = true := fun i hi => good_at hg hi
    have HA := Lib.hid hall
    have hsb := soldF_bound l 0 hall (by omega)
    have HV : Hid (reportV l = ⟨(reportT l).toArray⟩) := by unfold reportV Hid; rw [hg]; rfl
    rw [hg] at hS
    clear hall
    have HG := Lib.hid hg; clear hg
    have HS := Lib.hid hS; clear hS
    obtain ⟨sd, hsd⟩ : ∃ sd, sd = soldF 0 l := ⟨_, rfl⟩
    rw [← hsd] at hsb
    have HSD : Hid (soldF 0 (l.drop 0) = sd) := hsd.symm
    obtain ⟨ts, hts⟩ : ∃ t : ByteArray, t = ⟨(Lib.itoa sd).toArray⟩ := ⟨_, rfl⟩
    have hz : ts.size ≤ 100 := by rw [hts]; exact itoa_len (by omega) (by omega)
    have HN : Hid (∀ W, Tab W → Calls Tryz.prog 49 #[.int .i64 sd] W fun e w' => e = .returned (.string ts) ∧ Below W.heap.size W w') := fun W hW => by rw [hts]; exact itoa_any sd W (by omega) (by omega) hW
    have HF : Hid (bl ⟨#[]⟩ ++ repT (l.drop 0) = repT l) := rfl
    have HT : Hid (reportT l = repT l ++ ([115, 111, 108, 100, 32] ++ bl ts)) := by rw [Hid, hts, bl_mk, hsd]; rfl
    clear hts hsd
    have z1 : (⟨#[10]⟩ : ByteArray).size = 1 := rfl
    have z2 : (⟨#[115, 111, 108, 100, 32]⟩ : ByteArray).size = 5 := rfl
    go_enter Tryz.func18, Tryz.ntmps18
    go_wp2_with fail
    refine (HS.out).mono ?_
    rintro e w1 ⟨rfl, hb1⟩
    have hr1 : RowsR w1 w1.heap.size A l := h.then hb1
    have ht1 := ht.then hb1
    have hrd := hr1.row
    go_wp2_with fail
    go_loopw [4, 5, 7, 13] (fun o sv _ i wr => ∃ (k : Nat) (x : ByteArray) (s : Int), k ≤ l.length ∧ i = .int .i64 k ∧ o = .string x ∧ sv = .int .i64 s ∧ x.size ≤ 3000 * k ∧ 0 ≤ s ∧ s ≤ 9999 * (k : Int) ∧ Hid (bl x ++ repT (l.drop k) = repT l) ∧ Hid (soldF s (l.drop k) = sd) ∧ (∃ q : Since w1.heap.size w1, wr = q.val)) (fun _ _ _ i _ => l.length - (intOf i).toNat)
    case atStart => exact ⟨0, ⟨#[]⟩, 0, Nat.zero_le _, rfl, rfl, rfl, by decide, by omega, by omega, HF, HSD, ⟨Since.start _ _, rfl⟩⟩
    case round =>
      obtain ⟨k, x, s, hk, rfl, rfl, rfl, hx, hs0, hs1, HR, HSk, ⟨q, rfl⟩⟩ := hrel
      by_cases hlt : k < l.length
      · obtain ⟨b, off, rfl, hb, hcell⟩ := hrd (by omega)
        obtain ⟨c0, c1, c2, c3, c4⟩ := hcell k hlt
        have hok := HA.out k hlt
        obtain ⟨_, _, ⟨u1, u2⟩, _⟩ := Row.bounds hok
        have HD := Lib.hid (repT_drop hlt)
        have HSt := Lib.hid (soldF_drop hlt s)
        obtain ⟨y, hy⟩ : ∃ y, y = l[k] := ⟨_, rfl⟩
        rw [← hy] at c0 c1 c2 c3 c4 hok HD u1 u2 HSt
        have HL := Lib.hid (fun W hW => officeLine_any y W hok hW)
        have hls := lineO_size hok
        have HLB := Lib.hid (lineO_bl y)
        clear hy hcell hrd hok
        generalize lineO y = t at HL hls HLB
        have N1 := Lies.new q.val 25 #[.int .i64 y.m, .int .i64 y.b, .int .i64 y.s, .int .i64 y.c, .int .i64 y.l]
        have bq := (Below.refl q.val.heap.size q.val).alloc (Nat.le_refl _) (.cells #[.int .i64 y.m, .int .i64 y.b, .int .i64 y.s, .int .i64 y.c, .int .i64 y.l] 25)
        have htq := (ht1.at q).then bq
        go_wp2_with fail
        refine (HL.out _ htq).mono ?_
        rintro e w2 ⟨rfl, hb2⟩
        have N2 := N1.below hb2 N1.lt
        have d2 := N2.cell 2
        simp only [List.getElem?_cons_zero, List.getElem?_cons_succ] at d2
        have hq2 := bthen bq hb2
        clear N1 N2 bq
        go_wp2_with fail
        go_roundw
        case rel => exact ⟨k + 1, x ++ (t ++ ⟨#[10]⟩), s + y.s, by omega, by go_num, rfl, rfl, by rw [size_app, size_app, z1]; omega, by omega, by omega, by
          have h9 := HR.out
          rw [HD.out, ← HLB.out] at h9
          rw [Hid, bl_app, bl_app, ← h9]
          simp [bl], by have h9 := HSk.out; rw [HSt.out] at h9; exact h9, ⟨q.go (Nat.le_refl _) hq2, rfl⟩⟩
        case measure => simp [intOf]; omega
      · have HX : Hid (bl x = repT l) := by
          have h9 := HR.out
          rw [List.drop_eq_nil_of_le (by omega), show repT [] = [] from rfl, List.append_nil] at h9; exact h9
        have hss : s = sd := by
          have h9 := HSk.out
          rw [List.drop_eq_nil_of_le (by omega)] at h9; exact h9
        subst hss
        clear hrd
        go_wp2_with fail
        refine (HN.out _ (ht1.at q)).mono ?_
        rintro e w2 ⟨rfl, hb2⟩
        go_wp2_with fail
        have key : (x ++ ⟨#[115, 111, 108, 100, 32]⟩ ++ ts : ByteArray) = reportV l := by
          rw [HV.out]; refine bl_ext ?_
          rw [HT.out, bl_app, bl_app, HX.out, List.append_assoc]; rfl
        go_ret2
        exact ⟨by rw [← key]; rfl, bthen hb1 (q.below.trans (hb2.mono q.size))⟩

end Go.Proofs.YtpjfidmapnnbkaaGreatDoor

/- The law FnOffice. (Printed by gen_lawoffice.py) -/
namespace Go.Proofs.YtpjfidmapnnbkaaGreatDoor
open Go.RowKit

theorem rBig_any (A : Option Addr) (n c : Nat) (w : World) : Calls Tryz.prog 4 #[.slice A n c] w fun e w' => e = .returned (.bool (decide (65536 < n))) ∧ w = w' := by
  by_cases h : 65536 < n
  · have h1 : (65536 : Int) < n := by omega
    rw [decide_eq_true h]
    go_enter Tryz.func4, Tryz.ntmps4
    go_wp2
    go_ret
    exact ⟨by simp [h1], rfl⟩
  · have h1 : ¬ (65536 : Int) < n := by omega
    rw [decide_eq_false h]
    go_enter Tryz.func4, Tryz.ntmps4
    go_wp2
    go_ret
    exact ⟨by simp [h1], rfl⟩
/-- The law's world: the code, and the row drawn in block g. -/
structure OW (w W : World) (A : Option Addr) (bs : List UInt8) : Prop where
  bl : Below w.heap.size w W
  lw : LW W
  rd : BytesR W W.heap.size A bs
theorem OW.then {w W W' : World} {A : Option Addr} {bs : List UInt8} (S : OW w W A bs) (hb : Below W.heap.size W W') : OW w W' A bs :=
  ⟨bthen S.bl hb, S.lw.then hb, (SlcR.below S.rd hb).mono hb.size⟩
structure ORw (w W : World) (A : Option Addr) (bs : List UInt8) (g : Nat) (r : Row) : Prop where
  ow : OW w W A bs
  px : Lies W g 25 [.int .i64 r.m, .int .i64 r.b, .int .i64 r.s, .int .i64 r.c, .int .i64 r.l]
theorem ORw.then {w W W' : World} {A : Option Addr} {bs : List UInt8} {g : Nat} {r : Row} (S : ORw w W A bs g r) (hb : Below W.heap.size W W') : ORw w W' A bs g r :=
  ⟨S.ow.then hb, S.px.below hb S.px.lt⟩
theorem slc_then {W W' : World} {k n : Nat} {A : Option Addr} {cs : List Value} (h : SlcR W W.heap.size k A n cs) (hb : Below W.heap.size W W') : SlcR W' W'.heap.size k A n cs := (SlcR.below h hb).mono hb.size
theorem line_back {r : Row} (h : r.ok = true) : lineR (bl (lineV r)) = (r, true) := by
  unfold lineV lineR
  rw [if_pos h, lineO_bl, lineF_eq h rfl]
theorem same_line {s : List UInt8} {x y : Row} {a b : Bool} (h : lineR s = (x, a)) (h' : lineR s = (y, b)) : x = y ∧ a = b := by
  rw [h] at h'; injection h' with h1 h2; exact ⟨h1, h2⟩

set_option maxRecDepth 100000 in
set_option maxHeartbeats 16000000 in
set_option linter.unusedVariables false in
theorem lawOffice_any (A : Option Addr) (cap : Nat) (bs : List UInt8) (w : World) (hr : BytesR w w.heap.size A bs) (hL : LW w) :
    Calls Tryz.prog 3 #[.slice A bs.length cap] w fun e w' => e = .returned (.bool true) ∧ Below w.heap.size w w' := by
  obtain ⟨big, hbig⟩ : ∃ b, decide (65536 < bs.length) = b := ⟨_, rfl⟩
  have hboo : ∀ b : Bool, (b != b) = false := by simp
  have heqb : ∀ b : Bool, (b == b) = true := by simp
  have HNQ := Lib.hid neqRow
  have HGD := Lib.hid guardNeq
  go_enter Tryz.func3, Tryz.ntmps3
  go_wp2_with fail
  refine (rBig_any A bs.length cap w).mono ?_
  rintro e w ⟨rfl, rfl⟩
  rw [hbig]
  clear hbig
  cases big with
  | true =>
    go_wp2_with fail
    go_ret
    exact ⟨rfl, Below.refl _ _⟩
  | false =>
    go_wp2_with fail
    refine (drawLine_any A cap bs w hr).mono ?_
    rintro e w1 ⟨r, rfl, b1⟩
    have ha1 := (Below.refl w1.heap.size w1).alloc (Nat.le_refl _) (.cells #[.int .i64 r.m, .int .i64 r.b, .int .i64 r.s, .int .i64 r.c, .int .i64 r.l] 25)
    have K3 := Lies.new w1 25 #[.int .i64 r.m, .int .i64 r.b, .int .i64 r.s, .int .i64 r.c, .int .i64 r.l]
    have bb1 := bthen b1 ha1
    have S1 := Lib.hid (ORw.mk (A := A) (bs := bs) (r := r) (OW.mk bb1 (hL.then bb1) ((SlcR.below hr bb1).mono bb1.size)) K3)
    have HIS := Lib.hid (fun W t => implOfficeLine_any r W t)
    have HSS := Lib.hid (fun W => specOfficeLine_any r W)
    have HIP := Lib.hid (fun W => implIsOfficeRow_any r W)
    have hz1 := lineV_size r
    have hrd1 := fun h => line_back (r := r) h
    obtain ⟨sx, hsx⟩ : ∃ y, lineV r = y := ⟨_, rfl⟩
    rw [hsx] at HIS HSS hz1 hrd1
    obtain ⟨ok, hok⟩ : ∃ b, r.ok = b := ⟨_, rfl⟩
    rw [hok] at HIS HSS HIP hrd1
    have HRD1 := Lib.hid hrd1
    clear hsx hok hrd1 ha1 b1 bb1 K3
    go_upto_region 4 with fail
    generalize w1.alloc (.cells #[.int .i64 r.m, .int .i64 r.b, .int .i64 r.s, .int .i64 r.c, .int .i64 r.l] 25) = W1 at S1 ⊢
    generalize w1.heap.size = g at S1 ⊢

    have K := S1.out.px
    have c0 := K.cell 0
    have c1 := K.cell 1
    have c2 := K.cell 2
    have c3 := K.cell 3
    have c4 := K.cell 4
    simp only [List.getElem?_cons_zero, List.getElem?_cons_succ] at c0 c1 c2 c3 c4
    clear K
    go_wp2_with fail
    refine (HIS.out W1 S1.out.ow.lw.tab).mono ?_
    rintro e w2 ⟨rfl, hb⟩
    have S2 := Lib.hid (S1.out.then hb)
    clear hb S1
    clear c0 c1 c2 c3 c4
    have K := S2.out.px
    have c0 := K.cell 0
    have c1 := K.cell 1
    have c2 := K.cell 2
    have c3 := K.cell 3
    have c4 := K.cell 4
    simp only [List.getElem?_cons_zero, List.getElem?_cons_succ] at c0 c1 c2 c3 c4
    clear K
    go_wp2_with fail
    refine (HSS.out w2).mono ?_
    rintro e w3 ⟨rfl, hb⟩
    have S3 := Lib.hid (S2.out.then hb)
    clear hb S2
    clear c0 c1 c2 c3 c4
    have K := S3.out.px
    have c0 := K.cell 0
    have c1 := K.cell 1
    have c2 := K.cell 2
    have c3 := K.cell 3
    have c4 := K.cell 4
    simp only [List.getElem?_cons_zero, List.getElem?_cons_succ] at c0 c1 c2 c3 c4
    clear K
    have e1 := hboo ok
    go_wp2_with fail
    refine (HIP.out w3).mono ?_
    rintro e w4 ⟨rfl, hb⟩
    have S4 := Lib.hid (S3.out.then hb)
    clear hb S3
    clear c0 c1 c2 c3 c4
    go_upto_if 63 with fail
    go_cut [] (fun wx => OW w wx A bs)
    case first =>
      cases ok with
      | false =>
        clear e1
        go_wp2_with fail
        go_meet
        case rel => exact S4.out.ow
      | true =>
        clear e1
        go_wp2_with fail
        refine (implParseOffice_any sx w4 (by omega) S4.out.ow.lw).mono ?_
        rintro e w5 ⟨y, oky, rfl, hy, b5⟩
        obtain ⟨rfl, rfl⟩ := same_line hy (HRD1.out (by simp))
        have ha5 := (Below.refl w5.heap.size w5).alloc (Nat.le_refl _) (.cells #[.int .i64 y.m, .int .i64 y.b, .int .i64 y.s, .int .i64 y.c, .int .i64 y.l] 25)
        have K5 := Lies.new w5 25 #[.int .i64 y.m, .int .i64 y.b, .int .i64 y.s, .int .i64 y.c, .int .i64 y.l]
        have S5 := Lib.hid (S4.out.then (bthen b5 ha5))
        clear ha5 b5 hy S4
        go_upto_region 10 with fail
        generalize w5.alloc (.cells #[.int .i64 y.m, .int .i64 y.b, .int .i64 y.s, .int .i64 y.c, .int .i64 y.l] 25) = W5 at K5 S5 ⊢
        generalize w5.heap.size = g5 at K5 ⊢
        have K := S5.out.px
        have c0 := K.cell 0
        have c1 := K.cell 1
        have c2 := K.cell 2
        have c3 := K.cell 3
        have c4 := K.cell 4
        simp only [List.getElem?_cons_zero, List.getElem?_cons_succ] at c0 c1 c2 c3 c4
        clear K
        have d0 := K5.cell 0
        have d1 := K5.cell 1
        have d2 := K5.cell 2
        have d3 := K5.cell 3
        have d4 := K5.cell 4
        simp only [List.getElem?_cons_zero, List.getElem?_cons_succ] at d0 d1 d2 d3 d4
        clear K5
        have hnq := HNQ.out y
        have hgd := HGD.out
        go_wp2_with fail
        go_meet
        case rel => exact S5.out.ow
    case rest =>
      have S7 := Lib.hid hcut
      clear hcut S4 HIS HSS HIP HRD1 hz1 e1
      generalize sx = sx0
      clear sx
      go_wp2_with fail
      refine (drawParseOffice_any A cap bs wc S7.out.rd).mono ?_
      rintro e w8 ⟨tx, rfl, hz2, hb⟩
      have S8 := Lib.hid (S7.out.then hb)
      clear hb S7
      go_wp2_with fail
      refine (implParseOffice_any tx w8 (by omega) S8.out.lw).mono ?_
      rintro e w9 ⟨y, oky, rfl, hy, b9⟩
      have ha9 := (Below.refl w9.heap.size w9).alloc (Nat.le_refl _) (.cells #[.int .i64 y.m, .int .i64 y.b, .int .i64 y.s, .int .i64 y.c, .int .i64 y.l] 25)
      have K9 := Lies.new w9 25 #[.int .i64 y.m, .int .i64 y.b, .int .i64 y.s, .int .i64 y.c, .int .i64 y.l]
      have S9 := Lib.hid (S8.out.then (bthen b9 ha9))
      have HY := Lib.hid hy
      clear ha9 b9 hy S8
      go_upto_region 14 with fail
      generalize w9.alloc (.cells #[.int .i64 y.m, .int .i64 y.b, .int .i64 y.s, .int .i64 y.c, .int .i64 y.l] 25) = W9 at K9 S9 ⊢
      generalize w9.heap.size = g9 at K9 ⊢
      go_wp2_with fail
      refine (specParseOffice_any tx W9 (by omega)).mono ?_
      rintro e w10 ⟨z, okz, rfl, hz, b10⟩
      obtain ⟨rfl, rfl⟩ := same_line HY.out hz
      have ha10 := (Below.refl w10.heap.size w10).alloc (Nat.le_refl _) (.cells #[.int .i64 y.m, .int .i64 y.b, .int .i64 y.s, .int .i64 y.c, .int .i64 y.l] 25)
      have K10 := Lies.new w10 25 #[.int .i64 y.m, .int .i64 y.b, .int .i64 y.s, .int .i64 y.c, .int .i64 y.l]
      have bb10 := bthen b10 ha10
      have K9 := K9.below bb10 K9.lt
      have S10 := Lib.hid (S9.out.then bb10)
      clear ha10 b10 bb10 hz S9 HY
      have e1 := hboo oky
      go_upto_region 15 with fail
      generalize w10.alloc (.cells #[.int .i64 y.m, .int .i64 y.b, .int .i64 y.s, .int .i64 y.c, .int .i64 y.l] 25) = W10 at K9 K10 S10 ⊢
      generalize w10.heap.size = g10 at K10 ⊢
      have d0 := K9.cell 0
      have d1 := K9.cell 1
      have d2 := K9.cell 2
      have d3 := K9.cell 3
      have d4 := K9.cell 4
      simp only [List.getElem?_cons_zero, List.getElem?_cons_succ] at d0 d1 d2 d3 d4
      have f0 := K10.cell 0
      have f1 := K10.cell 1
      have f2 := K10.cell 2
      have f3 := K10.cell 3
      have f4 := K10.cell 4
      simp only [List.getElem?_cons_zero, List.getElem?_cons_succ] at f0 f1 f2 f3 f4
      clear K9 K10
      have hnq := HNQ.out y
      have hgd := HGD.out
      go_wp2_with fail
      clear d0 d1 d2 d3 d4 f0 f1 f2 f3 f4 e1 hnq hgd
      refine (drawJoinRows_any A cap bs W10 S10.out.rd).mono ?_
      rintro e w12 ⟨l, m, A1, A2, c1, c2, rfl, hl, hm, hb⟩
      have S12 := Lib.hid (S10.out.then hb)
      have HL12 := Lib.hid hl
      have HM12 := Lib.hid hm
      clear hb S10 hl hm
      have HIJ := Lib.hid (fun W h h' => implJoin_any A1 c1 l A2 c2 m W h h')
      have HSJ := Lib.hid (fun W h h' => specJoin_any A1 c1 l A2 c2 m W h h')
      obtain ⟨R, hR⟩ : ∃ R, joinBoth l m = R := ⟨_, rfl⟩
      rw [hR] at HIJ HSJ
      obtain ⟨out, told⟩ := R
      have HJR := Lib.hid hR
      clear hR
      go_wp2_with fail
      refine (HIJ.out w12 HL12.out HM12.out).mono ?_
      rintro e w13 ⟨A3, c3, rfl, ho3, hb⟩
      have S13 := Lib.hid (S12.out.then hb)
      have HL13 := Lib.hid (slc_then HL12.out hb)
      have HM13 := Lib.hid (slc_then HM12.out hb)
      have HO13 := Lib.hid (OwnS.of ho3).reads
      clear hb S12 HL12 HM12 ho3
      go_wp2_with fail
      refine (HSJ.out w13 HL13.out HM13.out).mono ?_
      rintro e w14 ⟨A4, c4, rfl, ho4, hb⟩
      have S14 := Lib.hid (S13.out.then hb)
      have HL14 := Lib.hid (slc_then HL13.out hb)
      have HM14 := Lib.hid (slc_then HM13.out hb)
      have HO14 := Lib.hid (show RowsR w14 w14.heap.size A3 out from slc_then HO13.out hb)
      have HP14 := Lib.hid (show RowsR w14 w14.heap.size A4 out from ho4)
      clear hb S13 HL13 HM13 HO13 ho4 HIJ HSJ
      have e1 := hboo told
      go_wp2_with fail
      refine (rOffice_yes A3 A4 c3 c4 out w14 HO14.out HP14.out).mono ?_
      rintro e w15 ⟨rfl, hb⟩
      have S15 := Lib.hid (S14.out.then hb)
      have HL15 := Lib.hid (slc_then HL14.out hb)
      have HM15 := Lib.hid (slc_then HM14.out hb)
      have HO15 := Lib.hid (slc_then HO14.out hb)
      clear hb S14 HL14 HM14 HO14 HP14
      go_upto_if 122 with fail
      go_cut [] (fun wx => OW w wx A bs)
      case first =>
        cases told with
        | false =>
          clear e1
          go_wp2_with fail
          go_meet
          case rel => exact S15.out
        | true =>
          clear e1
          obtain ⟨hjb, hgl, hgm, hgo, h4o, h4l, h4m, hsum⟩ := join_law HJR.out
          have HSA := Lib.hid (fun W h => implSums_any A1 c1 l W h)
          have HSB := Lib.hid (fun W h => implSums_any A2 c2 m W h)
          have HSO := Lib.hid (fun W h => implSums_any A3 c3 out W h)
          have HJ2 := Lib.hid (fun W h h' => implJoin_any A2 c2 m A1 c1 l W h h')
          rw [hjb] at HJ2
          rw [hgl] at HSA
          rw [hgm] at HSB
          rw [hgo] at HSO
          have hbl := fun k h => sums_bound hgl (k := k) h
          have hbm := fun k h => sums_bound hgm (k := k) h
          generalize sumsR l = s1 at HSA h4l hbl hsum
          generalize sumsR m = s2 at HSB h4m hbm hsum
          generalize sumsR out = s3 at HSO h4o hsum
          have HSUM := Lib.hid hsum
          have HBL := Lib.hid hbl
          have HBM := Lib.hid hbm
          have n1 : ((s1.length : Int) != 4) = false := by rw [h4l]; rfl
          have n2 : ((s2.length : Int) != 4) = false := by rw [h4m]; rfl
          have n3 : ((s3.length : Int) != 4) = false := by rw [h4o]; rfl
          have H41 := Lib.hid h4l
          have H42 := Lib.hid h4m
          have H43 := Lib.hid h4o
          clear hsum hbl hbm hjb hgl hgm hgo HJR h4l h4m h4o
          go_wp2_with fail
          refine (HSA.out w15 HL15.out).mono ?_
          rintro e w16 ⟨B1, d1, rfl, q1, hb⟩
          have S16 := Lib.hid (S15.out.then hb)
          have HL16 := Lib.hid (slc_then HL15.out hb)
          have HM16 := Lib.hid (slc_then HM15.out hb)
          have HO16 := Lib.hid (slc_then HO15.out hb)
          have HQ16 := Lib.hid q1.reads
          clear hb S15 HL15 HM15 HO15 q1 HSA
          go_wp2_with fail
          refine (HSB.out w16 HM16.out).mono ?_
          rintro e w17 ⟨B2, d2, rfl, q2, hb⟩
          have S17 := Lib.hid (S16.out.then hb)
          have HL17 := Lib.hid (slc_then HL16.out hb)
          have HM17 := Lib.hid (slc_then HM16.out hb)
          have HO17 := Lib.hid (slc_then HO16.out hb)
          have HQ17 := Lib.hid (slc_then HQ16.out hb)
          have HU17 := Lib.hid q2.reads
          clear hb S16 HL16 HM16 HO16 HQ16 q2 HSB
          go_wp2_with fail
          refine (HSO.out w17 HO17.out).mono ?_
          rintro e w18 ⟨B3, d3, rfl, q3, hb⟩
          have S18 := Lib.hid (S17.out.then hb)
          have HL18 := Lib.hid (slc_then HL17.out hb)
          have HM18 := Lib.hid (slc_then HM17.out hb)
          have HO18 := Lib.hid (slc_then HO17.out hb)
          have HQ18 := Lib.hid (show IntsR w18 w18.heap.size B1 s1 from slc_then HQ17.out hb)
          have HU18 := Lib.hid (show IntsR w18 w18.heap.size B2 s2 from slc_then HU17.out hb)
          have HV18 := Lib.hid (show IntsR w18 w18.heap.size B3 s3 from q3.reads)
          clear hb S17 HL17 HM17 HO17 HQ17 HU17 q3 HSO
          go_wp2_with fail
          go_loopw [27] (fun i wr => ∃ k : Nat, k ≤ 4 ∧ i = .int .i64 k ∧ (∃ q : Since w18.heap.size w18, wr = q.val)) (fun i _ => 4 - (intOf i).toNat)
          case atStart => exact ⟨0, by omega, rfl, ⟨Since.start _ _, rfl⟩⟩
          case round =>
            obtain ⟨k, hk, rfl, ⟨q, rfl⟩⟩ := hrel
            by_cases hlt : k < 4
            · have i1 : (k : Int) < 4 := by omega
              have hk1 : k < s1.length := by have := H41.out; omega
              have hk2 : k < s2.length := by have := H42.out; omega
              have hk3 : k < s3.length := by have := H43.out; omega
              have j1 : (k : Int) < (s1.length : Int) := by omega
              have j2 : (k : Int) < (s2.length : Int) := by omega
              have j3 : (k : Int) < (s3.length : Int) := by omega
              obtain ⟨b1, o1, rfl, _, hc1⟩ := HQ18.out.ints (by omega)
              obtain ⟨b2, o2, rfl, _, hc2⟩ := HU18.out.ints (by omega)
              obtain ⟨b3, o3, rfl, _, hc3⟩ := HV18.out.ints (by omega)
              have x1 := hc1 k hk1
              have x2 := hc2 k hk2
              have x3 := hc3 k hk3
              have hsm := HSUM.out k hk3 hk1 hk2
              have hb1 := HBL.out k hk1
              have hb2 := HBM.out k hk2
              obtain ⟨a1, ha1⟩ : ∃ z, s1[k] = z := ⟨_, rfl⟩
              obtain ⟨a2, ha2⟩ : ∃ z, s2[k] = z := ⟨_, rfl⟩
              obtain ⟨a3, ha3⟩ : ∃ z, s3[k] = z := ⟨_, rfl⟩
              rw [ha1] at x1 hsm hb1
              rw [ha2] at x2 hsm hb2
              rw [ha3] at x3 hsm
              have hw : IntKind.i64.wrap (a1 + a2) = a1 + a2 := IntWalk.i64_in _ (by omega)
              have hne : (a3 != a1 + a2) = false := by rw [hsm]; simp
              clear ha1 ha2 ha3 hsm hb1 hb2 hc1 hc2 hc3
              go_wp2
              refine wp_region_since _ (by kernel_rfl) (by kernel_rfl) ?_
              repeat (any_goals (first | go_big_quiet_step ((fail)) | (refine wpQuiet_step (fun K hK => ?_); go_simp; split <;> (refine hK _ ?_; clear hK K))))
              all_goals (refine wpQuiet_nil ?_; rintro _ ⟨q1, rfl⟩)
              all_goals go_wp2
              go_roundw
              case rel => exact ⟨k + 1, by omega, by go_num, ⟨q1, rfl⟩⟩
              case measure => simp [intOf]; omega
            · have i1 : ¬ (k : Int) < 4 := by omega
              have S19 := Lib.hid (S18.out.then q.below)
              have HL19 := Lib.hid (slc_then HL18.out q.below)
              have HM19 := Lib.hid (slc_then HM18.out q.below)
              have HO19 := Lib.hid (slc_then HO18.out q.below)
              clear S18 HL18 HM18 HO18 HQ18 HU18 HV18 hlt
              go_wp2_with fail
              refine (HJ2.out q.val HM19.out HL19.out).mono ?_
              rintro e w20 ⟨A6, c6, rfl, ho6, hb⟩
              have S20 := Lib.hid (S19.out.then hb)
              have HO20 := Lib.hid (slc_then HO19.out hb)
              have HP20 := Lib.hid (OwnS.of ho6).reads
              clear hb S19 HL19 HM19 HO19 ho6 HJ2
              go_wp2_with fail
              refine (rOffice_yes A6 A3 c6 c3 out w20 HP20.out HO20.out).mono ?_
              rintro e w21 ⟨rfl, hb⟩
              have S21 := Lib.hid (S20.out.then hb)
              clear hb S20 HO20 HP20
              go_wp2_with fail
              go_meet
              case rel => exact S21.out
      case rest =>
        have S22 := Lib.hid hcut
        clear hcut S15 HL15 HM15 HO15 HJR hz2 e1
        go_wp2_with fail
        refine (drawReport_any A cap bs wc S22.out.rd).mono ?_
        rintro e w23 ⟨t, A7, c7, rfl, ht13, hR7, hb⟩
        have S23 := Lib.hid (S22.out.then hb)
        have HR23 := Lib.hid hR7
        clear hb S22 hR7 ht13
        have HRI := Lib.hid (fun W h h' => implReport_any A7 c7 t W h h')
        have HRS := Lib.hid (fun W h => specReport_any A7 c7 t W h)
        have HAI := Lib.hid (fun W h => implAreOfficeRows_any A7 c7 t W h)
        have HAS := Lib.hid (fun W h => specAreOfficeRows_any A7 c7 t W h)
        obtain ⟨rv, hrv⟩ : ∃ s, reportV t = s := ⟨_, rfl⟩
        obtain ⟨gd, hgd⟩ : ∃ s, goodRows t = s := ⟨_, rfl⟩
        rw [hrv, hgd] at HRI HRS
        rw [hgd] at HAI HAS
        clear hrv hgd
        go_wp2_with fail
        refine (HRI.out w23 HR23.out S23.out.lw.tab).mono ?_
        rintro e w24 ⟨rfl, hb⟩
        have S24 := Lib.hid (S23.out.then hb)
        have HR24 := Lib.hid (slc_then HR23.out hb)
        clear hb S23 HR23
        go_wp2_with fail
        refine (HRS.out w24 HR24.out).mono ?_
        rintro e w25 ⟨rfl, hb⟩
        have S25 := Lib.hid (S24.out.then hb)
        have HR25 := Lib.hid (slc_then HR24.out hb)
        clear hb S24 HR24
        have e1 := heqb gd
        go_wp2_with fail
        refine (HAI.out w25 HR25.out).mono ?_
        rintro e w26 ⟨rfl, hb⟩
        have S26 := Lib.hid (S25.out.then hb)
        have HR26 := Lib.hid (slc_then HR25.out hb)
        clear hb S25 HR25
        go_wp2_with fail
        refine (HAS.out w26 HR26.out).mono ?_
        rintro e w27 ⟨rfl, hb⟩
        have S27 := Lib.hid (S26.out.then hb)
        clear hb S26 HR26
        go_wp2_with fail
        go_ret
        exact ⟨rfl, S27.out.bl⟩
end Go.Proofs.YtpjfidmapnnbkaaGreatDoor

/- Arguments that came in: from the reader's own reading to plain words (no program in sight). -/
namespace Go.Proofs.YtpjfidmapnnbkaaGreatDoor
open Go.ChangeShapes Go.WideShapes Go.ChangeAt Go.RowKit Go.Deep

section
variable {H : Type} {enc : TypeId × Value → H} {P : Program} {w : World} {base : Nat} {spare : Nat → Bool} {held : Bool}

/-- The fields of a struct of one-cell fields: place by place. -/
theorem trod_fields {e : TypeId} {fs : Array Field} {n : Nat} {cs : List Value} {x : DataW H × List MemPlace} (he : P.underlying e = some (.struct fs)) (hone : oneCellFields P fs = true) (hC : P.cellsOf e = fs.size)
    (h : DataW.trod enc P w base spare held n e cs = some x) :
    cs.length = fs.size ∧ ∀ (j : Nat) (f : Field), fs[j]? = some f → ∃ v m y, cs[j]? = some v ∧ DataW.trod enc P w base spare held m f.type [v] = some y := by
  obtain ⟨ys, n', _, _, hlen, hyl, hf⟩ := DataW.trod_struct he h
  refine ⟨by rw [hlen, hC], fun j f hj => ?_⟩
  obtain ⟨ho, hk⟩ := hone_of hone j f hj
  have hjl : j < fs.size := (Array.getElem?_eq_some_iff.1 hj).1
  have hjc : j < cs.length := by rw [hlen, hC]; exact hjl
  have h1 := hf j f hj
  rw [ho, hk, List.drop_eq_getElem_cons hjc] at h1
  have hys : ys[j]? = some (ys[j]'(by omega)) := List.getElem?_eq_getElem (by omega)
  exact ⟨_, n', _, List.getElem?_eq_getElem hjc, h1.trans hys⟩

theorem cell_spot {w : World} {a : Addr} {u : Value} (h : w.cell? a = some u) : ∃ b off, a = ⟨b, off, none⟩ ∧ b < w.heap.size := by
  obtain ⟨b, off, sp⟩ := a
  cases sp with
  | none => exact ⟨b, off, rfl, block_lt_of_cell h⟩
  | some s =>
    simp only [World.cell?] at h
    split at h <;> simp_all

/-- A slice that came in, whatever its elements: k cells each; what the reader knows of an element's cells. -/
theorem trod_slc {t e : TypeId} {k n : Nat} {v : Value} {x : DataW H × List MemPlace} (ht : P.underlying t = some (.slice e)) (hk : P.cellsOf e = k) (hk0 : 0 < k)
    (h : DataW.trod enc P w base spare held n t [v] = some x) :
    ∃ A len cap, v = .slice A len cap ∧ ∃ css : List (List Value), css.length = len ∧ SlcR w w.heap.size k A len css.flatten ∧
      ∀ cs ∈ css, cs.length = k ∧ ∃ m y, DataW.trod enc P w base spare held m e cs = some y := by
  rcases open_slice ht h with ⟨h0, _⟩ | ⟨a, len, cap, m, n', D, Pl, hcs, hb, hl, hm, hmm, hx, hi⟩
  · have : v = .slice none 0 0 := by simpa using h0
    exact ⟨none, 0, 0, this, [], rfl, SlcR.nil _ _ _ _, by simp⟩
  · have hv : v = .slice (some a) len cap := by simpa using hcs
    have hle : len ≤ m := by rw [hmm]; split <;> omega
    rw [hk] at hi
    have hsel : ∀ i : Nat, ∃ cs : List Value, cs.length = k ∧ (i < len → (∀ j u, cs[j]? = some u → w.cell? ((a.add (i * k)).add j) = some u) ∧ ∃ m y, DataW.trod enc P w base spare held m e cs = some y) := fun i => by
      by_cases hlt : i < len
      · obtain ⟨cs', hc, ht'⟩ := hi i (by omega)
        obtain ⟨_, hcl, hat⟩ := World.cells?_some hc
        exact ⟨cs', hcl, fun _ => ⟨fun j u hu => by
          have hj : j < cs'.length := (List.getElem?_eq_some_iff.1 hu).1
          rw [hat j (by omega), hu], _, _, ht'⟩⟩
      · exact ⟨List.replicate k undef, by simp, fun h => absurd h hlt⟩
    obtain ⟨f, hf⟩ := Classical.axiomOfChoice hsel
    have hfk : ∀ i, (f i).length = k := fun i => (hf i).1
    have hlen := flat_len f k hfk (List.range len)
    rw [List.length_range, List.flatMap_def] at hlen
    refine ⟨some a, len, cap, hv, (List.range len).map f, by simp, ⟨hlen, by unfold maxLen at hm; omega, fun hpos => ?_⟩, ?_⟩
    · have h00 : (f 0)[0]? = some ((f 0)[0]'(by rw [hfk]; exact hk0)) := List.getElem?_eq_getElem _
      have hc0 := ((hf 0).2 hpos).1 0 _ h00
      rw [Nat.zero_mul] at hc0
      obtain ⟨b, off, rfl, hb'⟩ := cell_spot (a := a) hc0
      refine ⟨b, off, rfl, hb', fun j u hu => ?_⟩
      have hj : j < len * k := by rw [← hlen]; exact (List.getElem?_eq_some_iff.1 hu).1
      have hi' : j / k < len := Nat.div_lt_of_lt_mul (by rw [Nat.mul_comm]; exact hj)
      have hr : j % k < k := Nat.mod_lt _ hk0
      have e : j = j / k * k + j % k := by rw [Nat.mul_comm]; exact (Nat.div_add_mod j k).symm
      have hat := flat_at f k hfk (List.range len) (j / k) (by simpa using hi') (j % k) hr
      rw [List.flatMap_def, ← e, List.getElem_range, hu] at hat
      have hc := ((hf (j / k)).2 hi').1 (j % k) u hat.symm
      have hadd : ((⟨b, off, none⟩ : Addr).add (j / k * k)).add (j % k) = ⟨b, off + j, none⟩ := by
        unfold Addr.add
        by_cases h1 : j / k * k = 0 <;> by_cases h2 : j % k = 0 <;> simp [h1, h2] <;> omega
      rw [hadd] at hc
      exact hc
    · intro cs hcs
      obtain ⟨i, hi, rfl⟩ := List.mem_map.1 hcs
      exact ⟨hfk i, ((hf i).2 (List.mem_range.1 hi)).2⟩
end

/-- A list of lists of cells, each the image of something. -/
theorem lift_list {α : Type} (enc : α → List Value) : ∀ css : List (List Value), (∀ cs ∈ css, ∃ x, cs = enc x) → ∃ l : List α, css.flatten = l.flatMap enc ∧ l.length = css.length
  | [], _ => ⟨[], rfl, rfl⟩
  | cs :: css, h => by
    obtain ⟨x, hx⟩ := h cs (by simp)
    obtain ⟨l, hl, hn⟩ := lift_list enc css (fun c hc => h c (by simp [hc]))
    exact ⟨x :: l, by simp [hl, hx], by simp [hn]⟩

section
variable {H : Type} {enc : TypeId × Value → H} {P : Program} {w : World} {base : Nat} {spare : Nat → Bool} {held : Bool}
/-- A field that is an int. -/
theorem trod_i64 {t : TypeId} {n : Nat} {v : Value} {x : DataW H × List MemPlace} (ht : P.underlying t = some (.int .i64)) (h : DataW.trod enc P w base spare held n t [v] = some x) :
    ∃ m : Int, v = .int .i64 m ∧ -9223372036854775808 ≤ m ∧ m ≤ 9223372036854775807 := by
  obtain ⟨m, e, _, hw⟩ := DataW.trod_int ht h
  refine ⟨m, by simpa using e, ?_⟩
  simp [Lit.wf, IntKind.min, IntKind.max, IntKind.signed, IntKind.bits] at hw
  omega
end

/-- Structs of ints alone. -/
def intFields (P : Program) (fs : Array Field) : Bool := fs.all fun f => match P.underlying f.type with | some (.int .i64) => true | _ => false
theorem intFields_at {P : Program} {fs : Array Field} (h : intFields P fs = true) (j : Nat) (f : Field) (hj : fs[j]? = some f) : P.underlying f.type = some (.int .i64) := by
  have := (Array.all_eq_true_iff_forall_mem.1 h) f (Array.mem_of_getElem? hj)
  split at this
  · assumption
  · cases this

section
variable {H : Type} {enc : TypeId × Value → H} {P : Program} {w : World} {base : Nat} {spare : Nat → Bool} {held : Bool}
theorem trod_int_cells {e : TypeId} {fs : Array Field} {n k : Nat} {cs : List Value} {x : DataW H × List MemPlace} (he : P.underlying e = some (.struct fs)) (hone : oneCellFields P fs = true) (hC : P.cellsOf e = fs.size) (hint : intFields P fs = true) (hk : fs.size = k)
    (h : DataW.trod enc P w base spare held n e cs = some x) : ∃ ns : List Int, ns.length = k ∧ cs = ns.map (Value.int .i64) := by
  obtain ⟨hl, hf⟩ := trod_fields he hone hC h
  subst hk
  refine ⟨cs.map fun v => match v with | .int _ m => m | _ => 0, by simpa using hl, List.ext_getElem? fun j => ?_⟩
  rw [List.getElem?_map, List.getElem?_map]
  by_cases hj : j < cs.length
  · obtain ⟨v, m, y, hv, hy⟩ := hf j (fs[j]'(by omega)) (Array.getElem?_eq_getElem (by omega))
    obtain ⟨z, rfl, _, _⟩ := trod_i64 (intFields_at hint j _ (Array.getElem?_eq_getElem (by omega))) hy
    rw [hv]; rfl
  · rw [List.getElem?_eq_none (by omega)]; rfl

/-- A struct of ints, by value. -/
theorem open_int_struct {t : TypeId} {fs : Array Field} {k b0 : Nat} {r : Reach} {v : Value} {d : DataW H} {p : List MemPlace} (he : P.underlying t = some (.struct fs)) (hone : oneCellFields P fs = true) (hC : P.cellsOf t = fs.size) (hint : intFields P fs = true) (hk : fs.size = k)
    (hv : Value.okWide P w r b0 t v) (h : DataW.Trod enc P w base spare held t v d p) : ∃ ns : List Int, ns.length = k ∧ v = .agg (ns.map (Value.int .i64)).toArray := by
  obtain ⟨cs, rfl, hsz⟩ := okWide_struct he hv
  obtain ⟨n, hn⟩ := h
  obtain ⟨ns, hl, hc⟩ := trod_int_cells he hone hC hint hk hn
  refine ⟨ns, hl, ?_⟩
  rw [← hc]; simp [Value.cells]

/-- A slice of structs of ints. -/
theorem open_int_structs {α : Type} (en : α → List Value) {t e : TypeId} {fs : Array Field} {k b0 : Nat} {r : Reach} {v : Value} {d : DataW H} {p : List MemPlace} (ht : P.underlying t = some (.slice e)) (he : P.underlying e = some (.struct fs)) (hone : oneCellFields P fs = true) (hC : P.cellsOf e = fs.size) (hint : intFields P fs = true) (hk : fs.size = k) (hk0 : 0 < k)
    (hen : ∀ ns : List Int, ns.length = k → ∃ x, ns.map (Value.int .i64) = en x)
    (hv : Value.okWide P w r b0 t v) (h : DataW.Trod enc P w base spare held t v d p) : ∃ A c, ∃ l : List α, v = .slice A l.length c ∧ SlcR w w.heap.size k A l.length (l.flatMap en) := by
  obtain ⟨A, len, cap, rfl⟩ := okWide_slice ht hv
  obtain ⟨n, hn⟩ := h
  obtain ⟨A', len', cap', e', css, hl, hS, hcs⟩ := trod_slc ht (hC.trans hk) hk0 hn
  injection e' with e1 e2 e3
  subst e1; subst e2; subst e3
  obtain ⟨l, hfl, hll⟩ := lift_list en css (fun cs hc => by
    obtain ⟨hlen, m, y, hy⟩ := hcs cs hc
    obtain ⟨ns, hn', hc'⟩ := trod_int_cells he hone hC hint hk hy
    obtain ⟨x, hx⟩ := hen ns hn'
    exact ⟨x, by rw [hc', hx]⟩)
  refine ⟨A, cap, l, by rw [hll, hl], ?_⟩
  rw [hll, hl, ← hfl]; exact hS
end
theorem i64_lo {n : Int} (h : (Lit.int .i64 n).wf = true) : -9223372036854775808 ≤ n := by
  simp [Lit.wf, IntKind.min, IntKind.max, IntKind.signed, IntKind.bits] at h; omega
theorem i64_hi {n : Int} (h : (Lit.int .i64 n).wf = true) : n ≤ 9223372036854775807 := by
  simp [Lit.wf, IntKind.min, IntKind.max, IntKind.signed, IntKind.bits] at h; omega
end Go.Proofs.YtpjfidmapnnbkaaGreatDoor
