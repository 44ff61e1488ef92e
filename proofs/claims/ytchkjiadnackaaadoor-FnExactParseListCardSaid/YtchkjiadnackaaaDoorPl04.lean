/- Pl04: the texts ParseI Facts FactsN FactsR, joined into one file. -/
import Derived.Deep.DeepCutAuto
import Derived.WalkKit
import Derived.Orders
import Derived.Deep.Draws
import Derived.Test.YtchkjiadnackaaaDoorPl02
import Derived.Test.YtchkjiadnackaaaDoorPl03

set_option linter.unusedVariables false

/- The program reads a phrase. (Printed by gen_parsei.py) -/
namespace Go.Proofs.YtchkjiadnackaaaDoor
open Go.RowKit

theorem bel_grow {B g : Nat} {w w1 w2 : World} (h : Below B w w1) (hg : w1.grownBy w2 (some g)) (hB : B ≤ g) (hs : B ≤ w.heap.size) : Below B w w2 :=
  ⟨hg.os.trans h.os, hg.tape.trans h.tape, hg.output.trans h.output, Nat.le_trans h.size hg.size, fun k hk => (hg.block k (by have := h.size; omega) (by intro e; injection e; omega)).trans (h.block k hk)⟩
/-- A phrase while it is read: block g7 holds it; block B waits for the result. -/
structure PRd (w wx : World) (g7 : Nat) (x : Ph) (v : Value) : Prop where
  bl : Below w.heap.size w wx
  lw : LW w
  out : Lies wx w.heap.size 24 [.int .i64 0, .int .i64 0, .slice none 0 0, .int .i64 0]
  now : Lies wx g7 24 [.int .i64 x.s, .int .i64 x.c, v, .int .i64 x.p]
  row : wx.ownsRow w.heap.size 3 1 v x.f.length (encIs x.f)
  hg : w.heap.size < g7
section
variable {w wx wy : World} {g7 : Nat} {x y : Ph} {v u : Value}
theorem PRd.now_lw (S : PRd w wx g7 x v) : LW wx := S.lw.then S.bl
theorem PRd.below (S : PRd w wx g7 x v) (hb : Below wx.heap.size wx wy) : PRd w wy g7 x v :=
  ⟨bthen S.bl hb, S.lw, S.out.below hb S.out.lt, S.now.below hb S.now.lt, ownsRow_below S.row hb, S.hg⟩
/-- The phrase's block is written. -/
theorem PRd.push {u : Value} {n : Int} (S : PRd w wx g7 x v) (ho : wy.ownsRow w.heap.size 3 1 u (x.f.length + 1) (encIs x.f ++ [.int .i64 n])) (hg : wx.grownBy wy v.ownBlock) (hb : Below w.heap.size wx wy) (hs : y.s = x.s) (hc : y.c = x.c) (hp : y.p = x.p) (hf : y.f = x.f ++ [n]) :
    PRd w (wy.setCell ⟨g7, 2, none⟩ u) g7 y u := by
  have K := S.now.kept hg (ownsRow_far S.row S.now ne_int_ph)
  have gw : wy.grownBy (wy.setCell ⟨g7, 2, none⟩ u) (some g7) := grown_set (World.grownBy.refl _ _)
  have hrow : wy.ownsRow w.heap.size 3 1 u y.f.length (encIs y.f) := by rw [hf]; simpa using ho
  refine ⟨bel_grow (S.bl.trans hb) gw (Nat.le_of_lt S.hg) (Nat.le_refl _), S.lw, (S.out.kept hg (ownsRow_far S.row S.out ne_int_ph)).kept gw (by intro e; injection e with e; have := S.hg; omega), by rw [hs, hc, hp]; exact K.set 2 u, ?_, S.hg⟩
  refine hrow.kept gw ?_
  cases hv : u.ownBlock with
  | none => exact .inl rfl
  | some b => exact .inr (by rw [← hv]; exact fun e => ownsRow_far hrow K ne_int_ph e.symm)
theorem PRd.put (S : PRd w wx g7 x v) (hg : wx.grownBy wy (some g7)) (hL : Lies wy g7 24 [.int .i64 y.s, .int .i64 y.c, v, .int .i64 y.p]) (hf : y.f = x.f) : PRd w wy g7 y v :=
  ⟨bel_grow S.bl hg (Nat.le_of_lt S.hg) (Nat.le_refl _), S.lw, S.out.kept hg (by intro e; injection e with e; have := S.hg; omega), hL, by
    rw [hf]
    refine S.row.kept hg ?_
    cases hv : v.ownBlock with
    | none => exact .inl rfl
    | some b => exact .inr (by rw [← hv]; exact fun e => ownsRow_far S.row S.now ne_int_ph e.symm), S.hg⟩
end

theorem implD_is {s hd pr t st co : List UInt8} {ps : List (List UInt8)} {more many : Bool} {price cop : Int} {ix : Int} {fs : List Int} {A : Option Addr} {cc : Nat}
    (h1 : hd = bef 61 s) (h2 : pr = s.drop ((bef 61 s).length + 1)) (h3 : hasB s 61 = more) (h4 : (if more = true then numD pr else 0) = price) (h5 : splitL 33 hd = ps) (h6 : ps.headD [] = t)
    (h7 : st = bef 40 t) (h8 : co = t.drop ((bef 40 t).length + 1)) (h9 : hasB t 40 = many) (h10 : (if many = true then numD (Lib.trimSuffix co [41]) else 1) = cop) (h11 : 1 + ix = stateD st) (h12 : fs = ps.tail.map numD) :
    implD s = Ph.ph { s := 1 + ix, c := cop, f := fs, p := price, A := A, cap := cc } := by
  have e1 : (if (61 : UInt8) ∈ s then numD (aft 61 s) else 0) = price := by
    rw [← h4]; unfold aft; rw [← h2]
    cases more
    · rw [if_neg (hasB_false.1 h3)]; rfl
    · rw [if_pos (hasB_true.1 h3)]; rfl
  have e2 : (if (40 : UInt8) ∈ t then numD (Lib.trimSuffix (aft 40 t) [41]) else 1) = cop := by
    rw [← h10]; unfold aft; rw [← h8]
    cases many
    · rw [if_neg (hasB_false.1 h9)]; rfl
    · rw [if_pos (hasB_true.1 h9)]; rfl
  unfold implD Ph.ph
  simp only
  rw [← h1, h5, h6, ← h7, e1, e2, h11, h12]
theorem str_eq {x : ByteArray} {l : List UInt8} : ((⟨l.toArray⟩ : ByteArray) = x) ↔ bl x = l := by
  constructor
  · rintro rfl; exact bl_mk l
  · intro h; exact (bl_ext h).symm
theorem state_idx (st : ByteArray) : 1 + Lib.idxOfS (([⟨#[42, 42]⟩, ⟨#[42]⟩, ⟨#[111]⟩] : List ByteArray).take 3) st = stateD (bl st) := by
  have h1 : ((⟨#[42, 42]⟩ : ByteArray) = st) ↔ bl st = [42, 42] := str_eq (l := [42, 42])
  have h2 : ((⟨#[42]⟩ : ByteArray) = st) ↔ bl st = [42] := str_eq (l := [42])
  have h3 : ((⟨#[111]⟩ : ByteArray) = st) ↔ bl st = [111] := str_eq (l := [111])
  simp only [List.take, Lib.idxOfS, Lib.idxFromS, h1, h2, h3]
  unfold stateD
  split
  · rfl
  · split
    · rfl
    · split <;> rfl
theorem state_bound (t : List UInt8) : 0 ≤ stateD t ∧ stateD t ≤ 3 := by unfold stateD; split; omega; split; omega; split <;> omega

set_option maxRecDepth 100000 in
set_option maxHeartbeats 8000000 in
set_option linter.unusedVariables false in
theorem parsePhrase_any (s : ByteArray) (w : World) (hs : s.size ≤ 2000000) (hL : LW w) :
    Calls Tryd.prog 16 #[.string s] w fun e w' => ∃ (x : Ph) (ok : Bool), e = .returned (.tuple #[x.val, .bool ok]) ∧ readOf (bl s) = (x.ph, ok) ∧ OwnS w' w.heap.size 3 1 x.A x.f.length (encIs x.f) ∧ Below w.heap.size w w' := by
  have L2 := Lies.new w 24 #[.int .i64 0, .int .i64 0, .slice none 0 0, .int .i64 0]
  have b2 := (Below.refl w.heap.size w).alloc (Nat.le_refl _) (.cells #[.int .i64 0, .int .i64 0, .slice none 0 0, .int .i64 0] 24)
  have hw2 : (w.alloc (.cells #[.int .i64 0, .int .i64 0, .slice none 0 0, .int .i64 0] 24)).heap.size = w.heap.size + 1 := by simp
  have HC := Lib.hid (cut_any s 61 (w.alloc (.cells #[.int .i64 0, .int .i64 0, .slice none 0 0, .int .i64 0] 24)) (by omega))
  have hb1 := bl_cutL s 61
  have hb2 := bl_cutR s 61
  obtain ⟨hd, hhd⟩ : ∃ x, cutL s 61 = x := ⟨_, rfl⟩
  obtain ⟨pr, hpr⟩ : ∃ x, cutR s 61 = x := ⟨_, rfl⟩
  rw [hhd] at HC hb1
  rw [hpr] at HC hb2
  obtain ⟨more, hmore⟩ : ∃ b, hasB (bl s) 61 = b := ⟨_, rfl⟩
  rw [hmore] at HC
  have hzh : hd.size ≤ 2000000 := by rw [← bl_size, hb1]; have := bef_len 61 (bl s); rw [bl_size] at this; omega
  have hzp : pr.size ≤ 2000000 := by rw [← bl_size, hb2, List.length_drop, bl_size]; omega
  have HB1 := Lib.hid hb1
  have HB2 := Lib.hid hb2
  have HM := Lib.hid hmore
  clear hb1 hb2 hmore hhd hpr
  go_enter Tryd.func16, Tryd.ntmps16
  go_wp2_with fail
  refine HC.out.mono ?_
  rintro e w3 ⟨rfl, hb3⟩
  have L3 := L2.below hb3 L2.lt
  have b3 := bthen b2 hb3
  have L7 := Lies.new w3 24 #[.int .i64 0, .int .i64 1, .slice none 0 0, .int .i64 0]
  have S7 : PRd w (w3.alloc (.cells #[.int .i64 0, .int .i64 1, .slice none 0 0, .int .i64 0] 24)) w3.heap.size { s := 0, c := 1, f := [], p := 0, A := none, cap := 0 } (.slice none 0 0) :=
    ⟨b3.alloc (by have := b3.size; omega) _, hL, L3.alloc _, L7, World.ownsRow_nil _ _ _ _, by have := hb3.size; omega⟩
  clear L2 b2 hw2 HC hb3 L3 b3 L7
  go_upto_if 23 with fail
  generalize w3.alloc (.cells #[.int .i64 0, .int .i64 1, .slice none 0 0, .int .i64 0] 24) = W7 at S7 ⊢
  generalize w3.heap.size = g7 at S7 ⊢
  go_cut [] (fun wx => PRd w wx g7 { s := 0, c := 1, f := [], p := if more = true then numD (bl pr) else 0, A := none, cap := 0 } (.slice none 0 0))
  case first =>
    cases more
    · have HS := Lib.hid S7
      clear S7
      go_wp2_with fail
      go_meet
      case rel => exact HS.out
    · have hlw := S7.now_lw
      go_wp2_with fail
      refine (parseInt_any pr W7 (by omega) hlw).mono ?_
      rintro e w4 ⟨rfl, hb4⟩
      have S4 := S7.below hb4
      clear S7 hb4 hlw
      have K := S4.now
      have d0 := K.cell 0
      have d1 := K.cell 1
      have d2 := K.cell 2
      have d3 := K.cell 3
      simp only [List.getElem?_cons_zero, List.getElem?_cons_succ] at d0 d1 d2 d3
      have fd0 := K.frozen 0
      have fd1 := K.frozen 1
      have fd2 := K.frozen 2
      have fd3 := K.frozen 3
      have gw : w4.grownBy (w4.setCell ⟨g7, 3, none⟩ (.int .i64 (numD (bl pr)))) (some g7) := grown_set (World.grownBy.refl _ _)
      have kw := K.set 3 (.int .i64 (numD (bl pr)))
      have HS := Lib.hid (S4.put (y := { s := 0, c := 1, f := [], p := numD (bl pr), A := none, cap := 0 }) gw kw rfl)
      clear gw kw K
      go_wp2_with fail
      go_meet
      case rel => exact HS.out
  case rest =>
    generalize hprice : (if more = true then numD (bl pr) else 0) = price at hcut
    have HPR := Lib.hid hprice
    clear S7 hprice
    have HSP := Lib.hid (split_any hd 33 wc (by omega) hcut.now_lw)
    obtain ⟨ps, hps⟩ : ∃ l, splitL 33 (bl hd) = l := ⟨_, rfl⟩
    rw [hps] at HSP
    have hpl : 1 ≤ ps.length ∧ ps.length ≤ 2000001 := by
      rw [← hps]
      have h1 := parts_len 33 (bl hd) []
      have h2 := parts_ne 33 (bl hd) []
      rw [bl_size] at h1
      unfold splitL
      have h3 : 0 < (partsL 33 [] (bl hd)).length := List.length_pos_iff.2 h2
      omega
    have hpt : ∀ t ∈ ps, t.length ≤ 2000000 := fun t ht => by
      have h1 := parts_mem (b := 33) (t := t) (bl hd) [] (by rw [← hps] at ht; exact ht)
      rw [bl_size] at h1; simp at h1; omega
    have HPS := Lib.hid hps
    have HPT := Lib.hid hpt
    clear hps hpt
    obtain ⟨hp1, hp2⟩ := hpl
    go_wp2_with fail
    refine HSP.out.mono ?_
    rintro e w5 ⟨rfl, L8, hb5⟩
    have S5 := hcut.below hb5
    have h78 : g7 < wc.heap.size := hcut.now.lt
    clear hcut hb5 HSP
    generalize wc.heap.size = g8 at L8 h78 ⊢
    go_upto_region 6 with fail
    go_cut [33, 34, 35] (fun s33 s34 s35 wx => (∃ o, s33 = .slice (some ⟨g8, o, none⟩) (ps.length - 1) (ps.length - 1) ∧ (o = 1 ∨ ps.length = 1)) ∧ s34 = .int .i64 ((ps.length - 1 : Nat) : Int) ∧ s35 = .int .i64 0 ∧ wx = w5)
    case first =>
      by_cases h1 : ps.length = 1
      · have HS5 := Lib.hid S5
        clear S5
        go_wp2_with fail
        go_meet
        case rel => exact ⟨⟨0, by rw [h1], .inr h1⟩, by rw [h1]; rfl, rfl, rfl⟩
      · have j1 : (1 : Int) < (ps.length : Int) := by omega
        have HS5 := Lib.hid S5
        clear S5
        go_wp2_with fail
        go_meet
        case rel => exact ⟨⟨1, rfl, .inl rfl⟩, rfl, rfl, rfl⟩
    case rest =>
      obtain ⟨⟨o, rfl, ho⟩, rfl, rfl, rfl⟩ := hcut
      have HL8 := Lib.hid L8
      have HS5 := Lib.hid S5
      have HO := Lib.hid ho
      clear S5 L8 ho
      go_wp2_with fail
      go_loopw [10, 11, 12, 35] (fun _ _ _ i wr => ∃ (k : Nat) (fs : List Int) (v : Value), k ≤ ps.length - 1 ∧ i = .int .i64 k ∧ fs.length = k ∧ Hid (PRd w wr g7 { s := 0, c := 1, f := fs, p := price, A := none, cap := 0 } v) ∧ Hid (Lies wr g8 9 (texts ps)) ∧ Hid (fs = (ps.tail.take k).map numD)) (fun _ _ _ i _ => ps.length - (intOf i).toNat)
      case atStart => exact ⟨0, [], _, Nat.zero_le _, rfl, rfl, HS5, HL8, by simp [Hid]⟩
      case round =>
        clear HS5 HL8
        obtain ⟨k, fs, v, hk, rfl, hfl, HS, HL, HF⟩ := hrel
        have HFL := Lib.hid hfl
        have hfl2 : fs.length ≤ 2000001 := by omega
        clear hfl
        by_cases hlt : k < ps.length - 1
        · obtain rfl : o = 1 := by have := HO.out; omega
          have hlt2 : (k : Int) < ((ps.length - 1 : Nat) : Int) := by omega
          have c0 : wr.cell? ⟨g8, 1 + k, none⟩ = some (.string ⟨(ps[k + 1]'(by omega)).toArray⟩) := by
            rw [HL.out.cell, Nat.add_comm 1 k]; exact texts_at ps (k + 1) (by omega)
          have ht := HPT.out (ps[k + 1]'(by omega)) (List.getElem_mem _)
          obtain ⟨t, hte⟩ : ∃ t : ByteArray, t = ⟨(ps[k + 1]'(by omega)).toArray⟩ := ⟨_, rfl⟩
          have hbt : bl t = ps[k + 1]'(by omega) := by rw [hte, bl_mk]
          rw [← hte] at c0
          have hzt : t.size ≤ 2000000 := by rw [← bl_size, hbt]; exact ht
          have HST : Hid (fs ++ [numD (bl t)] = (ps.tail.take (k + 1)).map numD) := by
            have h1 : ps.tail[k]? = some (bl t) := by rw [List.getElem?_tail, List.getElem?_eq_getElem (by omega), hbt]
            have h2 : ps.tail.take (k + 1) = ps.tail.take k ++ [bl t] := by rw [List.take_add_one, h1]; rfl
            rw [h2, List.map_append, ← HF.out]; rfl
          have hlw := HS.out.now_lw
          clear hte hbt ht HF hlt
          go_wp2_with fail
          refine (parseInt_any t wr (by omega) hlw).mono ?_
          rintro e w6 ⟨rfl, hb6⟩
          have S6 := HS.out.below hb6
          have HL6 := Lib.hid (HL.out.below hb6 HL.out.lt)
          have K6 := S6.now
          have d0 := K6.cell 0
          have d1 := K6.cell 1
          have d2 := K6.cell 2
          have d3 := K6.cell 3
          simp only [List.getElem?_cons_zero, List.getElem?_cons_succ] at d0 d1 d2 d3
          have fd0 := K6.frozen 0
          have fd1 := K6.frozen 1
          have fd2 := K6.frozen 2
          have fd3 := K6.frozen 3
          have HR := Lib.hid S6.row
          have hz6 : w.heap.size ≤ w6.heap.size := S6.bl.size
          have HS6 := Lib.hid S6
          clear HS HL c0 hlw S6 K6
          go_wp2_with (at_builtin; refine wpList_push (w0 := w6) rfl _ _ 22 rfl 3 (.int .i64 0) 1 8 Tryd.underlying22 infoI rfl (by omega) (by omega) w.heap.size _ _ _ rfl HR #[.int .i64 (numD (bl t))] 1 _ rfl (by first | rfl | exact Array.size_push _) rfl (by simp [Value.oneCell']) (by omega) hz6 rfl rfl rfl rfl ?_; intro v7 w7 HO7 hg7 hb7; obtain ⟨A7, c7, hv7⟩ := ownsRow_slice HO7.out; subst hv7; have K7 := HS6.out.now.kept hg7 (ownsRow_far HR.out HS6.out.now ne_int_ph); have e2 := K7.cell 2; have fe2 := K7.frozen 2; simp only [List.getElem?_cons_zero, List.getElem?_cons_succ] at e2)
          have HS7 := Lib.hid (HS6.out.push (y := { s := 0, c := 1, f := fs ++ [numD (bl t)], p := price, A := none, cap := 0 }) (n := numD (bl t)) HO7.out hg7 hb7 rfl rfl rfl rfl)
          have HL7 : Hid (Lies (w7.setCell ⟨g7, 2, none⟩ (.slice A7 (fs.length + 1) c7)) g8 9 (texts ps)) :=
            (HL6.out.kept hg7 (ownsRow_far HR.out HL6.out (by decide))).kept (grown_set (g := g7) (World.grownBy.refl _ _)) (by intro e; injection e; omega)
          clear HS6 HL6 HO7 hg7 hb7 K7 HR d0 d1 d2 d3 fd0 fd1 fd2 fd3 e2 fe2
          go_roundw
          case rel => exact ⟨k + 1, fs ++ [numD (bl t)], _, by omega, by go_num, by have := HFL.out; simp; omega, HS7, HL7, HST⟩
          case measure => simp [intOf] <;> omega
        · have hlt2 : ¬ (k : Int) < ((ps.length - 1 : Nat) : Int) := by omega
          have HFF : Hid (fs = ps.tail.map numD) := by
            have h1 := HF.out
            rw [List.take_of_length_le (by rw [List.length_tail]; omega)] at h1; exact h1
          have c0 : wr.cell? ⟨g8, 0, none⟩ = some (.string ⟨(ps[0]'(by omega)).toArray⟩) := by
            rw [HL.out.cell]; exact texts_at ps 0 (by omega)
          have ht := HPT.out (ps[0]'(by omega)) (List.getElem_mem _)
          obtain ⟨t, hte⟩ : ∃ t : ByteArray, t = ⟨(ps[0]'(by omega)).toArray⟩ := ⟨_, rfl⟩
          have hbt : bl t = ps[0]'(by omega) := by rw [hte, bl_mk]
          rw [← hte] at c0
          have hzt : t.size ≤ 2000000 := by rw [← bl_size, hbt]; exact ht
          have HP0 : Hid (ps.headD [] = bl t) := by
            rw [hbt]; cases ps with
            | nil => simp at hp1
            | cons a l => rfl
          have HC2 := Lib.hid (fun W => cut_any t 40 W (by omega))
          have hb1 := bl_cutL t 40
          have hb2 := bl_cutR t 40
          obtain ⟨st, hst⟩ : ∃ x, cutL t 40 = x := ⟨_, rfl⟩
          obtain ⟨co, hco⟩ : ∃ x, cutR t 40 = x := ⟨_, rfl⟩
          rw [hst] at HC2 hb1
          rw [hco] at HC2 hb2
          obtain ⟨many, hmany⟩ : ∃ b, hasB (bl t) 40 = b := ⟨_, rfl⟩
          rw [hmany] at HC2
          have hzs : st.size ≤ 2000000 := by rw [← bl_size, hb1]; have := bef_len 40 (bl t); rw [bl_size] at this; omega
          have hzc : co.size ≤ 2000000 := by rw [← bl_size, hb2, List.length_drop, bl_size]; omega
          have HB3 := Lib.hid hb1
          have HB4 := Lib.hid hb2
          have HM2 := Lib.hid hmany
          have hp0 : 0 < ps.length := hp1
          clear hb1 hb2 hmany hst hco hte hbt ht HF
          go_wp2_with fail
          refine (HC2.out _).mono ?_
          rintro e w6 ⟨rfl, hb6⟩
          have S6 := HS.out.below hb6
          clear HS HL c0 hb6 HC2
          go_upto_if 59 with fail
          go_cut [] (fun wx => PRd w wx g7 { s := 0, c := if many = true then numD (Lib.trimSuffix (bl co) [41]) else 1, f := fs, p := price, A := none, cap := 0 } v)
          case first =>
            cases many
            · have HS := Lib.hid S6
              clear S6
              go_wp2_with fail
              go_meet
              case rel => exact HS.out
            · have hlw := S6.now_lw
              go_wp2_with fail
              refine (Tryd.strings_TrimSuffix co ⟨#[41]⟩ w6 (by omega)).mono ?_
              rintro e w6 ⟨rfl, rfl⟩
              obtain ⟨tr, htr⟩ : ∃ x : ByteArray, x = ⟨(Lib.trimSuffix co.data.toList (ByteArray.mk #[41]).data.toList).toArray⟩ := ⟨_, rfl⟩
              have hbtr : bl tr = Lib.trimSuffix (bl co) [41] := by rw [htr, bl_mk]; rfl
              rw [← htr]
              have hztr : tr.size ≤ 2000000 := by
                rw [← bl_size, hbtr]; unfold Lib.trimSuffix; split
                · rw [List.length_take, bl_size]; omega
                · rw [bl_size]; exact hzc
              clear htr
              go_wp2_with fail
              refine (parseInt_any tr w6 (by omega) hlw).mono ?_
              rintro e w4 ⟨rfl, hb4⟩
              have S4 := S6.below hb4
              clear S6 hb4 hlw
              have K := S4.now
              have d0 := K.cell 0
              have d1 := K.cell 1
              have d2 := K.cell 2
              have d3 := K.cell 3
              simp only [List.getElem?_cons_zero, List.getElem?_cons_succ] at d0 d1 d2 d3
              have fd0 := K.frozen 0
              have fd1 := K.frozen 1
              have fd2 := K.frozen 2
              have fd3 := K.frozen 3
              have gw : w4.grownBy (w4.setCell ⟨g7, 1, none⟩ (.int .i64 (numD (bl tr)))) (some g7) := grown_set (World.grownBy.refl _ _)
              have kw := K.set 1 (.int .i64 (numD (bl tr)))
              have HS := Lib.hid (S4.put (y := { s := 0, c := numD (bl tr), f := fs, p := price, A := none, cap := 0 }) gw kw rfl)
              clear gw kw K
              have HBT := Lib.hid hbtr
              clear hbtr
              go_wp2_with fail
              go_meet
              case rel => rw [← HBT.out]; exact HS.out
          case rest =>
            generalize hcop : (if many = true then numD (Lib.trimSuffix (bl co) [41]) else 1) = cop at hcut
            have HCOP := Lib.hid hcop
            clear S6 hcop
            have L9 := Lies.new wc 9 #[.string ⟨#[42, 42]⟩, .string ⟨#[42]⟩, .string ⟨#[111]⟩]
            have S9 := hcut.below ((Below.refl wc.heap.size wc).alloc (Nat.le_refl _) (.cells #[.string ⟨#[42, 42]⟩, .string ⟨#[42]⟩, .string ⟨#[111]⟩] 9))
            have hg9 : g7 < wc.heap.size := hcut.now.lt
            clear hcut
            go_wp2_with fail
            generalize wc.alloc (.cells #[.string ⟨#[42, 42]⟩, .string ⟨#[42]⟩, .string ⟨#[111]⟩] 9) = W9 at L9 S9 ⊢
            generalize wc.heap.size = g9 at L9 hg9 ⊢
            refine (Tryd.slices_Index_string g9 0 3 3 [⟨#[42, 42]⟩, ⟨#[42]⟩, ⟨#[111]⟩] st W9 (by simp) (by omega) (fun j hj => by
              rw [Nat.zero_add, L9.cell]
              have : j = 0 ∨ j = 1 ∨ j = 2 := by simp at hj; omega
              rcases this with rfl | rfl | rfl <;> rfl)).mono ?_
            rintro e W9 ⟨rfl, rfl⟩
            have hidx : 1 + Lib.idxOfS (([⟨#[42, 42]⟩, ⟨#[42]⟩, ⟨#[111]⟩] : List ByteArray).take 3) st = stateD (bl st) := state_idx st
            obtain ⟨ix, hix⟩ : ∃ z, Lib.idxOfS (([⟨#[42, 42]⟩, ⟨#[42]⟩, ⟨#[111]⟩] : List ByteArray).take 3) st = z := ⟨_, rfl⟩
            rw [hix] at hidx ⊢
            have hsb := state_bound (bl st)
            have hw1 : IntKind.i64.wrap (1 + ix) = 1 + ix := IntWalk.i64_in _ (by omega)
            have HIX := Lib.hid hidx
            clear hidx hix L9
            have K := S9.now
            have d0 := K.cell 0
            have d1 := K.cell 1
            have d2 := K.cell 2
            have d3 := K.cell 3
            simp only [List.getElem?_cons_zero, List.getElem?_cons_succ] at d0 d1 d2 d3
            have fd0 := K.frozen 0
            have fd1 := K.frozen 1
            have fd2 := K.frozen 2
            have fd3 := K.frozen 3
            have gw : W9.grownBy (W9.setCell ⟨g7, 0, none⟩ (.int .i64 (1 + ix))) (some g7) := grown_set (World.grownBy.refl _ _)
            have kw := K.set 0 (.int .i64 (1 + ix))
            have HS := Lib.hid (S9.put (y := { s := 1 + ix, c := cop, f := fs, p := price, A := none, cap := 0 }) gw kw rfl)
            clear gw kw K
            go_upto_region 16 with fail
            generalize W9.setCell ⟨g7, 0, none⟩ (.int .i64 (1 + ix)) = W10 at HS ⊢
            obtain ⟨A, cc, hv⟩ := ownsRow_slice HS.out.row
            subst hv
            obtain ⟨X, hX⟩ : ∃ X : Ph, X = { s := 1 + ix, c := cop, f := fs, p := price, A := A, cap := cc } := ⟨_, rfl⟩
            have HPD : Hid (implD (bl s) = X.ph) := by
              rw [hX]
              exact implD_is HB1.out HB2.out HM.out HPR.out HPS.out HP0.out HB3.out HB4.out HM2.out HCOP.out HIX.out HFF.out
            have S : PRd w W10 g7 X (.slice X.A X.f.length X.cap) := by rw [hX]; exact ⟨HS.out.bl, HS.out.lw, HS.out.out, HS.out.now, HS.out.row, HS.out.hg⟩
            have HXR : Hid (IntsR W10 W10.heap.size X.A X.f) := (OwnS.of S.row).reads
            have HIS := Lib.hid (isPhrase_any X W10 HXR.out)
            clear d0 d1 d2 d3 fd0 fd1 fd2 fd3
            have K := S.now
            have d0 := K.cell 0
            have d1 := K.cell 1
            have d2 := K.cell 2
            have d3 := K.cell 3
            simp only [List.getElem?_cons_zero, List.getElem?_cons_succ] at d0 d1 d2 d3
            have fd0 := K.frozen 0
            have fd1 := K.frozen 1
            have fd2 := K.frozen 2
            have fd3 := K.frozen 3
            have HSX := Lib.hid S
            clear HS K S hX HPR HPS HP0 HB3 HB4 HM2 HCOP HIX HFF HB1 HB2 HM hw1 hsb
            cases hok : X.ok with
            | false =>
              have HOK := Lib.hid hok
              have HRD : Hid (readOf (bl s) = ((0, 0, [], 0), false)) := by
                unfold readOf Hid
                rw [readD_impl, HPD.out, if_neg (by rw [← ok_okD, HOK.out]; simp)]
              rw [hok] at HIS
              clear hok
              go_wp2_with fail
              refine HIS.out.mono ?_
              rintro e W11 ⟨rfl, hb11⟩
              have S11 := HSX.out.below hb11
              clear d0 d1 d2 d3 fd0 fd1 fd2 fd3
              have K2 := S11.out
              have K7 := S11.now
              have a0 := K2.cell 0
              have a1 := K2.cell 1
              have a2 := K2.cell 2
              have a3 := K2.cell 3
              simp only [List.getElem?_cons_zero, List.getElem?_cons_succ] at a0 a1 a2 a3
              have d0 := K7.cell 0
              have d1 := K7.cell 1
              have d2 := K7.cell 2
              have d3 := K7.cell 3
              simp only [List.getElem?_cons_zero, List.getElem?_cons_succ] at d0 d1 d2 d3
              have fa0 := K2.frozen 0
              have fa1 := K2.frozen 1
              have fa2 := K2.frozen 2
              have fa3 := K2.frozen 3
              obtain ⟨W20, hW20⟩ : ∃ W20, ((((W11.setCell ⟨w.heap.size, 0, none⟩ (.int .i64 0)).setCell ⟨w.heap.size, 1, none⟩ (.int .i64 0)).setCell ⟨w.heap.size, 2, none⟩ (.slice none 0 0)).setCell ⟨w.heap.size, 3, none⟩ (.int .i64 0)) = W20 := ⟨_, rfl⟩
              have gw : W11.grownBy ((((W11.setCell ⟨w.heap.size, 0, none⟩ (.int .i64 0)).setCell ⟨w.heap.size, 1, none⟩ (.int .i64 0)).setCell ⟨w.heap.size, 2, none⟩ (.slice none 0 0)).setCell ⟨w.heap.size, 3, none⟩ (.int .i64 0)) (some w.heap.size) := (grown_set (g := w.heap.size) (i := 3) (u := .int .i64 0) (grown_set (g := w.heap.size) (i := 2) (u := .slice none 0 0) (grown_set (g := w.heap.size) (i := 1) (u := .int .i64 0) (grown_set (g := w.heap.size) (i := 0) (u := .int .i64 0) (World.grownBy.refl _ _)))))
              have kw : Lies ((((W11.setCell ⟨w.heap.size, 0, none⟩ (.int .i64 0)).setCell ⟨w.heap.size, 1, none⟩ (.int .i64 0)).setCell ⟨w.heap.size, 2, none⟩ (.slice none 0 0)).setCell ⟨w.heap.size, 3, none⟩ (.int .i64 0)) w.heap.size 24 [.int .i64 0, .int .i64 0, .slice none 0 0, .int .i64 0] := K2.set 0 (.int .i64 0) |>.set 1 (.int .i64 0) |>.set 2 (.slice none 0 0) |>.set 3 (.int .i64 0)
              have BB := Lib.hid (bel_grow S11.bl gw (Nat.le_refl _) (Nat.le_refl _))
              have OO : Hid (OwnS ((((W11.setCell ⟨w.heap.size, 0, none⟩ (.int .i64 0)).setCell ⟨w.heap.size, 1, none⟩ (.int .i64 0)).setCell ⟨w.heap.size, 2, none⟩ (.slice none 0 0)).setCell ⟨w.heap.size, 3, none⟩ (.int .i64 0)) w.heap.size 3 1 none 0 []) := ⟨rfl, by simp, .inl ⟨rfl, rfl⟩⟩
              rw [hW20] at kw BB OO
              have HW20 := Lib.hid hW20
              have HK := Lib.hid kw
              clear gw kw hW20 K2 K7 S11
              repeat (first | go_values | go_skip | go_guarded | go_step | go_upon | simp only [])
              rw [HW20.out]
              have LS := HK.out
              have x0 := LS.cell 0
              have x1 := LS.cell 1
              have x2 := LS.cell 2
              have x3 := LS.cell 3
              simp only [List.getElem?_cons_zero, List.getElem?_cons_succ] at x0 x1 x2 x3
              refine bodyPost_ret (v := .tuple #[.agg #[.int .i64 0, .int .i64 0, .slice none 0 0, .int .i64 0], .bool false]) (by simp [results, Tryd.results16, go_sem, x0, x1, x2, x3]) rfl ?_
              exact ⟨{ s := 0, c := 0, f := [], p := 0, A := none, cap := 0 }, false, rfl, HRD.out, OO.out, BB.out⟩
            | true =>
              have HOK := Lib.hid hok
              rw [hok] at HIS
              clear hok
              have HSH := Lib.hid (fun W (h : IntsR W W.heap.size X.A X.f) (ht : Tab W) => shortText_any X W h HOK.out ht)
              have hzx : (shortT X).length ≤ 31 := (short_len (x := X.ph) HOK.out).2
              obtain ⟨sx, hsx⟩ : ∃ x : ByteArray, x = ⟨(shortT X).toArray⟩ := ⟨_, rfl⟩
              have hbx : bl sx = shortD X.ph := by rw [hsx, bl_mk]; rfl
              rw [← hsx] at HSH
              clear hsx
              have HEQ : Hid ((sx.toList == s.toList) = decide (shortD X.ph = bl s)) := by rw [str_beqL, hbx]; rfl
              clear hbx hzx
              by_cases hq : shortD X.ph = bl s
              · have heq : (sx.toList == s.toList) = true := by rw [HEQ.out]; exact decide_eq_true hq
                have HRD : Hid (readOf (bl s) = (X.ph, true)) := by
                  unfold readOf Hid
                  rw [readD_impl, HPD.out, if_pos ⟨HOK.out, hq⟩]
                clear hq HEQ
                go_wp2_with fail
                refine HIS.out.mono ?_
                rintro e W11 ⟨rfl, hb11⟩
                have S11 := HSX.out.below hb11
                clear d0 d1 d2 d3 fd0 fd1 fd2 fd3
                have K := S11.now
                have d0 := K.cell 0
                have d1 := K.cell 1
                have d2 := K.cell 2
                have d3 := K.cell 3
                simp only [List.getElem?_cons_zero, List.getElem?_cons_succ] at d0 d1 d2 d3
                have fd0 := K.frozen 0
                have fd1 := K.frozen 1
                have fd2 := K.frozen 2
                have fd3 := K.frozen 3
                have HXR2 := Lib.hid (SlcR.below HXR.out hb11 |>.mono hb11.size)
                have hlw := S11.now_lw
                have HS11 := Lib.hid S11
                clear HSX HXR S11 K hb11
                go_wp2_with fail
                refine (HSH.out _ HXR2.out hlw.tab).mono ?_
                rintro e W12 ⟨rfl, hb12⟩
                have S12 := HS11.out.below hb12
                clear HS11 HXR2 hlw hb12 d0 d1 d2 d3 fd0 fd1 fd2 fd3
                have K2 := S12.out
                have K7 := S12.now
                have a0 := K2.cell 0
                have a1 := K2.cell 1
                have a2 := K2.cell 2
                have a3 := K2.cell 3
                simp only [List.getElem?_cons_zero, List.getElem?_cons_succ] at a0 a1 a2 a3
                have d0 := K7.cell 0
                have d1 := K7.cell 1
                have d2 := K7.cell 2
                have d3 := K7.cell 3
                simp only [List.getElem?_cons_zero, List.getElem?_cons_succ] at d0 d1 d2 d3
                have fa0 := K2.frozen 0
                have fa1 := K2.frozen 1
                have fa2 := K2.frozen 2
                have fa3 := K2.frozen 3
                obtain ⟨W20, hW20⟩ : ∃ W20, ((((W12.setCell ⟨w.heap.size, 0, none⟩ (.int .i64 X.s)).setCell ⟨w.heap.size, 1, none⟩ (.int .i64 X.c)).setCell ⟨w.heap.size, 2, none⟩ (.slice X.A X.f.length X.cap)).setCell ⟨w.heap.size, 3, none⟩ (.int .i64 X.p)) = W20 := ⟨_, rfl⟩
                have gw : W12.grownBy ((((W12.setCell ⟨w.heap.size, 0, none⟩ (.int .i64 X.s)).setCell ⟨w.heap.size, 1, none⟩ (.int .i64 X.c)).setCell ⟨w.heap.size, 2, none⟩ (.slice X.A X.f.length X.cap)).setCell ⟨w.heap.size, 3, none⟩ (.int .i64 X.p)) (some w.heap.size) := (grown_set (g := w.heap.size) (i := 3) (u := .int .i64 X.p) (grown_set (g := w.heap.size) (i := 2) (u := .slice X.A X.f.length X.cap) (grown_set (g := w.heap.size) (i := 1) (u := .int .i64 X.c) (grown_set (g := w.heap.size) (i := 0) (u := .int .i64 X.s) (World.grownBy.refl _ _)))))
                have kw : Lies ((((W12.setCell ⟨w.heap.size, 0, none⟩ (.int .i64 X.s)).setCell ⟨w.heap.size, 1, none⟩ (.int .i64 X.c)).setCell ⟨w.heap.size, 2, none⟩ (.slice X.A X.f.length X.cap)).setCell ⟨w.heap.size, 3, none⟩ (.int .i64 X.p)) w.heap.size 24 [.int .i64 X.s, .int .i64 X.c, .slice X.A X.f.length X.cap, .int .i64 X.p] := K2.set 0 (.int .i64 X.s) |>.set 1 (.int .i64 X.c) |>.set 2 (.slice X.A X.f.length X.cap) |>.set 3 (.int .i64 X.p)
                have BB := Lib.hid (bel_grow S12.bl gw (Nat.le_refl _) (Nat.le_refl _))
                have OO : Hid (OwnS ((((W12.setCell ⟨w.heap.size, 0, none⟩ (.int .i64 X.s)).setCell ⟨w.heap.size, 1, none⟩ (.int .i64 X.c)).setCell ⟨w.heap.size, 2, none⟩ (.slice X.A X.f.length X.cap)).setCell ⟨w.heap.size, 3, none⟩ (.int .i64 X.p)) w.heap.size 3 1 X.A X.f.length (encIs X.f)) := (OwnS.of S12.row).ne gw ((OwnS.of S12.row).off S12.out ne_int_ph)
                rw [hW20] at kw BB OO
                have HW20 := Lib.hid hW20
                have HK := Lib.hid kw
                clear gw kw hW20 K2 K7 S12
                repeat (first | go_values | go_skip | go_guarded | go_step | go_upon | simp only [])
                rw [HW20.out]
                have LS := HK.out
                have x0 := LS.cell 0
                have x1 := LS.cell 1
                have x2 := LS.cell 2
                have x3 := LS.cell 3
                simp only [List.getElem?_cons_zero, List.getElem?_cons_succ] at x0 x1 x2 x3
                refine bodyPost_ret (v := .tuple #[.agg #[.int .i64 X.s, .int .i64 X.c, .slice X.A X.f.length X.cap, .int .i64 X.p], .bool true]) (by simp [results, Tryd.results16, go_sem, x0, x1, x2, x3]) rfl ?_
                exact ⟨X, true, rfl, HRD.out, OO.out, BB.out⟩
              · have heq : (sx.toList == s.toList) = false := by rw [HEQ.out]; exact decide_eq_false hq
                have HRD : Hid (readOf (bl s) = ((0, 0, [], 0), false)) := by
                  unfold readOf Hid
                  rw [readD_impl, HPD.out, if_neg (fun h => hq h.2)]
                clear hq HEQ
                go_wp2_with fail
                refine HIS.out.mono ?_
                rintro e W11 ⟨rfl, hb11⟩
                have S11 := HSX.out.below hb11
                clear d0 d1 d2 d3 fd0 fd1 fd2 fd3
                have K := S11.now
                have d0 := K.cell 0
                have d1 := K.cell 1
                have d2 := K.cell 2
                have d3 := K.cell 3
                simp only [List.getElem?_cons_zero, List.getElem?_cons_succ] at d0 d1 d2 d3
                have fd0 := K.frozen 0
                have fd1 := K.frozen 1
                have fd2 := K.frozen 2
                have fd3 := K.frozen 3
                have HXR2 := Lib.hid (SlcR.below HXR.out hb11 |>.mono hb11.size)
                have hlw := S11.now_lw
                have HS11 := Lib.hid S11
                clear HSX HXR S11 K hb11
                go_wp2_with fail
                refine (HSH.out _ HXR2.out hlw.tab).mono ?_
                rintro e W12 ⟨rfl, hb12⟩
                have S12 := HS11.out.below hb12
                clear HS11 HXR2 hlw hb12 d0 d1 d2 d3 fd0 fd1 fd2 fd3
                have K2 := S12.out
                have K7 := S12.now
                have a0 := K2.cell 0
                have a1 := K2.cell 1
                have a2 := K2.cell 2
                have a3 := K2.cell 3
                simp only [List.getElem?_cons_zero, List.getElem?_cons_succ] at a0 a1 a2 a3
                have d0 := K7.cell 0
                have d1 := K7.cell 1
                have d2 := K7.cell 2
                have d3 := K7.cell 3
                simp only [List.getElem?_cons_zero, List.getElem?_cons_succ] at d0 d1 d2 d3
                have fa0 := K2.frozen 0
                have fa1 := K2.frozen 1
                have fa2 := K2.frozen 2
                have fa3 := K2.frozen 3
                obtain ⟨W20, hW20⟩ : ∃ W20, ((((W12.setCell ⟨w.heap.size, 0, none⟩ (.int .i64 0)).setCell ⟨w.heap.size, 1, none⟩ (.int .i64 0)).setCell ⟨w.heap.size, 2, none⟩ (.slice none 0 0)).setCell ⟨w.heap.size, 3, none⟩ (.int .i64 0)) = W20 := ⟨_, rfl⟩
                have gw : W12.grownBy ((((W12.setCell ⟨w.heap.size, 0, none⟩ (.int .i64 0)).setCell ⟨w.heap.size, 1, none⟩ (.int .i64 0)).setCell ⟨w.heap.size, 2, none⟩ (.slice none 0 0)).setCell ⟨w.heap.size, 3, none⟩ (.int .i64 0)) (some w.heap.size) := (grown_set (g := w.heap.size) (i := 3) (u := .int .i64 0) (grown_set (g := w.heap.size) (i := 2) (u := .slice none 0 0) (grown_set (g := w.heap.size) (i := 1) (u := .int .i64 0) (grown_set (g := w.heap.size) (i := 0) (u := .int .i64 0) (World.grownBy.refl _ _)))))
                have kw : Lies ((((W12.setCell ⟨w.heap.size, 0, none⟩ (.int .i64 0)).setCell ⟨w.heap.size, 1, none⟩ (.int .i64 0)).setCell ⟨w.heap.size, 2, none⟩ (.slice none 0 0)).setCell ⟨w.heap.size, 3, none⟩ (.int .i64 0)) w.heap.size 24 [.int .i64 0, .int .i64 0, .slice none 0 0, .int .i64 0] := K2.set 0 (.int .i64 0) |>.set 1 (.int .i64 0) |>.set 2 (.slice none 0 0) |>.set 3 (.int .i64 0)
                have BB := Lib.hid (bel_grow S12.bl gw (Nat.le_refl _) (Nat.le_refl _))
                have OO : Hid (OwnS ((((W12.setCell ⟨w.heap.size, 0, none⟩ (.int .i64 0)).setCell ⟨w.heap.size, 1, none⟩ (.int .i64 0)).setCell ⟨w.heap.size, 2, none⟩ (.slice none 0 0)).setCell ⟨w.heap.size, 3, none⟩ (.int .i64 0)) w.heap.size 3 1 none 0 []) := ⟨rfl, by simp, .inl ⟨rfl, rfl⟩⟩
                rw [hW20] at kw BB OO
                have HW20 := Lib.hid hW20
                have HK := Lib.hid kw
                clear gw kw hW20 K2 K7 S12
                repeat (first | go_values | go_skip | go_guarded | go_step | go_upon | simp only [])
                rw [HW20.out]
                have LS := HK.out
                have x0 := LS.cell 0
                have x1 := LS.cell 1
                have x2 := LS.cell 2
                have x3 := LS.cell 3
                simp only [List.getElem?_cons_zero, List.getElem?_cons_succ] at x0 x1 x2 x3
                refine bodyPost_ret (v := .tuple #[.agg #[.int .i64 0, .int .i64 0, .slice none 0 0, .int .i64 0], .bool false]) (by simp [results, Tryd.results16, go_sem, x0, x1, x2, x3]) rfl ?_
                exact ⟨{ s := 0, c := 0, f := [], p := 0, A := none, cap := 0 }, false, rfl, HRD.out, OO.out, BB.out⟩
end Go.Proofs.YtchkjiadnackaaaDoor

/- A region whose order is drawn, by one fact on each operation: no orders are walked. -/
namespace Go.Proofs.YtchkjiadnackaaaDoor
open Go.RowKit

section
variable {P : Program} {ops : Array Oper} {Q : Exit → Act → World → Prop} {md : Region.Mode}

/-- The values vs in the temporaries of the operations. -/
def fillOps (vs : Nat → Value) : List Oper → Nat → Act → Act
  | [], _, a => a
  | o :: l, k, a => fillOps vs l (k + 1) (a.put o.dst (vs k))
def dstsApart : List Oper → Bool
  | [] => true
  | o :: l => l.all (fun p => match o.dst with | none => true | some d => p.dst != some d) && dstsApart l
def upd (vs : Nat → Value) (i : Nat) (v : Value) : Nat → Value := fun j => if j = i then v else vs j

theorem fillOps_put (vs : Nat → Value) {d : Option Tmp} {v : Value} : ∀ (l : List Oper) (k : Nat) (a : Act), (∀ p ∈ l, ∀ t, d = some t → p.dst ≠ some t) → (fillOps vs l k a).put d v = fillOps vs l k (a.put d v)
  | [], _, _, _ => rfl
  | o :: l, k, a, h => by
    unfold fillOps
    rw [fillOps_put vs l (k + 1) _ (fun p hp => h p (List.mem_cons_of_mem _ hp))]
    rw [Act.put_comm a (vs k) v (x := o.dst) (y := d) (fun t ht hd => h o (by simp) t hd ht)]
theorem fillOps_congr {vs vs' : Nat → Value} : ∀ (l : List Oper) (k : Nat) (a : Act), (∀ j, k ≤ j → vs j = vs' j) → fillOps vs l k a = fillOps vs' l k a
  | [], _, _, _ => rfl
  | o :: l, k, a, h => by
    unfold fillOps
    rw [h k (Nat.le_refl _), fillOps_congr l (k + 1) _ (fun j hj => h j (by omega))]
theorem Act.put_put (a : Act) (d : Option Tmp) (u v : Value) : (a.put d u).put d v = a.put d v := by
  cases d with
  | none => rfl
  | some d =>
    simp only [Act.put]
    congr 1
    apply Array.ext (by simp)
    intro i h1 h2
    simp
theorem fillOps_upd : ∀ (l : List Oper) (k : Nat) (a : Act) (vs : Nat → Value) (i : Nat) (o : Oper) (v : Value), dstsApart l = true → l[i]? = some o →
    (fillOps vs l k a).put o.dst v = fillOps (upd vs (k + i) v) l k a
  | [], _, _, _, _, _, _, _, h => by simp at h
  | p :: l, k, a, vs, 0, o, v, hd, h => by
    simp only [List.getElem?_cons_zero, Option.some.injEq] at h; subst h
    simp only [dstsApart, Bool.and_eq_true, List.all_eq_true] at hd
    unfold fillOps
    rw [fillOps_put vs l (k + 1) _ (fun q hq t ht => by
      have := hd.1 q hq; rw [ht] at this; simpa using this), Act.put_put]
    rw [fillOps_congr (vs := vs) (vs' := upd vs (k + 0) v) l (k + 1) _ (fun j hj => by unfold upd; rw [if_neg (by omega)])]
    congr 2
    simp [upd]
  | p :: l, k, a, vs, i + 1, o, v, hd, h => by
    simp only [dstsApart, Bool.and_eq_true] at hd
    unfold fillOps
    rw [fillOps_upd l (k + 1) _ vs i o v hd.2 (by simpa using h)]
    have : k + 1 + i = k + (i + 1) := by omega
    rw [this]
    congr 2
    unfold upd; rw [if_neg (by omega)]
theorem Act.put_self (a : Act) (t : Tmp) (u : Value) : a.put (some t) (a.tmps.getD t u) = a := by
  simp only [Act.put]
  obtain ⟨tmps, defers⟩ := a
  congr 1
  apply Array.ext_getElem?
  intro i
  by_cases e : t = i
  · subst e
    by_cases h2 : t < tmps.size
    · simp [h2]
    · simp [h2]
  · rw [Array.getElem?_setIfInBounds_ne e]
theorem fillOps_self (vs : Nat → Value) : ∀ (l : List Oper) (k : Nat) (a : Act), (∀ i o t, l[i]? = some o → o.dst = some t → vs (k + i) = a.tmps.getD t undef) → fillOps vs l k a = a
  | [], _, _, _ => rfl
  | o :: l, k, a, h => by
    unfold fillOps
    have e : a.put o.dst (vs k) = a := by
      cases hd : o.dst with
      | none => rfl
      | some t =>
        have h0 := h 0 o t (by simp) hd
        rw [Nat.add_zero] at h0
        rw [h0, Act.put_self]
    rw [e]
    exact fillOps_self vs l (k + 1) a (fun i o' t h1 h2 => by
      have := h (i + 1) o' t (by simpa using h1) h2
      rwa [show k + (i + 1) = k + 1 + i by omega] at this)

/-- j comes ahead of k, whatever order is drawn. -/
def ahead (md : Region.Mode) (ops : Array Oper) : Nat → Nat → Nat → Bool
  | 0, _, _ => false
  | fuel + 1, k, j => match ops[k]? with
    | none => false
    | some o => o.after.any fun e => Region.binds md e && (e.on == j || ahead md ops fuel e.on j)
def edgesDown (md : Region.Mode) (ops : Array Oper) : Bool :=
  (List.range ops.size).all fun k => match ops[k]? with
    | none => true
    | some o => o.after.all fun e => !Region.binds md e || decide (e.on < k)

def Closed (md : Region.Mode) (ops : Array Oper) (listed : Array Bool) : Prop :=
  ∀ j o, ops[j]? = some o → listed.getD j false = true → ∀ e ∈ o.after, Region.binds md e = true → listed.getD e.on false = true

theorem ahead_listed {listed : Array Bool} (hc : Closed md ops listed) : ∀ (fuel k j : Nat), (∀ o, ops[k]? = some o → ∀ e ∈ o.after, Region.binds md e = true → listed.getD e.on false = true) → ahead md ops fuel k j = true → listed.getD j false = true
  | 0, _, _, _, h => by simp [ahead] at h
  | fuel + 1, k, j, hk, h => by
    unfold ahead at h
    cases ho : ops[k]? with
    | none => simp [ho] at h
    | some o =>
      simp only [ho] at h
      obtain ⟨e, he, hb⟩ := Array.any_eq_true'.1 h
      simp only [Bool.and_eq_true, Bool.or_eq_true, beq_iff_eq] at hb
      have h1 := hk o ho e he hb.1
      rcases hb.2 with h2 | h2
      · rw [← h2]; exact h1
      · exact ahead_listed hc fuel e.on j (fun o' ho' => hc e.on o' ho' h1) h2

/-- The walk: a fact R on each operation's value; the facts of those that come ahead are at hand. -/
def wpFacts (P : Program) (ops : Array Oper) (Q : Exit → Act → World → Prop) (C : World → Prop) (T : World → World → Prop) (fr : (Nat → Value) → Act) : Nat → List Oper → List (Value → World → Prop) → Prop
  | _, [], Rs => ∀ vs w, C w → (∀ (j : Nat) (R : Value → World → Prop), Rs[j]? = some R → R (vs j) w) → Q .normal (fr vs) w
  | k, o :: l, Rs => ∃ R : Value → World → Prop, (∀ v w w', R v w → T w w' → R v w') ∧
    (∀ vs w, C w → (∀ (j : Nat) (R' : Value → World → Prop), ahead .any ops ops.size k j = true → Rs[j]? = some R' → R' (vs j) w) → ∀ K : Act → World → Prop, (∀ a' v w', a' = (fr vs).put o.dst v → R v w' → C w' → T w w' → K a' w') →
      if Region.wanted o (yielded ops (fr vs).tmps) = true then o.wp P (fr vs) w K Q else K ((fr vs).put o.dst undef) w) ∧
    wpFacts P ops Q C T fr (k + 1) l (Rs ++ [R])

/-- What the walk gives: the facts, one for each operation. -/
theorem wpFacts_all {C : World → Prop} {T : World → World → Prop} {fr : (Nat → Value) → Act} : ∀ (l : List Oper) (k : Nat) (Rs : List (Value → World → Prop)), (∀ i, l[i]? = ops[k + i]?) → Rs.length = k →
    (∀ (j : Nat) (R : Value → World → Prop), Rs[j]? = some R → ∀ v w w', R v w → T w w' → R v w') →
    (∀ (j : Nat) (o : Oper) (R : Value → World → Prop), j < k → ops[j]? = some o → Rs[j]? = some R → ∀ vs w, C w → (∀ (j' : Nat) (R' : Value → World → Prop), ahead .any ops ops.size j j' = true → j' < j → Rs[j']? = some R' → R' (vs j') w) → ∀ K : Act → World → Prop, (∀ a' v w', a' = (fr vs).put o.dst v → R v w' → C w' → T w w' → K a' w') →
      if Region.wanted o (yielded ops (fr vs).tmps) = true then o.wp P (fr vs) w K Q else K ((fr vs).put o.dst undef) w) →
    wpFacts P ops Q C T fr k l Rs →
    ∃ Rs' : List (Value → World → Prop), Rs'.length = k + l.length ∧ (∀ (j : Nat) (R : Value → World → Prop), Rs'[j]? = some R → ∀ v w w', R v w → T w w' → R v w') ∧
    (∀ (j : Nat) (o : Oper) (R : Value → World → Prop), ops[j]? = some o → Rs'[j]? = some R → ∀ vs w, C w → (∀ (j' : Nat) (R' : Value → World → Prop), ahead .any ops ops.size j j' = true → j' < j → Rs'[j']? = some R' → R' (vs j') w) → ∀ K : Act → World → Prop, (∀ a' v w', a' = (fr vs).put o.dst v → R v w' → C w' → T w w' → K a' w') →
      if Region.wanted o (yielded ops (fr vs).tmps) = true then o.wp P (fr vs) w K Q else K ((fr vs).put o.dst undef) w) ∧
    (∀ vs w, C w → (∀ (j : Nat) (R : Value → World → Prop), Rs'[j]? = some R → R (vs j) w) → Q .normal (fr vs) w)
  | [], k, Rs, hl, hlen, hst, hop, h => by
    refine ⟨Rs, by simpa using hlen, hst, fun j o R ho hR => hop j o R ?_ ho hR, h⟩
    rw [← hlen]; exact (List.getElem?_eq_some_iff.1 hR).1
  | o :: l, k, Rs, hl, hlen, hst, hop, h => by
    obtain ⟨R, hRs, hRo, hrest⟩ := h
    have ho : ops[k]? = some o := by simpa using (hl 0).symm
    have hold : ∀ j, j < k → (Rs ++ [R])[j]? = Rs[j]? := fun j hj => List.getElem?_append_left (by omega)
    have hnew : (Rs ++ [R])[k]? = some R := by rw [List.getElem?_append_right (by omega), hlen]; simp
    obtain ⟨Rs', h1, h2, h3, h4⟩ := wpFacts_all l (k + 1) (Rs ++ [R]) (fun i => by have := hl (i + 1); simpa [Nat.add_assoc, Nat.add_comm 1 i] using this) (by simp [hlen])
      (fun j R' hR' => by
        rcases Nat.lt_trichotomy j k with hj | hj | hj
        · rw [hold j hj] at hR'; exact hst j R' hR'
        · subst hj; rw [hnew] at hR'; cases hR'; exact hRs
        · rw [List.getElem?_eq_none (by simp [hlen]; omega)] at hR'; cases hR')
      (fun j o' R' hj ho' hR' vs w hC hB K hK => by
        rcases Nat.lt_or_ge j k with hjk | hjk
        · rw [hold j hjk] at hR'
          exact hop j o' R' hjk ho' hR' vs w hC (fun j' R'' ha hlt h'' => hB j' R'' ha hlt (by rw [hold j' (by omega)]; exact h'')) K hK
        · obtain rfl : j = k := by omega
          rw [ho] at ho'; cases ho'
          rw [hnew] at hR'; cases hR'
          refine hRo vs w hC (fun j' R'' ha h'' => ?_) K hK
          have hlt : j' < Rs.length := (List.getElem?_eq_some_iff.1 h'').1
          exact hB j' R'' ha (by omega) (by rw [hold j' (by omega)]; exact h''))
      hrest
    exact ⟨Rs', by rw [h1]; simp; omega, h2, h3, h4⟩

theorem listed_ready {listed : Array Bool} (hdn : edgesDown .any ops = true) (hsz : listed.size = ops.size) (hr : Region.ready .any ops listed = []) : ∀ j, j < ops.size → listed.getD j false = true := by
  intro j
  induction j using Nat.strongRecOn with
  | ind j ih =>
    intro hj
    rcases hb : listed.getD j false with _ | _
    · exfalso
      have hmem : j ∈ Region.ready .any ops listed := by
        rw [mem_ready]
        refine ⟨?_, ops[j], Array.getElem?_eq_getElem hj, fun e he hbd => ?_⟩
        · have : j < listed.size := by omega
          simp only [Array.getD, this, ↓reduceDIte] at hb ⊢
          exact hb
        · have h1 := List.all_eq_true.1 hdn j (List.mem_range.2 hj)
          rw [Array.getElem?_eq_getElem hj] at h1
          have h2 := Array.all_eq_true_iff_forall_mem.1 h1 e he
          simp only [hbd, Bool.not_true, Bool.false_or, decide_eq_true_eq] at h2
          exact ih e.on h2 (by omega)
      rw [hr] at hmem; cases hmem
    · rfl

/-- How many have not come up. -/
def unlisted (n : Nat) (listed : Array Bool) : Nat := ((List.range n).filter fun j => !listed.getD j false).length
theorem unlisted_set {n i : Nat} {listed : Array Bool} (hi : i < n) (hs : listed.size = n) (h : listed.getD i false = false) : unlisted n (listed.setIfInBounds i true) < unlisted n listed := by
  unfold unlisted
  have e : ∀ l : List Nat, (l.filter fun j => !(listed.setIfInBounds i true).getD j false) = (l.filter fun j => !listed.getD j false).filter (fun j => j != i) := by
    intro l
    rw [List.filter_filter]
    apply List.filter_congr
    intro j _
    by_cases hji : j = i
    · subst hji; have : j < listed.size := by omega
      simp [this]
    · rw [getD_set_ne false (Ne.symm hji)]; simp [hji]
  rw [e]
  have hm : i ∈ (List.range n).filter fun j => !listed.getD j false := List.mem_filter.2 ⟨List.mem_range.2 hi, by rw [h]; rfl⟩
  generalize (List.range n).filter (fun j => !listed.getD j false) = l at hm
  clear e
  induction l with
  | nil => cases hm
  | cons x l ih =>
    rw [List.filter_cons]
    split
    · rename_i hx
      rcases List.mem_cons.1 hm with h' | h'
      · simp [h'] at hx
      · simpa using ih h'
    · exact Nat.lt_succ_of_le (List.length_filter_le _ _)

theorem wpAny_facts {C : World → Prop} {T : World → World → Prop} {a₀ : Act} (hap : dstsApart ops.toList = true) (hdn : edgesDown .any ops = true) (Rs : List (Value → World → Prop)) (hlen : Rs.length = ops.size)
    (hst : ∀ (j : Nat) (R : Value → World → Prop), Rs[j]? = some R → ∀ v w w', R v w → T w w' → R v w')
    (hop : ∀ (j : Nat) (o : Oper) (R : Value → World → Prop), ops[j]? = some o → Rs[j]? = some R → ∀ vs w, C w → (∀ (j' : Nat) (R' : Value → World → Prop), ahead .any ops ops.size j j' = true → j' < j → Rs[j']? = some R' → R' (vs j') w) → ∀ K : Act → World → Prop, (∀ a' v w', a' = (fillOps vs ops.toList 0 a₀).put o.dst v → R v w' → C w' → T w w' → K a' w') →
      if Region.wanted o (yielded ops (fillOps vs ops.toList 0 a₀).tmps) = true then o.wp P (fillOps vs ops.toList 0 a₀) w K Q else K ((fillOps vs ops.toList 0 a₀).put o.dst undef) w)
    (hend : ∀ vs w, C w → (∀ (j : Nat) (R : Value → World → Prop), Rs[j]? = some R → R (vs j) w) → Q .normal (fillOps vs ops.toList 0 a₀) w) :
    ∀ (fuel : Nat) (listed : Array Bool) (vs : Nat → Value) (w : World), listed.size = ops.size → unlisted ops.size listed ≤ fuel → Closed .any ops listed → C w → (∀ (j : Nat) (R : Value → World → Prop), listed.getD j false = true → Rs[j]? = some R → R (vs j) w) →
      wpAny P .any ops Q fuel listed (fillOps vs ops.toList 0 a₀) w := by
  have hfin : ∀ (listed : Array Bool) (vs : Nat → Value) (w : World), listed.size = ops.size → C w → (∀ (j : Nat) (R : Value → World → Prop), listed.getD j false = true → Rs[j]? = some R → R (vs j) w) → Region.ready .any ops listed = [] → Q .normal (fillOps vs ops.toList 0 a₀) w :=
    fun listed vs w hs hC hR hr => hend vs w hC fun j R hj => hR j R (listed_ready hdn hs hr j (by rw [← hlen]; exact (List.getElem?_eq_some_iff.1 hj).1)) hj
  intro fuel
  induction fuel with
  | zero =>
    intro listed vs w hs hu hcl hC hR
    have hr : Region.ready .any ops listed = [] := by
      rw [List.eq_nil_iff_forall_not_mem]
      intro j hj
      obtain ⟨h0, o, ho, _⟩ := mem_ready.1 hj
      have hjs : j < ops.size := (Array.getElem?_eq_some_iff.1 ho).1
      have : unlisted ops.size (listed.setIfInBounds j true) < unlisted ops.size listed := unlisted_set hjs hs (by
        have : j < listed.size := by omega
        simp only [Array.getD, this, ↓reduceDIte] at h0 ⊢; exact h0)
      omega
    exact ⟨hr, hfin listed vs w hs hC hR hr⟩
  | succ fuel ih =>
    intro listed vs w hs hu hcl hC hR
    refine ⟨hfin listed vs w hs hC hR, fun i hi => ?_⟩
    obtain ⟨h0, o, ho, hall⟩ := mem_ready.1 hi
    have hisz : i < ops.size := (Array.getElem?_eq_some_iff.1 ho).1
    have hil : i < listed.size := by omega
    have h0' : listed.getD i false = false := by simp only [Array.getD, hil, ↓reduceDIte] at h0 ⊢; exact h0
    obtain ⟨R, hRi⟩ : ∃ R, Rs[i]? = some R := ⟨Rs[i]'(by omega), List.getElem?_eq_getElem (by omega)⟩
    have hstep := hop i o R ho hRi vs w hC (fun j' R' ha _ hR' => hR j' R' (ahead_listed hcl ops.size i j' (fun o' ho' => by rw [ho] at ho'; cases ho'; exact hall) ha) hR')
      (wpAny P .any ops Q fuel (listed.setIfInBounds i true)) (fun a' v w' ha hRv hC' hT => by
        rw [ha, fillOps_upd ops.toList 0 a₀ vs i o v hap (by simpa using ho), Nat.zero_add]
        refine ih _ _ _ (by simpa using hs) ?_ ?_ hC' ?_
        · have := unlisted_set hisz hs h0'; omega
        · intro j oj hoj hj e he hb
          by_cases hji : j = i
          · subst hji; rw [ho] at hoj; cases hoj; exact getD_set_true (hall e he hb)
          · rw [getD_set_ne false (Ne.symm hji)] at hj; exact getD_set_true (hcl j oj hoj hj e he hb)
        · intro j R' hj hR'
          by_cases hji : j = i
          · subst hji; rw [hRi] at hR'; cases hR'; simpa [upd] using hRv
          · rw [getD_set_ne false (Ne.symm hji)] at hj
            have := hst j R' hR' _ _ _ (hR j R' hj hR') hT
            simpa [upd, hji] using this)
    unfold wpOp
    simp only [ho]
    split
    · rename_i hw; rw [if_pos hw] at hstep; exact .inl hstep
    · rename_i hw; rw [if_neg hw] at hstep; exact hstep

/-- The region. -/
theorem wp_region_facts {id : Nat} {a : Act} {w : World} {l : List Oper} (C : World → Prop) (T : World → World → Prop) (hm : P.follows .mixedOrders = true) (hap : dstsApart l = true) (hdn : edgesDown .any l.toArray = true)
    (hC : C w.drew) (h : wpFacts P l.toArray Q C T (fun vs => fillOps vs l 0 a) 0 l []) : (Code.region id l.toArray true).wp P Q a w := by
  refine wp_region_any hm ?_
  obtain ⟨Rs, h1, h2, h3, h4⟩ := wpFacts_all (ops := l.toArray) l 0 [] (by simp) rfl (by simp) (by simp) h
  obtain ⟨vs, hvs⟩ : ∃ vs : Nat → Value, ∀ i o t, l[i]? = some o → o.dst = some t → vs (0 + i) = a.tmps.getD t undef :=
    ⟨fun i => match (l[i]?).bind (·.dst) with | some t => a.tmps.getD t undef | none => undef, fun i o t hi ht => by simp [hi, ht]⟩
  have := wpAny_facts (P := P) (Q := Q) (ops := l.toArray) (C := C) (T := T) (a₀ := a) hap hdn Rs (by simpa using h1) h2 h3 h4 l.toArray.size (Array.replicate l.toArray.size false) vs w.drew (by simp)
    (Nat.le_trans (List.length_filter_le _ _) (by simp)) (fun j o hj hl => by simp [Array.getD] at hl) hC (fun j R hl => by simp [Array.getD] at hl)
  rwa [fillOps_self vs _ 0 a (by simpa using hvs)] at this

theorem wpFacts_nil {C : World → Prop} {T : World → World → Prop} {fr : (Nat → Value) → Act} {k : Nat} {Rs : List (Value → World → Prop)} (h : ∀ vs w, C w → (∀ (j : Nat) (R : Value → World → Prop), Rs[j]? = some R → R (vs j) w) → Q .normal (fr vs) w) : wpFacts P ops Q C T fr k [] Rs := h
/-- An operation with one value. -/
theorem wpFacts_val {C : World → Prop} {T : World → World → Prop} {fr : (Nat → Value) → Act} {k : Nat} {o : Oper} {l : List Oper} {Rs : List (Value → World → Prop)} (V : Value)
    (h1 : ∀ vs w, C w → (∀ (j : Nat) (R' : Value → World → Prop), ahead .any ops ops.size k j = true → Rs[j]? = some R' → R' (vs j) w) → ∀ K : Act → World → Prop, (∀ a' w', a' = (fr vs).put o.dst V → C w' → T w w' → K a' w') →
      if Region.wanted o (yielded ops (fr vs).tmps) = true then o.wp P (fr vs) w K Q else K ((fr vs).put o.dst undef) w)
    (h2 : wpFacts P ops Q C T fr (k + 1) l (Rs ++ [fun v _ => v = V])) : wpFacts P ops Q C T fr k (o :: l) Rs :=
  ⟨fun v _ => v = V, fun _ _ _ h _ => h, fun vs w hC hB K hK => h1 vs w hC hB K fun a' w' ha hC' hT => hK a' V w' ha rfl hC' hT, h2⟩
/-- An operation whose value has a property. -/
theorem wpFacts_some {C : World → Prop} {T : World → World → Prop} {fr : (Nat → Value) → Act} {k : Nat} {o : Oper} {l : List Oper} {Rs : List (Value → World → Prop)} (R : Value → World → Prop) (hR : ∀ v w w', R v w → T w w' → R v w')
    (h1 : ∀ vs w, C w → (∀ (j : Nat) (R' : Value → World → Prop), ahead .any ops ops.size k j = true → Rs[j]? = some R' → R' (vs j) w) → ∀ K : Act → World → Prop, (∀ a' v w', a' = (fr vs).put o.dst v → R v w' → C w' → T w w' → K a' w') →
      if Region.wanted o (yielded ops (fr vs).tmps) = true then o.wp P (fr vs) w K Q else K ((fr vs).put o.dst undef) w)
    (h2 : wpFacts P ops Q C T fr (k + 1) l (Rs ++ [R])) : wpFacts P ops Q C T fr k (o :: l) Rs :=
  ⟨R, hR, h1, h2⟩
end
end Go.Proofs.YtchkjiadnackaaaDoor

/- A region whose order is drawn: one fact on each operation, which may also speak of one operation that comes ahead; each operation has its own way to turn the world (T k). -/
namespace Go.Proofs.YtchkjiadnackaaaDoor
open Go.RowKit

/-- A fact on an operation's value, and on the value of one that comes ahead of it. -/
structure FactN where
  D : Nat
  R : Value → Value → World → Prop
  Br : List Nat := []
def FactN.at (f : FactN) (vs : Nat → Value) (j : Nat) (w : World) : Prop := f.R (vs f.D) (vs j) w
/-- No other operation that may come behind it turns the fact. -/
def FactN.firm (ops : Array Oper) (T : Nat → World → World → Prop) (j : Nat) (f : FactN) : Prop := ∀ i, i ≠ j → i ∉ f.Br → ahead .any ops ops.size j i = false → ∀ u v w w', f.R u v w → T i w w' → f.R u v w'
/-- The fact still stands when operation k comes. -/
def FactN.live (ops : Array Oper) (k : Nat) (f : FactN) : Bool := f.Br.all fun i => i == k || ahead .any ops ops.size i k
def FactN.fine (ops : Array Oper) (j : Nat) (f : FactN) : Prop := (∀ u u' v w, f.R u v w → f.R u' v w) ∨ ahead .any ops ops.size j f.D = true
theorem FactN.eq {V : Value} {vs : Nat → Value} {j : Nat} {w : World} (h : FactN.at ⟨0, fun _ v _ => v = V, []⟩ vs j w) : vs j = V := h
/-- What has come up when operation k comes. -/
structure Gone (ops : Array Oper) (L : Nat → Bool) (k : Nat) : Prop where
  self : L k = false
  done : ∀ j, ahead .any ops ops.size k j = true → L j = true
  open_ : ∀ j, ahead .any ops ops.size j k = true → L j = false
def Listed.but (L : Nat → Bool) (k : Nat) : Nat → Bool := fun j => if j = k then true else L j
section
variable {P : Program} {ops : Array Oper} {Q : Exit → Act → World → Prop}

/-- The walk: a fact R on each operation's value; the facts of those that come ahead are at hand. -/
def wpFactsN (P : Program) (ops : Array Oper) (Q : Exit → Act → World → Prop) (C : (Nat → Bool) → World → Prop) (T : Nat → World → World → Prop) (fr : (Nat → Value) → Act) : Nat → List Oper → List FactN → Prop
  | _, [], Rs => ∀ vs L w, (∀ j, j < ops.size → L j = true) → C L w → (∀ (j : Nat) (R : FactN), R.Br = [] → Rs[j]? = some R → R.at vs j w) → Q .normal (fr vs) w
  | k, o :: l, Rs => ∃ R : FactN, R.fine ops k ∧ R.firm ops T k ∧
    (∀ vs L w, Gone ops L k → C L w → (∀ (j : Nat) (R' : FactN), ahead .any ops ops.size k j = true → R'.live ops k = true → Rs[j]? = some R' → R'.at vs j w) → ∀ K : Act → World → Prop, (∀ a' v w', a' = (fr vs).put o.dst v → R.R (vs R.D) v w' → C (Listed.but L k) w' → T k w w' → K a' w') →
      if Region.wanted o (yielded ops (fr vs).tmps) = true then o.wp P (fr vs) w K Q else K ((fr vs).put o.dst undef) w) ∧
    wpFactsN P ops Q C T fr (k + 1) l (Rs ++ [R])

/-- What the walk gives: the facts, one for each operation. -/
theorem wpFactsN_all {C : (Nat → Bool) → World → Prop} {T : Nat → World → World → Prop} {fr : (Nat → Value) → Act} : ∀ (l : List Oper) (k : Nat) (Rs : List FactN), (∀ i, l[i]? = ops[k + i]?) → Rs.length = k →
    (∀ (j : Nat) (R : FactN), Rs[j]? = some R → R.fine ops j ∧ R.firm ops T j) →
    (∀ (j : Nat) (o : Oper) (R : FactN), j < k → ops[j]? = some o → Rs[j]? = some R → ∀ vs L w, Gone ops L j → C L w → (∀ (j' : Nat) (R' : FactN), ahead .any ops ops.size j j' = true → R'.live ops j = true → j' < j → Rs[j']? = some R' → R'.at vs j' w) → ∀ K : Act → World → Prop, (∀ a' v w', a' = (fr vs).put o.dst v → R.R (vs R.D) v w' → C (Listed.but L j) w' → T j w w' → K a' w') →
      if Region.wanted o (yielded ops (fr vs).tmps) = true then o.wp P (fr vs) w K Q else K ((fr vs).put o.dst undef) w) →
    wpFactsN P ops Q C T fr k l Rs →
    ∃ Rs' : List FactN, Rs'.length = k + l.length ∧ (∀ (j : Nat) (R : FactN), Rs'[j]? = some R → R.fine ops j ∧ R.firm ops T j) ∧
    (∀ (j : Nat) (o : Oper) (R : FactN), ops[j]? = some o → Rs'[j]? = some R → ∀ vs L w, Gone ops L j → C L w → (∀ (j' : Nat) (R' : FactN), ahead .any ops ops.size j j' = true → R'.live ops j = true → j' < j → Rs'[j']? = some R' → R'.at vs j' w) → ∀ K : Act → World → Prop, (∀ a' v w', a' = (fr vs).put o.dst v → R.R (vs R.D) v w' → C (Listed.but L j) w' → T j w w' → K a' w') →
      if Region.wanted o (yielded ops (fr vs).tmps) = true then o.wp P (fr vs) w K Q else K ((fr vs).put o.dst undef) w) ∧
    (∀ vs L w, (∀ j, j < ops.size → L j = true) → C L w → (∀ (j : Nat) (R : FactN), R.Br = [] → Rs'[j]? = some R → R.at vs j w) → Q .normal (fr vs) w)
  | [], k, Rs, hl, hlen, hst, hop, h => by
    refine ⟨Rs, by simpa using hlen, hst, fun j o R ho hR => hop j o R ?_ ho hR, h⟩
    rw [← hlen]; exact (List.getElem?_eq_some_iff.1 hR).1
  | o :: l, k, Rs, hl, hlen, hst, hop, h => by
    obtain ⟨R, hRf, hRs, hRo, hrest⟩ := h
    have ho : ops[k]? = some o := by simpa using (hl 0).symm
    have hold : ∀ j, j < k → (Rs ++ [R])[j]? = Rs[j]? := fun j hj => List.getElem?_append_left (by omega)
    have hnew : (Rs ++ [R])[k]? = some R := by rw [List.getElem?_append_right (by omega), hlen]; simp
    obtain ⟨Rs', h1, h2, h3, h4⟩ := wpFactsN_all l (k + 1) (Rs ++ [R]) (fun i => by have := hl (i + 1); simpa [Nat.add_assoc, Nat.add_comm 1 i] using this) (by simp [hlen])
      (fun j R' hR' => by
        rcases Nat.lt_trichotomy j k with hj | hj | hj
        · rw [hold j hj] at hR'; exact hst j R' hR'
        · subst hj; rw [hnew] at hR'; cases hR'; exact ⟨hRf, hRs⟩
        · rw [List.getElem?_eq_none (by simp [hlen]; omega)] at hR'; cases hR')
      (fun j o' R' hj ho' hR' vs L w hG hC hB K hK => by
        rcases Nat.lt_or_ge j k with hjk | hjk
        · rw [hold j hjk] at hR'
          exact hop j o' R' hjk ho' hR' vs L w hG hC (fun j' R'' ha hv hlt h'' => hB j' R'' ha hv hlt (by rw [hold j' (by omega)]; exact h'')) K hK
        · obtain rfl : j = k := by omega
          rw [ho] at ho'; cases ho'
          rw [hnew] at hR'; cases hR'
          refine hRo vs L w hG hC (fun j' R'' ha hv h'' => ?_) K hK
          have hlt : j' < Rs.length := (List.getElem?_eq_some_iff.1 h'').1
          exact hB j' R'' ha hv (by omega) (by rw [hold j' (by omega)]; exact h''))
      hrest
    exact ⟨Rs', by rw [h1]; simp; omega, h2, h3, h4⟩

theorem getD_set_self {i : Nat} {listed : Array Bool} (h : i < listed.size) : (listed.setIfInBounds i true).getD i false = true := by simp [h]
theorem wpAny_factsN {C : (Nat → Bool) → World → Prop} {T : Nat → World → World → Prop} {a₀ : Act} (hap : dstsApart ops.toList = true) (hdn : edgesDown .any ops = true) (Rs : List FactN) (hlen : Rs.length = ops.size)
    (hst : ∀ (j : Nat) (R : FactN), Rs[j]? = some R → R.fine ops j ∧ R.firm ops T j)
    (hop : ∀ (j : Nat) (o : Oper) (R : FactN), ops[j]? = some o → Rs[j]? = some R → ∀ vs L w, Gone ops L j → C L w → (∀ (j' : Nat) (R' : FactN), ahead .any ops ops.size j j' = true → R'.live ops j = true → j' < j → Rs[j']? = some R' → R'.at vs j' w) → ∀ K : Act → World → Prop, (∀ a' v w', a' = (fillOps vs ops.toList 0 a₀).put o.dst v → R.R (vs R.D) v w' → C (Listed.but L j) w' → T j w w' → K a' w') →
      if Region.wanted o (yielded ops (fillOps vs ops.toList 0 a₀).tmps) = true then o.wp P (fillOps vs ops.toList 0 a₀) w K Q else K ((fillOps vs ops.toList 0 a₀).put o.dst undef) w)
    (hend : ∀ vs L w, (∀ j, j < ops.size → L j = true) → C L w → (∀ (j : Nat) (R : FactN), R.Br = [] → Rs[j]? = some R → R.at vs j w) → Q .normal (fillOps vs ops.toList 0 a₀) w) :
    ∀ (fuel : Nat) (listed : Array Bool) (vs : Nat → Value) (w : World), listed.size = ops.size → unlisted ops.size listed ≤ fuel → Closed .any ops listed → C (fun j => listed.getD j false) w → (∀ (j : Nat) (R : FactN), listed.getD j false = true → (∀ i ∈ R.Br, listed.getD i false = false) → Rs[j]? = some R → R.at vs j w) →
      wpAny P .any ops Q fuel listed (fillOps vs ops.toList 0 a₀) w := by
  have hfin : ∀ (listed : Array Bool) (vs : Nat → Value) (w : World), listed.size = ops.size → C (fun j => listed.getD j false) w → (∀ (j : Nat) (R : FactN), listed.getD j false = true → (∀ i ∈ R.Br, listed.getD i false = false) → Rs[j]? = some R → R.at vs j w) → Region.ready .any ops listed = [] → Q .normal (fillOps vs ops.toList 0 a₀) w :=
    fun listed vs w hs hC hR hr => hend vs _ w (fun j hj => listed_ready hdn hs hr j hj) hC fun j R hbr hj => hR j R (listed_ready hdn hs hr j (by rw [← hlen]; exact (List.getElem?_eq_some_iff.1 hj).1)) (by rw [hbr]; intro i hi; cases hi) hj
  intro fuel
  induction fuel with
  | zero =>
    intro listed vs w hs hu hcl hC hR
    have hr : Region.ready .any ops listed = [] := by
      rw [List.eq_nil_iff_forall_not_mem]
      intro j hj
      obtain ⟨h0, o, ho, _⟩ := mem_ready.1 hj
      have hjs : j < ops.size := (Array.getElem?_eq_some_iff.1 ho).1
      have : unlisted ops.size (listed.setIfInBounds j true) < unlisted ops.size listed := unlisted_set hjs hs (by
        have : j < listed.size := by omega
        simp only [Array.getD, this, ↓reduceDIte] at h0 ⊢; exact h0)
      omega
    exact ⟨hr, hfin listed vs w hs hC hR hr⟩
  | succ fuel ih =>
    intro listed vs w hs hu hcl hC hR
    refine ⟨hfin listed vs w hs hC hR, fun i hi => ?_⟩
    obtain ⟨h0, o, ho, hall⟩ := mem_ready.1 hi
    have hisz : i < ops.size := (Array.getElem?_eq_some_iff.1 ho).1
    have hil : i < listed.size := by omega
    have h0' : listed.getD i false = false := by simp only [Array.getD, hil, ↓reduceDIte] at h0 ⊢; exact h0
    obtain ⟨R, hRi⟩ : ∃ R, Rs[i]? = some R := ⟨Rs[i]'(by omega), List.getElem?_eq_getElem (by omega)⟩
    have hclo : ∀ j, ahead .any ops ops.size i j = true → listed.getD j false = true := fun j ha => ahead_listed hcl ops.size i j (fun o' ho' => by rw [ho] at ho'; cases ho'; exact hall) ha
    have hopn : ∀ j, ahead .any ops ops.size j i = true → listed.getD j false = false := fun j ha => by
      rcases hq : listed.getD j false with _ | _
      · rfl
      · have hl := ahead_listed hcl ops.size j i (fun o' ho' => hcl j o' ho' hq) ha
        rw [h0'] at hl; cases hl
    have hstep := hop i o R ho hRi vs (fun j => listed.getD j false) w ⟨h0', hclo, hopn⟩ hC (fun j' R' ha hv _ hR' => hR j' R' (ahead_listed hcl ops.size i j' (fun o' ho' => by rw [ho] at ho'; cases ho'; exact hall) ha) (fun i' hi' => by
        have hv' := List.all_eq_true.1 hv i' hi'
        simp only [Bool.or_eq_true, beq_iff_eq] at hv'
        rcases hv' with rfl | hv'
        · exact h0'
        · rcases hq : listed.getD i' false with _ | _
          · rfl
          · have hl := ahead_listed hcl ops.size i' i (fun o' ho' => hcl i' o' ho' hq) hv'
            rw [h0'] at hl; cases hl) hR')
      (wpAny P .any ops Q fuel (listed.setIfInBounds i true)) (fun a' v w' ha hRv hC' hT => by
        rw [ha, fillOps_upd ops.toList 0 a₀ vs i o v hap (by simpa using ho), Nat.zero_add]
        have hC9 : C (fun j => (listed.setIfInBounds i true).getD j false) w' := by
          have e : (fun j => (listed.setIfInBounds i true).getD j false) = Listed.but (fun j => listed.getD j false) i := by
            funext j
            unfold Listed.but
            by_cases e : j = i
            · subst e; rw [if_pos rfl]; exact getD_set_self hil
            · rw [if_neg e]; exact getD_set_ne false (Ne.symm e)
          rw [e]; exact hC'
        refine ih _ _ _ (by simpa using hs) ?_ ?_ hC9 ?_
        · have := unlisted_set hisz hs h0'; omega
        · intro j oj hoj hj e he hb
          by_cases hji : j = i
          · subst hji; rw [ho] at hoj; cases hoj; exact getD_set_true (hall e he hb)
          · rw [getD_set_ne false (Ne.symm hji)] at hj; exact getD_set_true (hcl j oj hoj hj e he hb)
        · intro j R' hj hbr hR'
          have key : ∀ (u' : Value), R'.R (vs R'.D) u' w' → R'.R (upd vs i v R'.D) u' w' := fun u' h => by
            by_cases hDi : R'.D = i
            · rcases (hst j R' hR').1 with hf | ha
              · exact hf _ _ _ _ h
              · exfalso
                have hl : listed.getD R'.D false = true := by
                  by_cases hji : j = i
                  · subst hji; exact ahead_listed hcl ops.size j _ (fun o' ho' => by rw [ho] at ho'; cases ho'; exact hall) ha
                  · rw [getD_set_ne false (Ne.symm hji)] at hj
                    exact ahead_listed hcl ops.size j _ (fun o' ho' => hcl j o' ho' hj) ha
                rw [hDi, h0'] at hl; cases hl
            · have : upd vs i v R'.D = vs R'.D := by unfold upd; rw [if_neg hDi]
              rw [this]; exact h
          unfold FactN.at
          by_cases hji : j = i
          · subst hji; rw [hRi] at hR'; cases hR'
            have : upd vs j v j = v := by unfold upd; rw [if_pos rfl]
            rw [this]
            exact key v hRv
          · rw [getD_set_ne false (Ne.symm hji)] at hj
            have hai : ahead .any ops ops.size j i = false := by
              rcases hq : ahead .any ops ops.size j i with _ | _
              · rfl
              · have hl := ahead_listed hcl ops.size j i (fun o' ho' => hcl j o' ho' hj) hq
                rw [h0'] at hl; cases hl
            have hib : i ∉ R'.Br := fun hm => by have h1 := hbr i hm; rw [getD_set_self hil] at h1; cases h1
            have hbr' : ∀ i' ∈ R'.Br, listed.getD i' false = false := fun i' hm => by
              have h1 := hbr i' hm
              by_cases e : i' = i
              · subst e; exact absurd hm hib
              · rwa [getD_set_ne false (Ne.symm e)] at h1
            have h3 := (hst j R' hR').2 i (Ne.symm hji) hib hai _ _ _ _ (hR j R' hj hbr' hR') hT
            have : upd vs i v j = vs j := by unfold upd; rw [if_neg hji]
            rw [this]
            refine key _ ?_
            exact h3)
    unfold wpOp
    simp only [ho]
    split
    · rename_i hw; rw [if_pos hw] at hstep; exact .inl hstep
    · rename_i hw; rw [if_neg hw] at hstep; exact hstep

/-- The region. -/
theorem wp_region_factsN {id : Nat} {a : Act} {w : World} {l : List Oper} (C : (Nat → Bool) → World → Prop) (T : Nat → World → World → Prop) (hm : P.follows .mixedOrders = true) (hap : dstsApart l = true) (hdn : edgesDown .any l.toArray = true)
    (hC : C (fun _ => false) w.drew) (h : wpFactsN P l.toArray Q C T (fun vs => fillOps vs l 0 a) 0 l []) : (Code.region id l.toArray true).wp P Q a w := by
  refine wp_region_any hm ?_
  obtain ⟨Rs, h1, h2, h3, h4⟩ := wpFactsN_all (ops := l.toArray) l 0 [] (by simp) rfl (by simp) (by simp) h
  obtain ⟨vs, hvs⟩ : ∃ vs : Nat → Value, ∀ i o t, l[i]? = some o → o.dst = some t → vs (0 + i) = a.tmps.getD t undef :=
    ⟨fun i => match (l[i]?).bind (·.dst) with | some t => a.tmps.getD t undef | none => undef, fun i o t hi ht => by simp [hi, ht]⟩
  have := wpAny_factsN (P := P) (Q := Q) (ops := l.toArray) (C := C) (T := T) (a₀ := a) hap hdn Rs (by simpa using h1) h2 h3 h4 l.toArray.size (Array.replicate l.toArray.size false) vs w.drew (by simp)
    (Nat.le_trans (List.length_filter_le _ _) (by simp)) (fun j o hj hl => by simp [Array.getD] at hl) (by
      have e : (fun j => (Array.replicate l.toArray.size false).getD j false) = fun _ => false := by funext j; simp [Array.getD]
      rw [e]; exact hC) (fun j R hl => by simp [Array.getD] at hl)
  rwa [fillOps_self vs _ 0 a (by simpa using hvs)] at this

theorem wpFactsN_nil {C : (Nat → Bool) → World → Prop} {T : Nat → World → World → Prop} {fr : (Nat → Value) → Act} {k : Nat} {Rs : List FactN} (h : ∀ vs L w, (∀ j, j < ops.size → L j = true) → C L w → (∀ (j : Nat) (R : FactN), R.Br = [] → Rs[j]? = some R → R.at vs j w) → Q .normal (fr vs) w) : wpFactsN P ops Q C T fr k [] Rs := h
/-- An operation with one value. -/
theorem wpFactsN_val {C : (Nat → Bool) → World → Prop} {T : Nat → World → World → Prop} {fr : (Nat → Value) → Act} {k : Nat} {o : Oper} {l : List Oper} {Rs : List FactN} (V : Value)
    (h1 : ∀ vs L w, Gone ops L k → C L w → (∀ (j : Nat) (R' : FactN), ahead .any ops ops.size k j = true → R'.live ops k = true → Rs[j]? = some R' → R'.at vs j w) → ∀ K : Act → World → Prop, (∀ a' w', a' = (fr vs).put o.dst V → C (Listed.but L k) w' → T k w w' → K a' w') →
      if Region.wanted o (yielded ops (fr vs).tmps) = true then o.wp P (fr vs) w K Q else K ((fr vs).put o.dst undef) w)
    (h2 : wpFactsN P ops Q C T fr (k + 1) l (Rs ++ [⟨0, fun _ v _ => v = V, []⟩])) : wpFactsN P ops Q C T fr k (o :: l) Rs :=
  ⟨⟨0, fun _ v _ => v = V, []⟩, .inl (fun _ _ _ _ h => h), fun _ _ _ _ _ _ _ _ h _ => h, fun vs L w hG hC hB K hK => h1 vs L w hG hC hB K fun a' w' ha hC' hT => hK a' V w' ha rfl hC' hT, h2⟩
/-- An operation whose value has a property. -/
theorem wpFactsN_some {C : (Nat → Bool) → World → Prop} {T : Nat → World → World → Prop} {fr : (Nat → Value) → Act} {k : Nat} {o : Oper} {l : List Oper} {Rs : List FactN} (Br : List Nat) (R : Value → World → Prop) (hR : ∀ i, i ≠ k → i ∉ Br → ahead .any ops ops.size k i = false → ∀ v w w', R v w → T i w w' → R v w')
    (h1 : ∀ vs L w, Gone ops L k → C L w → (∀ (j : Nat) (R' : FactN), ahead .any ops ops.size k j = true → R'.live ops k = true → Rs[j]? = some R' → R'.at vs j w) → ∀ K : Act → World → Prop, (∀ a' v w', a' = (fr vs).put o.dst v → R v w' → C (Listed.but L k) w' → T k w w' → K a' w') →
      if Region.wanted o (yielded ops (fr vs).tmps) = true then o.wp P (fr vs) w K Q else K ((fr vs).put o.dst undef) w)
    (h2 : wpFactsN P ops Q C T fr (k + 1) l (Rs ++ [⟨0, fun _ v w => R v w, Br⟩])) : wpFactsN P ops Q C T fr k (o :: l) Rs :=
  ⟨⟨0, fun _ v w => R v w, Br⟩, .inl (fun _ _ _ _ h => h), fun i hi hb ha _ v w w' h t => hR i hi hb ha v w w' h t, h1, h2⟩
/-- An operation whose value has a property that speaks of an operation ahead. -/
theorem wpFactsN_pair {C : (Nat → Bool) → World → Prop} {T : Nat → World → World → Prop} {fr : (Nat → Value) → Act} {k : Nat} {o : Oper} {l : List Oper} {Rs : List FactN} (Br : List Nat) (D : Nat) (R : Value → Value → World → Prop) (hD : ahead .any ops ops.size k D = true) (hR : ∀ i, i ≠ k → i ∉ Br → ahead .any ops ops.size k i = false → ∀ u v w w', R u v w → T i w w' → R u v w')
    (h1 : ∀ vs L w, Gone ops L k → C L w → (∀ (j : Nat) (R' : FactN), ahead .any ops ops.size k j = true → R'.live ops k = true → Rs[j]? = some R' → R'.at vs j w) → ∀ K : Act → World → Prop, (∀ a' v w', a' = (fr vs).put o.dst v → R (vs D) v w' → C (Listed.but L k) w' → T k w w' → K a' w') →
      if Region.wanted o (yielded ops (fr vs).tmps) = true then o.wp P (fr vs) w K Q else K ((fr vs).put o.dst undef) w)
    (h2 : wpFactsN P ops Q C T fr (k + 1) l (Rs ++ [⟨D, R, Br⟩])) : wpFactsN P ops Q C T fr k (o :: l) Rs :=
  ⟨⟨D, R, Br⟩, .inr hD, hR, h1, h2⟩
end
/-- One thing holds until operation s has been, another from then on. -/
def Sw (s : Nat) (C0 C1 : World → Prop) (L : Nat → Bool) (w : World) : Prop := if L s = true then C1 w else C0 w
section
variable {ops : Array Oper} {s k : Nat} {C0 C1 : World → Prop} {L : Nat → Bool} {w w' : World}
theorem Sw.start (h : C0 w) : Sw s C0 C1 (fun _ => false) w := by unfold Sw; rw [if_neg (by simp)]; exact h
theorem Sw.before (hG : Gone ops L k) (ha : ahead .any ops ops.size s k = true) (h : Sw s C0 C1 L w) : C0 w := by
  unfold Sw at h; rwa [if_neg (by rw [hG.open_ s ha]; simp)] at h
theorem Sw.stay (hG : Gone ops L k) (ha : ahead .any ops ops.size s k = true) (hne : s ≠ k) (h : C0 w) : Sw s C0 C1 (Listed.but L k) w := by
  unfold Sw Listed.but; rw [if_neg (by rw [if_neg hne, hG.open_ s ha]; simp)]; exact h
theorem Sw.here (hG : Gone ops L s) (h : Sw s C0 C1 L w) : C0 w := by unfold Sw at h; rwa [if_neg (by rw [hG.self]; simp)] at h
theorem Sw.turn (h : C1 w) : Sw s C0 C1 (Listed.but L s) w := by unfold Sw Listed.but; rw [if_pos (if_pos rfl)]; exact h
theorem Sw.after (hG : Gone ops L k) (ha : ahead .any ops ops.size k s = true) (h : Sw s C0 C1 L w) : C1 w := by unfold Sw at h; rwa [if_pos (hG.done s ha)] at h
theorem Sw.on (hG : Gone ops L k) (ha : ahead .any ops ops.size k s = true) (h : C1 w) : Sw s C0 C1 (Listed.but L k) w := by
  unfold Sw Listed.but; rw [if_pos (by rw [hG.done s ha]; simp)]; exact h
theorem Sw.both (hne : s ≠ k) (h0 : C0 w → C0 w') (h1 : C1 w → C1 w') (h : Sw s C0 C1 L w) : Sw s C0 C1 (Listed.but L k) w' := by
  unfold Sw Listed.but at *
  rw [if_neg hne]
  split at h
  · rename_i e; rw [if_pos e]; exact h1 h
  · rename_i e; rw [if_neg e]; exact h0 h
theorem Sw.done (hL : ∀ j, j < ops.size → L j = true) (hs : s < ops.size) (h : Sw s C0 C1 L w) : C1 w := by unfold Sw at h; rwa [if_pos (hL s hs)] at h
end
end Go.Proofs.YtchkjiadnackaaaDoor

/- The facts law with its facts the other way round: cheap look-ups. -/
namespace Go.Proofs.YtchkjiadnackaaaDoor
open Go.RowKit

section
variable {P : Program} {ops : Array Oper} {Q : Exit → Act → World → Prop}
/-- The same walk, the facts' list the other way round (its look-ups stay cheap). -/
def wpFactsR (P : Program) (ops : Array Oper) (Q : Exit → Act → World → Prop) (C : (Nat → Bool) → World → Prop) (T : Nat → World → World → Prop) (fr : (Nat → Value) → Act) : Nat → List Oper → List FactN → Prop
  | k, [], Rs => ∀ vs L w, (∀ j, j < ops.size → L j = true) → C L w → (∀ (j : Nat) (R : FactN), R.Br = [] → Rs[k - 1 - j]? = some R → j < k → R.at vs j w) → Q .normal (fr vs) w
  | k, o :: l, Rs => ∃ R : FactN, R.fine ops k ∧ R.firm ops T k ∧
    (∀ vs L w, Gone ops L k → C L w → (∀ (j : Nat) (R' : FactN), ahead .any ops ops.size k j = true → R'.live ops k = true → Rs[k - 1 - j]? = some R' → j < k → R'.at vs j w) → ∀ K : Act → World → Prop, (∀ a' v w', a' = (fr vs).put o.dst v → R.R (vs R.D) v w' → C (Listed.but L k) w' → T k w w' → K a' w') →
      if Region.wanted o (yielded ops (fr vs).tmps) = true then o.wp P (fr vs) w K Q else K ((fr vs).put o.dst undef) w) ∧
    wpFactsR P ops Q C T fr (k + 1) l (R :: Rs)
theorem rev_look {Rs : List FactN} {k j : Nat} {R : FactN} (hk : Rs.length = k) (h : Rs[k - 1 - j]? = some R) (hj : j < k) : Rs.reverse[j]? = some R := by
  rw [List.getElem?_reverse (by omega), hk]; exact h
theorem wpFactsR_N {C : (Nat → Bool) → World → Prop} {T : Nat → World → World → Prop} {fr : (Nat → Value) → Act} : ∀ (l : List Oper) (k : Nat) (Rs : List FactN), Rs.length = k → wpFactsR P ops Q C T fr k l Rs → wpFactsN P ops Q C T fr k l Rs.reverse
  | [], _, _, hk, h => fun vs L w hL hC hB => h vs L w hL hC fun j R hb hR hj => hB j R hb (rev_look hk hR hj)
  | _ :: l, k, Rs, hk, ⟨R, h1, h2, h3, h4⟩ => ⟨R, h1, h2, fun vs L w hG hC hB K hK => h3 vs L w hG hC (fun j R' ha hv hR hj => hB j R' ha hv (rev_look hk hR hj)) K hK, by
      have := wpFactsR_N l (k + 1) (R :: Rs) (by simp [hk]) h4
      rwa [List.reverse_cons] at this⟩
theorem wp_region_factsR {id : Nat} {a : Act} {w : World} {l : List Oper} (C : (Nat → Bool) → World → Prop) (T : Nat → World → World → Prop) (hm : P.follows .mixedOrders = true) (hap : dstsApart l = true) (hdn : edgesDown .any l.toArray = true)
    (hC : C (fun _ => false) w.drew) (h : wpFactsR P l.toArray Q C T (fun vs => fillOps vs l 0 a) 0 l []) : (Code.region id l.toArray true).wp P Q a w :=
  wp_region_factsN C T hm hap hdn hC (wpFactsR_N l 0 [] rfl h)
theorem wpFactsR_nil {C : (Nat → Bool) → World → Prop} {T : Nat → World → World → Prop} {fr : (Nat → Value) → Act} {k : Nat} {Rs : List FactN} (h : ∀ vs L w, (∀ j, j < ops.size → L j = true) → C L w → (∀ (j : Nat) (R : FactN), R.Br = [] → Rs[k - 1 - j]? = some R → j < k → R.at vs j w) → Q .normal (fr vs) w) : wpFactsR P ops Q C T fr k [] Rs := h
theorem wpFactsR_val {C : (Nat → Bool) → World → Prop} {T : Nat → World → World → Prop} {fr : (Nat → Value) → Act} {k : Nat} {o : Oper} {l : List Oper} {Rs : List FactN} (V : Value)
    (h1 : ∀ vs L w, Gone ops L k → C L w → (∀ (j : Nat) (R' : FactN), ahead .any ops ops.size k j = true → R'.live ops k = true → Rs[k - 1 - j]? = some R' → j < k → R'.at vs j w) → ∀ K : Act → World → Prop, (∀ a' w', a' = (fr vs).put o.dst V → C (Listed.but L k) w' → T k w w' → K a' w') →
      if Region.wanted o (yielded ops (fr vs).tmps) = true then o.wp P (fr vs) w K Q else K ((fr vs).put o.dst undef) w)
    (h2 : wpFactsR P ops Q C T fr (k + 1) l (⟨0, fun _ v _ => v = V, []⟩ :: Rs)) : wpFactsR P ops Q C T fr k (o :: l) Rs :=
  ⟨⟨0, fun _ v _ => v = V, []⟩, .inl (fun _ _ _ _ h => h), fun _ _ _ _ _ _ _ _ h _ => h, fun vs L w hG hC hB K hK => h1 vs L w hG hC hB K fun a' w' ha hC' hT => hK a' V w' ha rfl hC' hT, h2⟩
theorem wpFactsR_some {C : (Nat → Bool) → World → Prop} {T : Nat → World → World → Prop} {fr : (Nat → Value) → Act} {k : Nat} {o : Oper} {l : List Oper} {Rs : List FactN} (Br : List Nat) (R : Value → World → Prop) (hR : ∀ i, i ≠ k → i ∉ Br → ahead .any ops ops.size k i = false → ∀ v w w', R v w → T i w w' → R v w')
    (h1 : ∀ vs L w, Gone ops L k → C L w → (∀ (j : Nat) (R' : FactN), ahead .any ops ops.size k j = true → R'.live ops k = true → Rs[k - 1 - j]? = some R' → j < k → R'.at vs j w) → ∀ K : Act → World → Prop, (∀ a' v w', a' = (fr vs).put o.dst v → R v w' → C (Listed.but L k) w' → T k w w' → K a' w') →
      if Region.wanted o (yielded ops (fr vs).tmps) = true then o.wp P (fr vs) w K Q else K ((fr vs).put o.dst undef) w)
    (h2 : wpFactsR P ops Q C T fr (k + 1) l (⟨0, fun _ v w => R v w, Br⟩ :: Rs)) : wpFactsR P ops Q C T fr k (o :: l) Rs :=
  ⟨⟨0, fun _ v w => R v w, Br⟩, .inl (fun _ _ _ _ h => h), fun i hi hb ha _ v w w' h t => hR i hi hb ha v w w' h t, h1, h2⟩
theorem wpFactsR_pair {C : (Nat → Bool) → World → Prop} {T : Nat → World → World → Prop} {fr : (Nat → Value) → Act} {k : Nat} {o : Oper} {l : List Oper} {Rs : List FactN} (Br : List Nat) (D : Nat) (R : Value → Value → World → Prop) (hD : ahead .any ops ops.size k D = true) (hR : ∀ i, i ≠ k → i ∉ Br → ahead .any ops ops.size k i = false → ∀ u v w w', R u v w → T i w w' → R u v w')
    (h1 : ∀ vs L w, Gone ops L k → C L w → (∀ (j : Nat) (R' : FactN), ahead .any ops ops.size k j = true → R'.live ops k = true → Rs[k - 1 - j]? = some R' → j < k → R'.at vs j w) → ∀ K : Act → World → Prop, (∀ a' v w', a' = (fr vs).put o.dst v → R (vs D) v w' → C (Listed.but L k) w' → T k w w' → K a' w') →
      if Region.wanted o (yielded ops (fr vs).tmps) = true then o.wp P (fr vs) w K Q else K ((fr vs).put o.dst undef) w)
    (h2 : wpFactsR P ops Q C T fr (k + 1) l (⟨D, R, Br⟩ :: Rs)) : wpFactsR P ops Q C T fr k (o :: l) Rs :=
  ⟨⟨D, R, Br⟩, .inr hD, hR, h1, h2⟩
end
end Go.Proofs.YtchkjiadnackaaaDoor
