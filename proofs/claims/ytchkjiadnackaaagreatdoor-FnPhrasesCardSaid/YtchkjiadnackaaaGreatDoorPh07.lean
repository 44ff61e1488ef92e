/- Ph07: the texts ParseI ParseS, joined into one file. -/
import Derived.Deep.DeepCutAuto
import Derived.Test.YtchkjiadnackaaaGreatDoorPh01
import Derived.Test.YtchkjiadnackaaaGreatDoorPh02
import Derived.Test.YtchkjiadnackaaaGreatDoorPh05
import Derived.Test.YtchkjiadnackaaaGreatDoorPh06

set_option linter.unusedVariables false

/- The program reads a phrase. (Printed by gen_parsei.py) -/
namespace Go.Proofs.YtchkjiadnackaaaGreatDoor
open Go.RowKit

theorem bel_grow {B g : Nat} {w w1 w2 : World} (h : Below B w w1) (hg : w1.grownBy w2 (some g)) (hB : B ≤ g) (hs : B ≤ w.heap.size) : Below B w w2 :=
  ⟨hg.os.trans h.os, hg.tape.trans h.tape, hg.output.trans h.output, Nat.le_trans h.size hg.size, fun k hk => (hg.block k (by have := h.size; omega) (by intro e; injection e; omega)).trans (h.block k hk)⟩
/-- A phrase while it is read: block g7 holds it; block B waits for the result. -/
structure PRd (w wx : World) (g7 : Nat) (x : Ph) (v : Value) : Prop where
  bl : Below w.heap.size w wx
  lw : LW w
  out : Lies wx w.heap.size 26 [.int .i64 0, .int .i64 0, .slice none 0 0, .int .i64 0]
  now : Lies wx g7 26 [.int .i64 x.s, .int .i64 x.c, v, .int .i64 x.p]
  row : wx.ownsRow w.heap.size 3 1 v x.f.length (encIs x.f)
  hg : w.heap.size < g7
section
variable {w wx wy : World} {g7 : Nat} {x y : Ph} {v u : Value}
theorem PRd.now_lw (S : PRd w wx g7 x v) : LW wx := S.lw.then S.bl
theorem PRd.below (S : PRd w wx g7 x v) (hb : Below wx.heap.size wx wy) : PRd w wy g7 x v :=
  ⟨bthen S.bl hb, S.lw, S.out.below hb S.out.lt, S.now.below hb S.now.lt, ownsRow_below S.row hb, S.hg⟩
/-- The phrase's block is written. -/
theorem PRd.push {u : Value} {n : Int} (S : PRd w wx g7 x v) (ho : wy.ownsRow w.heap.size 3 1 u (x.f.length + 1) (encIs x.f ++ [.int .i64 n])) (hg : wx.grownBy wy v.ownBlock) (hb : Below w.heap.size wx wy) (hs : y.s = x.s) (hc : y.c = x.c) (hp : y.p = x.p) (hf : y.f = x.f ++ [n]) :
    PRd w (wy.setCell ⟨g7, 2, none⟩ u) g7 y u := by
  have K := S.now.kept hg (ownsRow_far S.row S.now ne_int_ph)
  have gw : wy.grownBy (wy.setCell ⟨g7, 2, none⟩ u) (some g7) := grown_set (World.grownBy.refl _ _)
  have hrow : wy.ownsRow w.heap.size 3 1 u y.f.length (encIs y.f) := by rw [hf]; simpa using ho
  refine ⟨bel_grow (S.bl.trans hb) gw (Nat.le_of_lt S.hg) (Nat.le_refl _), S.lw, (S.out.kept hg (ownsRow_far S.row S.out ne_int_ph)).kept gw (by intro e; injection e with e; have := S.hg; omega), by rw [hs, hc, hp]; exact K.set 2 u, ?_, S.hg⟩
  refine hrow.kept gw ?_
  cases hv : u.ownBlock with
  | none => exact .inl rfl
  | some b => exact .inr (by rw [← hv]; exact fun e => ownsRow_far hrow K ne_int_ph e.symm)
theorem PRd.put (S : PRd w wx g7 x v) (hg : wx.grownBy wy (some g7)) (hL : Lies wy g7 26 [.int .i64 y.s, .int .i64 y.c, v, .int .i64 y.p]) (hf : y.f = x.f) : PRd w wy g7 y v :=
  ⟨bel_grow S.bl hg (Nat.le_of_lt S.hg) (Nat.le_refl _), S.lw, S.out.kept hg (by intro e; injection e with e; have := S.hg; omega), hL, by
    rw [hf]
    refine S.row.kept hg ?_
    cases hv : v.ownBlock with
    | none => exact .inl rfl
    | some b => exact .inr (by rw [← hv]; exact fun e => ownsRow_far S.row S.now ne_int_ph e.symm), S.hg⟩
end

theorem implD_is {s hd pr t st co : List UInt8} {ps : List (List UInt8)} {more many : Bool} {price cop : Int} {ix : Int} {fs : List Int} {A : Option Addr} {cc : Nat}
    (h1 : hd = bef 61 s) (h2 : pr = s.drop ((bef 61 s).length + 1)) (h3 : hasB s 61 = more) (h4 : (if more = true then numD pr else 0) = price) (h5 : splitL 33 hd = ps) (h6 : ps.headD [] = t)
    (h7 : st = bef 40 t) (h8 : co = t.drop ((bef 40 t).length + 1)) (h9 : hasB t 40 = many) (h10 : (if many = true then numD (Lib.trimSuffix co [41]) else 1) = cop) (h11 : 1 + ix = stateD st) (h12 : fs = ps.tail.map numD) :
    implD s = Ph.ph { s := 1 + ix, c := cop, f := fs, p := price, A := A, cap := cc } := by
  have e1 : (if (61 : UInt8) ∈ s then numD (aft 61 s) else 0) = price := by
    rw [← h4]; unfold aft; rw [← h2]
    cases more
    · rw [if_neg (hasB_false.1 h3)]; rfl
    · rw [if_pos (hasB_true.1 h3)]; rfl
  have e2 : (if (40 : UInt8) ∈ t then numD (Lib.trimSuffix (aft 40 t) [41]) else 1) = cop := by
    rw [← h10]; unfold aft; rw [← h8]
    cases many
    · rw [if_neg (hasB_false.1 h9)]; rfl
    · rw [if_pos (hasB_true.1 h9)]; rfl
  unfold implD Ph.ph
  simp only
  rw [← h1, h5, h6, ← h7, e1, e2, h11, h12]
theorem str_eq {x : ByteArray} {l : List UInt8} : ((⟨l.toArray⟩ : ByteArray) = x) ↔ bl x = l := by
  constructor
  · rintro rfl; exact bl_mk l
  · intro h; exact (bl_ext h).symm
theorem state_idx (st : ByteArray) : 1 + Lib.idxOfS (([⟨#[42, 42]⟩, ⟨#[42]⟩, ⟨#[111]⟩] : List ByteArray).take 3) st = stateD (bl st) := by
  have h1 : ((⟨#[42, 42]⟩ : ByteArray) = st) ↔ bl st = [42, 42] := str_eq (l := [42, 42])
  have h2 : ((⟨#[42]⟩ : ByteArray) = st) ↔ bl st = [42] := str_eq (l := [42])
  have h3 : ((⟨#[111]⟩ : ByteArray) = st) ↔ bl st = [111] := str_eq (l := [111])
  simp only [List.take, Lib.idxOfS, Lib.idxFromS, h1, h2, h3]
  unfold stateD
  split
  · rfl
  · split
    · rfl
    · split <;> rfl
theorem state_bound (t : List UInt8) : 0 ≤ stateD t ∧ stateD t ≤ 3 := by unfold stateD; split; omega; split; omega; split <;> omega

set_option maxRecDepth 100000 in
set_option maxHeartbeats 8000000 in
set_option linter.unusedVariables false in
theorem parsePhrase_any (s : ByteArray) (w : World) (hs : s.size ≤ 2000000) (hL : LW w) :
    Calls Tryz.prog 27 #[.string s] w fun e w' => ∃ (x : Ph) (ok : Bool), e = .returned (.tuple #[x.val, .bool ok]) ∧ readOf (bl s) = (x.ph, ok) ∧ OwnS w' w.heap.size 3 1 x.A x.f.length (encIs x.f) ∧ Below w.heap.size w w' := by
  have L2 := Lies.new w 26 #[.int .i64 0, .int .i64 0, .slice none 0 0, .int .i64 0]
  have b2 := (Below.refl w.heap.size w).alloc (Nat.le_refl _) (.cells #[.int .i64 0, .int .i64 0, .slice none 0 0, .int .i64 0] 26)
  have hw2 : (w.alloc (.cells #[.int .i64 0, .int .i64 0, .slice none 0 0, .int .i64 0] 26)).heap.size = w.heap.size + 1 := by simp
  have HC := Lib.hid (cut_any s 61 (w.alloc (.cells #[.int .i64 0, .int .i64 0, .slice none 0 0, .int .i64 0] 26)) (by omega))
  have hb1 := bl_cutL s 61
  have hb2 := bl_cutR s 61
  obtain ⟨hd, hhd⟩ : ∃ x, cutL s 61 = x := ⟨_, rfl⟩
  obtain ⟨pr, hpr⟩ : ∃ x, cutR s 61 = x := ⟨_, rfl⟩
  rw [hhd] at HC hb1
  rw [hpr] at HC hb2
  obtain ⟨more, hmore⟩ : ∃ b, hasB (bl s) 61 = b := ⟨_, rfl⟩
  rw [hmore] at HC
  have hzh : hd.size ≤ 2000000 := by rw [← bl_size, hb1]; have := bef_len 61 (bl s); rw [bl_size] at this; omega
  have hzp : pr.size ≤ 2000000 := by rw [← bl_size, hb2, List.length_drop, bl_size]; omega
  have HB1 := Lib.hid hb1
  have HB2 := Lib.hid hb2
  have HM := Lib.hid hmore
  clear hb1 hb2 hmore hhd hpr
  go_enter Tryz.func27, Tryz.ntmps27
  go_wp2_with fail
  refine HC.out.mono ?_
  rintro e w3 ⟨rfl, hb3⟩
  have L3 := L2.below hb3 L2.lt
  have b3 := bthen b2 hb3
  have L7 := Lies.new w3 26 #[.int .i64 0, .int .i64 1, .slice none 0 0, .int .i64 0]
  have S7 : PRd w (w3.alloc (.cells #[.int .i64 0, .int .i64 1, .slice none 0 0, .int .i64 0] 26)) w3.heap.size { s := 0, c := 1, f := [], p := 0, A := none, cap := 0 } (.slice none 0 0) :=
    ⟨b3.alloc (by have := b3.size; omega) _, hL, L3.alloc _, L7, World.ownsRow_nil _ _ _ _, by have := hb3.size; omega⟩
  clear L2 b2 hw2 HC hb3 L3 b3 L7
  go_upto_if 23 with fail
  generalize w3.alloc (.cells #[.int .i64 0, .int .i64 1, .slice none 0 0, .int .i64 0] 26) = W7 at S7 ⊢
  generalize w3.heap.size = g7 at S7 ⊢
  go_cut [] (fun wx => PRd w wx g7 { s := 0, c := 1, f := [], p := if more = true then numD (bl pr) else 0, A := none, cap := 0 } (.slice none 0 0))
  case first =>
    cases more
    · have HS := Lib.hid S7
      clear S7
      go_wp2_with fail
      go_meet
      case rel => exact HS.out
    · have hlw := S7.now_lw
      go_wp2_with fail
      refine (parseInt_any pr W7 (by omega) hlw).mono ?_
      rintro e w4 ⟨rfl, hb4⟩
      have S4 := S7.below hb4
      clear S7 hb4 hlw
      have K := S4.now
      have d0 := K.cell 0
      have d1 := K.cell 1
      have d2 := K.cell 2
      have d3 := K.cell 3
      simp only [List.getElem?_cons_zero, List.getElem?_cons_succ] at d0 d1 d2 d3
      have fd0 := K.frozen 0
      have fd1 := K.frozen 1
      have fd2 := K.frozen 2
      have fd3 := K.frozen 3
      have gw : w4.grownBy (w4.setCell ⟨g7, 3, none⟩ (.int .i64 (numD (bl pr)))) (some g7) := grown_set (World.grownBy.refl _ _)
      have kw := K.set 3 (.int .i64 (numD (bl pr)))
      have HS := Lib.hid (S4.put (y := { s := 0, c := 1, f := [], p := numD (bl pr), A := none, cap := 0 }) gw kw rfl)
      clear gw kw K
      go_wp2_with fail
      go_meet
      case rel => exact HS.out
  case rest =>
    generalize hprice : (if more = true then numD (bl pr) else 0) = price at hcut
    have HPR := Lib.hid hprice
    clear S7 hprice
    have HSP := Lib.hid (split_any hd 33 wc (by omega) hcut.now_lw)
    obtain ⟨ps, hps⟩ : ∃ l, splitL 33 (bl hd) = l := ⟨_, rfl⟩
    rw [hps] at HSP
    have hpl : 1 ≤ ps.length ∧ ps.length ≤ 2000001 := by
      rw [← hps]
      have h1 := parts_len 33 (bl hd) []
      have h2 := parts_ne 33 (bl hd) []
      rw [bl_size] at h1
      unfold splitL
      have h3 : 0 < (partsL 33 [] (bl hd)).length := List.length_pos_iff.2 h2
      omega
    have hpt : ∀ t ∈ ps, t.length ≤ 2000000 := fun t ht => by
      have h1 := parts_mem (b := 33) (t := t) (bl hd) [] (by rw [← hps] at ht; exact ht)
      rw [bl_size] at h1; simp at h1; omega
    have HPS := Lib.hid hps
    have HPT := Lib.hid hpt
    clear hps hpt
    obtain ⟨hp1, hp2⟩ := hpl
    go_wp2_with fail
    refine HSP.out.mono ?_
    rintro e w5 ⟨rfl, L8, hb5⟩
    have S5 := hcut.below hb5
    have h78 : g7 < wc.heap.size := hcut.now.lt
    clear hcut hb5 HSP
    generalize wc.heap.size = g8 at L8 h78 ⊢
    go_upto_region 6 with fail
    go_cut [33, 34, 35] (fun s33 s34 s35 wx => (∃ o, s33 = .slice (some ⟨g8, o, none⟩) (ps.length - 1) (ps.length - 1) ∧ (o = 1 ∨ ps.length = 1)) ∧ s34 = .int .i64 ((ps.length - 1 : Nat) : Int) ∧ s35 = .int .i64 0 ∧ wx = w5)
    case first =>
      by_cases h1 : ps.length = 1
      · have HS5 := Lib.hid S5
        clear S5
        go_wp2_with fail
        go_meet
        case rel => exact ⟨⟨0, by rw [h1], .inr h1⟩, by rw [h1]; rfl, rfl, rfl⟩
      · have j1 : (1 : Int) < (ps.length : Int) := by omega
        have HS5 := Lib.hid S5
        clear S5
        go_wp2_with fail
        go_meet
        case rel => exact ⟨⟨1, rfl, .inl rfl⟩, rfl, rfl, rfl⟩
    case rest =>
      obtain ⟨⟨o, rfl, ho⟩, rfl, rfl, rfl⟩ := hcut
      have HL8 := Lib.hid L8
      have HS5 := Lib.hid S5
      have HO := Lib.hid ho
      clear S5 L8 ho
      go_wp2_with fail
      go_loopw [10, 11, 12, 35] (fun _ _ _ i wr => ∃ (k : Nat) (fs : List Int) (v : Value), k ≤ ps.length - 1 ∧ i = .int .i64 k ∧ fs.length = k ∧ Hid (PRd w wr g7 { s := 0, c := 1, f := fs, p := price, A := none, cap := 0 } v) ∧ Hid (Lies wr g8 9 (texts ps)) ∧ Hid (fs = (ps.tail.take k).map numD)) (fun _ _ _ i _ => ps.length - (intOf i).toNat)
      case atStart => exact ⟨0, [], _, Nat.zero_le _, rfl, rfl, HS5, HL8, by simp [Hid]⟩
      case round =>
        clear HS5 HL8
        obtain ⟨k, fs, v, hk, rfl, hfl, HS, HL, HF⟩ := hrel
        have HFL := Lib.hid hfl
        have hfl2 : fs.length ≤ 2000001 := by omega
        clear hfl
        by_cases hlt : k < ps.length - 1
        · obtain rfl : o = 1 := by have := HO.out; omega
          have hlt2 : (k : Int) < ((ps.length - 1 : Nat) : Int) := by omega
          have c0 : wr.cell? ⟨g8, 1 + k, none⟩ = some (.string ⟨(ps[k + 1]'(by omega)).toArray⟩) := by
            rw [HL.out.cell, Nat.add_comm 1 k]; exact texts_at ps (k + 1) (by omega)
          have ht := HPT.out (ps[k + 1]'(by omega)) (List.getElem_mem _)
          obtain ⟨t, hte⟩ : ∃ t : ByteArray, t = ⟨(ps[k + 1]'(by omega)).toArray⟩ := ⟨_, rfl⟩
          have hbt : bl t = ps[k + 1]'(by omega) := by rw [hte, bl_mk]
          rw [← hte] at c0
          have hzt : t.size ≤ 2000000 := by rw [← bl_size, hbt]; exact ht
          have HST : Hid (fs ++ [numD (bl t)] = (ps.tail.take (k + 1)).map numD) := by
            have h1 : ps.tail[k]? = some (bl t) := by rw [List.getElem?_tail, List.getElem?_eq_getElem (by omega), hbt]
            have h2 : ps.tail.take (k + 1) = ps.tail.take k ++ [bl t] := by rw [List.take_add_one, h1]; rfl
            rw [h2, List.map_append, ← HF.out]; rfl
          have hlw := HS.out.now_lw
          clear hte hbt ht HF hlt
          go_wp2_with fail
          refine (parseInt_any t wr (by omega) hlw).mono ?_
          rintro e w6 ⟨rfl, hb6⟩
          have S6 := HS.out.below hb6
          have HL6 := Lib.hid (HL.out.below hb6 HL.out.lt)
          have K6 := S6.now
          have d0 := K6.cell 0
          have d1 := K6.cell 1
          have d2 := K6.cell 2
          have d3 := K6.cell 3
          simp only [List.getElem?_cons_zero, List.getElem?_cons_succ] at d0 d1 d2 d3
          have fd0 := K6.frozen 0
          have fd1 := K6.frozen 1
          have fd2 := K6.frozen 2
          have fd3 := K6.frozen 3
          have HR := Lib.hid S6.row
          have hz6 : w.heap.size ≤ w6.heap.size := S6.bl.size
          have HS6 := Lib.hid S6
          clear HS HL c0 hlw S6 K6
          go_wp2_with (at_builtin; refine wpList_push (w0 := w6) rfl _ _ 24 rfl 3 (.int .i64 0) 1 8 Tryz.underlying24 infoI rfl (by omega) (by omega) w.heap.size _ _ _ rfl HR #[.int .i64 (numD (bl t))] 1 _ rfl (by first | rfl | exact Array.size_push _) rfl (by simp [Value.oneCell']) (by omega) hz6 rfl rfl rfl rfl ?_; intro v7 w7 HO7 hg7 hb7; obtain ⟨A7, c7, hv7⟩ := ownsRow_slice HO7.out; subst hv7; have K7 := HS6.out.now.kept hg7 (ownsRow_far HR.out HS6.out.now ne_int_ph); have e2 := K7.cell 2; have fe2 := K7.frozen 2; simp only [List.getElem?_cons_zero, List.getElem?_cons_succ] at e2)
          have HS7 := Lib.hid (HS6.out.push (y := { s := 0, c := 1, f := fs ++ [numD (bl t)], p := price, A := none, cap := 0 }) (n := numD (bl t)) HO7.out hg7 hb7 rfl rfl rfl rfl)
          have HL7 : Hid (Lies (w7.setCell ⟨g7, 2, none⟩ (.slice A7 (fs.length + 1) c7)) g8 9 (texts ps)) :=
            (HL6.out.kept hg7 (ownsRow_far HR.out HL6.out (by decide))).kept (grown_set (g := g7) (World.grownBy.refl _ _)) (by intro e; injection e; omega)
          clear HS6 HL6 HO7 hg7 hb7 K7 HR d0 d1 d2 d3 fd0 fd1 fd2 fd3 e2 fe2
          go_roundw
          case rel => exact ⟨k + 1, fs ++ [numD (bl t)], _, by omega, by go_num, by have := HFL.out; simp; omega, HS7, HL7, HST⟩
          case measure => simp [intOf] <;> omega
        · have hlt2 : ¬ (k : Int) < ((ps.length - 1 : Nat) : Int) := by omega
          have HFF : Hid (fs = ps.tail.map numD) := by
            have h1 := HF.out
            rw [List.take_of_length_le (by rw [List.length_tail]; omega)] at h1; exact h1
          have c0 : wr.cell? ⟨g8, 0, none⟩ = some (.string ⟨(ps[0]'(by omega)).toArray⟩) := by
            rw [HL.out.cell]; exact texts_at ps 0 (by omega)
          have ht := HPT.out (ps[0]'(by omega)) (List.getElem_mem _)
          obtain ⟨t, hte⟩ : ∃ t : ByteArray, t = ⟨(ps[0]'(by omega)).toArray⟩ := ⟨_, rfl⟩
          have hbt : bl t = ps[0]'(by omega) := by rw [hte, bl_mk]
          rw [← hte] at c0
          have hzt : t.size ≤ 2000000 := by rw [← bl_size, hbt]; exact ht
          have HP0 : Hid (ps.headD [] = bl t) := by
            rw [hbt]; cases ps with
            | nil => simp at hp1
            | cons a l => rfl
          have HC2 := Lib.hid (fun W => cut_any t 40 W (by omega))
          have hb1 := bl_cutL t 40
          have hb2 := bl_cutR t 40
          obtain ⟨st, hst⟩ : ∃ x, cutL t 40 = x := ⟨_, rfl⟩
          obtain ⟨co, hco⟩ : ∃ x, cutR t 40 = x := ⟨_, rfl⟩
          rw [hst] at HC2 hb1
          rw [hco] at HC2 hb2
          obtain ⟨many, hmany⟩ : ∃ b, hasB (bl t) 40 = b := ⟨_, rfl⟩
          rw [hmany] at HC2
          have hzs : st.size ≤ 2000000 := by rw [← bl_size, hb1]; have := bef_len 40 (bl t); rw [bl_size] at this; omega
          have hzc : co.size ≤ 2000000 := by rw [← bl_size, hb2, List.length_drop, bl_size]; omega
          have HB3 := Lib.hid hb1
          have HB4 := Lib.hid hb2
          have HM2 := Lib.hid hmany
          have hp0 : 0 < ps.length := hp1
          clear hb1 hb2 hmany hst hco hte hbt ht HF
          go_wp2_with fail
          refine (HC2.out _).mono ?_
          rintro e w6 ⟨rfl, hb6⟩
          have S6 := HS.out.below hb6
          clear HS HL c0 hb6 HC2
          go_upto_if 59 with fail
          go_cut [] (fun wx => PRd w wx g7 { s := 0, c := if many = true then numD (Lib.trimSuffix (bl co) [41]) else 1, f := fs, p := price, A := none, cap := 0 } v)
          case first =>
            cases many
            · have HS := Lib.hid S6
              clear S6
              go_wp2_with fail
              go_meet
              case rel => exact HS.out
            · have hlw := S6.now_lw
              go_wp2_with fail
              refine (Tryz.strings_TrimSuffix co ⟨#[41]⟩ w6 (by omega)).mono ?_
              rintro e w6 ⟨rfl, rfl⟩
              obtain ⟨tr, htr⟩ : ∃ x : ByteArray, x = ⟨(Lib.trimSuffix co.data.toList (ByteArray.mk #[41]).data.toList).toArray⟩ := ⟨_, rfl⟩
              have hbtr : bl tr = Lib.trimSuffix (bl co) [41] := by rw [htr, bl_mk]; rfl
              rw [← htr]
              have hztr : tr.size ≤ 2000000 := by
                rw [← bl_size, hbtr]; unfold Lib.trimSuffix; split
                · rw [List.length_take, bl_size]; omega
                · rw [bl_size]; exact hzc
              clear htr
              go_wp2_with fail
              refine (parseInt_any tr w6 (by omega) hlw).mono ?_
              rintro e w4 ⟨rfl, hb4⟩
              have S4 := S6.below hb4
              clear S6 hb4 hlw
              have K := S4.now
              have d0 := K.cell 0
              have d1 := K.cell 1
              have d2 := K.cell 2
              have d3 := K.cell 3
              simp only [List.getElem?_cons_zero, List.getElem?_cons_succ] at d0 d1 d2 d3
              have fd0 := K.frozen 0
              have fd1 := K.frozen 1
              have fd2 := K.frozen 2
              have fd3 := K.frozen 3
              have gw : w4.grownBy (w4.setCell ⟨g7, 1, none⟩ (.int .i64 (numD (bl tr)))) (some g7) := grown_set (World.grownBy.refl _ _)
              have kw := K.set 1 (.int .i64 (numD (bl tr)))
              have HS := Lib.hid (S4.put (y := { s := 0, c := numD (bl tr), f := fs, p := price, A := none, cap := 0 }) gw kw rfl)
              clear gw kw K
              have HBT := Lib.hid hbtr
              clear hbtr
              go_wp2_with fail
              go_meet
              case rel => rw [← HBT.out]; exact HS.out
          case rest =>
            generalize hcop : (if many = true then numD (Lib.trimSuffix (bl co) [41]) else 1) = cop at hcut
            have HCOP := Lib.hid hcop
            clear S6 hcop
            have L9 := Lies.new wc 9 #[.string ⟨#[42, 42]⟩, .string ⟨#[42]⟩, .string ⟨#[111]⟩]
            have S9 := hcut.below ((Below.refl wc.heap.size wc).alloc (Nat.le_refl _) (.cells #[.string ⟨#[42, 42]⟩, .string ⟨#[42]⟩, .string ⟨#[111]⟩] 9))
            have hg9 : g7 < wc.heap.size := hcut.now.lt
            clear hcut
            go_wp2_with fail
            generalize wc.alloc (.cells #[.string ⟨#[42, 42]⟩, .string ⟨#[42]⟩, .string ⟨#[111]⟩] 9) = W9 at L9 S9 ⊢
            generalize wc.heap.size = g9 at L9 hg9 ⊢
            refine (Tryz.slices_Index_string g9 0 3 3 [⟨#[42, 42]⟩, ⟨#[42]⟩, ⟨#[111]⟩] st W9 (by simp) (by omega) (fun j hj => by
              rw [Nat.zero_add, L9.cell]
              have : j = 0 ∨ j = 1 ∨ j = 2 := by simp at hj; omega
              rcases this with rfl | rfl | rfl <;> rfl)).mono ?_
            rintro e W9 ⟨rfl, rfl⟩
            have hidx : 1 + Lib.idxOfS (([⟨#[42, 42]⟩, ⟨#[42]⟩, ⟨#[111]⟩] : List ByteArray).take 3) st = stateD (bl st) := state_idx st
            obtain ⟨ix, hix⟩ : ∃ z, Lib.idxOfS (([⟨#[42, 42]⟩, ⟨#[42]⟩, ⟨#[111]⟩] : List ByteArray).take 3) st = z := ⟨_, rfl⟩
            rw [hix] at hidx ⊢
            have hsb := state_bound (bl st)
            have hw1 : IntKind.i64.wrap (1 + ix) = 1 + ix := IntWalk.i64_in _ (by omega)
            have HIX := Lib.hid hidx
            clear hidx hix L9
            have K := S9.now
            have d0 := K.cell 0
            have d1 := K.cell 1
            have d2 := K.cell 2
            have d3 := K.cell 3
            simp only [List.getElem?_cons_zero, List.getElem?_cons_succ] at d0 d1 d2 d3
            have fd0 := K.frozen 0
            have fd1 := K.frozen 1
            have fd2 := K.frozen 2
            have fd3 := K.frozen 3
            have gw : W9.grownBy (W9.setCell ⟨g7, 0, none⟩ (.int .i64 (1 + ix))) (some g7) := grown_set (World.grownBy.refl _ _)
            have kw := K.set 0 (.int .i64 (1 + ix))
            have HS := Lib.hid (S9.put (y := { s := 1 + ix, c := cop, f := fs, p := price, A := none, cap := 0 }) gw kw rfl)
            clear gw kw K
            go_upto_region 16 with fail
            generalize W9.setCell ⟨g7, 0, none⟩ (.int .i64 (1 + ix)) = W10 at HS ⊢
            obtain ⟨A, cc, hv⟩ := ownsRow_slice HS.out.row
            subst hv
            obtain ⟨X, hX⟩ : ∃ X : Ph, X = { s := 1 + ix, c := cop, f := fs, p := price, A := A, cap := cc } := ⟨_, rfl⟩
            have HPD : Hid (implD (bl s) = X.ph) := by
              rw [hX]
              exact implD_is HB1.out HB2.out HM.out HPR.out HPS.out HP0.out HB3.out HB4.out HM2.out HCOP.out HIX.out HFF.out
            have S : PRd w W10 g7 X (.slice X.A X.f.length X.cap) := by rw [hX]; exact ⟨HS.out.bl, HS.out.lw, HS.out.out, HS.out.now, HS.out.row, HS.out.hg⟩
            have HXR : Hid (IntsR W10 W10.heap.size X.A X.f) := (OwnS.of S.row).reads
            have HIS := Lib.hid (isPhrase_any X W10 HXR.out)
            clear d0 d1 d2 d3 fd0 fd1 fd2 fd3
            have K := S.now
            have d0 := K.cell 0
            have d1 := K.cell 1
            have d2 := K.cell 2
            have d3 := K.cell 3
            simp only [List.getElem?_cons_zero, List.getElem?_cons_succ] at d0 d1 d2 d3
            have fd0 := K.frozen 0
            have fd1 := K.frozen 1
            have fd2 := K.frozen 2
            have fd3 := K.frozen 3
            have HSX := Lib.hid S
            clear HS K S hX HPR HPS HP0 HB3 HB4 HM2 HCOP HIX HFF HB1 HB2 HM hw1 hsb
            cases hok : X.ok with
            | false =>
              have HOK := Lib.hid hok
              have HRD : Hid (readOf (bl s) = ((0, 0, [], 0), false)) := by
                unfold readOf Hid
                rw [readD_impl, HPD.out, if_neg (by rw [← ok_okD, HOK.out]; simp)]
              rw [hok] at HIS
              clear hok
              go_wp2_with fail
              refine HIS.out.mono ?_
              rintro e W11 ⟨rfl, hb11⟩
              have S11 := HSX.out.below hb11
              clear d0 d1 d2 d3 fd0 fd1 fd2 fd3
              have K2 := S11.out
              have K7 := S11.now
              have a0 := K2.cell 0
              have a1 := K2.cell 1
              have a2 := K2.cell 2
              have a3 := K2.cell 3
              simp only [List.getElem?_cons_zero, List.getElem?_cons_succ] at a0 a1 a2 a3
              have d0 := K7.cell 0
              have d1 := K7.cell 1
              have d2 := K7.cell 2
              have d3 := K7.cell 3
              simp only [List.getElem?_cons_zero, List.getElem?_cons_succ] at d0 d1 d2 d3
              have fa0 := K2.frozen 0
              have fa1 := K2.frozen 1
              have fa2 := K2.frozen 2
              have fa3 := K2.frozen 3
              obtain ⟨W20, hW20⟩ : ∃ W20, ((((W11.setCell ⟨w.heap.size, 0, none⟩ (.int .i64 0)).setCell ⟨w.heap.size, 1, none⟩ (.int .i64 0)).setCell ⟨w.heap.size, 2, none⟩ (.slice none 0 0)).setCell ⟨w.heap.size, 3, none⟩ (.int .i64 0)) = W20 := ⟨_, rfl⟩
              have gw : W11.grownBy ((((W11.setCell ⟨w.heap.size, 0, none⟩ (.int .i64 0)).setCell ⟨w.heap.size, 1, none⟩ (.int .i64 0)).setCell ⟨w.heap.size, 2, none⟩ (.slice none 0 0)).setCell ⟨w.heap.size, 3, none⟩ (.int .i64 0)) (some w.heap.size) := (grown_set (g := w.heap.size) (i := 3) (u := .int .i64 0) (grown_set (g := w.heap.size) (i := 2) (u := .slice none 0 0) (grown_set (g := w.heap.size) (i := 1) (u := .int .i64 0) (grown_set (g := w.heap.size) (i := 0) (u := .int .i64 0) (World.grownBy.refl _ _)))))
              have kw : Lies ((((W11.setCell ⟨w.heap.size, 0, none⟩ (.int .i64 0)).setCell ⟨w.heap.size, 1, none⟩ (.int .i64 0)).setCell ⟨w.heap.size, 2, none⟩ (.slice none 0 0)).setCell ⟨w.heap.size, 3, none⟩ (.int .i64 0)) w.heap.size 26 [.int .i64 0, .int .i64 0, .slice none 0 0, .int .i64 0] := K2.set 0 (.int .i64 0) |>.set 1 (.int .i64 0) |>.set 2 (.slice none 0 0) |>.set 3 (.int .i64 0)
              have BB := Lib.hid (bel_grow S11.bl gw (Nat.le_refl _) (Nat.le_refl _))
              have OO : Hid (OwnS ((((W11.setCell ⟨w.heap.size, 0, none⟩ (.int .i64 0)).setCell ⟨w.heap.size, 1, none⟩ (.int .i64 0)).setCell ⟨w.heap.size, 2, none⟩ (.slice none 0 0)).setCell ⟨w.heap.size, 3, none⟩ (.int .i64 0)) w.heap.size 3 1 none 0 []) := ⟨rfl, by simp, .inl ⟨rfl, rfl⟩⟩
              rw [hW20] at kw BB OO
              have HW20 := Lib.hid hW20
              have HK := Lib.hid kw
              clear gw kw hW20 K2 K7 S11
              repeat (first | go_values | go_skip | go_guarded | go_step | go_upon | simp only [])
              rw [HW20.out]
              have LS := HK.out
              have x0 := LS.cell 0
              have x1 := LS.cell 1
              have x2 := LS.cell 2
              have x3 := LS.cell 3
              simp only [List.getElem?_cons_zero, List.getElem?_cons_succ] at x0 x1 x2 x3
              refine bodyPost_ret (v := .tuple #[.agg #[.int .i64 0, .int .i64 0, .slice none 0 0, .int .i64 0], .bool false]) (by simp [results, Tryz.results27, go_sem, x0, x1, x2, x3]) rfl ?_
              exact ⟨{ s := 0, c := 0, f := [], p := 0, A := none, cap := 0 }, false, rfl, HRD.out, OO.out, BB.out⟩
            | true =>
              have HOK := Lib.hid hok
              rw [hok] at HIS
              clear hok
              have HSH := Lib.hid (fun W (h : IntsR W W.heap.size X.A X.f) (ht : Tab W) => shortText_any X W h HOK.out ht)
              have hzx : (shortT X).length ≤ 31 := (short_len (x := X.ph) HOK.out).2
              obtain ⟨sx, hsx⟩ : ∃ x : ByteArray, x = ⟨(shortT X).toArray⟩ := ⟨_, rfl⟩
              have hbx : bl sx = shortD X.ph := by rw [hsx, bl_mk]; rfl
              rw [← hsx] at HSH
              clear hsx
              have HEQ : Hid ((sx.toList == s.toList) = decide (shortD X.ph = bl s)) := by rw [str_beqL, hbx]; rfl
              clear hbx hzx
              by_cases hq : shortD X.ph = bl s
              · have heq : (sx.toList == s.toList) = true := by rw [HEQ.out]; exact decide_eq_true hq
                have HRD : Hid (readOf (bl s) = (X.ph, true)) := by
                  unfold readOf Hid
                  rw [readD_impl, HPD.out, if_pos ⟨HOK.out, hq⟩]
                clear hq HEQ
                go_wp2_with fail
                refine HIS.out.mono ?_
                rintro e W11 ⟨rfl, hb11⟩
                have S11 := HSX.out.below hb11
                clear d0 d1 d2 d3 fd0 fd1 fd2 fd3
                have K := S11.now
                have d0 := K.cell 0
                have d1 := K.cell 1
                have d2 := K.cell 2
                have d3 := K.cell 3
                simp only [List.getElem?_cons_zero, List.getElem?_cons_succ] at d0 d1 d2 d3
                have fd0 := K.frozen 0
                have fd1 := K.frozen 1
                have fd2 := K.frozen 2
                have fd3 := K.frozen 3
                have HXR2 := Lib.hid (SlcR.below HXR.out hb11 |>.mono hb11.size)
                have hlw := S11.now_lw
                have HS11 := Lib.hid S11
                clear HSX HXR S11 K hb11
                go_wp2_with fail
                refine (HSH.out _ HXR2.out hlw.tab).mono ?_
                rintro e W12 ⟨rfl, hb12⟩
                have S12 := HS11.out.below hb12
                clear HS11 HXR2 hlw hb12 d0 d1 d2 d3 fd0 fd1 fd2 fd3
                have K2 := S12.out
                have K7 := S12.now
                have a0 := K2.cell 0
                have a1 := K2.cell 1
                have a2 := K2.cell 2
                have a3 := K2.cell 3
                simp only [List.getElem?_cons_zero, List.getElem?_cons_succ] at a0 a1 a2 a3
                have d0 := K7.cell 0
                have d1 := K7.cell 1
                have d2 := K7.cell 2
                have d3 := K7.cell 3
                simp only [List.getElem?_cons_zero, List.getElem?_cons_succ] at d0 d1 d2 d3
                have fa0 := K2.frozen 0
                have fa1 := K2.frozen 1
                have fa2 := K2.frozen 2
                have fa3 := K2.frozen 3
                obtain ⟨W20, hW20⟩ : ∃ W20, ((((W12.setCell ⟨w.heap.size, 0, none⟩ (.int .i64 X.s)).setCell ⟨w.heap.size, 1, none⟩ (.int .i64 X.c)).setCell ⟨w.heap.size, 2, none⟩ (.slice X.A X.f.length X.cap)).setCell ⟨w.heap.size, 3, none⟩ (.int .i64 X.p)) = W20 := ⟨_, rfl⟩
                have gw : W12.grownBy ((((W12.setCell ⟨w.heap.size, 0, none⟩ (.int .i64 X.s)).setCell ⟨w.heap.size, 1, none⟩ (.int .i64 X.c)).setCell ⟨w.heap.size, 2, none⟩ (.slice X.A X.f.length X.cap)).setCell ⟨w.heap.size, 3, none⟩ (.int .i64 X.p)) (some w.heap.size) := (grown_set (g := w.heap.size) (i := 3) (u := .int .i64 X.p) (grown_set (g := w.heap.size) (i := 2) (u := .slice X.A X.f.length X.cap) (grown_set (g := w.heap.size) (i := 1) (u := .int .i64 X.c) (grown_set (g := w.heap.size) (i := 0) (u := .int .i64 X.s) (World.grownBy.refl _ _)))))
                have kw : Lies ((((W12.setCell ⟨w.heap.size, 0, none⟩ (.int .i64 X.s)).setCell ⟨w.heap.size, 1, none⟩ (.int .i64 X.c)).setCell ⟨w.heap.size, 2, none⟩ (.slice X.A X.f.length X.cap)).setCell ⟨w.heap.size, 3, none⟩ (.int .i64 X.p)) w.heap.size 26 [.int .i64 X.s, .int .i64 X.c, .slice X.A X.f.length X.cap, .int .i64 X.p] := K2.set 0 (.int .i64 X.s) |>.set 1 (.int .i64 X.c) |>.set 2 (.slice X.A X.f.length X.cap) |>.set 3 (.int .i64 X.p)
                have BB := Lib.hid (bel_grow S12.bl gw (Nat.le_refl _) (Nat.le_refl _))
                have OO : Hid (OwnS ((((W12.setCell ⟨w.heap.size, 0, none⟩ (.int .i64 X.s)).setCell ⟨w.heap.size, 1, none⟩ (.int .i64 X.c)).setCell ⟨w.heap.size, 2, none⟩ (.slice X.A X.f.length X.cap)).setCell ⟨w.heap.size, 3, none⟩ (.int .i64 X.p)) w.heap.size 3 1 X.A X.f.length (encIs X.f)) := (OwnS.of S12.row).ne gw ((OwnS.of S12.row).off S12.out ne_int_ph)
                rw [hW20] at kw BB OO
                have HW20 := Lib.hid hW20
                have HK := Lib.hid kw
                clear gw kw hW20 K2 K7 S12
                repeat (first | go_values | go_skip | go_guarded | go_step | go_upon | simp only [])
                rw [HW20.out]
                have LS := HK.out
                have x0 := LS.cell 0
                have x1 := LS.cell 1
                have x2 := LS.cell 2
                have x3 := LS.cell 3
                simp only [List.getElem?_cons_zero, List.getElem?_cons_succ] at x0 x1 x2 x3
                refine bodyPost_ret (v := .tuple #[.agg #[.int .i64 X.s, .int .i64 X.c, .slice X.A X.f.length X.cap, .int .i64 X.p], .bool true]) (by simp [results, Tryz.results27, go_sem, x0, x1, x2, x3]) rfl ?_
                exact ⟨X, true, rfl, HRD.out, OO.out, BB.out⟩
              · have heq : (sx.toList == s.toList) = false := by rw [HEQ.out]; exact decide_eq_false hq
                have HRD : Hid (readOf (bl s) = ((0, 0, [], 0), false)) := by
                  unfold readOf Hid
                  rw [readD_impl, HPD.out, if_neg (fun h => hq h.2)]
                clear hq HEQ
                go_wp2_with fail
                refine HIS.out.mono ?_
                rintro e W11 ⟨rfl, hb11⟩
                have S11 := HSX.out.below hb11
                clear d0 d1 d2 d3 fd0 fd1 fd2 fd3
                have K := S11.now
                have d0 := K.cell 0
                have d1 := K.cell 1
                have d2 := K.cell 2
                have d3 := K.cell 3
                simp only [List.getElem?_cons_zero, List.getElem?_cons_succ] at d0 d1 d2 d3
                have fd0 := K.frozen 0
                have fd1 := K.frozen 1
                have fd2 := K.frozen 2
                have fd3 := K.frozen 3
                have HXR2 := Lib.hid (SlcR.below HXR.out hb11 |>.mono hb11.size)
                have hlw := S11.now_lw
                have HS11 := Lib.hid S11
                clear HSX HXR S11 K hb11
                go_wp2_with fail
                refine (HSH.out _ HXR2.out hlw.tab).mono ?_
                rintro e W12 ⟨rfl, hb12⟩
                have S12 := HS11.out.below hb12
                clear HS11 HXR2 hlw hb12 d0 d1 d2 d3 fd0 fd1 fd2 fd3
                have K2 := S12.out
                have K7 := S12.now
                have a0 := K2.cell 0
                have a1 := K2.cell 1
                have a2 := K2.cell 2
                have a3 := K2.cell 3
                simp only [List.getElem?_cons_zero, List.getElem?_cons_succ] at a0 a1 a2 a3
                have d0 := K7.cell 0
                have d1 := K7.cell 1
                have d2 := K7.cell 2
                have d3 := K7.cell 3
                simp only [List.getElem?_cons_zero, List.getElem?_cons_succ] at d0 d1 d2 d3
                have fa0 := K2.frozen 0
                have fa1 := K2.frozen 1
                have fa2 := K2.frozen 2
                have fa3 := K2.frozen 3
                obtain ⟨W20, hW20⟩ : ∃ W20, ((((W12.setCell ⟨w.heap.size, 0, none⟩ (.int .i64 0)).setCell ⟨w.heap.size, 1, none⟩ (.int .i64 0)).setCell ⟨w.heap.size, 2, none⟩ (.slice none 0 0)).setCell ⟨w.heap.size, 3, none⟩ (.int .i64 0)) = W20 := ⟨_, rfl⟩
                have gw : W12.grownBy ((((W12.setCell ⟨w.heap.size, 0, none⟩ (.int .i64 0)).setCell ⟨w.heap.size, 1, none⟩ (.int .i64 0)).setCell ⟨w.heap.size, 2, none⟩ (.slice none 0 0)).setCell ⟨w.heap.size, 3, none⟩ (.int .i64 0)) (some w.heap.size) := (grown_set (g := w.heap.size) (i := 3) (u := .int .i64 0) (grown_set (g := w.heap.size) (i := 2) (u := .slice none 0 0) (grown_set (g := w.heap.size) (i := 1) (u := .int .i64 0) (grown_set (g := w.heap.size) (i := 0) (u := .int .i64 0) (World.grownBy.refl _ _)))))
                have kw : Lies ((((W12.setCell ⟨w.heap.size, 0, none⟩ (.int .i64 0)).setCell ⟨w.heap.size, 1, none⟩ (.int .i64 0)).setCell ⟨w.heap.size, 2, none⟩ (.slice none 0 0)).setCell ⟨w.heap.size, 3, none⟩ (.int .i64 0)) w.heap.size 26 [.int .i64 0, .int .i64 0, .slice none 0 0, .int .i64 0] := K2.set 0 (.int .i64 0) |>.set 1 (.int .i64 0) |>.set 2 (.slice none 0 0) |>.set 3 (.int .i64 0)
                have BB := Lib.hid (bel_grow S12.bl gw (Nat.le_refl _) (Nat.le_refl _))
                have OO : Hid (OwnS ((((W12.setCell ⟨w.heap.size, 0, none⟩ (.int .i64 0)).setCell ⟨w.heap.size, 1, none⟩ (.int .i64 0)).setCell ⟨w.heap.size, 2, none⟩ (.slice none 0 0)).setCell ⟨w.heap.size, 3, none⟩ (.int .i64 0)) w.heap.size 3 1 none 0 []) := ⟨rfl, by simp, .inl ⟨rfl, rfl⟩⟩
                rw [hW20] at kw BB OO
                have HW20 := Lib.hid hW20
                have HK := Lib.hid kw
                clear gw kw hW20 K2 K7 S12
                repeat (first | go_values | go_skip | go_guarded | go_step | go_upon | simp only [])
                rw [HW20.out]
                have LS := HK.out
                have x0 := LS.cell 0
                have x1 := LS.cell 1
                have x2 := LS.cell 2
                have x3 := LS.cell 3
                simp only [List.getElem?_cons_zero, List.getElem?_cons_succ] at x0 x1 x2 x3
                refine bodyPost_ret (v := .tuple #[.agg #[.int .i64 0, .int .i64 0, .slice none 0 0, .int .i64 0], .bool false]) (by simp [results, Tryz.results27, go_sem, x0, x1, x2, x3]) rfl ?_
                exact ⟨{ s := 0, c := 0, f := [], p := 0, A := none, cap := 0 }, false, rfl, HRD.out, OO.out, BB.out⟩
end Go.Proofs.YtchkjiadnackaaaGreatDoor

/- The reference reads a phrase. (Printed by gen_parses.py) -/
namespace Go.Proofs.YtchkjiadnackaaaGreatDoor
open Go.RowKit

theorem grownB {w w' : World} (h : Below w.heap.size w w') (row : Option Nat) : w.grownBy w' row := ⟨h.os, h.tape, h.output, h.size, fun k hk _ => h.block k hk⟩
theorem specD_is {s t0 u0 z : List UInt8} {ps fs hs : List (List UInt8)} {price sd sd2 cop : Int} {gs : List Int} {A : Option Addr} {cc n : Nat}
    (h1 : splitL 61 s = ps) (h2 : (if ps.length = 2 then numD (ps.getD 1 []) else 0) = price) (h3 : ps.headD [] = t0) (h4 : splitL 33 t0 = fs) (h5 : gs = fs.tail.map numD) (h6 : fs.headD [] = u0) (h7 : splitL 40 u0 = hs)
    (h8 : (if hs.headD [] = [42, 42] then (1 : Int) else 3) = sd) (h9 : (if hs.headD [] = [42] then (2 : Int) else sd) = sd2) (h10 : hs.getLastD [] = z) (hn : z.length = n) (h11 : (if hs.length = 2 ∧ 1 < n then numD (z.take (n - 1)) else 1) = cop) :
    specD s = Ph.ph { s := sd2, c := cop, f := gs, p := price, A := A, cap := cc } := by
  unfold specD Ph.ph
  simp only
  subst hn
  rw [h1, h3, h4, h6, h7, h10, h11, h2, ← h5, ← h9, ← h8]
/-- What reading gives, in the reference. -/
def GivesR (s : ByteArray) (w : World) (e : Ending) (w' : World) : Prop := ∃ (x : Ph) (ok : Bool), e = .returned (.tuple #[x.val, .bool ok]) ∧ (readD (bl s) = if ok = true then some x.ph else none) ∧ OwnS w' w.heap.size 3 1 x.A x.f.length (encIs x.f) ∧ Below w.heap.size w w'

set_option maxRecDepth 100000 in
set_option maxHeartbeats 8000000 in
set_option linter.unusedVariables false in
theorem l30Read_any (s : ByteArray) (w : World) (hs : s.size ≤ 2000000) (hL : LW w) :
    Calls Tryz.prog 32 #[.string s] w (GivesR s w) := by
  have L2 := (Lies.new w 26 #[.int .i64 0, .int .i64 0, .slice none 0 0, .int .i64 0]).alloc (.cells #[.int .i64 3, .int .i64 1, .slice none 0 0, .int .i64 0] 26)
  have L4 := Lies.new1 w (.cells #[.int .i64 0, .int .i64 0, .slice none 0 0, .int .i64 0] 26) 26 #[.int .i64 3, .int .i64 1, .slice none 0 0, .int .i64 0]
  have b2 := ((Below.refl w.heap.size w).alloc (Nat.le_refl _) (.cells #[.int .i64 0, .int .i64 0, .slice none 0 0, .int .i64 0] 26)).alloc (by simp) (.cells #[.int .i64 3, .int .i64 1, .slice none 0 0, .int .i64 0] 26)
  have S4 : PRd w ((w.alloc (.cells #[.int .i64 0, .int .i64 0, .slice none 0 0, .int .i64 0] 26)).alloc (.cells #[.int .i64 3, .int .i64 1, .slice none 0 0, .int .i64 0] 26)) (w.heap.size + 1) { s := 3, c := 1, f := [], p := 0, A := none, cap := 0 } (.slice none 0 0) :=
    ⟨b2, hL, L2, L4, World.ownsRow_nil _ _ _ _, by omega⟩
  clear L2 L4 b2
  by_cases hlong : 40 < s.size
  · have hl1 : (40 : Int) < (s.size : Int) := by omega
    have HRD : Hid (readD (bl s) = none) := readD_long (by rw [bl_size]; omega)
    go_enter Tryz.func32, Tryz.ntmps32
    go_upto_region 3 with fail
    generalize ((w.alloc (.cells #[.int .i64 0, .int .i64 0, .slice none 0 0, .int .i64 0] 26)).alloc (.cells #[.int .i64 3, .int .i64 1, .slice none 0 0, .int .i64 0] 26)) = W4 at S4 ⊢
    generalize w.heap.size + 1 = g4 at S4 ⊢
    have K2 := S4.out
    have K7 := S4.now
    have a0 := K2.cell 0
    have a1 := K2.cell 1
    have a2 := K2.cell 2
    have a3 := K2.cell 3
    simp only [List.getElem?_cons_zero, List.getElem?_cons_succ] at a0 a1 a2 a3
    have d0 := K7.cell 0
    have d1 := K7.cell 1
    have d2 := K7.cell 2
    have d3 := K7.cell 3
    simp only [List.getElem?_cons_zero, List.getElem?_cons_succ] at d0 d1 d2 d3
    have fa0 := K2.frozen 0
    have fa1 := K2.frozen 1
    have fa2 := K2.frozen 2
    have fa3 := K2.frozen 3
    obtain ⟨W20, hW20⟩ : ∃ W20, ((((W4.setCell ⟨w.heap.size, 0, none⟩ (.int .i64 3)).setCell ⟨w.heap.size, 1, none⟩ (.int .i64 1)).setCell ⟨w.heap.size, 2, none⟩ (.slice none 0 0)).setCell ⟨w.heap.size, 3, none⟩ (.int .i64 0)) = W20 := ⟨_, rfl⟩
    have gw : W4.grownBy ((((W4.setCell ⟨w.heap.size, 0, none⟩ (.int .i64 3)).setCell ⟨w.heap.size, 1, none⟩ (.int .i64 1)).setCell ⟨w.heap.size, 2, none⟩ (.slice none 0 0)).setCell ⟨w.heap.size, 3, none⟩ (.int .i64 0)) (some w.heap.size) := (grown_set (g := w.heap.size) (i := 3) (u := .int .i64 0) (grown_set (g := w.heap.size) (i := 2) (u := .slice none 0 0) (grown_set (g := w.heap.size) (i := 1) (u := .int .i64 1) (grown_set (g := w.heap.size) (i := 0) (u := .int .i64 3) (World.grownBy.refl _ _)))))
    have kw : Lies ((((W4.setCell ⟨w.heap.size, 0, none⟩ (.int .i64 3)).setCell ⟨w.heap.size, 1, none⟩ (.int .i64 1)).setCell ⟨w.heap.size, 2, none⟩ (.slice none 0 0)).setCell ⟨w.heap.size, 3, none⟩ (.int .i64 0)) w.heap.size 26 [.int .i64 3, .int .i64 1, .slice none 0 0, .int .i64 0] := K2.set 0 (.int .i64 3) |>.set 1 (.int .i64 1) |>.set 2 (.slice none 0 0) |>.set 3 (.int .i64 0)
    have BB := Lib.hid (bel_grow S4.bl gw (Nat.le_refl _) (Nat.le_refl _))
    rw [hW20] at kw BB
    have HW20 := Lib.hid hW20
    have HK := Lib.hid kw
    clear gw kw hW20 K2 K7 S4
    repeat (first | go_values | go_skip | go_guarded | go_step | go_upon | simp only [])
    rw [HW20.out]
    have LS := HK.out
    have x0 := LS.cell 0
    have x1 := LS.cell 1
    have x2 := LS.cell 2
    have x3 := LS.cell 3
    simp only [List.getElem?_cons_zero, List.getElem?_cons_succ] at x0 x1 x2 x3
    refine bodyPost_ret (v := .tuple #[.agg #[.int .i64 3, .int .i64 1, .slice none 0 0, .int .i64 0], .bool false]) (by simp [results, Tryz.results32, go_sem, x0, x1, x2, x3]) rfl ?_
    exact ⟨{ s := 3, c := 1, f := [], p := 0, A := none, cap := 0 }, false, rfl, HRD.out, ⟨rfl, by simp, .inl ⟨rfl, rfl⟩⟩, BB.out⟩
  · have hl1 : ¬ (40 : Int) < (s.size : Int) := by omega
    have hs40 : s.size ≤ 40 := by omega
    clear hlong
    have HSP := Lib.hid (fun W => l1Split_lies s 61 W (by omega))
    obtain ⟨ps, hps⟩ : ∃ l, splitL 61 (bl s) = l := ⟨_, rfl⟩
    have hpc := parts_count (b := 61) (n := 40) (by rw [bl_size]; exact hs40)
    have hpm := parts_short (b := 61) (n := 40) (by rw [bl_size]; exact hs40)
    rw [hps] at HSP hpc hpm
    have HPS := Lib.hid hps
    have Hps := Lib.hid hpm
    clear hps hpm
    obtain ⟨hp1, hp2⟩ := hpc
    go_enter Tryz.func32, Tryz.ntmps32
    go_upto_region 4 with fail
    generalize ((w.alloc (.cells #[.int .i64 0, .int .i64 0, .slice none 0 0, .int .i64 0] 26)).alloc (.cells #[.int .i64 3, .int .i64 1, .slice none 0 0, .int .i64 0] 26)) = W4 at S4 ⊢
    generalize w.heap.size + 1 = g4 at S4 ⊢
    have h4lt : g4 < W4.heap.size := S4.now.lt
    go_wp2_with fail
    refine (HSP.out W4).mono ?_
    rintro e w5 ⟨g5, c5, rest5, rfl, L5, hg5, hb5⟩
    have S5 := S4.below hb5
    have h45 : g4 < g5 := by omega
    clear S4 hb5 HSP h4lt hg5
    go_upto_region 5 with fail
    -- the price
    go_cut [21] (fun s21 wx => (∃ b : Bool, s21 = .bool b ∧ Hid (b = decide (ps.length = 2))) ∧ w5 = wx)
    case first =>
      have HS5 := Lib.hid S5
      clear S5
      by_cases h2 : ps.length = 2
      · have e2 : ((ps.length : Int) == 2) = true := by simp; omega
        go_wp2_with fail
        go_meet
        case rel => exact ⟨⟨true, rfl, by simp [h2, Hid]⟩, rfl⟩
      · have e2 : ((ps.length : Int) == 2) = false := by rw [beq_eq_false_iff_ne]; omega
        go_wp2_with fail
        go_meet
        case rel => exact ⟨⟨false, rfl, by simp [h2, Hid]⟩, rfl⟩
    case rest =>
      obtain ⟨⟨b2, rfl, hb2⟩, rfl⟩ := hcut
      go_upto_if 21 with fail
      go_cut [] (fun wx => PRd w wx g4 { s := 3, c := 1, f := [], p := if ps.length = 2 then numD (ps.getD 1 []) else 0, A := none, cap := 0 } (.slice none 0 0) ∧ Lies wx g5 9 (texts ps ++ rest5))
      case first =>
        cases b2
        case true =>
          have h2 : ps.length = 2 := by simpa using hb2.out.symm
          have c0 : w5.cell? ⟨g5, 1, none⟩ = some (.string ⟨(ps[1]'(by omega)).toArray⟩) := by
            rw [L5.cell]; exact texts_at2 ps _ _ (by omega)
          have ht := Hps.out (ps[1]'(by omega)) (List.getElem_mem _)
          obtain ⟨t1, hte⟩ : ∃ t : ByteArray, t = ⟨(ps[1]'(by omega)).toArray⟩ := ⟨_, rfl⟩
          have hbt1 : bl t1 = ps[1]'(by omega) := by rw [hte, bl_mk]
          rw [← hte] at c0
          have hzt1 : t1.size ≤ 40 := by rw [← bl_size, hbt1]; exact ht
          clear hte ht
          have hgd : ps.getD 1 [] = bl t1 := by rw [hbt1, List.getD_eq_getElem?_getD, List.getElem?_eq_getElem (by omega)]; rfl
          have HR := Lib.hid (fun W => l1Read_any t1 W (by omega))
          have HGD := Lib.hid hgd
          have HS5 := Lib.hid S5
          have HL5 := Lib.hid L5
          have hi1 : (1 : Int) < (ps.length : Int) := by omega
          have H2 := Lib.hid h2
          clear S5 L5 hbt1 hgd h2 hb2
          go_wp2_with fail
          refine (HR.out _).mono ?_
          rintro e w6 ⟨rfl, hb6⟩
          have S6 := HS5.out.below hb6
          have L6 := HL5.out.below hb6 HL5.out.lt
          clear HS5 HL5 hb6 c0 HR
          have K := S6.now
          have d0 := K.cell 0
          have d1 := K.cell 1
          have d2 := K.cell 2
          have d3 := K.cell 3
          simp only [List.getElem?_cons_zero, List.getElem?_cons_succ] at d0 d1 d2 d3
          have fd0 := K.frozen 0
          have fd1 := K.frozen 1
          have fd2 := K.frozen 2
          have fd3 := K.frozen 3
          have gw : w6.grownBy (w6.setCell ⟨g4, 3, none⟩ (.int .i64 (numD (bl t1)))) (some g4) := grown_set (World.grownBy.refl _ _)
          have kw := K.set 3 (.int .i64 (numD (bl t1)))
          have HS := Lib.hid (S6.put (y := { s := 3, c := 1, f := [], p := numD (bl t1), A := none, cap := 0 }) gw kw rfl)
          clear gw kw K
          have HL := Lib.hid (L6.kept (grown_set (g := g4) (i := 3) (u := .int .i64 (numD (bl t1))) (World.grownBy.refl _ _)) (by intro e; injection e; omega))
          clear L6
          go_wp2_with fail
          go_meet
          case rel => exact ⟨by rw [if_pos H2.out, HGD.out]; exact HS.out, HL.out⟩
        case false =>
          have H2 : Hid (¬ ps.length = 2) := by have := hb2.out.symm; simp at this; exact this
          have HS5 := Lib.hid S5
          have HL5 := Lib.hid L5
          clear S5 L5
          go_wp2_with fail
          go_meet
          case rel => exact ⟨by rw [if_neg H2.out]; exact HS5.out, HL5.out⟩
      case rest =>
        clear S5 L5 hb2
        obtain ⟨S5, L5⟩ := hcut
        generalize hprice : (if ps.length = 2 then numD (ps.getD 1 []) else 0) = price at S5
        have HPR := Lib.hid hprice
        clear hprice
        -- the faults
        have c0 : wc.cell? ⟨g5, 0, none⟩ = some (.string ⟨(ps[0]'(by omega)).toArray⟩) := by
          rw [L5.cell]; exact texts_at2 ps _ _ (by omega)
        have ht := Hps.out (ps[0]'(by omega)) (List.getElem_mem _)
        obtain ⟨t0, hte⟩ : ∃ t : ByteArray, t = ⟨(ps[0]'(by omega)).toArray⟩ := ⟨_, rfl⟩
        have hbt0 : bl t0 = ps[0]'(by omega) := by rw [hte, bl_mk]
        rw [← hte] at c0
        have hzt0 : t0.size ≤ 40 := by rw [← bl_size, hbt0]; exact ht
        clear hte ht
        have HH1 : Hid (ps.headD [] = bl t0) := by rw [hbt0]; exact head_at hp1
        have HSP := Lib.hid (fun W => l1Split_lies t0 33 W (by omega))
        obtain ⟨fs, hfs⟩ : ∃ l, splitL 33 (bl t0) = l := ⟨_, rfl⟩
        have hfc := parts_count (b := 33) (n := 40) (s := bl t0) (by rw [bl_size]; exact hzt0)
        have hfm := parts_short (b := 33) (n := 40) (s := bl t0) (by rw [bl_size]; exact hzt0)
        rw [hfs] at HSP hfc hfm
        have HFS := Lib.hid hfs
        have Hfs := Lib.hid hfm
        obtain ⟨hf1, hf2⟩ := hfc
        have hi0 : (0 : Int) < (ps.length : Int) := by omega
        have h4lt : g4 < wc.heap.size := S5.now.lt
        clear hfs hfm hbt0 hp2
        go_wp2_with fail
        refine (HSP.out _).mono ?_
        rintro e w6 ⟨g6, c6, rest6, rfl, L6, hg6, hb6⟩
        have HS6 := Lib.hid (S5.below hb6)
        have HL6 := Lib.hid L6
        have h46 : g4 < g6 := by omega
        clear S5 L5 L6 hb6 HSP c0 h4lt hg6
        go_wp2_with fail
        go_loopw [7, 8, 9] (fun i _ _ wr => ∃ (k : Nat) (gs : List Int) (v : Value), k + 1 ≤ fs.length ∧ i = .int .i64 ((k + 1 : Nat) : Int) ∧ gs.length = k ∧ Hid (PRd w wr g4 { s := 3, c := 1, f := gs, p := price, A := none, cap := 0 } v) ∧ Hid (Lies wr g6 9 (texts fs ++ rest6)) ∧ Hid (gs = (fs.tail.take k).map numD)) (fun i _ _ _ => fs.length + 1 - (intOf i).toNat)
        case atStart => exact ⟨0, [], _, by omega, rfl, rfl, HS6, HL6, by simp [Hid]⟩
        case round =>
          clear HS6 HL6
          obtain ⟨k, gs, v, hk, rfl, hgl, HS, HL, HF⟩ := hrel
          have HGL := Lib.hid hgl
          have hgl2 : gs.length ≤ 41 := by omega
          clear hgl
          by_cases hlt : k + 1 < fs.length
          · have hlt2 : ((k + 1 : Nat) : Int) < (fs.length : Int) := by omega
            have L6 := HL.out
            have c0 : wr.cell? ⟨g6, k + 1, none⟩ = some (.string ⟨(fs[k + 1]'(by omega)).toArray⟩) := by
              rw [L6.cell]; exact texts_at2 fs _ _ (by omega)
            have ht := Hfs.out (fs[k + 1]'(by omega)) (List.getElem_mem _)
            obtain ⟨t, hte⟩ : ∃ t : ByteArray, t = ⟨(fs[k + 1]'(by omega)).toArray⟩ := ⟨_, rfl⟩
            have hbt : bl t = fs[k + 1]'(by omega) := by rw [hte, bl_mk]
            rw [← hte] at c0
            have hzt : t.size ≤ 40 := by rw [← bl_size, hbt]; exact ht
            clear hte ht
            have HST : Hid (gs ++ [numD (bl t)] = (fs.tail.take (k + 1)).map numD) := by
              have h1 : fs.tail[k]? = some (bl t) := by rw [List.getElem?_tail, List.getElem?_eq_getElem (by omega), hbt]
              have h2 : fs.tail.take (k + 1) = fs.tail.take k ++ [bl t] := by rw [List.take_add_one, h1]; rfl
              rw [h2, List.map_append, ← HF.out]; rfl
            have HR := Lib.hid (fun W => l1Read_any t W (by omega))
            clear hbt HF hlt L6
            go_wp2_with fail
            refine (HR.out _).mono ?_
            rintro e w7 ⟨rfl, hb7⟩
            have S7 := HS.out.below hb7
            have HL7 := Lib.hid (HL.out.below hb7 HL.out.lt)
            have K7 := S7.now
            have d0 := K7.cell 0
            have d1 := K7.cell 1
            have d2 := K7.cell 2
            have d3 := K7.cell 3
            simp only [List.getElem?_cons_zero, List.getElem?_cons_succ] at d0 d1 d2 d3
            have fd0 := K7.frozen 0
            have fd1 := K7.frozen 1
            have fd2 := K7.frozen 2
            have fd3 := K7.frozen 3
            have HRW := Lib.hid S7.row
            have hz7 : w.heap.size ≤ w7.heap.size := S7.bl.size
            have HS7 := Lib.hid S7
            clear HS HL c0 S7 K7 HR hb7
            go_wp2_with (at_builtin; refine wpList_push (w0 := w7) rfl _ _ 24 rfl 3 (.int .i64 0) 1 8 Tryz.underlying24 infoI rfl (by omega) (by omega) w.heap.size _ _ _ rfl HRW #[.int .i64 (numD (bl t))] 1 _ rfl (by first | rfl | exact Array.size_push _) rfl (by simp [Value.oneCell']) (by omega) hz7 rfl rfl rfl rfl ?_; intro v8 w8 HO8 hg8 hb8; obtain ⟨A8, c8, hv8⟩ := ownsRow_slice HO8.out; subst hv8; have K8 := HS7.out.now.kept hg8 (ownsRow_far HRW.out HS7.out.now ne_int_ph); have e2 := K8.cell 2; have fe2 := K8.frozen 2; simp only [List.getElem?_cons_zero, List.getElem?_cons_succ] at e2)
            have HS8 := Lib.hid (HS7.out.push (y := { s := 3, c := 1, f := gs ++ [numD (bl t)], p := price, A := none, cap := 0 }) (n := numD (bl t)) HO8.out hg8 hb8 rfl rfl rfl rfl)
            have HL8 : Hid (Lies (w8.setCell ⟨g4, 2, none⟩ (.slice A8 (gs.length + 1) c8)) g6 9 (texts fs ++ rest6)) :=
              (HL7.out.kept hg8 (ownsRow_far HRW.out HL7.out (by decide))).kept (grown_set (g := g4) (World.grownBy.refl _ _)) (by intro e; injection e; omega)
            clear HS7 HL7 HO8 hg8 hb8 K8 HRW d0 d1 d2 d3 fd0 fd1 fd2 fd3 e2 fe2
            go_roundw
            case rel => exact ⟨k + 1, gs ++ [numD (bl t)], _, by omega, by go_num, by have := HGL.out; simp; omega, HS8, HL8, HST⟩
            case measure => simp [intOf] <;> omega
          · have hlt2 : ¬ ((k + 1 : Nat) : Int) < (fs.length : Int) := by omega
            have HFF : Hid (gs = fs.tail.map numD) := by
              have h1 := HF.out
              rw [List.take_of_length_le (by rw [List.length_tail]; omega)] at h1; exact h1
            have L6 := HL.out
            have c0 : wr.cell? ⟨g6, 0, none⟩ = some (.string ⟨(fs[0]'(by omega)).toArray⟩) := by
              rw [L6.cell]; exact texts_at2 fs _ _ (by omega)
            have ht := Hfs.out (fs[0]'(by omega)) (List.getElem_mem _)
            obtain ⟨u0, hte⟩ : ∃ t : ByteArray, t = ⟨(fs[0]'(by omega)).toArray⟩ := ⟨_, rfl⟩
            have hbu0 : bl u0 = fs[0]'(by omega) := by rw [hte, bl_mk]
            rw [← hte] at c0
            have hzu0 : u0.size ≤ 40 := by rw [← bl_size, hbu0]; exact ht
            clear hte ht
            have HH2 : Hid (fs.headD [] = bl u0) := by rw [hbu0]; exact head_at hf1
            have HSP := Lib.hid (fun W => l1Split_lies u0 40 W (by omega))
            obtain ⟨hs2, hhs⟩ : ∃ l, splitL 40 (bl u0) = l := ⟨_, rfl⟩
            have hhc := parts_count (b := 40) (n := 40) (s := bl u0) (by rw [bl_size]; exact hzu0)
            have hhm := parts_short (b := 40) (n := 40) (s := bl u0) (by rw [bl_size]; exact hzu0)
            rw [hhs] at HSP hhc hhm
            have HHS := Lib.hid hhs
            have Hhs2 := Lib.hid hhm
            obtain ⟨hh1, hh2⟩ := hhc
            have hi3 : (0 : Int) < (fs.length : Int) := by omega
            have h4lt : g4 < wr.heap.size := HS.out.now.lt
            have HK := Lib.hid hk
            clear hhs hhm hbu0 HF hlt hgl2 HGL L6
            go_wp2_with fail
            refine (HSP.out _).mono ?_
            rintro e w7 ⟨g7, c7, rest7, rfl, L7, hg7, hb7⟩
            have S7 := HS.out.below hb7
            have h47 : g4 < g7 := by omega
            clear HS HL hb7 HSP c0 h4lt hg7
            -- the state
            obtain ⟨sd, hsd⟩ : ∃ z : Int, (if hs2.headD [] = [42, 42] then (1 : Int) else 3) = z := ⟨_, rfl⟩
            obtain ⟨sd2, hsd2⟩ : ∃ z : Int, (if hs2.headD [] = [42] then (2 : Int) else sd) = z := ⟨_, rfl⟩
            have HSD := Lib.hid hsd
            have HSD2 := Lib.hid hsd2
            clear hsd hsd2
            have c0 : w7.cell? ⟨g7, 0, none⟩ = some (.string ⟨(hs2[0]'(by omega)).toArray⟩) := by
              rw [L7.cell]; exact texts_at2 hs2 _ _ (by omega)
            have ht := Hhs2.out (hs2[0]'(by omega)) (List.getElem_mem _)
            obtain ⟨v0, hte⟩ : ∃ t : ByteArray, t = ⟨(hs2[0]'(by omega)).toArray⟩ := ⟨_, rfl⟩
            have hbv0 : bl v0 = hs2[0]'(by omega) := by rw [hte, bl_mk]
            rw [← hte] at c0
            have hzv0 : v0.size ≤ 40 := by rw [← bl_size, hbv0]; exact ht
            clear hte ht
            have HV := Lib.hid (head_at hh1)
            rw [← hbv0] at HV
            obtain ⟨q2, hq2⟩ : ∃ b : Bool, (v0.toList == [42, 42]) = b := ⟨_, rfl⟩
            obtain ⟨q1, hq1⟩ : ∃ b : Bool, (v0.toList == [42]) = b := ⟨_, rfl⟩
            have HQ2 : Hid (q2 = decide (hs2.headD [] = [42, 42])) := by rw [Hid, ← hq2, HV.out, beq_lit]
            have HQ1 : Hid (q1 = decide (hs2.headD [] = [42])) := by rw [Hid, ← hq1, HV.out, beq_lit]
            have HVS : Hid (Value.string ⟨(hs2[0]'(by omega)).toArray⟩ = Value.string v0) := by rw [Hid, ← hbv0]; exact congrArg Value.string (bl_ext rfl).symm
            clear hbv0
            have hi4 : (0 : Int) < (hs2.length : Int) := by omega
            go_upto_if 61 with fail
            go_cut [] (fun wx => PRd w wx g4 { s := sd, c := 1, f := gs, p := price, A := none, cap := 0 } v ∧ Lies wx g7 9 (texts hs2 ++ rest7))
            case first =>
              have HL7 := Lib.hid L7
              cases q2
              case true =>
                have K := S7.now
                have d0 := K.cell 0
                have d1 := K.cell 1
                have d2 := K.cell 2
                have d3 := K.cell 3
                simp only [List.getElem?_cons_zero, List.getElem?_cons_succ] at d0 d1 d2 d3
                have fd0 := K.frozen 0
                have fd1 := K.frozen 1
                have fd2 := K.frozen 2
                have fd3 := K.frozen 3
                have gw : w7.grownBy (w7.setCell ⟨g4, 0, none⟩ (.int .i64 1)) (some g4) := grown_set (World.grownBy.refl _ _)
                have kw := K.set 0 (.int .i64 1)
                have HS := Lib.hid (S7.put (y := { s := 1, c := 1, f := gs, p := price, A := none, cap := 0 }) gw kw rfl)
                clear gw kw K
                have HL := Lib.hid (HL7.out.kept (grown_set (g := g4) (i := 0) (u := .int .i64 1) (World.grownBy.refl _ _)) (by intro e; injection e; omega))
                have HE : Hid (hs2.headD [] = [42, 42]) := by have := HQ2.out.symm; simp only [decide_eq_true_eq] at this; exact this
                clear L7 S7 hq1 HQ2
                go_wp2_with fail
                go_meet
                case rel => exact ⟨by rw [← HSD.out, if_pos HE.out]; exact HS.out, HL.out⟩
              case false =>
                have HS := Lib.hid S7
                have HE : Hid (¬ hs2.headD [] = [42, 42]) := by have := HQ2.out.symm; simp only [decide_eq_false_iff_not] at this; exact this
                clear L7 S7 hq1 HQ2
                go_wp2_with fail
                go_meet
                case rel => exact ⟨by rw [← HSD.out, if_neg HE.out]; exact HS.out, HL7.out⟩
            case rest =>
              clear S7 L7 c0
              obtain ⟨S7, L7⟩ := hcut
              have c0 : wc.cell? ⟨g7, 0, none⟩ = some (.string v0) := by
                rw [L7.cell]; exact (texts_at2 hs2 _ 0 (by omega)).trans (congrArg some HVS.out)
              go_upto_if 66 with fail
              go_cut [] (fun wx => PRd w wx g4 { s := sd2, c := 1, f := gs, p := price, A := none, cap := 0 } v ∧ Lies wx g7 9 (texts hs2 ++ rest7))
              case first =>
                have HL7 := Lib.hid L7
                cases q1
                case true =>
                  have K := S7.now
                  have d0 := K.cell 0
                  have d1 := K.cell 1
                  have d2 := K.cell 2
                  have d3 := K.cell 3
                  simp only [List.getElem?_cons_zero, List.getElem?_cons_succ] at d0 d1 d2 d3
                  have fd0 := K.frozen 0
                  have fd1 := K.frozen 1
                  have fd2 := K.frozen 2
                  have fd3 := K.frozen 3
                  have gw : wc.grownBy (wc.setCell ⟨g4, 0, none⟩ (.int .i64 2)) (some g4) := grown_set (World.grownBy.refl _ _)
                  have kw := K.set 0 (.int .i64 2)
                  have HS := Lib.hid (S7.put (y := { s := 2, c := 1, f := gs, p := price, A := none, cap := 0 }) gw kw rfl)
                  clear gw kw K
                  have HL := Lib.hid (HL7.out.kept (grown_set (g := g4) (i := 0) (u := .int .i64 2) (World.grownBy.refl _ _)) (by intro e; injection e; omega))
                  have HE : Hid (hs2.headD [] = [42]) := by have := HQ1.out.symm; simp only [decide_eq_true_eq] at this; exact this
                  clear L7 S7 HQ1 hq2
                  go_wp2_with fail
                  go_meet
                  case rel => exact ⟨by rw [← HSD2.out, if_pos HE.out]; exact HS.out, HL.out⟩
                case false =>
                  have HS := Lib.hid S7
                  have HE : Hid (¬ hs2.headD [] = [42]) := by have := HQ1.out.symm; simp only [decide_eq_false_iff_not] at this; exact this
                  clear L7 S7 HQ1 hq2
                  go_wp2_with fail
                  go_meet
                  case rel => exact ⟨by rw [← HSD2.out, if_neg HE.out]; exact HS.out, HL7.out⟩
              case rest =>
                clear S7 L7 c0 hq1 hq2 HQ1 HQ2
                obtain ⟨S7, L7⟩ := hcut
                -- the copies
                have h0l : hs2.length - 1 < hs2.length := by omega
                have c0 : wc.cell? ⟨g7, hs2.length - 1, none⟩ = some (.string ⟨(hs2[hs2.length - 1]'h0l).toArray⟩) := by
                  rw [L7.cell]; exact texts_at2 hs2 _ _ h0l
                have ht := Hhs2.out (hs2[hs2.length - 1]'h0l) (List.getElem_mem _)
                obtain ⟨z1, hte⟩ : ∃ t : ByteArray, t = ⟨(hs2[hs2.length - 1]'h0l).toArray⟩ := ⟨_, rfl⟩
                have hbz1 : bl z1 = hs2[hs2.length - 1]'h0l := by rw [hte, bl_mk]
                rw [← hte] at c0
                have hzz1 : z1.size ≤ 40 := by rw [← bl_size, hbz1]; exact ht
                clear hte ht
                have HLA := Lib.hid (last_at hh1)
                rw [← hbz1] at HLA
                have hw9 : IntKind.i64.wrap ((hs2.length : Int) - 1) = ((hs2.length - 1 : Nat) : Int) := by rw [IntWalk.i64_in _ (by omega)]; omega
                have hi5 : ((hs2.length - 1 : Nat) : Int) < (hs2.length : Int) := by omega
                have hi6 : (0 : Int) ≤ ((hs2.length - 1 : Nat) : Int) := by omega
                have HVZ : Hid (hs2[hs2.length - 1]'h0l = bl z1) := hbz1.symm
                clear hbz1
                go_upto_region 19 with fail
                go_cut [81] (fun s81 wx => (∃ b : Bool, s81 = .bool b ∧ Hid (b = decide (hs2.length = 2 ∧ 1 < z1.size))) ∧ wc = wx)
                case first =>
                  have HS7 := Lib.hid S7
                  have HL7 := Lib.hid L7
                  clear S7 L7 c0
                  by_cases h2 : hs2.length = 2
                  · have e2 : ((hs2.length : Int) == 2) = true := by simp; omega
                    have H2 := Lib.hid h2
                    clear h2
                    by_cases hn1 : 1 < z1.size
                    · have e3 : (1 : Int) < (z1.size : Int) := by omega
                      have HN := Lib.hid hn1
                      go_wp2_with fail
                      go_meet
                      case rel => exact ⟨⟨true, rfl, by rw [Hid]; simp [H2.out, HN.out]⟩, rfl⟩
                    · have e3 : ¬ (1 : Int) < (z1.size : Int) := by omega
                      have HN := Lib.hid hn1
                      go_wp2_with fail
                      go_meet
                      case rel => exact ⟨⟨false, rfl, by rw [Hid]; simp [HN.out]⟩, rfl⟩
                  · have e2 : ((hs2.length : Int) == 2) = false := by rw [beq_eq_false_iff_ne]; omega
                    have H2 := Lib.hid h2
                    clear h2
                    go_wp2_with fail
                    go_meet
                    case rel => exact ⟨⟨false, rfl, by rw [Hid]; simp [H2.out]⟩, rfl⟩
                case rest =>
                  obtain ⟨⟨b3, rfl, hb3⟩, rfl⟩ := hcut
                  go_upto_if 81 with fail
                  go_cut [] (fun wx => PRd w wx g4 { s := sd2, c := if hs2.length = 2 ∧ 1 < z1.size then numD ((bl z1).take (z1.size - 1)) else 1, f := gs, p := price, A := none, cap := 0 } v)
                  case first =>
                    cases b3
                    case true =>
                      have h2 := hb3.out.symm
                      simp only [decide_eq_true_eq] at h2
                      obtain ⟨h2, hn1⟩ := h2
                      have c1 : wc.cell? ⟨g7, 1, none⟩ = some (.string z1) := by
                        rw [L7.cell]
                        refine (texts_at2 hs2 _ 1 (by omega)).trans (congrArg some ?_)
                        have e9 : hs2[1]'(by omega) = bl z1 := by rw [← HVZ.out]; congr 1; omega
                        rw [e9]; exact congrArg Value.string (bl_ext rfl).symm
                      have hi7 : (1 : Int) < (hs2.length : Int) := by omega
                      have hw8 : IntKind.i64.wrap ((z1.size : Int) - 1) = ((z1.size - 1 : Nat) : Int) := by rw [IntWalk.i64_in _ (by omega)]; omega
                      have hi8 : ((z1.size - 1 : Nat) : Int) ≤ (z1.size : Int) := by omega
                      have hi9 : (0 : Int) ≤ ((z1.size - 1 : Nat) : Int) := by omega
                      obtain ⟨z2, hz2⟩ : ∃ x, z1.extract 0 (z1.size - 1) = x := ⟨_, rfl⟩
                      have hbz2 : bl z2 = (bl z1).take (z1.size - 1) := by rw [← hz2, bl_extract]; simp
                      have hzz2 : z2.size ≤ 40 := by rw [← bl_size, hbz2, List.length_take, bl_size]; omega
                      have HR := Lib.hid (fun W => l1Read_any z2 W (by omega))
                      have HBZ := Lib.hid hbz2
                      have HN := Lib.hid (And.intro h2 hn1)
                      have HS7 := Lib.hid S7
                      clear S7 L7 c0 h2 hn1 hbz2 hb3
                      go_wp2_with fail
                      refine (HR.out _).mono ?_
                      rintro e w8 ⟨rfl, hb8⟩
                      have S8 := HS7.out.below hb8
                      clear HS7 hb8 c1 HR
                      have K := S8.now
                      have d0 := K.cell 0
                      have d1 := K.cell 1
                      have d2 := K.cell 2
                      have d3 := K.cell 3
                      simp only [List.getElem?_cons_zero, List.getElem?_cons_succ] at d0 d1 d2 d3
                      have fd0 := K.frozen 0
                      have fd1 := K.frozen 1
                      have fd2 := K.frozen 2
                      have fd3 := K.frozen 3
                      have gw : w8.grownBy (w8.setCell ⟨g4, 1, none⟩ (.int .i64 (numD (bl z2)))) (some g4) := grown_set (World.grownBy.refl _ _)
                      have kw := K.set 1 (.int .i64 (numD (bl z2)))
                      have HS := Lib.hid (S8.put (y := { s := sd2, c := numD (bl z2), f := gs, p := price, A := none, cap := 0 }) gw kw rfl)
                      clear gw kw K
                      go_wp2_with fail
                      go_meet
                      case rel => rw [if_pos HN.out, ← HBZ.out]; exact HS.out
                    case false =>
                      have HN : Hid (¬ (hs2.length = 2 ∧ 1 < z1.size)) := by have := hb3.out.symm; simp only [decide_eq_false_iff_not] at this; exact this
                      have HS7 := Lib.hid S7
                      clear S7 L7 c0 hb3
                      go_wp2_with fail
                      go_meet
                      case rel => rw [if_neg HN.out]; exact HS7.out
                  case rest =>
                    clear S7 L7 c0 hb3
                    generalize hcop : (if hs2.length = 2 ∧ 1 < z1.size then numD ((bl z1).take (z1.size - 1)) else 1) = cop at hcut
                    have HCOP := Lib.hid hcop
                    clear hcop
                    have S10 := hcut
                    obtain ⟨A, cc, hv⟩ := ownsRow_slice S10.row
                    subst hv
                    obtain ⟨X, hX⟩ : ∃ X : Ph, X = { s := sd2, c := cop, f := gs, p := price, A := A, cap := cc } := ⟨_, rfl⟩
                    have HPD : Hid (specD (bl s) = X.ph) := by
                      rw [hX]
                      exact specD_is HPS.out HPR.out HH1.out HFS.out HFF.out HH2.out HHS.out HSD.out HSD2.out HLA.out (bl_size z1) HCOP.out
                    have S : PRd w wc g4 X (.slice X.A X.f.length X.cap) := by rw [hX]; exact ⟨S10.bl, S10.lw, S10.out, S10.now, S10.row, S10.hg⟩
                    clear hcut S10 hX HPR HH1 HFS HFF HH2 HHS HSD HSD2 HLA HCOP HPS HVZ HV HVS Hps Hfs Hhs2
                    have HLW := Lib.hid S.now_lw
                    have HXR : Hid (IntsR wc wc.heap.size X.A X.f) := (OwnS.of S.row).reads
                    have K := S.now
                    have HSX := Lib.hid S
                    have hg24 : w.heap.size < g4 := S.hg
                    clear S
                    go_upto_region 21 with fail
                    cases hok : X.ok with
                    | false =>
                      have HRD : Hid (readD (bl s) = none) := by
                        rw [readD_spec, HPD.out, if_neg (by rw [← ok_okD, hok]; simp)]; rfl
                      refine wp_region_factsR (Sw 9 (fun W9 => Below wc.heap.size wc W9) (fun W9 => wc.grownBy W9 (some w.heap.size) ∧ Lies W9 w.heap.size 26 [.int .i64 X.s, .int .i64 X.c, .slice X.A X.f.length X.cap, .int .i64 X.p])) (fun i w1 w2 => i ∉ [9] → Below w1.heap.size w1 w2) (by kernel_rfl) (by kernel_rfl) (by kernel_rfl) (Sw.start (Below.refl _ _).drew) ?_
                      simp only [fillOps, Act.put, List.setIfInBounds_toArray, List.set_cons_zero, List.set_cons_succ, Nat.zero_add, Nat.reduceAdd]
                      apply wpFactsR_val
                      case h1 =>
                        intro vs L9 w9 hG9 hC9 hB K9 hK9
                        replace hC9 := hC9.before hG9 (by kernel_rfl)
                        have q0 : w9.cell? ⟨g4, 0, none⟩ = some (.int .i64 X.s) := (K.below hC9 K.lt).cell 0
                        have q1 : w9.cell? ⟨g4, 1, none⟩ = some (.int .i64 X.c) := (K.below hC9 K.lt).cell 1
                        have q2 : w9.cell? ⟨g4, 2, none⟩ = some (.slice X.A X.f.length X.cap) := (K.below hC9 K.lt).cell 2
                        have q3 : w9.cell? ⟨g4, 3, none⟩ = some (.int .i64 X.p) := (K.below hC9 K.lt).cell 3
                        simp only [Act.put, List.setIfInBounds_toArray, List.set_cons_zero, List.set_cons_succ] at hK9
                        go_simp
                        exact hK9 _ _ rfl (Sw.stay hG9 (by kernel_rfl) (by decide) hC9) (fun _ => Below.refl _ _)
                      apply wpFactsR_val
                      case h1 =>
                        intro vs L9 w9 hG9 hC9 hB K9 hK9
                        replace hC9 := hC9.before hG9 (by kernel_rfl)
                        have q0 : w9.cell? ⟨g4, 0, none⟩ = some (.int .i64 X.s) := (K.below hC9 K.lt).cell 0
                        have q1 : w9.cell? ⟨g4, 1, none⟩ = some (.int .i64 X.c) := (K.below hC9 K.lt).cell 1
                        have q2 : w9.cell? ⟨g4, 2, none⟩ = some (.slice X.A X.f.length X.cap) := (K.below hC9 K.lt).cell 2
                        have q3 : w9.cell? ⟨g4, 3, none⟩ = some (.int .i64 X.p) := (K.below hC9 K.lt).cell 3
                        simp only [Act.put, List.setIfInBounds_toArray, List.set_cons_zero, List.set_cons_succ] at hK9
                        go_simp
                        exact hK9 _ _ rfl (Sw.stay hG9 (by kernel_rfl) (by decide) hC9) (fun _ => Below.refl _ _)
                      refine wpFactsR_val (.bool false) (fun vs L9 w9 hG9 hC9 hB K9 hK9 => ?_) ?_
                      next =>
                        replace hC9 := hC9.before hG9 (by kernel_rfl)
                        have d1 := FactN.eq (hB 1 _ (by kernel_rfl) (by kernel_rfl) rfl (by decide))
                        simp only [d1] at hK9 ⊢
                        go_simp
                        refine (l30One_any X w9 (SlcR.below HXR.out hC9 |>.mono hC9.size)).mono ?_
                        rintro en w8 ⟨rfl, hb8⟩
                        rw [hok]
                        exact hK9 _ _ rfl (Sw.stay hG9 (by kernel_rfl) (by decide) (bthen hC9 hb8)) (fun _ => hb8)
                      apply wpFactsR_val
                      case h1 =>
                        intro vs L9 w9 hG9 hC9 hB K9 hK9
                        replace hC9 := hC9.before hG9 (by kernel_rfl)
                        have d2 := FactN.eq (hB 2 _ (by kernel_rfl) (by kernel_rfl) rfl (by decide))
                        simp only [d2] at hK9 ⊢
                        simp only [Act.put, List.setIfInBounds_toArray, List.set_cons_zero, List.set_cons_succ] at hK9
                        go_simp
                        exact hK9 _ _ rfl (Sw.stay hG9 (by kernel_rfl) (by decide) hC9) (fun _ => Below.refl _ _)
                      refine wpFactsR_val (undef) (fun vs L9 w9 hG9 hC9 hB K9 hK9 => ?_) ?_
                      next =>
                        replace hC9 := hC9.before hG9 (by kernel_rfl)
                        have d3 := FactN.eq (hB 3 _ (by kernel_rfl) (by kernel_rfl) rfl (by decide))
                        simp only [d3] at hK9 ⊢
                        go_simp
                        exact hK9 _ _ rfl (Sw.stay hG9 (by kernel_rfl) (by decide) hC9) (fun _ => Below.refl _ _)
                      refine wpFactsR_val (undef) (fun vs L9 w9 hG9 hC9 hB K9 hK9 => ?_) ?_
                      next =>
                        replace hC9 := hC9.before hG9 (by kernel_rfl)
                        have d4 := FactN.eq (hB 4 _ (by kernel_rfl) (by kernel_rfl) rfl (by decide))
                        have d3 := FactN.eq (hB 3 _ (by kernel_rfl) (by kernel_rfl) rfl (by decide))
                        simp only [d4, d3] at hK9 ⊢
                        go_simp
                        exact hK9 _ _ rfl (Sw.stay hG9 (by kernel_rfl) (by decide) hC9) (fun _ => Below.refl _ _)
                      refine wpFactsR_val (undef) (fun vs L9 w9 hG9 hC9 hB K9 hK9 => ?_) ?_
                      next =>
                        have d3 := FactN.eq (hB 3 _ (by kernel_rfl) (by kernel_rfl) rfl (by decide))
                        simp only [d3] at hK9 ⊢
                        have HC9 := Lib.hid hC9
                        clear hC9
                        go_simp
                        exact hK9 _ _ rfl (Sw.both (by decide) (fun h => h) (fun h => h) HC9.out) (fun _ => Below.refl _ _)
                      refine wpFactsR_val (undef) (fun vs L9 w9 hG9 hC9 hB K9 hK9 => ?_) ?_
                      next =>
                        have d5 := FactN.eq (hB 5 _ (by kernel_rfl) (by kernel_rfl) rfl (by decide))
                        have d6 := FactN.eq (hB 6 _ (by kernel_rfl) (by kernel_rfl) rfl (by decide))
                        have d3 := FactN.eq (hB 3 _ (by kernel_rfl) (by kernel_rfl) rfl (by decide))
                        simp only [d5, d6, d3] at hK9 ⊢
                        have HC9 := Lib.hid hC9
                        clear hC9
                        go_simp
                        exact hK9 _ _ rfl (Sw.both (by decide) (fun h => h) (fun h => h) HC9.out) (fun _ => Below.refl _ _)
                      apply wpFactsR_val
                      case h1 =>
                        intro vs L9 w9 hG9 hC9 hB K9 hK9
                        have d3 := FactN.eq (hB 3 _ (by kernel_rfl) (by kernel_rfl) rfl (by decide))
                        have d7 := FactN.eq (hB 7 _ (by kernel_rfl) (by kernel_rfl) rfl (by decide))
                        simp only [d3, d7] at hK9 ⊢
                        simp only [Act.put, List.setIfInBounds_toArray, List.set_cons_zero, List.set_cons_succ] at hK9
                        have HC9 := Lib.hid hC9
                        clear hC9
                        go_simp
                        exact hK9 _ _ rfl (Sw.both (by decide) (fun h => h) (fun h => h) HC9.out) (fun _ => Below.refl _ _)
                      refine wpFactsR_val (undef) (fun vs L9 w9 hG9 hC9 hB K9 hK9 => ?_) ?_
                      next =>
                        replace hC9 := hC9.here hG9
                        have d0 := FactN.eq (hB 0 _ (by kernel_rfl) (by kernel_rfl) rfl (by decide))
                        simp only [d0] at hK9 ⊢
                        have KO := HSX.out.out.below hC9 HSX.out.out.lt
                        have y0 := KO.cell 0
                        have y1 := KO.cell 1
                        have y2 := KO.cell 2
                        have y3 := KO.cell 3
                        simp only [List.getElem?_cons_zero, List.getElem?_cons_succ] at y0 y1 y2 y3
                        have f0 := KO.frozen 0
                        have f1 := KO.frozen 1
                        have f2 := KO.frozen 2
                        have f3 := KO.frozen 3
                        have hG8 := Lib.hid (grown_trans (grownB hC9 (some w.heap.size)) (grown_set (g := w.heap.size) (i := 3) (u := .int .i64 X.p) (grown_set (g := w.heap.size) (i := 2) (u := .slice X.A X.f.length X.cap) (grown_set (g := w.heap.size) (i := 1) (u := .int .i64 X.c) (grown_set (g := w.heap.size) (i := 0) (u := .int .i64 X.s) (World.grownBy.refl _ _))))))
                        have hN8 := Lib.hid (show Lies _ w.heap.size 26 [.int .i64 X.s, .int .i64 X.c, .slice X.A X.f.length X.cap, .int .i64 X.p] from ((((KO.set 0 (.int .i64 X.s)).set 1 (.int .i64 X.c)).set 2 (.slice X.A X.f.length X.cap)).set 3 (.int .i64 X.p)))
                        clear KO
                        go_simp
                        exact hK9 _ _ rfl (Sw.turn ⟨hG8.out, hN8.out⟩) (fun hq => (hq (by decide)).elim)
                      apply wpFactsR_val
                      case h1 =>
                        intro vs L9 w9 hG9 hC9 hB K9 hK9
                        replace hC9 := hC9.after hG9 (by kernel_rfl)
                        have d8 := FactN.eq (hB 8 _ (by kernel_rfl) (by kernel_rfl) rfl (by decide))
                        simp only [d8] at hK9 ⊢
                        simp only [Act.put, List.setIfInBounds_toArray, List.set_cons_zero, List.set_cons_succ] at hK9
                        go_simp
                        exact hK9 _ _ rfl (Sw.on hG9 (by kernel_rfl) hC9) (fun _ => Below.refl _ _)
                      refine wpFactsR_nil fun vs L9 w9 hL9 hC9 hB => ?_
                      replace hC9 := hC9.done hL9 (by decide)
                      obtain ⟨hG, LS⟩ := hC9
                      have d10 := FactN.eq (hB 10 _ rfl rfl (by decide))
                      simp only [d10]
                      have OO := Lib.hid ((OwnS.of HSX.out.row).ne hG ((OwnS.of HSX.out.row).off HSX.out.out ne_int_ph))
                      have BB := Lib.hid (bel_grow HSX.out.bl hG (Nat.le_refl _) (Nat.le_refl _))
                      have HLS := Lib.hid LS
                      clear hB hL9 d10 hG LS K
                      repeat (first | go_values | go_skip | go_guarded | go_step | go_upon | simp only [])
                      have LS := HLS.out
                      have x0 := LS.cell 0
                      have x1 := LS.cell 1
                      have x2 := LS.cell 2
                      have x3 := LS.cell 3
                      simp only [List.getElem?_cons_zero, List.getElem?_cons_succ] at x0 x1 x2 x3
                      refine bodyPost_ret (v := .tuple #[.agg #[.int .i64 X.s, .int .i64 X.c, .slice X.A X.f.length X.cap, .int .i64 X.p], .bool false]) (by simp [results, Tryz.results32, go_sem, x0, x1, x2, x3]) rfl ?_
                      exact ⟨X, false, rfl, HRD.out, OO.out, BB.out⟩
                    | true =>
                      have HOK := Lib.hid hok
                      have HSH := Lib.hid (fun W (h : IntsR W W.heap.size X.A X.f) => l30Short_any X W h HOK.out)
                      obtain ⟨sx, hsx⟩ : ∃ x : ByteArray, x = ⟨(shortT X).toArray⟩ := ⟨_, rfl⟩
                      have hbx : bl sx = shortD X.ph := by rw [hsx, bl_mk]; rfl
                      rw [← hsx] at HSH
                      clear hsx
                      obtain ⟨q, hq⟩ : ∃ b : Bool, (sx.toList == s.toList) = b := ⟨_, rfl⟩
                      have HRD : Hid (readD (bl s) = if q = true then some X.ph else none) := by
                        rw [← hq, str_beqL, hbx, readD_spec, HPD.out]
                        by_cases h : shortD X.ph = bl s
                        · rw [if_pos ⟨HOK.out, h⟩, decide_eq_true h]; rfl
                        · rw [if_neg (fun h2 => h h2.2), decide_eq_false h]; rfl
                      clear hbx
                      refine wp_region_factsR (Sw 9 (fun W9 => Below wc.heap.size wc W9) (fun W9 => wc.grownBy W9 (some w.heap.size) ∧ Lies W9 w.heap.size 26 [.int .i64 X.s, .int .i64 X.c, .slice X.A X.f.length X.cap, .int .i64 X.p])) (fun i w1 w2 => i ∉ [9] → Below w1.heap.size w1 w2) (by kernel_rfl) (by kernel_rfl) (by kernel_rfl) (Sw.start (Below.refl _ _).drew) ?_
                      simp only [fillOps, Act.put, List.setIfInBounds_toArray, List.set_cons_zero, List.set_cons_succ, Nat.zero_add, Nat.reduceAdd]
                      apply wpFactsR_val
                      case h1 =>
                        intro vs L9 w9 hG9 hC9 hB K9 hK9
                        replace hC9 := hC9.before hG9 (by kernel_rfl)
                        have q0 : w9.cell? ⟨g4, 0, none⟩ = some (.int .i64 X.s) := (K.below hC9 K.lt).cell 0
                        have q1 : w9.cell? ⟨g4, 1, none⟩ = some (.int .i64 X.c) := (K.below hC9 K.lt).cell 1
                        have q2 : w9.cell? ⟨g4, 2, none⟩ = some (.slice X.A X.f.length X.cap) := (K.below hC9 K.lt).cell 2
                        have q3 : w9.cell? ⟨g4, 3, none⟩ = some (.int .i64 X.p) := (K.below hC9 K.lt).cell 3
                        simp only [Act.put, List.setIfInBounds_toArray, List.set_cons_zero, List.set_cons_succ] at hK9
                        go_simp
                        exact hK9 _ _ rfl (Sw.stay hG9 (by kernel_rfl) (by decide) hC9) (fun _ => Below.refl _ _)
                      apply wpFactsR_val
                      case h1 =>
                        intro vs L9 w9 hG9 hC9 hB K9 hK9
                        replace hC9 := hC9.before hG9 (by kernel_rfl)
                        have q0 : w9.cell? ⟨g4, 0, none⟩ = some (.int .i64 X.s) := (K.below hC9 K.lt).cell 0
                        have q1 : w9.cell? ⟨g4, 1, none⟩ = some (.int .i64 X.c) := (K.below hC9 K.lt).cell 1
                        have q2 : w9.cell? ⟨g4, 2, none⟩ = some (.slice X.A X.f.length X.cap) := (K.below hC9 K.lt).cell 2
                        have q3 : w9.cell? ⟨g4, 3, none⟩ = some (.int .i64 X.p) := (K.below hC9 K.lt).cell 3
                        simp only [Act.put, List.setIfInBounds_toArray, List.set_cons_zero, List.set_cons_succ] at hK9
                        go_simp
                        exact hK9 _ _ rfl (Sw.stay hG9 (by kernel_rfl) (by decide) hC9) (fun _ => Below.refl _ _)
                      refine wpFactsR_val (.bool true) (fun vs L9 w9 hG9 hC9 hB K9 hK9 => ?_) ?_
                      next =>
                        replace hC9 := hC9.before hG9 (by kernel_rfl)
                        have d1 := FactN.eq (hB 1 _ (by kernel_rfl) (by kernel_rfl) rfl (by decide))
                        simp only [d1] at hK9 ⊢
                        go_simp
                        refine (l30One_any X w9 (SlcR.below HXR.out hC9 |>.mono hC9.size)).mono ?_
                        rintro en w8 ⟨rfl, hb8⟩
                        rw [hok]
                        exact hK9 _ _ rfl (Sw.stay hG9 (by kernel_rfl) (by decide) (bthen hC9 hb8)) (fun _ => hb8)
                      apply wpFactsR_val
                      case h1 =>
                        intro vs L9 w9 hG9 hC9 hB K9 hK9
                        replace hC9 := hC9.before hG9 (by kernel_rfl)
                        have d2 := FactN.eq (hB 2 _ (by kernel_rfl) (by kernel_rfl) rfl (by decide))
                        simp only [d2] at hK9 ⊢
                        simp only [Act.put, List.setIfInBounds_toArray, List.set_cons_zero, List.set_cons_succ] at hK9
                        go_simp
                        exact hK9 _ _ rfl (Sw.stay hG9 (by kernel_rfl) (by decide) hC9) (fun _ => Below.refl _ _)
                      apply wpFactsR_val
                      case h1 =>
                        intro vs L9 w9 hG9 hC9 hB K9 hK9
                        replace hC9 := hC9.before hG9 (by kernel_rfl)
                        have d3 := FactN.eq (hB 3 _ (by kernel_rfl) (by kernel_rfl) rfl (by decide))
                        simp only [d3] at hK9 ⊢
                        have q0 : w9.cell? ⟨g4, 0, none⟩ = some (.int .i64 X.s) := (K.below hC9 K.lt).cell 0
                        have q1 : w9.cell? ⟨g4, 1, none⟩ = some (.int .i64 X.c) := (K.below hC9 K.lt).cell 1
                        have q2 : w9.cell? ⟨g4, 2, none⟩ = some (.slice X.A X.f.length X.cap) := (K.below hC9 K.lt).cell 2
                        have q3 : w9.cell? ⟨g4, 3, none⟩ = some (.int .i64 X.p) := (K.below hC9 K.lt).cell 3
                        simp only [Act.put, List.setIfInBounds_toArray, List.set_cons_zero, List.set_cons_succ] at hK9
                        go_simp
                        exact hK9 _ _ rfl (Sw.stay hG9 (by kernel_rfl) (by decide) hC9) (fun _ => Below.refl _ _)
                      refine wpFactsR_val (.string sx) (fun vs L9 w9 hG9 hC9 hB K9 hK9 => ?_) ?_
                      next =>
                        replace hC9 := hC9.before hG9 (by kernel_rfl)
                        have d4 := FactN.eq (hB 4 _ (by kernel_rfl) (by kernel_rfl) rfl (by decide))
                        have d3 := FactN.eq (hB 3 _ (by kernel_rfl) (by kernel_rfl) rfl (by decide))
                        simp only [d4, d3] at hK9 ⊢
                        go_simp
                        refine (HSH.out w9 (SlcR.below HXR.out hC9 |>.mono hC9.size)).mono ?_
                        rintro en w8 ⟨rfl, hb8⟩
                        exact hK9 _ _ rfl (Sw.stay hG9 (by kernel_rfl) (by decide) (bthen hC9 hb8)) (fun _ => hb8)
                      apply wpFactsR_val
                      case h1 =>
                        intro vs L9 w9 hG9 hC9 hB K9 hK9
                        have d3 := FactN.eq (hB 3 _ (by kernel_rfl) (by kernel_rfl) rfl (by decide))
                        simp only [d3] at hK9 ⊢
                        simp only [Act.put, List.setIfInBounds_toArray, List.set_cons_zero, List.set_cons_succ] at hK9
                        have HC9 := Lib.hid hC9
                        clear hC9
                        go_simp
                        exact hK9 _ _ rfl (Sw.both (by decide) (fun h => h) (fun h => h) HC9.out) (fun _ => Below.refl _ _)
                      apply wpFactsR_val
                      case h1 =>
                        intro vs L9 w9 hG9 hC9 hB K9 hK9
                        have d5 := FactN.eq (hB 5 _ (by kernel_rfl) (by kernel_rfl) rfl (by decide))
                        have d6 := FactN.eq (hB 6 _ (by kernel_rfl) (by kernel_rfl) rfl (by decide))
                        have d3 := FactN.eq (hB 3 _ (by kernel_rfl) (by kernel_rfl) rfl (by decide))
                        simp only [d5, d6, d3] at hK9 ⊢
                        simp only [Act.put, List.setIfInBounds_toArray, List.set_cons_zero, List.set_cons_succ] at hK9
                        have HC9 := Lib.hid hC9
                        clear hC9
                        go_simp
                        exact hK9 _ _ rfl (Sw.both (by decide) (fun h => h) (fun h => h) HC9.out) (fun _ => Below.refl _ _)
                      apply wpFactsR_val
                      case h1 =>
                        intro vs L9 w9 hG9 hC9 hB K9 hK9
                        have d3 := FactN.eq (hB 3 _ (by kernel_rfl) (by kernel_rfl) rfl (by decide))
                        have d7 := FactN.eq (hB 7 _ (by kernel_rfl) (by kernel_rfl) rfl (by decide))
                        simp only [d3, d7] at hK9 ⊢
                        simp only [Act.put, List.setIfInBounds_toArray, List.set_cons_zero, List.set_cons_succ] at hK9
                        have HC9 := Lib.hid hC9
                        clear hC9
                        go_simp
                        exact hK9 _ _ rfl (Sw.both (by decide) (fun h => h) (fun h => h) HC9.out) (fun _ => Below.refl _ _)
                      refine wpFactsR_val (undef) (fun vs L9 w9 hG9 hC9 hB K9 hK9 => ?_) ?_
                      next =>
                        replace hC9 := hC9.here hG9
                        have d0 := FactN.eq (hB 0 _ (by kernel_rfl) (by kernel_rfl) rfl (by decide))
                        simp only [d0] at hK9 ⊢
                        have KO := HSX.out.out.below hC9 HSX.out.out.lt
                        have y0 := KO.cell 0
                        have y1 := KO.cell 1
                        have y2 := KO.cell 2
                        have y3 := KO.cell 3
                        simp only [List.getElem?_cons_zero, List.getElem?_cons_succ] at y0 y1 y2 y3
                        have f0 := KO.frozen 0
                        have f1 := KO.frozen 1
                        have f2 := KO.frozen 2
                        have f3 := KO.frozen 3
                        have hG8 := Lib.hid (grown_trans (grownB hC9 (some w.heap.size)) (grown_set (g := w.heap.size) (i := 3) (u := .int .i64 X.p) (grown_set (g := w.heap.size) (i := 2) (u := .slice X.A X.f.length X.cap) (grown_set (g := w.heap.size) (i := 1) (u := .int .i64 X.c) (grown_set (g := w.heap.size) (i := 0) (u := .int .i64 X.s) (World.grownBy.refl _ _))))))
                        have hN8 := Lib.hid (show Lies _ w.heap.size 26 [.int .i64 X.s, .int .i64 X.c, .slice X.A X.f.length X.cap, .int .i64 X.p] from ((((KO.set 0 (.int .i64 X.s)).set 1 (.int .i64 X.c)).set 2 (.slice X.A X.f.length X.cap)).set 3 (.int .i64 X.p)))
                        clear KO
                        go_simp
                        exact hK9 _ _ rfl (Sw.turn ⟨hG8.out, hN8.out⟩) (fun hq => (hq (by decide)).elim)
                      apply wpFactsR_val
                      case h1 =>
                        intro vs L9 w9 hG9 hC9 hB K9 hK9
                        replace hC9 := hC9.after hG9 (by kernel_rfl)
                        have d8 := FactN.eq (hB 8 _ (by kernel_rfl) (by kernel_rfl) rfl (by decide))
                        simp only [d8] at hK9 ⊢
                        simp only [Act.put, List.setIfInBounds_toArray, List.set_cons_zero, List.set_cons_succ] at hK9
                        go_simp
                        exact hK9 _ _ rfl (Sw.on hG9 (by kernel_rfl) hC9) (fun _ => Below.refl _ _)
                      refine wpFactsR_nil fun vs L9 w9 hL9 hC9 hB => ?_
                      replace hC9 := hC9.done hL9 (by decide)
                      obtain ⟨hG, LS⟩ := hC9
                      have d10 := FactN.eq (hB 10 _ rfl rfl (by decide))
                      simp only [d10]
                      have OO := Lib.hid ((OwnS.of HSX.out.row).ne hG ((OwnS.of HSX.out.row).off HSX.out.out ne_int_ph))
                      have BB := Lib.hid (bel_grow HSX.out.bl hG (Nat.le_refl _) (Nat.le_refl _))
                      have HLS := Lib.hid LS
                      clear hB hL9 d10 hG LS K
                      repeat (first | go_values | go_skip | go_guarded | go_step | go_upon | simp only [])
                      have LS := HLS.out
                      have x0 := LS.cell 0
                      have x1 := LS.cell 1
                      have x2 := LS.cell 2
                      have x3 := LS.cell 3
                      simp only [List.getElem?_cons_zero, List.getElem?_cons_succ] at x0 x1 x2 x3
                      refine bodyPost_ret (v := .tuple #[.agg #[.int .i64 X.s, .int .i64 X.c, .slice X.A X.f.length X.cap, .int .i64 X.p], .bool q]) (by simp [results, Tryz.results32, go_sem, x0, x1, x2, x3]) rfl ?_
                      exact ⟨X, q, rfl, HRD.out, OO.out, BB.out⟩
end Go.Proofs.YtchkjiadnackaaaGreatDoor
