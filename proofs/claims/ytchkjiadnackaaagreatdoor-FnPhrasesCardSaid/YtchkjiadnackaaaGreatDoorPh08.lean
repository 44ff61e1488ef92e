/- Ph08: the texts ParseW RowGive PList PhrIs LongT Long LongI VInts CopiesR LawPhrases, joined into one file. -/
import Derived.Deep.DeepCutAuto
import Derived.Test.YtchkjiadnackaaaGreatDoorPh01
import Derived.Test.YtchkjiadnackaaaGreatDoorPh02
import Derived.Test.YtchkjiadnackaaaGreatDoorPh03
import Derived.Test.YtchkjiadnackaaaGreatDoorPh05
import Derived.Test.YtchkjiadnackaaaGreatDoorPh06
import Derived.Test.YtchkjiadnackaaaGreatDoorPh07

set_option linter.unusedVariables false

/- ParsePhrase, in the program and in the reference. (Printed by gen_parsew.py) -/
namespace Go.Proofs.YtchkjiadnackaaaGreatDoor
open Go.RowKit

/-- What ParsePhrase gives. -/
def GivesP (s : ByteArray) (w : World) (e : Ending) (w' : World) : Prop := ∃ (x : Ph) (ok : Bool), e = .returned (.tuple #[x.val, .bool ok]) ∧ readOf (bl s) = (x.ph, ok) ∧ OwnS w' w.heap.size 3 1 x.A x.f.length (encIs x.f) ∧ Below w.heap.size w w'

set_option maxHeartbeats 2000000 in
theorem implParse_any (s : ByteArray) (w : World) (hs : s.size ≤ 2000000) (hL : LW w) :
    Calls Tryz.prog 9 #[.string s] w (GivesP s w) := by
  have L2 := Lies.new w 26 #[.int .i64 0, .int .i64 0, .slice none 0 0, .int .i64 0]
  have b2 := (Below.refl w.heap.size w).alloc (Nat.le_refl _) (.cells #[.int .i64 0, .int .i64 0, .slice none 0 0, .int .i64 0] 26)
  have HP := Lib.hid (parsePhrase_any s (w.alloc (.cells #[.int .i64 0, .int .i64 0, .slice none 0 0, .int .i64 0] 26)) hs (hL.then b2))
  go_enter Tryz.func9, Tryz.ntmps9
  go_wp2_with fail
  refine HP.out.mono ?_
  rintro e w3 ⟨x, ok, rfl, hrd, ho, hb⟩
  have K2 := L2.below hb L2.lt
  have b3 := bthen b2 hb
  have ho3 := ho.lower (show w.heap.size ≤ _ from b2.size)
  have HRD := Lib.hid hrd
  have HO := Lib.hid ho3
  have HB := Lib.hid b3
  have HFAR := Lib.hid (ho3.off K2 ne_int_ph)
  clear hrd ho ho3 b3 hb b2 L2 HP
  have a0 := K2.cell 0
  have a1 := K2.cell 1
  have a2 := K2.cell 2
  have a3 := K2.cell 3
  simp only [List.getElem?_cons_zero, List.getElem?_cons_succ] at a0 a1 a2 a3
  have fa0 := K2.frozen 0
  have fa1 := K2.frozen 1
  have fa2 := K2.frozen 2
  have fa3 := K2.frozen 3
  obtain ⟨W20, hW20⟩ : ∃ W20, ((((w3.setCell ⟨w.heap.size, 0, none⟩ (.int .i64 x.s)).setCell ⟨w.heap.size, 1, none⟩ (.int .i64 x.c)).setCell ⟨w.heap.size, 2, none⟩ (.slice x.A x.f.length x.cap)).setCell ⟨w.heap.size, 3, none⟩ (.int .i64 x.p)) = W20 := ⟨_, rfl⟩
  have gw : w3.grownBy ((((w3.setCell ⟨w.heap.size, 0, none⟩ (.int .i64 x.s)).setCell ⟨w.heap.size, 1, none⟩ (.int .i64 x.c)).setCell ⟨w.heap.size, 2, none⟩ (.slice x.A x.f.length x.cap)).setCell ⟨w.heap.size, 3, none⟩ (.int .i64 x.p)) (some w.heap.size) := (grown_set (g := w.heap.size) (i := 3) (u := .int .i64 x.p) (grown_set (g := w.heap.size) (i := 2) (u := .slice x.A x.f.length x.cap) (grown_set (g := w.heap.size) (i := 1) (u := .int .i64 x.c) (grown_set (g := w.heap.size) (i := 0) (u := .int .i64 x.s) (World.grownBy.refl _ _)))))
  have kw : Lies ((((w3.setCell ⟨w.heap.size, 0, none⟩ (.int .i64 x.s)).setCell ⟨w.heap.size, 1, none⟩ (.int .i64 x.c)).setCell ⟨w.heap.size, 2, none⟩ (.slice x.A x.f.length x.cap)).setCell ⟨w.heap.size, 3, none⟩ (.int .i64 x.p)) w.heap.size 26 [.int .i64 x.s, .int .i64 x.c, .slice x.A x.f.length x.cap, .int .i64 x.p] := K2.set 0 (.int .i64 x.s) |>.set 1 (.int .i64 x.c) |>.set 2 (.slice x.A x.f.length x.cap) |>.set 3 (.int .i64 x.p)
  have BB := Lib.hid (bel_grow HB.out gw (Nat.le_refl _) (Nat.le_refl _))
  have OO := Lib.hid (HO.out.ne gw HFAR.out)
  rw [hW20] at kw BB OO
  have HW20 := Lib.hid hW20
  have HK := Lib.hid kw
  clear gw kw hW20 K2
  repeat (first | go_values | go_skip | go_guarded | go_step | go_upon | simp only [])
  rw [HW20.out]
  have LS := HK.out
  have x0 := LS.cell 0
  have x1 := LS.cell 1
  have x2 := LS.cell 2
  have x3 := LS.cell 3
  simp only [List.getElem?_cons_zero, List.getElem?_cons_succ] at x0 x1 x2 x3
  refine bodyPost_ret (v := .tuple #[.agg #[.int .i64 x.s, .int .i64 x.c, .slice x.A x.f.length x.cap, .int .i64 x.p], .bool ok]) (by simp [results, Tryz.results9, go_sem, x0, x1, x2, x3]) rfl ?_
  exact ⟨x, ok, rfl, HRD.out, OO.out, BB.out⟩

set_option maxHeartbeats 2000000 in
theorem specParse_any (s : ByteArray) (w : World) (hs : s.size ≤ 2000000) (hL : LW w) :
    Calls Tryz.prog 12 #[.string s] w (GivesP s w) := by
  have L2 := Lies.new w 26 #[.int .i64 0, .int .i64 0, .slice none 0 0, .int .i64 0]
  have b2 := (Below.refl w.heap.size w).alloc (Nat.le_refl _) (.cells #[.int .i64 0, .int .i64 0, .slice none 0 0, .int .i64 0] 26)
  have HP := Lib.hid (l30Read_any s (w.alloc (.cells #[.int .i64 0, .int .i64 0, .slice none 0 0, .int .i64 0] 26)) hs (hL.then b2))
  go_enter Tryz.func12, Tryz.ntmps12
  go_wp2_with fail
  refine HP.out.mono ?_
  rintro e w3 ⟨x, ok, rfl, hrd, ho, hb⟩
  have b3 := bthen b2 hb
  have ha := (Below.refl w3.heap.size w3).alloc (Nat.le_refl _) (.cells #[.int .i64 x.s, .int .i64 x.c, .slice x.A x.f.length x.cap, .int .i64 x.p] 26)
  have K2 := (L2.below hb L2.lt).alloc (.cells #[.int .i64 x.s, .int .i64 x.c, .slice x.A x.f.length x.cap, .int .i64 x.p] 26)
  have K4 := Lies.new w3 26 #[.int .i64 x.s, .int .i64 x.c, .slice x.A x.f.length x.cap, .int .i64 x.p]
  have ho3 := (ho.lower (show w.heap.size ≤ _ from b2.size)).then ha
  have HRD := Lib.hid hrd
  have HO := Lib.hid ho3
  have HB := Lib.hid (bthen b3 ha)
  have HFAR := Lib.hid (ho3.off K2 ne_int_ph)
  clear hrd ho ho3 b3 hb b2 L2 HP ha
  go_upto_region 2 with fail
  generalize w3.alloc (.cells #[.int .i64 x.s, .int .i64 x.c, .slice x.A x.f.length x.cap, .int .i64 x.p] 26) = W4 at K2 K4 HO HB HFAR ⊢
  generalize w3.heap.size = g4 at K4 ⊢
  have k0 := K4.cell 0
  have k1 := K4.cell 1
  have k2 := K4.cell 2
  have k3 := K4.cell 3
  simp only [List.getElem?_cons_zero, List.getElem?_cons_succ] at k0 k1 k2 k3
  cases ok
  case false =>
    have HRE : Hid (readOf (bl s) = ((0, 0, [], 0), false)) := by
      have h1 := HRD.out
      unfold readOf Hid
      rw [h1]; rfl
    have a0 := K2.cell 0
    have a1 := K2.cell 1
    have a2 := K2.cell 2
    have a3 := K2.cell 3
    simp only [List.getElem?_cons_zero, List.getElem?_cons_succ] at a0 a1 a2 a3
    have fa0 := K2.frozen 0
    have fa1 := K2.frozen 1
    have fa2 := K2.frozen 2
    have fa3 := K2.frozen 3
    obtain ⟨W20, hW20⟩ : ∃ W20, ((((W4.setCell ⟨w.heap.size, 0, none⟩ (.int .i64 0)).setCell ⟨w.heap.size, 1, none⟩ (.int .i64 0)).setCell ⟨w.heap.size, 2, none⟩ (.slice none 0 0)).setCell ⟨w.heap.size, 3, none⟩ (.int .i64 0)) = W20 := ⟨_, rfl⟩
    have gw : W4.grownBy ((((W4.setCell ⟨w.heap.size, 0, none⟩ (.int .i64 0)).setCell ⟨w.heap.size, 1, none⟩ (.int .i64 0)).setCell ⟨w.heap.size, 2, none⟩ (.slice none 0 0)).setCell ⟨w.heap.size, 3, none⟩ (.int .i64 0)) (some w.heap.size) := (grown_set (g := w.heap.size) (i := 3) (u := .int .i64 0) (grown_set (g := w.heap.size) (i := 2) (u := .slice none 0 0) (grown_set (g := w.heap.size) (i := 1) (u := .int .i64 0) (grown_set (g := w.heap.size) (i := 0) (u := .int .i64 0) (World.grownBy.refl _ _)))))
    have kw : Lies ((((W4.setCell ⟨w.heap.size, 0, none⟩ (.int .i64 0)).setCell ⟨w.heap.size, 1, none⟩ (.int .i64 0)).setCell ⟨w.heap.size, 2, none⟩ (.slice none 0 0)).setCell ⟨w.heap.size, 3, none⟩ (.int .i64 0)) w.heap.size 26 [.int .i64 0, .int .i64 0, .slice none 0 0, .int .i64 0] := K2.set 0 (.int .i64 0) |>.set 1 (.int .i64 0) |>.set 2 (.slice none 0 0) |>.set 3 (.int .i64 0)
    have BB := Lib.hid (bel_grow HB.out gw (Nat.le_refl _) (Nat.le_refl _))
    have OO := Lib.hid ((⟨rfl, by simp, .inl ⟨rfl, rfl⟩⟩ : OwnS ((((W4.setCell ⟨w.heap.size, 0, none⟩ (.int .i64 0)).setCell ⟨w.heap.size, 1, none⟩ (.int .i64 0)).setCell ⟨w.heap.size, 2, none⟩ (.slice none 0 0)).setCell ⟨w.heap.size, 3, none⟩ (.int .i64 0)) w.heap.size 3 1 none 0 []))
    rw [hW20] at kw BB OO
    have HW20 := Lib.hid hW20
    have HK := Lib.hid kw
    clear gw kw hW20 K2
    repeat (first | go_values | go_skip | go_guarded | go_step | go_upon | simp only [])
    rw [HW20.out]
    have LS := HK.out
    have x0 := LS.cell 0
    have x1 := LS.cell 1
    have x2 := LS.cell 2
    have x3 := LS.cell 3
    simp only [List.getElem?_cons_zero, List.getElem?_cons_succ] at x0 x1 x2 x3
    refine bodyPost_ret (v := .tuple #[.agg #[.int .i64 0, .int .i64 0, .slice none 0 0, .int .i64 0], .bool false]) (by simp [results, Tryz.results12, go_sem, x0, x1, x2, x3]) rfl ?_
    exact ⟨{ s := 0, c := 0, f := [], p := 0, A := none, cap := 0 }, false, rfl, HRE.out, OO.out, BB.out⟩
  case true =>
    have HRE : Hid (readOf (bl s) = (x.ph, true)) := by
      have h1 := HRD.out
      unfold readOf Hid
      rw [h1]; rfl
    have a0 := K2.cell 0
    have a1 := K2.cell 1
    have a2 := K2.cell 2
    have a3 := K2.cell 3
    simp only [List.getElem?_cons_zero, List.getElem?_cons_succ] at a0 a1 a2 a3
    have fa0 := K2.frozen 0
    have fa1 := K2.frozen 1
    have fa2 := K2.frozen 2
    have fa3 := K2.frozen 3
    obtain ⟨W20, hW20⟩ : ∃ W20, ((((W4.setCell ⟨w.heap.size, 0, none⟩ (.int .i64 x.s)).setCell ⟨w.heap.size, 1, none⟩ (.int .i64 x.c)).setCell ⟨w.heap.size, 2, none⟩ (.slice x.A x.f.length x.cap)).setCell ⟨w.heap.size, 3, none⟩ (.int .i64 x.p)) = W20 := ⟨_, rfl⟩
    have gw : W4.grownBy ((((W4.setCell ⟨w.heap.size, 0, none⟩ (.int .i64 x.s)).setCell ⟨w.heap.size, 1, none⟩ (.int .i64 x.c)).setCell ⟨w.heap.size, 2, none⟩ (.slice x.A x.f.length x.cap)).setCell ⟨w.heap.size, 3, none⟩ (.int .i64 x.p)) (some w.heap.size) := (grown_set (g := w.heap.size) (i := 3) (u := .int .i64 x.p) (grown_set (g := w.heap.size) (i := 2) (u := .slice x.A x.f.length x.cap) (grown_set (g := w.heap.size) (i := 1) (u := .int .i64 x.c) (grown_set (g := w.heap.size) (i := 0) (u := .int .i64 x.s) (World.grownBy.refl _ _)))))
    have kw : Lies ((((W4.setCell ⟨w.heap.size, 0, none⟩ (.int .i64 x.s)).setCell ⟨w.heap.size, 1, none⟩ (.int .i64 x.c)).setCell ⟨w.heap.size, 2, none⟩ (.slice x.A x.f.length x.cap)).setCell ⟨w.heap.size, 3, none⟩ (.int .i64 x.p)) w.heap.size 26 [.int .i64 x.s, .int .i64 x.c, .slice x.A x.f.length x.cap, .int .i64 x.p] := K2.set 0 (.int .i64 x.s) |>.set 1 (.int .i64 x.c) |>.set 2 (.slice x.A x.f.length x.cap) |>.set 3 (.int .i64 x.p)
    have BB := Lib.hid (bel_grow HB.out gw (Nat.le_refl _) (Nat.le_refl _))
    have OO := Lib.hid (HO.out.ne gw HFAR.out)
    rw [hW20] at kw BB OO
    have HW20 := Lib.hid hW20
    have HK := Lib.hid kw
    clear gw kw hW20 K2
    repeat (first | go_values | go_skip | go_guarded | go_step | go_upon | simp only [])
    rw [HW20.out]
    have LS := HK.out
    have x0 := LS.cell 0
    have x1 := LS.cell 1
    have x2 := LS.cell 2
    have x3 := LS.cell 3
    simp only [List.getElem?_cons_zero, List.getElem?_cons_succ] at x0 x1 x2 x3
    refine bodyPost_ret (v := .tuple #[.agg #[.int .i64 x.s, .int .i64 x.c, .slice x.A x.f.length x.cap, .int .i64 x.p], .bool true]) (by simp [results, Tryz.results12, go_sem, x0, x1, x2, x3]) rfl ?_
    exact ⟨x, true, rfl, HRE.out, OO.out, BB.out⟩
end Go.Proofs.YtchkjiadnackaaaGreatDoor

/- A row of phrases as a result. -/
namespace Go.Proofs.YtchkjiadnackaaaGreatDoor
open Go.RowKit

/-- A row of phrases of the call's own, and whether there is one. -/
def GivesRow (w : World) (R : List PhD × Bool) (e : Ending) (w' : World) : Prop := ∃ A c m, e = .returned (.tuple #[.slice A m.length c, .bool R.2]) ∧ m.map Ph.ph = R.1 ∧ RowPh w' w.heap.size (.slice A m.length c) m ∧ Below w.heap.size w w'

end Go.Proofs.YtchkjiadnackaaaGreatDoor

/- A list of phrases is read, in the program and in the reference. (Printed by gen_plist.py) -/
namespace Go.Proofs.YtchkjiadnackaaaGreatDoor
open Go.RowKit

theorem readAll_app : ∀ (a : List (List UInt8)) (t : List UInt8) (xs : List PhD) (x : PhD), readAll a = some xs → readD t = some x → readAll (a ++ [t]) = some (xs ++ [x])
  | [], t, xs, x, h, hx => by
    simp only [readAll, Option.some.injEq] at h; subst h
    simp only [List.nil_append, readAll, hx]
  | u :: a, t, xs, x, h, hx => by
    simp only [readAll] at h
    cases hu : readD u with
    | none => rw [hu] at h; cases h
    | some y =>
      rw [hu] at h; simp only at h
      cases ha : readAll a with
      | none => rw [ha] at h; cases h
      | some ys =>
        rw [ha] at h; simp only [Option.some.injEq] at h; subst h
        simp only [List.cons_append, readAll, hu, readAll_app a t ys x ha hx]
theorem readAll_bad : ∀ (a : List (List UInt8)) (t : List UInt8), t ∈ a → readD t = none → readAll a = none
  | [], t, h, _ => by simp at h
  | u :: a, t, h, hx => by
    rcases List.mem_cons.1 h with rfl | h
    · simp only [readAll, hx]
    · simp only [readAll, readAll_bad a t h hx]; cases readD u <;> rfl
theorem readAll_next {ws : List (List UInt8)} {k : Nat} {xs : List PhD} {x : PhD} (hk : k < ws.length) (h : readAll (ws.take k) = some xs) (hx : readD ws[k] = some x) : readAll (ws.take (k + 1)) = some (xs ++ [x]) := by
  rw [List.take_succ_eq_append_getElem hk]; exact readAll_app _ _ _ _ h hx
theorem readL_no {s : List UInt8} {ws : List (List UInt8)} (hw : splitL 32 s = ws) (h0 : s ≠ []) (h : ¬ ws.length ≤ 10 ∨ readAll ws = none) : readL s = ([], false) := by
  unfold readL
  rw [if_neg h0, hw]
  rcases h with h | h
  · rw [if_neg h]
  · rw [h]; split <;> rfl
theorem readL_yes {s : List UInt8} {ws : List (List UInt8)} {xs : List PhD} (hw : splitL 32 s = ws) (h0 : s ≠ []) (h : ws.length ≤ 10) (hx : readAll ws = some xs) : readL s = (xs, true) := by
  unfold readL
  rw [if_neg h0, hw, if_pos h, hx]
theorem readL_nil {s : List UInt8} (h : s = []) : readL s = ([], true) := by unfold readL; rw [if_pos h]
theorem readOf_read {s : List UInt8} {x : PhD} {ok : Bool} (h : readOf s = (x, ok)) : readD s = if ok = true then some x else none := by
  unfold readOf at h
  cases hd : readD s with
  | none => rw [hd] at h; injection h with h1 h2; subst h2; rfl
  | some y => rw [hd] at h; injection h with h1 h2; subst h1; subst h2; rfl
/-- A list while it is read: block g8 holds the words. -/
structure LSt (w wx : World) (g8 : Nat) (ws : List (List UInt8)) (rest : List Value) (v : Value) (m : List Ph) : Prop where
  bl : Below w.heap.size w wx
  lw : LW w
  ws : Lies wx g8 9 (texts ws ++ rest)
  row : RowPh wx w.heap.size v m
section
variable {w wx wy wz : World} {g8 : Nat} {ws : List (List UInt8)} {rest : List Value} {v v' : Value} {m : List Ph} {x : Ph}
theorem LSt.now (S : LSt w wx g8 ws rest v m) : LW wx := S.lw.then S.bl
theorem LSt.then (S : LSt w wx g8 ws rest v m) (hb : Below wx.heap.size wx wy) : LSt w wy g8 ws rest v m :=
  ⟨bthen S.bl hb, S.lw, S.ws.below hb S.ws.lt, S.row.below hb⟩
theorem LSt.push (S : LSt w wx g8 ws rest v m) (hb : Below wx.heap.size wx wy) (hx : OwnS wy wx.heap.size 3 1 x.A x.f.length (encIs x.f))
    (ho : wz.ownsRow w.heap.size 26 4 v' (m.length + 1) (m.flatMap Ph.enc ++ x.enc)) (hg : wy.grownBy wz v.ownBlock) (hb2 : Below w.heap.size wy wz) : LSt w wz g8 ws rest v' (m ++ [x]) := by
  have S2 := S.then hb
  exact ⟨S2.bl.trans hb2, S.lw, S2.ws.kept hg (ownsRow_far S2.row.row S2.ws (by decide)), RowPh.push S.row hb hx S.bl.size ho hg⟩
end

set_option maxRecDepth 100000 in
set_option maxHeartbeats 8000000 in
set_option linter.unusedVariables false in
theorem implList_any (s : ByteArray) (w : World) (hs : s.size ≤ 2000000) (hL : LW w) :
    Calls Tryz.prog 16 #[.string s] w (GivesRow w (readL (bl s))) := by
  have HE : Hid ((s.toList == []) = decide (bl s = [])) := beq_lit s []
  by_cases hnil : bl s = []
  · have he : (s.toList == []) = true := by rw [HE.out]; exact decide_eq_true hnil
    have HM := Lib.hid (readL_nil hnil)
    clear hnil HE
    go_enter Tryz.func16, Tryz.ntmps16
    go_wp2_with fail
    go_ret2
    rw [HM.out]
    exact ⟨none, 0, [], rfl, rfl, RowPh.nil _ _, Below.refl _ _⟩
  · have he : (s.toList == []) = false := by rw [HE.out]; exact decide_eq_false hnil
    have HNE := Lib.hid hnil
    obtain ⟨ws, hws⟩ : ∃ l, splitL 32 (bl s) = l := ⟨_, rfl⟩
    have hpc := parts_count (b := 32) (n := 2000000) (s := bl s) (by rw [bl_size]; exact hs)
    have hpm := parts_short (b := 32) (n := 2000000) (s := bl s) (by rw [bl_size]; exact hs)
    rw [hws] at hpc hpm
    obtain ⟨hp1, hp2⟩ := hpc
    have HWS := Lib.hid hws
    have HPT := Lib.hid hpm
    clear hnil HE hpm
    have HSP := Lib.hid (split_any s 32 w (by omega) hL)
    rw [hws] at HSP
    clear hws
    go_enter Tryz.func16, Tryz.ntmps16
    go_wp2_with fail
    refine HSP.out.mono ?_
    rintro e w3 ⟨rfl, L8, hb3⟩
    have S3 := Lib.hid (LSt.mk (v := .slice none 0 0) (m := []) (rest := []) hb3 hL (by rw [List.append_nil]; exact L8) (RowPh.nil _ _))
    clear hb3 HSP
    generalize w.heap.size = g8 at S3 L8
    go_wp2_with fail
    go_loopw [4, 6, 7, 8, 14] (fun o _ _ _ i wr => ∃ (k : Nat) (A : Option Addr) (c : Nat) (m : List Ph), k ≤ ws.length ∧ i = .int .i64 k ∧ o = .slice A m.length c ∧ Hid (m.length = k) ∧ m.length ≤ 10 ∧ Hid (LSt w wr g8 ws [] (.slice A m.length c) m) ∧ Hid (readAll (ws.take k) = some (m.map Ph.ph))) (fun _ _ _ _ i _ => ws.length - (intOf i).toNat)
    case atStart => exact ⟨0, none, 0, [], Nat.zero_le _, rfl, rfl, rfl, by simp, S3, rfl⟩
    case round =>
      clear S3
      obtain ⟨k, A, c, m, hk, rfl, rfl, HMK, hm10, HS, HR⟩ := hrel
      by_cases hlt : k < ws.length
      · have hlt2 : (k : Int) < (ws.length : Int) := by omega
        have L8 := HS.out.ws
        have c0 : wr.cell? ⟨g8, k, none⟩ = some (.string ⟨(ws[k]'hlt).toArray⟩) := by
          rw [L8.cell]; exact texts_at2 ws _ _ hlt
        have ht := HPT.out (ws[k]'hlt) (List.getElem_mem _)
        obtain ⟨t, hte⟩ : ∃ t : ByteArray, t = ⟨(ws[k]'hlt).toArray⟩ := ⟨_, rfl⟩
        have hbt : bl t = ws[k]'hlt := by rw [hte, bl_mk]
        rw [← hte] at c0
        have hzt : t.size ≤ 2000000 := by rw [← bl_size, hbt]; exact ht
        have HBT := Lib.hid hbt
        clear hte ht hbt L8
        have hlw := HS.out.now
        go_wp2_with fail
        refine (parsePhrase_any t wr (by omega) hlw).mono ?_
        rintro e w4 ⟨x, okx, rfl, hx, ox, hb4⟩
        have ha := (Below.refl w4.heap.size w4).alloc (Nat.le_refl _) (.cells #[.int .i64 x.s, .int .i64 x.c, .slice x.A x.f.length x.cap, .int .i64 x.p] 26)
        have KX := Lies.new w4 26 #[.int .i64 x.s, .int .i64 x.c, .slice x.A x.f.length x.cap, .int .i64 x.p]
        have HOX := Lib.hid (ox.then ha)
        have HB := Lib.hid (bthen hb4 ha)
        have HX : Hid (readD (ws[k]'hlt) = if okx = true then some x.ph else none) := by rw [← HBT.out]; exact readOf_read hx
        clear ox ha hb4 hx c0 hlw
        go_upto_region 8 with fail
        generalize w4.alloc (.cells #[.int .i64 x.s, .int .i64 x.c, .slice x.A x.f.length x.cap, .int .i64 x.p] 26) = w5 at KX HOX HB ⊢
        generalize w4.heap.size = g9 at KX ⊢
        cases okx with
        | false =>
          have HM := Lib.hid (readL_no HWS.out HNE.out (.inr (readAll_bad _ _ (List.getElem_mem hlt) HX.out)))
          have BB := Lib.hid (bthen HS.out.bl HB.out)
          clear KX HOX HB HX HS HR
          go_wp2_with fail
          go_ret2
          rw [HM.out]
          exact ⟨none, 0, [], rfl, rfl, RowPh.nil _ _, BB.out⟩
        | true =>
          by_cases h10 : m.length = 10
          · have e10 : ((m.length : Int) == 10) = true := by simp; omega
            have HM := Lib.hid (readL_no HWS.out HNE.out (.inl (by have := HMK.out; omega)))
            have BB := Lib.hid (bthen HS.out.bl HB.out)
            clear KX HOX HB HX HS HR h10
            go_wp2_with fail
            go_ret2
            rw [HM.out]
            exact ⟨none, 0, [], rfl, rfl, RowPh.nil _ _, BB.out⟩
          · have e10 : ((m.length : Int) == 10) = false := by rw [beq_eq_false_iff_ne]; omega
            have HN := Lib.hid (readAll_next hlt HR.out HX.out)
            have hm9 : m.length < 10 := by omega
            have d0 := KX.cell 0
            have d1 := KX.cell 1
            have d2 := KX.cell 2
            have d3 := KX.cell 3
            simp only [List.getElem?_cons_zero, List.getElem?_cons_succ] at d0 d1 d2 d3
            have HRW := Lib.hid (HS.out.then HB.out).row.row
            have hsz : w.heap.size ≤ w5.heap.size := (HS.out.then HB.out).bl.size
            clear h10 KX HX HR
            go_wp2_with (at_builtin; refine wpList_push (w0 := w5) rfl _ _ 35 rfl 26 _ 4 48 Tryz.underlying35 infoPh rfl (by omega) (by omega) w.heap.size _ _ _ rfl HRW #[.int .i64 x.s, .int .i64 x.c, .slice x.A x.f.length x.cap, .int .i64 x.p] 1 _ rfl (by first | rfl | exact Array.size_push _) rfl (by simp [Value.oneCell']) (by omega) hsz rfl rfl rfl rfl ?_; intro v6 w6 HO6 hg6 hb6)
            have HNEW := Lib.hid (HS.out.push (x := x) HB.out HOX.out HO6.out hg6 hb6)
            obtain ⟨A6, c6, hv6⟩ := ownsRow_slice HO6.out
            subst hv6
            go_roundw
            case rel => exact ⟨k + 1, A6, c6, m ++ [x], by omega, by go_num, by simp, by have := HMK.out; rw [Hid]; simp; omega, by simp; omega, by rw [Hid]; simpa using HNEW.out, by rw [Hid, HN.out]; simp⟩
            case measure => simp [intOf]; omega
      · have hlt2 : ¬ (k : Int) < (ws.length : Int) := by omega
        have HA : Hid (readAll ws = some (m.map Ph.ph)) := by
          have h1 := HR.out; rw [List.take_of_length_le (by omega)] at h1; exact h1
        have HM := Lib.hid (readL_yes HWS.out HNE.out (by have := HMK.out; omega) HA.out)
        clear HR HA
        go_wp2_with fail
        go_ret2
        rw [HM.out]
        exact ⟨A, c, m, rfl, rfl, HS.out.row, HS.out.bl⟩

set_option maxRecDepth 100000 in
set_option maxHeartbeats 8000000 in
set_option linter.unusedVariables false in
theorem specList_any (s : ByteArray) (w : World) (hs : s.size ≤ 2000000) (hL : LW w) :
    Calls Tryz.prog 19 #[.string s] w (GivesRow w (readL (bl s))) := by
  have HE : Hid ((s.toList == []) = decide (bl s = [])) := beq_lit s []
  have b0 := (Below.refl w.heap.size w).alloc (Nat.le_refl _) (.cells #[] 26)
  have R0 : RowPh (w.alloc (.cells #[] 26)) w.heap.size (.slice (some ⟨w.heap.size, 0, none⟩) 0 0) [] := ⟨owns_empty (Lies.new w 26 #[]) (Nat.le_refl _), by simp, List.Pairwise.nil⟩
  by_cases hnil : bl s = []
  · have he : (s.toList == []) = true := by rw [HE.out]; exact decide_eq_true hnil
    have HM := Lib.hid (readL_nil hnil)
    clear hnil HE
    go_enter Tryz.func19, Tryz.ntmps19
    go_wp2_with fail
    go_ret2
    rw [HM.out]
    exact ⟨some ⟨w.heap.size, 0, none⟩, 0, [], rfl, rfl, R0, b0⟩
  · have he : (s.toList == []) = false := by rw [HE.out]; exact decide_eq_false hnil
    have HNE := Lib.hid hnil
    obtain ⟨ws, hws⟩ : ∃ l, splitL 32 (bl s) = l := ⟨_, rfl⟩
    have hpc := parts_count (b := 32) (n := 2000000) (s := bl s) (by rw [bl_size]; exact hs)
    have hpm := parts_short (b := 32) (n := 2000000) (s := bl s) (by rw [bl_size]; exact hs)
    rw [hws] at hpc hpm
    obtain ⟨hp1, hp2⟩ := hpc
    have HWS := Lib.hid hws
    have HPT := Lib.hid hpm
    clear hnil HE hpm
    have HSP := Lib.hid (l1Split_lies s 32 (w.alloc (.cells #[] 26)) (by omega))
    rw [hws] at HSP
    clear hws
    go_enter Tryz.func19, Tryz.ntmps19
    go_wp2_with fail
    refine HSP.out.mono ?_
    rintro e w3 ⟨g8, c8, rest, rfl, L8, hg8, hb3⟩
    have S3 := Lib.hid (LSt.mk (v := .slice (some ⟨w.heap.size, 0, none⟩) 0 0) (m := []) (bthen b0 hb3) hL L8 (R0.below hb3))
    clear b0 R0 hb3 HSP hg8 L8
    rcases Nat.lt_or_ge 400 s.size with hz4 | hz4
    · have i0 : (400 : Int) < (s.size : Int) := by omega
      have HM := Lib.hid (readL_long (s := bl s) (by rw [bl_size]; omega))
      go_wp2_with fail
      go_ret2
      rw [HM.out]
      exact ⟨some ⟨w.heap.size, 0, none⟩, 0, [], rfl, rfl, S3.out.row, S3.out.bl⟩
    have i0 : ¬ (400 : Int) < (s.size : Int) := by omega
    rcases Nat.lt_or_ge 10 ws.length with hw10 | hw10
    · have i1 : (10 : Int) < (ws.length : Int) := by omega
      have HM := Lib.hid (readL_no HWS.out HNE.out (.inl (by omega)))
      go_wp2_with fail
      go_ret2
      rw [HM.out]
      exact ⟨some ⟨w.heap.size, 0, none⟩, 0, [], rfl, rfl, S3.out.row, S3.out.bl⟩
    have i1 : ¬ (10 : Int) < (ws.length : Int) := by omega
    go_wp2_with fail
    go_loopw [4, 6, 7, 8] (fun o i _ _ wr => ∃ (k : Nat) (A : Option Addr) (c : Nat) (m : List Ph), k ≤ ws.length ∧ i = .int .i64 k ∧ o = .slice A m.length c ∧ Hid (m.length = k) ∧ m.length ≤ 10 ∧ Hid (LSt w wr g8 ws rest (.slice A m.length c) m) ∧ Hid (readAll (ws.take k) = some (m.map Ph.ph))) (fun _ i _ _ _ => ws.length - (intOf i).toNat)
    case atStart => exact ⟨0, some ⟨w.heap.size, 0, none⟩, 0, [], Nat.zero_le _, rfl, rfl, rfl, by simp, S3, rfl⟩
    case round =>
      clear S3
      obtain ⟨k, A, c, m, hk, rfl, rfl, HMK, hm10, HS, HR⟩ := hrel
      by_cases hlt : k < ws.length
      · have hlt2 : (k : Int) < (ws.length : Int) := by omega
        have L8 := HS.out.ws
        have c0 : wr.cell? ⟨g8, k, none⟩ = some (.string ⟨(ws[k]'hlt).toArray⟩) := by
          rw [L8.cell]; exact texts_at2 ws _ _ hlt
        have ht := HPT.out (ws[k]'hlt) (List.getElem_mem _)
        obtain ⟨t, hte⟩ : ∃ t : ByteArray, t = ⟨(ws[k]'hlt).toArray⟩ := ⟨_, rfl⟩
        have hbt : bl t = ws[k]'hlt := by rw [hte, bl_mk]
        rw [← hte] at c0
        have hzt : t.size ≤ 2000000 := by rw [← bl_size, hbt]; exact ht
        have HBT := Lib.hid hbt
        clear hte ht hbt L8
        have hlw := HS.out.now
        go_wp2_with fail
        refine (l30Read_any t wr (by omega) hlw).mono ?_
        rintro e w4 ⟨x, okx, rfl, hx, ox, hb4⟩
        have ha := (Below.refl w4.heap.size w4).alloc (Nat.le_refl _) (.cells #[.int .i64 x.s, .int .i64 x.c, .slice x.A x.f.length x.cap, .int .i64 x.p] 26)
        have KX := Lies.new w4 26 #[.int .i64 x.s, .int .i64 x.c, .slice x.A x.f.length x.cap, .int .i64 x.p]
        have HOX := Lib.hid (ox.then ha)
        have HB := Lib.hid (bthen hb4 ha)
        have HX : Hid (readD (ws[k]'hlt) = if okx = true then some x.ph else none) := by rw [← HBT.out]; exact hx
        clear ox ha hb4 hx c0 hlw
        go_upto_region 11 with fail
        generalize w4.alloc (.cells #[.int .i64 x.s, .int .i64 x.c, .slice x.A x.f.length x.cap, .int .i64 x.p] 26) = w5 at KX HOX HB ⊢
        generalize w4.heap.size = g9 at KX ⊢
        cases okx with
        | false =>
          have HM := Lib.hid (readL_no HWS.out HNE.out (.inr (readAll_bad _ _ (List.getElem_mem hlt) HX.out)))
          have BB := Lib.hid (bthen HS.out.bl HB.out)
          have R5 := Lib.hid (show RowPh (w5.alloc (.cells #[] 26)) w.heap.size (.slice (some ⟨w5.heap.size, 0, none⟩) 0 0) [] from ⟨owns_empty (Lies.new w5 26 #[]) BB.out.size, by simp, List.Pairwise.nil⟩)
          have B5 := Lib.hid (bthen BB.out ((Below.refl w5.heap.size w5).alloc (Nat.le_refl _) (.cells #[] 26)))
          clear KX HOX HB HX HS HR BB
          go_wp2_with fail
          go_ret2
          rw [HM.out]
          exact ⟨some ⟨w5.heap.size, 0, none⟩, 0, [], rfl, rfl, R5.out, B5.out⟩
        | true =>
          have HN := Lib.hid (readAll_next hlt HR.out HX.out)
          have hm9 : k < 10 := by omega
          have d0 := KX.cell 0
          have d1 := KX.cell 1
          have d2 := KX.cell 2
          have d3 := KX.cell 3
          simp only [List.getElem?_cons_zero, List.getElem?_cons_succ] at d0 d1 d2 d3
          have HRW := Lib.hid (HS.out.then HB.out).row.row
          have hsz : w.heap.size ≤ w5.heap.size := (HS.out.then HB.out).bl.size
          clear KX HX HR
          go_wp2_with (at_builtin; refine wpList_push (w0 := w5) rfl _ _ 35 rfl 26 _ 4 48 Tryz.underlying35 infoPh rfl (by omega) (by omega) w.heap.size _ _ _ rfl HRW #[.int .i64 x.s, .int .i64 x.c, .slice x.A x.f.length x.cap, .int .i64 x.p] 1 _ rfl (by first | rfl | exact Array.size_push _) rfl (by simp [Value.oneCell']) (by omega) hsz rfl rfl rfl rfl ?_; intro v6 w6 HO6 hg6 hb6)
          have HNEW := Lib.hid (HS.out.push (x := x) HB.out HOX.out HO6.out hg6 hb6)
          obtain ⟨A6, c6, hv6⟩ := ownsRow_slice HO6.out
          subst hv6
          go_roundw
          case rel => exact ⟨k + 1, A6, c6, m ++ [x], by omega, by go_num, by simp, by have := HMK.out; rw [Hid]; simp; omega, by have := HMK.out; simp; omega, by rw [Hid]; simpa using HNEW.out, by rw [Hid, HN.out]; simp⟩
          case measure => simp [intOf]; omega
      · have hlt2 : ¬ (k : Int) < (ws.length : Int) := by omega
        have HA : Hid (readAll ws = some (m.map Ph.ph)) := by
          have h1 := HR.out; rw [List.take_of_length_le (by omega)] at h1; exact h1
        have HM := Lib.hid (readL_yes HWS.out HNE.out hw10 HA.out)
        clear HR HA
        go_wp2_with fail
        go_ret2
        rw [HM.out]
        exact ⟨A, c, m, rfl, rfl, HS.out.row, HS.out.bl⟩

end Go.Proofs.YtchkjiadnackaaaGreatDoor

/- IsPhrase, in the reference and in the program. -/
namespace Go.Proofs.YtchkjiadnackaaaGreatDoor
open Go.RowKit

theorem implIsPhrase_any (x : Ph) (w : World) (h : IntsR w w.heap.size x.A x.f) : Calls Tryz.prog 8 #[x.val] w fun e w' => e = .returned (.bool x.ok) ∧ Below w.heap.size w w' := by
  have b1 := (Below.refl w.heap.size w).alloc (Nat.le_refl _) (.cells #[.int .i64 x.s, .int .i64 x.c, .slice x.A x.f.length x.cap, .int .i64 x.p] 26)
  go_enter Tryz.func8, Tryz.ntmps8
  go_wp2_with fail
  refine (isPhrase_any x _ (SlcR.up h b1 (Nat.le_refl _))).mono ?_
  rintro e w1 ⟨rfl, hb⟩
  go_wp2
  go_ret
  exact ⟨rfl, bthen b1 hb⟩
end Go.Proofs.YtchkjiadnackaaaGreatDoor

/- The long text of a phrase: plain words. -/
namespace Go.Proofs.YtchkjiadnackaaaGreatDoor
open Go.RowKit

def longMark (s : Int) : List UInt8 := if s = 1 then [109, 105, 110, 116] else if s = 2 then [117, 110, 117, 115, 101, 100] else [117, 115, 101, 100]
def withF : List UInt8 := [32, 119, 105, 116, 104, 32, 102, 97, 117, 108, 116, 115, 32]
def longFau : Nat → List Int → List UInt8
  | _, [] => []
  | k, f :: l => (if k = 0 then withF else [44]) ++ Lib.itoa f ++ longFau (k + 1) l
def longPri (p : Int) : List UInt8 := if 0 < p then [32, 97, 116, 32] ++ Lib.itoa p else []
def longT (x : Ph) : List UInt8 := Lib.itoa x.c ++ [32] ++ longMark x.s ++ longFau 0 x.f ++ longPri x.p
theorem longFau_step {l : List Int} {k : Nat} (h : k < l.length) : longFau k (l.drop k) = (if k = 0 then withF else [44]) ++ Lib.itoa l[k] ++ longFau (k + 1) (l.drop (k + 1)) := by
  rw [List.drop_eq_getElem_cons h, longFau]
theorem longFau_tail : ∀ (l : List Int) (k : Nat), longFau (k + 1) l = Lib.joinTail [44] (l.map Lib.itoa)
  | [], _ => rfl
  | f :: l, k => by rw [longFau, longFau_tail l]; simp [Lib.joinTail]
theorem longFau_join (l : List Int) (h : 0 < l.length) : longFau 0 l = withF ++ Lib.join (l.map Lib.itoa) [44] := by
  cases l with
  | nil => simp at h
  | cons f l => rw [longFau, longFau_tail, List.map_cons, Lib.join_cons]; simp
end Go.Proofs.YtchkjiadnackaaaGreatDoor

/- The long text of a phrase, in the reference. -/
namespace Go.Proofs.YtchkjiadnackaaaGreatDoor
open Go.RowKit

set_option maxRecDepth 100000 in
set_option maxHeartbeats 20000000 in
theorem specLongText_any (x : Ph) (w : World) (h : IntsR w w.heap.size x.A x.f) :
    Calls Tryz.prog 21 #[x.val] w fun e w' => e = .returned (.tuple #[.string (okT x.ok (longT x)), .bool x.ok]) ∧ Below w.heap.size w w' := by
  have b1 := (Below.refl w.heap.size w).alloc (Nat.le_refl _) (.cells #[.int .i64 x.s, .int .i64 x.c, .slice x.A x.f.length x.cap, .int .i64 x.p] 26)
  have L0 := Lies.new w 26 #[.int .i64 x.s, .int .i64 x.c, .slice x.A x.f.length x.cap, .int .i64 x.p]
  have hR := SlcR.up h b1 (Nat.le_refl _)
  cases hok : x.ok
  · have HOK := Lib.hid hok; clear hok
    go_enter Tryz.func21, Tryz.ntmps21
    go_wp2_with fail
    generalize w.alloc (.cells #[.int .i64 x.s, .int .i64 x.c, .slice x.A x.f.length x.cap, .int .i64 x.p] 26) = W at b1 L0 hR ⊢
    refine (l30One_any x _ hR).mono ?_
    rw [HOK.out]
    rintro e w1 ⟨rfl, hb1⟩
    go_wp2
    go_ret2
    exact ⟨rfl, bthen b1 hb1⟩
  · obtain ⟨⟨s1, s2⟩, ⟨c1, c2⟩, hr, p1, p2⟩ := Ph.bounds hok
    have hnine := faults_nine hr
    have HRI : Hid (∀ i (hi : i < x.f.length), 1 ≤ x.f[i] ∧ x.f[i] ≤ 9) := fun i hi => by
      rw [rises_eq, Bool.and_eq_true, List.all_eq_true] at hr
      exact inR_iff.1 (hr.2 _ (List.getElem_mem hi))
    clear hr
    have HOK := Lib.hid hok; clear hok
    have hs : x.s = 1 ∨ x.s = 2 ∨ x.s = 3 := by omega
    obtain ⟨cv, hcv⟩ : ∃ s : ByteArray, s = ⟨(Lib.itoa x.c).toArray⟩ := ⟨_, rfl⟩
    have hcs : cv.size ≤ 100 := by rw [hcv]; exact itoa_len (by omega) (by omega)
    have NUMC : ∀ W : World, Calls Tryz.prog 41 #[.int .i64 x.c] W fun e w' => e = .returned (.string cv) ∧ Below W.heap.size W w' := by
      intro W; rw [hcv]; exact l1Num_any _ _ (by omega) (by omega)
    replace NUMC := Lib.hid NUMC
    have HCV : Hid (bl cv = Lib.itoa x.c) := by rw [hcv, Hid, bl_mk]
    clear hcv
    go_enter Tryz.func21, Tryz.ntmps21
    go_wp2_with fail
    generalize w.alloc (.cells #[.int .i64 x.s, .int .i64 x.c, .slice x.A x.f.length x.cap, .int .i64 x.p] 26) = W at b1 L0 hR ⊢
    generalize w.heap.size = g0 at L0 ⊢
    refine (l30One_any x _ hR).mono ?_
    rw [HOK.out]
    rintro e w1 ⟨rfl, hb1⟩
    have L1 := L0.below hb1 L0.lt
    have k0 := L1.cell 0
    have k1 := L1.cell 1
    have k2 := L1.cell 2
    have k3 := L1.cell 3
    simp only [List.getElem?_cons_zero, List.getElem?_cons_succ] at k0 k1 k2 k3
    go_wp2_with fail
    rename_i K aK
    have REST : ∀ (T : ByteArray) (u6 u9 u10 u11 u12 u13 u14 u15 u16 u17 u18 u19 : Value) (W' : World), T.size ≤ 120 → Hid (bl T = Lib.itoa x.c ++ [32] ++ longMark x.s) → Below w1.heap.size w1 W' → K { tmps := #[x.val, .pointer (some ⟨g0, 0, none⟩), .string ⟨#[]⟩, .bool false, .string T, undef, u6, .bool true, .bool false, u9, u10, u11, u12, u13, u14, u15, u16, u17, u18, u19, undef, undef, undef, undef, undef, undef, undef, undef, undef, undef, undef, undef, undef, undef, undef, undef, undef, undef, undef, undef, undef, undef, undef, undef, undef, undef, undef, undef, undef, undef, undef], defers := [] } W' := by
      intro T u6 u9 u10 u11 u12 u13 u14 u15 u16 u17 u18 u19 W' hT HT hbW
      apply aK
      have m2 := (hbW.cell L1.lt).trans k2
      have m3 := (hbW.cell L1.lt).trans k3
      clear k0 k1 k2 k3 aK
      have hb6 : Below w.heap.size w W' := bthen b1 (bthen hb1 hbW)
      have hRW := SlcR.then (SlcR.then hR hb1) hbW
      have n2 : ∀ p : Since W'.heap.size W', p.val.cell? ⟨g0, 2, none⟩ = some (.slice x.A x.f.length x.cap) := fun p => (p.cell (Nat.lt_of_lt_of_le L1.lt hbW.size)).trans m2
      have n3 : ∀ p : Since W'.heap.size W', p.val.cell? ⟨g0, 3, none⟩ = some (.int .i64 x.p) := fun p => (p.cell (Nat.lt_of_lt_of_le L1.lt hbW.size)).trans m3
      clear m2 m3 hs NUMC HCV
      go_wp2_with fail
      go_loopw [4, 5] (fun s i wr => ∃ (k : Nat) (T' : ByteArray), k ≤ x.f.length ∧ i = .int .i64 k ∧ s = .string T' ∧ T'.size ≤ 300 + 120 * k ∧ (∃ q : Since W'.heap.size W', wr = q.val) ∧ Hid (bl T' ++ longFau k (x.f.drop k) = bl T ++ longFau 0 x.f)) (fun _ i _ => x.f.length - (intOf i).toNat)
      case atStart => exact ⟨0, _, Nat.zero_le _, rfl, rfl, by omega, ⟨Since.start _ _, rfl⟩, rfl⟩
      case round =>
        obtain ⟨k, T', hk, rfl, rfl, hT', ⟨q, rfl⟩, HR⟩ := hrel
        by_cases hlt : k < x.f.length
        · obtain ⟨b, off, hA, hb, hcell⟩ := IntsR.ints hRW (by omega)
          have c0 := hcell k hlt
          obtain ⟨f1, f2⟩ := HRI.out k hlt
          have HS := Lib.hid (longFau_step hlt)
          obtain ⟨f, hfe⟩ : ∃ f, f = x.f[k] := ⟨_, rfl⟩
          rw [← hfe] at c0 f1 f2 HS
          simp only [hA] at n2
          clear hfe hcell hA
          obtain ⟨fv, hfv⟩ : ∃ s : ByteArray, s = ⟨(Lib.itoa f).toArray⟩ := ⟨_, rfl⟩
          have hfs : fv.size ≤ 100 := by rw [hfv]; exact itoa_len (by omega) (by omega)
          have NUMF : ∀ W : World, Calls Tryz.prog 41 #[.int .i64 f] W fun e w' => e = .returned (.string fv) ∧ Below W.heap.size W w' := by
            intro W; rw [hfv]; exact l1Num_any _ _ (by omega) (by omega)
          replace NUMF := Lib.hid NUMF
          have HFV : Hid (bl fv = Lib.itoa f) := by rw [hfv, Hid, bl_mk]
          clear hfv
          rcases Nat.eq_zero_or_pos k with h0 | h0
          · have hd1 : ((k : Int) == 0) = true := by simp [h0]
            have hd2 : decide ((k : Int) = 0) = true := decide_eq_true (by omega)
            have hd3 : decide (k = 0) = true := decide_eq_true h0
            have H0 := Lib.hid h0; clear h0
            go_wp2_with (go_at_call 41; refine (NUMF.out _).mono ?_; rintro e w4 ⟨rfl, hb4⟩)
            go_roundw
            case rel => exact ⟨k + 1, _, by omega, by go_num, rfl, by simp only [size_app]; (have e1 : (⟨#[44]⟩ : ByteArray).size = 1 := rfl); (have e2 : (⟨#[32, 119, 105, 116, 104, 32, 102, 97, 117, 108, 116, 115, 32]⟩ : ByteArray).size = 13 := rfl); omega, ⟨q.go (Nat.le_refl _) hb4, rfl⟩, by have h1 := HR.out; rw [HS.out, if_pos H0.out] at h1; rw [Hid, ← h1]; simp [bl_app, bl_lit, HFV.out, withF]⟩
            case measure => simp [intOf]; omega
          · have hd1 : ((k : Int) == 0) = false := by simp; omega
            have hd2 : decide ((k : Int) = 0) = false := decide_eq_false (by omega)
            have hd3 : decide (k = 0) = false := decide_eq_false (by omega)
            have h0' : ¬ k = 0 := by omega
            have H0 := Lib.hid h0'; clear h0'
            go_wp2_with (go_at_call 41; refine (NUMF.out _).mono ?_; rintro e w4 ⟨rfl, hb4⟩)
            go_roundw
            case rel => exact ⟨k + 1, _, by omega, by go_num, rfl, by simp only [size_app]; (have e1 : (⟨#[44]⟩ : ByteArray).size = 1 := rfl); (have e2 : (⟨#[32, 119, 105, 116, 104, 32, 102, 97, 117, 108, 116, 115, 32]⟩ : ByteArray).size = 13 := rfl); omega, ⟨q.go (Nat.le_refl _) hb4, rfl⟩, by have h1 := HR.out; rw [HS.out, if_neg H0.out] at h1; rw [Hid, ← h1]; simp [bl_app, bl_lit, HFV.out]⟩
            case measure => simp [intOf]; omega
        · have HE : Hid (bl T' = bl T ++ longFau 0 x.f) := by
            have h1 := HR.out; rw [List.drop_eq_nil_of_le (by omega), longFau, List.append_nil] at h1; exact h1
          by_cases hp : 0 < x.p
          · have HP : Hid (longPri x.p = [32, 97, 116, 32] ++ Lib.itoa x.p) := by unfold longPri Hid; rw [if_pos hp]
            obtain ⟨pv, hpv⟩ : ∃ s : ByteArray, s = ⟨(Lib.itoa x.p).toArray⟩ := ⟨_, rfl⟩
            have hps : pv.size ≤ 100 := by rw [hpv]; exact itoa_len (by omega) (by omega)
            have NUMP : ∀ W : World, Calls Tryz.prog 41 #[.int .i64 x.p] W fun e w' => e = .returned (.string pv) ∧ Below W.heap.size W w' := by
              intro W; rw [hpv]; exact l1Num_any _ _ (by omega) (by omega)
            replace NUMP := Lib.hid NUMP
            have HPV : Hid (bl pv = Lib.itoa x.p) := by rw [hpv, Hid, bl_mk]
            clear hpv
            go_wp2_with (go_at_call 41; refine (NUMP.out _).mono ?_; rintro e w3 ⟨rfl, hb3⟩)
            go_ret2
            have HF : T' ++ ⟨#[32, 97, 116, 32]⟩ ++ pv = (⟨(longT x).toArray⟩ : ByteArray) := bl_ext (by unfold longT; simp [bl_app, bl_lit, HE.out, HT.out, HP.out, HPV.out])
            have HF2 : okT true (longT x) = T' ++ ⟨#[32, 97, 116, 32]⟩ ++ pv := HF.symm
            rw [HF2]
            exact ⟨rfl, hb6.trans ((q.below.trans (hb3.mono q.size)).mono hb6.size)⟩
          · have HP : Hid (longPri x.p = []) := by unfold longPri Hid; rw [if_neg hp]
            go_wp2
            go_ret2
            have HF : T' = (⟨(longT x).toArray⟩ : ByteArray) := bl_ext (by unfold longT; simp [HE.out, HT.out, HP.out])
            have HF2 : okT true (longT x) = T' := HF.symm
            rw [HF2]
            exact ⟨rfl, hb6.trans (q.below.mono hb6.size)⟩
    have hg1 : g0 < w1.heap.size := L1.lt
    have hz1 : cv.size ≤ 9223372036854775806 := by omega
    have hz2 : cv.size ≤ 9223372036854775802 := by omega
    have hz3 : cv.size ≤ 9223372036854775800 := by omega
    rcases hs with hs | hs | hs
    · have HM : Hid (longMark x.s = [109, 105, 110, 116]) := by rw [hs]; rfl
      rw [hs] at k0
      have hsz : (cv ++ ⟨#[32]⟩ ++ ⟨#[109, 105, 110, 116]⟩ : ByteArray).size ≤ 120 := by simp only [size_app]; (have e1 : (⟨#[32]⟩ : ByteArray).size = 1 := rfl); (have e3 : (⟨#[109, 105, 110, 116]⟩ : ByteArray).size ≤ 6 := by decide); omega
      have K0 : ∀ W', Below w1.heap.size w1 W' → W'.cell? ⟨g0, 0, none⟩ = some (.int .i64 1) := fun W' hb => (hb.cell L1.lt).trans k0
      have K1 : ∀ W', Below w1.heap.size w1 W' → W'.cell? ⟨g0, 1, none⟩ = some (.int .i64 x.c) := fun W' hb => (hb.cell L1.lt).trans k1
      replace K0 := Lib.hid K0; replace K1 := Lib.hid K1
      clear k0 k1 k2 k3 hs
      refine wp_region_facts (fun W' => Below w1.heap.size w1 W') (fun W' W'' => Below W'.heap.size W' W'') (by kernel_rfl) (by kernel_rfl) (by kernel_rfl) (Below.refl _ _).drew ?_
      simp only [fillOps, Act.put, List.setIfInBounds_toArray, List.set_cons_zero, List.set_cons_succ, Nat.zero_add, Nat.reduceAdd]
      refine wpFacts_val (.pointer (some ⟨g0, 1, none⟩)) (fun vs w9 hC9 hB K9 hK9 => ?_) ?_
      · go_simp
        exact hK9 _ _ rfl hC9 (Below.refl _ _)
      refine wpFacts_val (.int .i64 x.c) (fun vs w9 hC9 hB K9 hK9 => ?_) ?_
      · have hd0 := hB 0 _ (by kernel_rfl) rfl
        simp only [hd0] at hK9 ⊢
        have kc := K1.out _ hC9
        go_simp
        exact hK9 _ _ rfl hC9 (Below.refl _ _)
      refine wpFacts_val (.string cv) (fun vs w9 hC9 hB K9 hK9 => ?_) ?_
      · have hd1 := hB 1 _ (by kernel_rfl) rfl
        simp only [hd1] at hK9 ⊢
        go_simp
        refine (NUMC.out _).mono ?_
        rintro e w8 ⟨rfl, hb8⟩
        exact hK9 _ _ rfl (hC9.trans (hb8.mono hC9.size)) hb8
      refine wpFacts_val (.string (cv ++ ⟨#[32]⟩)) (fun vs w9 hC9 hB K9 hK9 => ?_) ?_
      · have hd2 := hB 2 _ (by kernel_rfl) rfl
        simp only [hd2] at hK9 ⊢
        go_simp
        (first | (rw [if_neg (by omega)]; go_simp) | skip)
        exact hK9 _ _ rfl hC9 (Below.refl _ _)
      refine wpFacts_some (fun v W' => ∃ g, v = .slice (some ⟨g, 0, none⟩) 3 3 ∧ Lies W' g 9 [.string ⟨#[109, 105, 110, 116]⟩, .string ⟨#[117, 110, 117, 115, 101, 100]⟩, .string ⟨#[117, 115, 101, 100]⟩]) (fun v W' W'' ⟨g, e, hl⟩ hb => ⟨g, e, hl.below hb hl.lt⟩) (fun vs w9 hC9 hB K9 hK9 => ?_) ?_
      · go_simp
        exact hK9 _ _ _ rfl ⟨_, rfl, Lies.new _ _ #[.string ⟨#[109, 105, 110, 116]⟩, .string ⟨#[117, 110, 117, 115, 101, 100]⟩, .string ⟨#[117, 115, 101, 100]⟩]⟩ (hC9.alloc hC9.size _) ((Below.refl _ _).alloc (Nat.le_refl _) _)
      refine wpFacts_val (.pointer (some ⟨g0, 0, none⟩)) (fun vs w9 hC9 hB K9 hK9 => ?_) ?_
      · go_simp
        exact hK9 _ _ rfl hC9 (Below.refl _ _)
      refine wpFacts_val (.int .i64 1) (fun vs w9 hC9 hB K9 hK9 => ?_) ?_
      · have hd5 := hB 5 _ (by kernel_rfl) rfl
        simp only [hd5] at hK9 ⊢
        have kc := K0.out _ hC9
        go_simp
        exact hK9 _ _ rfl hC9 (Below.refl _ _)
      refine wpFacts_val (.int .i64 0) (fun vs w9 hC9 hB K9 hK9 => ?_) ?_
      · have hd6 := hB 6 _ (by kernel_rfl) rfl
        simp only [hd6] at hK9 ⊢
        go_simp
        exact hK9 _ _ rfl hC9 (Below.refl _ _)
      refine wpFacts_some (fun v W' => ∃ g, v = .pointer (some ⟨g, 0, none⟩) ∧ Lies W' g 9 [.string ⟨#[109, 105, 110, 116]⟩, .string ⟨#[117, 110, 117, 115, 101, 100]⟩, .string ⟨#[117, 115, 101, 100]⟩]) (fun v W' W'' ⟨g, e, hl⟩ hb => ⟨g, e, hl.below hb hl.lt⟩) (fun vs w9 hC9 hB K9 hK9 => ?_) ?_
      · have hd4 := hB 4 _ (by kernel_rfl) rfl
        have hd7 := hB 7 _ (by kernel_rfl) rfl
        obtain ⟨g, hv, hl⟩ := hd4
        simp only [hv, hd7] at hK9 ⊢
        go_simp
        exact hK9 _ _ _ rfl ⟨g, rfl, hl⟩ hC9 (Below.refl _ _)
      refine wpFacts_val (.string ⟨#[109, 105, 110, 116]⟩) (fun vs w9 hC9 hB K9 hK9 => ?_) ?_
      · obtain ⟨g, hv, hl⟩ := hB 8 _ (by kernel_rfl) rfl
        have hcell : w9.cell? ⟨g, 0, none⟩ = some (.string ⟨#[109, 105, 110, 116]⟩) := hl.cell 0
        simp only [hv] at hK9 ⊢
        go_simp
        exact hK9 _ _ rfl hC9 (Below.refl _ _)
      refine wpFacts_val (.string (cv ++ ⟨#[32]⟩ ++ ⟨#[109, 105, 110, 116]⟩)) (fun vs w9 hC9 hB K9 hK9 => ?_) ?_
      · have hd3 := hB 3 _ (by kernel_rfl) rfl
        have hd9 := hB 9 _ (by kernel_rfl) rfl
        simp only [hd3, hd9] at hK9 ⊢
        go_simp
        (first | (rw [if_neg (by omega)]; go_simp) | skip)
        exact hK9 _ _ rfl hC9 (Below.refl _ _)
      refine wpFacts_val (.string (cv ++ ⟨#[32]⟩ ++ ⟨#[109, 105, 110, 116]⟩)) (fun vs w9 hC9 hB K9 hK9 => ?_) ?_
      · have hd10 := hB 10 _ (by kernel_rfl) rfl
        simp only [hd10] at hK9 ⊢
        go_simp
        (first | (rw [if_neg (by omega)]; go_simp) | skip)
        exact hK9 _ _ rfl hC9 (Below.refl _ _)
      refine wpFacts_nil fun vs W' hC9 hB => ?_
      have hv11 := hB 11 _ rfl
      simp only [hv11]
      exact REST (cv ++ ⟨#[32]⟩ ++ ⟨#[109, 105, 110, 116]⟩) _ _ _ _ _ _ _ _ _ _ _ _ W' hsz (by rw [Hid, HM.out]; simp [bl_app, bl_lit, HCV.out]) hC9
    · have HM : Hid (longMark x.s = [117, 110, 117, 115, 101, 100]) := by rw [hs]; rfl
      rw [hs] at k0
      have hsz : (cv ++ ⟨#[32]⟩ ++ ⟨#[117, 110, 117, 115, 101, 100]⟩ : ByteArray).size ≤ 120 := by simp only [size_app]; (have e1 : (⟨#[32]⟩ : ByteArray).size = 1 := rfl); (have e3 : (⟨#[117, 110, 117, 115, 101, 100]⟩ : ByteArray).size ≤ 6 := by decide); omega
      have K0 : ∀ W', Below w1.heap.size w1 W' → W'.cell? ⟨g0, 0, none⟩ = some (.int .i64 2) := fun W' hb => (hb.cell L1.lt).trans k0
      have K1 : ∀ W', Below w1.heap.size w1 W' → W'.cell? ⟨g0, 1, none⟩ = some (.int .i64 x.c) := fun W' hb => (hb.cell L1.lt).trans k1
      replace K0 := Lib.hid K0; replace K1 := Lib.hid K1
      clear k0 k1 k2 k3 hs
      refine wp_region_facts (fun W' => Below w1.heap.size w1 W') (fun W' W'' => Below W'.heap.size W' W'') (by kernel_rfl) (by kernel_rfl) (by kernel_rfl) (Below.refl _ _).drew ?_
      simp only [fillOps, Act.put, List.setIfInBounds_toArray, List.set_cons_zero, List.set_cons_succ, Nat.zero_add, Nat.reduceAdd]
      refine wpFacts_val (.pointer (some ⟨g0, 1, none⟩)) (fun vs w9 hC9 hB K9 hK9 => ?_) ?_
      · go_simp
        exact hK9 _ _ rfl hC9 (Below.refl _ _)
      refine wpFacts_val (.int .i64 x.c) (fun vs w9 hC9 hB K9 hK9 => ?_) ?_
      · have hd0 := hB 0 _ (by kernel_rfl) rfl
        simp only [hd0] at hK9 ⊢
        have kc := K1.out _ hC9
        go_simp
        exact hK9 _ _ rfl hC9 (Below.refl _ _)
      refine wpFacts_val (.string cv) (fun vs w9 hC9 hB K9 hK9 => ?_) ?_
      · have hd1 := hB 1 _ (by kernel_rfl) rfl
        simp only [hd1] at hK9 ⊢
        go_simp
        refine (NUMC.out _).mono ?_
        rintro e w8 ⟨rfl, hb8⟩
        exact hK9 _ _ rfl (hC9.trans (hb8.mono hC9.size)) hb8
      refine wpFacts_val (.string (cv ++ ⟨#[32]⟩)) (fun vs w9 hC9 hB K9 hK9 => ?_) ?_
      · have hd2 := hB 2 _ (by kernel_rfl) rfl
        simp only [hd2] at hK9 ⊢
        go_simp
        (first | (rw [if_neg (by omega)]; go_simp) | skip)
        exact hK9 _ _ rfl hC9 (Below.refl _ _)
      refine wpFacts_some (fun v W' => ∃ g, v = .slice (some ⟨g, 0, none⟩) 3 3 ∧ Lies W' g 9 [.string ⟨#[109, 105, 110, 116]⟩, .string ⟨#[117, 110, 117, 115, 101, 100]⟩, .string ⟨#[117, 115, 101, 100]⟩]) (fun v W' W'' ⟨g, e, hl⟩ hb => ⟨g, e, hl.below hb hl.lt⟩) (fun vs w9 hC9 hB K9 hK9 => ?_) ?_
      · go_simp
        exact hK9 _ _ _ rfl ⟨_, rfl, Lies.new _ _ #[.string ⟨#[109, 105, 110, 116]⟩, .string ⟨#[117, 110, 117, 115, 101, 100]⟩, .string ⟨#[117, 115, 101, 100]⟩]⟩ (hC9.alloc hC9.size _) ((Below.refl _ _).alloc (Nat.le_refl _) _)
      refine wpFacts_val (.pointer (some ⟨g0, 0, none⟩)) (fun vs w9 hC9 hB K9 hK9 => ?_) ?_
      · go_simp
        exact hK9 _ _ rfl hC9 (Below.refl _ _)
      refine wpFacts_val (.int .i64 2) (fun vs w9 hC9 hB K9 hK9 => ?_) ?_
      · have hd5 := hB 5 _ (by kernel_rfl) rfl
        simp only [hd5] at hK9 ⊢
        have kc := K0.out _ hC9
        go_simp
        exact hK9 _ _ rfl hC9 (Below.refl _ _)
      refine wpFacts_val (.int .i64 1) (fun vs w9 hC9 hB K9 hK9 => ?_) ?_
      · have hd6 := hB 6 _ (by kernel_rfl) rfl
        simp only [hd6] at hK9 ⊢
        go_simp
        exact hK9 _ _ rfl hC9 (Below.refl _ _)
      refine wpFacts_some (fun v W' => ∃ g, v = .pointer (some ⟨g, 1, none⟩) ∧ Lies W' g 9 [.string ⟨#[109, 105, 110, 116]⟩, .string ⟨#[117, 110, 117, 115, 101, 100]⟩, .string ⟨#[117, 115, 101, 100]⟩]) (fun v W' W'' ⟨g, e, hl⟩ hb => ⟨g, e, hl.below hb hl.lt⟩) (fun vs w9 hC9 hB K9 hK9 => ?_) ?_
      · have hd4 := hB 4 _ (by kernel_rfl) rfl
        have hd7 := hB 7 _ (by kernel_rfl) rfl
        obtain ⟨g, hv, hl⟩ := hd4
        simp only [hv, hd7] at hK9 ⊢
        go_simp
        exact hK9 _ _ _ rfl ⟨g, rfl, hl⟩ hC9 (Below.refl _ _)
      refine wpFacts_val (.string ⟨#[117, 110, 117, 115, 101, 100]⟩) (fun vs w9 hC9 hB K9 hK9 => ?_) ?_
      · obtain ⟨g, hv, hl⟩ := hB 8 _ (by kernel_rfl) rfl
        have hcell : w9.cell? ⟨g, 1, none⟩ = some (.string ⟨#[117, 110, 117, 115, 101, 100]⟩) := hl.cell 1
        simp only [hv] at hK9 ⊢
        go_simp
        exact hK9 _ _ rfl hC9 (Below.refl _ _)
      refine wpFacts_val (.string (cv ++ ⟨#[32]⟩ ++ ⟨#[117, 110, 117, 115, 101, 100]⟩)) (fun vs w9 hC9 hB K9 hK9 => ?_) ?_
      · have hd3 := hB 3 _ (by kernel_rfl) rfl
        have hd9 := hB 9 _ (by kernel_rfl) rfl
        simp only [hd3, hd9] at hK9 ⊢
        go_simp
        (first | (rw [if_neg (by omega)]; go_simp) | skip)
        exact hK9 _ _ rfl hC9 (Below.refl _ _)
      refine wpFacts_val (.string (cv ++ ⟨#[32]⟩ ++ ⟨#[117, 110, 117, 115, 101, 100]⟩)) (fun vs w9 hC9 hB K9 hK9 => ?_) ?_
      · have hd10 := hB 10 _ (by kernel_rfl) rfl
        simp only [hd10] at hK9 ⊢
        go_simp
        (first | (rw [if_neg (by omega)]; go_simp) | skip)
        exact hK9 _ _ rfl hC9 (Below.refl _ _)
      refine wpFacts_nil fun vs W' hC9 hB => ?_
      have hv11 := hB 11 _ rfl
      simp only [hv11]
      exact REST (cv ++ ⟨#[32]⟩ ++ ⟨#[117, 110, 117, 115, 101, 100]⟩) _ _ _ _ _ _ _ _ _ _ _ _ W' hsz (by rw [Hid, HM.out]; simp [bl_app, bl_lit, HCV.out]) hC9
    · have HM : Hid (longMark x.s = [117, 115, 101, 100]) := by rw [hs]; rfl
      rw [hs] at k0
      have hsz : (cv ++ ⟨#[32]⟩ ++ ⟨#[117, 115, 101, 100]⟩ : ByteArray).size ≤ 120 := by simp only [size_app]; (have e1 : (⟨#[32]⟩ : ByteArray).size = 1 := rfl); (have e3 : (⟨#[117, 115, 101, 100]⟩ : ByteArray).size ≤ 6 := by decide); omega
      have K0 : ∀ W', Below w1.heap.size w1 W' → W'.cell? ⟨g0, 0, none⟩ = some (.int .i64 3) := fun W' hb => (hb.cell L1.lt).trans k0
      have K1 : ∀ W', Below w1.heap.size w1 W' → W'.cell? ⟨g0, 1, none⟩ = some (.int .i64 x.c) := fun W' hb => (hb.cell L1.lt).trans k1
      replace K0 := Lib.hid K0; replace K1 := Lib.hid K1
      clear k0 k1 k2 k3 hs
      refine wp_region_facts (fun W' => Below w1.heap.size w1 W') (fun W' W'' => Below W'.heap.size W' W'') (by kernel_rfl) (by kernel_rfl) (by kernel_rfl) (Below.refl _ _).drew ?_
      simp only [fillOps, Act.put, List.setIfInBounds_toArray, List.set_cons_zero, List.set_cons_succ, Nat.zero_add, Nat.reduceAdd]
      refine wpFacts_val (.pointer (some ⟨g0, 1, none⟩)) (fun vs w9 hC9 hB K9 hK9 => ?_) ?_
      · go_simp
        exact hK9 _ _ rfl hC9 (Below.refl _ _)
      refine wpFacts_val (.int .i64 x.c) (fun vs w9 hC9 hB K9 hK9 => ?_) ?_
      · have hd0 := hB 0 _ (by kernel_rfl) rfl
        simp only [hd0] at hK9 ⊢
        have kc := K1.out _ hC9
        go_simp
        exact hK9 _ _ rfl hC9 (Below.refl _ _)
      refine wpFacts_val (.string cv) (fun vs w9 hC9 hB K9 hK9 => ?_) ?_
      · have hd1 := hB 1 _ (by kernel_rfl) rfl
        simp only [hd1] at hK9 ⊢
        go_simp
        refine (NUMC.out _).mono ?_
        rintro e w8 ⟨rfl, hb8⟩
        exact hK9 _ _ rfl (hC9.trans (hb8.mono hC9.size)) hb8
      refine wpFacts_val (.string (cv ++ ⟨#[32]⟩)) (fun vs w9 hC9 hB K9 hK9 => ?_) ?_
      · have hd2 := hB 2 _ (by kernel_rfl) rfl
        simp only [hd2] at hK9 ⊢
        go_simp
        (first | (rw [if_neg (by omega)]; go_simp) | skip)
        exact hK9 _ _ rfl hC9 (Below.refl _ _)
      refine wpFacts_some (fun v W' => ∃ g, v = .slice (some ⟨g, 0, none⟩) 3 3 ∧ Lies W' g 9 [.string ⟨#[109, 105, 110, 116]⟩, .string ⟨#[117, 110, 117, 115, 101, 100]⟩, .string ⟨#[117, 115, 101, 100]⟩]) (fun v W' W'' ⟨g, e, hl⟩ hb => ⟨g, e, hl.below hb hl.lt⟩) (fun vs w9 hC9 hB K9 hK9 => ?_) ?_
      · go_simp
        exact hK9 _ _ _ rfl ⟨_, rfl, Lies.new _ _ #[.string ⟨#[109, 105, 110, 116]⟩, .string ⟨#[117, 110, 117, 115, 101, 100]⟩, .string ⟨#[117, 115, 101, 100]⟩]⟩ (hC9.alloc hC9.size _) ((Below.refl _ _).alloc (Nat.le_refl _) _)
      refine wpFacts_val (.pointer (some ⟨g0, 0, none⟩)) (fun vs w9 hC9 hB K9 hK9 => ?_) ?_
      · go_simp
        exact hK9 _ _ rfl hC9 (Below.refl _ _)
      refine wpFacts_val (.int .i64 3) (fun vs w9 hC9 hB K9 hK9 => ?_) ?_
      · have hd5 := hB 5 _ (by kernel_rfl) rfl
        simp only [hd5] at hK9 ⊢
        have kc := K0.out _ hC9
        go_simp
        exact hK9 _ _ rfl hC9 (Below.refl _ _)
      refine wpFacts_val (.int .i64 2) (fun vs w9 hC9 hB K9 hK9 => ?_) ?_
      · have hd6 := hB 6 _ (by kernel_rfl) rfl
        simp only [hd6] at hK9 ⊢
        go_simp
        exact hK9 _ _ rfl hC9 (Below.refl _ _)
      refine wpFacts_some (fun v W' => ∃ g, v = .pointer (some ⟨g, 2, none⟩) ∧ Lies W' g 9 [.string ⟨#[109, 105, 110, 116]⟩, .string ⟨#[117, 110, 117, 115, 101, 100]⟩, .string ⟨#[117, 115, 101, 100]⟩]) (fun v W' W'' ⟨g, e, hl⟩ hb => ⟨g, e, hl.below hb hl.lt⟩) (fun vs w9 hC9 hB K9 hK9 => ?_) ?_
      · have hd4 := hB 4 _ (by kernel_rfl) rfl
        have hd7 := hB 7 _ (by kernel_rfl) rfl
        obtain ⟨g, hv, hl⟩ := hd4
        simp only [hv, hd7] at hK9 ⊢
        go_simp
        exact hK9 _ _ _ rfl ⟨g, rfl, hl⟩ hC9 (Below.refl _ _)
      refine wpFacts_val (.string ⟨#[117, 115, 101, 100]⟩) (fun vs w9 hC9 hB K9 hK9 => ?_) ?_
      · obtain ⟨g, hv, hl⟩ := hB 8 _ (by kernel_rfl) rfl
        have hcell : w9.cell? ⟨g, 2, none⟩ = some (.string ⟨#[117, 115, 101, 100]⟩) := hl.cell 2
        simp only [hv] at hK9 ⊢
        go_simp
        exact hK9 _ _ rfl hC9 (Below.refl _ _)
      refine wpFacts_val (.string (cv ++ ⟨#[32]⟩ ++ ⟨#[117, 115, 101, 100]⟩)) (fun vs w9 hC9 hB K9 hK9 => ?_) ?_
      · have hd3 := hB 3 _ (by kernel_rfl) rfl
        have hd9 := hB 9 _ (by kernel_rfl) rfl
        simp only [hd3, hd9] at hK9 ⊢
        go_simp
        (first | (rw [if_neg (by omega)]; go_simp) | skip)
        exact hK9 _ _ rfl hC9 (Below.refl _ _)
      refine wpFacts_val (.string (cv ++ ⟨#[32]⟩ ++ ⟨#[117, 115, 101, 100]⟩)) (fun vs w9 hC9 hB K9 hK9 => ?_) ?_
      · have hd10 := hB 10 _ (by kernel_rfl) rfl
        simp only [hd10] at hK9 ⊢
        go_simp
        (first | (rw [if_neg (by omega)]; go_simp) | skip)
        exact hK9 _ _ rfl hC9 (Below.refl _ _)
      refine wpFacts_nil fun vs W' hC9 hB => ?_
      have hv11 := hB 11 _ rfl
      simp only [hv11]
      exact REST (cv ++ ⟨#[32]⟩ ++ ⟨#[117, 115, 101, 100]⟩) _ _ _ _ _ _ _ _ _ _ _ _ W' hsz (by rw [Hid, HM.out]; simp [bl_app, bl_lit, HCV.out]) hC9
end Go.Proofs.YtchkjiadnackaaaGreatDoor

/- The long text of a phrase, in the program. -/
namespace Go.Proofs.YtchkjiadnackaaaGreatDoor
open Go.RowKit

set_option maxRecDepth 100000 in
set_option maxHeartbeats 2000000 in
theorem implLongText_any (x : Ph) (w : World) (h : IntsR w w.heap.size x.A x.f) (ht : Tab w) :
    Calls Tryz.prog 20 #[x.val] w fun e w' => e = .returned (.tuple #[.string (okT x.ok (longT x)), .bool x.ok]) ∧ Below w.heap.size w w' := by
  have b1 := (Below.refl w.heap.size w).alloc (Nat.le_refl _) (.cells #[.int .i64 x.s, .int .i64 x.c, .slice x.A x.f.length x.cap, .int .i64 x.p] 26)
  have L0 := Lies.new w 26 #[.int .i64 x.s, .int .i64 x.c, .slice x.A x.f.length x.cap, .int .i64 x.p]
  have hR := SlcR.up h b1 (Nat.le_refl _)
  have ht1 := ht.then b1
  cases hok : x.ok
  · have HOK := Lib.hid hok; clear hok
    go_enter Tryz.func20, Tryz.ntmps20
    go_wp2_with fail
    generalize w.alloc (.cells #[.int .i64 x.s, .int .i64 x.c, .slice x.A x.f.length x.cap, .int .i64 x.p] 26) = W at b1 L0 hR ⊢
    refine (isPhrase_any x _ hR).mono ?_
    rw [HOK.out]
    rintro e w1 ⟨rfl, hb1⟩
    go_wp2
    go_ret2
    exact ⟨rfl, bthen b1 hb1⟩
  · obtain ⟨⟨s1, s2⟩, ⟨c1, c2⟩, hr, p1, p2⟩ := Ph.bounds hok
    have hnine := faults_nine hr
    have HRI : Hid (∀ i (hi : i < x.f.length), 1 ≤ x.f[i] ∧ x.f[i] ≤ 9) := fun i hi => by
      rw [rises_eq, Bool.and_eq_true, List.all_eq_true] at hr
      exact inR_iff.1 (hr.2 _ (List.getElem_mem hi))
    clear hr
    have HOK := Lib.hid hok; clear hok
    have hs : x.s = 1 ∨ x.s = 2 ∨ x.s = 3 := by omega
    obtain ⟨cv, hcv⟩ : ∃ s : ByteArray, s = ⟨(Lib.itoa x.c).toArray⟩ := ⟨_, rfl⟩
    have hcs : cv.size ≤ 100 := by rw [hcv]; exact itoa_len (by omega) (by omega)
    have NUMC : ∀ W : World, Tab W → Calls Tryz.prog 39 #[.int .i64 x.c] W fun e w' => e = .returned (.string cv) ∧ Below W.heap.size W w' := by
      intro W hW; rw [hcv]; exact itoa_any _ _ (by omega) (by omega) hW
    replace NUMC := Lib.hid NUMC
    have HCV : Hid (bl cv = Lib.itoa x.c) := by rw [hcv, Hid, bl_mk]
    clear hcv
    go_enter Tryz.func20, Tryz.ntmps20
    go_wp2_with fail
    generalize w.alloc (.cells #[.int .i64 x.s, .int .i64 x.c, .slice x.A x.f.length x.cap, .int .i64 x.p] 26) = W at b1 L0 hR ht1 ⊢
    generalize w.heap.size = g0 at L0 ⊢
    refine (isPhrase_any x _ hR).mono ?_
    rw [HOK.out]
    rintro e w1 ⟨rfl, hb1⟩
    have L1 := L0.below hb1 L0.lt
    have k0 := L1.cell 0
    have k1 := L1.cell 1
    have k2 := L1.cell 2
    have k3 := L1.cell 3
    simp only [List.getElem?_cons_zero, List.getElem?_cons_succ] at k0 k1 k2 k3
    have ht2 := ht1.then hb1
    go_wp2_with fail
    rename_i K aK
    have REST : ∀ (T : ByteArray) (u5 u8 u9 u10 u11 u12 u13 u14 u15 u16 u17 : Value) (W' : World), T.size ≤ 120 → Hid (bl T = Lib.itoa x.c ++ [32] ++ longMark x.s) → Below w1.heap.size w1 W' → K { tmps := #[x.val, .pointer (some ⟨g0, 0, none⟩), .string ⟨#[]⟩, .bool false, .string T, u5, .bool true, .bool false, u8, u9, u10, u11, u12, u13, u14, u15, u16, u17, undef, undef, undef, undef, undef, undef, undef, undef, undef, undef, undef, undef, undef, undef, undef, undef, undef, undef, undef, undef], defers := [] } W' := by
      intro T u5 u8 u9 u10 u11 u12 u13 u14 u15 u16 u17 W' hT HT hbW
      apply aK
      have m2 := (hbW.cell L1.lt).trans k2
      have m3 := (hbW.cell L1.lt).trans k3
      clear k0 k1 k2 k3 aK
      have hb6 : Below w.heap.size w W' := bthen b1 (bthen hb1 hbW)
      have hRW := SlcR.then (SlcR.then hR hb1) hbW
      have ht6 := ht2.then hbW
      clear hs NUMC HCV
      by_cases hlen : 0 < x.f.length
      · have HZ := Lib.hid (longFau_join x.f hlen)
        have hj := join_le [44] 100 (x.f.map Lib.itoa) fun y hy => by
          obtain ⟨n, hn, rfl⟩ := List.mem_map.1 hy
          obtain ⟨i, hi, rfl⟩ := List.getElem_of_mem hn
          exact itoa_len' (by have := HRI.out i hi; omega) (by have := HRI.out i hi; omega)
        rw [List.length_map] at hj
        simp only [List.length_cons, List.length_nil] at hj
        obtain ⟨jv, hjv⟩ : ∃ s : ByteArray, s = ⟨(Lib.join (x.f.map Lib.itoa) [44]).toArray⟩ := ⟨_, rfl⟩
        have hjs : jv.size ≤ 1000 := by rw [← bl_size, hjv, bl_mk]; omega
        have JOIN : Calls Tryz.prog 40 #[.slice x.A x.f.length x.cap, .string ⟨#[44]⟩] W' fun e w' => e = .returned (.string jv) ∧ Below W'.heap.size W' w' := by
          rw [hjv]; exact joinInts_any x.A x.cap x.f ⟨#[44]⟩ W' hRW hnine HRI.out (by decide) ht6
        replace JOIN := Lib.hid JOIN
        have HJV : Hid (bl jv = Lib.join (x.f.map Lib.itoa) [44]) := by rw [hjv, Hid, bl_mk]
        clear hjv hj
        by_cases hp : 0 < x.p
        · have HP : Hid (longPri x.p = [32, 97, 116, 32] ++ Lib.itoa x.p) := by unfold longPri Hid; rw [if_pos hp]
          obtain ⟨pv, hpv⟩ : ∃ s : ByteArray, s = ⟨(Lib.itoa x.p).toArray⟩ := ⟨_, rfl⟩
          have hps : pv.size ≤ 100 := by rw [hpv]; exact itoa_len (by omega) (by omega)
          have NUMP : ∀ W : World, Tab W → Calls Tryz.prog 39 #[.int .i64 x.p] W fun e w' => e = .returned (.string pv) ∧ Below W.heap.size W w' := by
            intro W hW; rw [hpv]; exact itoa_any _ _ (by omega) (by omega) hW
          replace NUMP := Lib.hid NUMP
          have HPV : Hid (bl pv = Lib.itoa x.p) := by rw [hpv, Hid, bl_mk]
          clear hpv
          go_wp2_with (first | (go_at_call 40; refine JOIN.out.mono ?_; rintro e w5 ⟨rfl, hb5⟩; have n3 := (hb5.cell (Nat.lt_of_lt_of_le L1.lt hbW.size)).trans m3) | (go_at_call 39; refine (NUMP.out _ (ht6.then hb5)).mono ?_; rintro e w3 ⟨rfl, hb3⟩))
          go_ret2
          have HF : (T ++ (⟨#[32, 119, 105, 116, 104, 32, 102, 97, 117, 108, 116, 115, 32]⟩ ++ jv)) ++ (⟨#[32, 97, 116, 32]⟩ ++ pv) = (⟨(longT x).toArray⟩ : ByteArray) := bl_ext (by unfold longT; simp [bl_app, bl_lit, HT.out, HZ.out, HP.out, HPV.out, HJV.out, withF])
          have HF2 : okT true (longT x) = (T ++ (⟨#[32, 119, 105, 116, 104, 32, 102, 97, 117, 108, 116, 115, 32]⟩ ++ jv)) ++ (⟨#[32, 97, 116, 32]⟩ ++ pv) := HF.symm
          rw [HF2]
          exact ⟨rfl, hb6.trans ((hb5.trans (hb3.mono hb5.size)).mono hb6.size)⟩
        · have HP : Hid (longPri x.p = []) := by unfold longPri Hid; rw [if_neg hp]
          go_wp2_with (first | (go_at_call 40; refine JOIN.out.mono ?_; rintro e w5 ⟨rfl, hb5⟩; have n3 := (hb5.cell (Nat.lt_of_lt_of_le L1.lt hbW.size)).trans m3) | fail)
          go_ret2
          have HF : (T ++ (⟨#[32, 119, 105, 116, 104, 32, 102, 97, 117, 108, 116, 115, 32]⟩ ++ jv)) = (⟨(longT x).toArray⟩ : ByteArray) := bl_ext (by unfold longT; simp [bl_app, bl_lit, HT.out, HZ.out, HP.out, HJV.out, withF])
          have HF2 : okT true (longT x) = (T ++ (⟨#[32, 119, 105, 116, 104, 32, 102, 97, 117, 108, 116, 115, 32]⟩ ++ jv)) := HF.symm
          rw [HF2]
          exact ⟨rfl, hb6.trans (hb5.mono hb6.size)⟩
      · have hz0 : x.f = [] := List.eq_nil_of_length_eq_zero (by omega)
        have HZ : Hid (longFau 0 x.f = []) := by rw [hz0]; rfl
        clear hz0
        by_cases hp : 0 < x.p
        · have HP : Hid (longPri x.p = [32, 97, 116, 32] ++ Lib.itoa x.p) := by unfold longPri Hid; rw [if_pos hp]
          obtain ⟨pv, hpv⟩ : ∃ s : ByteArray, s = ⟨(Lib.itoa x.p).toArray⟩ := ⟨_, rfl⟩
          have hps : pv.size ≤ 100 := by rw [hpv]; exact itoa_len (by omega) (by omega)
          have NUMP : ∀ W : World, Tab W → Calls Tryz.prog 39 #[.int .i64 x.p] W fun e w' => e = .returned (.string pv) ∧ Below W.heap.size W w' := by
            intro W hW; rw [hpv]; exact itoa_any _ _ (by omega) (by omega) hW
          replace NUMP := Lib.hid NUMP
          have HPV : Hid (bl pv = Lib.itoa x.p) := by rw [hpv, Hid, bl_mk]
          clear hpv
          go_wp2_with (first | (go_at_call 39; refine (NUMP.out _ ht6).mono ?_; rintro e w3 ⟨rfl, hb3⟩))
          go_ret2
          have HF : T ++ (⟨#[32, 97, 116, 32]⟩ ++ pv) = (⟨(longT x).toArray⟩ : ByteArray) := bl_ext (by unfold longT; simp [bl_app, bl_lit, HT.out, HZ.out, HP.out, HPV.out])
          have HF2 : okT true (longT x) = T ++ (⟨#[32, 97, 116, 32]⟩ ++ pv) := HF.symm
          rw [HF2]
          exact ⟨rfl, hb6.trans (hb3.mono hb6.size)⟩
        · have HP : Hid (longPri x.p = []) := by unfold longPri Hid; rw [if_neg hp]
          go_wp2_with fail
          go_ret2
          have HF : T = (⟨(longT x).toArray⟩ : ByteArray) := bl_ext (by unfold longT; simp [bl_app, bl_lit, HT.out, HZ.out, HP.out])
          have HF2 : okT true (longT x) = T := HF.symm
          rw [HF2]
          exact ⟨rfl, hb6⟩
    rcases hs with hs | hs | hs
    · have HM : Hid (longMark x.s = [109, 105, 110, 116]) := by rw [hs]; rfl
      rw [hs] at k0
      have r0 : ∀ p : Since w1.heap.size w1, p.val.cell? ⟨g0, 0, none⟩ = some (.int .i64 1) := fun p => (p.cell L1.lt).trans k0
      have r1 : ∀ p : Since w1.heap.size w1, p.val.cell? ⟨g0, 1, none⟩ = some (.int .i64 x.c) := fun p => (p.cell L1.lt).trans k1
      have HX0 := fun W => idx3_0 ⟨#[109, 105, 110, 116]⟩ ⟨#[117, 110, 117, 115, 101, 100]⟩ ⟨#[117, 115, 101, 100]⟩ W
      have HX1 : ∀ W, (Instr.index 57 (.agg #[.string ⟨#[109, 105, 110, 116]⟩, .string ⟨#[117, 110, 117, 115, 101, 100]⟩, .string ⟨#[117, 115, 101, 100]⟩]) (.int .i64 (IntKind.i64.wrap 0))).run Tryz.prog W = .ok (.string ⟨#[109, 105, 110, 116]⟩) W := HX0
      refine wp_region_since0 (by kernel_rfl) (by kernel_rfl) ?_
      repeat (any_goals (first | go_big_quiet_step ((go_at_call 39; refine calls_since (Nat.le_refl _) (NUMC.out _ (ht2.at _)))) | (refine wpQuiet_step (fun K hK => ?_); go_simp; split <;> (refine hK _ ?_; clear hK K))))
      all_goals (refine wpQuiet_nil ?_; rintro _ ⟨q1, rfl⟩)
      exact REST (cv ++ ⟨#[32]⟩ ++ ⟨#[109, 105, 110, 116]⟩) _ _ _ _ _ _ _ _ _ _ _ _ (by simp only [size_app]; (have e1 : (⟨#[32]⟩ : ByteArray).size = 1 := rfl); (have e3 : (⟨#[109, 105, 110, 116]⟩ : ByteArray).size ≤ 6 := by decide); omega) (by rw [Hid, HM.out]; simp [bl_app, bl_lit, HCV.out]) q1.below
    · have HM : Hid (longMark x.s = [117, 110, 117, 115, 101, 100]) := by rw [hs]; rfl
      rw [hs] at k0
      have r0 : ∀ p : Since w1.heap.size w1, p.val.cell? ⟨g0, 0, none⟩ = some (.int .i64 2) := fun p => (p.cell L1.lt).trans k0
      have r1 : ∀ p : Since w1.heap.size w1, p.val.cell? ⟨g0, 1, none⟩ = some (.int .i64 x.c) := fun p => (p.cell L1.lt).trans k1
      have HX0 := fun W => idx3_1 ⟨#[109, 105, 110, 116]⟩ ⟨#[117, 110, 117, 115, 101, 100]⟩ ⟨#[117, 115, 101, 100]⟩ W
      have HX1 : ∀ W, (Instr.index 57 (.agg #[.string ⟨#[109, 105, 110, 116]⟩, .string ⟨#[117, 110, 117, 115, 101, 100]⟩, .string ⟨#[117, 115, 101, 100]⟩]) (.int .i64 (IntKind.i64.wrap 1))).run Tryz.prog W = .ok (.string ⟨#[117, 110, 117, 115, 101, 100]⟩) W := HX0
      refine wp_region_since0 (by kernel_rfl) (by kernel_rfl) ?_
      repeat (any_goals (first | go_big_quiet_step ((go_at_call 39; refine calls_since (Nat.le_refl _) (NUMC.out _ (ht2.at _)))) | (refine wpQuiet_step (fun K hK => ?_); go_simp; split <;> (refine hK _ ?_; clear hK K))))
      all_goals (refine wpQuiet_nil ?_; rintro _ ⟨q1, rfl⟩)
      exact REST (cv ++ ⟨#[32]⟩ ++ ⟨#[117, 110, 117, 115, 101, 100]⟩) _ _ _ _ _ _ _ _ _ _ _ _ (by simp only [size_app]; (have e1 : (⟨#[32]⟩ : ByteArray).size = 1 := rfl); (have e3 : (⟨#[117, 110, 117, 115, 101, 100]⟩ : ByteArray).size ≤ 6 := by decide); omega) (by rw [Hid, HM.out]; simp [bl_app, bl_lit, HCV.out]) q1.below
    · have HM : Hid (longMark x.s = [117, 115, 101, 100]) := by rw [hs]; rfl
      rw [hs] at k0
      have r0 : ∀ p : Since w1.heap.size w1, p.val.cell? ⟨g0, 0, none⟩ = some (.int .i64 3) := fun p => (p.cell L1.lt).trans k0
      have r1 : ∀ p : Since w1.heap.size w1, p.val.cell? ⟨g0, 1, none⟩ = some (.int .i64 x.c) := fun p => (p.cell L1.lt).trans k1
      have HX0 := fun W => idx3_2 ⟨#[109, 105, 110, 116]⟩ ⟨#[117, 110, 117, 115, 101, 100]⟩ ⟨#[117, 115, 101, 100]⟩ W
      have HX1 : ∀ W, (Instr.index 57 (.agg #[.string ⟨#[109, 105, 110, 116]⟩, .string ⟨#[117, 110, 117, 115, 101, 100]⟩, .string ⟨#[117, 115, 101, 100]⟩]) (.int .i64 (IntKind.i64.wrap 2))).run Tryz.prog W = .ok (.string ⟨#[117, 115, 101, 100]⟩) W := HX0
      refine wp_region_since0 (by kernel_rfl) (by kernel_rfl) ?_
      repeat (any_goals (first | go_big_quiet_step ((go_at_call 39; refine calls_since (Nat.le_refl _) (NUMC.out _ (ht2.at _)))) | (refine wpQuiet_step (fun K hK => ?_); go_simp; split <;> (refine hK _ ?_; clear hK K))))
      all_goals (refine wpQuiet_nil ?_; rintro _ ⟨q1, rfl⟩)
      exact REST (cv ++ ⟨#[32]⟩ ++ ⟨#[117, 115, 101, 100]⟩) _ _ _ _ _ _ _ _ _ _ _ _ (by simp only [size_app]; (have e1 : (⟨#[32]⟩ : ByteArray).size = 1 := rfl); (have e3 : (⟨#[117, 115, 101, 100]⟩ : ByteArray).size ≤ 6 := by decide); omega) (by rw [Hid, HM.out]; simp [bl_app, bl_lit, HCV.out]) q1.below
end Go.Proofs.YtchkjiadnackaaaGreatDoor

/- What laws.vHas and laws.vInts answer. -/
namespace Go.Proofs.YtchkjiadnackaaaGreatDoor
open Go.RowKit

def hasFrom (x : Int) (l : List Int) : Bool := l.any (fun y => decide (y = x))
set_option maxHeartbeats 1000000 in
theorem rInts_any (A B : Option Addr) (c d : Nat) (l : List Int) (w : World) (hA : IntsR w w.heap.size A l) (hB : IntsR w w.heap.size B l) :
    Calls Tryz.prog 28 #[.slice A l.length c, .slice B l.length d] w fun e w' => e = .returned (.bool true) ∧ Below w.heap.size w w' := by
  have hlA := hA.big
  have hrA := hA.ints
  have hrB := hB.ints
  have hbn : ((l.length : Int) != (l.length : Int)) = false := by simp
  go_enter Tryz.func28, Tryz.ntmps28
  go_wp2
  go_loopw [5] (fun i wr => ∃ k : Nat, k ≤ l.length ∧ i = .int .i64 k ∧ (∃ q : Since w.heap.size w, wr = q.val)) (fun i _ => l.length - (intOf i).toNat)
  case atStart => exact ⟨0, Nat.zero_le _, rfl, ⟨Since.start _ _, rfl⟩⟩
  case round =>
    obtain ⟨k, hk, rfl, ⟨q, rfl⟩⟩ := hrel
    by_cases hlt : k < l.length
    · obtain ⟨b, off, rfl, hb, hcell⟩ := hrA (by omega)
      obtain ⟨b', off', rfl, hb', hcell'⟩ := hrB (by omega)
      have c0 := hcell k hlt
      have d0 := hcell' k hlt
      generalize l[k] = y at c0 d0
      clear hcell hcell' hrA hrB
      go_wp2
      refine wp_region_since _ (by kernel_rfl) (by kernel_rfl) ?_
      repeat (any_goals (first | go_big_quiet_step ((fail)) | (refine wpQuiet_step (fun K hK => ?_); go_simp; split <;> (refine hK _ ?_; clear hK K))))
      all_goals (refine wpQuiet_nil ?_; rintro _ ⟨q1, rfl⟩)
      go_wp2
      go_roundw
      case rel => exact ⟨k + 1, by omega, by go_num, ⟨q1, rfl⟩⟩
      case measure => simp [intOf]; omega
    · go_wp2
      go_ret
      exact ⟨rfl, q.below⟩
end Go.Proofs.YtchkjiadnackaaaGreatDoor

/- FnCopies: the laws' own comparing of phrases (rPhrase, rPhrases), where they are the same. -/
namespace Go.Proofs.YtchkjiadnackaaaGreatDoor
open Go.RowKit

set_option maxHeartbeats 1000000 in
theorem rPhrase_yes (x y : Ph) (he : x.ph = y.ph) (w : World) (hx : IntsR w w.heap.size x.A x.f) (hy : IntsR w w.heap.size y.A y.f) :
    Calls Tryz.prog 10 #[x.val, y.val] w fun e w' => e = .returned (.bool true) ∧ Below w.heap.size w w' := by
  obtain ⟨s, c, A, f, ca, p⟩ := x
  obtain ⟨s', c', B, f', cb, p'⟩ := y
  simp only [Ph.ph, Prod.mk.injEq] at he
  obtain ⟨rfl, rfl, rfl, rfl⟩ := he
  simp only at hx hy
  have L1 := (Lies.new w 26 #[.int .i64 s, .int .i64 c, .slice A f.length ca, .int .i64 p]).alloc (.cells #[.int .i64 s, .int .i64 c, .slice B f.length cb, .int .i64 p] 26)
  have L2 := Lies.new1 w (.cells #[.int .i64 s, .int .i64 c, .slice A f.length ca, .int .i64 p] 26) 26 #[.int .i64 s, .int .i64 c, .slice B f.length cb, .int .i64 p]
  have b1 := (Below.refl w.heap.size w).alloc (Nat.le_refl _) (.cells #[.int .i64 s, .int .i64 c, .slice A f.length ca, .int .i64 p] 26)
  have b2 := b1.alloc b1.size (.cells #[.int .i64 s, .int .i64 c, .slice B f.length cb, .int .i64 p] 26)
  clear b1
  have x0 := L1.cell 0
  have x1 := L1.cell 1
  have x2 := L1.cell 2
  have x3 := L1.cell 3
  have y0 := L2.cell 0
  have y1 := L2.cell 1
  have y2 := L2.cell 2
  have y3 := L2.cell 3
  simp only [List.getElem?_cons_zero, List.getElem?_cons_succ] at x0 x1 x2 x3 y0 y1 y2 y3
  have hx2 := SlcR.up hx b2 (Nat.le_refl _)
  have hy2 := SlcR.up hy b2 (Nat.le_refl _)
  clear hx hy L1 L2
  go_enter Tryz.func10, Tryz.ntmps10
  go_upto_region 1 with fail
  generalize (w.alloc (.cells #[.int .i64 s, .int .i64 c, .slice A f.length ca, .int .i64 p] 26)).alloc (.cells #[.int .i64 s, .int .i64 c, .slice B f.length cb, .int .i64 p] 26) = W at b2 hx2 hy2 x0 x1 x2 x3 y0 y1 y2 y3 ⊢
  go_wp2_with fail
  refine (rInts_any A B ca cb f W hx2 hy2).mono ?_
  rintro e w1 ⟨rfl, hb⟩
  go_wp2
  go_ret
  exact ⟨rfl, bthen b2 hb⟩

set_option maxHeartbeats 1000000 in
theorem rPhrases_yes (A B : Option Addr) (c d : Nat) (l m : List Ph) (hlm : l.map Ph.ph = m.map Ph.ph) (w : World) (hA : PhsR w w.heap.size A l) (hB : PhsR w w.heap.size B m) :
    Calls Tryz.prog 17 #[.slice A l.length c, .slice B m.length d] w fun e w' => e = .returned (.bool true) ∧ Below w.heap.size w w' := by
  have hlen : m.length = l.length := by have := congrArg List.length hlm; simpa using this.symm
  have hlA := hA.slc.big
  have hrA := hA.ph
  have hrB := hB.ph
  have HFA : Hid (∀ i (hi : i < l.length), IntsR w w.heap.size l[i].A l[i].f) := fun i hi => hA.f hi
  have HFB : Hid (∀ i (hi : i < m.length), IntsR w w.heap.size m[i].A m[i].f) := fun i hi => hB.f hi
  have HL := Lib.hid hlm
  have eg := Tryz.call10
  have hbn : ((l.length : Int) != (l.length : Int)) = false := by simp
  rw [hlen]
  have Hlen := Lib.hid hlen
  clear hlen hlm hA hB
  go_enter Tryz.func17, Tryz.ntmps17
  go_wp2
  go_loopw [5] (fun i wr => ∃ k : Nat, k ≤ l.length ∧ i = .int .i64 k ∧ (∃ q : Since w.heap.size w, wr = q.val)) (fun i _ => l.length - (intOf i).toNat)
  case atStart => exact ⟨0, Nat.zero_le _, rfl, ⟨Since.start _ _, rfl⟩⟩
  case round =>
    obtain ⟨k, hk, rfl, ⟨q, rfl⟩⟩ := hrel
    by_cases hlt : k < l.length
    · have hltm : k < m.length := by rw [Hlen.out]; exact hlt
      obtain ⟨b, off, rfl, hb, hcell⟩ := hrA (by omega)
      obtain ⟨b', off', rfl, hb', hcell'⟩ := hrB (by omega)
      obtain ⟨c0, c1, c2, c3⟩ := hcell k hlt
      obtain ⟨d0, d1, d2, d3⟩ := hcell' k hltm
      have hxe : l[k].ph = m[k].ph := by
        have h1 : (l.map Ph.ph)[k]? = (m.map Ph.ph)[k]? := by rw [HL.out]
        rw [List.getElem?_map, List.getElem?_map, List.getElem?_eq_getElem hlt, List.getElem?_eq_getElem hltm] at h1
        simpa using h1
      have HC : Hid (∀ p : Since w.heap.size w, Calls Tryz.prog 10 #[l[k].val, m[k].val] p.val fun e w' => e = .returned (.bool true) ∧ Below p.val.heap.size p.val w') := fun p =>
        rPhrase_yes _ _ hxe _ (SlcR.up (HFA.out k hlt) p.below (Nat.le_refl _)) (SlcR.up (HFB.out k hltm) p.below (Nat.le_refl _))
      clear hxe
      obtain ⟨x, hx⟩ : ∃ x, x = l[k] := ⟨_, rfl⟩
      obtain ⟨y, hy⟩ : ∃ y, y = m[k] := ⟨_, rfl⟩
      rw [← hx] at c0 c1 c2 c3 HC
      rw [← hy] at d0 d1 d2 d3 HC
      clear hx hy hcell hcell' hrA hrB
      have hqs := q.size
      go_wp2_with fail
      refine wp_region_since _ (by kernel_rfl) (by kernel_rfl) ?_
      repeat (any_goals (first | go_big_quiet_step ((refine calls_since (Nat.le_refl _) (HC.out _))) | (refine wpQuiet_step (fun K hK => ?_); go_simp; split <;> (refine hK _ ?_; clear hK K))))
      all_goals (refine wpQuiet_nil ?_; rintro _ ⟨q1, rfl⟩)
      go_wp2
      go_roundw
      case rel => exact ⟨k + 1, by omega, by go_num, ⟨q1, rfl⟩⟩
      case measure => simp [intOf]; omega
    · go_wp2
      go_ret
      exact ⟨rfl, q.below⟩
end Go.Proofs.YtchkjiadnackaaaGreatDoor

/- The law FnPhrases. (Printed by gen_lawphrs.py) -/
namespace Go.Proofs.YtchkjiadnackaaaGreatDoor
open Go.RowKit

theorem rBig_any (A : Option Addr) (n c : Nat) (w : World) : Calls Tryz.prog 4 #[.slice A n c] w fun e w' => e = .returned (.bool (decide (65536 < n))) ∧ w = w' := by
  by_cases h : 65536 < n
  · have h1 : (65536 : Int) < n := by omega
    rw [decide_eq_true h]
    go_enter Tryz.func4, Tryz.ntmps4
    go_wp2
    go_ret
    exact ⟨by simp [h1], rfl⟩
  · have h1 : ¬ (65536 : Int) < n := by omega
    rw [decide_eq_false h]
    go_enter Tryz.func4, Tryz.ntmps4
    go_wp2
    go_ret
    exact ⟨by simp [h1], rfl⟩
/-- The law's world: the code, and the phrase drawn in block g. -/
structure PW (w W : World) (A : Option Addr) (bs : List UInt8) (g : Nat) (x : Ph) : Prop where
  bl : Below w.heap.size w W
  lw : LW W
  rd : BytesR W W.heap.size A bs
  px : Lies W g 26 [.int .i64 x.s, .int .i64 x.c, .slice x.A x.f.length x.cap, .int .i64 x.p]
  xr : IntsR W W.heap.size x.A x.f
theorem PW.then {w W W' : World} {A : Option Addr} {bs : List UInt8} {g : Nat} {x : Ph} (S : PW w W A bs g x) (hb : Below W.heap.size W W') : PW w W' A bs g x :=
  ⟨bthen S.bl hb, S.lw.then hb, (SlcR.below S.rd hb).mono hb.size, S.px.below hb S.px.lt, (SlcR.below S.xr hb).mono hb.size⟩
theorem readOf_okT {x : Ph} (h : x.ok = true) : readOf (bl (okT x.ok (shortT x))) = (x.ph, true) := by
  unfold readOf okT
  rw [if_pos h, bl_mk, show shortT x = shortD x.ph from rfl, readD_short (x := x.ph) h]
theorem readL_okT {l : List Ph} (h : goodPhs l = true) : readL (bl (okT (goodPhs l) (listT l))) = (l.map Ph.ph, true) := by
  unfold okT
  rw [if_pos h, bl_mk, listT_listD, readL_list (by rw [← good_goodD]; exact h)]
theorem same_read {s : List UInt8} {x y : PhD} {a b : Bool} (h : readOf s = (x, a)) (h' : readOf s = (y, b)) : x = y ∧ a = b := by
  rw [h] at h'; injection h' with h1 h2; exact ⟨h1, h2⟩

set_option maxRecDepth 100000 in
set_option maxHeartbeats 16000000 in
set_option linter.unusedVariables false in
theorem lawPhrases_any (A : Option Addr) (cap : Nat) (bs : List UInt8) (w : World) (hr : BytesR w w.heap.size A bs) (hL : LW w) :
    Calls Tryz.prog 3 #[.slice A bs.length cap] w fun e w' => e = .returned (.bool true) ∧ Below w.heap.size w w' := by
  obtain ⟨big, hbig⟩ : ∃ b, decide (65536 < bs.length) = b := ⟨_, rfl⟩
  have hboo : ∀ b : Bool, (b != b) = false := by simp
  have heqb : ∀ b : Bool, (b == b) = true := by simp
  go_enter Tryz.func3, Tryz.ntmps3
  go_wp2_with fail
  refine (rBig_any A bs.length cap w).mono ?_
  rintro e w ⟨rfl, rfl⟩
  rw [hbig]
  clear hbig
  cases big with
  | true =>
    go_wp2_with fail
    go_ret
    exact ⟨rfl, Below.refl _ _⟩
  | false =>
    go_wp2_with fail
    refine (drawShort_any A cap bs w hr).mono ?_
    rintro e w1 ⟨x, rfl, h9, hx, b1⟩
    have ha1 := (Below.refl w1.heap.size w1).alloc (Nat.le_refl _) (.cells #[.int .i64 x.s, .int .i64 x.c, .slice x.A x.f.length x.cap, .int .i64 x.p] 26)
    have K3 := Lies.new w1 26 #[.int .i64 x.s, .int .i64 x.c, .slice x.A x.f.length x.cap, .int .i64 x.p]
    have bb1 := bthen b1 ha1
    have S1 := Lib.hid (PW.mk (A := A) (bs := bs) (x := x) bb1 (hL.then bb1) ((SlcR.below hr bb1).mono bb1.size) K3 (hx.then ha1).reads)
    have HIS := Lib.hid (fun W h t => implShortText_any x W h t)
    have HSS := Lib.hid (fun W h => specShortText_any x W h)
    have HIP := Lib.hid (fun W h => implIsPhrase_any x W h)
    have hz1 := okT_short x
    have hrd1 := fun h => readOf_okT (x := x) h
    obtain ⟨sx, hsx⟩ : ∃ y, okT x.ok (shortT x) = y := ⟨_, rfl⟩
    rw [hsx] at HIS HSS hz1 hrd1
    obtain ⟨ok, hok⟩ : ∃ b, x.ok = b := ⟨_, rfl⟩
    rw [hok] at HIS HSS HIP hrd1
    have HRD1 := Lib.hid hrd1
    clear hsx hok hrd1 ha1 b1 bb1 K3 hx
    go_upto_region 4 with fail
    generalize w1.alloc (.cells #[.int .i64 x.s, .int .i64 x.c, .slice x.A x.f.length x.cap, .int .i64 x.p] 26) = W1 at S1 ⊢
    generalize w1.heap.size = g at S1 ⊢

    have K := S1.out.px
    have c0 := K.cell 0
    have c1 := K.cell 1
    have c2 := K.cell 2
    have c3 := K.cell 3
    simp only [List.getElem?_cons_zero, List.getElem?_cons_succ] at c0 c1 c2 c3
    clear K
    go_wp2_with fail
    refine (HIS.out W1 S1.out.xr S1.out.lw.tab).mono ?_
    rintro e w2 ⟨rfl, hb⟩
    have S2 := Lib.hid (S1.out.then hb)
    clear hb S1
    clear c0 c1 c2 c3
    have K := S2.out.px
    have c0 := K.cell 0
    have c1 := K.cell 1
    have c2 := K.cell 2
    have c3 := K.cell 3
    simp only [List.getElem?_cons_zero, List.getElem?_cons_succ] at c0 c1 c2 c3
    clear K
    go_wp2_with fail
    refine (HSS.out w2 S2.out.xr).mono ?_
    rintro e w3 ⟨rfl, hb⟩
    have S3 := Lib.hid (S2.out.then hb)
    clear hb S2
    clear c0 c1 c2 c3
    have K := S3.out.px
    have c0 := K.cell 0
    have c1 := K.cell 1
    have c2 := K.cell 2
    have c3 := K.cell 3
    simp only [List.getElem?_cons_zero, List.getElem?_cons_succ] at c0 c1 c2 c3
    clear K
    have e1 := hboo ok
    go_wp2_with fail
    refine (HIP.out w3 S3.out.xr).mono ?_
    rintro e w4 ⟨rfl, hb⟩
    have S4 := Lib.hid (S3.out.then hb)
    clear hb S3
    clear c0 c1 c2 c3
    go_upto_if 59 with fail
    go_cut [] (fun wx => PW w wx A bs g x)
    case first =>
      cases ok with
      | false =>
        clear e1
        go_wp2_with fail
        go_meet
        case rel => exact S4.out
      | true =>
        clear e1
        go_wp2_with fail
        refine (implParse_any sx w4 (by omega) S4.out.lw).mono ?_
        rintro e w5 ⟨y, oky, rfl, hy, oy, b5⟩
        obtain ⟨hyx, rfl⟩ := same_read hy (HRD1.out (by simp))
        have ha5 := (Below.refl w5.heap.size w5).alloc (Nat.le_refl _) (.cells #[.int .i64 y.s, .int .i64 y.c, .slice y.A y.f.length y.cap, .int .i64 y.p] 26)
        have K5 := Lies.new w5 26 #[.int .i64 y.s, .int .i64 y.c, .slice y.A y.f.length y.cap, .int .i64 y.p]
        have HO5 := Lib.hid (oy.then ha5).reads
        have S5 := Lib.hid (S4.out.then (bthen b5 ha5))
        have HYX := Lib.hid hyx
        clear oy ha5 b5 hy hyx S4
        go_upto_region 10 with fail
        generalize w5.alloc (.cells #[.int .i64 y.s, .int .i64 y.c, .slice y.A y.f.length y.cap, .int .i64 y.p] 26) = W5 at K5 HO5 S5 ⊢
        generalize w5.heap.size = g5 at K5 ⊢
        have K := S5.out.px
        have c0 := K.cell 0
        have c1 := K.cell 1
        have c2 := K.cell 2
        have c3 := K.cell 3
        simp only [List.getElem?_cons_zero, List.getElem?_cons_succ] at c0 c1 c2 c3
        clear K
        have d0 := K5.cell 0
        have d1 := K5.cell 1
        have d2 := K5.cell 2
        have d3 := K5.cell 3
        simp only [List.getElem?_cons_zero, List.getElem?_cons_succ] at d0 d1 d2 d3
        clear K5
        go_wp2_with fail
        refine (rPhrase_yes y x HYX.out W5 HO5.out S5.out.xr).mono ?_
        rintro e w6 ⟨rfl, hb⟩
        have S6 := Lib.hid (S5.out.then hb)
        clear hb S5 HO5 c0 c1 c2 c3 d0 d1 d2 d3
        go_wp2_with fail
        go_meet
        case rel => exact S6.out
    case rest =>
      have S7 := Lib.hid hcut
      clear hcut S4 HIS HSS HIP HRD1 hz1 e1
      generalize sx = sx0
      clear sx
      go_wp2_with fail
      refine (drawParsePhrase_any A cap bs wc S7.out.rd).mono ?_
      rintro e w8 ⟨tx, rfl, hz2, hb⟩
      have S8 := Lib.hid (S7.out.then hb)
      clear hb S7
      go_wp2_with fail
      refine (implParse_any tx w8 (by omega) S8.out.lw).mono ?_
      rintro e w9 ⟨y, oky, rfl, hy, oy, b9⟩
      have ha9 := (Below.refl w9.heap.size w9).alloc (Nat.le_refl _) (.cells #[.int .i64 y.s, .int .i64 y.c, .slice y.A y.f.length y.cap, .int .i64 y.p] 26)
      have K9 := Lies.new w9 26 #[.int .i64 y.s, .int .i64 y.c, .slice y.A y.f.length y.cap, .int .i64 y.p]
      have HO9 := Lib.hid (oy.then ha9).reads
      have S9 := Lib.hid (S8.out.then (bthen b9 ha9))
      have HY := Lib.hid hy
      clear oy ha9 b9 hy S8
      go_upto_region 14 with fail
      generalize w9.alloc (.cells #[.int .i64 y.s, .int .i64 y.c, .slice y.A y.f.length y.cap, .int .i64 y.p] 26) = W9 at K9 HO9 S9 ⊢
      generalize w9.heap.size = g9 at K9 ⊢
      go_wp2_with fail
      refine (specParse_any tx W9 (by omega) S9.out.lw).mono ?_
      rintro e w10 ⟨z, okz, rfl, hz, oz, b10⟩
      obtain ⟨hyz, rfl⟩ := same_read HY.out hz
      have ha10 := (Below.refl w10.heap.size w10).alloc (Nat.le_refl _) (.cells #[.int .i64 z.s, .int .i64 z.c, .slice z.A z.f.length z.cap, .int .i64 z.p] 26)
      have K10 := Lies.new w10 26 #[.int .i64 z.s, .int .i64 z.c, .slice z.A z.f.length z.cap, .int .i64 z.p]
      have bb10 := bthen b10 ha10
      have HO10 := Lib.hid (oz.then ha10).reads
      have HOY := Lib.hid ((SlcR.below HO9.out bb10).mono bb10.size)
      have K9 := K9.below bb10 K9.lt
      have S10 := Lib.hid (S9.out.then bb10)
      have HYZ := Lib.hid hyz
      clear oz ha10 b10 bb10 hz hyz HO9 S9 HY
      have e1 := hboo oky
      go_upto_region 15 with fail
      generalize w10.alloc (.cells #[.int .i64 z.s, .int .i64 z.c, .slice z.A z.f.length z.cap, .int .i64 z.p] 26) = W10 at K9 K10 HO10 HOY S10 ⊢
      generalize w10.heap.size = g10 at K10 ⊢
      have d0 := K9.cell 0
      have d1 := K9.cell 1
      have d2 := K9.cell 2
      have d3 := K9.cell 3
      simp only [List.getElem?_cons_zero, List.getElem?_cons_succ] at d0 d1 d2 d3
      have f0 := K10.cell 0
      have f1 := K10.cell 1
      have f2 := K10.cell 2
      have f3 := K10.cell 3
      simp only [List.getElem?_cons_zero, List.getElem?_cons_succ] at f0 f1 f2 f3
      clear K9 K10
      go_wp2_with fail
      refine (rPhrase_yes y z HYZ.out W10 HOY.out HO10.out).mono ?_
      rintro e w11 ⟨rfl, hb⟩
      have S11 := Lib.hid (S10.out.then hb)
      clear hb S10 HOY HO10 HYZ d0 d1 d2 d3 f0 f1 f2 f3 e1
      go_wp2_with fail
      refine (drawList_any A cap bs w11 S11.out.rd).mono ?_
      rintro e w12 ⟨l, A', c', rfl, hl, hl13, hl9, hb⟩
      have S12 := Lib.hid (S11.out.then hb)
      have HL12 := Lib.hid hl
      clear hb S11 hl hl9
      have HIL := Lib.hid (fun W h t => implListText_any A' c' l W h t)
      have HSL := Lib.hid (fun W h => specListText_any A' c' l W h)
      have hz3 := okT_list l
      have hrd3 := fun h => readL_okT (l := l) h
      obtain ⟨sl, hsl⟩ : ∃ y, okT (goodPhs l) (listT l) = y := ⟨_, rfl⟩
      rw [hsl] at HIL HSL hz3 hrd3
      obtain ⟨gd, hgd⟩ : ∃ b, goodPhs l = b := ⟨_, rfl⟩
      rw [hgd] at HIL HSL hrd3
      have HRD3 := Lib.hid hrd3
      clear hsl hgd hrd3
      go_wp2_with fail
      refine (HIL.out w12 HL12.out S12.out.lw.tab).mono ?_
      rintro e w13 ⟨rfl, hb⟩
      have S13 := Lib.hid (S12.out.then hb)
      have HL13 := Lib.hid (HL12.out.then hb)
      clear hb S12 HL12
      go_wp2_with fail
      refine (HSL.out w13 HL13.out).mono ?_
      rintro e w14 ⟨rfl, hb⟩
      have S14 := Lib.hid (S13.out.then hb)
      have HL14 := Lib.hid (HL13.out.then hb)
      clear hb S13 HL13 HIL HSL
      have e1 := hboo gd
      go_upto_if 114 with fail
      go_cut [] (fun wx => PW w wx A bs g x)
      case first =>
        cases gd with
        | false =>
          clear e1
          go_wp2_with fail
          go_meet
          case rel => exact S14.out
        | true =>
          clear e1
          have hrl := HRD3.out (by simp)
          have HPL := Lib.hid (implList_any sl w14 (by omega) S14.out.lw)
          rw [hrl] at HPL
          clear hrl
          go_wp2_with fail
          refine HPL.out.mono ?_
          rintro e w15 ⟨A5, c5, m5, rfl, hm5, hr5, hb⟩
          have S15 := Lib.hid (S14.out.then hb)
          have HL15 := Lib.hid (HL14.out.then hb)
          have HM5 := Lib.hid hm5
          have HR5 := Lib.hid hr5.reads
          clear hb hm5 hr5 S14 HL14
          go_wp2_with fail
          refine (rPhrases_yes A5 A' c5 c' m5 l HM5.out w15 HR5.out HL15.out).mono ?_
          rintro e w16 ⟨rfl, hb⟩
          have S16 := Lib.hid (S15.out.then hb)
          clear hb S15 HL15 HR5
          go_wp2_with fail
          go_meet
          case rel => exact S16.out
      case rest =>
        have S17 := Lib.hid hcut
        clear hcut S14 HL14 HRD3 hz3 e1 hl13 hz2
        go_wp2_with fail
        refine (drawParseList_any A cap bs wc S17.out.rd).mono ?_
        rintro e w18 ⟨tl, rfl, hz4, hb⟩
        have S18 := Lib.hid (S17.out.then hb)
        clear hb S17
        go_wp2_with fail
        refine (implList_any tl w18 (by omega) S18.out.lw).mono ?_
        rintro e w19 ⟨A6, c6, m6, rfl, hm6, hr6, hb⟩
        have S19 := Lib.hid (S18.out.then hb)
        have HM6 := Lib.hid hm6
        have HR6 := Lib.hid hr6.reads
        clear hb hm6 hr6 S18
        go_wp2_with fail
        refine (specList_any tl w19 (by omega) S19.out.lw).mono ?_
        rintro e w20 ⟨A7, c7, m7, rfl, hm7, hr7, hb⟩
        have S20 := Lib.hid (S19.out.then hb)
        have HM7 := Lib.hid (HM6.out.trans hm7.symm)
        have HR7 := Lib.hid hr7.reads
        have HR6' := Lib.hid (HR6.out.then hb)
        clear hb hm7 hr7 S19 HR6 HM6
        obtain ⟨kn, hkn⟩ : ∃ b, (readL (bl tl)).2 = b := ⟨_, rfl⟩
        rw [hkn]
        have e1 := hboo kn
        clear hkn
        go_wp2_with fail
        refine (rPhrases_yes A6 A7 c6 c7 m6 m7 HM7.out w20 HR6'.out HR7.out).mono ?_
        rintro e w21 ⟨rfl, hb⟩
        have S21 := Lib.hid (S20.out.then hb)
        clear hb S20 HR6' HR7 HM7 e1
        go_upto_region 31 with fail
        have HLI := Lib.hid (fun W h t => implLongText_any x W h t)
        have HLS := Lib.hid (fun W h => specLongText_any x W h)
        obtain ⟨sg, hsg⟩ : ∃ y, okT x.ok (longT x) = y := ⟨_, rfl⟩
        rw [hsg] at HLI HLS
        obtain ⟨ok, hok⟩ : ∃ b, x.ok = b := ⟨_, rfl⟩
        rw [hok] at HLI HLS
        clear hsg hok
        have K := S21.out.px
        have c0 := K.cell 0
        have c1 := K.cell 1
        have c2 := K.cell 2
        have c3 := K.cell 3
        simp only [List.getElem?_cons_zero, List.getElem?_cons_succ] at c0 c1 c2 c3
        clear K
        go_wp2_with fail
        refine (HLI.out w21 S21.out.xr S21.out.lw.tab).mono ?_
        rintro e w22 ⟨rfl, hb⟩
        have S22 := Lib.hid (S21.out.then hb)
        clear hb S21
        clear c0 c1 c2 c3
        have K := S22.out.px
        have c0 := K.cell 0
        have c1 := K.cell 1
        have c2 := K.cell 2
        have c3 := K.cell 3
        simp only [List.getElem?_cons_zero, List.getElem?_cons_succ] at c0 c1 c2 c3
        clear K
        go_wp2_with fail
        refine (HLS.out w22 S22.out.xr).mono ?_
        rintro e w23 ⟨rfl, hb⟩
        have S23 := Lib.hid (S22.out.then hb)
        clear hb S22
        clear c0 c1 c2 c3
        have e1 := heqb ok
        go_wp2_with fail
        go_ret
        exact ⟨rfl, S23.out.bl⟩
end Go.Proofs.YtchkjiadnackaaaGreatDoor
