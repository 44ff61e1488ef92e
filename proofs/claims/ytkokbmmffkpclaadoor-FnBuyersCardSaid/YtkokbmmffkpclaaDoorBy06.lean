/- By06: the texts BuySum BuyBest, joined into one file. -/
import Derived.Deep.DeepCutAuto
import Derived.Test.YtkokbmmffkpclaaDoorBy04
import Derived.Test.YtkokbmmffkpclaaDoorBy05

set_option linter.unusedVariables false

/- Sums and numbers of lots. (Printed by gen_buy.py) -/
namespace Go.Proofs.YtkokbmmffkpclaaDoor
open Go.RowKit

theorem ne_IL : 3 ≠ 41 := by decide
theorem LotsR.keepB {w w9 : World} {A : Option Addr} {l : List Lot} (h : LotsR w w.heap.size A l) (hb : Below w.heap.size w w9) : LotsR w9 w9.heap.size A l := SlcR.then h hb

set_option maxRecDepth 100000 in
set_option maxHeartbeats 4000000 in
theorem lotsBought_any (A : Option Addr) (c : Nat) (l : List Lot) (b : Int) (w : World) (h : LotsR w w.heap.size A l) (hn : l.length ≤ 1000) (hpos : Pos l) :
    Calls Tryd.prog 26 #[.slice A l.length c, .int .i64 b] w fun e w' => ∃ A' c', e = .returned (.tuple #[.slice A' (idsF (soldTo b) l).length c', .int .i64 (sumF (soldTo b) l)]) ∧ w'.ownsRow w.heap.size 3 1 (.slice A' (idsF (soldTo b) l).length c') (idsF (soldTo b) l).length (encIs (idsF (soldTo b) l)) ∧ Below w.heap.size w w' := by
  have hl := h.big
  have HI0 : Hid (([] : List Int) ++ idsF (soldTo b) (l.drop 0) = idsF (soldTo b) l) := by rw [Hid]; simp
  have HS0 : Hid ((0 : Int) + sumF (soldTo b) (l.drop 0) = sumF (soldTo b) l) := by rw [Hid]; simp
  have HO0 : Hid (w.ownsRow w.heap.size 3 1 (.slice none 0 0) 0 (encIs [])) := World.ownsRow_nil _ _ _ _
  go_enter Tryd.func26, Tryd.ntmps26
  go_wp2
  go_loopw [6, 7, 9, 12] (fun ids sum _ i wr => ∃ (k : Nat) (acc : List Int) (A7 : Option Addr) (c7 : Nat) (s : Int), k ≤ l.length ∧ i = .int .i64 k ∧ ids = .slice A7 acc.length c7 ∧ acc.length ≤ k ∧ Hid (wr.ownsRow w.heap.size 3 1 (.slice A7 acc.length c7) acc.length (encIs acc)) ∧ Hid (acc ++ idsF (soldTo b) (l.drop k) = idsF (soldTo b) l) ∧ sum = .int .i64 s ∧ (0 ≤ s ∧ s ≤ 100000 * k) ∧ Hid (s + sumF (soldTo b) (l.drop k) = sumF (soldTo b) l) ∧ Below w.heap.size w wr) (fun _ _ _ i _ => l.length - (intOf i).toNat)
  case atStart => exact ⟨0, [], none, 0, 0, Nat.zero_le _, rfl, rfl, Nat.le_refl _, HO0, HI0, rfl, by omega, HS0, Below.refl _ _⟩
  case round =>
    clear HI0 HS0 HO0
    obtain ⟨k, acc, A7, c7, s, hk, rfl, rfl, hak, HO, HI, rfl, ⟨s1, s2⟩, HS, hbr⟩ := hrel
    by_cases hlt : k < l.length
    · obtain ⟨bA, off, rfl, hbA, hcell⟩ := LotsR.el h (by omega)
      have hcx := hcell k hlt
      have HY := Lib.hid (fun h9 => idsF_yes (f := (soldTo b)) hlt h9)
      have HN := Lib.hid (fun h9 => idsF_no (f := (soldTo b)) hlt h9)
      have HZ := Lib.hid (fun h9 => sumF_yes (f := (soldTo b)) hlt h9)
      have HM := Lib.hid (fun h9 => sumF_no (f := (soldTo b)) hlt h9)
      have hpx := hpos l[k] (List.getElem_mem hlt)
      obtain ⟨x, hxe⟩ : ∃ x, x = l[k] := ⟨_, rfl⟩
      rw [← hxe] at hcx HY HN HZ HM hpx
      obtain ⟨c0, c1, c2, c3, c4⟩ := hcx
      have q0 := c0 ⟨wr, hbr⟩
      have q1 := c1 ⟨wr, hbr⟩
      have q2 := c2 ⟨wr, hbr⟩
      have q3 := c3 ⟨wr, hbr⟩
      have q4 := c4 ⟨wr, hbr⟩
      simp only at q0 q1 q2 q3 q4
      clear hxe hcell c0 c1 c2 c3 c4
      obtain ⟨p1, p2⟩ := hpx
      have hal := (Below.refl wr.heap.size wr).alloc (Nat.le_refl _) (.cells #[.int .i64 x.i, .int .i64 x.r, .int .i64 x.s, .int .i64 x.h, .int .i64 x.b] 41)
      have L5 := Lies.new wr 41 #[.int .i64 x.i, .int .i64 x.r, .int .i64 x.s, .int .i64 x.h, .int .i64 x.b]
      have b5 := hbr.trans (hal.mono hbr.size)
      have HO5h := ownsRow_below HO.out hal
      go_upto_region 6 with fail
      generalize wr.alloc (.cells #[.int .i64 x.i, .int .i64 x.r, .int .i64 x.s, .int .i64 x.h, .int .i64 x.b] 41) = w5 at L5 b5 HO5h ⊢
      clear hal q0 q1 q2 q3 q4 HO
      generalize wr.heap.size = g5 at L5 ⊢
      have s0 := L5.cell 0
      have s1 := L5.cell 1
      have s2 := L5.cell 2
      have s3 := L5.cell 3
      have s4 := L5.cell 4
      simp only [List.getElem?_cons_zero, List.getElem?_cons_succ] at s0 s1 s2 s3 s4
      have HO5 : Hid (w5.ownsRow w.heap.size 3 1 (.slice A7 acc.length c7) acc.length (encIs acc)) := HO5h
      clear HO5h
      have hz5 := b5.size
      by_cases hs : x.s = 2
      next =>
        by_cases hb : x.b = b
        next =>
          have HO5z := HO5
          have i3 : IntKind.i64.wrap (s + x.h) = s + x.h := IntWalk.i64_in _ (by omega)
          go_upto_region 8 with (at_builtin; refine wpList_push (w0 := w5) rfl _ _ 27 rfl 3 (.int .i64 0) 1 8 Tryd.underlying27 infoI rfl (by decide) (by omega) w.heap.size _ _ _ rfl HO5 #[.int .i64 x.i] 1 _ rfl (by first | rfl | exact Array.size_push _) rfl (by simp [Value.oneCell']) (by omega) hz5 rfl rfl rfl rfl ?_; intro v6 w6 HO6 gr6 hb6)
          have hb6' := hb6
          have b6 := b5.trans hb6
          have ho6 := HO6.out
          obtain ⟨A8, c8, rfl⟩ := ownsRow_slice ho6
          have hl8 : (acc ++ [x.i]).length = acc.length + 1 := by rw [List.length_append]; rfl
          have HO8 : Hid (w6.ownsRow w.heap.size 3 1 (.slice A8 (acc ++ [x.i]).length c8) (acc ++ [x.i]).length (encIs (acc ++ [x.i]))) := by
            rw [Hid, hl8, show encIs (acc ++ [x.i]) = encIs acc ++ [.int .i64 x.i] by simp [encIs]]; exact ho6
          clear HO6 ho6 HO5
          have t0 := (L5.kept gr6 (fun e => by have := ownsRow_far HO5z.out L5 ne_IL; exact this e)).cell 3
          simp only [List.getElem?_cons_zero, List.getElem?_cons_succ] at t0
          clear gr6 hb6
          go_wp2
          go_roundw
          case rel => exact ⟨k + 1, acc ++ [x.i], A8, c8, s + x.h, by omega, by go_num, by rw [hl8], by omega, HO8, by rw [Hid, ← HI.out, HY.out (by simp [hs, hb])]; simp, rfl, by omega, by rw [Hid, ← HS.out, HZ.out (by simp [hs, hb])]; omega, b6⟩
          case measure => simp [intOf]; omega

        next =>
          have hbf : (x.b == b) = false := by simp [hb]
          go_wp2
          go_roundw
          case rel => exact ⟨k + 1, acc, A7, c7, s, by omega, by go_num, rfl, by omega, HO5, by rw [Hid, ← HI.out, HN.out (by simp [hs, hb])], rfl, by omega, by rw [Hid, ← HS.out, HM.out (by simp [hs, hb])], b5⟩
          case measure => simp [intOf]; omega

      next =>
        have hsf : (x.s == 2) = false := by simp [hs]
        go_wp2
        go_roundw
        case rel => exact ⟨k + 1, acc, A7, c7, s, by omega, by go_num, rfl, by omega, HO5, by rw [Hid, ← HI.out, HN.out (by simp [hs])], rfl, by omega, by rw [Hid, ← HS.out, HM.out (by simp [hs])], b5⟩
        case measure => simp [intOf]; omega


    · have hk0 : l.drop k = [] := List.drop_eq_nil_of_le (by omega)
      have HIe : Hid (idsF (soldTo b) l = acc) := by rw [Hid, ← HI.out, hk0]; simp [idsF]
      have HSe : Hid (sumF (soldTo b) l = s) := by rw [Hid, ← HS.out, hk0]; simp [sumF]
      clear hk0
      go_wp2
      refine bodyPost_ret (v := .tuple #[.slice A7 acc.length c7, .int .i64 s]) (by simp [results, Tryd.results26, go_sem, *]) rfl ⟨A7, c7, by rw [HIe.out, HSe.out], by rw [HIe.out]; exact HO.out, hbr⟩
set_option maxRecDepth 100000 in
set_option maxHeartbeats 4000000 in
theorem l29Sum_any (A : Option Addr) (c : Nat) (l : List Lot) (b : Int) (hb0 : ¬ b = 0) (w : World) (h : LotsR w w.heap.size A l) (hn : l.length ≤ 1000) (hpos : Pos l) :
    Calls Tryd.prog 29 #[.slice A l.length c, .int .i64 b] w fun e w' => e = .returned (.int .i64 (sumF (soldTo b) l)) ∧ Below w.heap.size w w' := by
  have hl := h.big
  have hbz : (b == 0) = false := by simp [hb0]
  have HS0 : Hid ((0 : Int) + sumF (soldTo b) (l.drop 0) = sumF (soldTo b) l) := by rw [Hid]; simp
  go_enter Tryd.func29, Tryd.ntmps29
  go_wp2
  go_loopw [5, 6, 7] (fun sum i _ wr => ∃ (k : Nat) (s : Int), k ≤ l.length ∧ i = .int .i64 k ∧ sum = .int .i64 s ∧ (0 ≤ s ∧ s ≤ 100000 * k) ∧ Hid (s + sumF (soldTo b) (l.drop k) = sumF (soldTo b) l) ∧ Below w.heap.size w wr) (fun _ i _ _ => l.length - (intOf i).toNat)
  case atStart => exact ⟨0, 0, Nat.zero_le _, rfl, rfl, by omega, HS0, Below.refl _ _⟩
  case round =>
    clear HS0
    obtain ⟨k, s, hk, rfl, rfl, ⟨s1, s2⟩, HS, hbr⟩ := hrel
    by_cases hlt : k < l.length
    · obtain ⟨bA, off, rfl, hbA, hcell⟩ := LotsR.el h (by omega)
      have hcx := hcell k hlt
      have HY := Lib.hid (fun h9 => idsF_yes (f := (soldTo b)) hlt h9)
      have HN := Lib.hid (fun h9 => idsF_no (f := (soldTo b)) hlt h9)
      have HZ := Lib.hid (fun h9 => sumF_yes (f := (soldTo b)) hlt h9)
      have HM := Lib.hid (fun h9 => sumF_no (f := (soldTo b)) hlt h9)
      have hpx := hpos l[k] (List.getElem_mem hlt)
      obtain ⟨x, hxe⟩ : ∃ x, x = l[k] := ⟨_, rfl⟩
      rw [← hxe] at hcx HY HN HZ HM hpx
      obtain ⟨c0, c1, c2, c3, c4⟩ := hcx
      have q0 := c0 ⟨wr, hbr⟩
      have q1 := c1 ⟨wr, hbr⟩
      have q2 := c2 ⟨wr, hbr⟩
      have q3 := c3 ⟨wr, hbr⟩
      have q4 := c4 ⟨wr, hbr⟩
      simp only at q0 q1 q2 q3 q4
      clear hxe hcell c0 c1 c2 c3 c4
      obtain ⟨p1, p2⟩ := hpx
      have hal := (Below.refl wr.heap.size wr).alloc (Nat.le_refl _) (.cells #[.int .i64 x.i, .int .i64 x.r, .int .i64 x.s, .int .i64 x.h, .int .i64 x.b] 41)
      have L5 := Lies.new wr 41 #[.int .i64 x.i, .int .i64 x.r, .int .i64 x.s, .int .i64 x.h, .int .i64 x.b]
      have b5 := hbr.trans (hal.mono hbr.size)
      go_upto_region 6 with fail
      generalize wr.alloc (.cells #[.int .i64 x.i, .int .i64 x.r, .int .i64 x.s, .int .i64 x.h, .int .i64 x.b] 41) = w5 at L5 b5 ⊢
      clear hal q0 q1 q2 q3 q4 
      generalize wr.heap.size = g5 at L5 ⊢
      have s0 := L5.cell 0
      have s1 := L5.cell 1
      have s2 := L5.cell 2
      have s3 := L5.cell 3
      have s4 := L5.cell 4
      simp only [List.getElem?_cons_zero, List.getElem?_cons_succ] at s0 s1 s2 s3 s4
      have hz5 := b5.size
      by_cases hs : x.s = 2
      next =>
        by_cases hb : x.b = b
        next =>
          have i3 : IntKind.i64.wrap (s + x.h) = s + x.h := IntWalk.i64_in _ (by omega)
          go_wp2
          go_roundw
          case rel => exact ⟨k + 1, s + x.h, by omega, by go_num, rfl, by omega, by rw [Hid, ← HS.out, HZ.out (by simp [hs, hb])]; omega, b5⟩
          case measure => simp [intOf]; omega

        next =>
          have hbf : (x.b == b) = false := by simp [hb]
          go_wp2
          go_roundw
          case rel => exact ⟨k + 1, s, by omega, by go_num, rfl, by omega, by rw [Hid, ← HS.out, HM.out (by simp [hs, hb])], b5⟩
          case measure => simp [intOf]; omega

      next =>
        have hsf : (x.s == 2) = false := by simp [hs]
        go_wp2
        go_roundw
        case rel => exact ⟨k + 1, s, by omega, by go_num, rfl, by omega, by rw [Hid, ← HS.out, HM.out (by simp [hs])], b5⟩
        case measure => simp [intOf]; omega


    · have hk0 : l.drop k = [] := List.drop_eq_nil_of_le (by omega)
      have HSe : Hid (sumF (soldTo b) l = s) := by rw [Hid, ← HS.out, hk0]; simp [sumF]
      clear hk0
      go_wp2
      refine bodyPost_ret (v := .int .i64 s) (by simp [results, Tryd.results29, go_sem, *]) rfl ⟨by rw [HSe.out], hbr⟩
set_option maxRecDepth 100000 in
set_option maxHeartbeats 4000000 in
theorem l29Sum_all (A : Option Addr) (c : Nat) (l : List Lot) (w : World) (h : LotsR w w.heap.size A l) (hn : l.length ≤ 1000) (hpos : Pos l) :
    Calls Tryd.prog 29 #[.slice A l.length c, .int .i64 0] w fun e w' => e = .returned (.int .i64 (sumF soldAny l)) ∧ Below w.heap.size w w' := by
  have hl := h.big
  have HS0 : Hid ((0 : Int) + sumF soldAny (l.drop 0) = sumF soldAny l) := by rw [Hid]; simp
  go_enter Tryd.func29, Tryd.ntmps29
  go_wp2
  go_loopw [5, 6, 7] (fun sum i _ wr => ∃ (k : Nat) (s : Int), k ≤ l.length ∧ i = .int .i64 k ∧ sum = .int .i64 s ∧ (0 ≤ s ∧ s ≤ 100000 * k) ∧ Hid (s + sumF soldAny (l.drop k) = sumF soldAny l) ∧ Below w.heap.size w wr) (fun _ i _ _ => l.length - (intOf i).toNat)
  case atStart => exact ⟨0, 0, Nat.zero_le _, rfl, rfl, by omega, HS0, Below.refl _ _⟩
  case round =>
    clear HS0
    obtain ⟨k, s, hk, rfl, rfl, ⟨s1, s2⟩, HS, hbr⟩ := hrel
    by_cases hlt : k < l.length
    · obtain ⟨bA, off, rfl, hbA, hcell⟩ := LotsR.el h (by omega)
      have hcx := hcell k hlt
      have HY := Lib.hid (fun h9 => idsF_yes (f := soldAny) hlt h9)
      have HN := Lib.hid (fun h9 => idsF_no (f := soldAny) hlt h9)
      have HZ := Lib.hid (fun h9 => sumF_yes (f := soldAny) hlt h9)
      have HM := Lib.hid (fun h9 => sumF_no (f := soldAny) hlt h9)
      have hpx := hpos l[k] (List.getElem_mem hlt)
      obtain ⟨x, hxe⟩ : ∃ x, x = l[k] := ⟨_, rfl⟩
      rw [← hxe] at hcx HY HN HZ HM hpx
      obtain ⟨c0, c1, c2, c3, c4⟩ := hcx
      have q0 := c0 ⟨wr, hbr⟩
      have q1 := c1 ⟨wr, hbr⟩
      have q2 := c2 ⟨wr, hbr⟩
      have q3 := c3 ⟨wr, hbr⟩
      have q4 := c4 ⟨wr, hbr⟩
      simp only at q0 q1 q2 q3 q4
      clear hxe hcell c0 c1 c2 c3 c4
      obtain ⟨p1, p2⟩ := hpx
      have hal := (Below.refl wr.heap.size wr).alloc (Nat.le_refl _) (.cells #[.int .i64 x.i, .int .i64 x.r, .int .i64 x.s, .int .i64 x.h, .int .i64 x.b] 41)
      have L5 := Lies.new wr 41 #[.int .i64 x.i, .int .i64 x.r, .int .i64 x.s, .int .i64 x.h, .int .i64 x.b]
      have b5 := hbr.trans (hal.mono hbr.size)
      go_upto_region 6 with fail
      generalize wr.alloc (.cells #[.int .i64 x.i, .int .i64 x.r, .int .i64 x.s, .int .i64 x.h, .int .i64 x.b] 41) = w5 at L5 b5 ⊢
      clear hal q0 q1 q2 q3 q4 
      generalize wr.heap.size = g5 at L5 ⊢
      have s0 := L5.cell 0
      have s1 := L5.cell 1
      have s2 := L5.cell 2
      have s3 := L5.cell 3
      have s4 := L5.cell 4
      simp only [List.getElem?_cons_zero, List.getElem?_cons_succ] at s0 s1 s2 s3 s4
      have hz5 := b5.size
      by_cases hs : x.s = 2
      next =>
        have i3 : IntKind.i64.wrap (s + x.h) = s + x.h := IntWalk.i64_in _ (by omega)
        go_wp2
        go_roundw
        case rel => exact ⟨k + 1, s + x.h, by omega, by go_num, rfl, by omega, by rw [Hid, ← HS.out, HZ.out (by simp [hs])]; omega, b5⟩
        case measure => simp [intOf]; omega

      next =>
        have hsf : (x.s == 2) = false := by simp [hs]
        go_wp2
        go_roundw
        case rel => exact ⟨k + 1, s, by omega, by go_num, rfl, by omega, by rw [Hid, ← HS.out, HM.out (by simp [hs])], b5⟩
        case measure => simp [intOf]; omega


    · have hk0 : l.drop k = [] := List.drop_eq_nil_of_le (by omega)
      have HSe : Hid (sumF soldAny l = s) := by rw [Hid, ← HS.out, hk0]; simp [sumF]
      clear hk0
      go_wp2
      refine bodyPost_ret (v := .int .i64 s) (by simp [results, Tryd.results29, go_sem, *]) rfl ⟨by rw [HSe.out], hbr⟩
/-- What LotsIn gives. -/
def GivesI (w : World) (ids : List Int) (ok : Bool) (e : Ending) (w' : World) : Prop := ∃ A c, e = .returned (.tuple #[.slice A ids.length c, .bool ok]) ∧ w'.ownsRow w.heap.size 3 1 (.slice A ids.length c) ids.length (encIs ids) ∧ Below w.heap.size w w'
def GivesIS (w : World) (ids : List Int) (s : Int) (ok : Bool) (e : Ending) (w' : World) : Prop := ∃ A c, e = .returned (.tuple #[.slice A ids.length c, .int .i64 s, .bool ok]) ∧ w'.ownsRow w.heap.size 3 1 (.slice A ids.length c) ids.length (encIs ids) ∧ Below w.heap.size w w'
theorem GivesI.mk {w w' : World} {ids ids' : List Int} {ok ok' : Bool} {A : Option Addr} {c n : Nat} (h1 : ids = ids') (h2 : ok = ok') (hn : ids'.length = n) (h : w'.ownsRow w.heap.size 3 1 (.slice A n c) n (encIs ids')) (hb : Below w.heap.size w w') : GivesI w ids ok (.returned (.tuple #[.slice A n c, .bool ok'])) w' := by
  subst h1; subst h2; subst hn; exact ⟨A, c, rfl, h, hb⟩
theorem GivesIS.mk {w w' : World} {ids ids' : List Int} {s s' : Int} {ok ok' : Bool} {A : Option Addr} {c n : Nat} (h1 : ids = ids') (h2 : ok = ok') (h3 : s = s') (hn : ids'.length = n) (h : w'.ownsRow w.heap.size 3 1 (.slice A n c) n (encIs ids')) (hb : Below w.heap.size w w') : GivesIS w ids s ok (.returned (.tuple #[.slice A n c, .int .i64 s', .bool ok'])) w' := by
  subst h1; subst h2; subst h3; subst hn; exact ⟨A, c, rfl, h, hb⟩
def inOk (l : List Lot) (s : Int) : Bool := goodLots l && inR s 0 3
def inR' (l : List Lot) (s : Int) : List Int := if inOk l s then idsF (inSt s) l else []
def buyOk (l : List Lot) (b : Int) : Bool := goodLots l && inR b 1 999
def buyI (l : List Lot) (b : Int) : List Int := if buyOk l b then idsF (soldTo b) l else []
def buyS (l : List Lot) (b : Int) : Int := if buyOk l b then sumF (soldTo b) l else 0

set_option maxRecDepth 100000 in
set_option maxHeartbeats 4000000 in
theorem implIn_any (A : Option Addr) (c : Nat) (l : List Lot) (b : Int) (w : World) (h : LotsR w w.heap.size A l) :
    Calls Tryd.prog 13 #[.slice A l.length c, .int .i64 b] w (GivesI w (inR' l b) (inOk l b)) := by
  have hl := h.big
  have VA := fun W hW => isAuction_any A c l W hW
  have RA := fun W => inRange_any b 0 3 W
  obtain ⟨g1, hg1⟩ : ∃ g, goodLots l = g := ⟨_, rfl⟩
  obtain ⟨g2, hg2⟩ : ∃ g, inR b 0 3 = g := ⟨_, rfl⟩
  rw [hg1] at VA
  rw [hg2] at RA
  have HO : Hid (inOk l b = (g1 && g2)) := by rw [Hid, ← hg1, ← hg2]; rfl
  have HG := Lib.hid hg1
  clear hg1 hg2
  go_enter Tryd.func13, Tryd.ntmps13
  go_wp2_with fail
  refine (VA w h).mono ?_
  rintro e w1 ⟨rfl, hb1⟩
  have b1 := hb1
  have hR1 : LotsR w1 w1.heap.size A l := SlcR.then h hb1
  cases g1
  · go_wp2
    refine bodyPost_ret (v := .tuple #[.slice none 0 0, .bool false]) (by simp [results, Tryd.results13, go_sem, *]) rfl (GivesI.mk (by unfold inR'; rw [HO.out]; try rfl) HO.out rfl (World.ownsRow_nil _ _ _ _) b1)
  · go_wp2_with fail
    refine (RA w1).mono ?_
    rintro e w2 ⟨rfl, rfl⟩
    have b2 := b1
    have hR2 := hR1
    cases g2
    · go_wp2
      refine bodyPost_ret (v := .tuple #[.slice none 0 0, .bool false]) (by simp [results, Tryd.results13, go_sem, *]) rfl (GivesI.mk (by unfold inR'; rw [HO.out]; try rfl) HO.out rfl (World.ownsRow_nil _ _ _ _) b2)
    · have G := goodL_iff.1 HG.out
      have hn : l.length ≤ 1000 := by have := G.len; omega
      have hpos := G.pos
      have HI0 : Hid (([] : List Int) ++ idsF (inSt b) (l.drop 0) = idsF (inSt b) l) := by rw [Hid]; simp
      have HOz : Hid (w1.ownsRow w.heap.size 3 1 (.slice none 0 0) 0 (encIs [])) := World.ownsRow_nil _ _ _ _
      have HOK := HO
      clear HO
      go_wp2_with fail
      go_loopw [6, 8, 19] (fun ids _ i wr => ∃ (k : Nat) (acc : List Int) (A7 : Option Addr) (c7 : Nat), k ≤ l.length ∧ i = .int .i64 k ∧ ids = .slice A7 acc.length c7 ∧ acc.length ≤ k ∧ Hid (wr.ownsRow w.heap.size 3 1 (.slice A7 acc.length c7) acc.length (encIs acc)) ∧ Hid (acc ++ idsF (inSt b) (l.drop k) = idsF (inSt b) l) ∧ Below w.heap.size w wr) (fun _ _ i _ => l.length - (intOf i).toNat)
      case atStart => exact ⟨0, [], none, 0, Nat.zero_le _, rfl, rfl, Nat.le_refl _, HOz, HI0, b2⟩
      case round =>
        clear HI0 HOz
        obtain ⟨k, acc, A7, c7, hk, rfl, rfl, hak, HO, HI, hbr⟩ := hrel
        by_cases hlt : k < l.length
        · obtain ⟨bA, off, rfl, hbA, hcell⟩ := LotsR.el h (by omega)
          have hcx := hcell k hlt
          have HY := Lib.hid (fun h9 => idsF_yes (f := (inSt b)) hlt h9)
          have HN := Lib.hid (fun h9 => idsF_no (f := (inSt b)) hlt h9)
          have HZ := Lib.hid (fun h9 => sumF_yes (f := (inSt b)) hlt h9)
          have HM := Lib.hid (fun h9 => sumF_no (f := (inSt b)) hlt h9)
          have hpx := hpos l[k] (List.getElem_mem hlt)
          obtain ⟨x, hxe⟩ : ∃ x, x = l[k] := ⟨_, rfl⟩
          rw [← hxe] at hcx HY HN HZ HM hpx
          obtain ⟨c0, c1, c2, c3, c4⟩ := hcx
          have q0 := c0 ⟨wr, hbr⟩
          have q1 := c1 ⟨wr, hbr⟩
          have q2 := c2 ⟨wr, hbr⟩
          have q3 := c3 ⟨wr, hbr⟩
          have q4 := c4 ⟨wr, hbr⟩
          simp only at q0 q1 q2 q3 q4
          clear hxe hcell c0 c1 c2 c3 c4
          obtain ⟨p1, p2⟩ := hpx
          have hal := (Below.refl wr.heap.size wr).alloc (Nat.le_refl _) (.cells #[.int .i64 x.i, .int .i64 x.r, .int .i64 x.s, .int .i64 x.h, .int .i64 x.b] 41)
          have L5 := Lies.new wr 41 #[.int .i64 x.i, .int .i64 x.r, .int .i64 x.s, .int .i64 x.h, .int .i64 x.b]
          have b5 := hbr.trans (hal.mono hbr.size)
          have HO5h := ownsRow_below HO.out hal
          go_upto_region 7 with fail
          generalize wr.alloc (.cells #[.int .i64 x.i, .int .i64 x.r, .int .i64 x.s, .int .i64 x.h, .int .i64 x.b] 41) = w5 at L5 b5 HO5h ⊢
          clear hal q0 q1 q2 q3 q4 HO
          generalize wr.heap.size = g5 at L5 ⊢
          have s0 := L5.cell 0
          have s1 := L5.cell 1
          have s2 := L5.cell 2
          have s3 := L5.cell 3
          have s4 := L5.cell 4
          simp only [List.getElem?_cons_zero, List.getElem?_cons_succ] at s0 s1 s2 s3 s4
          have HO5 : Hid (w5.ownsRow w.heap.size 3 1 (.slice A7 acc.length c7) acc.length (encIs acc)) := HO5h
          clear HO5h
          have hz5 := b5.size
          by_cases hs : x.s = b
          next =>
            go_wp2_with (at_builtin; refine wpList_push (w0 := w5) rfl _ _ 27 rfl 3 (.int .i64 0) 1 8 Tryd.underlying27 infoI rfl (by decide) (by omega) w.heap.size _ _ _ rfl HO5 #[.int .i64 x.i] 1 _ rfl (by first | rfl | exact Array.size_push _) rfl (by simp [Value.oneCell']) (by omega) hz5 rfl rfl rfl rfl ?_; intro v6 w6 HO6 gr6 hb6)
            have hb6' := hb6
            have b6 := b5.trans hb6
            have ho6 := HO6.out
            obtain ⟨A8, c8, rfl⟩ := ownsRow_slice ho6
            have hl8 : (acc ++ [x.i]).length = acc.length + 1 := by rw [List.length_append]; rfl
            have HO8 : Hid (w6.ownsRow w.heap.size 3 1 (.slice A8 (acc ++ [x.i]).length c8) (acc ++ [x.i]).length (encIs (acc ++ [x.i]))) := by
              rw [Hid, hl8, show encIs (acc ++ [x.i]) = encIs acc ++ [.int .i64 x.i] by simp [encIs]]; exact ho6
            clear HO6 ho6 HO5
            clear gr6 hb6
            go_wp2
            go_roundw
            case rel => exact ⟨k + 1, acc ++ [x.i], A8, c8, by omega, by go_num, by rw [hl8], by omega, HO8, by rw [Hid, ← HI.out, HY.out (by simp [hs])]; simp, b6⟩
            case measure => simp [intOf]; omega

          next =>
            have hsf : (x.s == b) = false := by simp [hs]
            go_wp2
            go_roundw
            case rel => exact ⟨k + 1, acc, A7, c7, by omega, by go_num, rfl, by omega, HO5, by rw [Hid, ← HI.out, HN.out (by simp [hs])], b5⟩
            case measure => simp [intOf]; omega


        · have hk0 : l.drop k = [] := List.drop_eq_nil_of_le (by omega)
          have HIe : Hid (idsF (inSt b) l = acc) := by rw [Hid, ← HI.out, hk0]; simp [idsF]
          clear hk0
          go_wp2
          refine bodyPost_ret (v := .tuple #[.slice A7 acc.length c7, .bool true]) (by simp [results, Tryd.results13, go_sem, *]) rfl (GivesI.mk (by unfold inR'; rw [HOK.out]; exact HIe.out) HOK.out rfl HO.out hbr)
set_option maxRecDepth 100000 in
set_option maxHeartbeats 4000000 in
theorem specIn_any (A : Option Addr) (c : Nat) (l : List Lot) (b : Int) (w : World) (h : LotsR w w.heap.size A l) :
    Calls Tryd.prog 14 #[.slice A l.length c, .int .i64 b] w (GivesI w (inR' l b) (inOk l b)) := by
  have hl := h.big
  have VA := fun W hW => l29Good_any A c l W hW
  have RA := fun W => l1In_any b 0 3 W
  obtain ⟨g1, hg1⟩ : ∃ g, goodLots l = g := ⟨_, rfl⟩
  obtain ⟨g2, hg2⟩ : ∃ g, inR b 0 3 = g := ⟨_, rfl⟩
  rw [hg1] at VA
  rw [hg2] at RA
  have HO : Hid (inOk l b = (g1 && g2)) := by rw [Hid, ← hg1, ← hg2]; rfl
  have HG := Lib.hid hg1
  clear hg1 hg2
  have b0 := (Below.refl w.heap.size w).alloc (Nat.le_refl _) (.cells #[] 3)
  have hW : LotsR (w.alloc (.cells #[] 3)) (w.alloc (.cells #[] 3)).heap.size A l := SlcR.then h b0
  have HO0 : Hid ((w.alloc (.cells #[] 3)).ownsRow w.heap.size 3 1 (.slice (some ⟨w.heap.size, 0, none⟩) 0 0) 0 (encIs [])) := owns_empty (Lies.new w 3 #[]) (Nat.le_refl _)
  go_enter Tryd.func14, Tryd.ntmps14
  go_wp2_with fail
  generalize w.alloc (.cells #[] 3) = W at b0 hW HO0 ⊢
  refine (VA W hW).mono ?_
  rintro e w1 ⟨rfl, hb1⟩
  have b1 := bthen b0 hb1
  have hR1 : LotsR w1 w1.heap.size A l := SlcR.then hW hb1
  have HO1 := Lib.hid (ownsRow_below HO0.out hb1)
  cases g1
  · go_wp2
    refine bodyPost_ret (v := .tuple #[.slice (some ⟨w.heap.size, 0, none⟩) 0 0, .bool false]) (by simp [results, Tryd.results14, go_sem, *]) rfl (GivesI.mk (by unfold inR'; rw [HO.out]; try rfl) HO.out rfl HO1.out b1)
  · go_wp2_with fail
    refine (RA w1).mono ?_
    rintro e w2 ⟨rfl, rfl⟩
    have b2 := b1
    have hR2 := hR1
    have HO2 := HO1
    cases g2
    · go_wp2
      refine bodyPost_ret (v := .tuple #[.slice (some ⟨w.heap.size, 0, none⟩) 0 0, .bool false]) (by simp [results, Tryd.results14, go_sem, *]) rfl (GivesI.mk (by unfold inR'; rw [HO.out]; try rfl) HO.out rfl HO2.out b2)
    · have G := goodL_iff.1 HG.out
      have hn : l.length ≤ 1000 := by have := G.len; omega
      have hpos := G.pos
      have HI0 : Hid (([] : List Int) ++ idsF (inSt b) (l.drop 0) = idsF (inSt b) l) := by rw [Hid]; simp
      have HOz : Hid (w1.ownsRow w.heap.size 3 1 (.slice (some ⟨w.heap.size, 0, none⟩) 0 0) 0 (encIs [])) := HO2.out
      have HOK := HO
      clear HO
      go_wp2_with fail
      go_loopw [6, 7] (fun ids i wr => ∃ (k : Nat) (acc : List Int) (A7 : Option Addr) (c7 : Nat), k ≤ l.length ∧ i = .int .i64 k ∧ ids = .slice A7 acc.length c7 ∧ acc.length ≤ k ∧ Hid (wr.ownsRow w.heap.size 3 1 (.slice A7 acc.length c7) acc.length (encIs acc)) ∧ Hid (acc ++ idsF (inSt b) (l.drop k) = idsF (inSt b) l) ∧ Below w.heap.size w wr) (fun _ i _ => l.length - (intOf i).toNat)
      case atStart => exact ⟨0, [], some ⟨w.heap.size, 0, none⟩, 0, Nat.zero_le _, rfl, rfl, Nat.le_refl _, HOz, HI0, b2⟩
      case round =>
        clear HI0 HOz
        obtain ⟨k, acc, A7, c7, hk, rfl, rfl, hak, HO, HI, hbr⟩ := hrel
        by_cases hlt : k < l.length
        · obtain ⟨bA, off, rfl, hbA, hcell⟩ := LotsR.el h (by omega)
          have hcx := hcell k hlt
          have HY := Lib.hid (fun h9 => idsF_yes (f := (inSt b)) hlt h9)
          have HN := Lib.hid (fun h9 => idsF_no (f := (inSt b)) hlt h9)
          have HZ := Lib.hid (fun h9 => sumF_yes (f := (inSt b)) hlt h9)
          have HM := Lib.hid (fun h9 => sumF_no (f := (inSt b)) hlt h9)
          have hpx := hpos l[k] (List.getElem_mem hlt)
          obtain ⟨x, hxe⟩ : ∃ x, x = l[k] := ⟨_, rfl⟩
          rw [← hxe] at hcx HY HN HZ HM hpx
          obtain ⟨c0, c1, c2, c3, c4⟩ := hcx
          have q0 := c0 ⟨wr, hbr⟩
          have q1 := c1 ⟨wr, hbr⟩
          have q2 := c2 ⟨wr, hbr⟩
          have q3 := c3 ⟨wr, hbr⟩
          have q4 := c4 ⟨wr, hbr⟩
          simp only at q0 q1 q2 q3 q4
          clear hxe hcell c0 c1 c2 c3 c4
          obtain ⟨p1, p2⟩ := hpx
          obtain ⟨w5, hw5⟩ : ∃ z, z = wr := ⟨_, rfl⟩
          subst hw5
          have b5 := hbr
          have HO5 := HO
          clear HO
          have hz5 := b5.size
          by_cases hs : x.s = b
          next =>
            go_wp2_with (at_builtin; refine wpList_push (w0 := w5) rfl _ _ 27 rfl 3 (.int .i64 0) 1 8 Tryd.underlying27 infoI rfl (by decide) (by omega) w.heap.size _ _ _ rfl HO5 #[.int .i64 x.i] 1 _ rfl (by first | rfl | exact Array.size_push _) rfl (by simp [Value.oneCell']) (by omega) hz5 rfl rfl rfl rfl ?_; intro v6 w6 HO6 gr6 hb6)
            have hb6' := hb6
            have b6 := b5.trans hb6
            have ho6 := HO6.out
            obtain ⟨A8, c8, rfl⟩ := ownsRow_slice ho6
            have hl8 : (acc ++ [x.i]).length = acc.length + 1 := by rw [List.length_append]; rfl
            have HO8 : Hid (w6.ownsRow w.heap.size 3 1 (.slice A8 (acc ++ [x.i]).length c8) (acc ++ [x.i]).length (encIs (acc ++ [x.i]))) := by
              rw [Hid, hl8, show encIs (acc ++ [x.i]) = encIs acc ++ [.int .i64 x.i] by simp [encIs]]; exact ho6
            clear HO6 ho6 HO5
            clear gr6 hb6
            go_wp2
            go_roundw
            case rel => exact ⟨k + 1, acc ++ [x.i], A8, c8, by omega, by go_num, by rw [hl8], by omega, HO8, by rw [Hid, ← HI.out, HY.out (by simp [hs])]; simp, b6⟩
            case measure => simp [intOf]; omega

          next =>
            have hsf : (x.s == b) = false := by simp [hs]
            go_wp2
            go_roundw
            case rel => exact ⟨k + 1, acc, A7, c7, by omega, by go_num, rfl, by omega, HO5, by rw [Hid, ← HI.out, HN.out (by simp [hs])], b5⟩
            case measure => simp [intOf]; omega


        · have hk0 : l.drop k = [] := List.drop_eq_nil_of_le (by omega)
          have HIe : Hid (idsF (inSt b) l = acc) := by rw [Hid, ← HI.out, hk0]; simp [idsF]
          clear hk0
          go_wp2
          refine bodyPost_ret (v := .tuple #[.slice A7 acc.length c7, .bool true]) (by simp [results, Tryd.results14, go_sem, *]) rfl (GivesI.mk (by unfold inR'; rw [HOK.out]; exact HIe.out) HOK.out rfl HO.out hbr)
set_option maxRecDepth 100000 in
set_option maxHeartbeats 4000000 in
theorem implBuy_any (A : Option Addr) (c : Nat) (l : List Lot) (b : Int) (w : World) (h : LotsR w w.heap.size A l) :
    Calls Tryd.prog 6 #[.slice A l.length c, .int .i64 b] w (GivesIS w (buyI l b) (buyS l b) (buyOk l b)) := by
  have hl := h.big
  have VA := fun W hW => isAuction_any A c l W hW
  have RA := fun W => inRange_any b 1 999 W
  obtain ⟨g1, hg1⟩ : ∃ g, goodLots l = g := ⟨_, rfl⟩
  obtain ⟨g2, hg2⟩ : ∃ g, inR b 1 999 = g := ⟨_, rfl⟩
  rw [hg1] at VA
  rw [hg2] at RA
  have HO : Hid (buyOk l b = (g1 && g2)) := by rw [Hid, ← hg1, ← hg2]; rfl
  have HG := Lib.hid hg1
  clear hg1 hg2
  go_enter Tryd.func6, Tryd.ntmps6
  go_wp2_with fail
  refine (VA w h).mono ?_
  rintro e w1 ⟨rfl, hb1⟩
  have b1 := hb1
  have hR1 : LotsR w1 w1.heap.size A l := SlcR.then h hb1
  cases g1
  · go_wp2
    refine bodyPost_ret (v := .tuple #[.slice none 0 0, .int .i64 0, .bool false]) (by simp [results, Tryd.results6, go_sem, *]) rfl (GivesIS.mk (by unfold buyI; rw [HO.out]; try rfl) HO.out (by unfold buyS; rw [HO.out]; try rfl) rfl (World.ownsRow_nil _ _ _ _) b1)
  · go_wp2_with fail
    refine (RA w1).mono ?_
    rintro e w2 ⟨rfl, rfl⟩
    have b2 := b1
    have hR2 := hR1
    cases g2
    · go_wp2
      refine bodyPost_ret (v := .tuple #[.slice none 0 0, .int .i64 0, .bool false]) (by simp [results, Tryd.results6, go_sem, *]) rfl (GivesIS.mk (by unfold buyI; rw [HO.out]; try rfl) HO.out (by unfold buyS; rw [HO.out]; try rfl) rfl (World.ownsRow_nil _ _ _ _) b2)
    · have G := goodL_iff.1 HG.out
      have hn : l.length ≤ 1000 := by have := G.len; omega
      have hpos := G.pos
      have HOK := HO
      clear HO
      go_wp2_with fail
      refine (lotsBought_any A c l b w1 hR2 hn hpos).mono ?_
      rintro e w3 ⟨A3, c3, rfl, ho3, hb3⟩
      have hI : buyI l b = idsF (soldTo b) l := by unfold buyI; rw [HOK.out]; rfl
      have hS : buyS l b = sumF (soldTo b) l := by unfold buyS; rw [HOK.out]; rfl
      have HI := Lib.hid hI
      have HS := Lib.hid hS
      have HO3 := Lib.hid ho3
      clear hI hS ho3
      generalize sumF (soldTo b) l = sv at HS ⊢
      generalize idsF (soldTo b) l = iv at HI HO3 ⊢
      have b3 := bthen b1 hb3
      go_wp2
      refine bodyPost_ret (v := .tuple #[.slice A3 iv.length c3, .int .i64 sv, .bool true]) (by simp [results, Tryd.results6, go_sem, *]) rfl (GivesIS.mk HI.out HOK.out HS.out rfl (ownsRow_lower HO3.out hb1.size) b3)

set_option maxRecDepth 100000 in
set_option maxHeartbeats 4000000 in
theorem specBuy_any (A : Option Addr) (c : Nat) (l : List Lot) (b : Int) (w : World) (h : LotsR w w.heap.size A l) :
    Calls Tryd.prog 7 #[.slice A l.length c, .int .i64 b] w (GivesIS w (buyI l b) (buyS l b) (buyOk l b)) := by
  have hl := h.big
  have VA := fun W hW => l29Good_any A c l W hW
  have RA := fun W => l1In_any b 1 999 W
  obtain ⟨g1, hg1⟩ : ∃ g, goodLots l = g := ⟨_, rfl⟩
  obtain ⟨g2, hg2⟩ : ∃ g, inR b 1 999 = g := ⟨_, rfl⟩
  rw [hg1] at VA
  rw [hg2] at RA
  have HO : Hid (buyOk l b = (g1 && g2)) := by rw [Hid, ← hg1, ← hg2]; rfl
  have HG := Lib.hid hg1
  have HG2 := Lib.hid hg2
  clear hg1 hg2
  have b0 := (Below.refl w.heap.size w).alloc (Nat.le_refl _) (.cells #[] 3)
  have hW : LotsR (w.alloc (.cells #[] 3)) (w.alloc (.cells #[] 3)).heap.size A l := SlcR.then h b0
  have HO0 : Hid ((w.alloc (.cells #[] 3)).ownsRow w.heap.size 3 1 (.slice (some ⟨w.heap.size, 0, none⟩) 0 0) 0 (encIs [])) := owns_empty (Lies.new w 3 #[]) (Nat.le_refl _)
  go_enter Tryd.func7, Tryd.ntmps7
  go_wp2_with fail
  generalize w.alloc (.cells #[] 3) = W at b0 hW HO0 ⊢
  refine (VA W hW).mono ?_
  rintro e w1 ⟨rfl, hb1⟩
  have b1 := bthen b0 hb1
  have hR1 : LotsR w1 w1.heap.size A l := SlcR.then hW hb1
  have HO1 := Lib.hid (ownsRow_below HO0.out hb1)
  cases g1
  · go_wp2
    refine bodyPost_ret (v := .tuple #[.slice (some ⟨w.heap.size, 0, none⟩) 0 0, .int .i64 0, .bool false]) (by simp [results, Tryd.results7, go_sem, *]) rfl (GivesIS.mk (by unfold buyI; rw [HO.out]; try rfl) HO.out (by unfold buyS; rw [HO.out]; try rfl) rfl HO1.out b1)
  · go_wp2_with fail
    refine (RA w1).mono ?_
    rintro e w2 ⟨rfl, rfl⟩
    have b2 := b1
    have hR2 := hR1
    have HO2 := HO1
    cases g2
    · go_wp2
      refine bodyPost_ret (v := .tuple #[.slice (some ⟨w.heap.size, 0, none⟩) 0 0, .int .i64 0, .bool false]) (by simp [results, Tryd.results7, go_sem, *]) rfl (GivesIS.mk (by unfold buyI; rw [HO.out]; try rfl) HO.out (by unfold buyS; rw [HO.out]; try rfl) rfl HO2.out b2)
    · have G := goodL_iff.1 HG.out
      have hn : l.length ≤ 1000 := by have := G.len; omega
      have hpos := G.pos
      have hbne : ¬ b = 0 := by have := inR_iff.1 HG2.out; omega
      have HI0 : Hid (([] : List Int) ++ idsF (soldTo b) (l.drop 0) = idsF (soldTo b) l) := by rw [Hid]; simp
      have HOz : Hid (w1.ownsRow w.heap.size 3 1 (.slice (some ⟨w.heap.size, 0, none⟩) 0 0) 0 (encIs [])) := HO2.out
      have HOK := HO
      clear HO
      go_wp2_with fail
      go_loopw [7, 8] (fun ids i wr => ∃ (k : Nat) (acc : List Int) (A7 : Option Addr) (c7 : Nat), k ≤ l.length ∧ i = .int .i64 k ∧ ids = .slice A7 acc.length c7 ∧ acc.length ≤ k ∧ Hid (wr.ownsRow w.heap.size 3 1 (.slice A7 acc.length c7) acc.length (encIs acc)) ∧ Hid (acc ++ idsF (soldTo b) (l.drop k) = idsF (soldTo b) l) ∧ Below w.heap.size w wr) (fun _ i _ => l.length - (intOf i).toNat)
      case atStart => exact ⟨0, [], some ⟨w.heap.size, 0, none⟩, 0, Nat.zero_le _, rfl, rfl, Nat.le_refl _, HOz, HI0, b2⟩
      case round =>
        clear HI0 HOz
        obtain ⟨k, acc, A7, c7, hk, rfl, rfl, hak, HO, HI, hbr⟩ := hrel
        by_cases hlt : k < l.length
        · obtain ⟨bA, off, rfl, hbA, hcell⟩ := LotsR.el h (by omega)
          have hcx := hcell k hlt
          have HY := Lib.hid (fun h9 => idsF_yes (f := (soldTo b)) hlt h9)
          have HN := Lib.hid (fun h9 => idsF_no (f := (soldTo b)) hlt h9)
          have HZ := Lib.hid (fun h9 => sumF_yes (f := (soldTo b)) hlt h9)
          have HM := Lib.hid (fun h9 => sumF_no (f := (soldTo b)) hlt h9)
          have hpx := hpos l[k] (List.getElem_mem hlt)
          obtain ⟨x, hxe⟩ : ∃ x, x = l[k] := ⟨_, rfl⟩
          rw [← hxe] at hcx HY HN HZ HM hpx
          obtain ⟨c0, c1, c2, c3, c4⟩ := hcx
          have q0 := c0 ⟨wr, hbr⟩
          have q1 := c1 ⟨wr, hbr⟩
          have q2 := c2 ⟨wr, hbr⟩
          have q3 := c3 ⟨wr, hbr⟩
          have q4 := c4 ⟨wr, hbr⟩
          simp only at q0 q1 q2 q3 q4
          clear hxe hcell c0 c1 c2 c3 c4
          obtain ⟨p1, p2⟩ := hpx
          obtain ⟨w5, hw5⟩ : ∃ z, z = wr := ⟨_, rfl⟩
          subst hw5
          have b5 := hbr
          have HO5 := HO
          clear HO
          have hz5 := b5.size
          by_cases hs : x.s = 2
          next =>
            by_cases hb : x.b = b
            next =>
              go_wp2_with (at_builtin; refine wpList_push (w0 := w5) rfl _ _ 27 rfl 3 (.int .i64 0) 1 8 Tryd.underlying27 infoI rfl (by decide) (by omega) w.heap.size _ _ _ rfl HO5 #[.int .i64 x.i] 1 _ rfl (by first | rfl | exact Array.size_push _) rfl (by simp [Value.oneCell']) (by omega) hz5 rfl rfl rfl rfl ?_; intro v6 w6 HO6 gr6 hb6)
              have hb6' := hb6
              have b6 := b5.trans hb6
              have ho6 := HO6.out
              obtain ⟨A8, c8, rfl⟩ := ownsRow_slice ho6
              have hl8 : (acc ++ [x.i]).length = acc.length + 1 := by rw [List.length_append]; rfl
              have HO8 : Hid (w6.ownsRow w.heap.size 3 1 (.slice A8 (acc ++ [x.i]).length c8) (acc ++ [x.i]).length (encIs (acc ++ [x.i]))) := by
                rw [Hid, hl8, show encIs (acc ++ [x.i]) = encIs acc ++ [.int .i64 x.i] by simp [encIs]]; exact ho6
              clear HO6 ho6 HO5
              clear gr6 hb6
              go_wp2
              go_roundw
              case rel => exact ⟨k + 1, acc ++ [x.i], A8, c8, by omega, by go_num, by rw [hl8], by omega, HO8, by rw [Hid, ← HI.out, HY.out (by simp [hs, hb])]; simp, b6⟩
              case measure => simp [intOf]; omega

            next =>
              have hbf : (x.b == b) = false := by simp [hb]
              go_wp2
              go_roundw
              case rel => exact ⟨k + 1, acc, A7, c7, by omega, by go_num, rfl, by omega, HO5, by rw [Hid, ← HI.out, HN.out (by simp [hs, hb])], b5⟩
              case measure => simp [intOf]; omega

          next =>
            have hsf : (x.s == 2) = false := by simp [hs]
            go_wp2
            go_roundw
            case rel => exact ⟨k + 1, acc, A7, c7, by omega, by go_num, rfl, by omega, HO5, by rw [Hid, ← HI.out, HN.out (by simp [hs])], b5⟩
            case measure => simp [intOf]; omega


        · have hk0 : l.drop k = [] := List.drop_eq_nil_of_le (by omega)
          have HIe : Hid (idsF (soldTo b) l = acc) := by rw [Hid, ← HI.out, hk0]; simp [idsF]
          clear hk0
          go_wp2_with fail
          refine (l29Sum_any A c l b hbne wr (LotsR.keepB h hbr) hn hpos).mono ?_
          rintro e w9 ⟨rfl, hb9⟩
          have hS : buyS l b = sumF (soldTo b) l := by unfold buyS; rw [HOK.out]; rfl
          have HS := Lib.hid hS
          have HO9 := Lib.hid (ownsRow_below HO.out hb9)
          have b9 := hbr.trans (hb9.mono hbr.size)
          clear hS HO
          generalize sumF (soldTo b) l = sv at HS ⊢
          go_wp2
          refine bodyPost_ret (v := .tuple #[.slice A7 acc.length c7, .int .i64 sv, .bool true]) (by simp [results, Tryd.results7, go_sem, *]) rfl (GivesIS.mk (by unfold buyI; rw [HOK.out]; exact HIe.out) HOK.out HS.out rfl HO9.out b9)
def turnS (l : List Lot) : Int := if goodLots l then sumF soldAny l else 0
def GivesN (w : World) (s : Int) (ok : Bool) (e : Ending) (w' : World) : Prop := e = .returned (.tuple #[.int .i64 s, .bool ok]) ∧ Below w.heap.size w w'
theorem GivesN.mk {w w' : World} {s s' : Int} {ok ok' : Bool} (h1 : s = s') (h2 : ok = ok') (hb : Below w.heap.size w w') : GivesN w s ok (.returned (.tuple #[.int .i64 s', .bool ok'])) w' := by
  subst h1; subst h2; exact ⟨rfl, hb⟩

set_option maxRecDepth 100000 in
set_option maxHeartbeats 4000000 in
theorem implTurn_any (A : Option Addr) (c : Nat) (l : List Lot) (w : World) (h : LotsR w w.heap.size A l) :
    Calls Tryd.prog 11 #[.slice A l.length c] w (GivesN w (turnS l) (goodLots l)) := by
  have hl := h.big
  have VA := fun W hW => isAuction_any A c l W hW
  obtain ⟨g1, hg1⟩ : ∃ g, goodLots l = g := ⟨_, rfl⟩
  rw [hg1] at VA
  have HG := Lib.hid hg1
  clear hg1
  go_enter Tryd.func11, Tryd.ntmps11
  go_wp2_with fail
  refine (VA w h).mono ?_
  rintro e w1 ⟨rfl, hb1⟩
  have hR1 : LotsR w1 w1.heap.size A l := SlcR.then h hb1
  cases g1
  · go_wp2
    refine bodyPost_ret (v := .tuple #[.int .i64 0, .bool false]) (by simp [results, Tryd.results11, go_sem, *]) rfl (GivesN.mk (by unfold turnS; rw [HG.out]; try rfl) HG.out hb1)
  · have G := goodL_iff.1 HG.out
    have hn : l.length ≤ 1000 := by have := G.len; omega
    have hpos := G.pos
    have HS0 : Hid ((0 : Int) + sumF soldAny (l.drop 0) = sumF soldAny l) := by rw [Hid]; simp
    go_wp2_with fail
    go_loopw [4, 6, 12] (fun sum _ i wr => ∃ (k : Nat) (s : Int), k ≤ l.length ∧ i = .int .i64 k ∧ sum = .int .i64 s ∧ (0 ≤ s ∧ s ≤ 100000 * k) ∧ Hid (s + sumF soldAny (l.drop k) = sumF soldAny l) ∧ Below w.heap.size w wr) (fun _ _ i _ => l.length - (intOf i).toNat)
    case atStart => exact ⟨0, 0, Nat.zero_le _, rfl, rfl, by omega, HS0, hb1⟩
    case round =>
      clear HS0
      obtain ⟨k, s, hk, rfl, rfl, ⟨s1, s2⟩, HS, hbr⟩ := hrel
      by_cases hlt : k < l.length
      · obtain ⟨bA, off, rfl, hbA, hcell⟩ := LotsR.el h (by omega)
        have hcx := hcell k hlt
        have HY := Lib.hid (fun h9 => idsF_yes (f := soldAny) hlt h9)
        have HN := Lib.hid (fun h9 => idsF_no (f := soldAny) hlt h9)
        have HZ := Lib.hid (fun h9 => sumF_yes (f := soldAny) hlt h9)
        have HM := Lib.hid (fun h9 => sumF_no (f := soldAny) hlt h9)
        have hpx := hpos l[k] (List.getElem_mem hlt)
        obtain ⟨x, hxe⟩ : ∃ x, x = l[k] := ⟨_, rfl⟩
        rw [← hxe] at hcx HY HN HZ HM hpx
        obtain ⟨c0, c1, c2, c3, c4⟩ := hcx
        have q0 := c0 ⟨wr, hbr⟩
        have q1 := c1 ⟨wr, hbr⟩
        have q2 := c2 ⟨wr, hbr⟩
        have q3 := c3 ⟨wr, hbr⟩
        have q4 := c4 ⟨wr, hbr⟩
        simp only at q0 q1 q2 q3 q4
        clear hxe hcell c0 c1 c2 c3 c4
        obtain ⟨p1, p2⟩ := hpx
        have hal := (Below.refl wr.heap.size wr).alloc (Nat.le_refl _) (.cells #[.int .i64 x.i, .int .i64 x.r, .int .i64 x.s, .int .i64 x.h, .int .i64 x.b] 41)
        have L5 := Lies.new wr 41 #[.int .i64 x.i, .int .i64 x.r, .int .i64 x.s, .int .i64 x.h, .int .i64 x.b]
        have b5 := hbr.trans (hal.mono hbr.size)
        go_upto_region 7 with fail
        generalize wr.alloc (.cells #[.int .i64 x.i, .int .i64 x.r, .int .i64 x.s, .int .i64 x.h, .int .i64 x.b] 41) = w5 at L5 b5 ⊢
        clear hal q0 q1 q2 q3 q4 
        generalize wr.heap.size = g5 at L5 ⊢
        have s0 := L5.cell 0
        have s1 := L5.cell 1
        have s2 := L5.cell 2
        have s3 := L5.cell 3
        have s4 := L5.cell 4
        simp only [List.getElem?_cons_zero, List.getElem?_cons_succ] at s0 s1 s2 s3 s4
        have hz5 := b5.size
        by_cases hs : x.s = 2
        next =>
          have i3 : IntKind.i64.wrap (s + x.h) = s + x.h := IntWalk.i64_in _ (by omega)
          go_wp2
          go_roundw
          case rel => exact ⟨k + 1, s + x.h, by omega, by go_num, rfl, by omega, by rw [Hid, ← HS.out, HZ.out (by simp [hs])]; omega, b5⟩
          case measure => simp [intOf]; omega

        next =>
          have hsf : (x.s == 2) = false := by simp [hs]
          go_wp2
          go_roundw
          case rel => exact ⟨k + 1, s, by omega, by go_num, rfl, by omega, by rw [Hid, ← HS.out, HM.out (by simp [hs])], b5⟩
          case measure => simp [intOf]; omega


      · have hk0 : l.drop k = [] := List.drop_eq_nil_of_le (by omega)
        have HSe : Hid (sumF soldAny l = s) := by rw [Hid, ← HS.out, hk0]; simp [sumF]
        clear hk0
        go_wp2
        refine bodyPost_ret (v := .tuple #[.int .i64 s, .bool true]) (by simp [results, Tryd.results11, go_sem, *]) rfl (GivesN.mk (by unfold turnS; rw [HG.out]; exact HSe.out) HG.out hbr)
set_option maxRecDepth 100000 in
set_option maxHeartbeats 4000000 in
theorem specTurn_any (A : Option Addr) (c : Nat) (l : List Lot) (w : World) (h : LotsR w w.heap.size A l) :
    Calls Tryd.prog 12 #[.slice A l.length c] w (GivesN w (turnS l) (goodLots l)) := by
  have hl := h.big
  have VA := fun W hW => l29Good_any A c l W hW
  obtain ⟨g1, hg1⟩ : ∃ g, goodLots l = g := ⟨_, rfl⟩
  rw [hg1] at VA
  have HG := Lib.hid hg1
  clear hg1
  go_enter Tryd.func12, Tryd.ntmps12
  go_wp2_with fail
  refine (VA w h).mono ?_
  rintro e w1 ⟨rfl, hb1⟩
  have hR1 : LotsR w1 w1.heap.size A l := SlcR.then h hb1
  cases g1
  · go_wp2
    refine bodyPost_ret (v := .tuple #[.int .i64 0, .bool false]) (by simp [results, Tryd.results12, go_sem, *]) rfl (GivesN.mk (by unfold turnS; rw [HG.out]; try rfl) HG.out hb1)
  · have G := goodL_iff.1 HG.out
    have hn : l.length ≤ 1000 := by have := G.len; omega
    have hpos := G.pos
    go_wp2_with fail
    refine (l29Sum_all A c l w1 hR1 hn hpos).mono ?_
    rintro e w2 ⟨rfl, hb2⟩
    have hS : turnS l = sumF soldAny l := by unfold turnS; rw [HG.out]; rfl
    have HS := Lib.hid hS
    clear hS
    generalize sumF soldAny l = sv at HS ⊢
    go_wp2
    refine bodyPost_ret (v := .tuple #[.int .i64 sv, .bool true]) (by simp [results, Tryd.results12, go_sem, *]) rfl (GivesN.mk HS.out HG.out (bthen hb1 hb2))

end Go.Proofs.YtkokbmmffkpclaaDoor

/- The best buyer. (Printed by gen_buy.py) -/
namespace Go.Proofs.YtkokbmmffkpclaaDoor
open Go.RowKit


theorem bestGo_step {l : List Lot} {n : Nat} {p : Int × Int} (h : bestGo l n = p) : bestGo l (n + 1) = if p.2 < sumB l ((n : Int) + 1) then ((n : Int) + 1, sumB l ((n : Int) + 1)) else p := by rw [bestGo, h]
theorem bestS_yes {l r : List Lot} {k : Nat} (h : k < r.length) (hs : r[k].s = 2) (p : Int × Int) : bestS l (r.drop k) p = bestS l (r.drop (k + 1)) (if p.2 < sumB l r[k].b ∨ (sumB l r[k].b = p.2 ∧ r[k].b < p.1) then (r[k].b, sumB l r[k].b) else p) := by
  rw [List.drop_eq_getElem_cons h, bestS, if_pos hs]
theorem bestS_no {l r : List Lot} {k : Nat} (h : k < r.length) (hs : ¬ r[k].s = 2) (p : Int × Int) : bestS l (r.drop k) p = bestS l (r.drop (k + 1)) p := by
  rw [List.drop_eq_getElem_cons h, bestS, if_neg hs]
def bestV (l : List Lot) : Int := if goodLots l then (bestGo l 999).1 else 0
def bestOk (l : List Lot) : Bool := goodLots l && decide (0 < (bestGo l 999).1)

set_option maxRecDepth 100000 in
set_option maxHeartbeats 4000000 in
theorem implBest_any (A : Option Addr) (c : Nat) (l : List Lot) (w : World) (h : LotsR w w.heap.size A l) :
    Calls Tryd.prog 9 #[.slice A l.length c] w (GivesN w (bestV l) (bestOk l)) := by
  have hl := h.big
  have VA := fun W hW => isAuction_any A c l W hW
  obtain ⟨g1, hg1⟩ : ∃ g, goodLots l = g := ⟨_, rfl⟩
  rw [hg1] at VA
  have HG := Lib.hid hg1
  clear hg1
  go_enter Tryd.func9, Tryd.ntmps9
  go_wp2_with fail
  refine (VA w h).mono ?_
  rintro e w1 ⟨rfl, hb1⟩
  cases g1
  · go_wp2
    refine bodyPost_ret (v := .tuple #[.int .i64 0, .bool false]) (by simp [results, Tryd.results9, go_sem, *]) rfl (GivesN.mk (by unfold bestV; rw [HG.out]; try rfl) (by unfold bestOk; rw [HG.out]; try rfl) hb1)
  · have G := goodL_iff.1 HG.out
    have hn : l.length ≤ 1000 := by have := G.len; omega
    have hpos := G.pos
    clear VA
    go_wp2_with fail
    go_loopw [4, 5, 6, 7, 8] (fun best most i _ _ wr => ∃ (n : Nat) (bb mm : Int), n ≤ 999 ∧ i = .int .i64 ((n : Int) + 1) ∧ best = .int .i64 bb ∧ most = .int .i64 mm ∧ Hid (bestGo l n = (bb, mm)) ∧ Below w.heap.size w wr) (fun _ _ i _ _ _ => 1000 - (intOf i).toNat)
    case atStart => exact ⟨0, 0, 0, Nat.zero_le _, rfl, rfl, rfl, rfl, hb1⟩
    case round =>
      clear hb1
      obtain ⟨n, bb, mm, hn9, rfl, rfl, rfl, HP, hbr⟩ := hrel
      by_cases hlt : n < 999
      · have hn1 : (n : Int) + 1 ≤ 999 := by omega
        have HST := Lib.hid (bestGo_step HP.out)
        obtain ⟨bd, hbd⟩ : ∃ bd, (n : Int) + 1 = bd := ⟨_, rfl⟩
        rw [hbd] at HST hn1 ⊢
        have HBD := Lib.hid hbd
        have hbd0 : 1 ≤ bd := by omega
        clear hbd
        go_wp2_with fail
        refine (lotsBought_any A c l bd wr (LotsR.keepB h hbr) hn hpos).mono ?_
        rintro e w3 ⟨A3, c3, rfl, ho3, hb3⟩
        have b3 := hbr.trans (hb3.mono hbr.size)
        clear ho3
        generalize (idsF (soldTo bd) l).length = zl
        have hsb : sumF (soldTo bd) l = sumB l bd := rfl
        rw [hsb]
        clear hsb
        obtain ⟨sv, hsv⟩ : ∃ sv, sumB l bd = sv := ⟨_, rfl⟩
        rw [hsv] at HST ⊢
        clear hsv
        by_cases hmx : mm < sv
        · have HP2 : Hid (bestGo l (n + 1) = (bd, sv)) := by rw [Hid, HST.out]; rw [if_pos hmx]
          go_wp2
          go_roundw
          case rel => exact ⟨n + 1, bd, sv, by omega, by have := HBD.out; go_num, rfl, rfl, HP2, b3⟩
          case measure => simp [intOf]; omega
        · have HP2 : Hid (bestGo l (n + 1) = (bb, mm)) := by rw [Hid, HST.out]; rw [if_neg hmx]
          go_wp2
          go_roundw
          case rel => exact ⟨n + 1, bb, mm, by omega, by have := HBD.out; go_num, rfl, rfl, HP2, b3⟩
          case measure => simp [intOf]; omega
      · obtain rfl : n = 999 := by omega
        have HB2 : Hid (bestV l = bb ∧ bestOk l = decide (0 < bb)) := by
          have e9 := HP.out
          unfold bestV bestOk
          rw [HG.out, e9]
          exact ⟨rfl, rfl⟩
        obtain ⟨d9, hd9⟩ : ∃ d, decide (0 < bb) = d := ⟨_, rfl⟩
        rw [hd9] at HB2
        go_wp2
        refine bodyPost_ret (v := .tuple #[.int .i64 bb, .bool d9]) (by simp [results, Tryd.results9, go_sem, *]) rfl (GivesN.mk HB2.out.1 HB2.out.2 hbr)

set_option maxRecDepth 100000 in
set_option maxHeartbeats 4000000 in
theorem specBest_any (A : Option Addr) (c : Nat) (l : List Lot) (w : World) (h : LotsR w w.heap.size A l) :
    Calls Tryd.prog 10 #[.slice A l.length c] w (GivesN w (bestV l) (bestOk l)) := by
  have hl := h.big
  have VA := fun W hW => l29Good_any A c l W hW
  obtain ⟨g1, hg1⟩ : ∃ g, goodLots l = g := ⟨_, rfl⟩
  rw [hg1] at VA
  have HG := Lib.hid hg1
  clear hg1
  go_enter Tryd.func10, Tryd.ntmps10
  go_wp2_with fail
  refine (VA w h).mono ?_
  rintro e w1 ⟨rfl, hb1⟩
  cases g1
  · go_wp2
    refine bodyPost_ret (v := .tuple #[.int .i64 0, .bool false]) (by simp [results, Tryd.results10, go_sem, *]) rfl (GivesN.mk (by unfold bestV; rw [HG.out]; try rfl) (by unfold bestOk; rw [HG.out]; try rfl) hb1)
  · have G := goodL_iff.1 HG.out
    have hn : l.length ≤ 1000 := by have := G.len; omega
    have hpos := G.pos
    clear VA
    have HS := Lib.hid (best_same G)
    have HSB : Hid (∀ x ∈ l, x.s = 2 → 1 ≤ x.b) := fun x hx hs => (sold_pos (G.all x hx) hs).2.1
    have HA0 : Hid (bestS l (l.drop 0) (0, 0) = bestGo l 999) := HS.out
    go_wp2_with fail
    go_loopw [4, 5, 6, 7, 8] (fun best most i _ _ wr => ∃ (k : Nat) (bb mm : Int), k ≤ l.length ∧ i = .int .i64 k ∧ best = .int .i64 bb ∧ most = .int .i64 mm ∧ Hid (bestS l (l.drop k) (bb, mm) = bestGo l 999) ∧ Below w.heap.size w wr) (fun _ _ i _ _ _ => l.length - (intOf i).toNat)
    case atStart => exact ⟨0, 0, 0, Nat.zero_le _, rfl, rfl, rfl, HA0, hb1⟩
    case round =>
      clear hb1 HA0
      obtain ⟨k, bb, mm, hk, rfl, rfl, rfl, HP, hbr⟩ := hrel
      by_cases hlt : k < l.length
      · obtain ⟨bA, off, rfl, hbA, hcell⟩ := LotsR.el h (by omega)
        have hcx := hcell k hlt
        have HY := Lib.hid (fun h9 => bestS_yes (l := l) hlt h9 (bb, mm))
        have HN := Lib.hid (fun h9 => bestS_no (l := l) hlt h9 (bb, mm))
        have HX := Lib.hid (HSB.out l[k] (List.getElem_mem hlt))
        obtain ⟨x, hxe⟩ : ∃ x, x = l[k] := ⟨_, rfl⟩
        rw [← hxe] at hcx HY HN HX
        obtain ⟨c0, c1, c2, c3, c4⟩ := hcx
        have q0 := c0 ⟨wr, hbr⟩
        have q1 := c1 ⟨wr, hbr⟩
        have q2 := c2 ⟨wr, hbr⟩
        have q3 := c3 ⟨wr, hbr⟩
        have q4 := c4 ⟨wr, hbr⟩
        simp only at q0 q1 q2 q3 q4
        clear hxe hcell c0 c1 c2 c3 c4
        have hal := (Below.refl wr.heap.size wr).alloc (Nat.le_refl _) (.cells #[.int .i64 x.i, .int .i64 x.r, .int .i64 x.s, .int .i64 x.h, .int .i64 x.b] 41)
        have L5 := Lies.new wr 41 #[.int .i64 x.i, .int .i64 x.r, .int .i64 x.s, .int .i64 x.h, .int .i64 x.b]
        have b5 := hbr.trans (hal.mono hbr.size)
        go_upto_region 8 with fail
        generalize wr.alloc (.cells #[.int .i64 x.i, .int .i64 x.r, .int .i64 x.s, .int .i64 x.h, .int .i64 x.b] 41) = w5 at L5 b5 ⊢
        clear hal q0 q1 q2 q3 q4
        generalize wr.heap.size = g5 at L5 ⊢
        have s0 := L5.cell 0
        have s1 := L5.cell 1
        have s2 := L5.cell 2
        have s3 := L5.cell 3
        have s4 := L5.cell 4
        simp only [List.getElem?_cons_zero, List.getElem?_cons_succ] at s0 s1 s2 s3 s4
        by_cases hs : x.s = 2
        next =>
          have hxb := HX.out hs
          have HY2 := Lib.hid (HY.out hs)
          have hbne : ¬ x.b = 0 := by omega
          clear HY HN HX
          go_wp2_with fail
          refine (l29Sum_any _ c l x.b hbne w5 (LotsR.keepB h b5) hn hpos).mono ?_
          rintro e w6 ⟨rfl, hb6⟩
          have b6 := b5.trans (hb6.mono b5.size)
          have L6 := L5.below hb6 L5.lt
          clear L5 s0 s1 s2 s3 s4
          have s0 := L6.cell 0
          have s1 := L6.cell 1
          have s2 := L6.cell 2
          have s3 := L6.cell 3
          have s4 := L6.cell 4
          simp only [List.getElem?_cons_zero, List.getElem?_cons_succ] at s0 s1 s2 s3 s4
          have hsb : sumF (soldTo x.b) l = sumB l x.b := rfl
          rw [hsb]
          clear hsb
          obtain ⟨sv, hsv⟩ : ∃ sv, sumB l x.b = sv := ⟨_, rfl⟩
          rw [hsv] at HY2 ⊢
          clear hsv
          by_cases h1 : mm < sv
          next =>
            have HP2 : Hid (bestS l (l.drop (k + 1)) (x.b, sv) = bestGo l 999) := by rw [Hid, ← HP.out, HY2.out, if_pos (.inl h1)]
            go_wp2
            go_roundw
            case rel => exact ⟨k + 1, x.b, sv, by omega, by go_num, rfl, rfl, HP2, b6⟩
            case measure => simp [intOf]; omega
          next =>
            by_cases h2 : sv = mm
            next =>
              have h2b : (sv == mm) = true := by simp [h2]
              by_cases h3 : x.b < bb
              next =>
                have HP2 : Hid (bestS l (l.drop (k + 1)) (x.b, sv) = bestGo l 999) := by rw [Hid, ← HP.out, HY2.out, if_pos (.inr ⟨h2, h3⟩)]
                clear h2
                go_wp2
                go_roundw
                case rel => exact ⟨k + 1, x.b, sv, by omega, by go_num, rfl, rfl, HP2, b6⟩
                case measure => simp [intOf]; omega
              next =>
                have HP2 : Hid (bestS l (l.drop (k + 1)) (bb, mm) = bestGo l 999) := by rw [Hid, ← HP.out, HY2.out, if_neg (by rintro (h | h); exact h1 h; exact h3 h.2)]
                clear h2
                go_wp2
                go_roundw
                case rel => exact ⟨k + 1, bb, mm, by omega, by go_num, rfl, rfl, HP2, b6⟩
                case measure => simp [intOf]; omega
            next =>
              have h2b : (sv == mm) = false := by simp [h2]
              have HP2 : Hid (bestS l (l.drop (k + 1)) (bb, mm) = bestGo l 999) := by rw [Hid, ← HP.out, HY2.out, if_neg (by rintro (h | h); exact h1 h; exact h2 h.1)]
              go_wp2
              go_roundw
              case rel => exact ⟨k + 1, bb, mm, by omega, by go_num, rfl, rfl, HP2, b6⟩
              case measure => simp [intOf]; omega
        next =>
          have HP2 : Hid (bestS l (l.drop (k + 1)) (bb, mm) = bestGo l 999) := by rw [Hid, ← HP.out, HN.out hs]
          clear HY HN HX
          go_wp2
          go_roundw
          case rel => exact ⟨k + 1, bb, mm, by omega, by go_num, rfl, rfl, HP2, b5⟩
          case measure => simp [intOf]; omega
      · have hk0 : l.drop k = [] := List.drop_eq_nil_of_le (by omega)
        have HPe : Hid (bestGo l 999 = (bb, mm)) := by rw [Hid, ← HP.out, hk0]; rfl
        clear hk0
        have HB2 : Hid (bestV l = bb ∧ bestOk l = decide (0 < bb)) := by
          have e9 := HP.out
          unfold bestV bestOk
          rw [HG.out, HPe.out]
          exact ⟨rfl, rfl⟩
        obtain ⟨d9, hd9⟩ : ∃ d, decide (0 < bb) = d := ⟨_, rfl⟩
        rw [hd9] at HB2
        go_wp2
        refine bodyPost_ret (v := .tuple #[.int .i64 bb, .bool d9]) (by simp [results, Tryd.results10, go_sem, *]) rfl (GivesN.mk HB2.out.1 HB2.out.2 hbr)

end Go.Proofs.YtkokbmmffkpclaaDoor
