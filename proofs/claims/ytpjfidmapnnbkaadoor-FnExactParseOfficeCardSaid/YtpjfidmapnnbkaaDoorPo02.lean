/- Po02: the texts ReadN ParseInt Own Cat Ints OwnR SplitP Split SplitL CutP Facts Hund, joined into one file. -/
import Derived.Deep.DeepCutAuto
import Derived.Lib.AtoiErrMem
import Derived.OwnWalk
import Derived.Maps.AppendAt
import Derived.Test.YtpjfidmapnnbkaaDoorProg
import Derived.Laws.OwnMore
import Derived.Lib.Split
import Derived.Lib.CountLaws
import Derived.WalkKit
import Derived.Orders
import Derived.Deep.Draws
import Derived.Test.YtpjfidmapnnbkaaDoorPo01

set_option linter.unusedVariables false

/- Numbers of texts: the reference's l1Read, the program's ParseInt. (Printed by gen_read.py) -/
namespace Go.Proofs.YtpjfidmapnnbkaaDoor
open Go.RowKit

theorem str_beqL (a b : ByteArray) : (a.toList == b.toList) = decide (bl a = bl b) := by
  rw [ByteArray.toList_eq a, ByteArray.toList_eq b, Bool.eq_iff_iff]; simp [bl]
/-- t are the digits of s. -/
def TOf (s t : List UInt8) (neg : Bool) : Prop := (neg = true ∧ s = 45 :: t ∧ 1 ≤ t.length) ∨ (neg = false ∧ s = t ∧ (s.head? ≠ some 45 ∨ s.length ≤ 1))
theorem tof_num {s t : List UInt8} {neg : Bool} (h : TOf s t neg) {n : Int} (hq : numF s = some n) : 1 ≤ t.length ∧ t.length ≤ 6 ∧ Lib.decFrom 0 t = some n.natAbs ∧ n = (if neg = true then -(n.natAbs : Int) else (n.natAbs : Int)) := by
  obtain ⟨h6, e⟩ := numF_is hq
  rcases num_read h6 e with ⟨h1, t', h2, h3, h4, h5⟩ | ⟨h1, h2, h3, h4, h5⟩
  · rcases h with ⟨rfl, h7, h8⟩ | ⟨rfl, h7, h8⟩
    · rw [h2] at h7; injection h7 with _ h7; subst h7
      exact ⟨h3, h4, h5, by simp; omega⟩
    · exfalso
      rcases h8 with h8 | h8
      · rw [h2] at h8; exact h8 rfl
      · rw [h2] at h8; simp only [List.length_cons] at h8; omega
  · rcases h with ⟨rfl, h7, h8⟩ | ⟨rfl, h7, h8⟩
    · exfalso; rw [h7] at h2; exact h2 rfl
    · subst h7; exact ⟨h3, h4, h5, by simp; omega⟩

set_option maxRecDepth 100000 in
set_option maxHeartbeats 4000000 in
set_option linter.unusedVariables false in
theorem l1Read_any (s : ByteArray) (w : World) (hs : s.size ≤ 1000000000) :
    Calls Tryd.prog 9 #[.string s] w (GivesNum s w) := by
  by_cases hsz : 1 < s.size
  · have hi : (1 : Int) < (s.size : Int) := by omega
    by_cases h45 : s[0].toNat = 45
    · have hT : TOf (bl s) (bl (s.extract 1 s.size)) true := by
        refine .inl ⟨rfl, ?_, ?_⟩
        · have h1 := bl_drop (s := s) (k := 0) (by omega)
          rw [bl_extract, List.take_of_length_le (by rw [bl_size]; exact Nat.le_refl _)]
          have h2 : s[0] = 45 := UInt8.toNat_inj.1 h45
          rw [List.drop_zero, h2] at h1; exact h1
        · rw [bl_extract, List.length_drop, List.length_take, bl_size]; omega
      obtain ⟨t, ht⟩ : ∃ t, s.extract 1 s.size = t := ⟨_, rfl⟩
      have hts : t.size + 1 = s.size := by rw [← ht, ← bl_size, bl_extract, List.length_drop, List.length_take, bl_size]; omega
      rw [ht] at hT
      have hq : ((s[0].toNat : Int) == 45) = true := by simp; omega
      have HT45 := Lib.hid h45
      clear h45
      go_enter Tryd.func9, Tryd.ntmps9
      go_upto_region 4 with fail
      clear ht
      by_cases hlen : 1 ≤ t.size ∧ t.size ≤ 6
      · obtain ⟨hl1, hl6⟩ := hlen
        have HT := Lib.hid hT
        clear hT
        have i1 : (1 : Int) ≤ (t.size : Int) := by omega
        have i6 : (t.size : Int) ≤ 6 := by omega
        have hin : inR (t.size : Int) 1 6 = true := inr_iff.2 ⟨i1, i6⟩
        go_wp2_with fail
        refine (l1In_any _ _ _ _).mono ?_
        rintro e w' ⟨rfl, rfl⟩
        rw [hin]
        clear hin
        go_wp2_with fail
        go_loopw [5, 6] (fun m i wr => ∃ (k acc : Nat), k ≤ t.size ∧ i = .int .i64 k ∧ m = .int .i64 acc ∧ acc < 1000000 ∧ w = wr ∧ Hid (Lib.decFrom 0 ((bl t).take k) = some acc)) (fun _ i _ => t.size - (intOf i).toNat)
        case atStart => exact ⟨0, 0, Nat.zero_le _, rfl, rfl, by omega, rfl, by simp [Lib.decFrom, Hid]⟩
        case round =>
          obtain ⟨k, acc, hk, rfl, rfl, hacc, rfl, HD⟩ := hrel
          by_cases hlt : k < t.size
          · by_cases hd : 48 ≤ t[k].toNat ∧ t[k].toNat ≤ 57
            · obtain ⟨hd1, hd2⟩ := hd
              have HST : Hid (Lib.decFrom 0 ((bl t).take (k + 1)) = some (acc * 10 + (t[k].toNat - 48))) :=
                Lib.decFrom_take (bl t) k 0 acc t[k] (t[k].toNat - 48) HD.out (List.getElem?_eq_getElem (l := bl t) hlt) (by unfold Lib.digitVal; rw [if_pos ⟨hd1, hd2⟩])
              have hacc2 : acc * 10 + (t[k].toNat - 48) < 1000000 := by
                have h1 := Lib.decFrom_lt _ _ _ HST.out
                have h2 : ((bl t).take (k + 1)).length ≤ 6 := by rw [List.length_take]; omega
                have h3 := Nat.pow_le_pow_right (show 0 < 10 by omega) h2
                omega
              have j1 : (48 : Int) ≤ (t[k].toNat : Int) := by omega
              have j2 : (t[k].toNat : Int) ≤ 57 := by omega
              have j3 : IntKind.u8.wrap ((t[k].toNat : Int) - 48) = (t[k].toNat : Int) - 48 := IntWalk.u8_in _ (by omega)
              have j4 : IntKind.i64.wrap ((t[k].toNat : Int) - 48) = (t[k].toNat : Int) - 48 := IntWalk.i64_in _ (by omega)
              have j5 : IntKind.i64.wrap (10 * (acc : Int)) = 10 * (acc : Int) := IntWalk.i64_in _ (by omega)
              have j6 : IntKind.i64.wrap (10 * (acc : Int) + ((t[k].toNat : Int) - 48)) = 10 * (acc : Int) + ((t[k].toNat : Int) - 48) := IntWalk.i64_in _ (by omega)
              clear HD hacc
              go_wp2_with fail
              go_roundw
              case rel => exact ⟨k + 1, acc * 10 + (t[k].toNat - 48), by omega, by go_num, by go_num, hacc2, by first | trivial | rfl, HST⟩
              case measure => simp [intOf] <;> omega
            · have HZ : Hid (numF (bl s) = none) := by
                cases hq : numF (bl s) with
                | none => rfl
                | some n =>
                  exfalso
                  obtain ⟨_, _, h3, _⟩ := tof_num HT.out hq
                  obtain ⟨d, hdd⟩ := Lib.digit_of_decFrom _ _ _ h3 k t[k] (List.getElem?_eq_getElem (l := bl t) hlt)
                  have := Lib.digitVal_eq hdd
                  omega
              by_cases h48 : t[k].toNat < 48
              · have j1 : (t[k].toNat : Int) < 48 := by omega
                clear hd
                go_wp2_with fail
                go_ret2
                exact ⟨by rw [HZ.out]; rfl, Below.refl _ _⟩
              · have j1 : ¬ (t[k].toNat : Int) < 48 := by omega
                have j2 : (57 : Int) < (t[k].toNat : Int) := by omega
                clear hd h48
                go_wp2_with fail
                go_ret2
                exact ⟨by rw [HZ.out]; rfl, Below.refl _ _⟩
          · obtain rfl : k = t.size := by omega
            have HF : Hid (Lib.decFrom 0 (bl t) = some acc) := by
              have h1 := HD.out
              rw [List.take_of_length_le (by rw [bl_size]; exact Nat.le_refl _)] at h1; exact h1
            clear hlt HD
            have HNUM : Hid (∀ W : World, Calls Tryd.prog 21 #[.int .i64 (-(acc : Int))] W fun e w' => e = .returned (.string ⟨(Lib.itoa (-(acc : Int))).toArray⟩) ∧ Below W.heap.size W w') := fun W => l1Num_all (-(acc : Int)) W (by omega) (by omega)
            obtain ⟨nt, hnt⟩ : ∃ x : ByteArray, x = ⟨(Lib.itoa (-(acc : Int))).toArray⟩ := ⟨_, rfl⟩
            have hbn : bl nt = Lib.itoa (-(acc : Int)) := by rw [hnt, bl_mk]
            rw [← hnt] at HNUM
            clear hnt
            have j7 : IntKind.i64.wrap (-(acc : Int)) = -(acc : Int) := IntWalk.i64_in _ (by omega)
            have j8 : (t.size : Int) < (s.size : Int) := by omega
            by_cases hs : Lib.itoa (-(acc : Int)) = bl s
            · have HZ : Hid (numF (bl s) = some (-(acc : Int))) := numF_eq ⟨by omega, by omega⟩ hs
              have hb : (nt.toList == s.toList) = true := by rw [str_beqL, hbn, hs]; simp
              clear hs hbn
              go_wp2_with fail
              refine (HNUM.out _).mono ?_
              rintro e w1 ⟨rfl, hb1⟩
              go_wp2_with fail
              go_ret2
              exact ⟨by rw [HZ.out]; rfl, hb1⟩
            · have HZ : Hid (numF (bl s) = none) := by
                cases hq : numF (bl s) with
                | none => rfl
                | some n =>
                  exfalso
                  obtain ⟨_, _, h3, h4⟩ := tof_num HT.out hq
                  rw [HF.out] at h3
                  injection h3 with h3
                  have h5 : n = -(acc : Int) := by rw [h4]; simp; omega
                  rw [← h5] at hs
                  exact hs (numF_is hq).2
              have hb : (nt.toList == s.toList) = false := by rw [str_beqL, hbn]; simp [hs]
              clear hs hbn
              go_wp2_with fail
              refine (HNUM.out _).mono ?_
              rintro e w1 ⟨rfl, hb1⟩
              go_wp2_with fail
              go_ret2
              exact ⟨by rw [HZ.out]; rfl, hb1⟩
      · have HZ : Hid (numF (bl s) = none) := by
          cases hq : numF (bl s) with
          | none => rfl
          | some n =>
            exfalso
            obtain ⟨h1, h2, _⟩ := tof_num hT hq
            rw [bl_size] at h1 h2
            exact hlen ⟨h1, h2⟩
        have hin : inR (t.size : Int) 1 6 = false := by
          rw [← Bool.not_eq_true, inr_iff]; omega
        clear hlen
        go_wp2_with fail
        refine (l1In_any _ _ _ _).mono ?_
        rintro e w' ⟨rfl, rfl⟩
        rw [hin]
        clear hin
        go_wp2_with fail
        go_ret2
        exact ⟨by rw [HZ.out]; rfl, Below.refl _ _⟩
    · have hT : TOf (bl s) (bl s) false := by
        refine .inr ⟨rfl, rfl, .inl fun h => h45 ?_⟩
        have h1 := bl_drop (s := s) (k := 0) (by omega)
        rw [List.drop_zero] at h1
        rw [h1] at h
        simp only [List.head?_cons, Option.some.injEq] at h
        rw [h]; rfl
      have hq : ((s[0].toNat : Int) == 45) = false := by rw [beq_eq_false_iff_ne]; omega
      clear h45
      go_enter Tryd.func9, Tryd.ntmps9
      go_upto_region 4 with fail
      by_cases hlen : 1 ≤ s.size ∧ s.size ≤ 6
      · obtain ⟨hl1, hl6⟩ := hlen
        have HT := Lib.hid hT
        clear hT
        have i1 : (1 : Int) ≤ (s.size : Int) := by omega
        have i6 : (s.size : Int) ≤ 6 := by omega
        have hin : inR (s.size : Int) 1 6 = true := inr_iff.2 ⟨i1, i6⟩
        go_wp2_with fail
        refine (l1In_any _ _ _ _).mono ?_
        rintro e w' ⟨rfl, rfl⟩
        rw [hin]
        clear hin
        go_wp2_with fail
        go_loopw [5, 6] (fun m i wr => ∃ (k acc : Nat), k ≤ s.size ∧ i = .int .i64 k ∧ m = .int .i64 acc ∧ acc < 1000000 ∧ w = wr ∧ Hid (Lib.decFrom 0 ((bl s).take k) = some acc)) (fun _ i _ => s.size - (intOf i).toNat)
        case atStart => exact ⟨0, 0, Nat.zero_le _, rfl, rfl, by omega, rfl, by simp [Lib.decFrom, Hid]⟩
        case round =>
          obtain ⟨k, acc, hk, rfl, rfl, hacc, rfl, HD⟩ := hrel
          by_cases hlt : k < s.size
          · by_cases hd : 48 ≤ s[k].toNat ∧ s[k].toNat ≤ 57
            · obtain ⟨hd1, hd2⟩ := hd
              have HST : Hid (Lib.decFrom 0 ((bl s).take (k + 1)) = some (acc * 10 + (s[k].toNat - 48))) :=
                Lib.decFrom_take (bl s) k 0 acc s[k] (s[k].toNat - 48) HD.out (List.getElem?_eq_getElem (l := bl s) hlt) (by unfold Lib.digitVal; rw [if_pos ⟨hd1, hd2⟩])
              have hacc2 : acc * 10 + (s[k].toNat - 48) < 1000000 := by
                have h1 := Lib.decFrom_lt _ _ _ HST.out
                have h2 : ((bl s).take (k + 1)).length ≤ 6 := by rw [List.length_take]; omega
                have h3 := Nat.pow_le_pow_right (show 0 < 10 by omega) h2
                omega
              have j1 : (48 : Int) ≤ (s[k].toNat : Int) := by omega
              have j2 : (s[k].toNat : Int) ≤ 57 := by omega
              have j3 : IntKind.u8.wrap ((s[k].toNat : Int) - 48) = (s[k].toNat : Int) - 48 := IntWalk.u8_in _ (by omega)
              have j4 : IntKind.i64.wrap ((s[k].toNat : Int) - 48) = (s[k].toNat : Int) - 48 := IntWalk.i64_in _ (by omega)
              have j5 : IntKind.i64.wrap (10 * (acc : Int)) = 10 * (acc : Int) := IntWalk.i64_in _ (by omega)
              have j6 : IntKind.i64.wrap (10 * (acc : Int) + ((s[k].toNat : Int) - 48)) = 10 * (acc : Int) + ((s[k].toNat : Int) - 48) := IntWalk.i64_in _ (by omega)
              clear HD hacc
              go_wp2_with fail
              go_roundw
              case rel => exact ⟨k + 1, acc * 10 + (s[k].toNat - 48), by omega, by go_num, by go_num, hacc2, by first | trivial | rfl, HST⟩
              case measure => simp [intOf] <;> omega
            · have HZ : Hid (numF (bl s) = none) := by
                cases hq : numF (bl s) with
                | none => rfl
                | some n =>
                  exfalso
                  obtain ⟨_, _, h3, _⟩ := tof_num HT.out hq
                  obtain ⟨d, hdd⟩ := Lib.digit_of_decFrom _ _ _ h3 k s[k] (List.getElem?_eq_getElem (l := bl s) hlt)
                  have := Lib.digitVal_eq hdd
                  omega
              by_cases h48 : s[k].toNat < 48
              · have j1 : (s[k].toNat : Int) < 48 := by omega
                clear hd
                go_wp2_with fail
                go_ret2
                exact ⟨by rw [HZ.out]; rfl, Below.refl _ _⟩
              · have j1 : ¬ (s[k].toNat : Int) < 48 := by omega
                have j2 : (57 : Int) < (s[k].toNat : Int) := by omega
                clear hd h48
                go_wp2_with fail
                go_ret2
                exact ⟨by rw [HZ.out]; rfl, Below.refl _ _⟩
          · obtain rfl : k = s.size := by omega
            have HF : Hid (Lib.decFrom 0 (bl s) = some acc) := by
              have h1 := HD.out
              rw [List.take_of_length_le (by rw [bl_size]; exact Nat.le_refl _)] at h1; exact h1
            clear hlt HD
            have HNUM : Hid (∀ W : World, Calls Tryd.prog 21 #[.int .i64 ((acc : Int))] W fun e w' => e = .returned (.string ⟨(Lib.itoa ((acc : Int))).toArray⟩) ∧ Below W.heap.size W w') := fun W => l1Num_all ((acc : Int)) W (by omega) (by omega)
            obtain ⟨nt, hnt⟩ : ∃ x : ByteArray, x = ⟨(Lib.itoa ((acc : Int))).toArray⟩ := ⟨_, rfl⟩
            have hbn : bl nt = Lib.itoa ((acc : Int)) := by rw [hnt, bl_mk]
            rw [← hnt] at HNUM
            clear hnt
            have j7 : IntKind.i64.wrap (-(acc : Int)) = -(acc : Int) := IntWalk.i64_in _ (by omega)
            have j8 : True := trivial
            by_cases hs : Lib.itoa ((acc : Int)) = bl s
            · have HZ : Hid (numF (bl s) = some ((acc : Int))) := numF_eq ⟨by omega, by omega⟩ hs
              have hb : (nt.toList == s.toList) = true := by rw [str_beqL, hbn, hs]; simp
              clear hs hbn
              go_wp2_with fail
              refine (HNUM.out _).mono ?_
              rintro e w1 ⟨rfl, hb1⟩
              go_wp2_with fail
              go_ret2
              exact ⟨by rw [HZ.out]; rfl, hb1⟩
            · have HZ : Hid (numF (bl s) = none) := by
                cases hq : numF (bl s) with
                | none => rfl
                | some n =>
                  exfalso
                  obtain ⟨_, _, h3, h4⟩ := tof_num HT.out hq
                  rw [HF.out] at h3
                  injection h3 with h3
                  have h5 : n = (acc : Int) := by rw [h4]; simp; omega
                  rw [← h5] at hs
                  exact hs (numF_is hq).2
              have hb : (nt.toList == s.toList) = false := by rw [str_beqL, hbn]; simp [hs]
              clear hs hbn
              go_wp2_with fail
              refine (HNUM.out _).mono ?_
              rintro e w1 ⟨rfl, hb1⟩
              go_wp2_with fail
              go_ret2
              exact ⟨by rw [HZ.out]; rfl, hb1⟩
      · have HZ : Hid (numF (bl s) = none) := by
          cases hq : numF (bl s) with
          | none => rfl
          | some n =>
            exfalso
            obtain ⟨h1, h2, _⟩ := tof_num hT hq
            rw [bl_size] at h1 h2
            exact hlen ⟨h1, h2⟩
        have hin : inR (s.size : Int) 1 6 = false := by
          rw [← Bool.not_eq_true, inr_iff]; omega
        clear hlen
        go_wp2_with fail
        refine (l1In_any _ _ _ _).mono ?_
        rintro e w' ⟨rfl, rfl⟩
        rw [hin]
        clear hin
        go_wp2_with fail
        go_ret2
        exact ⟨by rw [HZ.out]; rfl, Below.refl _ _⟩
  · have hi : ¬ (1 : Int) < (s.size : Int) := by omega
    have hT : TOf (bl s) (bl s) false := .inr ⟨rfl, rfl, .inr (by rw [bl_size]; omega)⟩
    go_enter Tryd.func9, Tryd.ntmps9
    go_upto_region 4 with fail
    by_cases hlen : 1 ≤ s.size ∧ s.size ≤ 6
    · obtain ⟨hl1, hl6⟩ := hlen
      have HT := Lib.hid hT
      clear hT
      have i1 : (1 : Int) ≤ (s.size : Int) := by omega
      have i6 : (s.size : Int) ≤ 6 := by omega
      have hin : inR (s.size : Int) 1 6 = true := inr_iff.2 ⟨i1, i6⟩
      go_wp2_with fail
      refine (l1In_any _ _ _ _).mono ?_
      rintro e w' ⟨rfl, rfl⟩
      rw [hin]
      clear hin
      go_wp2_with fail
      go_loopw [5, 6] (fun m i wr => ∃ (k acc : Nat), k ≤ s.size ∧ i = .int .i64 k ∧ m = .int .i64 acc ∧ acc < 1000000 ∧ w = wr ∧ Hid (Lib.decFrom 0 ((bl s).take k) = some acc)) (fun _ i _ => s.size - (intOf i).toNat)
      case atStart => exact ⟨0, 0, Nat.zero_le _, rfl, rfl, by omega, rfl, by simp [Lib.decFrom, Hid]⟩
      case round =>
        obtain ⟨k, acc, hk, rfl, rfl, hacc, rfl, HD⟩ := hrel
        by_cases hlt : k < s.size
        · by_cases hd : 48 ≤ s[k].toNat ∧ s[k].toNat ≤ 57
          · obtain ⟨hd1, hd2⟩ := hd
            have HST : Hid (Lib.decFrom 0 ((bl s).take (k + 1)) = some (acc * 10 + (s[k].toNat - 48))) :=
              Lib.decFrom_take (bl s) k 0 acc s[k] (s[k].toNat - 48) HD.out (List.getElem?_eq_getElem (l := bl s) hlt) (by unfold Lib.digitVal; rw [if_pos ⟨hd1, hd2⟩])
            have hacc2 : acc * 10 + (s[k].toNat - 48) < 1000000 := by
              have h1 := Lib.decFrom_lt _ _ _ HST.out
              have h2 : ((bl s).take (k + 1)).length ≤ 6 := by rw [List.length_take]; omega
              have h3 := Nat.pow_le_pow_right (show 0 < 10 by omega) h2
              omega
            have j1 : (48 : Int) ≤ (s[k].toNat : Int) := by omega
            have j2 : (s[k].toNat : Int) ≤ 57 := by omega
            have j3 : IntKind.u8.wrap ((s[k].toNat : Int) - 48) = (s[k].toNat : Int) - 48 := IntWalk.u8_in _ (by omega)
            have j4 : IntKind.i64.wrap ((s[k].toNat : Int) - 48) = (s[k].toNat : Int) - 48 := IntWalk.i64_in _ (by omega)
            have j5 : IntKind.i64.wrap (10 * (acc : Int)) = 10 * (acc : Int) := IntWalk.i64_in _ (by omega)
            have j6 : IntKind.i64.wrap (10 * (acc : Int) + ((s[k].toNat : Int) - 48)) = 10 * (acc : Int) + ((s[k].toNat : Int) - 48) := IntWalk.i64_in _ (by omega)
            clear HD hacc
            go_wp2_with fail
            go_roundw
            case rel => exact ⟨k + 1, acc * 10 + (s[k].toNat - 48), by omega, by go_num, by go_num, hacc2, by first | trivial | rfl, HST⟩
            case measure => simp [intOf] <;> omega
          · have HZ : Hid (numF (bl s) = none) := by
              cases hq : numF (bl s) with
              | none => rfl
              | some n =>
                exfalso
                obtain ⟨_, _, h3, _⟩ := tof_num HT.out hq
                obtain ⟨d, hdd⟩ := Lib.digit_of_decFrom _ _ _ h3 k s[k] (List.getElem?_eq_getElem (l := bl s) hlt)
                have := Lib.digitVal_eq hdd
                omega
            by_cases h48 : s[k].toNat < 48
            · have j1 : (s[k].toNat : Int) < 48 := by omega
              clear hd
              go_wp2_with fail
              go_ret2
              exact ⟨by rw [HZ.out]; rfl, Below.refl _ _⟩
            · have j1 : ¬ (s[k].toNat : Int) < 48 := by omega
              have j2 : (57 : Int) < (s[k].toNat : Int) := by omega
              clear hd h48
              go_wp2_with fail
              go_ret2
              exact ⟨by rw [HZ.out]; rfl, Below.refl _ _⟩
        · obtain rfl : k = s.size := by omega
          have HF : Hid (Lib.decFrom 0 (bl s) = some acc) := by
            have h1 := HD.out
            rw [List.take_of_length_le (by rw [bl_size]; exact Nat.le_refl _)] at h1; exact h1
          clear hlt HD
          have HNUM : Hid (∀ W : World, Calls Tryd.prog 21 #[.int .i64 ((acc : Int))] W fun e w' => e = .returned (.string ⟨(Lib.itoa ((acc : Int))).toArray⟩) ∧ Below W.heap.size W w') := fun W => l1Num_all ((acc : Int)) W (by omega) (by omega)
          obtain ⟨nt, hnt⟩ : ∃ x : ByteArray, x = ⟨(Lib.itoa ((acc : Int))).toArray⟩ := ⟨_, rfl⟩
          have hbn : bl nt = Lib.itoa ((acc : Int)) := by rw [hnt, bl_mk]
          rw [← hnt] at HNUM
          clear hnt
          have j7 : IntKind.i64.wrap (-(acc : Int)) = -(acc : Int) := IntWalk.i64_in _ (by omega)
          have j8 : True := trivial
          by_cases hs : Lib.itoa ((acc : Int)) = bl s
          · have HZ : Hid (numF (bl s) = some ((acc : Int))) := numF_eq ⟨by omega, by omega⟩ hs
            have hb : (nt.toList == s.toList) = true := by rw [str_beqL, hbn, hs]; simp
            clear hs hbn
            go_wp2_with fail
            refine (HNUM.out _).mono ?_
            rintro e w1 ⟨rfl, hb1⟩
            go_wp2_with fail
            go_ret2
            exact ⟨by rw [HZ.out]; rfl, hb1⟩
          · have HZ : Hid (numF (bl s) = none) := by
              cases hq : numF (bl s) with
              | none => rfl
              | some n =>
                exfalso
                obtain ⟨_, _, h3, h4⟩ := tof_num HT.out hq
                rw [HF.out] at h3
                injection h3 with h3
                have h5 : n = (acc : Int) := by rw [h4]; simp; omega
                rw [← h5] at hs
                exact hs (numF_is hq).2
            have hb : (nt.toList == s.toList) = false := by rw [str_beqL, hbn]; simp [hs]
            clear hs hbn
            go_wp2_with fail
            refine (HNUM.out _).mono ?_
            rintro e w1 ⟨rfl, hb1⟩
            go_wp2_with fail
            go_ret2
            exact ⟨by rw [HZ.out]; rfl, hb1⟩
    · have HZ : Hid (numF (bl s) = none) := by
        cases hq : numF (bl s) with
        | none => rfl
        | some n =>
          exfalso
          obtain ⟨h1, h2, _⟩ := tof_num hT hq
          rw [bl_size] at h1 h2
          exact hlen ⟨h1, h2⟩
      have hin : inR (s.size : Int) 1 6 = false := by
        rw [← Bool.not_eq_true, inr_iff]; omega
      clear hlen
      go_wp2_with fail
      refine (l1In_any _ _ _ _).mono ?_
      rintro e w' ⟨rfl, rfl⟩
      rw [hin]
      clear hin
      go_wp2_with fail
      go_ret2
      exact ⟨by rw [HZ.out]; rfl, Below.refl _ _⟩
end Go.Proofs.YtpjfidmapnnbkaaDoor

/- Numbers of texts: the program's ParseInt. -/
namespace Go.Proofs.YtpjfidmapnnbkaaDoor
open Go.RowKit

theorem num_atoi {s : List UInt8} {n : Int} (h : numF s = some n) : Lib.atoiAll s = .ok n := by
  obtain ⟨h1, h2⟩ := numF_is h
  rw [← h2]; exact atoiAll_six h1

set_option maxHeartbeats 2000000 in
set_option linter.unusedVariables false in
theorem parseInt_any (s : ByteArray) (w : World) (hs : s.size ≤ 1000000000) (hL : LW w) :
    Calls Tryd.prog 13 #[.string s] w (GivesNum s w) := by
  rcases ha : Lib.atoiAll s.data.toList with v | _ | _
  · skip
    obtain ⟨v0, v1⟩ := Lib.atoiAll_bounds ha
    have HA := Lib.hid (Tryd.strconv_Atoi_ok s (by omega) v ha w)
    have hv : ∀ n, numF (bl s) = some n → n = v := fun n hn => by
      have h1 := num_atoi hn
      have h2 : Lib.atoiAll (bl s) = .ok v := ha
      rw [h2] at h1; injection h1 with h1; exact h1.symm
    by_cases hr : inR v (-999999) 999999 = true
    · have hr2 := inr_iff.1 hr
      have HI : Hid (∀ W, Tab W → Calls Tryd.prog 24 #[.int .i64 v] W fun e w' => e = .returned (.string ⟨(Lib.itoa v).toArray⟩) ∧ Below W.heap.size W w') := fun W hW => itoa_any v W v0 v1 hW
      obtain ⟨nt, hnt⟩ : ∃ x : ByteArray, x = ⟨(Lib.itoa v).toArray⟩ := ⟨_, rfl⟩
      have hbn : bl nt = Lib.itoa v := by rw [hnt, bl_mk]
      rw [← hnt] at HI
      clear hnt
      have HZ : Hid ((nt.toList == s.toList) = (numF (bl s)).isSome ∧ ((nt.toList == s.toList) = true → numF (bl s) = some v) ∧ ((nt.toList == s.toList) = false → numF (bl s) = none)) := by
        rw [str_beqL, hbn]
        by_cases hq : Lib.itoa v = bl s
        · have h1 := numF_eq (n := v) ⟨by omega, by omega⟩ hq
          rw [h1]; simp [hq, Hid]
        · have h1 : numF (bl s) = none := by
            cases hq2 : numF (bl s) with
            | none => rfl
            | some n => exfalso; have h2 := hv n hq2; subst h2; exact hq (numF_is hq2).2
          rw [h1]; simp [hq, Hid]
      clear hbn hv
      obtain ⟨bb, hbb⟩ : ∃ b : Bool, (nt.toList == s.toList) = b := ⟨_, rfl⟩
      rw [hbb] at HZ
      have fin : ∀ w2, Below w.heap.size w w2 → Hid (LW w2) := fun w2 h2 => hL.then h2
      go_enter Tryd.func13, Tryd.ntmps13
      go_wp2_with fail
      refine HA.out.mono ?_
      rintro e w1 ⟨rfl, hw1⟩
      have hb1 : Below w.heap.size w w1 := by
        rcases hw1 with rfl | ⟨t, rfl⟩
        · exact Below.refl _ _
        · exact Lib.bytesWorld_below _ _ _
      have HL1 := fin w1 hb1
      clear hw1 fin
      go_wp2_with fail
      refine (inRange_any _ _ _ _).mono ?_
      rintro e w' ⟨rfl, rfl⟩
      rw [hr]
      go_wp2_with fail
      refine (HI.out _ HL1.out.tab).mono ?_
      rintro e w2 ⟨rfl, hb2⟩
      have HB := Lib.hid (bthen hb1 hb2)
      clear hb1 hb2 HL1
      cases bb
      · go_wp2_with fail
        go_ret2
        exact ⟨by rw [HZ.out.2.2 (by first | trivial | rfl)]; rfl, HB.out⟩
      · go_wp2_with fail
        go_ret2
        exact ⟨by rw [HZ.out.2.1 (by first | trivial | rfl)]; rfl, HB.out⟩
    · have HZ : Hid (numF (bl s) = none) := by
        cases hq : numF (bl s) with
        | none => rfl
        | some n =>
          exfalso
          have h2 := hv n hq; subst h2
          obtain ⟨h3, _⟩ := numF_is hq
          exact hr (inr_iff.2 ⟨h3.1, h3.2⟩)
      have hr' : inR v (-999999) 999999 = false := by simpa using hr
      clear hv hr
      go_enter Tryd.func13, Tryd.ntmps13
      go_wp2_with fail
      refine HA.out.mono ?_
      rintro e w1 ⟨rfl, hw1⟩
      have hb1 : Below w.heap.size w w1 := by
        rcases hw1 with rfl | ⟨t, rfl⟩
        · exact Below.refl _ _
        · exact Lib.bytesWorld_below _ _ _
      clear hw1
      go_wp2_with fail
      refine (inRange_any _ _ _ _).mono ?_
      rintro e w' ⟨rfl, rfl⟩
      rw [hr']
      go_wp2_with fail
      go_ret2
      exact ⟨by rw [HZ.out]; rfl, hb1⟩
  · skip
    have HZ : Hid (numF (bl s) = none) := by
      cases hq : numF (bl s) with
      | none => rfl
      | some n => exfalso; have h1 := num_atoi hq; rw [show Lib.atoiAll (bl s) = _ from ha] at h1; cases h1
    obtain ⟨ev, he1, he2⟩ := hL.syn
    have HA := Lib.hid (Tryd.strconv_Atoi_syntax s (by omega) ha ev w he1 he2)
    clear he1 he2
    go_enter Tryd.func13, Tryd.ntmps13
    go_wp2_with fail
    refine HA.out.mono ?_
    rintro e w1 ⟨N, rfl, _, _, hb1⟩
    go_wp2_with fail
    go_ret2
    exact ⟨by rw [HZ.out]; rfl, hb1⟩
  · skip
    have HZ : Hid (numF (bl s) = none) := by
      cases hq : numF (bl s) with
      | none => rfl
      | some n => exfalso; have h1 := num_atoi hq; rw [show Lib.atoiAll (bl s) = _ from ha] at h1; cases h1
    obtain ⟨ev, he1, he2⟩ := hL.rng
    have HA := Lib.hid (Tryd.strconv_Atoi_range s (by omega) ha ev w he1 he2)
    clear he1 he2
    go_enter Tryd.func13, Tryd.ntmps13
    go_wp2_with fail
    refine HA.out.mono ?_
    rintro e w1 ⟨N, rfl, _, _, hb1⟩
    go_wp2_with fail
    go_ret2
    exact ⟨by rw [HZ.out]; rfl, hb1⟩
end Go.Proofs.YtpjfidmapnnbkaaDoor

/- Own slices that grow by one element (no program in sight). -/
namespace Go.Proofs.YtpjfidmapnnbkaaDoor
open Go.RowKit

theorem cells_new (w : World) (vs : Array Value) (t : TypeId) : ∀ j u, vs.toList[j]? = some u → (w.alloc (.cells vs t)).cell? ((⟨w.heap.size, 0, none⟩ : Addr).add j) = some u := by
  intro j u hj
  have e : ((⟨w.heap.size, 0, none⟩ : Addr).add j) = ⟨w.heap.size, j, none⟩ := by unfold Addr.add; by_cases h : j = 0 <;> simp [h]
  rw [e, (Lies.new w t vs).cell]; exact hj

theorem ownsRow_heap {w w' : World} {B : Nat} {e : TypeId} {k : Nat} {v : Value} {n : Nat} {xs : List Value} (h : w'.heap = w.heap) (ho : w.ownsRow B e k v n xs) : w'.ownsRow B e k v n xs := by
  unfold World.ownsRow at *; rw [h]; exact ho

/-- 'append(s, x)': s the call's own, x one element of k cells. -/
theorem wpList_push {P : Program} {ops : Array Oper} {rest : List Oper} {o : Oper} {a : Act} {w0 wA : World} {Q : Exit → Act → World → Prop} (hgd : o.guard = none) (s x : Operand) (t : TypeId)
    (ho : o.op = .call { callee := .builtin .append, args := #[s, x], argTypes := #[t, t] })
    (e : TypeId) (z : Value) (k bytes : Nat) (ht : P.underlying t = some (.slice e)) (hinfo : (P.info? e).map (fun i => (i.zero, i.size, i.bytes)) = some (some z, k, bytes)) (hzs : z.cells.size = k) (hsz : 0 < k) (hby : bytes ≤ 1000)
    (B : Nat) (v : Value) (n : Nat) (xs : List Value) (hs : a.eval s = v) (hown : Hid (w0.ownsRow B e k v n xs))
    (vs : Array Value) (c g : Nat) (hx : a.eval x = .slice (some ⟨g, 0, none⟩) 1 c) (hg : w0.heap.size = g) (hvs : vs.size = k) (h1 : vs.all (·.oneCell') = true) (hn : n < 1000000000) (hbase : B ≤ w0.heap.size)
    (hheap : wA.heap = (w0.alloc (.cells vs e)).heap) (hos : wA.os = w0.os) (htape : wA.tape = w0.tape) (hout : wA.output = w0.output)
    (h : ∀ v' w', Hid (w'.ownsRow B e k v' (n + 1) (xs ++ vs.toList)) → w0.grownBy w' v.ownBlock → Below B w0 w' → wpList P ops Q rest (a.put o.dst v') w') : wpList P ops Q (o :: rest) a wA := by
  subst hg
  obtain ⟨i, hi, hz, hs', hb⟩ := info_parts hinfo
  have hown' := hown.out
  have hsize : wA.heap.size = w0.heap.size + 1 := by rw [hheap]; exact Array.size_push _
  have hblock : ∀ j, j < w0.heap.size → wA.heap[j]? = w0.heap[j]? := fun j hj => by rw [hheap]; exact Below.heap_alloc w0 _ j hj
  have h4 : w0.grownBy wA v.ownBlock := ⟨hos, htape, hout, by omega, fun j hj _ => hblock j hj⟩
  refine wpList_append_own (w := wA) hgd s x t ho B e i z k bytes ht hi hz hs' hb hzs hsz v n xs hs (ownsRow_heap hheap (hown'.alloc _)) ⟨w0.heap.size, 0, none⟩ 1 c vs.toList hx (by simp [hvs]) ?_ (fun u hu => (Array.all_eq_true_iff_forall_mem.1 h1) u (by simpa using hu)) (by unfold maxLen; omega) ?_ (by omega) fun v' w' h2 h3 _ => h v' w' h2 ?_ ?_
  · intro j u hj
    have := cells_new w0 vs e j u hj
    rw [← this]; exact World.cell?_of_block (by rw [hheap])
  · have := Nat.mul_le_mul (show n + 1 ≤ 1000000000 by omega) hby
    omega
  · exact ⟨h3.os.trans h4.os, h3.tape.trans h4.tape, h3.output.trans h4.output, Nat.le_trans h4.size h3.size, fun j hj hne => (h3.block j (Nat.lt_of_lt_of_le hj h4.size) hne).trans (h4.block j hj hne)⟩
  · exact ((Below.refl B w0).grown h4 hbase (fun j hj => (hown'.lt j hj).1)).grown h3 (by omega) (fun j hj => (hown'.lt j hj).1)

theorem ownsRow_slice {w : World} {B : Nat} {e : TypeId} {k : Nat} {v : Value} {n : Nat} {xs : List Value} (h : w.ownsRow B e k v n xs) : ∃ A c, v = .slice A n c := by
  obtain ⟨_, ⟨rfl, rfl⟩ | ⟨g, cap, _, rfl, _⟩⟩ := h
  · exact ⟨_, _, rfl⟩
  · exact ⟨_, _, rfl⟩
end Go.Proofs.YtpjfidmapnnbkaaDoor

/- 'append(s, xs...)' onto a row of the call's own, the source nil, empty or not (no program in sight). -/
namespace Go.Proofs.YtpjfidmapnnbkaaDoor
open Go.RowKit

/-- Nothing is appended: the nil slice. -/
theorem run_cat_nil {P : Program} (w : World) (base : Nat) (t ty e : TypeId) (i : TypeInfo) (size : Nat) (ht : P.underlying t = some (.slice e)) (hi : P.info? e = some i)
    (v : Value) (n : Nat) (xs : List Value) (hown : w.ownsRow base e size v n xs) (c : Nat) : (Builtin.append_ #[t, t] ty #[v, .slice none 0 c]).run P w = .ok v w := by
  obtain ⟨_, ⟨rfl, rfl⟩ | ⟨g, cap, cur, rfl, _, _, hcap, _⟩⟩ := hown
  · simp [Builtin.append_, run_underlying ht, sizeOf, typeInfo, hi, Builtin.lenOf, Builtin.firstCells]
  · simp [Builtin.append_, run_underlying ht, sizeOf, typeInfo, hi, Builtin.lenOf, Builtin.firstCells, hcap, storeCells]

theorem addr_add (b o j : Nat) : ((⟨b, o, none⟩ : Addr).add j) = ⟨b, o + j, none⟩ := by unfold Addr.add; by_cases h : j = 0 <;> simp [h]

theorem wp_cat {P : Program} {o : Oper} {a : Act} {w : World} {K : Act → World → Prop} {Q : Exit → Act → World → Prop} (s x : Operand) (t : TypeId)
    (ho : o.op = .call { callee := .builtin .append, args := #[s, x], argTypes := #[t, t] })
    (e : TypeId) (z : Value) (k bytes : Nat) (ht : P.underlying t = some (.slice e)) (hinfo : (P.info? e).map (fun i => (i.zero, i.size, i.bytes)) = some (some z, k, bytes)) (hzs : z.cells.size = k) (hsz : 0 < k) (hby : bytes ≤ 1000)
    (B : Nat) (v : Value) (n : Nat) (xs : List Value) (hs : a.eval s = v) (hown : Hid (w.ownsRow B e k v n xs))
    (S : Nat) (A : Option Addr) (m c : Nat) (cs : List Value) (hx : a.eval x = .slice A m c) (hr : Hid (SlcR w S k A m cs)) (h1 : ∀ u ∈ cs, u.oneCell' = true)
    (hn : n + m ≤ 1000000000) (hbase : B ≤ w.heap.size)
    (h : ∀ v' w', Hid (w'.ownsRow B e k v' (n + m) (xs ++ cs)) → w.grownBy w' v.ownBlock → Below B w w' → (v'.ownBlock = v.ownBlock ∨ v'.ownBlock = some w.heap.size) → K (a.put o.dst v') w') : o.wp P a w K Q := by
  obtain ⟨i, hi, hz, hs', hb⟩ := info_parts hinfo
  have hbytes : (n + m) * bytes ≤ 140737488355328 := by have := Nat.mul_le_mul hn hby; omega
  have fin : ∀ v' w', (Builtin.append_ #[t, t] o.type #[v, .slice A m c]).run P w = .ok v' w' → w'.ownsRow B e k v' (n + m) (xs ++ cs) → w.grownBy w' v.ownBlock → (v'.ownBlock = v.ownBlock ∨ v'.ownBlock = some w.heap.size) → o.wp P a w K Q := by
    intro v' w' hrun h2 h3 h4
    unfold Oper.wp execOp
    simp only [ho, resolve, invoke, builtin, Sem.run_bind, Sem.run_pure, Result.andThen_ok, List.map_toArray, List.map_cons, List.map_nil, hs, hx, hrun]
    exact h v' w' h2 h3 ((Below.refl B w).grown h3 hbase (fun j hj => (hown.out.lt j hj).1)) h4
  rcases Nat.eq_zero_or_pos m with h0 | h0
  · subst h0
    have hc0 : cs = [] := List.eq_nil_of_length_eq_zero (by simpa using hr.out.len)
    subst hc0
    rcases A with _ | ad
    · exact fin v w (run_cat_nil w B t o.type e i k ht hi v n xs hown.out c) (by simpa using hown.out) (World.grownBy.refl w _) (.inl rfl)
    · obtain ⟨v', w', hrun, h2, h3, _, h5⟩ := run_append_own_at (P := P) w B t o.type e i z k bytes ht hi hz hs' hb hzs hsz v n xs hown.out ad 0 c [] (by simp) (by simp) (by simp) (by unfold maxLen; omega) hbytes hbase
      exact fin v' w' hrun h2 h3 h5
  · obtain ⟨b, off, rfl, hlt, hcell⟩ := hr.out.at_ h0
    obtain ⟨v', w', hrun, h2, h3, _, h5⟩ := run_append_own_at (P := P) w B t o.type e i z k bytes ht hi hz hs' hb hzs hsz v n xs hown.out ⟨b, off, none⟩ m c cs hr.out.len (fun j u hu => by rw [addr_add]; exact hcell j u hu) h1 (by unfold maxLen; omega) hbytes hbase
    exact fin v' w' hrun h2 h3 h5

theorem wpList_cat {P : Program} {ops : Array Oper} {rest : List Oper} {o : Oper} {a : Act} {w : World} {Q : Exit → Act → World → Prop} (hgd : o.guard = none) (s x : Operand) (t : TypeId)
    (ho : o.op = .call { callee := .builtin .append, args := #[s, x], argTypes := #[t, t] })
    (e : TypeId) (z : Value) (k bytes : Nat) (ht : P.underlying t = some (.slice e)) (hinfo : (P.info? e).map (fun i => (i.zero, i.size, i.bytes)) = some (some z, k, bytes)) (hzs : z.cells.size = k) (hsz : 0 < k) (hby : bytes ≤ 1000)
    (B : Nat) (v : Value) (n : Nat) (xs : List Value) (hs : a.eval s = v) (hown : Hid (w.ownsRow B e k v n xs))
    (S : Nat) (A : Option Addr) (m c : Nat) (cs : List Value) (hx : a.eval x = .slice A m c) (hr : Hid (SlcR w S k A m cs)) (h1 : ∀ u ∈ cs, u.oneCell' = true)
    (hn : n + m ≤ 1000000000) (hbase : B ≤ w.heap.size)
    (h : ∀ v' w', Hid (w'.ownsRow B e k v' (n + m) (xs ++ cs)) → w.grownBy w' v.ownBlock → Below B w w' → (v'.ownBlock = v.ownBlock ∨ v'.ownBlock = some w.heap.size) → wpList P ops Q rest (a.put o.dst v') w') : wpList P ops Q (o :: rest) a w :=
  wpList_plain hgd fun _ hK => wp_cat s x t ho e z k bytes ht hinfo hzs hsz hby B v n xs hs hown S A m c cs hx hr h1 hn hbase fun v' w' h2 h3 h4 h5 => hK _ _ (h v' w' h2 h3 h4 h5)

/-- A slice made by the text itself, of no element. -/
theorem owns_empty {w : World} {B g : Nat} {e : TypeId} {k : Nat} (h : Lies w g e []) (hB : B ≤ g) : w.ownsRow B e k (.slice (some ⟨g, 0, none⟩) 0 0) 0 [] := h.own hB (by simp) (by unfold maxLen; omega)
theorem ints_one {l : List Int} : ∀ u ∈ (l.map (Value.int .i64)), u.oneCell' = true := by
  intro u hu; obtain ⟨n, _, rfl⟩ := List.mem_map.1 hu; rfl
end Go.Proofs.YtpjfidmapnnbkaaDoor

/- Slices of ints: equality, marks, held marks. -/
namespace Go.Proofs.YtpjfidmapnnbkaaDoor
open Go.RowKit

abbrev encI (n : Int) : List Value := [.int .i64 n]
abbrev encIs (l : List Int) : List Value := l.map (Value.int .i64)
theorem encIs_len (l : List Int) : (encIs l).length = l.length * 1 := by simp
/-- A slice of ints reads. -/
abbrev IntsR (w : World) (B : Nat) (A : Option Addr) (l : List Int) : Prop := SlcR w B 1 A l.length (encIs l)
theorem IntsR.ints {w : World} {B : Nat} {A : Option Addr} {l : List Int} (h : IntsR w B A l) (hne : 0 < l.length) : ∃ b off, A = some ⟨b, off, none⟩ ∧ b < B ∧ ∀ i (hi : i < l.length) (p : Since B w), p.val.cell? ⟨b, off + i, none⟩ = some (.int .i64 l[i]) := by
  obtain ⟨b, off, e, hb, hc⟩ := h.at_ hne
  exact ⟨b, off, e, hb, fun i hi p => (p.cell hb).trans (hc i _ (by simp [hi]))⟩

/-- A slice of the call's own, its cells known, with room behind them. -/
def OwnS (w : World) (B : Nat) (t : TypeId) (k : Nat) (A : Option Addr) (n : Nat) (cs : List Value) : Prop :=
  cs.length = n * k ∧ n ≤ 9223372036854775807 ∧ ((A = none ∧ n = 0) ∨ ∃ g rest, A = some ⟨g, 0, none⟩ ∧ B ≤ g ∧ Lies w g t (cs ++ rest))
theorem OwnS.of {w : World} {B : Nat} {t : TypeId} {k : Nat} {A : Option Addr} {n c : Nat} {cs : List Value} (h : w.ownsRow B t k (.slice A n c) n cs) : OwnS w B t k A n cs := by
  obtain ⟨hl, h | ⟨g, cap, cur, hv, hg, hh, h1, h2, h3, h4⟩⟩ := h
  · injection h.1 with e1 e2 e3
    exact ⟨hl, by omega, .inl ⟨e1, e2⟩⟩
  · injection hv with e1 e2 e3
    refine ⟨hl, by unfold maxLen at h2; omega, .inr ⟨g, cur.toList.drop (n * k), e1, hg, ?_⟩⟩
    have : cs ++ cur.toList.drop (n * k) = cur.toList := by rw [← h4]; exact List.take_append_drop _ _
    rw [this]
    exact Lies.of hh
theorem OwnS.reads {w : World} {B : Nat} {t : TypeId} {k : Nat} {A : Option Addr} {n : Nat} {cs : List Value} (h : OwnS w B t k A n cs) : SlcR w w.heap.size k A n cs := by
  obtain ⟨hl, hn, ⟨_, h0⟩ | ⟨g, rest, hA, hg, hh⟩⟩ := h
  · exact ⟨hl, hn, fun h => by omega⟩
  · exact ⟨hl, hn, fun _ => ⟨g, 0, hA, hh.lt, fun j u hu => by
      rw [Nat.zero_add, hh.cell, List.getElem?_append_left (List.getElem?_eq_some_iff.1 hu).1]; exact hu⟩⟩
theorem OwnS.kept {w w' : World} {B : Nat} {t : TypeId} {k : Nat} {A : Option Addr} {n : Nat} {cs : List Value} (h : OwnS w B t k A n cs) {g : Nat} (hg : w.grownBy w' (some g)) (hlt : g < B) : OwnS w' B t k A n cs := by
  obtain ⟨hl, hn, h0 | ⟨g', rest, hA, hg', hh⟩⟩ := h
  · exact ⟨hl, hn, .inl h0⟩
  · exact ⟨hl, hn, .inr ⟨g', rest, hA, hg', hh.kept hg (by intro e; injection e with e; omega)⟩⟩
theorem OwnS.then {w w' : World} {B : Nat} {t : TypeId} {k : Nat} {A : Option Addr} {n : Nat} {cs : List Value} (h : OwnS w B t k A n cs) (hb : Below w.heap.size w w') : OwnS w' B t k A n cs := by
  obtain ⟨hl, hn, h0 | ⟨g', rest, hA, hg', hh⟩⟩ := h
  · exact ⟨hl, hn, .inl h0⟩
  · exact ⟨hl, hn, .inr ⟨g', rest, hA, hg', hh.below hb hh.lt⟩⟩

def sameInts (a b : List Int) : Bool := decide (a = b)
def sameIntsFrom : List Int → List Int → Bool
  | [], [] => true
  | x :: a, y :: b => decide (x = y) && sameIntsFrom a b
  | _, _ => false
theorem sameIntsFrom_eq : ∀ a b : List Int, sameIntsFrom a b = sameInts a b
  | [], [] => by simp [sameIntsFrom, sameInts]
  | [], _ :: _ => by simp [sameIntsFrom, sameInts]
  | _ :: _, [] => by simp [sameIntsFrom, sameInts]
  | x :: a, y :: b => by simp [sameIntsFrom, sameInts, sameIntsFrom_eq a b, Bool.decide_and]

/-- k, k + 1, .., n numbers. -/
def ramp : Int → Nat → List Int
  | _, 0 => []
  | k, n + 1 => k :: ramp (k + 1) n
theorem ramp_len : ∀ (k : Int) (n : Nat), (ramp k n).length = n
  | _, 0 => rfl
  | k, n + 1 => by simp [ramp, ramp_len (k + 1) n]
theorem ramp_at : ∀ (k : Int) (n i : Nat) (h : i < (ramp k n).length), (ramp k n)[i] = k + i
  | k, n + 1, 0, _ => by simp [ramp]
  | k, n + 1, i + 1, h => by
    simp only [ramp, List.getElem_cons_succ]
    rw [ramp_at (k + 1) n i (by simpa [ramp] using h)]
    omega
theorem ramp_snoc : ∀ (k : Int) (n : Nat), ramp k (n + 1) = ramp k n ++ [k + n]
  | k, 0 => by simp [ramp]
  | k, n + 1 => by
    rw [ramp, ramp_snoc (k + 1) n, ramp, List.cons_append]
    congr 3
    omega

theorem grown_cell {a w : World} {row : Option Nat} (h : a.grownBy w row) (p : Addr) (hlt : p.block < a.heap.size) (hne : some p.block ≠ row) : w.cell? p = a.cell? p := World.cell?_of_block (w := a) (h.block p.block hlt hne)
theorem OwnS.at_ge {w : World} {B : Nat} {t : TypeId} {k : Nat} {A : Option Addr} {n : Nat} {cs : List Value} (h : OwnS w B t k A n cs) (g : Nat) (hg : A.map (·.block) = some g) : B ≤ g := by
  obtain ⟨_, _, ⟨rfl, _⟩ | ⟨g', _, rfl, hB, _⟩⟩ := h
  · cases hg
  · injection hg with e; simp only at e; omega
theorem OwnS.held {w : World} {B : Nat} {t : TypeId} {A : Option Addr} {k0 : Int} {n : Nat} (h : OwnS w B t 1 A n (encIs (ramp k0 n))) : IntsR w w.heap.size A (Go.Proofs.YtpjfidmapnnbkaaDoor.ramp k0 n) := by
  have := h.reads
  unfold IntsR; rw [ramp_len]; exact this

theorem grown_set {a w : World} {g i : Nat} {u : Value} (h : a.grownBy w (some g)) : a.grownBy (w.setCell ⟨g, i, none⟩ u) (some g) :=
  ⟨h.os, h.tape, h.output, by simpa [World.setCell] using h.size, fun k hk hne => (Below.heap_setCell w ⟨g, i, none⟩ u k (fun e => hne (by rw [e]))).trans (h.block k hk hne)⟩
theorem set_mid {α : Type} (a b : List α) (x u : α) : (a ++ x :: b).set a.length u = a ++ u :: b := by
  induction a with
  | nil => rfl
  | cons y a ih => simp [ih]

end Go.Proofs.YtpjfidmapnnbkaaDoor

/- Rows of the call's own, and slices that read (no program in sight). -/
namespace Go.Proofs.YtpjfidmapnnbkaaDoor
open Go.RowKit

theorem ownsRow_below {w w' : World} {B : Nat} {e : TypeId} {k : Nat} {v : Value} {n : Nat} {xs : List Value} (h : w.ownsRow B e k v n xs) (hb : Below w.heap.size w w') : w'.ownsRow B e k v n xs := by
  obtain ⟨hl, h0 | ⟨g, cap, cur, hv, hg, hh, h1, h2, h3, h4⟩⟩ := h
  · exact ⟨hl, .inl h0⟩
  · have hlt : g < w.heap.size := by
      rcases Nat.lt_or_ge g w.heap.size with hlt | hge
      · exact hlt
      · rw [Array.getElem?_eq_none hge] at hh; cases hh
    exact ⟨hl, .inr ⟨g, cap, cur, hv, hg, (hb.block g hlt).trans hh, h1, h2, h3, h4⟩⟩
/-- Rows of other types lie elsewhere. -/
theorem ownsRow_far {w : World} {B : Nat} {e t : TypeId} {k : Nat} {v : Value} {n : Nat} {xs cs : List Value} (h : w.ownsRow B e k v n xs) {g : Nat} (hg : Lies w g t cs) (hne : e ≠ t) : some g ≠ v.ownBlock := by
  obtain ⟨_, ⟨rfl, _⟩ | ⟨g', cap, cur, rfl, _, hh, _⟩⟩ := h
  · simp [Value.ownBlock]
  · intro he
    simp only [Value.ownBlock, Option.some.injEq] at he
    subst he
    unfold Lies at hg
    rw [hg] at hh
    injection hh with hh; injection hh with _ h2; exact hne h2.symm
theorem ownsRow_lower {w : World} {B B' : Nat} {e : TypeId} {k : Nat} {v : Value} {n : Nat} {xs : List Value} (h : w.ownsRow B e k v n xs) (hB : B' ≤ B) : w.ownsRow B' e k v n xs := by
  obtain ⟨hl, h0 | ⟨g, cap, cur, hv, hg, hh⟩⟩ := h
  · exact ⟨hl, .inl h0⟩
  · exact ⟨hl, .inr ⟨g, cap, cur, hv, Nat.le_trans hB hg, hh⟩⟩
/-- Two rows of the call's own, of different types: one grows, the other stays. -/
theorem ownsRow_two {w w' : World} {B B' : Nat} {e e' : TypeId} {k k' : Nat} {v v' : Value} {n n' : Nat} {xs xs' : List Value} (h : w.ownsRow B e k v n xs) (h' : w.ownsRow B' e' k' v' n' xs') (hne : e' ≠ e) (hg : w.grownBy w' v'.ownBlock) : w'.ownsRow B e k v n xs := by
  refine h.kept hg ?_
  obtain ⟨_, ⟨h1, _⟩ | ⟨g, cap, cur, h1, _, hh, _⟩⟩ := h
  · left; rw [h1]; rfl
  · right
    rw [h1]
    exact ownsRow_far h' (g := g) (t := e) (cs := cur.toList) (Lies.of hh) hne
def lenOf : Value → Nat
  | .slice _ n _ => n
  | _ => 0
end Go.Proofs.YtpjfidmapnnbkaaDoor

/- The parts of a text between bytes (plain). -/
namespace Go.Proofs.YtpjfidmapnnbkaaDoor

def partsL (b : UInt8) : List UInt8 → List UInt8 → List (List UInt8)
  | cur, [] => [cur]
  | cur, x :: l => if x = b then cur :: partsL b [] l else partsL b (cur ++ [x]) l
def splitL (b : UInt8) (s : List UInt8) : List (List UInt8) := partsL b [] s
theorem parts_free {b : UInt8} : ∀ {l cur : List UInt8}, b ∉ l → partsL b cur l = [cur ++ l]
  | [], _, _ => by simp [partsL]
  | x :: l, cur, h => by
    simp only [List.mem_cons, not_or] at h
    rw [partsL, if_neg (Ne.symm h.1), parts_free h.2]; simp
theorem parts_mid {b : UInt8} {r : List UInt8} : ∀ {t cur : List UInt8}, b ∉ t → partsL b cur (t ++ b :: r) = (cur ++ t) :: partsL b [] r
  | [], _, _ => by simp [partsL]
  | x :: t, cur, h => by
    simp only [List.mem_cons, not_or] at h
    rw [List.cons_append, partsL, if_neg (Ne.symm h.1), parts_mid h.2]; simp
theorem split_free {b : UInt8} {l : List UInt8} (h : b ∉ l) : splitL b l = [l] := by unfold splitL; rw [parts_free h]; rfl
theorem split_mid {b : UInt8} {t r : List UInt8} (h : b ∉ t) : splitL b (t ++ b :: r) = t :: splitL b r := by unfold splitL; rw [parts_mid h]; rfl
theorem parts_ne (b : UInt8) : ∀ (l cur : List UInt8), partsL b cur l ≠ []
  | [], _ => by simp [partsL]
  | x :: l, cur => by
    unfold partsL; split
    · simp
    · exact parts_ne b l _
theorem parts_len (b : UInt8) : ∀ (l cur : List UInt8), (partsL b cur l).length ≤ l.length + 1
  | [], _ => by simp [partsL]
  | x :: l, cur => by
    unfold partsL; split
    · have := parts_len b l []; simp; omega
    · have := parts_len b l (cur ++ [x]); simp; omega
theorem parts_mem {b : UInt8} {t : List UInt8} : ∀ (l cur : List UInt8), t ∈ partsL b cur l → t.length ≤ cur.length + l.length
  | [], cur, h => by simp only [partsL, List.mem_singleton] at h; subst h; simp
  | x :: l, cur, h => by
    unfold partsL at h; split at h
    · rcases List.mem_cons.1 h with h | h
      · subst h; omega
      · have := parts_mem l [] h; simp at this ⊢; omega
    · have := parts_mem l _ h; simp at this ⊢; omega
theorem split_head (b : UInt8) (s : List UInt8) : ∃ ps, splitL b s = bef b s :: ps ∧ (ps = [] ↔ b ∉ s) := by
  rcases bef_or b s with ⟨h1, h2⟩ | ⟨r, h⟩
  · exact ⟨[], by rw [split_free h1, h2], by simp [h1]⟩
  · refine ⟨splitL b r, ?_, ?_⟩
    · have h1 := split_mid (r := r) (bef_not b s)
      rw [← h] at h1; exact h1
    · constructor
      · intro e; exact absurd e (parts_ne b r [])
      · intro hn; exact absurd (by rw [h]; simp) hn
end Go.Proofs.YtpjfidmapnnbkaaDoor

/- The parts of a text between bytes, in the reference (l1Split). -/
namespace Go.Proofs.YtpjfidmapnnbkaaDoor
open Go.RowKit

def texts (ps : List (List UInt8)) : List Value := ps.map fun p => Value.string ⟨p.toArray⟩
theorem texts_len (ps : List (List UInt8)) : (texts ps).length = ps.length * 1 := by simp [texts]
theorem infoText : (Tryd.prog.info? 9).map (fun i => (i.zero, i.size, i.bytes)) = some (some (.string ⟨#[]⟩), 1, 16) := by kernel_rfl
theorem parts_step {s : ByteArray} {f i : Nat} {b : UInt8} (hfi : f ≤ i) (hi : i < s.size) :
    partsL b (((bl s).take i).drop f) ((bl s).drop i) = if s[i] = b then ((bl s).take i).drop f :: partsL b (((bl s).take (i + 1)).drop (i + 1)) ((bl s).drop (i + 1)) else partsL b (((bl s).take (i + 1)).drop f) ((bl s).drop (i + 1)) := by
  rw [bl_drop hi, partsL]
  have e1 : ((bl s).take (i + 1)).drop (i + 1) = [] := List.drop_eq_nil_of_le (by rw [List.length_take]; omega)
  have e2 : ((bl s).take (i + 1)).drop f = ((bl s).take i).drop f ++ [s[i]] := by
    rw [bl_take hi, List.drop_append_of_le_length (by rw [List.length_take, bl_size]; omega)]
  rw [e1, e2]

set_option maxRecDepth 100000 in
set_option maxHeartbeats 4000000 in
theorem l1Split_any (s : ByteArray) (b : UInt8) (w : World) (hs : s.size ≤ 100000000) :
    Calls Tryd.prog 7 #[.string s, .int .u8 b.toNat] w fun e w' => ∃ A c, e = .returned (.slice A (splitL b (bl s)).length c) ∧ w'.ownsRow w.heap.size 9 1 (.slice A (splitL b (bl s)).length c) (splitL b (bl s)).length (texts (splitL b (bl s))) ∧ Below w.heap.size w w' := by
  have b0 := (Below.refl w.heap.size w).alloc (Nat.le_refl _) (.cells #[] 9)
  have O0 : Hid ((w.alloc (.cells #[] 9)).ownsRow w.heap.size 9 1 (.slice (some ⟨w.heap.size, 0, none⟩) 0 0) 0 (texts [])) := owns_empty (Lies.new w 9 #[]) (Nat.le_refl _)
  have HPL : Hid (∀ l cur : List UInt8, (partsL b cur l).length ≤ l.length + 1) := parts_len b
  go_enter Tryd.func7, Tryd.ntmps7
  go_wp2
  go_loopw [5, 6, 7] (fun o fr i wr => ∃ (f k : Nat) (A : Option Addr) (c : Nat) (ps : List (List UInt8)), f ≤ k ∧ k ≤ s.size ∧ ps.length ≤ k ∧ o = .slice A ps.length c ∧ fr = .int .i64 f ∧ i = .int .i64 k ∧ (∃ q : Since w.heap.size w, wr = q.val) ∧
    Hid (splitL b (bl s) = ps ++ partsL b (((bl s).take k).drop f) ((bl s).drop k)) ∧ Hid (wr.ownsRow w.heap.size 9 1 (.slice A ps.length c) ps.length (texts ps))) (fun _ _ i _ => s.size - (intOf i).toNat)
  case atStart => exact ⟨0, 0, some ⟨w.heap.size, 0, none⟩, 0, [], Nat.le_refl _, Nat.zero_le _, by simp, rfl, rfl, rfl, ⟨⟨_, b0⟩, rfl⟩, rfl, O0⟩
  case round =>
    obtain ⟨f, k, A, c, ps, hfk, hk, hps, rfl, rfl, rfl, ⟨q, rfl⟩, HF, HR⟩ := hrel
    have hqs := q.size
    by_cases hlt : k < s.size
    · have HST := Lib.hid (parts_step (b := b) hfk hlt)
      have hq := @u8_eq s[k] b
      have i1 : (f : Int) ≤ (k : Int) := by omega
      have i2 : (k : Int) ≤ (s.size : Int) := by omega
      by_cases heq : s[k] = b
      · rw [if_pos heq] at HST
        rw [decide_eq_true heq] at hq
        have HB : Hid (bl (s.extract f k) = ((bl s).take k).drop f) := bl_extract _ _ _
        clear heq
        go_wp2_with (at_builtin; refine wpList_push (w0 := q.val) rfl (.tmp 20) (.tmp 25) 28 rfl 9 (.string ⟨#[]⟩) 1 16 Tryd.underlying28 infoText rfl (by omega) (by omega) w.heap.size _ _ _ rfl HR #[.string (s.extract f k)] 1 _ rfl (by first | rfl | simp | exact Array.size_push _) rfl (by simp [Value.oneCell']) (by omega) hqs rfl rfl rfl rfl ?_; intro v5 w5 HO5 hg5 hb5)
        obtain ⟨A5, c5, hv5⟩ := ownsRow_slice HO5.out
        subst hv5
        go_roundw
        case rel =>
          refine ⟨k + 1, k + 1, A5, c5, ps ++ [((bl s).take k).drop f], Nat.le_refl _, by omega, by simp; omega, by simp, by go_num, by go_num, ⟨q.go' hb5, rfl⟩, ?_, ?_⟩
          · have h1 := HF.out; rw [HST.out] at h1; rw [Hid, h1]; simp
          · have h1 := HO5.out; rw [Hid]
            have h2 : texts (ps ++ [((bl s).take k).drop f]) = texts ps ++ [Value.string (s.extract f k)] := by unfold texts; rw [List.map_append, ← HB.out]; simp [← bl_ext rfl]
            rw [h2]; simpa using h1
        case measure => simp [intOf]; omega
      · rw [if_neg heq] at HST
        rw [decide_eq_false heq] at hq
        clear heq
        go_wp2
        go_roundw
        case rel => exact ⟨f, k + 1, A, c, ps, by omega, by omega, by omega, rfl, rfl, by go_num, ⟨q, rfl⟩, by have h1 := HF.out; rw [HST.out] at h1; exact h1, HR⟩
        case measure => simp [intOf]; omega
    · obtain rfl : k = s.size := by omega
      have i1 : (f : Int) ≤ (s.size : Int) := by omega
      have HB : Hid (bl (s.extract f s.size) = ((bl s).take s.size).drop f) := bl_extract _ _ _
      have HF2 : Hid (splitL b (bl s) = ps ++ [((bl s).take s.size).drop f]) := by
        have h1 := HF.out
        have e0 : (bl s).drop s.size = [] := List.drop_eq_nil_of_le (by rw [bl_size]; exact Nat.le_refl _)
        rw [e0] at h1; exact h1
      go_wp2_with (at_builtin; refine wpList_push (w0 := q.val) rfl (.tmp 29) (.tmp 33) 28 rfl 9 (.string ⟨#[]⟩) 1 16 Tryd.underlying28 infoText rfl (by omega) (by omega) w.heap.size _ _ _ rfl HR #[.string (s.extract f s.size)] 1 _ rfl (by first | rfl | simp | exact Array.size_push _) rfl (by simp [Value.oneCell']) (by omega) hqs rfl rfl rfl rfl ?_; intro v5 w5 HO5 hg5 hb5)
      obtain ⟨A5, c5, hv5⟩ := ownsRow_slice HO5.out
      subst hv5
      go_ret
      have h2 : texts (ps ++ [((bl s).take s.size).drop f]) = texts ps ++ [Value.string (s.extract f s.size)] := by unfold texts; rw [List.map_append, ← HB.out]; simp [← bl_ext rfl]
      rw [HF2.out, h2]
      refine ⟨A5, c5, by simp, ?_, (q.go' hb5).below⟩
      have h1 := HO5.out
      simpa using h1
end Go.Proofs.YtpjfidmapnnbkaaDoor

/- The reference's split: its texts lie in a block of the call's own. -/
namespace Go.Proofs.YtpjfidmapnnbkaaDoor
open Go.RowKit

theorem texts_at (ps : List (List UInt8)) (k : Nat) (h : k < ps.length) : (texts ps)[k]? = some (.string ⟨(ps[k]).toArray⟩) := by
  unfold texts; rw [List.getElem?_map, List.getElem?_eq_getElem h]; rfl
theorem texts_at2 (ps : List (List UInt8)) (rest : List Value) (k : Nat) (h : k < ps.length) : (texts ps ++ rest)[k]? = some (.string ⟨(ps[k]).toArray⟩) := by
  rw [List.getElem?_append_left (by rw [texts_len]; omega)]; exact texts_at ps k h
theorem l1Split_lies (s : ByteArray) (b : UInt8) (w : World) (hs : s.size ≤ 100000000) :
    Calls Tryd.prog 7 #[.string s, .int .u8 b.toNat] w fun e w' => ∃ (g c : Nat) (rest : List Value), e = .returned (.slice (some ⟨g, 0, none⟩) (splitL b (bl s)).length c) ∧ Lies w' g 9 (texts (splitL b (bl s)) ++ rest) ∧ w.heap.size ≤ g ∧ Below w.heap.size w w' := by
  refine (l1Split_any s b w hs).mono ?_
  rintro e w' ⟨A, c, rfl, ho, hb⟩
  obtain ⟨_, _, ⟨h1, h2⟩ | ⟨g, rest, hA, hg, hL⟩⟩ := OwnS.of ho
  · exact absurd (List.eq_nil_of_length_eq_zero h2) (parts_ne b _ _)
  · subst hA; exact ⟨g, c, rest, rfl, hL, hg, hb⟩
theorem parts_short {b : UInt8} {s : List UInt8} {n : Nat} (h : s.length ≤ n) : ∀ t ∈ splitL b s, t.length ≤ n := fun t ht => by
  have := parts_mem s [] ht; simp at this; omega
theorem parts_count {b : UInt8} {s : List UInt8} {n : Nat} (h : s.length ≤ n) : 1 ≤ (splitL b s).length ∧ (splitL b s).length ≤ n + 1 := by
  have h1 := parts_len b s []
  have h3 : 0 < (partsL b [] s).length := List.length_pos_iff.2 (parts_ne b s [])
  unfold splitL; omega
theorem beq_lit (v : ByteArray) (l : List UInt8) : (v.toList == l) = decide (bl v = l) := by
  rw [ByteArray.toList_eq]; unfold bl
  by_cases h : v.data.toList = l <;> simp [h]
theorem head_at {ps : List (List UInt8)} (h : 0 < ps.length) : ps.headD [] = ps[0] := by
  cases ps with
  | nil => simp at h
  | cons a l => rfl
theorem last_at {ps : List (List UInt8)} (h : 0 < ps.length) : ps.getLastD [] = ps[ps.length - 1] := by
  rw [List.getLastD_eq_getLast?, List.getLast?_eq_getElem?, List.getElem?_eq_getElem (by omega)]; rfl
end Go.Proofs.YtpjfidmapnnbkaaDoor

/- The library's Cut, Split and TrimSuffix at one byte. -/
namespace Go.Proofs.YtpjfidmapnnbkaaDoor
open Go.RowKit

def hasB (l : List UInt8) (b : UInt8) : Bool := l.contains b
theorem hasB_true {l : List UInt8} {b : UInt8} : hasB l b = true ↔ b ∈ l := by unfold hasB; simp
theorem hasB_false {l : List UInt8} {b : UInt8} : hasB l b = false ↔ b ∉ l := by unfold hasB; simp
theorem idxByte_or (l : List UInt8) (b : UInt8) : (b ∉ l ∧ Lib.indexByte l b = -1) ∨ (b ∈ l ∧ Lib.indexByte l b = (bef b l).length) := by
  induction l with
  | nil => exact .inl ⟨by simp, rfl⟩
  | cons x l ih =>
    unfold Lib.indexByte bef
    by_cases h : x = b
    · subst h; exact .inr ⟨by simp, by simp⟩
    · have h' : (x == b) = false := by simp [h]
      rw [if_neg (by simp [h]), if_neg h]
      rcases ih with ⟨h1, h2⟩ | ⟨h1, h2⟩
      · exact .inl ⟨by simp only [List.mem_cons, not_or]; exact ⟨Ne.symm h, h1⟩, by rw [h2]; rfl⟩
      · refine .inr ⟨by simp [h1], ?_⟩
        rw [h2, if_neg (by simp)]; simp

def cutL (s : ByteArray) (b : UInt8) : ByteArray := ⟨(bef b (bl s)).toArray⟩
def cutR (s : ByteArray) (b : UInt8) : ByteArray := ⟨((bl s).drop ((bef b (bl s)).length + 1)).toArray⟩

theorem bl_cutL (s : ByteArray) (b : UInt8) : bl (cutL s b) = bef b (bl s) := bl_mk _
theorem bl_cutR (s : ByteArray) (b : UInt8) : bl (cutR s b) = (bl s).drop ((bef b (bl s)).length + 1) := bl_mk _

/-! ### Split -/
theorem splitK_one (b : UInt8) : ∀ (fuel : Nat) (l : List UInt8), l.length < fuel → Lib.splitK [b] 0 (Lib.countFrom [b] fuel l) l = splitL b l ∧ (splitL b l).length = Lib.countFrom [b] fuel l + 1
  | 0, l, h => absurd h (by omega)
  | fuel + 1, l, h => by
    rcases index_one_or l b with ⟨h1, h2⟩ | ⟨h1, h2⟩
    · have hc : Lib.countFrom [b] (fuel + 1) l = 0 := by unfold Lib.countFrom; rw [h2]; rfl
      rw [hc, split_free h1]; exact ⟨rfl, rfl⟩
    · have hp := parts_bef h1
      have hl := congrArg List.length hp
      simp only [List.length_append, List.length_cons, List.length_drop] at hl
      obtain ⟨r, hr⟩ : ∃ r, l.drop ((bef b l).length + 1) = r := ⟨_, rfl⟩
      have hrl : r.length < fuel := by rw [← hr, List.length_drop]; omega
      obtain ⟨i1, i2⟩ := splitK_one b fuel r hrl
      have hne : ¬ ((((bef b l).length : Nat) : Int) == -1) = true := fun e => by have := beq_iff_eq.1 e; omega
      have hc : Lib.countFrom [b] (fuel + 1) l = Lib.countFrom [b] fuel r + 1 := by
        rw [Lib.countFrom, h2, if_neg hne, Int.toNat_natCast, show ([b] : List UInt8).length = 1 from rfl, hr]; omega
      have hs : splitL b l = bef b l :: splitL b r := by
        rw [← hr]
        have := split_mid (r := l.drop ((bef b l).length + 1)) (bef_not b l)
        rw [← hp] at this; exact this
      rw [hc, hs]
      refine ⟨?_, by rw [List.length_cons, i2]⟩
      rw [Lib.splitK, h2, if_neg hne, Int.toNat_natCast, show ([b] : List UInt8).length = 1 from rfl, hr, i1, Nat.add_zero, take_bef]
theorem splitB_texts (s : ByteArray) (b : UInt8) : ((Lib.splitB ⟨#[b]⟩ 0 (Lib.countB s ⟨#[b]⟩) s).map Value.string) = texts (splitL b (bl s)) ∧ Lib.countB s ⟨#[b]⟩ + 1 = (splitL b (bl s)).length := by
  have h1 := Lib.splitB_data ⟨#[b]⟩ 0 (Lib.countB s ⟨#[b]⟩) s
  have h2 : Lib.countB s ⟨#[b]⟩ = Lib.countFrom [b] ((bl s).length + 1) (bl s) := by
    rfl
  obtain ⟨h3, h4⟩ := splitK_one b ((bl s).length + 1) (bl s) (by omega)
  refine ⟨?_, by rw [h2, h4]⟩
  have h5 : (Lib.splitB ⟨#[b]⟩ 0 (Lib.countB s ⟨#[b]⟩) s).map bl = splitL b (bl s) := by
    rw [← h3, ← h2]; exact h1
  rw [← h5, texts, List.map_map]
  exact List.map_congr_left fun x _ => congrArg Value.string (bl_ext rfl)
theorem split_any (s : ByteArray) (b : UInt8) (w : World) (hs : s.size ≤ 1000000000) (hL : LW w) :
    Calls Tryd.prog 12 #[.string s, .string ⟨#[b]⟩] w fun e w' => e = .returned (.slice (some ⟨w.heap.size, 0, none⟩) (splitL b (bl s)).length (splitL b (bl s)).length) ∧ Lies w' w.heap.size 9 (texts (splitL b (bl s))) ∧ Below w.heap.size w w' := by
  obtain ⟨m, hm⟩ := hL.ml
  obtain ⟨h1, h2⟩ := splitB_texts s b
  refine (Tryd.strings_Split s ⟨#[b]⟩ m w (by omega) hm (Nat.le_refl 1)).mono ?_
  rintro e w' ⟨rfl, rfl⟩
  rw [h1, h2]
  have := Lies.new w 9 (texts (splitL b (bl s))).toArray
  exact ⟨rfl, by simpa using this, (Below.refl w.heap.size w).alloc (Nat.le_refl _) _⟩
end Go.Proofs.YtpjfidmapnnbkaaDoor

/- A region whose order is drawn, by one fact on each operation: no orders are walked. -/
namespace Go.Proofs.YtpjfidmapnnbkaaDoor
open Go.RowKit

section
variable {P : Program} {ops : Array Oper} {Q : Exit → Act → World → Prop} {md : Region.Mode}

/-- The values vs in the temporaries of the operations. -/
def fillOps (vs : Nat → Value) : List Oper → Nat → Act → Act
  | [], _, a => a
  | o :: l, k, a => fillOps vs l (k + 1) (a.put o.dst (vs k))
def dstsApart : List Oper → Bool
  | [] => true
  | o :: l => l.all (fun p => match o.dst with | none => true | some d => p.dst != some d) && dstsApart l
def upd (vs : Nat → Value) (i : Nat) (v : Value) : Nat → Value := fun j => if j = i then v else vs j

theorem fillOps_put (vs : Nat → Value) {d : Option Tmp} {v : Value} : ∀ (l : List Oper) (k : Nat) (a : Act), (∀ p ∈ l, ∀ t, d = some t → p.dst ≠ some t) → (fillOps vs l k a).put d v = fillOps vs l k (a.put d v)
  | [], _, _, _ => rfl
  | o :: l, k, a, h => by
    unfold fillOps
    rw [fillOps_put vs l (k + 1) _ (fun p hp => h p (List.mem_cons_of_mem _ hp))]
    rw [Act.put_comm a (vs k) v (x := o.dst) (y := d) (fun t ht hd => h o (by simp) t hd ht)]
theorem fillOps_congr {vs vs' : Nat → Value} : ∀ (l : List Oper) (k : Nat) (a : Act), (∀ j, k ≤ j → vs j = vs' j) → fillOps vs l k a = fillOps vs' l k a
  | [], _, _, _ => rfl
  | o :: l, k, a, h => by
    unfold fillOps
    rw [h k (Nat.le_refl _), fillOps_congr l (k + 1) _ (fun j hj => h j (by omega))]
theorem Act.put_put (a : Act) (d : Option Tmp) (u v : Value) : (a.put d u).put d v = a.put d v := by
  cases d with
  | none => rfl
  | some d =>
    simp only [Act.put]
    congr 1
    apply Array.ext (by simp)
    intro i h1 h2
    simp
theorem fillOps_upd : ∀ (l : List Oper) (k : Nat) (a : Act) (vs : Nat → Value) (i : Nat) (o : Oper) (v : Value), dstsApart l = true → l[i]? = some o →
    (fillOps vs l k a).put o.dst v = fillOps (upd vs (k + i) v) l k a
  | [], _, _, _, _, _, _, _, h => by simp at h
  | p :: l, k, a, vs, 0, o, v, hd, h => by
    simp only [List.getElem?_cons_zero, Option.some.injEq] at h; subst h
    simp only [dstsApart, Bool.and_eq_true, List.all_eq_true] at hd
    unfold fillOps
    rw [fillOps_put vs l (k + 1) _ (fun q hq t ht => by
      have := hd.1 q hq; rw [ht] at this; simpa using this), Act.put_put]
    rw [fillOps_congr (vs := vs) (vs' := upd vs (k + 0) v) l (k + 1) _ (fun j hj => by unfold upd; rw [if_neg (by omega)])]
    congr 2
    simp [upd]
  | p :: l, k, a, vs, i + 1, o, v, hd, h => by
    simp only [dstsApart, Bool.and_eq_true] at hd
    unfold fillOps
    rw [fillOps_upd l (k + 1) _ vs i o v hd.2 (by simpa using h)]
    have : k + 1 + i = k + (i + 1) := by omega
    rw [this]
    congr 2
    unfold upd; rw [if_neg (by omega)]
theorem Act.put_self (a : Act) (t : Tmp) (u : Value) : a.put (some t) (a.tmps.getD t u) = a := by
  simp only [Act.put]
  obtain ⟨tmps, defers⟩ := a
  congr 1
  apply Array.ext_getElem?
  intro i
  by_cases e : t = i
  · subst e
    by_cases h2 : t < tmps.size
    · simp [h2]
    · simp [h2]
  · rw [Array.getElem?_setIfInBounds_ne e]
theorem fillOps_self (vs : Nat → Value) : ∀ (l : List Oper) (k : Nat) (a : Act), (∀ i o t, l[i]? = some o → o.dst = some t → vs (k + i) = a.tmps.getD t undef) → fillOps vs l k a = a
  | [], _, _, _ => rfl
  | o :: l, k, a, h => by
    unfold fillOps
    have e : a.put o.dst (vs k) = a := by
      cases hd : o.dst with
      | none => rfl
      | some t =>
        have h0 := h 0 o t (by simp) hd
        rw [Nat.add_zero] at h0
        rw [h0, Act.put_self]
    rw [e]
    exact fillOps_self vs l (k + 1) a (fun i o' t h1 h2 => by
      have := h (i + 1) o' t (by simpa using h1) h2
      rwa [show k + (i + 1) = k + 1 + i by omega] at this)

/-- j comes ahead of k, whatever order is drawn. -/
def ahead (md : Region.Mode) (ops : Array Oper) : Nat → Nat → Nat → Bool
  | 0, _, _ => false
  | fuel + 1, k, j => match ops[k]? with
    | none => false
    | some o => o.after.any fun e => Region.binds md e && (e.on == j || ahead md ops fuel e.on j)
def edgesDown (md : Region.Mode) (ops : Array Oper) : Bool :=
  (List.range ops.size).all fun k => match ops[k]? with
    | none => true
    | some o => o.after.all fun e => !Region.binds md e || decide (e.on < k)

def Closed (md : Region.Mode) (ops : Array Oper) (listed : Array Bool) : Prop :=
  ∀ j o, ops[j]? = some o → listed.getD j false = true → ∀ e ∈ o.after, Region.binds md e = true → listed.getD e.on false = true

theorem ahead_listed {listed : Array Bool} (hc : Closed md ops listed) : ∀ (fuel k j : Nat), (∀ o, ops[k]? = some o → ∀ e ∈ o.after, Region.binds md e = true → listed.getD e.on false = true) → ahead md ops fuel k j = true → listed.getD j false = true
  | 0, _, _, _, h => by simp [ahead] at h
  | fuel + 1, k, j, hk, h => by
    unfold ahead at h
    cases ho : ops[k]? with
    | none => simp [ho] at h
    | some o =>
      simp only [ho] at h
      obtain ⟨e, he, hb⟩ := Array.any_eq_true'.1 h
      simp only [Bool.and_eq_true, Bool.or_eq_true, beq_iff_eq] at hb
      have h1 := hk o ho e he hb.1
      rcases hb.2 with h2 | h2
      · rw [← h2]; exact h1
      · exact ahead_listed hc fuel e.on j (fun o' ho' => hc e.on o' ho' h1) h2

/-- The walk: a fact R on each operation's value; the facts of those that come ahead are at hand. -/
def wpFacts (P : Program) (ops : Array Oper) (Q : Exit → Act → World → Prop) (C : World → Prop) (T : World → World → Prop) (fr : (Nat → Value) → Act) : Nat → List Oper → List (Value → World → Prop) → Prop
  | _, [], Rs => ∀ vs w, C w → (∀ (j : Nat) (R : Value → World → Prop), Rs[j]? = some R → R (vs j) w) → Q .normal (fr vs) w
  | k, o :: l, Rs => ∃ R : Value → World → Prop, (∀ v w w', R v w → T w w' → R v w') ∧
    (∀ vs w, C w → (∀ (j : Nat) (R' : Value → World → Prop), ahead .any ops ops.size k j = true → Rs[j]? = some R' → R' (vs j) w) → ∀ K : Act → World → Prop, (∀ a' v w', a' = (fr vs).put o.dst v → R v w' → C w' → T w w' → K a' w') →
      if Region.wanted o (yielded ops (fr vs).tmps) = true then o.wp P (fr vs) w K Q else K ((fr vs).put o.dst undef) w) ∧
    wpFacts P ops Q C T fr (k + 1) l (Rs ++ [R])

/-- What the walk gives: the facts, one for each operation. -/
theorem wpFacts_all {C : World → Prop} {T : World → World → Prop} {fr : (Nat → Value) → Act} : ∀ (l : List Oper) (k : Nat) (Rs : List (Value → World → Prop)), (∀ i, l[i]? = ops[k + i]?) → Rs.length = k →
    (∀ (j : Nat) (R : Value → World → Prop), Rs[j]? = some R → ∀ v w w', R v w → T w w' → R v w') →
    (∀ (j : Nat) (o : Oper) (R : Value → World → Prop), j < k → ops[j]? = some o → Rs[j]? = some R → ∀ vs w, C w → (∀ (j' : Nat) (R' : Value → World → Prop), ahead .any ops ops.size j j' = true → j' < j → Rs[j']? = some R' → R' (vs j') w) → ∀ K : Act → World → Prop, (∀ a' v w', a' = (fr vs).put o.dst v → R v w' → C w' → T w w' → K a' w') →
      if Region.wanted o (yielded ops (fr vs).tmps) = true then o.wp P (fr vs) w K Q else K ((fr vs).put o.dst undef) w) →
    wpFacts P ops Q C T fr k l Rs →
    ∃ Rs' : List (Value → World → Prop), Rs'.length = k + l.length ∧ (∀ (j : Nat) (R : Value → World → Prop), Rs'[j]? = some R → ∀ v w w', R v w → T w w' → R v w') ∧
    (∀ (j : Nat) (o : Oper) (R : Value → World → Prop), ops[j]? = some o → Rs'[j]? = some R → ∀ vs w, C w → (∀ (j' : Nat) (R' : Value → World → Prop), ahead .any ops ops.size j j' = true → j' < j → Rs'[j']? = some R' → R' (vs j') w) → ∀ K : Act → World → Prop, (∀ a' v w', a' = (fr vs).put o.dst v → R v w' → C w' → T w w' → K a' w') →
      if Region.wanted o (yielded ops (fr vs).tmps) = true then o.wp P (fr vs) w K Q else K ((fr vs).put o.dst undef) w) ∧
    (∀ vs w, C w → (∀ (j : Nat) (R : Value → World → Prop), Rs'[j]? = some R → R (vs j) w) → Q .normal (fr vs) w)
  | [], k, Rs, hl, hlen, hst, hop, h => by
    refine ⟨Rs, by simpa using hlen, hst, fun j o R ho hR => hop j o R ?_ ho hR, h⟩
    rw [← hlen]; exact (List.getElem?_eq_some_iff.1 hR).1
  | o :: l, k, Rs, hl, hlen, hst, hop, h => by
    obtain ⟨R, hRs, hRo, hrest⟩ := h
    have ho : ops[k]? = some o := by simpa using (hl 0).symm
    have hold : ∀ j, j < k → (Rs ++ [R])[j]? = Rs[j]? := fun j hj => List.getElem?_append_left (by omega)
    have hnew : (Rs ++ [R])[k]? = some R := by rw [List.getElem?_append_right (by omega), hlen]; simp
    obtain ⟨Rs', h1, h2, h3, h4⟩ := wpFacts_all l (k + 1) (Rs ++ [R]) (fun i => by have := hl (i + 1); simpa [Nat.add_assoc, Nat.add_comm 1 i] using this) (by simp [hlen])
      (fun j R' hR' => by
        rcases Nat.lt_trichotomy j k with hj | hj | hj
        · rw [hold j hj] at hR'; exact hst j R' hR'
        · subst hj; rw [hnew] at hR'; cases hR'; exact hRs
        · rw [List.getElem?_eq_none (by simp [hlen]; omega)] at hR'; cases hR')
      (fun j o' R' hj ho' hR' vs w hC hB K hK => by
        rcases Nat.lt_or_ge j k with hjk | hjk
        · rw [hold j hjk] at hR'
          exact hop j o' R' hjk ho' hR' vs w hC (fun j' R'' ha hlt h'' => hB j' R'' ha hlt (by rw [hold j' (by omega)]; exact h'')) K hK
        · obtain rfl : j = k := by omega
          rw [ho] at ho'; cases ho'
          rw [hnew] at hR'; cases hR'
          refine hRo vs w hC (fun j' R'' ha h'' => ?_) K hK
          have hlt : j' < Rs.length := (List.getElem?_eq_some_iff.1 h'').1
          exact hB j' R'' ha (by omega) (by rw [hold j' (by omega)]; exact h''))
      hrest
    exact ⟨Rs', by rw [h1]; simp; omega, h2, h3, h4⟩

theorem listed_ready {listed : Array Bool} (hdn : edgesDown .any ops = true) (hsz : listed.size = ops.size) (hr : Region.ready .any ops listed = []) : ∀ j, j < ops.size → listed.getD j false = true := by
  intro j
  induction j using Nat.strongRecOn with
  | ind j ih =>
    intro hj
    rcases hb : listed.getD j false with _ | _
    · exfalso
      have hmem : j ∈ Region.ready .any ops listed := by
        rw [mem_ready]
        refine ⟨?_, ops[j], Array.getElem?_eq_getElem hj, fun e he hbd => ?_⟩
        · have : j < listed.size := by omega
          simp only [Array.getD, this, ↓reduceDIte] at hb ⊢
          exact hb
        · have h1 := List.all_eq_true.1 hdn j (List.mem_range.2 hj)
          rw [Array.getElem?_eq_getElem hj] at h1
          have h2 := Array.all_eq_true_iff_forall_mem.1 h1 e he
          simp only [hbd, Bool.not_true, Bool.false_or, decide_eq_true_eq] at h2
          exact ih e.on h2 (by omega)
      rw [hr] at hmem; cases hmem
    · rfl

/-- How many have not come up. -/
def unlisted (n : Nat) (listed : Array Bool) : Nat := ((List.range n).filter fun j => !listed.getD j false).length
theorem unlisted_set {n i : Nat} {listed : Array Bool} (hi : i < n) (hs : listed.size = n) (h : listed.getD i false = false) : unlisted n (listed.setIfInBounds i true) < unlisted n listed := by
  unfold unlisted
  have e : ∀ l : List Nat, (l.filter fun j => !(listed.setIfInBounds i true).getD j false) = (l.filter fun j => !listed.getD j false).filter (fun j => j != i) := by
    intro l
    rw [List.filter_filter]
    apply List.filter_congr
    intro j _
    by_cases hji : j = i
    · subst hji; have : j < listed.size := by omega
      simp [this]
    · rw [getD_set_ne false (Ne.symm hji)]; simp [hji]
  rw [e]
  have hm : i ∈ (List.range n).filter fun j => !listed.getD j false := List.mem_filter.2 ⟨List.mem_range.2 hi, by rw [h]; rfl⟩
  generalize (List.range n).filter (fun j => !listed.getD j false) = l at hm
  clear e
  induction l with
  | nil => cases hm
  | cons x l ih =>
    rw [List.filter_cons]
    split
    · rename_i hx
      rcases List.mem_cons.1 hm with h' | h'
      · simp [h'] at hx
      · simpa using ih h'
    · exact Nat.lt_succ_of_le (List.length_filter_le _ _)

theorem wpAny_facts {C : World → Prop} {T : World → World → Prop} {a₀ : Act} (hap : dstsApart ops.toList = true) (hdn : edgesDown .any ops = true) (Rs : List (Value → World → Prop)) (hlen : Rs.length = ops.size)
    (hst : ∀ (j : Nat) (R : Value → World → Prop), Rs[j]? = some R → ∀ v w w', R v w → T w w' → R v w')
    (hop : ∀ (j : Nat) (o : Oper) (R : Value → World → Prop), ops[j]? = some o → Rs[j]? = some R → ∀ vs w, C w → (∀ (j' : Nat) (R' : Value → World → Prop), ahead .any ops ops.size j j' = true → j' < j → Rs[j']? = some R' → R' (vs j') w) → ∀ K : Act → World → Prop, (∀ a' v w', a' = (fillOps vs ops.toList 0 a₀).put o.dst v → R v w' → C w' → T w w' → K a' w') →
      if Region.wanted o (yielded ops (fillOps vs ops.toList 0 a₀).tmps) = true then o.wp P (fillOps vs ops.toList 0 a₀) w K Q else K ((fillOps vs ops.toList 0 a₀).put o.dst undef) w)
    (hend : ∀ vs w, C w → (∀ (j : Nat) (R : Value → World → Prop), Rs[j]? = some R → R (vs j) w) → Q .normal (fillOps vs ops.toList 0 a₀) w) :
    ∀ (fuel : Nat) (listed : Array Bool) (vs : Nat → Value) (w : World), listed.size = ops.size → unlisted ops.size listed ≤ fuel → Closed .any ops listed → C w → (∀ (j : Nat) (R : Value → World → Prop), listed.getD j false = true → Rs[j]? = some R → R (vs j) w) →
      wpAny P .any ops Q fuel listed (fillOps vs ops.toList 0 a₀) w := by
  have hfin : ∀ (listed : Array Bool) (vs : Nat → Value) (w : World), listed.size = ops.size → C w → (∀ (j : Nat) (R : Value → World → Prop), listed.getD j false = true → Rs[j]? = some R → R (vs j) w) → Region.ready .any ops listed = [] → Q .normal (fillOps vs ops.toList 0 a₀) w :=
    fun listed vs w hs hC hR hr => hend vs w hC fun j R hj => hR j R (listed_ready hdn hs hr j (by rw [← hlen]; exact (List.getElem?_eq_some_iff.1 hj).1)) hj
  intro fuel
  induction fuel with
  | zero =>
    intro listed vs w hs hu hcl hC hR
    have hr : Region.ready .any ops listed = [] := by
      rw [List.eq_nil_iff_forall_not_mem]
      intro j hj
      obtain ⟨h0, o, ho, _⟩ := mem_ready.1 hj
      have hjs : j < ops.size := (Array.getElem?_eq_some_iff.1 ho).1
      have : unlisted ops.size (listed.setIfInBounds j true) < unlisted ops.size listed := unlisted_set hjs hs (by
        have : j < listed.size := by omega
        simp only [Array.getD, this, ↓reduceDIte] at h0 ⊢; exact h0)
      omega
    exact ⟨hr, hfin listed vs w hs hC hR hr⟩
  | succ fuel ih =>
    intro listed vs w hs hu hcl hC hR
    refine ⟨hfin listed vs w hs hC hR, fun i hi => ?_⟩
    obtain ⟨h0, o, ho, hall⟩ := mem_ready.1 hi
    have hisz : i < ops.size := (Array.getElem?_eq_some_iff.1 ho).1
    have hil : i < listed.size := by omega
    have h0' : listed.getD i false = false := by simp only [Array.getD, hil, ↓reduceDIte] at h0 ⊢; exact h0
    obtain ⟨R, hRi⟩ : ∃ R, Rs[i]? = some R := ⟨Rs[i]'(by omega), List.getElem?_eq_getElem (by omega)⟩
    have hstep := hop i o R ho hRi vs w hC (fun j' R' ha _ hR' => hR j' R' (ahead_listed hcl ops.size i j' (fun o' ho' => by rw [ho] at ho'; cases ho'; exact hall) ha) hR')
      (wpAny P .any ops Q fuel (listed.setIfInBounds i true)) (fun a' v w' ha hRv hC' hT => by
        rw [ha, fillOps_upd ops.toList 0 a₀ vs i o v hap (by simpa using ho), Nat.zero_add]
        refine ih _ _ _ (by simpa using hs) ?_ ?_ hC' ?_
        · have := unlisted_set hisz hs h0'; omega
        · intro j oj hoj hj e he hb
          by_cases hji : j = i
          · subst hji; rw [ho] at hoj; cases hoj; exact getD_set_true (hall e he hb)
          · rw [getD_set_ne false (Ne.symm hji)] at hj; exact getD_set_true (hcl j oj hoj hj e he hb)
        · intro j R' hj hR'
          by_cases hji : j = i
          · subst hji; rw [hRi] at hR'; cases hR'; simpa [upd] using hRv
          · rw [getD_set_ne false (Ne.symm hji)] at hj
            have := hst j R' hR' _ _ _ (hR j R' hj hR') hT
            simpa [upd, hji] using this)
    unfold wpOp
    simp only [ho]
    split
    · rename_i hw; rw [if_pos hw] at hstep; exact .inl hstep
    · rename_i hw; rw [if_neg hw] at hstep; exact hstep

/-- The region. -/
theorem wp_region_facts {id : Nat} {a : Act} {w : World} {l : List Oper} (C : World → Prop) (T : World → World → Prop) (hm : P.follows .mixedOrders = true) (hap : dstsApart l = true) (hdn : edgesDown .any l.toArray = true)
    (hC : C w.drew) (h : wpFacts P l.toArray Q C T (fun vs => fillOps vs l 0 a) 0 l []) : (Code.region id l.toArray true).wp P Q a w := by
  refine wp_region_any hm ?_
  obtain ⟨Rs, h1, h2, h3, h4⟩ := wpFacts_all (ops := l.toArray) l 0 [] (by simp) rfl (by simp) (by simp) h
  obtain ⟨vs, hvs⟩ : ∃ vs : Nat → Value, ∀ i o t, l[i]? = some o → o.dst = some t → vs (0 + i) = a.tmps.getD t undef :=
    ⟨fun i => match (l[i]?).bind (·.dst) with | some t => a.tmps.getD t undef | none => undef, fun i o t hi ht => by simp [hi, ht]⟩
  have := wpAny_facts (P := P) (Q := Q) (ops := l.toArray) (C := C) (T := T) (a₀ := a) hap hdn Rs (by simpa using h1) h2 h3 h4 l.toArray.size (Array.replicate l.toArray.size false) vs w.drew (by simp)
    (Nat.le_trans (List.length_filter_le _ _) (by simp)) (fun j o hj hl => by simp [Array.getD] at hl) hC (fun j R hl => by simp [Array.getD] at hl)
  rwa [fillOps_self vs _ 0 a (by simpa using hvs)] at this

theorem wpFacts_nil {C : World → Prop} {T : World → World → Prop} {fr : (Nat → Value) → Act} {k : Nat} {Rs : List (Value → World → Prop)} (h : ∀ vs w, C w → (∀ (j : Nat) (R : Value → World → Prop), Rs[j]? = some R → R (vs j) w) → Q .normal (fr vs) w) : wpFacts P ops Q C T fr k [] Rs := h
/-- An operation with one value. -/
theorem wpFacts_val {C : World → Prop} {T : World → World → Prop} {fr : (Nat → Value) → Act} {k : Nat} {o : Oper} {l : List Oper} {Rs : List (Value → World → Prop)} (V : Value)
    (h1 : ∀ vs w, C w → (∀ (j : Nat) (R' : Value → World → Prop), ahead .any ops ops.size k j = true → Rs[j]? = some R' → R' (vs j) w) → ∀ K : Act → World → Prop, (∀ a' w', a' = (fr vs).put o.dst V → C w' → T w w' → K a' w') →
      if Region.wanted o (yielded ops (fr vs).tmps) = true then o.wp P (fr vs) w K Q else K ((fr vs).put o.dst undef) w)
    (h2 : wpFacts P ops Q C T fr (k + 1) l (Rs ++ [fun v _ => v = V])) : wpFacts P ops Q C T fr k (o :: l) Rs :=
  ⟨fun v _ => v = V, fun _ _ _ h _ => h, fun vs w hC hB K hK => h1 vs w hC hB K fun a' w' ha hC' hT => hK a' V w' ha rfl hC' hT, h2⟩
/-- An operation whose value has a property. -/
theorem wpFacts_some {C : World → Prop} {T : World → World → Prop} {fr : (Nat → Value) → Act} {k : Nat} {o : Oper} {l : List Oper} {Rs : List (Value → World → Prop)} (R : Value → World → Prop) (hR : ∀ v w w', R v w → T w w' → R v w')
    (h1 : ∀ vs w, C w → (∀ (j : Nat) (R' : Value → World → Prop), ahead .any ops ops.size k j = true → Rs[j]? = some R' → R' (vs j) w) → ∀ K : Act → World → Prop, (∀ a' v w', a' = (fr vs).put o.dst v → R v w' → C w' → T w w' → K a' w') →
      if Region.wanted o (yielded ops (fr vs).tmps) = true then o.wp P (fr vs) w K Q else K ((fr vs).put o.dst undef) w)
    (h2 : wpFacts P ops Q C T fr (k + 1) l (Rs ++ [R])) : wpFacts P ops Q C T fr k (o :: l) Rs :=
  ⟨R, hR, h1, h2⟩
end
end Go.Proofs.YtpjfidmapnnbkaaDoor

/- OfficeLine: both sides and the law. -/
namespace Go.Proofs.YtpjfidmapnnbkaaDoor
open Go.RowKit

/-- Hundredths as text. -/
def hundT (n : Nat) : List UInt8 := Lib.itoa ((n : Int) / 100) ++ ([46] ++ (Lib.itoa ((n : Int) / 10 % 10) ++ Lib.itoa ((n : Int) % 10)))
theorem hundT_int (n : Nat) : hundT n = Lib.itoa ((n : Int) / 100) ++ ([46] ++ (Lib.itoa ((n : Int) / 10 % 10) ++ Lib.itoa ((n : Int) % 10))) := rfl
def lineT (r : Row) : List UInt8 :=
  [109] ++ Lib.itoa r.m ++ [58, 32, 43] ++ Lib.itoa r.b ++ [32, 45] ++ Lib.itoa r.s ++ [32, 112, 114, 111, 102, 105, 116, 32] ++ ((if r.c < 0 then [45] else []) ++ (hundT r.c.natAbs ++ (if 0 < r.l then [32] ++ (Lib.itoa r.l ++ [32, 108, 101, 110, 116]) else [])))
def lineO (r : Row) : ByteArray := ⟨(lineT r).toArray⟩
theorem Row.ok_bounds {r : Row} (h : r.ok = true) : 1 ≤ r.m ∧ r.m ≤ 1200 ∧ 0 ≤ r.b ∧ r.b ≤ 9999 ∧ 0 ≤ r.s ∧ r.s ≤ 9999 ∧ -1000000 ≤ r.c ∧ r.c ≤ 1000000 ∧ 0 ≤ r.l ∧ r.l ≤ 999 := by
  unfold Row.ok inR at h
  simp only [Bool.and_eq_true, decide_eq_true_eq] at h
  omega
theorem hund_small {n : Nat} (h : n % 100 < 10) : hundT n = Lib.itoa ((n : Int) / 100) ++ ([46, 48] ++ Lib.itoa ((n : Int) % 100)) := by
  have e1 : (n : Int) / 10 % 10 = ((0 : Nat) : Int) := by omega
  have e2 : (n : Int) % 10 = (n : Int) % 100 := by omega
  have e3 : Lib.itoa ((0 : Nat) : Int) = [48] := by rw [itoa_nat, dec_small (by omega)]; rfl
  unfold hundT; rw [e1, e2, e3]; rfl
theorem hund_big {n : Nat} (h : ¬ n % 100 < 10) : hundT n = Lib.itoa ((n : Int) / 100) ++ ([46] ++ Lib.itoa ((n : Int) % 100)) := by
  have e1 : (n : Int) / 10 % 10 = ((n % 100 / 10 : Nat) : Int) := by omega
  have e2 : (n : Int) % 10 = ((n % 100 % 10 : Nat) : Int) := by omega
  have e3 : (n : Int) % 100 = ((n % 100 : Nat) : Int) := by omega
  unfold hundT
  rw [e1, e2, e3, itoa_nat (n % 100), dec_big h, itoa_nat, itoa_nat, dec_small (n := n % 100 % 10) (by omega)]
theorem hund_len {n : Nat} (h : n ≤ 1000000) : (⟨(hundT n).toArray⟩ : ByteArray).size ≤ 301 := by
  have h1 := itoa_len (n := (n : Int) / 100) (by omega) (by omega)
  have h2 := itoa_len (n := (n : Int) / 10 % 10) (by omega) (by omega)
  have h3 := itoa_len (n := (n : Int) % 10) (by omega) (by omega)
  have e : ∀ l : List UInt8, (⟨l.toArray⟩ : ByteArray).size = l.length := fun l => rfl
  rw [e] at *
  unfold hundT
  simp only [List.length_append, List.length_cons, List.length_nil]
  have h9 : (Lib.itoa ((n : Int) / 100)).length ≤ 100 := h1
  omega

set_option maxHeartbeats 1000000 in
theorem hundredths_any (n : Nat) (w : World) (h : n ≤ 1000000) (ht : Tab w) :
    Calls Tryd.prog 35 #[.int .i64 (n : Int)] w fun e w' => e = .returned (.string ⟨(hundT n).toArray⟩) ∧ Below w.heap.size w w' := by
  have v1 : (n : Int).tdiv 100 = (n : Int) / 100 := Int.tdiv_eq_ediv_of_nonneg (by omega)
  have v2 : (n : Int).tmod 100 = (n : Int) % 100 := Int.tmod_eq_emod_of_nonneg (by omega)
  obtain ⟨t1, e1⟩ : ∃ t : ByteArray, t = ⟨(Lib.itoa ((n : Int) / 100)).toArray⟩ := ⟨_, rfl⟩
  have y1 : t1.size ≤ 100 := by rw [e1]; exact itoa_len (by omega) (by omega)
  have N1 : Hid (∀ W, Tab W → Calls Tryd.prog 24 #[.int .i64 ((n : Int) / 100)] W fun e w' => e = .returned (.string t1) ∧ Below W.heap.size W w') := by rw [e1]; exact fun W hW => itoa_any _ W (by omega) (by omega) hW
  have HE1 : Hid (bl t1 = Lib.itoa ((n : Int) / 100)) := by rw [Hid, e1, bl_mk]
  obtain ⟨t2, e2⟩ : ∃ t : ByteArray, t = ⟨(Lib.itoa ((n : Int) % 100)).toArray⟩ := ⟨_, rfl⟩
  have y2 : t2.size ≤ 100 := by rw [e2]; exact itoa_len (by omega) (by omega)
  have N2 : Hid (∀ W, Tab W → Calls Tryd.prog 24 #[.int .i64 ((n : Int) % 100)] W fun e w' => e = .returned (.string t2) ∧ Below W.heap.size W w') := by rw [e2]; exact fun W hW => itoa_any _ W (by omega) (by omega) hW
  have HE2 : Hid (bl t2 = Lib.itoa ((n : Int) % 100)) := by rw [Hid, e2, bl_mk]
  have z1 : (⟨#[46]⟩ : ByteArray).size = 1 := rfl
  have z2 : (⟨#[46, 48]⟩ : ByteArray).size = 2 := rfl
  clear e1 e2
  by_cases hlt : n % 100 < 10
  · have HH := Lib.hid (hund_small hlt)
    have d1 : decide ((n : Int) % 100 < 10) = true := decide_eq_true (by omega)
    clear hlt
    go_enter Tryd.func35, Tryd.ntmps35
    go_wp2_with fail
    refine (N1.out _ ht).mono ?_
    rintro en w1 ⟨rfl, hb1⟩
    go_wp2_with fail
    refine (N2.out _ (ht.then hb1)).mono ?_
    rintro en w2 ⟨rfl, hb2⟩
    go_wp2_with fail
    have key : (t1 ++ ⟨#[46, 48]⟩ ++ t2 : ByteArray) = ⟨(hundT n).toArray⟩ := bl_ext (by simp only [bl_app, HH.out, HE1.out, HE2.out, List.append_assoc]; rfl)
    go_ret
    exact ⟨by rw [← key]; rfl, bthen hb1 hb2⟩
  · have HH := Lib.hid (hund_big hlt)
    have d1 : decide ((n : Int) % 100 < 10) = false := decide_eq_false (by omega)
    clear hlt
    go_enter Tryd.func35, Tryd.ntmps35
    go_wp2_with fail
    refine (N1.out _ ht).mono ?_
    rintro en w1 ⟨rfl, hb1⟩
    go_wp2_with fail
    refine (N2.out _ (ht.then hb1)).mono ?_
    rintro en w2 ⟨rfl, hb2⟩
    go_wp2_with fail
    have key : (t1 ++ ⟨#[46]⟩ ++ t2 : ByteArray) = ⟨(hundT n).toArray⟩ := bl_ext (by simp only [bl_app, HH.out, HE1.out, HE2.out, List.append_assoc]; rfl)
    go_ret
    exact ⟨by rw [← key]; rfl, bthen hb1 hb2⟩
end Go.Proofs.YtpjfidmapnnbkaaDoor
