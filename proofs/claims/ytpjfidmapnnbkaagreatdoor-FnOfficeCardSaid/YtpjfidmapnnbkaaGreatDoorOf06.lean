/- Of06: the texts ReadN ParseInt Split SplitL CutP OffPI, joined into one file. -/
import Derived.Deep.DeepCutAuto
import Derived.Lib.AtoiErrMem
import Derived.Test.YtpjfidmapnnbkaaGreatDoorProg
import Derived.Lib.Split
import Derived.Lib.CountLaws
import Derived.Test.YtpjfidmapnnbkaaGreatDoorOf02
import Derived.Test.YtpjfidmapnnbkaaGreatDoorOf03
import Derived.Test.YtpjfidmapnnbkaaGreatDoorOf04
import Derived.Test.YtpjfidmapnnbkaaGreatDoorOf05

set_option linter.unusedVariables false

/- Numbers of texts: the reference's l1Read, the program's ParseInt. (Printed by gen_read.py) -/
namespace Go.Proofs.YtpjfidmapnnbkaaGreatDoor
open Go.RowKit

theorem str_beqL (a b : ByteArray) : (a.toList == b.toList) = decide (bl a = bl b) := by
  rw [ByteArray.toList_eq a, ByteArray.toList_eq b, Bool.eq_iff_iff]; simp [bl]
/-- t are the digits of s. -/
def TOf (s t : List UInt8) (neg : Bool) : Prop := (neg = true ∧ s = 45 :: t ∧ 1 ≤ t.length) ∨ (neg = false ∧ s = t ∧ (s.head? ≠ some 45 ∨ s.length ≤ 1))
theorem tof_num {s t : List UInt8} {neg : Bool} (h : TOf s t neg) {n : Int} (hq : numF s = some n) : 1 ≤ t.length ∧ t.length ≤ 6 ∧ Lib.decFrom 0 t = some n.natAbs ∧ n = (if neg = true then -(n.natAbs : Int) else (n.natAbs : Int)) := by
  obtain ⟨h6, e⟩ := numF_is hq
  rcases num_read h6 e with ⟨h1, t', h2, h3, h4, h5⟩ | ⟨h1, h2, h3, h4, h5⟩
  · rcases h with ⟨rfl, h7, h8⟩ | ⟨rfl, h7, h8⟩
    · rw [h2] at h7; injection h7 with _ h7; subst h7
      exact ⟨h3, h4, h5, by simp; omega⟩
    · exfalso
      rcases h8 with h8 | h8
      · rw [h2] at h8; exact h8 rfl
      · rw [h2] at h8; simp only [List.length_cons] at h8; omega
  · rcases h with ⟨rfl, h7, h8⟩ | ⟨rfl, h7, h8⟩
    · exfalso; rw [h7] at h2; exact h2 rfl
    · subst h7; exact ⟨h3, h4, h5, by simp; omega⟩

set_option maxRecDepth 100000 in
set_option maxHeartbeats 4000000 in
set_option linter.unusedVariables false in
theorem l1Read_any (s : ByteArray) (w : World) (hs : s.size ≤ 1000000000) :
    Calls Tryz.prog 39 #[.string s] w (GivesNum s w) := by
  by_cases hsz : 1 < s.size
  · have hi : (1 : Int) < (s.size : Int) := by omega
    by_cases h45 : s[0].toNat = 45
    · have hT : TOf (bl s) (bl (s.extract 1 s.size)) true := by
        refine .inl ⟨rfl, ?_, ?_⟩
        · have h1 := bl_drop (s := s) (k := 0) (by omega)
          rw [bl_extract, List.take_of_length_le (by rw [bl_size]; exact Nat.le_refl _)]
          have h2 : s[0] = 45 := UInt8.toNat_inj.1 h45
          rw [List.drop_zero, h2] at h1; exact h1
        · rw [bl_extract, List.length_drop, List.length_take, bl_size]; omega
      obtain ⟨t, ht⟩ : ∃ t, s.extract 1 s.size = t := ⟨_, rfl⟩
      have hts : t.size + 1 = s.size := by rw [← ht, ← bl_size, bl_extract, List.length_drop, List.length_take, bl_size]; omega
      rw [ht] at hT
      have hq : ((s[0].toNat : Int) == 45) = true := by simp; omega
      have HT45 := Lib.hid h45
      clear h45
      go_enter Tryz.func39, Tryz.ntmps39
      go_upto_region 4 with fail
      clear ht
      by_cases hlen : 1 ≤ t.size ∧ t.size ≤ 6
      · obtain ⟨hl1, hl6⟩ := hlen
        have HT := Lib.hid hT
        clear hT
        have i1 : (1 : Int) ≤ (t.size : Int) := by omega
        have i6 : (t.size : Int) ≤ 6 := by omega
        have hin : inR (t.size : Int) 1 6 = true := inr_iff.2 ⟨i1, i6⟩
        go_wp2_with fail
        refine (l1In_any _ _ _ _).mono ?_
        rintro e w' ⟨rfl, rfl⟩
        rw [hin]
        clear hin
        go_wp2_with fail
        go_loopw [5, 6] (fun m i wr => ∃ (k acc : Nat), k ≤ t.size ∧ i = .int .i64 k ∧ m = .int .i64 acc ∧ acc < 1000000 ∧ w = wr ∧ Hid (Lib.decFrom 0 ((bl t).take k) = some acc)) (fun _ i _ => t.size - (intOf i).toNat)
        case atStart => exact ⟨0, 0, Nat.zero_le _, rfl, rfl, by omega, rfl, by simp [Lib.decFrom, Hid]⟩
        case round =>
          obtain ⟨k, acc, hk, rfl, rfl, hacc, rfl, HD⟩ := hrel
          by_cases hlt : k < t.size
          · by_cases hd : 48 ≤ t[k].toNat ∧ t[k].toNat ≤ 57
            · obtain ⟨hd1, hd2⟩ := hd
              have HST : Hid (Lib.decFrom 0 ((bl t).take (k + 1)) = some (acc * 10 + (t[k].toNat - 48))) :=
                Lib.decFrom_take (bl t) k 0 acc t[k] (t[k].toNat - 48) HD.out (List.getElem?_eq_getElem (l := bl t) hlt) (by unfold Lib.digitVal; rw [if_pos ⟨hd1, hd2⟩])
              have hacc2 : acc * 10 + (t[k].toNat - 48) < 1000000 := by
                have h1 := Lib.decFrom_lt _ _ _ HST.out
                have h2 : ((bl t).take (k + 1)).length ≤ 6 := by rw [List.length_take]; omega
                have h3 := Nat.pow_le_pow_right (show 0 < 10 by omega) h2
                omega
              have j1 : (48 : Int) ≤ (t[k].toNat : Int) := by omega
              have j2 : (t[k].toNat : Int) ≤ 57 := by omega
              have j3 : IntKind.u8.wrap ((t[k].toNat : Int) - 48) = (t[k].toNat : Int) - 48 := IntWalk.u8_in _ (by omega)
              have j4 : IntKind.i64.wrap ((t[k].toNat : Int) - 48) = (t[k].toNat : Int) - 48 := IntWalk.i64_in _ (by omega)
              have j5 : IntKind.i64.wrap (10 * (acc : Int)) = 10 * (acc : Int) := IntWalk.i64_in _ (by omega)
              have j6 : IntKind.i64.wrap (10 * (acc : Int) + ((t[k].toNat : Int) - 48)) = 10 * (acc : Int) + ((t[k].toNat : Int) - 48) := IntWalk.i64_in _ (by omega)
              clear HD hacc
              go_wp2_with fail
              go_roundw
              case rel => exact ⟨k + 1, acc * 10 + (t[k].toNat - 48), by omega, by go_num, by go_num, hacc2, by first | trivial | rfl, HST⟩
              case measure => simp [intOf] <;> omega
            · have HZ : Hid (numF (bl s) = none) := by
                cases hq : numF (bl s) with
                | none => rfl
                | some n =>
                  exfalso
                  obtain ⟨_, _, h3, _⟩ := tof_num HT.out hq
                  obtain ⟨d, hdd⟩ := Lib.digit_of_decFrom _ _ _ h3 k t[k] (List.getElem?_eq_getElem (l := bl t) hlt)
                  have := Lib.digitVal_eq hdd
                  omega
              by_cases h48 : t[k].toNat < 48
              · have j1 : (t[k].toNat : Int) < 48 := by omega
                clear hd
                go_wp2_with fail
                go_ret2
                exact ⟨by rw [HZ.out]; rfl, Below.refl _ _⟩
              · have j1 : ¬ (t[k].toNat : Int) < 48 := by omega
                have j2 : (57 : Int) < (t[k].toNat : Int) := by omega
                clear hd h48
                go_wp2_with fail
                go_ret2
                exact ⟨by rw [HZ.out]; rfl, Below.refl _ _⟩
          · obtain rfl : k = t.size := by omega
            have HF : Hid (Lib.decFrom 0 (bl t) = some acc) := by
              have h1 := HD.out
              rw [List.take_of_length_le (by rw [bl_size]; exact Nat.le_refl _)] at h1; exact h1
            clear hlt HD
            have HNUM : Hid (∀ W : World, Calls Tryz.prog 51 #[.int .i64 (-(acc : Int))] W fun e w' => e = .returned (.string ⟨(Lib.itoa (-(acc : Int))).toArray⟩) ∧ Below W.heap.size W w') := fun W => l1Num_all (-(acc : Int)) W (by omega) (by omega)
            obtain ⟨nt, hnt⟩ : ∃ x : ByteArray, x = ⟨(Lib.itoa (-(acc : Int))).toArray⟩ := ⟨_, rfl⟩
            have hbn : bl nt = Lib.itoa (-(acc : Int)) := by rw [hnt, bl_mk]
            rw [← hnt] at HNUM
            clear hnt
            have j7 : IntKind.i64.wrap (-(acc : Int)) = -(acc : Int) := IntWalk.i64_in _ (by omega)
            have j8 : (t.size : Int) < (s.size : Int) := by omega
            by_cases hs : Lib.itoa (-(acc : Int)) = bl s
            · have HZ : Hid (numF (bl s) = some (-(acc : Int))) := numF_eq ⟨by omega, by omega⟩ hs
              have hb : (nt.toList == s.toList) = true := by rw [str_beqL, hbn, hs]; simp
              clear hs hbn
              go_wp2_with fail
              refine (HNUM.out _).mono ?_
              rintro e w1 ⟨rfl, hb1⟩
              go_wp2_with fail
              go_ret2
              exact ⟨by rw [HZ.out]; rfl, hb1⟩
            · have HZ : Hid (numF (bl s) = none) := by
                cases hq : numF (bl s) with
                | none => rfl
                | some n =>
                  exfalso
                  obtain ⟨_, _, h3, h4⟩ := tof_num HT.out hq
                  rw [HF.out] at h3
                  injection h3 with h3
                  have h5 : n = -(acc : Int) := by rw [h4]; simp; omega
                  rw [← h5] at hs
                  exact hs (numF_is hq).2
              have hb : (nt.toList == s.toList) = false := by rw [str_beqL, hbn]; simp [hs]
              clear hs hbn
              go_wp2_with fail
              refine (HNUM.out _).mono ?_
              rintro e w1 ⟨rfl, hb1⟩
              go_wp2_with fail
              go_ret2
              exact ⟨by rw [HZ.out]; rfl, hb1⟩
      · have HZ : Hid (numF (bl s) = none) := by
          cases hq : numF (bl s) with
          | none => rfl
          | some n =>
            exfalso
            obtain ⟨h1, h2, _⟩ := tof_num hT hq
            rw [bl_size] at h1 h2
            exact hlen ⟨h1, h2⟩
        have hin : inR (t.size : Int) 1 6 = false := by
          rw [← Bool.not_eq_true, inr_iff]; omega
        clear hlen
        go_wp2_with fail
        refine (l1In_any _ _ _ _).mono ?_
        rintro e w' ⟨rfl, rfl⟩
        rw [hin]
        clear hin
        go_wp2_with fail
        go_ret2
        exact ⟨by rw [HZ.out]; rfl, Below.refl _ _⟩
    · have hT : TOf (bl s) (bl s) false := by
        refine .inr ⟨rfl, rfl, .inl fun h => h45 ?_⟩
        have h1 := bl_drop (s := s) (k := 0) (by omega)
        rw [List.drop_zero] at h1
        rw [h1] at h
        simp only [List.head?_cons, Option.some.injEq] at h
        rw [h]; rfl
      have hq : ((s[0].toNat : Int) == 45) = false := by rw [beq_eq_false_iff_ne]; omega
      clear h45
      go_enter Tryz.func39, Tryz.ntmps39
      go_upto_region 4 with fail
      by_cases hlen : 1 ≤ s.size ∧ s.size ≤ 6
      · obtain ⟨hl1, hl6⟩ := hlen
        have HT := Lib.hid hT
        clear hT
        have i1 : (1 : Int) ≤ (s.size : Int) := by omega
        have i6 : (s.size : Int) ≤ 6 := by omega
        have hin : inR (s.size : Int) 1 6 = true := inr_iff.2 ⟨i1, i6⟩
        go_wp2_with fail
        refine (l1In_any _ _ _ _).mono ?_
        rintro e w' ⟨rfl, rfl⟩
        rw [hin]
        clear hin
        go_wp2_with fail
        go_loopw [5, 6] (fun m i wr => ∃ (k acc : Nat), k ≤ s.size ∧ i = .int .i64 k ∧ m = .int .i64 acc ∧ acc < 1000000 ∧ w = wr ∧ Hid (Lib.decFrom 0 ((bl s).take k) = some acc)) (fun _ i _ => s.size - (intOf i).toNat)
        case atStart => exact ⟨0, 0, Nat.zero_le _, rfl, rfl, by omega, rfl, by simp [Lib.decFrom, Hid]⟩
        case round =>
          obtain ⟨k, acc, hk, rfl, rfl, hacc, rfl, HD⟩ := hrel
          by_cases hlt : k < s.size
          · by_cases hd : 48 ≤ s[k].toNat ∧ s[k].toNat ≤ 57
            · obtain ⟨hd1, hd2⟩ := hd
              have HST : Hid (Lib.decFrom 0 ((bl s).take (k + 1)) = some (acc * 10 + (s[k].toNat - 48))) :=
                Lib.decFrom_take (bl s) k 0 acc s[k] (s[k].toNat - 48) HD.out (List.getElem?_eq_getElem (l := bl s) hlt) (by unfold Lib.digitVal; rw [if_pos ⟨hd1, hd2⟩])
              have hacc2 : acc * 10 + (s[k].toNat - 48) < 1000000 := by
                have h1 := Lib.decFrom_lt _ _ _ HST.out
                have h2 : ((bl s).take (k + 1)).length ≤ 6 := by rw [List.length_take]; omega
                have h3 := Nat.pow_le_pow_right (show 0 < 10 by omega) h2
                omega
              have j1 : (48 : Int) ≤ (s[k].toNat : Int) := by omega
              have j2 : (s[k].toNat : Int) ≤ 57 := by omega
              have j3 : IntKind.u8.wrap ((s[k].toNat : Int) - 48) = (s[k].toNat : Int) - 48 := IntWalk.u8_in _ (by omega)
              have j4 : IntKind.i64.wrap ((s[k].toNat : Int) - 48) = (s[k].toNat : Int) - 48 := IntWalk.i64_in _ (by omega)
              have j5 : IntKind.i64.wrap (10 * (acc : Int)) = 10 * (acc : Int) := IntWalk.i64_in _ (by omega)
              have j6 : IntKind.i64.wrap (10 * (acc : Int) + ((s[k].toNat : Int) - 48)) = 10 * (acc : Int) + ((s[k].toNat : Int) - 48) := IntWalk.i64_in _ (by omega)
              clear HD hacc
              go_wp2_with fail
              go_roundw
              case rel => exact ⟨k + 1, acc * 10 + (s[k].toNat - 48), by omega, by go_num, by go_num, hacc2, by first | trivial | rfl, HST⟩
              case measure => simp [intOf] <;> omega
            · have HZ : Hid (numF (bl s) = none) := by
                cases hq : numF (bl s) with
                | none => rfl
                | some n =>
                  exfalso
                  obtain ⟨_, _, h3, _⟩ := tof_num HT.out hq
                  obtain ⟨d, hdd⟩ := Lib.digit_of_decFrom _ _ _ h3 k s[k] (List.getElem?_eq_getElem (l := bl s) hlt)
                  have := Lib.digitVal_eq hdd
                  omega
              by_cases h48 : s[k].toNat < 48
              · have j1 : (s[k].toNat : Int) < 48 := by omega
                clear hd
                go_wp2_with fail
                go_ret2
                exact ⟨by rw [HZ.out]; rfl, Below.refl _ _⟩
              · have j1 : ¬ (s[k].toNat : Int) < 48 := by omega
                have j2 : (57 : Int) < (s[k].toNat : Int) := by omega
                clear hd h48
                go_wp2_with fail
                go_ret2
                exact ⟨by rw [HZ.out]; rfl, Below.refl _ _⟩
          · obtain rfl : k = s.size := by omega
            have HF : Hid (Lib.decFrom 0 (bl s) = some acc) := by
              have h1 := HD.out
              rw [List.take_of_length_le (by rw [bl_size]; exact Nat.le_refl _)] at h1; exact h1
            clear hlt HD
            have HNUM : Hid (∀ W : World, Calls Tryz.prog 51 #[.int .i64 ((acc : Int))] W fun e w' => e = .returned (.string ⟨(Lib.itoa ((acc : Int))).toArray⟩) ∧ Below W.heap.size W w') := fun W => l1Num_all ((acc : Int)) W (by omega) (by omega)
            obtain ⟨nt, hnt⟩ : ∃ x : ByteArray, x = ⟨(Lib.itoa ((acc : Int))).toArray⟩ := ⟨_, rfl⟩
            have hbn : bl nt = Lib.itoa ((acc : Int)) := by rw [hnt, bl_mk]
            rw [← hnt] at HNUM
            clear hnt
            have j7 : IntKind.i64.wrap (-(acc : Int)) = -(acc : Int) := IntWalk.i64_in _ (by omega)
            have j8 : True := trivial
            by_cases hs : Lib.itoa ((acc : Int)) = bl s
            · have HZ : Hid (numF (bl s) = some ((acc : Int))) := numF_eq ⟨by omega, by omega⟩ hs
              have hb : (nt.toList == s.toList) = true := by rw [str_beqL, hbn, hs]; simp
              clear hs hbn
              go_wp2_with fail
              refine (HNUM.out _).mono ?_
              rintro e w1 ⟨rfl, hb1⟩
              go_wp2_with fail
              go_ret2
              exact ⟨by rw [HZ.out]; rfl, hb1⟩
            · have HZ : Hid (numF (bl s) = none) := by
                cases hq : numF (bl s) with
                | none => rfl
                | some n =>
                  exfalso
                  obtain ⟨_, _, h3, h4⟩ := tof_num HT.out hq
                  rw [HF.out] at h3
                  injection h3 with h3
                  have h5 : n = (acc : Int) := by rw [h4]; simp; omega
                  rw [← h5] at hs
                  exact hs (numF_is hq).2
              have hb : (nt.toList == s.toList) = false := by rw [str_beqL, hbn]; simp [hs]
              clear hs hbn
              go_wp2_with fail
              refine (HNUM.out _).mono ?_
              rintro e w1 ⟨rfl, hb1⟩
              go_wp2_with fail
              go_ret2
              exact ⟨by rw [HZ.out]; rfl, hb1⟩
      · have HZ : Hid (numF (bl s) = none) := by
          cases hq : numF (bl s) with
          | none => rfl
          | some n =>
            exfalso
            obtain ⟨h1, h2, _⟩ := tof_num hT hq
            rw [bl_size] at h1 h2
            exact hlen ⟨h1, h2⟩
        have hin : inR (s.size : Int) 1 6 = false := by
          rw [← Bool.not_eq_true, inr_iff]; omega
        clear hlen
        go_wp2_with fail
        refine (l1In_any _ _ _ _).mono ?_
        rintro e w' ⟨rfl, rfl⟩
        rw [hin]
        clear hin
        go_wp2_with fail
        go_ret2
        exact ⟨by rw [HZ.out]; rfl, Below.refl _ _⟩
  · have hi : ¬ (1 : Int) < (s.size : Int) := by omega
    have hT : TOf (bl s) (bl s) false := .inr ⟨rfl, rfl, .inr (by rw [bl_size]; omega)⟩
    go_enter Tryz.func39, Tryz.ntmps39
    go_upto_region 4 with fail
    by_cases hlen : 1 ≤ s.size ∧ s.size ≤ 6
    · obtain ⟨hl1, hl6⟩ := hlen
      have HT := Lib.hid hT
      clear hT
      have i1 : (1 : Int) ≤ (s.size : Int) := by omega
      have i6 : (s.size : Int) ≤ 6 := by omega
      have hin : inR (s.size : Int) 1 6 = true := inr_iff.2 ⟨i1, i6⟩
      go_wp2_with fail
      refine (l1In_any _ _ _ _).mono ?_
      rintro e w' ⟨rfl, rfl⟩
      rw [hin]
      clear hin
      go_wp2_with fail
      go_loopw [5, 6] (fun m i wr => ∃ (k acc : Nat), k ≤ s.size ∧ i = .int .i64 k ∧ m = .int .i64 acc ∧ acc < 1000000 ∧ w = wr ∧ Hid (Lib.decFrom 0 ((bl s).take k) = some acc)) (fun _ i _ => s.size - (intOf i).toNat)
      case atStart => exact ⟨0, 0, Nat.zero_le _, rfl, rfl, by omega, rfl, by simp [Lib.decFrom, Hid]⟩
      case round =>
        obtain ⟨k, acc, hk, rfl, rfl, hacc, rfl, HD⟩ := hrel
        by_cases hlt : k < s.size
        · by_cases hd : 48 ≤ s[k].toNat ∧ s[k].toNat ≤ 57
          · obtain ⟨hd1, hd2⟩ := hd
            have HST : Hid (Lib.decFrom 0 ((bl s).take (k + 1)) = some (acc * 10 + (s[k].toNat - 48))) :=
              Lib.decFrom_take (bl s) k 0 acc s[k] (s[k].toNat - 48) HD.out (List.getElem?_eq_getElem (l := bl s) hlt) (by unfold Lib.digitVal; rw [if_pos ⟨hd1, hd2⟩])
            have hacc2 : acc * 10 + (s[k].toNat - 48) < 1000000 := by
              have h1 := Lib.decFrom_lt _ _ _ HST.out
              have h2 : ((bl s).take (k + 1)).length ≤ 6 := by rw [List.length_take]; omega
              have h3 := Nat.pow_le_pow_right (show 0 < 10 by omega) h2
              omega
            have j1 : (48 : Int) ≤ (s[k].toNat : Int) := by omega
            have j2 : (s[k].toNat : Int) ≤ 57 := by omega
            have j3 : IntKind.u8.wrap ((s[k].toNat : Int) - 48) = (s[k].toNat : Int) - 48 := IntWalk.u8_in _ (by omega)
            have j4 : IntKind.i64.wrap ((s[k].toNat : Int) - 48) = (s[k].toNat : Int) - 48 := IntWalk.i64_in _ (by omega)
            have j5 : IntKind.i64.wrap (10 * (acc : Int)) = 10 * (acc : Int) := IntWalk.i64_in _ (by omega)
            have j6 : IntKind.i64.wrap (10 * (acc : Int) + ((s[k].toNat : Int) - 48)) = 10 * (acc : Int) + ((s[k].toNat : Int) - 48) := IntWalk.i64_in _ (by omega)
            clear HD hacc
            go_wp2_with fail
            go_roundw
            case rel => exact ⟨k + 1, acc * 10 + (s[k].toNat - 48), by omega, by go_num, by go_num, hacc2, by first | trivial | rfl, HST⟩
            case measure => simp [intOf] <;> omega
          · have HZ : Hid (numF (bl s) = none) := by
              cases hq : numF (bl s) with
              | none => rfl
              | some n =>
                exfalso
                obtain ⟨_, _, h3, _⟩ := tof_num HT.out hq
                obtain ⟨d, hdd⟩ := Lib.digit_of_decFrom _ _ _ h3 k s[k] (List.getElem?_eq_getElem (l := bl s) hlt)
                have := Lib.digitVal_eq hdd
                omega
            by_cases h48 : s[k].toNat < 48
            · have j1 : (s[k].toNat : Int) < 48 := by omega
              clear hd
              go_wp2_with fail
              go_ret2
              exact ⟨by rw [HZ.out]; rfl, Below.refl _ _⟩
            · have j1 : ¬ (s[k].toNat : Int) < 48 := by omega
              have j2 : (57 : Int) < (s[k].toNat : Int) := by omega
              clear hd h48
              go_wp2_with fail
              go_ret2
              exact ⟨by rw [HZ.out]; rfl, Below.refl _ _⟩
        · obtain rfl : k = s.size := by omega
          have HF : Hid (Lib.decFrom 0 (bl s) = some acc) := by
            have h1 := HD.out
            rw [List.take_of_length_le (by rw [bl_size]; exact Nat.le_refl _)] at h1; exact h1
          clear hlt HD
          have HNUM : Hid (∀ W : World, Calls Tryz.prog 51 #[.int .i64 ((acc : Int))] W fun e w' => e = .returned (.string ⟨(Lib.itoa ((acc : Int))).toArray⟩) ∧ Below W.heap.size W w') := fun W => l1Num_all ((acc : Int)) W (by omega) (by omega)
          obtain ⟨nt, hnt⟩ : ∃ x : ByteArray, x = ⟨(Lib.itoa ((acc : Int))).toArray⟩ := ⟨_, rfl⟩
          have hbn : bl nt = Lib.itoa ((acc : Int)) := by rw [hnt, bl_mk]
          rw [← hnt] at HNUM
          clear hnt
          have j7 : IntKind.i64.wrap (-(acc : Int)) = -(acc : Int) := IntWalk.i64_in _ (by omega)
          have j8 : True := trivial
          by_cases hs : Lib.itoa ((acc : Int)) = bl s
          · have HZ : Hid (numF (bl s) = some ((acc : Int))) := numF_eq ⟨by omega, by omega⟩ hs
            have hb : (nt.toList == s.toList) = true := by rw [str_beqL, hbn, hs]; simp
            clear hs hbn
            go_wp2_with fail
            refine (HNUM.out _).mono ?_
            rintro e w1 ⟨rfl, hb1⟩
            go_wp2_with fail
            go_ret2
            exact ⟨by rw [HZ.out]; rfl, hb1⟩
          · have HZ : Hid (numF (bl s) = none) := by
              cases hq : numF (bl s) with
              | none => rfl
              | some n =>
                exfalso
                obtain ⟨_, _, h3, h4⟩ := tof_num HT.out hq
                rw [HF.out] at h3
                injection h3 with h3
                have h5 : n = (acc : Int) := by rw [h4]; simp; omega
                rw [← h5] at hs
                exact hs (numF_is hq).2
            have hb : (nt.toList == s.toList) = false := by rw [str_beqL, hbn]; simp [hs]
            clear hs hbn
            go_wp2_with fail
            refine (HNUM.out _).mono ?_
            rintro e w1 ⟨rfl, hb1⟩
            go_wp2_with fail
            go_ret2
            exact ⟨by rw [HZ.out]; rfl, hb1⟩
    · have HZ : Hid (numF (bl s) = none) := by
        cases hq : numF (bl s) with
        | none => rfl
        | some n =>
          exfalso
          obtain ⟨h1, h2, _⟩ := tof_num hT hq
          rw [bl_size] at h1 h2
          exact hlen ⟨h1, h2⟩
      have hin : inR (s.size : Int) 1 6 = false := by
        rw [← Bool.not_eq_true, inr_iff]; omega
      clear hlen
      go_wp2_with fail
      refine (l1In_any _ _ _ _).mono ?_
      rintro e w' ⟨rfl, rfl⟩
      rw [hin]
      clear hin
      go_wp2_with fail
      go_ret2
      exact ⟨by rw [HZ.out]; rfl, Below.refl _ _⟩
end Go.Proofs.YtpjfidmapnnbkaaGreatDoor

/- Numbers of texts: the program's ParseInt. -/
namespace Go.Proofs.YtpjfidmapnnbkaaGreatDoor
open Go.RowKit

theorem num_atoi {s : List UInt8} {n : Int} (h : numF s = some n) : Lib.atoiAll s = .ok n := by
  obtain ⟨h1, h2⟩ := numF_is h
  rw [← h2]; exact atoiAll_six h1

set_option maxHeartbeats 2000000 in
set_option linter.unusedVariables false in
theorem parseInt_any (s : ByteArray) (w : World) (hs : s.size ≤ 1000000000) (hL : LW w) :
    Calls Tryz.prog 28 #[.string s] w (GivesNum s w) := by
  rcases ha : Lib.atoiAll s.data.toList with v | _ | _
  · skip
    obtain ⟨v0, v1⟩ := Lib.atoiAll_bounds ha
    have HA := Lib.hid (Tryz.strconv_Atoi_ok s (by omega) v ha w)
    have hv : ∀ n, numF (bl s) = some n → n = v := fun n hn => by
      have h1 := num_atoi hn
      have h2 : Lib.atoiAll (bl s) = .ok v := ha
      rw [h2] at h1; injection h1 with h1; exact h1.symm
    by_cases hr : inR v (-999999) 999999 = true
    · have hr2 := inr_iff.1 hr
      have HI : Hid (∀ W, Tab W → Calls Tryz.prog 49 #[.int .i64 v] W fun e w' => e = .returned (.string ⟨(Lib.itoa v).toArray⟩) ∧ Below W.heap.size W w') := fun W hW => itoa_any v W v0 v1 hW
      obtain ⟨nt, hnt⟩ : ∃ x : ByteArray, x = ⟨(Lib.itoa v).toArray⟩ := ⟨_, rfl⟩
      have hbn : bl nt = Lib.itoa v := by rw [hnt, bl_mk]
      rw [← hnt] at HI
      clear hnt
      have HZ : Hid ((nt.toList == s.toList) = (numF (bl s)).isSome ∧ ((nt.toList == s.toList) = true → numF (bl s) = some v) ∧ ((nt.toList == s.toList) = false → numF (bl s) = none)) := by
        rw [str_beqL, hbn]
        by_cases hq : Lib.itoa v = bl s
        · have h1 := numF_eq (n := v) ⟨by omega, by omega⟩ hq
          rw [h1]; simp [hq, Hid]
        · have h1 : numF (bl s) = none := by
            cases hq2 : numF (bl s) with
            | none => rfl
            | some n => exfalso; have h2 := hv n hq2; subst h2; exact hq (numF_is hq2).2
          rw [h1]; simp [hq, Hid]
      clear hbn hv
      obtain ⟨bb, hbb⟩ : ∃ b : Bool, (nt.toList == s.toList) = b := ⟨_, rfl⟩
      rw [hbb] at HZ
      have fin : ∀ w2, Below w.heap.size w w2 → Hid (LW w2) := fun w2 h2 => hL.then h2
      go_enter Tryz.func28, Tryz.ntmps28
      go_wp2_with fail
      refine HA.out.mono ?_
      rintro e w1 ⟨rfl, hw1⟩
      have hb1 : Below w.heap.size w w1 := by
        rcases hw1 with rfl | ⟨t, rfl⟩
        · exact Below.refl _ _
        · exact Lib.bytesWorld_below _ _ _
      have HL1 := fin w1 hb1
      clear hw1 fin
      go_wp2_with fail
      refine (inRange_any _ _ _ _).mono ?_
      rintro e w' ⟨rfl, rfl⟩
      rw [hr]
      go_wp2_with fail
      refine (HI.out _ HL1.out.tab).mono ?_
      rintro e w2 ⟨rfl, hb2⟩
      have HB := Lib.hid (bthen hb1 hb2)
      clear hb1 hb2 HL1
      cases bb
      · go_wp2_with fail
        go_ret2
        exact ⟨by rw [HZ.out.2.2 (by first | trivial | rfl)]; rfl, HB.out⟩
      · go_wp2_with fail
        go_ret2
        exact ⟨by rw [HZ.out.2.1 (by first | trivial | rfl)]; rfl, HB.out⟩
    · have HZ : Hid (numF (bl s) = none) := by
        cases hq : numF (bl s) with
        | none => rfl
        | some n =>
          exfalso
          have h2 := hv n hq; subst h2
          obtain ⟨h3, _⟩ := numF_is hq
          exact hr (inr_iff.2 ⟨h3.1, h3.2⟩)
      have hr' : inR v (-999999) 999999 = false := by simpa using hr
      clear hv hr
      go_enter Tryz.func28, Tryz.ntmps28
      go_wp2_with fail
      refine HA.out.mono ?_
      rintro e w1 ⟨rfl, hw1⟩
      have hb1 : Below w.heap.size w w1 := by
        rcases hw1 with rfl | ⟨t, rfl⟩
        · exact Below.refl _ _
        · exact Lib.bytesWorld_below _ _ _
      clear hw1
      go_wp2_with fail
      refine (inRange_any _ _ _ _).mono ?_
      rintro e w' ⟨rfl, rfl⟩
      rw [hr']
      go_wp2_with fail
      go_ret2
      exact ⟨by rw [HZ.out]; rfl, hb1⟩
  · skip
    have HZ : Hid (numF (bl s) = none) := by
      cases hq : numF (bl s) with
      | none => rfl
      | some n => exfalso; have h1 := num_atoi hq; rw [show Lib.atoiAll (bl s) = _ from ha] at h1; cases h1
    obtain ⟨ev, he1, he2⟩ := hL.syn
    have HA := Lib.hid (Tryz.strconv_Atoi_syntax s (by omega) ha ev w he1 he2)
    clear he1 he2
    go_enter Tryz.func28, Tryz.ntmps28
    go_wp2_with fail
    refine HA.out.mono ?_
    rintro e w1 ⟨N, rfl, _, _, hb1⟩
    go_wp2_with fail
    go_ret2
    exact ⟨by rw [HZ.out]; rfl, hb1⟩
  · skip
    have HZ : Hid (numF (bl s) = none) := by
      cases hq : numF (bl s) with
      | none => rfl
      | some n => exfalso; have h1 := num_atoi hq; rw [show Lib.atoiAll (bl s) = _ from ha] at h1; cases h1
    obtain ⟨ev, he1, he2⟩ := hL.rng
    have HA := Lib.hid (Tryz.strconv_Atoi_range s (by omega) ha ev w he1 he2)
    clear he1 he2
    go_enter Tryz.func28, Tryz.ntmps28
    go_wp2_with fail
    refine HA.out.mono ?_
    rintro e w1 ⟨N, rfl, _, _, hb1⟩
    go_wp2_with fail
    go_ret2
    exact ⟨by rw [HZ.out]; rfl, hb1⟩
end Go.Proofs.YtpjfidmapnnbkaaGreatDoor

/- The parts of a text between bytes, in the reference (l1Split). -/
namespace Go.Proofs.YtpjfidmapnnbkaaGreatDoor
open Go.RowKit

def texts (ps : List (List UInt8)) : List Value := ps.map fun p => Value.string ⟨p.toArray⟩
theorem texts_len (ps : List (List UInt8)) : (texts ps).length = ps.length * 1 := by simp [texts]
theorem infoText : (Tryz.prog.info? 9).map (fun i => (i.zero, i.size, i.bytes)) = some (some (.string ⟨#[]⟩), 1, 16) := by kernel_rfl
theorem parts_step {s : ByteArray} {f i : Nat} {b : UInt8} (hfi : f ≤ i) (hi : i < s.size) :
    partsL b (((bl s).take i).drop f) ((bl s).drop i) = if s[i] = b then ((bl s).take i).drop f :: partsL b (((bl s).take (i + 1)).drop (i + 1)) ((bl s).drop (i + 1)) else partsL b (((bl s).take (i + 1)).drop f) ((bl s).drop (i + 1)) := by
  rw [bl_drop hi, partsL]
  have e1 : ((bl s).take (i + 1)).drop (i + 1) = [] := List.drop_eq_nil_of_le (by rw [List.length_take]; omega)
  have e2 : ((bl s).take (i + 1)).drop f = ((bl s).take i).drop f ++ [s[i]] := by
    rw [bl_take hi, List.drop_append_of_le_length (by rw [List.length_take, bl_size]; omega)]
  rw [e1, e2]

set_option maxRecDepth 100000 in
set_option maxHeartbeats 4000000 in
theorem l1Split_any (s : ByteArray) (b : UInt8) (w : World) (hs : s.size ≤ 100000000) :
    Calls Tryz.prog 37 #[.string s, .int .u8 b.toNat] w fun e w' => ∃ A c, e = .returned (.slice A (splitL b (bl s)).length c) ∧ w'.ownsRow w.heap.size 9 1 (.slice A (splitL b (bl s)).length c) (splitL b (bl s)).length (texts (splitL b (bl s))) ∧ Below w.heap.size w w' := by
  have b0 := (Below.refl w.heap.size w).alloc (Nat.le_refl _) (.cells #[] 9)
  have O0 : Hid ((w.alloc (.cells #[] 9)).ownsRow w.heap.size 9 1 (.slice (some ⟨w.heap.size, 0, none⟩) 0 0) 0 (texts [])) := owns_empty (Lies.new w 9 #[]) (Nat.le_refl _)
  have HPL : Hid (∀ l cur : List UInt8, (partsL b cur l).length ≤ l.length + 1) := parts_len b
  go_enter Tryz.func37, Tryz.ntmps37
  go_wp2
  go_loopw [5, 6, 7] (fun o fr i wr => ∃ (f k : Nat) (A : Option Addr) (c : Nat) (ps : List (List UInt8)), f ≤ k ∧ k ≤ s.size ∧ ps.length ≤ k ∧ o = .slice A ps.length c ∧ fr = .int .i64 f ∧ i = .int .i64 k ∧ (∃ q : Since w.heap.size w, wr = q.val) ∧
    Hid (splitL b (bl s) = ps ++ partsL b (((bl s).take k).drop f) ((bl s).drop k)) ∧ Hid (wr.ownsRow w.heap.size 9 1 (.slice A ps.length c) ps.length (texts ps))) (fun _ _ i _ => s.size - (intOf i).toNat)
  case atStart => exact ⟨0, 0, some ⟨w.heap.size, 0, none⟩, 0, [], Nat.le_refl _, Nat.zero_le _, by simp, rfl, rfl, rfl, ⟨⟨_, b0⟩, rfl⟩, rfl, O0⟩
  case round =>
    obtain ⟨f, k, A, c, ps, hfk, hk, hps, rfl, rfl, rfl, ⟨q, rfl⟩, HF, HR⟩ := hrel
    have hqs := q.size
    by_cases hlt : k < s.size
    · have HST := Lib.hid (parts_step (b := b) hfk hlt)
      have hq := @u8_eq s[k] b
      have i1 : (f : Int) ≤ (k : Int) := by omega
      have i2 : (k : Int) ≤ (s.size : Int) := by omega
      by_cases heq : s[k] = b
      · rw [if_pos heq] at HST
        rw [decide_eq_true heq] at hq
        have HB : Hid (bl (s.extract f k) = ((bl s).take k).drop f) := bl_extract _ _ _
        clear heq
        go_wp2_with (at_builtin; refine wpList_push (w0 := q.val) rfl (.tmp 20) (.tmp 25) 46 rfl 9 (.string ⟨#[]⟩) 1 16 Tryz.underlying46 infoText rfl (by omega) (by omega) w.heap.size _ _ _ rfl HR #[.string (s.extract f k)] 1 _ rfl (by first | rfl | simp | exact Array.size_push _) rfl (by simp [Value.oneCell']) (by omega) hqs rfl rfl rfl rfl ?_; intro v5 w5 HO5 hg5 hb5)
        obtain ⟨A5, c5, hv5⟩ := ownsRow_slice HO5.out
        subst hv5
        go_roundw
        case rel =>
          refine ⟨k + 1, k + 1, A5, c5, ps ++ [((bl s).take k).drop f], Nat.le_refl _, by omega, by simp; omega, by simp, by go_num, by go_num, ⟨q.go' hb5, rfl⟩, ?_, ?_⟩
          · have h1 := HF.out; rw [HST.out] at h1; rw [Hid, h1]; simp
          · have h1 := HO5.out; rw [Hid]
            have h2 : texts (ps ++ [((bl s).take k).drop f]) = texts ps ++ [Value.string (s.extract f k)] := by unfold texts; rw [List.map_append, ← HB.out]; simp [← bl_ext rfl]
            rw [h2]; simpa using h1
        case measure => simp [intOf]; omega
      · rw [if_neg heq] at HST
        rw [decide_eq_false heq] at hq
        clear heq
        go_wp2
        go_roundw
        case rel => exact ⟨f, k + 1, A, c, ps, by omega, by omega, by omega, rfl, rfl, by go_num, ⟨q, rfl⟩, by have h1 := HF.out; rw [HST.out] at h1; exact h1, HR⟩
        case measure => simp [intOf]; omega
    · obtain rfl : k = s.size := by omega
      have i1 : (f : Int) ≤ (s.size : Int) := by omega
      have HB : Hid (bl (s.extract f s.size) = ((bl s).take s.size).drop f) := bl_extract _ _ _
      have HF2 : Hid (splitL b (bl s) = ps ++ [((bl s).take s.size).drop f]) := by
        have h1 := HF.out
        have e0 : (bl s).drop s.size = [] := List.drop_eq_nil_of_le (by rw [bl_size]; exact Nat.le_refl _)
        rw [e0] at h1; exact h1
      go_wp2_with (at_builtin; refine wpList_push (w0 := q.val) rfl (.tmp 29) (.tmp 33) 46 rfl 9 (.string ⟨#[]⟩) 1 16 Tryz.underlying46 infoText rfl (by omega) (by omega) w.heap.size _ _ _ rfl HR #[.string (s.extract f s.size)] 1 _ rfl (by first | rfl | simp | exact Array.size_push _) rfl (by simp [Value.oneCell']) (by omega) hqs rfl rfl rfl rfl ?_; intro v5 w5 HO5 hg5 hb5)
      obtain ⟨A5, c5, hv5⟩ := ownsRow_slice HO5.out
      subst hv5
      go_ret
      have h2 : texts (ps ++ [((bl s).take s.size).drop f]) = texts ps ++ [Value.string (s.extract f s.size)] := by unfold texts; rw [List.map_append, ← HB.out]; simp [← bl_ext rfl]
      rw [HF2.out, h2]
      refine ⟨A5, c5, by simp, ?_, (q.go' hb5).below⟩
      have h1 := HO5.out
      simpa using h1
end Go.Proofs.YtpjfidmapnnbkaaGreatDoor

/- The reference's split: its texts lie in a block of the call's own. -/
namespace Go.Proofs.YtpjfidmapnnbkaaGreatDoor
open Go.RowKit

theorem texts_at (ps : List (List UInt8)) (k : Nat) (h : k < ps.length) : (texts ps)[k]? = some (.string ⟨(ps[k]).toArray⟩) := by
  unfold texts; rw [List.getElem?_map, List.getElem?_eq_getElem h]; rfl
theorem texts_at2 (ps : List (List UInt8)) (rest : List Value) (k : Nat) (h : k < ps.length) : (texts ps ++ rest)[k]? = some (.string ⟨(ps[k]).toArray⟩) := by
  rw [List.getElem?_append_left (by rw [texts_len]; omega)]; exact texts_at ps k h
theorem l1Split_lies (s : ByteArray) (b : UInt8) (w : World) (hs : s.size ≤ 100000000) :
    Calls Tryz.prog 37 #[.string s, .int .u8 b.toNat] w fun e w' => ∃ (g c : Nat) (rest : List Value), e = .returned (.slice (some ⟨g, 0, none⟩) (splitL b (bl s)).length c) ∧ Lies w' g 9 (texts (splitL b (bl s)) ++ rest) ∧ w.heap.size ≤ g ∧ Below w.heap.size w w' := by
  refine (l1Split_any s b w hs).mono ?_
  rintro e w' ⟨A, c, rfl, ho, hb⟩
  obtain ⟨_, _, ⟨h1, h2⟩ | ⟨g, rest, hA, hg, hL⟩⟩ := OwnS.of ho
  · exact absurd (List.eq_nil_of_length_eq_zero h2) (parts_ne b _ _)
  · subst hA; exact ⟨g, c, rest, rfl, hL, hg, hb⟩
theorem parts_short {b : UInt8} {s : List UInt8} {n : Nat} (h : s.length ≤ n) : ∀ t ∈ splitL b s, t.length ≤ n := fun t ht => by
  have := parts_mem s [] ht; simp at this; omega
theorem parts_count {b : UInt8} {s : List UInt8} {n : Nat} (h : s.length ≤ n) : 1 ≤ (splitL b s).length ∧ (splitL b s).length ≤ n + 1 := by
  have h1 := parts_len b s []
  have h3 : 0 < (partsL b [] s).length := List.length_pos_iff.2 (parts_ne b s [])
  unfold splitL; omega
theorem beq_lit (v : ByteArray) (l : List UInt8) : (v.toList == l) = decide (bl v = l) := by
  rw [ByteArray.toList_eq]; unfold bl
  by_cases h : v.data.toList = l <;> simp [h]
theorem head_at {ps : List (List UInt8)} (h : 0 < ps.length) : ps.headD [] = ps[0] := by
  cases ps with
  | nil => simp at h
  | cons a l => rfl
theorem last_at {ps : List (List UInt8)} (h : 0 < ps.length) : ps.getLastD [] = ps[ps.length - 1] := by
  rw [List.getLastD_eq_getLast?, List.getLast?_eq_getElem?, List.getElem?_eq_getElem (by omega)]; rfl
end Go.Proofs.YtpjfidmapnnbkaaGreatDoor

/- The library's Cut, Split and TrimSuffix at one byte. -/
namespace Go.Proofs.YtpjfidmapnnbkaaGreatDoor
open Go.RowKit

def hasB (l : List UInt8) (b : UInt8) : Bool := l.contains b
theorem hasB_true {l : List UInt8} {b : UInt8} : hasB l b = true ↔ b ∈ l := by unfold hasB; simp
theorem hasB_false {l : List UInt8} {b : UInt8} : hasB l b = false ↔ b ∉ l := by unfold hasB; simp
theorem idxByte_or (l : List UInt8) (b : UInt8) : (b ∉ l ∧ Lib.indexByte l b = -1) ∨ (b ∈ l ∧ Lib.indexByte l b = (bef b l).length) := by
  induction l with
  | nil => exact .inl ⟨by simp, rfl⟩
  | cons x l ih =>
    unfold Lib.indexByte bef
    by_cases h : x = b
    · subst h; exact .inr ⟨by simp, by simp⟩
    · have h' : (x == b) = false := by simp [h]
      rw [if_neg (by simp [h]), if_neg h]
      rcases ih with ⟨h1, h2⟩ | ⟨h1, h2⟩
      · exact .inl ⟨by simp only [List.mem_cons, not_or]; exact ⟨Ne.symm h, h1⟩, by rw [h2]; rfl⟩
      · refine .inr ⟨by simp [h1], ?_⟩
        rw [h2, if_neg (by simp)]; simp

def cutL (s : ByteArray) (b : UInt8) : ByteArray := ⟨(bef b (bl s)).toArray⟩
def cutR (s : ByteArray) (b : UInt8) : ByteArray := ⟨((bl s).drop ((bef b (bl s)).length + 1)).toArray⟩

theorem bl_cutL (s : ByteArray) (b : UInt8) : bl (cutL s b) = bef b (bl s) := bl_mk _
theorem bl_cutR (s : ByteArray) (b : UInt8) : bl (cutR s b) = (bl s).drop ((bef b (bl s)).length + 1) := bl_mk _

/-! ### Split -/
theorem splitK_one (b : UInt8) : ∀ (fuel : Nat) (l : List UInt8), l.length < fuel → Lib.splitK [b] 0 (Lib.countFrom [b] fuel l) l = splitL b l ∧ (splitL b l).length = Lib.countFrom [b] fuel l + 1
  | 0, l, h => absurd h (by omega)
  | fuel + 1, l, h => by
    rcases index_one_or l b with ⟨h1, h2⟩ | ⟨h1, h2⟩
    · have hc : Lib.countFrom [b] (fuel + 1) l = 0 := by unfold Lib.countFrom; rw [h2]; rfl
      rw [hc, split_free h1]; exact ⟨rfl, rfl⟩
    · have hp := parts_bef h1
      have hl := congrArg List.length hp
      simp only [List.length_append, List.length_cons, List.length_drop] at hl
      obtain ⟨r, hr⟩ : ∃ r, l.drop ((bef b l).length + 1) = r := ⟨_, rfl⟩
      have hrl : r.length < fuel := by rw [← hr, List.length_drop]; omega
      obtain ⟨i1, i2⟩ := splitK_one b fuel r hrl
      have hne : ¬ ((((bef b l).length : Nat) : Int) == -1) = true := fun e => by have := beq_iff_eq.1 e; omega
      have hc : Lib.countFrom [b] (fuel + 1) l = Lib.countFrom [b] fuel r + 1 := by
        rw [Lib.countFrom, h2, if_neg hne, Int.toNat_natCast, show ([b] : List UInt8).length = 1 from rfl, hr]; omega
      have hs : splitL b l = bef b l :: splitL b r := by
        rw [← hr]
        have := split_mid (r := l.drop ((bef b l).length + 1)) (bef_not b l)
        rw [← hp] at this; exact this
      rw [hc, hs]
      refine ⟨?_, by rw [List.length_cons, i2]⟩
      rw [Lib.splitK, h2, if_neg hne, Int.toNat_natCast, show ([b] : List UInt8).length = 1 from rfl, hr, i1, Nat.add_zero, take_bef]
theorem splitB_texts (s : ByteArray) (b : UInt8) : ((Lib.splitB ⟨#[b]⟩ 0 (Lib.countB s ⟨#[b]⟩) s).map Value.string) = texts (splitL b (bl s)) ∧ Lib.countB s ⟨#[b]⟩ + 1 = (splitL b (bl s)).length := by
  have h1 := Lib.splitB_data ⟨#[b]⟩ 0 (Lib.countB s ⟨#[b]⟩) s
  have h2 : Lib.countB s ⟨#[b]⟩ = Lib.countFrom [b] ((bl s).length + 1) (bl s) := by
    rfl
  obtain ⟨h3, h4⟩ := splitK_one b ((bl s).length + 1) (bl s) (by omega)
  refine ⟨?_, by rw [h2, h4]⟩
  have h5 : (Lib.splitB ⟨#[b]⟩ 0 (Lib.countB s ⟨#[b]⟩) s).map bl = splitL b (bl s) := by
    rw [← h3, ← h2]; exact h1
  rw [← h5, texts, List.map_map]
  exact List.map_congr_left fun x _ => congrArg Value.string (bl_ext rfl)
theorem split_any (s : ByteArray) (b : UInt8) (w : World) (hs : s.size ≤ 1000000000) (hL : LW w) :
    Calls Tryz.prog 27 #[.string s, .string ⟨#[b]⟩] w fun e w' => e = .returned (.slice (some ⟨w.heap.size, 0, none⟩) (splitL b (bl s)).length (splitL b (bl s)).length) ∧ Lies w' w.heap.size 9 (texts (splitL b (bl s))) ∧ Below w.heap.size w w' := by
  obtain ⟨m, hm⟩ := hL.ml
  obtain ⟨h1, h2⟩ := splitB_texts s b
  refine (Tryz.strings_Split s ⟨#[b]⟩ m w (by omega) hm (Nat.le_refl 1)).mono ?_
  rintro e w' ⟨rfl, rfl⟩
  rw [h1, h2]
  have := Lies.new w 9 (texts (splitL b (bl s))).toArray
  exact ⟨rfl, by simpa using this, (Below.refl w.heap.size w).alloc (Nat.le_refl _) _⟩
end Go.Proofs.YtpjfidmapnnbkaaGreatDoor

/- The program reads a row of the office. (Printed by gen_offi.py) -/
namespace Go.Proofs.YtpjfidmapnnbkaaGreatDoor
open Go.RowKit

def zrow : Row := ⟨0, 0, 0, 0, 0⟩
/-- What reading a line gives. -/
noncomputable def lineR (s : List UInt8) : Row × Bool := match lineF s with
  | some r => (r, true)
  | none => (zrow, false)
/-- All that the program asks. -/
def PassI (s : List UInt8) (ws : List (List UInt8)) (v : Int) (okc : Bool) : Prop :=
  (numF (monW (ws.getD 0 []))).isSome = true ∧ (numF (Lib.trimPrefix (ws.getD 1 []) [43])).isSome = true ∧ (numF (Lib.trimPrefix (ws.getD 2 []) [45])).isSome = true ∧ okc = true ∧ (rowI ws v).ok = true ∧ lineT (rowI ws v) = s
theorem pass_yes {s : List UInt8} {ws : List (List UInt8)} {v : Int} {okc : Bool} (h : PassI s ws v okc) : lineR s = (rowI ws v, true) := by
  unfold lineR; rw [lineF_eq h.2.2.2.2.1 h.2.2.2.2.2]
theorem pass_no {s : List UInt8} {ws : List (List UInt8)} {v : Int} {okc : Bool} (hw : splitL 32 s = ws) (hc : (okc = true ∧ Lib.atoiAll (centR (ws.getD 4 [])) = .ok v) ∨ (okc = false ∧ ∀ u, Lib.atoiAll (centR (ws.getD 4 [])) ≠ .ok u)) (h : ¬ PassI s ws v okc) : lineR s = (zrow, false) := by
  have hn : lineF s = none := lineF_none fun r hr e => by
    have hl := line_read hr
    rw [e] at hl
    simp only [hw] at hl
    obtain ⟨h1, h2, h3, h4, h5, h6, h7, _⟩ := hl
    rcases hc with ⟨c1, c2⟩ | ⟨c1, c2⟩
    · rw [h5] at c2; injection c2 with c2
      refine h ⟨h2, h3, h4, c1, ?_, ?_⟩
      · rw [← c2, h6]; exact hr
      · rw [← c2, h6]; exact e
    · exact c2 _ h5
  unfold lineR; rw [hn]
theorem short_no {s : List UInt8} {ws : List (List UInt8)} (hw : splitL 32 s = ws) (h : ¬ (ws.length = 5 ∨ ws.length = 7)) : lineR s = (zrow, false) := by
  have hn : lineF s = none := lineF_none fun r hr e => by
    have hl := line_read hr
    rw [e] at hl
    simp only [hw] at hl
    exact h hl.1
  unfold lineR; rw [hn]
theorem bel_grow {B g : Nat} {w w1 w2 : World} (h : Below B w w1) (hg : w1.grownBy w2 (some g)) (hB : B ≤ g) (hs : B ≤ w.heap.size) : Below B w w2 :=
  ⟨hg.os.trans h.os, hg.tape.trans h.tape, hg.output.trans h.output, Nat.le_trans h.size hg.size, fun k hk => (hg.block k (by have := h.size; omega) (by intro e; injection e; omega)).trans (h.block k hk)⟩
def GivesLn (s : ByteArray) (w : World) (e : Ending) (w' : World) : Prop := ∃ (r : Row) (ok : Bool), e = .returned (.tuple #[r.val, .bool ok]) ∧ lineR (bl s) = (r, ok) ∧ Below w.heap.size w w'
theorem trim_len {t p : List UInt8} : (Lib.trimSuffix t p).length ≤ t.length ∧ (Lib.trimPrefix t p).length ≤ t.length := by
  unfold Lib.trimSuffix Lib.trimPrefix
  constructor
  · split
    · rw [List.length_take]; omega
    · exact Nat.le_refl _
  · split
    · rw [List.length_drop]; omega
    · exact Nat.le_refl _
theorem replace_len (t : List UInt8) : (centR t).length ≤ t.length := by
  have key : ∀ (k : Nat) (l : List UInt8), (Lib.replaceK [46] [] k l).length ≤ l.length := by
    intro k
    induction k with
    | zero => intro l; exact Nat.le_refl _
    | succ k ih =>
      intro l
      unfold Lib.replaceK
      split
      · exact Nat.le_refl _
      · have := ih (l.drop ((Lib.index l [46]).toNat + ([46] : List UInt8).length))
        simp only [List.length_append, List.length_nil, List.length_take, List.length_drop] at *
        omega
  unfold centR Lib.replace
  split
  · exact Nat.le_refl _
  · exact key _ _
theorem replace_any (s : ByteArray) (w : World) (hs : s.size ≤ 1000000000) (hL : LW w) :
    Calls Tryz.prog 32 #[.string s, .string ⟨#[46]⟩, .string ⟨#[]⟩, .int .i64 1] w fun e w' => e = .returned (.string ⟨(centR (bl s)).toArray⟩) ∧ Below w.heap.size w w' := by
  obtain ⟨m, hm⟩ := hL.ml
  exact Tryz.strings_Replace s ⟨#[46]⟩ ⟨#[]⟩ 1 m w (by omega) hm (Nat.le_refl 1) (by have h0 : (⟨#[]⟩ : ByteArray).size = 0 := rfl; rw [h0]; omega)
theorem getD_at {ps : List (List UInt8)} {k : Nat} (h : k < ps.length) : ps.getD k [] = ps[k] := by
  rw [List.getD_eq_getElem?_getD, List.getElem?_eq_getElem h]; rfl
/-- The row of words, while it is read. -/
structure OSt (w wx : World) (g8 : Nat) (ws : List (List UInt8)) : Prop where
  bl : Below w.heap.size w wx
  lw : LW w
  out : Lies wx w.heap.size 25 [.int .i64 0, .int .i64 0, .int .i64 0, .int .i64 0, .int .i64 0]
  ws : Lies wx g8 9 (texts ws)
theorem OSt.then {w wx wy : World} {g8 : Nat} {ws : List (List UInt8)} (h : OSt w wx g8 ws) (hb : Below wx.heap.size wx wy) : OSt w wy g8 ws :=
  ⟨bthen h.bl hb, h.lw, h.out.below hb h.out.lt, h.ws.below hb h.ws.lt⟩
theorem OSt.wrote {w wx wy : World} {g8 g : Nat} {ws : List (List UInt8)} (h : OSt w wx g8 ws) (hg : wx.grownBy wy (some g)) (h1 : w.heap.size < g) (h2 : g8 < g) : OSt w wy g8 ws :=
  ⟨bel_grow h.bl hg (Nat.le_of_lt h1) (Nat.le_refl _), h.lw, h.out.kept hg (by intro e; injection e; omega), h.ws.kept hg (by intro e; injection e; omega)⟩
theorem OSt.now {w wx : World} {g8 : Nat} {ws : List (List UInt8)} (h : OSt w wx g8 ws) : LW wx := h.lw.then h.bl


set_option maxRecDepth 100000 in
set_option maxHeartbeats 8000000 in
set_option linter.unusedVariables false in
theorem implParseOffice_any (s : ByteArray) (w : World) (hs : s.size ≤ 2000000) (hL : LW w) :
    Calls Tryz.prog 9 #[.string s] w (GivesLn s w) := by
  have L2 := Lies.new w 25 #[.int .i64 0, .int .i64 0, .int .i64 0, .int .i64 0, .int .i64 0]
  have b2 := (Below.refl w.heap.size w).alloc (Nat.le_refl _) (.cells #[.int .i64 0, .int .i64 0, .int .i64 0, .int .i64 0, .int .i64 0] 25)
  have HSP := Lib.hid (split_any s 32 (w.alloc (.cells #[.int .i64 0, .int .i64 0, .int .i64 0, .int .i64 0, .int .i64 0] 25)) (by omega) (hL.then b2))
  obtain ⟨ws, hws⟩ : ∃ l, splitL 32 (bl s) = l := ⟨_, rfl⟩
  rw [hws] at HSP
  have hpt : ∀ t ∈ ws, t.length ≤ 2000000 := fun t ht => by
    have h1 := parts_mem (b := 32) (t := t) (bl s) [] (by rw [← hws] at ht; exact ht)
    rw [bl_size] at h1; simp at h1; omega
  have hpl : ws.length ≤ 2000001 := by
    have h1 := parts_len 32 (bl s) []
    rw [bl_size] at h1
    rw [← hws]; unfold splitL; omega
  have HWS := Lib.hid hws
  have HPT := Lib.hid hpt
  clear hws hpt
  go_enter Tryz.func9, Tryz.ntmps9
  go_wp2_with fail
  refine HSP.out.mono ?_
  rintro e w3 ⟨rfl, L8, hb3⟩
  have S3 := Lib.hid (OSt.mk (bthen b2 hb3) hL (L2.below hb3 L2.lt) L8)
  generalize (w.alloc (.cells #[.int .i64 0, .int .i64 0, .int .i64 0, .int .i64 0, .int .i64 0] 25)).heap.size = g8 at S3 ⊢
  clear L2 b2 L8 hb3 HSP
  go_upto_region 2 with fail
  go_cut [23] (fun s23 wx => (∃ b : Bool, s23 = .bool b ∧ Hid (b = decide (¬ (ws.length = 5 ∨ ws.length = 7)))) ∧ w3 = wx)
  case first =>
    by_cases h5 : ws.length = 5
    · have e5 : ((ws.length : Int) != 5) = false := by simp [h5]
      have H5 := Lib.hid h5
      clear h5
      go_wp2_with fail
      go_meet
      case rel => exact ⟨⟨false, rfl, by rw [Hid]; simp [H5.out]⟩, rfl⟩
    · have e5 : ((ws.length : Int) != 5) = true := by rw [bne_iff_ne]; omega
      by_cases h7 : ws.length = 7
      · have e7 : ((ws.length : Int) != 7) = false := by simp [h7]
        have H7 := Lib.hid h7
        clear h5 h7
        go_wp2_with fail
        go_meet
        case rel => exact ⟨⟨false, rfl, by rw [Hid]; simp [H7.out]⟩, rfl⟩
      · have e7 : ((ws.length : Int) != 7) = true := by rw [bne_iff_ne]; omega
        have H := Lib.hid (And.intro h5 h7)
        clear h5 h7
        go_wp2_with fail
        go_meet
        case rel => exact ⟨⟨true, rfl, by rw [Hid]; simp [H.out.1, H.out.2]⟩, rfl⟩
  case rest =>
    obtain ⟨⟨b, rfl, hb⟩, rfl⟩ := hcut
    cases b with
    | true =>
      have hno : ¬ (ws.length = 5 ∨ ws.length = 7) := by have := hb.out.symm; simpa using this
      have HRD := Lib.hid (short_no HWS.out hno)
      clear hb hno
      have K2 := S3.out.out
      have a0 := K2.cell 0
      have a1 := K2.cell 1
      have a2 := K2.cell 2
      have a3 := K2.cell 3
      have a4 := K2.cell 4
      simp only [List.getElem?_cons_zero, List.getElem?_cons_succ] at a0 a1 a2 a3 a4
      have fa0 := K2.frozen 0
      have fa1 := K2.frozen 1
      have fa2 := K2.frozen 2
      have fa3 := K2.frozen 3
      have fa4 := K2.frozen 4

      obtain ⟨W20, hW20⟩ : ∃ W20, (((((w3.setCell ⟨w.heap.size, 0, none⟩ (.int .i64 0)).setCell ⟨w.heap.size, 1, none⟩ (.int .i64 0)).setCell ⟨w.heap.size, 2, none⟩ (.int .i64 0)).setCell ⟨w.heap.size, 3, none⟩ (.int .i64 0)).setCell ⟨w.heap.size, 4, none⟩ (.int .i64 0)) = W20 := ⟨_, rfl⟩
      have gw : w3.grownBy (((((w3.setCell ⟨w.heap.size, 0, none⟩ (.int .i64 0)).setCell ⟨w.heap.size, 1, none⟩ (.int .i64 0)).setCell ⟨w.heap.size, 2, none⟩ (.int .i64 0)).setCell ⟨w.heap.size, 3, none⟩ (.int .i64 0)).setCell ⟨w.heap.size, 4, none⟩ (.int .i64 0)) (some w.heap.size) := (grown_set (g := w.heap.size) (i := 4) (u := .int .i64 0) (grown_set (g := w.heap.size) (i := 3) (u := .int .i64 0) (grown_set (g := w.heap.size) (i := 2) (u := .int .i64 0) (grown_set (g := w.heap.size) (i := 1) (u := .int .i64 0) (grown_set (g := w.heap.size) (i := 0) (u := .int .i64 0) (World.grownBy.refl _ _))))))
      have kw : Lies (((((w3.setCell ⟨w.heap.size, 0, none⟩ (.int .i64 0)).setCell ⟨w.heap.size, 1, none⟩ (.int .i64 0)).setCell ⟨w.heap.size, 2, none⟩ (.int .i64 0)).setCell ⟨w.heap.size, 3, none⟩ (.int .i64 0)).setCell ⟨w.heap.size, 4, none⟩ (.int .i64 0)) w.heap.size 25 [.int .i64 0, .int .i64 0, .int .i64 0, .int .i64 0, .int .i64 0] := K2.set 0 (.int .i64 0) |>.set 1 (.int .i64 0) |>.set 2 (.int .i64 0) |>.set 3 (.int .i64 0) |>.set 4 (.int .i64 0)
      have BB := Lib.hid (bel_grow S3.out.bl gw (Nat.le_refl _) (Nat.le_refl _))
      rw [hW20] at kw BB
      have HW20 := Lib.hid hW20
      have HK := Lib.hid kw
      clear gw kw hW20 K2 S3
      repeat (first | go_values | go_skip | go_guarded | go_step | go_upon | simp only [])
      rw [HW20.out]
      have LS := HK.out
      have x0 := LS.cell 0
      have x1 := LS.cell 1
      have x2 := LS.cell 2
      have x3 := LS.cell 3
      have x4 := LS.cell 4
      simp only [List.getElem?_cons_zero, List.getElem?_cons_succ] at x0 x1 x2 x3 x4
      refine bodyPost_ret (v := .tuple #[.agg #[.int .i64 0, .int .i64 0, .int .i64 0, .int .i64 0, .int .i64 0], .bool false]) (by simp [results, Tryz.results9, go_sem, x0, x1, x2, x3, x4]) rfl ?_
      exact ⟨zrow, false, rfl, HRD.out, BB.out⟩
    | false =>
      have h57 : ws.length = 5 ∨ ws.length = 7 := by have := hb.out.symm; simp only [decide_eq_false_iff_not, Decidable.not_not] at this; exact this
      have H57 := Lib.hid h57
      have h5l : 5 ≤ ws.length := by omega
      clear hb h57
      have j0 : (0 : Int) < (ws.length : Int) := by omega
      have j1 : (1 : Int) < (ws.length : Int) := by omega
      have j2 : (2 : Int) < (ws.length : Int) := by omega
      have j4 : (4 : Int) < (ws.length : Int) := by omega
      -- the month
      have c0 : w3.cell? ⟨g8, 0, none⟩ = some (.string ⟨(ws[0]'(by omega)).toArray⟩) := by
        rw [S3.out.ws.cell]; exact texts_at ws 0 (by omega)
      have ht := HPT.out (ws[0]'(by omega)) (List.getElem_mem _)
      obtain ⟨t0, hte⟩ : ∃ t : ByteArray, t = ⟨(ws[0]'(by omega)).toArray⟩ := ⟨_, rfl⟩
      have hbt0 : bl t0 = ws.getD 0 [] := by rw [hte, bl_mk, getD_at]
      rw [← hte] at c0
      have hzt0 : t0.size ≤ 2000000 := by rw [← bl_size, hbt0, getD_at (by omega)]; exact ht
      clear hte ht
      go_wp2_with fail
      refine (Tryz.strings_TrimSuffix t0 ⟨#[58]⟩ w3 (by omega)).mono ?_
      rintro e w3 ⟨rfl, rfl⟩
      obtain ⟨t1, hde⟩ : ∃ x : ByteArray, x = ⟨(Lib.trimSuffix t0.data.toList (ByteArray.mk #[58]).data.toList).toArray⟩ := ⟨_, rfl⟩
      have hbt1 : bl t1 = Lib.trimSuffix (bl t0) [58] := by rw [hde, bl_mk]; rfl
      rw [← hde]
      have hzt1 : t1.size ≤ 2000000 := by rw [← bl_size, hbt1]; have := (trim_len (t := bl t0) (p := [58])).1; rw [bl_size] at this; omega
      clear hde
      go_wp2_with fail
      refine (Tryz.strings_TrimPrefix t1 ⟨#[109]⟩ w3).mono ?_
      rintro e w3 ⟨rfl, rfl⟩
      obtain ⟨t2, hde⟩ : ∃ x : ByteArray, x = ⟨(Lib.trimPrefix t1.data.toList (ByteArray.mk #[109]).data.toList).toArray⟩ := ⟨_, rfl⟩
      have hbt2 : bl t2 = Lib.trimPrefix (bl t1) [109] := by rw [hde, bl_mk]; rfl
      rw [← hde]
      have hzt2 : t2.size ≤ 2000000 := by rw [← bl_size, hbt2]; have := (trim_len (t := bl t1) (p := [109])).2; rw [bl_size] at this; omega
      clear hde
      have HM : Hid (bl t2 = monW (ws.getD 0 [])) := by rw [hbt2, hbt1, hbt0]; rfl
      clear hbt0 hbt1 hbt2 c0
      have hlw := S3.out.now
      go_wp2_with fail
      refine (parseInt_any t2 w3 (by omega) hlw).mono ?_
      rintro e w4 ⟨rfl, hb9⟩
      have S4 := Lib.hid (S3.out.then hb9)
      rw [HM.out]
      obtain ⟨mo, hmo⟩ : ∃ o, numF (monW (ws.getD 0 [])) = o := ⟨_, rfl⟩
      obtain ⟨m, hm⟩ : ∃ z, mo.getD 0 = z := ⟨_, rfl⟩
      obtain ⟨one, hone⟩ : ∃ z, mo.isSome = z := ⟨_, rfl⟩
      rw [hmo, hm, hone]
      have Hmo := Lib.hid hmo; have Hm := Lib.hid hm; have Hone := Lib.hid hone
      clear hb9 hlw S3 hmo hm hone
      go_upto_region 5 with fail
      -- bought
      have c0 : w4.cell? ⟨g8, 1, none⟩ = some (.string ⟨(ws[1]'(by omega)).toArray⟩) := by
        rw [S4.out.ws.cell]; exact texts_at ws 1 (by omega)
      have ht := HPT.out (ws[1]'(by omega)) (List.getElem_mem _)
      obtain ⟨t3, hte⟩ : ∃ t : ByteArray, t = ⟨(ws[1]'(by omega)).toArray⟩ := ⟨_, rfl⟩
      have hbt3 : bl t3 = ws.getD 1 [] := by rw [hte, bl_mk, getD_at]
      rw [← hte] at c0
      have hzt3 : t3.size ≤ 2000000 := by rw [← bl_size, hbt3, getD_at (by omega)]; exact ht
      clear hte ht
      go_wp2_with fail
      refine (Tryz.strings_TrimPrefix t3 ⟨#[43]⟩ w4).mono ?_
      rintro e w4 ⟨rfl, rfl⟩
      obtain ⟨t4, hde⟩ : ∃ x : ByteArray, x = ⟨(Lib.trimPrefix t3.data.toList (ByteArray.mk #[43]).data.toList).toArray⟩ := ⟨_, rfl⟩
      have hbt4 : bl t4 = Lib.trimPrefix (bl t3) [43] := by rw [hde, bl_mk]; rfl
      rw [← hde]
      have hzt4 : t4.size ≤ 2000000 := by rw [← bl_size, hbt4]; have := (trim_len (t := bl t3) (p := [43])).2; rw [bl_size] at this; omega
      clear hde
      have HB2 : Hid (bl t4 = Lib.trimPrefix (ws.getD 1 []) [43]) := by rw [Hid, hbt4, hbt3]
      clear hbt3 hbt4 c0
      have hlw := S4.out.now
      go_wp2_with fail
      refine (parseInt_any t4 w4 (by omega) hlw).mono ?_
      rintro e w5 ⟨rfl, hb9⟩
      have S5 := Lib.hid (S4.out.then hb9)
      rw [HB2.out]
      obtain ⟨bo, hbo⟩ : ∃ o, numF (Lib.trimPrefix (ws.getD 1 []) [43]) = o := ⟨_, rfl⟩
      obtain ⟨bb, hbb⟩ : ∃ z, bo.getD 0 = z := ⟨_, rfl⟩
      obtain ⟨two, htwo⟩ : ∃ z, bo.isSome = z := ⟨_, rfl⟩
      rw [hbo, hbb, htwo]
      have Hbo := Lib.hid hbo; have Hbb := Lib.hid hbb; have Htwo := Lib.hid htwo
      clear hb9 hlw S4 hbo hbb htwo
      go_upto_region 6 with fail
      -- sold
      have c0 : w5.cell? ⟨g8, 2, none⟩ = some (.string ⟨(ws[2]'(by omega)).toArray⟩) := by
        rw [S5.out.ws.cell]; exact texts_at ws 2 (by omega)
      have ht := HPT.out (ws[2]'(by omega)) (List.getElem_mem _)
      obtain ⟨t5, hte⟩ : ∃ t : ByteArray, t = ⟨(ws[2]'(by omega)).toArray⟩ := ⟨_, rfl⟩
      have hbt5 : bl t5 = ws.getD 2 [] := by rw [hte, bl_mk, getD_at]
      rw [← hte] at c0
      have hzt5 : t5.size ≤ 2000000 := by rw [← bl_size, hbt5, getD_at (by omega)]; exact ht
      clear hte ht
      go_wp2_with fail
      refine (Tryz.strings_TrimPrefix t5 ⟨#[45]⟩ w5).mono ?_
      rintro e w5 ⟨rfl, rfl⟩
      obtain ⟨t6, hde⟩ : ∃ x : ByteArray, x = ⟨(Lib.trimPrefix t5.data.toList (ByteArray.mk #[45]).data.toList).toArray⟩ := ⟨_, rfl⟩
      have hbt6 : bl t6 = Lib.trimPrefix (bl t5) [45] := by rw [hde, bl_mk]; rfl
      rw [← hde]
      have hzt6 : t6.size ≤ 2000000 := by rw [← bl_size, hbt6]; have := (trim_len (t := bl t5) (p := [45])).2; rw [bl_size] at this; omega
      clear hde
      have HS2 : Hid (bl t6 = Lib.trimPrefix (ws.getD 2 []) [45]) := by rw [Hid, hbt6, hbt5]
      clear hbt5 hbt6 c0
      have hlw := S5.out.now
      go_wp2_with fail
      refine (parseInt_any t6 w5 (by omega) hlw).mono ?_
      rintro e w6 ⟨rfl, hb9⟩
      have S6 := Lib.hid (S5.out.then hb9)
      rw [HS2.out]
      obtain ⟨so, hso⟩ : ∃ o, numF (Lib.trimPrefix (ws.getD 2 []) [45]) = o := ⟨_, rfl⟩
      obtain ⟨sv, hsv⟩ : ∃ z, so.getD 0 = z := ⟨_, rfl⟩
      obtain ⟨three, hthree⟩ : ∃ z, so.isSome = z := ⟨_, rfl⟩
      rw [hso, hsv, hthree]
      have Hso := Lib.hid hso; have Hsv := Lib.hid hsv; have Hthree := Lib.hid hthree
      clear hb9 hlw S5 hso hsv hthree
      go_upto_region 7 with fail
      -- the cents
      have c0 : w6.cell? ⟨g8, 4, none⟩ = some (.string ⟨(ws[4]'(by omega)).toArray⟩) := by
        rw [S6.out.ws.cell]; exact texts_at ws 4 (by omega)
      have ht := HPT.out (ws[4]'(by omega)) (List.getElem_mem _)
      obtain ⟨t7, hte⟩ : ∃ t : ByteArray, t = ⟨(ws[4]'(by omega)).toArray⟩ := ⟨_, rfl⟩
      have hbt7 : bl t7 = ws.getD 4 [] := by rw [hte, bl_mk, getD_at]
      rw [← hte] at c0
      have hzt7 : t7.size ≤ 2000000 := by rw [← bl_size, hbt7, getD_at (by omega)]; exact ht
      clear hte ht
      have hlw := S6.out.now
      go_wp2_with fail
      refine (replace_any t7 w6 (by omega) hlw).mono ?_
      rintro e w7 ⟨rfl, hb7⟩
      have S7 := Lib.hid (S6.out.then hb7)
      obtain ⟨t8, hde⟩ : ∃ x : ByteArray, x = ⟨(centR (bl t7)).toArray⟩ := ⟨_, rfl⟩
      have hbt8 : bl t8 = centR (ws.getD 4 []) := by rw [hde, bl_mk, hbt7]
      rw [← hde]
      have hzt8 : t8.size ≤ 2000000 := by rw [← bl_size, hbt8, ← hbt7]; have := replace_len (bl t7); rw [bl_size] at this; omega
      clear hde hb7 S6 hlw c0 hbt7
      have hlw := S7.out.now
      go_wp2_with fail
      refine (atoi_any t8 w7 (by omega) hlw).mono ?_
      rintro e w8 ⟨v, okc, ev, rfl, hev, hb8⟩
      have S8 := Lib.hid (S7.out.then hb8)
      have HC : Hid ((okc = true ∧ Lib.atoiAll (centR (ws.getD 4 [])) = .ok v) ∨ (okc = false ∧ ∀ u, Lib.atoiAll (centR (ws.getD 4 [])) ≠ .ok u)) := by
        rw [← hbt8]
        rcases hev with ⟨h1, _, h3⟩ | ⟨h1, _, h3⟩
        · exact .inl ⟨h1, h3⟩
        · exact .inr ⟨h1, h3⟩
      have HEV : Hid ((okc = true ∧ ev = .nilIface) ∨ (okc = false ∧ ∃ t p, ev = .iface t p)) := by
        rcases hev with ⟨h1, h2, _⟩ | ⟨h1, h2, _⟩
        · exact .inl ⟨h1, h2⟩
        · exact .inr ⟨h1, h2⟩
      clear hev hb8 S7 hlw hbt8
      go_upto_region 8 with fail
      have HV3 := Lib.hid (And.intro Hm.out (And.intro Hbb.out Hsv.out))
      have HF3 := Lib.hid (And.intro Hone.out (And.intro Htwo.out Hthree.out))
      have HMO := Hmo; have HBO := Hbo; have HSO := Hso
      clear HM HB2 HS2 Hm Hbb Hsv Hone Htwo Hthree Hmo Hbo Hso
      have L13 := Lies.new w8 25 #[.int .i64 m, .int .i64 bb, .int .i64 sv, .int .i64 v, .int .i64 0]
      have S9 := Lib.hid (S8.out.then ((Below.refl w8.heap.size w8).alloc (Nat.le_refl _) (.cells #[.int .i64 m, .int .i64 bb, .int .i64 sv, .int .i64 v, .int .i64 0] 25)))
      have h813 : g8 < w8.heap.size := S8.out.ws.lt
      have h213 : w.heap.size < w8.heap.size := S8.out.out.lt
      clear S8
      go_upto_region 9 with fail
      generalize w8.alloc (.cells #[.int .i64 m, .int .i64 bb, .int .i64 sv, .int .i64 v, .int .i64 0] 25) = W9 at L13 S9 ⊢
      generalize w8.heap.size = g13 at L13 h813 h213 ⊢
      have HL13 := Lib.hid L13
      clear L13
      go_cut [65] (fun s65 wx => (∃ b : Bool, s65 = .bool b ∧ Hid (b = decide (ws.length = 7))) ∧ W9 = wx)
      case first =>
        by_cases h7 : ws.length = 7
        · have e7 : ((ws.length : Int) == 7) = true := by simp; omega
          have H7 := Lib.hid h7
          clear h7
          go_wp2_with fail
          go_meet
          case rel => exact ⟨⟨true, rfl, by rw [Hid]; simp [H7.out]⟩, rfl⟩
        · have e7 : ((ws.length : Int) == 7) = false := by rw [beq_eq_false_iff_ne]; omega
          have H7 := Lib.hid h7
          clear h7
          go_wp2_with fail
          go_meet
          case rel => exact ⟨⟨false, rfl, by rw [Hid]; simp [H7.out]⟩, rfl⟩
      case rest =>
        obtain ⟨⟨b7, rfl, hb7⟩, rfl⟩ := hcut
        go_upto_if 65 with fail
        go_cut [] (fun wx => OSt w wx g8 ws ∧ Lies wx g13 25 [.int .i64 m, .int .i64 bb, .int .i64 sv, .int .i64 v, .int .i64 (if ws.length = 7 then numD (ws.getD 5 []) else 0)])
        case first =>
          cases b7 with
          | true =>
            have h7 : ws.length = 7 := by simpa using hb7.out.symm
            have H7 := Lib.hid h7
            have j5 : (5 : Int) < (ws.length : Int) := by omega
            have c0 : W9.cell? ⟨g8, 5, none⟩ = some (.string ⟨(ws[5]'(by omega)).toArray⟩) := by
              rw [S9.out.ws.cell]; exact texts_at ws 5 (by omega)
            have ht := HPT.out (ws[5]'(by omega)) (List.getElem_mem _)
            obtain ⟨t9, hte⟩ : ∃ t : ByteArray, t = ⟨(ws[5]'(by omega)).toArray⟩ := ⟨_, rfl⟩
            have hbt9 : bl t9 = ws.getD 5 [] := by rw [hte, bl_mk, getD_at]
            rw [← hte] at c0
            have hzt9 : t9.size ≤ 2000000 := by rw [← bl_size, hbt9, getD_at (by omega)]; exact ht
            clear hte ht
            have HB5 := Lib.hid hbt9
            clear h7 hbt9 hb7
            have hlw := S9.out.now
            go_wp2_with fail
            refine (parseInt_any t9 W9 (by omega) hlw).mono ?_
            rintro e w10 ⟨rfl, hb10⟩
            have S10 := Lib.hid (S9.out.then hb10)
            have K13 := HL13.out.below hb10 HL13.out.lt
            have d0 := K13.cell 0
            have d1 := K13.cell 1
            have d2 := K13.cell 2
            have d3 := K13.cell 3
            have d4 := K13.cell 4
            simp only [List.getElem?_cons_zero, List.getElem?_cons_succ] at d0 d1 d2 d3 d4
            have fd0 := K13.frozen 0
            have fd1 := K13.frozen 1
            have fd2 := K13.frozen 2
            have fd3 := K13.frozen 3
            have fd4 := K13.frozen 4
            have gw : w10.grownBy (w10.setCell ⟨g13, 4, none⟩ (.int .i64 (numD (bl t9)))) (some g13) := grown_set (World.grownBy.refl _ _)
            have HK := Lib.hid (K13.set 4 (.int .i64 (numD (bl t9))))
            have HS := Lib.hid (S10.out.wrote gw h213 h813)
            clear S9 S10 HL13 K13 gw hlw hb10 c0
            go_wp2_with fail
            go_meet
            case rel => rw [if_pos H7.out, ← HB5.out]; exact ⟨HS.out, HK.out⟩
          | false =>
            have H7 : Hid (¬ ws.length = 7) := by have := hb7.out.symm; simp only [decide_eq_false_iff_not] at this; exact this
            clear hb7
            go_wp2_with fail
            go_meet
            case rel => rw [if_neg H7.out]; exact ⟨S9.out, HL13.out⟩
        case rest =>
          clear S9 HL13 hb7
          obtain ⟨S9', K13⟩ := hcut
          have S9 := Lib.hid S9'
          clear S9'
          generalize hlo : (if ws.length = 7 then numD (ws.getD 5 []) else 0) = lo at K13
          have HLO := Lib.hid hlo
          clear hlo
          obtain ⟨r, hr⟩ : ∃ r : Row, r = ⟨m, bb, sv, v, lo⟩ := ⟨_, rfl⟩
          have HR : Hid (rowI ws v = r) := by
            rw [hr]
            unfold rowI numD Hid
            rw [HMO.out, HBO.out, HSO.out, HV3.out.1, HV3.out.2.1, HV3.out.2.2]
            have := HLO.out
            unfold numD at this
            rw [this]
          have K : Lies wc g13 25 [.int .i64 r.m, .int .i64 r.b, .int .i64 r.s, .int .i64 r.c, .int .i64 r.l] := by rw [hr]; exact K13
          have HP : Hid (PassI (bl s) ws v okc ↔ (one = true ∧ two = true ∧ three = true ∧ okc = true ∧ r.ok = true ∧ lineT r = bl s)) := by
            unfold PassI Hid
            rw [HMO.out, HBO.out, HSO.out, HF3.out.1, HF3.out.2.1, HF3.out.2.2, HR.out]
          clear hr K13 HLO HMO HBO HSO HV3 HF3
          have d0 := K.cell 0
          have d1 := K.cell 1
          have d2 := K.cell 2
          have d3 := K.cell 3
          have d4 := K.cell 4
          simp only [List.getElem?_cons_zero, List.getElem?_cons_succ] at d0 d1 d2 d3 d4
          have HK := Lib.hid K
          clear K
          have hlw := S9.out.now
          have HIS := Lib.hid (fun W => isOfficeRow_any r W)
          have HLN := Lib.hid (fun W (h : r.ok = true) (ht : Tab W) => officeLine_any r W h ht)
          obtain ⟨tx, htx⟩ : ∃ x : ByteArray, x = lineO r := ⟨_, rfl⟩
          have hbtx : bl tx = lineT r := by rw [htx]; exact bl_mk _
          rw [← htx] at HLN
          clear htx
          obtain ⟨q, hq⟩ : ∃ b : Bool, (tx.toList == s.toList) = b := ⟨_, rfl⟩
          have HQ : Hid (q = decide (lineT r = bl s)) := by rw [Hid, ← hq, str_beqL, hbtx]
          obtain ⟨ro, hro⟩ : ∃ b : Bool, r.ok = b := ⟨_, rfl⟩
          rw [hro] at HIS HP
          have HRO := Lib.hid hro
          have HPQ : Hid (PassI (bl s) ws v okc ↔ (one = true ∧ two = true ∧ three = true ∧ okc = true ∧ ro = true ∧ q = true)) := by
            rw [Hid, HP.out, HQ.out]; simp
          clear hro hbtx HP HQ
          go_upto_region 11 with fail
          go_cut [98] (fun s98 wx => (∃ b : Bool, s98 = .bool b ∧ Hid (b = false ↔ PassI (bl s) ws v okc)) ∧ Below wc.heap.size wc wx)
          case first =>
            cases one with
            | false =>
              clear hlw hq
              go_wp2_with fail
              go_meet
              case rel => exact ⟨⟨true, rfl, by rw [Hid, HPQ.out]; simp⟩, Below.refl _ _⟩
            | true =>
              cases two with
              | false =>
                clear hlw hq
                go_wp2_with fail
                go_meet
                case rel => exact ⟨⟨true, rfl, by rw [Hid, HPQ.out]; simp⟩, Below.refl _ _⟩
              | true =>
                cases three with
                | false =>
                  clear hlw hq
                  go_wp2_with fail
                  go_meet
                  case rel => exact ⟨⟨true, rfl, by rw [Hid, HPQ.out]; simp⟩, Below.refl _ _⟩
                | true =>
                  rcases HEV.out with ⟨rfl, rfl⟩ | ⟨rfl, t, p, rfl⟩
                  · cases ro with
                    | false =>
                      clear hlw hq
                      go_wp2_with fail
                      refine (HIS.out _).mono ?_
                      rintro e w12 ⟨rfl, hb12⟩
                      go_wp2_with fail
                      go_meet
                      case rel => exact ⟨⟨true, rfl, by rw [Hid, HPQ.out]; simp⟩, hb12⟩
                    | true =>
                      go_wp2_with fail
                      refine (HIS.out _).mono ?_
                      rintro e w12 ⟨rfl, hb12⟩
                      have hlw2 := hlw.then hb12
                      have K := HK.out.below hb12 HK.out.lt
                      clear hlw d0 d1 d2 d3 d4
                      have d0 := K.cell 0
                      have d1 := K.cell 1
                      have d2 := K.cell 2
                      have d3 := K.cell 3
                      have d4 := K.cell 4
                      simp only [List.getElem?_cons_zero, List.getElem?_cons_succ] at d0 d1 d2 d3 d4
                      go_wp2_with fail
                      refine (HLN.out _ HRO.out hlw2.tab).mono ?_
                      rintro e w13 ⟨rfl, hb13⟩
                      have HB13 := Lib.hid (bthen hb12 hb13)
                      clear hb12 hb13 hlw2 K d0 d1 d2 d3 d4
                      cases q with
                      | false =>
                        go_wp2_with fail
                        go_meet
                        case rel => exact ⟨⟨true, rfl, by rw [Hid, HPQ.out]; simp⟩, HB13.out⟩
                      | true =>
                        go_wp2_with fail
                        go_meet
                        case rel => exact ⟨⟨false, rfl, by rw [Hid, HPQ.out]; simp⟩, HB13.out⟩
                  · clear hlw hq
                    go_wp2_with fail
                    go_meet
                    case rel => exact ⟨⟨true, rfl, by rw [Hid, HPQ.out]; simp⟩, Below.refl _ _⟩
          case rest =>
            obtain ⟨⟨b, rfl, hbp⟩, hb14⟩ := hcut
            have S14 := Lib.hid (S9.out.then hb14)
            have K := HK.out.below hb14 HK.out.lt
            clear S9 HK hlw d0 d1 d2 d3 d4 hb14 HIS HLN HPQ hq
            cases b with
            | true =>
              have HRD := Lib.hid (pass_no HWS.out HC.out (fun h => by have := hbp.out.2 h; cases this))
              clear hbp K
              have K2 := S14.out.out
              have a0 := K2.cell 0
              have a1 := K2.cell 1
              have a2 := K2.cell 2
              have a3 := K2.cell 3
              have a4 := K2.cell 4
              simp only [List.getElem?_cons_zero, List.getElem?_cons_succ] at a0 a1 a2 a3 a4
              have fa0 := K2.frozen 0
              have fa1 := K2.frozen 1
              have fa2 := K2.frozen 2
              have fa3 := K2.frozen 3
              have fa4 := K2.frozen 4

              obtain ⟨W20, hW20⟩ : ∃ W20, (((((wc.setCell ⟨w.heap.size, 0, none⟩ (.int .i64 0)).setCell ⟨w.heap.size, 1, none⟩ (.int .i64 0)).setCell ⟨w.heap.size, 2, none⟩ (.int .i64 0)).setCell ⟨w.heap.size, 3, none⟩ (.int .i64 0)).setCell ⟨w.heap.size, 4, none⟩ (.int .i64 0)) = W20 := ⟨_, rfl⟩
              have gw : wc.grownBy (((((wc.setCell ⟨w.heap.size, 0, none⟩ (.int .i64 0)).setCell ⟨w.heap.size, 1, none⟩ (.int .i64 0)).setCell ⟨w.heap.size, 2, none⟩ (.int .i64 0)).setCell ⟨w.heap.size, 3, none⟩ (.int .i64 0)).setCell ⟨w.heap.size, 4, none⟩ (.int .i64 0)) (some w.heap.size) := (grown_set (g := w.heap.size) (i := 4) (u := .int .i64 0) (grown_set (g := w.heap.size) (i := 3) (u := .int .i64 0) (grown_set (g := w.heap.size) (i := 2) (u := .int .i64 0) (grown_set (g := w.heap.size) (i := 1) (u := .int .i64 0) (grown_set (g := w.heap.size) (i := 0) (u := .int .i64 0) (World.grownBy.refl _ _))))))
              have kw : Lies (((((wc.setCell ⟨w.heap.size, 0, none⟩ (.int .i64 0)).setCell ⟨w.heap.size, 1, none⟩ (.int .i64 0)).setCell ⟨w.heap.size, 2, none⟩ (.int .i64 0)).setCell ⟨w.heap.size, 3, none⟩ (.int .i64 0)).setCell ⟨w.heap.size, 4, none⟩ (.int .i64 0)) w.heap.size 25 [.int .i64 0, .int .i64 0, .int .i64 0, .int .i64 0, .int .i64 0] := K2.set 0 (.int .i64 0) |>.set 1 (.int .i64 0) |>.set 2 (.int .i64 0) |>.set 3 (.int .i64 0) |>.set 4 (.int .i64 0)
              have BB := Lib.hid (bel_grow S14.out.bl gw (Nat.le_refl _) (Nat.le_refl _))
              rw [hW20] at kw BB
              have HW20 := Lib.hid hW20
              have HK := Lib.hid kw
              clear gw kw hW20 K2 S14
              repeat (first | go_values | go_skip | go_guarded | go_step | go_upon | simp only [])
              rw [HW20.out]
              have LS := HK.out
              have x0 := LS.cell 0
              have x1 := LS.cell 1
              have x2 := LS.cell 2
              have x3 := LS.cell 3
              have x4 := LS.cell 4
              simp only [List.getElem?_cons_zero, List.getElem?_cons_succ] at x0 x1 x2 x3 x4
              refine bodyPost_ret (v := .tuple #[.agg #[.int .i64 0, .int .i64 0, .int .i64 0, .int .i64 0, .int .i64 0], .bool false]) (by simp [results, Tryz.results9, go_sem, x0, x1, x2, x3, x4]) rfl ?_
              exact ⟨zrow, false, rfl, HRD.out, BB.out⟩
            | false =>
              have HRD : Hid (lineR (bl s) = (r, true)) := by rw [← HR.out]; exact pass_yes (hbp.out.1 rfl)
              clear hbp
              have d0 := K.cell 0
              have d1 := K.cell 1
              have d2 := K.cell 2
              have d3 := K.cell 3
              have d4 := K.cell 4
              simp only [List.getElem?_cons_zero, List.getElem?_cons_succ] at d0 d1 d2 d3 d4
              have K2 := S14.out.out
              have a0 := K2.cell 0
              have a1 := K2.cell 1
              have a2 := K2.cell 2
              have a3 := K2.cell 3
              have a4 := K2.cell 4
              simp only [List.getElem?_cons_zero, List.getElem?_cons_succ] at a0 a1 a2 a3 a4
              have fa0 := K2.frozen 0
              have fa1 := K2.frozen 1
              have fa2 := K2.frozen 2
              have fa3 := K2.frozen 3
              have fa4 := K2.frozen 4

              obtain ⟨W20, hW20⟩ : ∃ W20, (((((wc.setCell ⟨w.heap.size, 0, none⟩ (.int .i64 r.m)).setCell ⟨w.heap.size, 1, none⟩ (.int .i64 r.b)).setCell ⟨w.heap.size, 2, none⟩ (.int .i64 r.s)).setCell ⟨w.heap.size, 3, none⟩ (.int .i64 r.c)).setCell ⟨w.heap.size, 4, none⟩ (.int .i64 r.l)) = W20 := ⟨_, rfl⟩
              have gw : wc.grownBy (((((wc.setCell ⟨w.heap.size, 0, none⟩ (.int .i64 r.m)).setCell ⟨w.heap.size, 1, none⟩ (.int .i64 r.b)).setCell ⟨w.heap.size, 2, none⟩ (.int .i64 r.s)).setCell ⟨w.heap.size, 3, none⟩ (.int .i64 r.c)).setCell ⟨w.heap.size, 4, none⟩ (.int .i64 r.l)) (some w.heap.size) := (grown_set (g := w.heap.size) (i := 4) (u := .int .i64 r.l) (grown_set (g := w.heap.size) (i := 3) (u := .int .i64 r.c) (grown_set (g := w.heap.size) (i := 2) (u := .int .i64 r.s) (grown_set (g := w.heap.size) (i := 1) (u := .int .i64 r.b) (grown_set (g := w.heap.size) (i := 0) (u := .int .i64 r.m) (World.grownBy.refl _ _))))))
              have kw : Lies (((((wc.setCell ⟨w.heap.size, 0, none⟩ (.int .i64 r.m)).setCell ⟨w.heap.size, 1, none⟩ (.int .i64 r.b)).setCell ⟨w.heap.size, 2, none⟩ (.int .i64 r.s)).setCell ⟨w.heap.size, 3, none⟩ (.int .i64 r.c)).setCell ⟨w.heap.size, 4, none⟩ (.int .i64 r.l)) w.heap.size 25 [.int .i64 r.m, .int .i64 r.b, .int .i64 r.s, .int .i64 r.c, .int .i64 r.l] := K2.set 0 (.int .i64 r.m) |>.set 1 (.int .i64 r.b) |>.set 2 (.int .i64 r.s) |>.set 3 (.int .i64 r.c) |>.set 4 (.int .i64 r.l)
              have BB := Lib.hid (bel_grow S14.out.bl gw (Nat.le_refl _) (Nat.le_refl _))
              rw [hW20] at kw BB
              have HW20 := Lib.hid hW20
              have HK := Lib.hid kw
              clear gw kw hW20 K2 S14
              repeat (first | go_values | go_skip | go_guarded | go_step | go_upon | simp only [])
              rw [HW20.out]
              have LS := HK.out
              have x0 := LS.cell 0
              have x1 := LS.cell 1
              have x2 := LS.cell 2
              have x3 := LS.cell 3
              have x4 := LS.cell 4
              simp only [List.getElem?_cons_zero, List.getElem?_cons_succ] at x0 x1 x2 x3 x4
              refine bodyPost_ret (v := .tuple #[.agg #[.int .i64 r.m, .int .i64 r.b, .int .i64 r.s, .int .i64 r.c, .int .i64 r.l], .bool true]) (by simp [results, Tryz.results9, go_sem, x0, x1, x2, x3, x4]) rfl ?_
              exact ⟨r, true, rfl, HRD.out, BB.out⟩
end Go.Proofs.YtpjfidmapnnbkaaGreatDoor
