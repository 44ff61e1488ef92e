/- Verified texts, cuts, decoded records, in the program. -/
import Derived.Test.YtojceibamgodbaaDoorLine
namespace Go.Proofs.YtojceibamgodbaaDoor
open Go.RowKit

open Classical in
/-- The text that is sealed in s. -/
noncomputable def verF (s : List UInt8) : Option (List UInt8) := if h : ∃ t, Ver t s then some h.choose else none
theorem verF_some {t s : List UInt8} (h : Ver t s) : verF s = some t := by
  have hex : ∃ t, Ver t s := ⟨t, h⟩
  unfold verF
  rw [dif_pos hex]
  exact congrArg some (hex.choose_spec.inj h)
theorem verF_none {s : List UInt8} (h : ∀ t, ¬ Ver t s) : verF s = none := by unfold verF; rw [dif_neg (fun ⟨t, ht⟩ => h t ht)]
theorem verF_ver {t s : List UInt8} (h : verF s = some t) : Ver t s := by
  by_cases hex : ∃ t, Ver t s
  · unfold verF at h
    rw [dif_pos hex] at h
    have := hex.choose_spec
    rw [Option.some.inj h] at this
    exact this
  · unfold verF at h
    rw [dif_neg hex] at h; cases h
theorem ver_last {t s : List UInt8} (h : Ver t s) : Lib.lastIndex s [35] = t.length := by rw [← h.2.1]; exact seal_last t
theorem ver_take {t s : List UInt8} (h : Ver t s) : s.take t.length = t := by rw [← h.2.1]; unfold sealL; exact List.take_left' rfl
def optT : Option (List UInt8) → ByteArray
  | some t => ⟨t.toArray⟩
  | none => ⟨#[]⟩

theorem str_beq (a b : ByteArray) : (a.toList == b.toList) = decide (bl a = bl b) := by
  rw [toL, toL, Bool.eq_iff_iff]; simp

set_option maxHeartbeats 2000000 in
theorem verify_any (s : ByteArray) (w : World) (hs : s.size ≤ 1000000000) (ht : Tab w) :
    Calls Tryd.prog 104 #[.string s] w fun e w' => e = .returned (.tuple #[.string (optT (verF (bl s))), .bool (verF (bl s)).isSome]) ∧ Below w.heap.size w w' := by
  have HL : Hid (∀ W, Calls Tryd.prog 113 #[.string s, .string ⟨#[35]⟩] W fun e w' => e = .returned (.int .i64 (Lib.lastIndex (bl s) [35])) ∧ w' = W) := fun W => Tryd.strings_LastIndex s ⟨#[35]⟩ (by omega) W
  rcases last_one_ge (bl s) 35 with h1 | ⟨i, h1, h2, h3⟩
  · have HV : Hid (verF (bl s) = none) := verF_none fun t hv => by have := ver_last hv; omega
    rw [h1] at HL
    clear h1
    go_enter Tryd.func104, Tryd.ntmps104
    go_wp2_with (go_at_call 113; refine (HL.out _).mono ?_; rintro e w' ⟨rfl, rfl⟩)
    go_ret2
    exact ⟨by rw [HV.out]; rfl, Below.refl _ _⟩
  · rw [h1] at HL
    have hi : i < s.size := h2
    obtain ⟨t, htt⟩ : ∃ t : ByteArray, t = s.extract 0 i := ⟨_, rfl⟩
    have hbt : bl t = (bl s).take i := by rw [htt, bl_extract]; simp
    have HC : Hid (∀ W, Tab W → Calls Tryd.prog 75 #[.string (s.extract 0 i)] W fun e w' => e = .returned (.tuple #[.string (appT t), .bool (appOk t)]) ∧ Below W.heap.size W w') := fun W hW => by
      rw [← htt]; exact appendChecksum_any t W (by rw [← bl_size, hbt, List.length_take, bl_size]; omega) hW
    have HVer : Hid (∀ t', Ver t' (bl s) → t' = bl t ∧ appOk t = true ∧ appT t = s) := fun t' hv => by
      have e1 := ver_last hv
      have e2 : t'.length = i := by omega
      have e3 := ver_take hv
      rw [e2, ← hbt] at e3
      subst e3
      have e4 : appOk t = true := appOk_iff.2 ⟨by rw [← bl_size]; exact hv.2.2.1, hv.1, by rw [hv.2.1]; exact hv.2.2.2⟩
      refine ⟨rfl, e4, ?_⟩
      unfold appT
      rw [e4, if_pos rfl, hv.2.1]
      exact (bl_ext rfl).symm
    have HGet : Hid (appOk t = true → bl (appT t) = bl s → Ver (bl t) (bl s)) := fun h5 h6 => by
      obtain ⟨a1, a2, a3⟩ := appOk_iff.1 h5
      have a4 : bl (appT t) = sealL (bl t) := by unfold appT; rw [h5, if_pos rfl, bl_mk]
      exact ⟨a2, by rw [← a4]; exact h6, by rw [bl_size]; exact a1, by rw [← h6, a4]; exact a3⟩
    clear h1 h2 h3
    cases hok : appOk t
    · have HV : Hid (verF (bl s) = none) := verF_none fun t' hv => by have := (HVer.out t' hv).2.1; rw [hok] at this; cases this
      rw [hok] at HC
      clear hok HVer HGet htt hbt
      go_enter Tryd.func104, Tryd.ntmps104
      go_wp2_with (first | (go_at_call 113; refine (HL.out _).mono ?_; rintro e w' ⟨rfl, rfl⟩) | (go_at_call 75; refine (HC.out _ (by assumption)).mono ?_; rintro e w1 ⟨rfl, hb1⟩))
      go_ret2
      exact ⟨by rw [HV.out]; rfl, hb1⟩
    · rw [hok] at HC
      have hne := str_beq (appT t) s
      by_cases heq : bl (appT t) = bl s
      · have HV : Hid (verF (bl s) = some (bl t)) := verF_some (HGet.out hok heq)
        have HT : Hid (optT (some (bl t)) = s.extract 0 i) := by unfold optT Hid; rw [← htt]; exact (bl_ext rfl).symm
        rw [decide_eq_true heq] at hne
        clear hok HVer HGet htt hbt heq
        generalize appT t = at' at HC hne
        go_enter Tryd.func104, Tryd.ntmps104
        go_wp2_with (first | (go_at_call 113; refine (HL.out _).mono ?_; rintro e w' ⟨rfl, rfl⟩) | (go_at_call 75; refine (HC.out _ (by assumption)).mono ?_; rintro e w1 ⟨rfl, hb1⟩))
        go_ret2
        exact ⟨by rw [HV.out, HT.out]; rfl, hb1⟩
      · have HV : Hid (verF (bl s) = none) := verF_none fun t' hv => by have := (HVer.out t' hv).2.2; exact heq (by rw [this])
        rw [decide_eq_false heq] at hne
        clear hok HVer HGet htt hbt heq
        generalize appT t = at' at HC hne
        go_enter Tryd.func104, Tryd.ntmps104
        go_wp2_with (first | (go_at_call 113; refine (HL.out _).mono ?_; rintro e w' ⟨rfl, rfl⟩) | (go_at_call 75; refine (HC.out _ (by assumption)).mono ?_; rintro e w1 ⟨rfl, hb1⟩))
        go_ret2
        exact ⟨by rw [HV.out]; rfl, hb1⟩
end Go.Proofs.YtojceibamgodbaaDoor
