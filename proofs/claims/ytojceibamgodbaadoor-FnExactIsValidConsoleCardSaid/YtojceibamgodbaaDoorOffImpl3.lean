/- Validity of an office, in the program. -/
import Derived.Test.YtojceibamgodbaaDoorOffImpl2
namespace Go.Proofs.YtojceibamgodbaaDoor
open Go.RowKit

set_option maxRecDepth 100000 in
set_option maxHeartbeats 2000000 in
theorem isOfficeValid_no (x : Off) (g : Nat) (w : World) (h : OffAt w w.heap.size g x) (hno : (sizesOk x && numsOk x) = false) :
    Calls Tryd.prog 37 #[.pointer (some ⟨g, 0, none⟩)] w fun e w' => e = .returned (.bool (goodOff x)) ∧ Below w.heap.size w w' := by
  have s0 : w.cell? ⟨g, 0, none⟩ = some (.slice x.TA x.t.length x.tc) := h.s.c0 (Since.start _ _)
  have s1 : w.cell? ⟨g, 1, none⟩ = some (.slice x.OA x.o.length x.oc) := h.s.c1 (Since.start _ _)
  have s2 : w.cell? ⟨g, 2, none⟩ = some (.int .i64 x.got) := h.s.c2 (Since.start _ _)
  have s3 : w.cell? ⟨g, 3, none⟩ = some (.int .i64 x.sold) := h.s.c3 (Since.start _ _)
  have s4 : w.cell? ⟨g, 4, none⟩ = some (.int .i64 x.missed) := h.s.c4 (Since.start _ _)
  have hl := h.r.ts.big
  have hm := h.r.os.big
  have c3 := fun W => inRange_any x.got 0 99999 W
  have c4 := fun W => inRange_any x.sold 0 99999 W
  have c5 := fun W => inRange_any x.missed 0 99999 W
  have HNO := Lib.hid hno; clear hno
  have HG : Hid (goodOff x = (sizesOk x && (inR x.got 0 99999 && inR x.sold 0 99999 && inR x.missed 0 99999) && traysOk x.t && outsOk x.t x.o && sumOk x)) := rfl
  by_cases hz : x.t.length ≤ 8 ∧ x.o.length ≤ 8
  · obtain ⟨tl, ol⟩ := hz
    have HZ : Hid (sizesOk x = true) := by unfold Hid sizesOk; rw [decide_eq_true tl, decide_eq_true ol]; rfl
    obtain ⟨v3, hv3⟩ : ∃ v, inR x.got 0 99999 = v := ⟨_, rfl⟩
    obtain ⟨v4, hv4⟩ : ∃ v, inR x.sold 0 99999 = v := ⟨_, rfl⟩
    obtain ⟨v5, hv5⟩ : ∃ v, inR x.missed 0 99999 = v := ⟨_, rfl⟩
    rw [hv3] at c3
    rw [hv4] at c4
    rw [hv5] at c5
    rw [hv3, hv4, hv5] at HG
    have HV3 := Lib.hid hv3; clear hv3
    have HV4 := Lib.hid hv4; clear hv4
    have HV5 := Lib.hid hv5; clear hv5
    by_cases hall3 : (v3 && v4 && v5) = true
    · exfalso
      have hn : numsOk x = true := by unfold numsOk; rw [HV3.out, HV4.out, HV5.out]; exact hall3
      have hno := HNO.out
      rw [HZ.out, hn] at hno; cases hno
    · have HGF : Hid (goodOff x = false) := by
        unfold Hid; rw [HG.out, HZ.out]
        cases v3 <;> cases v4 <;> cases v5 <;> first | rfl | exact absurd rfl hall3
      cases v3
      all_goals (try cases v4)
      all_goals (try cases v5)
      all_goals first
        | exact absurd rfl hall3
        | skip
      all_goals
        clear hall3
        go_enter Tryd.func37, Tryd.ntmps37
        go_wp2_with fail
        refine (c3 _).mono ?_
        rintro e w3 ⟨rfl, rfl⟩
        go_wp2_with (first | (go_at_call 51; with_reducible refine (c4 _).mono ?_; rintro e w4 ⟨rfl, rfl⟩) | (go_at_call 51; with_reducible refine (c5 _).mono ?_; rintro e w4 ⟨rfl, rfl⟩))
        go_ret
        exact ⟨by rw [HGF.out]; rfl, Below.refl _ _⟩
  · have HGF : Hid (goodOff x = false) := by
      unfold Hid; rw [HG.out]
      have : sizesOk x = false := by
        unfold sizesOk
        by_cases h1 : x.t.length ≤ 8
        · rw [decide_eq_false (show ¬ x.o.length ≤ 8 from fun h2 => hz ⟨h1, h2⟩), Bool.and_false]
        · rw [decide_eq_false h1, Bool.false_and]
      rw [this]; rfl
    by_cases h1 : x.t.length ≤ 8
    · have h2 : ¬ x.o.length ≤ 8 := fun h2 => hz ⟨h1, h2⟩
      clear hz
      go_enter Tryd.func37, Tryd.ntmps37
      go_wp2
      go_ret
      exact ⟨by rw [HGF.out]; rfl, Below.refl _ _⟩
    · clear hz
      go_enter Tryd.func37, Tryd.ntmps37
      go_wp2
      go_ret
      exact ⟨by rw [HGF.out]; rfl, Below.refl _ _⟩
end Go.Proofs.YtojceibamgodbaaDoor
