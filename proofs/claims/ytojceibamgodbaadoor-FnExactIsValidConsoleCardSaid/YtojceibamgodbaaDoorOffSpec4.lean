/- Validity of an office, in the reference: sums, the whole. -/
import Derived.Test.YtojceibamgodbaaDoorOffSpec3
namespace Go.Proofs.YtojceibamgodbaaDoor
open Go.RowKit

theorem calls_since0B {P : Program} {f : FuncId} {args : Array Value} {W : World} {b b' : Bool} (hb : Hid (b = b'))
    (h : Calls P f args W fun e w' => e = .returned (.bool b) ∧ Below W.heap.size W w') : Calls P f args W fun e w' => e = .returned (.bool b') ∧ ∃ q' : Since W.heap.size W, w' = q'.val := by
  have := hb.out; subst this; exact calls_since0 h
theorem l32All_any (n : Int) (w : World) : Calls Tryd.prog 88 #[.int .i64 n] w fun e w' => e = .returned (.bool (inR n 0 99999)) ∧ w = w' := by
  go_enter Tryd.func88, Tryd.ntmps88
  go_wp2_with fail
  refine (l1In_any n 0 99999 _).mono ?_
  rintro e w' ⟨rfl, rfl⟩
  go_wp2
  go_ret
  exact ⟨rfl, rfl⟩

set_option maxHeartbeats 1000000 in
theorem l32Sums_any (x : Off) (w : World) (h : OffR w w.heap.size x) (tl : x.t.length ≤ 8) (ol : x.o.length ≤ 8) (ht : ∀ i (hi : i < x.t.length), x.t[i].ok = true) (ho : ∀ i (hi : i < x.o.length), x.o[i].ok x.t = true) :
    Calls Tryd.prog 89 #[x.val] w fun e w' => e = .returned (.tuple #[.int .i64 (inSum x.t), .int .i64 (outSum every x.o)]) ∧ Below w.heap.size w w' := by
  have HT := Lib.hid ht; clear ht
  have HO := Lib.hid ho; clear ho
  have HF : Hid (inFrom 0 (x.t.drop 0) = inSum x.t) := rfl
  have HG : Hid (outFrom every 0 (x.o.drop 0) = outSum every x.o) := rfl
  go_enter Tryd.func89, Tryd.ntmps89
  go_wp2
  have hb0 := (Below.refl w.heap.size w).alloc (Nat.le_refl _) (.cells #[.slice x.TA x.t.length x.tc, .slice x.OA x.o.length x.oc, .int .i64 x.got, .int .i64 x.sold, .int .i64 x.missed] 35)
  have hS := OffS.of (x := x) (Lies.new w 35 #[.slice x.TA x.t.length x.tc, .slice x.OA x.o.length x.oc, .int .i64 x.got, .int .i64 x.sold, .int .i64 x.missed])
  have hR := h.up hb0 (Nat.le_refl _)
  generalize w.alloc (.cells #[.slice x.TA x.t.length x.tc, .slice x.OA x.o.length x.oc, .int .i64 x.got, .int .i64 x.sold, .int .i64 x.missed] 35) = W at hb0 hS hR ⊢
  obtain ⟨s0, s1, s2, s3, s4⟩ := hS
  have hrt := hR.ts.el
  have hro := hR.os.el
  go_loopw [4, 6] (fun s i wr => ∃ (k : Nat) (t : Int), k ≤ x.t.length ∧ i = .int .i64 k ∧ s = .int .i64 t ∧ (0 ≤ t ∧ t ≤ 9999 * (k : Int)) ∧ (∃ q : Since W.heap.size W, wr = q.val) ∧ Hid (inFrom t (x.t.drop k) = inSum x.t)) (fun _ i _ => x.t.length - (intOf i).toNat)
  case atStart => exact ⟨0, 0, Nat.zero_le _, rfl, rfl, by omega, ⟨Since.start _ _, rfl⟩, HF⟩
  case round =>
    obtain ⟨k, t, hk, rfl, rfl, ⟨t0, t1⟩, ⟨q, rfl⟩, HR⟩ := hrel
    by_cases hlt : k < x.t.length
    · obtain ⟨b, off, hA, hb, hcell⟩ := hrt (by omega)
      obtain ⟨e0, e1⟩ := hcell k hlt
      obtain ⟨_, x1, x2⟩ := Tray.bounds (HT.out k hlt)
      have HS := Lib.hid (in_step hlt t)
      obtain ⟨r, hre⟩ : ∃ r, r = x.t[k] := ⟨_, rfl⟩
      rw [← hre] at e0 e1 HS x1 x2
      simp only [hA] at s0
      clear hre hcell hrt hro hA
      go_wp2
      go_roundw
      case rel => exact ⟨k + 1, t + r.c, by omega, by go_num, rfl, by omega, ⟨q, rfl⟩, by have h1 := HR.out; rw [HS.out] at h1; exact h1⟩
      case measure => simp [intOf]; omega
    · have HE : Hid (t = inSum x.t) := by
        have h1 := HR.out; rw [List.drop_eq_nil_of_le (by omega)] at h1; exact h1
      clear hrt
      go_wp2
      go_loopw [5, 7] (fun s i wr => ∃ (k : Nat) (u : Int), k ≤ x.o.length ∧ i = .int .i64 k ∧ s = .int .i64 u ∧ (0 ≤ u ∧ u ≤ 9999 * (k : Int)) ∧ (∃ q : Since W.heap.size W, wr = q.val) ∧ Hid (outFrom every u (x.o.drop k) = outSum every x.o)) (fun _ i _ => x.o.length - (intOf i).toNat)
      case atStart => exact ⟨0, 0, Nat.zero_le _, rfl, rfl, by omega, ⟨q, rfl⟩, HG⟩
      case round =>
        obtain ⟨j, u, hj, rfl, rfl, ⟨u0, u1⟩, ⟨p, rfl⟩, HU⟩ := hrel
        by_cases hlj : j < x.o.length
        · obtain ⟨b, off, hA, hb, hcell⟩ := hro (by omega)
          obtain ⟨e0, e1, e2⟩ := hcell j hlj
          obtain ⟨_, _, x1, x2⟩ := Outing.bounds (HO.out j hlj)
          have HS : Hid (outFrom every u (x.o.drop j) = outFrom every (u + x.o[j].c) (x.o.drop (j + 1))) := out_step (f := every) hlj u
          obtain ⟨r, hre⟩ : ∃ r, r = x.o[j] := ⟨_, rfl⟩
          rw [← hre] at e0 e1 e2 HS x1 x2
          simp only [hA] at s1
          clear hre hcell hro hA
          go_wp2
          go_roundw
          case rel => exact ⟨j + 1, u + r.c, by omega, by go_num, rfl, by omega, ⟨p, rfl⟩, by have h1 := HU.out; rw [HS.out] at h1; exact h1⟩
          case measure => simp [intOf]; omega
        · have HE2 : Hid (u = outSum every x.o) := by
            have h1 := HU.out; rw [List.drop_eq_nil_of_le (by omega)] at h1; exact h1
          clear hro
          go_wp2
          go_ret2
          exact ⟨by rw [← HE.out, ← HE2.out]; rfl, hb0.trans (p.below.mono hb0.size)⟩

set_option maxHeartbeats 2000000 in
theorem l32Good_any (x : Off) (w : World) (h : OffR w w.heap.size x) :
    Calls Tryd.prog 59 #[x.val] w fun e w' => e = .returned (.bool (goodOff x)) ∧ Below w.heap.size w w' := by
  have hb0 := (Below.refl w.heap.size w).alloc (Nat.le_refl _) (.cells #[.slice x.TA x.t.length x.tc, .slice x.OA x.o.length x.oc, .int .i64 x.got, .int .i64 x.sold, .int .i64 x.missed] 35)
  have hS := OffS.of (x := x) (Lies.new w 35 #[.slice x.TA x.t.length x.tc, .slice x.OA x.o.length x.oc, .int .i64 x.got, .int .i64 x.sold, .int .i64 x.missed])
  have hR := h.up hb0 (Nat.le_refl _)
  have HG : Hid (goodOff x = ((traysOk x.t && decide (x.t.length ≤ 8)) && (outsOk x.t x.o && decide (x.o.length ≤ 8)) && inR x.got 0 99999 && inR x.sold 0 99999 && inR x.missed 0 99999 && sumOk x)) := by
    unfold Hid goodOff sizesOk numsOk
    generalize traysOk x.t = a1; generalize outsOk x.t x.o = a2; generalize decide (x.t.length ≤ 8) = a3; generalize decide (x.o.length ≤ 8) = a4; generalize inR x.got 0 99999 = a5; generalize inR x.sold 0 99999 = a6; generalize inR x.missed 0 99999 = a7; generalize sumOk x = a8
    cases a1 <;> cases a2 <;> cases a3 <;> cases a4 <;> cases a5 <;> cases a6 <;> cases a7 <;> rfl
  obtain ⟨v1, hv1⟩ : ∃ v, (traysOk x.t && decide (x.t.length ≤ 8)) = v := ⟨_, rfl⟩
  obtain ⟨v2, hv2⟩ : ∃ v, (outsOk x.t x.o && decide (x.o.length ≤ 8)) = v := ⟨_, rfl⟩
  obtain ⟨v3, hv3⟩ : ∃ v, inR x.got 0 99999 = v := ⟨_, rfl⟩
  obtain ⟨v4, hv4⟩ : ∃ v, inR x.sold 0 99999 = v := ⟨_, rfl⟩
  obtain ⟨v5, hv5⟩ : ∃ v, inR x.missed 0 99999 = v := ⟨_, rfl⟩
  rw [hv1, hv2, hv3, hv4, hv5] at HG
  have cT : ∀ W, OffR W W.heap.size x → Calls Tryd.prog 86 #[x.val] W fun e w' => e = .returned (.bool v1) ∧ Below W.heap.size W w' := fun W hW => by rw [← hv1]; exact l32Trays_any x W hW
  have c3 := fun W => l32All_any x.got W
  have c4 := fun W => l32All_any x.sold W
  have c5 := fun W => l32All_any x.missed W
  rw [hv3] at c3
  rw [hv4] at c4
  rw [hv5] at c5
  have HV1 := Lib.hid hv1; clear hv1
  have HV2 := Lib.hid hv2; clear hv2
  have HV3 := Lib.hid hv3; clear hv3
  have HV4 := Lib.hid hv4; clear hv4
  have HV5 := Lib.hid hv5; clear hv5
  cases v1
  · go_enter Tryd.func59, Tryd.ntmps59
    go_wp2_with fail
    generalize w.alloc (.cells #[.slice x.TA x.t.length x.tc, .slice x.OA x.o.length x.oc, .int .i64 x.got, .int .i64 x.sold, .int .i64 x.missed] 35) = W at hb0 hS hR ⊢
    refine (calls_since0 (cT W hR)).mono ?_
    rintro e w1 ⟨rfl, q1, rfl⟩
    go_wp2
    go_ret
    exact ⟨by rw [HG.out]; rfl, hb0.trans (q1.below.mono hb0.size)⟩
  · have h1 := HV1.out
    rw [Bool.and_eq_true] at h1
    have tl : x.t.length ≤ 8 := of_decide_eq_true h1.2
    have HALL := Lib.hid (traysFrom_all _ _ _ h1.1)
    have cO : ∀ W, OffR W W.heap.size x → Calls Tryd.prog 87 #[x.val] W fun e w' => e = .returned (.bool v2) ∧ Below W.heap.size W w' := fun W hW => by rw [← HV2.out]; exact l32Outs_any x W hW HALL.out
    clear h1
    cases v2
    · go_enter Tryd.func59, Tryd.ntmps59
      go_wp2_with fail
      generalize w.alloc (.cells #[.slice x.TA x.t.length x.tc, .slice x.OA x.o.length x.oc, .int .i64 x.got, .int .i64 x.sold, .int .i64 x.missed] 35) = W at hb0 hS hR ⊢
      obtain ⟨s0, s1, s2, s3, s4⟩ := hS
      refine (calls_since0 (cT W hR)).mono ?_
      rintro e w1 ⟨rfl, q1, rfl⟩
      go_wp2_with fail
      refine (calls_since (Nat.le_refl _) (cO _ (hR.at q1))).mono ?_
      rintro e w2 ⟨rfl, q2, rfl⟩
      go_wp2
      go_ret
      exact ⟨by rw [HG.out]; rfl, hb0.trans (q2.below.mono hb0.size)⟩
    · have h2 := HV2.out
      rw [Bool.and_eq_true] at h2
      have ol : x.o.length ≤ 8 := of_decide_eq_true h2.2
      have HOLL := Lib.hid (outsFrom_all _ _ _ h2.1)
      have cM := fun W hW => l32Sums_any x W hW tl ol HALL.out HOLL.out
      have hi := inFrom_bd x.t 0 HALL.out
      have hj := outFrom_bd every x.t x.o 0 HOLL.out
      have HSM : Hid (sumOk x = decide (x.got = inSum x.t + outSum every x.o + x.sold + x.missed)) := rfl
      change 0 ≤ inSum x.t ∧ inSum x.t ≤ _ at hi
      change 0 ≤ outSum every x.o ∧ outSum every x.o ≤ _ at hj
      generalize inSum x.t = I at cM hi HSM
      generalize outSum every x.o = J at cM hj HSM
      obtain ⟨i1, i2⟩ := hi
      obtain ⟨j1, j2⟩ := hj
      clear h2
      by_cases hall3 : (v3 && v4 && v5) = true
      · rw [Bool.and_eq_true, Bool.and_eq_true] at hall3
        obtain ⟨⟨rfl, rfl⟩, rfl⟩ := hall3
        obtain ⟨g1, g2⟩ := inR_iff.1 HV3.out
        obtain ⟨g3, g4⟩ := inR_iff.1 HV4.out
        obtain ⟨g5, g6⟩ := inR_iff.1 HV5.out
        obtain ⟨z, hz⟩ : ∃ z, decide (x.got = I + J + x.sold + x.missed) = z := ⟨_, rfl⟩
        have hzz : (x.got == I + J + x.sold + x.missed) = z := by rw [← hz, Bool.eq_iff_iff]; simp
        have HZ := Lib.hid hz; clear hz
        cases z
        all_goals
          go_enter Tryd.func59, Tryd.ntmps59
          go_wp2_with fail
          generalize w.alloc (.cells #[.slice x.TA x.t.length x.tc, .slice x.OA x.o.length x.oc, .int .i64 x.got, .int .i64 x.sold, .int .i64 x.missed] 35) = W at hb0 hS hR ⊢
          obtain ⟨s0, s1, s2, s3, s4⟩ := hS
          refine (calls_since0 (cT W hR)).mono ?_
          rintro e w1 ⟨rfl, q1, rfl⟩
          go_wp2_with fail
          refine (calls_since (Nat.le_refl _) (cO _ (hR.at q1))).mono ?_
          rintro e w2 ⟨rfl, q2, rfl⟩
          go_wp2_with fail
          refine (c3 _).mono ?_
          rintro e w3 ⟨rfl, rfl⟩
          go_wp2_with fail
          refine (c4 _).mono ?_
          rintro e w3 ⟨rfl, rfl⟩
          go_wp2_with fail
          refine (c5 _).mono ?_
          rintro e w3 ⟨rfl, rfl⟩
          go_wp2_with fail
          refine (calls_since (Nat.le_refl _) (cM _ (hR.at q2))).mono ?_
          rintro e w4 ⟨rfl, q4, rfl⟩
          go_wp2
          go_ret
          exact ⟨by rw [HG.out, HSM.out, HZ.out]; rfl, hb0.trans (q4.below.mono hb0.size)⟩
      · have HGF : Hid (goodOff x = false) := by
          unfold Hid; rw [HG.out]
          cases v3 <;> cases v4 <;> cases v5 <;> first | rfl | exact absurd rfl hall3
        cases v3
        all_goals (try cases v4)
        all_goals (try cases v5)
        all_goals first
          | exact absurd rfl hall3
          | skip
        all_goals
          clear hall3
          go_enter Tryd.func59, Tryd.ntmps59
          go_wp2_with fail
          generalize w.alloc (.cells #[.slice x.TA x.t.length x.tc, .slice x.OA x.o.length x.oc, .int .i64 x.got, .int .i64 x.sold, .int .i64 x.missed] 35) = W at hb0 hS hR ⊢
          obtain ⟨s0, s1, s2, s3, s4⟩ := hS
          refine (calls_since0 (cT W hR)).mono ?_
          rintro e w1 ⟨rfl, q1, rfl⟩
          go_wp2_with fail
          refine (calls_since (Nat.le_refl _) (cO _ (hR.at q1))).mono ?_
          rintro e w2 ⟨rfl, q2, rfl⟩
          go_wp2_with fail
          refine (c3 _).mono ?_
          rintro e w3 ⟨rfl, rfl⟩
          go_wp2_with (first | (go_at_call 88; with_reducible refine (c4 _).mono ?_; rintro e w4 ⟨rfl, rfl⟩) | (go_at_call 88; with_reducible refine (c5 _).mono ?_; rintro e w4 ⟨rfl, rfl⟩))
          go_ret
          exact ⟨by rw [HGF.out]; rfl, hb0.trans (q2.below.mono hb0.size)⟩
end Go.Proofs.YtojceibamgodbaaDoor
