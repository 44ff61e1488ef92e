/- Tr03: the texts OffSpec4 OffImpl1 OffImpl2 OffImpl3 OffImpl4 OffIn Own Cat Splice QTray QOuting, joined into one file. -/
import Derived.Deep.RegionHeld3
import Derived.OwnWalk
import Derived.Maps.AppendAt
import Derived.Lib.Overlaps
import Derived.Lib.SliceRun
import Derived.Laws.IdiomCopy
import Derived.Deep.RegionLaw
import Derived.Laws.Externs
import Derived.Lib.AppendZerosOnto
import Derived.StillTailTactics
import Derived.Test.YtdiojhjkcholiaaDoorTr01
import Derived.Test.YtdiojhjkcholiaaDoorTr02

set_option linter.unusedVariables false

/- Validity of an office, in the reference: sums, the whole. -/
namespace Go.Proofs.YtdiojhjkcholiaaDoor
open Go.RowKit

theorem calls_since0B {P : Program} {f : FuncId} {args : Array Value} {W : World} {b b' : Bool} (hb : Hid (b = b'))
    (h : Calls P f args W fun e w' => e = .returned (.bool b) ∧ Below W.heap.size W w') : Calls P f args W fun e w' => e = .returned (.bool b') ∧ ∃ q' : Since W.heap.size W, w' = q'.val := by
  have := hb.out; subst this; exact calls_since0 h
theorem l32All_any (n : Int) (w : World) : Calls Tryd.prog 55 #[.int .i64 n] w fun e w' => e = .returned (.bool (inR n 0 99999)) ∧ w = w' := by
  go_enter Tryd.func55, Tryd.ntmps55
  go_wp2_with fail
  refine (l1In_any n 0 99999 _).mono ?_
  rintro e w' ⟨rfl, rfl⟩
  go_wp2
  go_ret
  exact ⟨rfl, rfl⟩

set_option maxHeartbeats 1000000 in
theorem l32Sums_any (x : Off) (w : World) (h : OffR w w.heap.size x) (tl : x.t.length ≤ 8) (ol : x.o.length ≤ 8) (ht : ∀ i (hi : i < x.t.length), x.t[i].ok = true) (ho : ∀ i (hi : i < x.o.length), x.o[i].ok x.t = true) :
    Calls Tryd.prog 50 #[x.val] w fun e w' => e = .returned (.tuple #[.int .i64 (inSum x.t), .int .i64 (outSum every x.o)]) ∧ Below w.heap.size w w' := by
  have HT := Lib.hid ht; clear ht
  have HO := Lib.hid ho; clear ho
  have HF : Hid (inFrom 0 (x.t.drop 0) = inSum x.t) := rfl
  have HG : Hid (outFrom every 0 (x.o.drop 0) = outSum every x.o) := rfl
  go_enter Tryd.func50, Tryd.ntmps50
  go_wp2
  have hb0 := (Below.refl w.heap.size w).alloc (Nat.le_refl _) (.cells #[.slice x.TA x.t.length x.tc, .slice x.OA x.o.length x.oc, .int .i64 x.got, .int .i64 x.sold, .int .i64 x.missed] 32)
  have hS := OffS.of (x := x) (Lies.new w 32 #[.slice x.TA x.t.length x.tc, .slice x.OA x.o.length x.oc, .int .i64 x.got, .int .i64 x.sold, .int .i64 x.missed])
  have hR := h.up hb0 (Nat.le_refl _)
  generalize w.alloc (.cells #[.slice x.TA x.t.length x.tc, .slice x.OA x.o.length x.oc, .int .i64 x.got, .int .i64 x.sold, .int .i64 x.missed] 32) = W at hb0 hS hR ⊢
  obtain ⟨s0, s1, s2, s3, s4⟩ := hS
  have hrt := hR.ts.el
  have hro := hR.os.el
  go_loopw [4, 6] (fun s i wr => ∃ (k : Nat) (t : Int), k ≤ x.t.length ∧ i = .int .i64 k ∧ s = .int .i64 t ∧ (0 ≤ t ∧ t ≤ 9999 * (k : Int)) ∧ (∃ q : Since W.heap.size W, wr = q.val) ∧ Hid (inFrom t (x.t.drop k) = inSum x.t)) (fun _ i _ => x.t.length - (intOf i).toNat)
  case atStart => exact ⟨0, 0, Nat.zero_le _, rfl, rfl, by omega, ⟨Since.start _ _, rfl⟩, HF⟩
  case round =>
    obtain ⟨k, t, hk, rfl, rfl, ⟨t0, t1⟩, ⟨q, rfl⟩, HR⟩ := hrel
    by_cases hlt : k < x.t.length
    · obtain ⟨b, off, hA, hb, hcell⟩ := hrt (by omega)
      obtain ⟨e0, e1⟩ := hcell k hlt
      obtain ⟨_, x1, x2⟩ := Tray.bounds (HT.out k hlt)
      have HS := Lib.hid (in_step hlt t)
      obtain ⟨r, hre⟩ : ∃ r, r = x.t[k] := ⟨_, rfl⟩
      rw [← hre] at e0 e1 HS x1 x2
      simp only [hA] at s0
      clear hre hcell hrt hro hA
      go_wp2
      go_roundw
      case rel => exact ⟨k + 1, t + r.c, by omega, by go_num, rfl, by omega, ⟨q, rfl⟩, by have h1 := HR.out; rw [HS.out] at h1; exact h1⟩
      case measure => simp [intOf]; omega
    · have HE : Hid (t = inSum x.t) := by
        have h1 := HR.out; rw [List.drop_eq_nil_of_le (by omega)] at h1; exact h1
      clear hrt
      go_wp2
      go_loopw [5, 7] (fun s i wr => ∃ (k : Nat) (u : Int), k ≤ x.o.length ∧ i = .int .i64 k ∧ s = .int .i64 u ∧ (0 ≤ u ∧ u ≤ 9999 * (k : Int)) ∧ (∃ q : Since W.heap.size W, wr = q.val) ∧ Hid (outFrom every u (x.o.drop k) = outSum every x.o)) (fun _ i _ => x.o.length - (intOf i).toNat)
      case atStart => exact ⟨0, 0, Nat.zero_le _, rfl, rfl, by omega, ⟨q, rfl⟩, HG⟩
      case round =>
        obtain ⟨j, u, hj, rfl, rfl, ⟨u0, u1⟩, ⟨p, rfl⟩, HU⟩ := hrel
        by_cases hlj : j < x.o.length
        · obtain ⟨b, off, hA, hb, hcell⟩ := hro (by omega)
          obtain ⟨e0, e1, e2⟩ := hcell j hlj
          obtain ⟨_, _, x1, x2⟩ := Outing.bounds (HO.out j hlj)
          have HS : Hid (outFrom every u (x.o.drop j) = outFrom every (u + x.o[j].c) (x.o.drop (j + 1))) := out_step (f := every) hlj u
          obtain ⟨r, hre⟩ : ∃ r, r = x.o[j] := ⟨_, rfl⟩
          rw [← hre] at e0 e1 e2 HS x1 x2
          simp only [hA] at s1
          clear hre hcell hro hA
          go_wp2
          go_roundw
          case rel => exact ⟨j + 1, u + r.c, by omega, by go_num, rfl, by omega, ⟨p, rfl⟩, by have h1 := HU.out; rw [HS.out] at h1; exact h1⟩
          case measure => simp [intOf]; omega
        · have HE2 : Hid (u = outSum every x.o) := by
            have h1 := HU.out; rw [List.drop_eq_nil_of_le (by omega)] at h1; exact h1
          clear hro
          go_wp2
          go_ret2
          exact ⟨by rw [← HE.out, ← HE2.out]; rfl, hb0.trans (p.below.mono hb0.size)⟩

set_option maxHeartbeats 2000000 in
theorem l32Good_any (x : Off) (w : World) (h : OffR w w.heap.size x) :
    Calls Tryd.prog 31 #[x.val] w fun e w' => e = .returned (.bool (goodOff x)) ∧ Below w.heap.size w w' := by
  have hb0 := (Below.refl w.heap.size w).alloc (Nat.le_refl _) (.cells #[.slice x.TA x.t.length x.tc, .slice x.OA x.o.length x.oc, .int .i64 x.got, .int .i64 x.sold, .int .i64 x.missed] 32)
  have hS := OffS.of (x := x) (Lies.new w 32 #[.slice x.TA x.t.length x.tc, .slice x.OA x.o.length x.oc, .int .i64 x.got, .int .i64 x.sold, .int .i64 x.missed])
  have hR := h.up hb0 (Nat.le_refl _)
  have HG : Hid (goodOff x = ((traysOk x.t && decide (x.t.length ≤ 8)) && (outsOk x.t x.o && decide (x.o.length ≤ 8)) && inR x.got 0 99999 && inR x.sold 0 99999 && inR x.missed 0 99999 && sumOk x)) := by
    unfold Hid goodOff sizesOk numsOk
    generalize traysOk x.t = a1; generalize outsOk x.t x.o = a2; generalize decide (x.t.length ≤ 8) = a3; generalize decide (x.o.length ≤ 8) = a4; generalize inR x.got 0 99999 = a5; generalize inR x.sold 0 99999 = a6; generalize inR x.missed 0 99999 = a7; generalize sumOk x = a8
    cases a1 <;> cases a2 <;> cases a3 <;> cases a4 <;> cases a5 <;> cases a6 <;> cases a7 <;> rfl
  obtain ⟨v1, hv1⟩ : ∃ v, (traysOk x.t && decide (x.t.length ≤ 8)) = v := ⟨_, rfl⟩
  obtain ⟨v2, hv2⟩ : ∃ v, (outsOk x.t x.o && decide (x.o.length ≤ 8)) = v := ⟨_, rfl⟩
  obtain ⟨v3, hv3⟩ : ∃ v, inR x.got 0 99999 = v := ⟨_, rfl⟩
  obtain ⟨v4, hv4⟩ : ∃ v, inR x.sold 0 99999 = v := ⟨_, rfl⟩
  obtain ⟨v5, hv5⟩ : ∃ v, inR x.missed 0 99999 = v := ⟨_, rfl⟩
  rw [hv1, hv2, hv3, hv4, hv5] at HG
  have cT : ∀ W, OffR W W.heap.size x → Calls Tryd.prog 53 #[x.val] W fun e w' => e = .returned (.bool v1) ∧ Below W.heap.size W w' := fun W hW => by rw [← hv1]; exact l32Trays_any x W hW
  have c3 := fun W => l32All_any x.got W
  have c4 := fun W => l32All_any x.sold W
  have c5 := fun W => l32All_any x.missed W
  rw [hv3] at c3
  rw [hv4] at c4
  rw [hv5] at c5
  have HV1 := Lib.hid hv1; clear hv1
  have HV2 := Lib.hid hv2; clear hv2
  have HV3 := Lib.hid hv3; clear hv3
  have HV4 := Lib.hid hv4; clear hv4
  have HV5 := Lib.hid hv5; clear hv5
  cases v1
  · go_enter Tryd.func31, Tryd.ntmps31
    go_wp2_with fail
    generalize w.alloc (.cells #[.slice x.TA x.t.length x.tc, .slice x.OA x.o.length x.oc, .int .i64 x.got, .int .i64 x.sold, .int .i64 x.missed] 32) = W at hb0 hS hR ⊢
    refine (calls_since0 (cT W hR)).mono ?_
    rintro e w1 ⟨rfl, q1, rfl⟩
    go_wp2
    go_ret
    exact ⟨by rw [HG.out]; rfl, hb0.trans (q1.below.mono hb0.size)⟩
  · have h1 := HV1.out
    rw [Bool.and_eq_true] at h1
    have tl : x.t.length ≤ 8 := of_decide_eq_true h1.2
    have HALL := Lib.hid (traysFrom_all _ _ _ h1.1)
    have cO : ∀ W, OffR W W.heap.size x → Calls Tryd.prog 54 #[x.val] W fun e w' => e = .returned (.bool v2) ∧ Below W.heap.size W w' := fun W hW => by rw [← HV2.out]; exact l32Outs_any x W hW HALL.out
    clear h1
    cases v2
    · go_enter Tryd.func31, Tryd.ntmps31
      go_wp2_with fail
      generalize w.alloc (.cells #[.slice x.TA x.t.length x.tc, .slice x.OA x.o.length x.oc, .int .i64 x.got, .int .i64 x.sold, .int .i64 x.missed] 32) = W at hb0 hS hR ⊢
      obtain ⟨s0, s1, s2, s3, s4⟩ := hS
      refine (calls_since0 (cT W hR)).mono ?_
      rintro e w1 ⟨rfl, q1, rfl⟩
      go_wp2_with fail
      refine (calls_since (Nat.le_refl _) (cO _ (hR.at q1))).mono ?_
      rintro e w2 ⟨rfl, q2, rfl⟩
      go_wp2
      go_ret
      exact ⟨by rw [HG.out]; rfl, hb0.trans (q2.below.mono hb0.size)⟩
    · have h2 := HV2.out
      rw [Bool.and_eq_true] at h2
      have ol : x.o.length ≤ 8 := of_decide_eq_true h2.2
      have HOLL := Lib.hid (outsFrom_all _ _ _ h2.1)
      have cM := fun W hW => l32Sums_any x W hW tl ol HALL.out HOLL.out
      have hi := inFrom_bd x.t 0 HALL.out
      have hj := outFrom_bd every x.t x.o 0 HOLL.out
      have HSM : Hid (sumOk x = decide (x.got = inSum x.t + outSum every x.o + x.sold + x.missed)) := rfl
      change 0 ≤ inSum x.t ∧ inSum x.t ≤ _ at hi
      change 0 ≤ outSum every x.o ∧ outSum every x.o ≤ _ at hj
      generalize inSum x.t = I at cM hi HSM
      generalize outSum every x.o = J at cM hj HSM
      obtain ⟨i1, i2⟩ := hi
      obtain ⟨j1, j2⟩ := hj
      clear h2
      by_cases hall3 : (v3 && v4 && v5) = true
      · rw [Bool.and_eq_true, Bool.and_eq_true] at hall3
        obtain ⟨⟨rfl, rfl⟩, rfl⟩ := hall3
        obtain ⟨g1, g2⟩ := inR_iff.1 HV3.out
        obtain ⟨g3, g4⟩ := inR_iff.1 HV4.out
        obtain ⟨g5, g6⟩ := inR_iff.1 HV5.out
        obtain ⟨z, hz⟩ : ∃ z, decide (x.got = I + J + x.sold + x.missed) = z := ⟨_, rfl⟩
        have hzz : (x.got == I + J + x.sold + x.missed) = z := by rw [← hz, Bool.eq_iff_iff]; simp
        have HZ := Lib.hid hz; clear hz
        cases z
        all_goals
          go_enter Tryd.func31, Tryd.ntmps31
          go_wp2_with fail
          generalize w.alloc (.cells #[.slice x.TA x.t.length x.tc, .slice x.OA x.o.length x.oc, .int .i64 x.got, .int .i64 x.sold, .int .i64 x.missed] 32) = W at hb0 hS hR ⊢
          obtain ⟨s0, s1, s2, s3, s4⟩ := hS
          refine (calls_since0 (cT W hR)).mono ?_
          rintro e w1 ⟨rfl, q1, rfl⟩
          go_wp2_with fail
          refine (calls_since (Nat.le_refl _) (cO _ (hR.at q1))).mono ?_
          rintro e w2 ⟨rfl, q2, rfl⟩
          go_wp2_with fail
          refine (c3 _).mono ?_
          rintro e w3 ⟨rfl, rfl⟩
          go_wp2_with fail
          refine (c4 _).mono ?_
          rintro e w3 ⟨rfl, rfl⟩
          go_wp2_with fail
          refine (c5 _).mono ?_
          rintro e w3 ⟨rfl, rfl⟩
          go_wp2_with fail
          refine (calls_since (Nat.le_refl _) (cM _ (hR.at q2))).mono ?_
          rintro e w4 ⟨rfl, q4, rfl⟩
          go_wp2
          go_ret
          exact ⟨by rw [HG.out, HSM.out, HZ.out]; rfl, hb0.trans (q4.below.mono hb0.size)⟩
      · have HGF : Hid (goodOff x = false) := by
          unfold Hid; rw [HG.out]
          cases v3 <;> cases v4 <;> cases v5 <;> first | rfl | exact absurd rfl hall3
        cases v3
        all_goals (try cases v4)
        all_goals (try cases v5)
        all_goals first
          | exact absurd rfl hall3
          | skip
        all_goals
          clear hall3
          go_enter Tryd.func31, Tryd.ntmps31
          go_wp2_with fail
          generalize w.alloc (.cells #[.slice x.TA x.t.length x.tc, .slice x.OA x.o.length x.oc, .int .i64 x.got, .int .i64 x.sold, .int .i64 x.missed] 32) = W at hb0 hS hR ⊢
          obtain ⟨s0, s1, s2, s3, s4⟩ := hS
          refine (calls_since0 (cT W hR)).mono ?_
          rintro e w1 ⟨rfl, q1, rfl⟩
          go_wp2_with fail
          refine (calls_since (Nat.le_refl _) (cO _ (hR.at q1))).mono ?_
          rintro e w2 ⟨rfl, q2, rfl⟩
          go_wp2_with fail
          refine (c3 _).mono ?_
          rintro e w3 ⟨rfl, rfl⟩
          go_wp2_with (first | (go_at_call 55; with_reducible refine (c4 _).mono ?_; rintro e w4 ⟨rfl, rfl⟩) | (go_at_call 55; with_reducible refine (c5 _).mono ?_; rintro e w4 ⟨rfl, rfl⟩))
          go_ret
          exact ⟨by rw [HGF.out]; rfl, hb0.trans (q2.below.mono hb0.size)⟩
end Go.Proofs.YtdiojhjkcholiaaDoor

/- Offices in the program: closures, the place of a tray, sums, the order of outings. -/
namespace Go.Proofs.YtdiojhjkcholiaaDoor
open Go.RowKit

/-- An office lies at the head of block g, below B, its slices too. -/
structure OffAt (w : World) (B g : Nat) (x : Off) : Prop where
  s : OffS B w g x
  lt : g < B
  r : OffR w B x
theorem OffAt.of {w : World} {g : Nat} {t : TypeId} {x : Off} (h : Lies w g t x.enc) (hr : OffR w w.heap.size x) : OffAt w w.heap.size g x := ⟨OffS.of h, h.lt, hr⟩
theorem OffAt.then {w w' : World} {B g : Nat} {x : Off} (h : OffAt w B g x) (hb : Below B w w') {B' : Nat} (hB : B ≤ B') : OffAt w' B' g x :=
  ⟨⟨fun p => h.s.c0 ⟨p.val, hb.trans (p.below.mono hB)⟩, fun p => h.s.c1 ⟨p.val, hb.trans (p.below.mono hB)⟩, fun p => h.s.c2 ⟨p.val, hb.trans (p.below.mono hB)⟩, fun p => h.s.c3 ⟨p.val, hb.trans (p.below.mono hB)⟩, fun p => h.s.c4 ⟨p.val, hb.trans (p.below.mono hB)⟩⟩, Nat.lt_of_lt_of_le h.lt hB, (h.r.below hb).mono hB⟩
theorem OffAt.at {w : World} {g : Nat} {x : Off} (h : OffAt w w.heap.size g x) (q : Since w.heap.size w) : OffAt q.val q.val.heap.size g x := h.then q.below q.size

/-- slices.IndexFunc over trays, whatever the function value. -/
theorem idxTrays_any (f : Tray → Bool) (g : Nat) (lb : Array Value) (eg : ∀ args w, (callFunc g args).run Tryd.prog w = .ok (.enter g args) w) (A : Option Addr) (c : Nat) (l : List Tray) (w : World)
    (hf : ∀ (t : Tray) (p : Since w.heap.size w), Calls Tryd.prog g (#[t.val] ++ lb) p.val fun e w' => e = .returned (.bool (f t)) ∧ Below p.val.heap.size p.val w') (h : TraysR w w.heap.size A l) :
    Calls Tryd.prog 62 #[.slice A l.length c, .func (.func g) #[] lb] w fun e w' => e = .returned (.int .i64 (idxFrom f 0 l)) ∧ Below w.heap.size w w' := by
  have hl := h.big
  have hrd := h.el
  have HF : Hid (idxFrom f 0 (l.drop 0) = idxFrom f 0 l) := rfl
  have HC := Lib.hid hf; clear hf
  go_enter Tryd.func62, Tryd.ntmps62
  go_wp2
  go_loopw [8] (fun i wr => ∃ (k : Nat), k ≤ l.length ∧ i = .int .i64 k ∧ (∃ q : Since w.heap.size w, wr = q.val) ∧ Hid (idxFrom f k (l.drop k) = idxFrom f 0 l)) (fun i _ => l.length - (intOf i).toNat)
  case atStart => exact ⟨0, Nat.zero_le _, rfl, ⟨Since.start _ _, rfl⟩, HF⟩
  case round =>
    obtain ⟨k, hk, rfl, ⟨q, rfl⟩, HR⟩ := hrel
    by_cases hlt : k < l.length
    · obtain ⟨b, off, rfl, hb, hcell⟩ := hrd (by omega)
      obtain ⟨c0, c1⟩ := hcell k hlt
      have hy := fun hv => idx_yes (f := f) hlt hv
      have hn := fun hv => idx_no (f := f) hlt hv
      obtain ⟨x, hxe⟩ : ∃ x, x = l[k] := ⟨_, rfl⟩
      rw [← hxe] at c0 c1 hy hn
      clear hxe hcell hrd
      cases hv : f x
      · have HE : Hid (idxFrom f (k + 1) (l.drop (k + 1)) = idxFrom f 0 l) := by rw [← hn hv]; exact HR.out
        have hcx := fun p => HC.out x p
        rw [hv] at hcx
        clear hy hn hv
        go_wp2_with fail
        refine (calls_since (Nat.le_refl _) (hcx _)).mono ?_
        rintro e w1 ⟨rfl, q1, rfl⟩
        go_wp2
        go_roundw
        case rel => exact ⟨k + 1, by omega, by go_num, ⟨q1, rfl⟩, HE⟩
        case measure => simp [intOf]; omega
      · have HE : Hid ((k : Int) = idxFrom f 0 l) := by rw [← hy hv]; exact HR.out
        have hcx := fun p => HC.out x p
        rw [hv] at hcx
        clear hy hn hv
        go_wp2_with fail
        refine (calls_since (Nat.le_refl _) (hcx _)).mono ?_
        rintro e w1 ⟨rfl, q1, rfl⟩
        go_wp2
        go_ret
        exact ⟨by rw [← HE.out]; rfl, q1.below⟩
    · have HE : Hid (-1 = idxFrom f 0 l) := by
        have h1 := HR.out; rw [List.drop_eq_nil_of_le (by omega)] at h1; exact h1
      clear hrd
      go_wp2
      go_ret
      exact ⟨by rw [← HE.out]; rfl, q.below⟩

/-- The closure of trayAt. -/
theorem ofKind_any (t : Tray) (gk : Nat) (kd : Int) (w : World) (hk : gk < w.heap.size) (hc : w.cell? ⟨gk, 0, none⟩ = some (.int .i64 kd)) :
    Calls Tryd.prog 63 #[t.val, .pointer (some ⟨gk, 0, none⟩)] w fun e w' => e = .returned (.bool (decide (t.k = kd))) ∧ Below w.heap.size w w' := by
  have hc' : (w.alloc (.cells #[.int .i64 t.k, .int .i64 t.c] 68)).cell? ⟨gk, 0, none⟩ = some (.int .i64 kd) := ((Below.refl w.heap.size w).alloc (Nat.le_refl _) _).cell hk |>.trans hc
  by_cases hz : t.k = kd
  all_goals
    obtain ⟨v, hv⟩ : ∃ v, (t.k == kd) = v := ⟨_, rfl⟩
    have HV : Hid (decide (t.k = kd) = v) := by rw [← hv]; unfold Hid; rw [Bool.eq_iff_iff]; simp
    clear hz
    go_enter Tryd.func63, Tryd.ntmps63
    go_wp2
    go_ret
    exact ⟨by rw [HV.out]; rfl, (Below.refl _ _).alloc (Nat.le_refl _) _⟩

theorem trayAt_any (x : Off) (g : Nat) (kd : Int) (w : World) (h : OffAt w w.heap.size g x) :
    Calls Tryd.prog 36 #[.pointer (some ⟨g, 0, none⟩), .int .i64 kd] w fun e w' => e = .returned (.int .i64 (trayIx x.t kd)) ∧ Below w.heap.size w w' := by
  have hmf : ∀ (fn : Fn) (first cap : Array Value) (w : World), (Instr.makeFunc fn first cap).run Tryd.prog w = .ok (.func fn first cap) w := fun _ _ _ _ => rfl
  have b1 := (Below.refl w.heap.size w).alloc (Nat.le_refl _) (.cells #[.int .i64 kd] 3)
  have hL := Lies.new w 3 #[.int .i64 kd]
  have hA := h.then (B' := (w.alloc (.cells #[.int .i64 kd] 3)).heap.size) b1 b1.size
  have c0 : (w.alloc (.cells #[.int .i64 kd] 3)).cell? ⟨g, 0, none⟩ = some (.slice x.TA x.t.length x.tc) := hA.s.c0 (Since.start _ _)
  have HI : Hid (idxFrom (fun t : Tray => decide (t.k = kd)) 0 x.t = trayIx x.t kd) := rfl
  go_enter Tryd.func36, Tryd.ntmps36
  go_wp2_with fail
  clear c0
  generalize w.alloc (.cells #[.int .i64 kd] 3) = W at b1 hL hA ⊢
  refine (idxTrays_any (fun t : Tray => decide (t.k = kd)) 63 #[.pointer (some ⟨w.heap.size, 0, none⟩)] Tryd.call63 _ _ _ _ (fun t p => ofKind_any t w.heap.size kd _ (Nat.lt_of_lt_of_le hL.lt p.size) ((p.cell hL.lt).trans (hL.cell 0))) hA.r.ts).mono ?_
  rintro e w1 ⟨rfl, hb1⟩
  rw [HI.out]
  go_wp2
  go_ret
  exact ⟨rfl, bthen b1 hb1⟩

theorem isPerson_any (n : Int) (w : World) : Calls Tryd.prog 44 #[.int .i64 n] w fun e w' => e = .returned (.bool (inR n 1 999)) ∧ w = w' := by
  go_enter Tryd.func44, Tryd.ntmps44
  go_wp2_with fail
  refine (inRange_any n 1 999 _).mono ?_
  rintro e w' ⟨rfl, rfl⟩
  go_wp2
  go_ret
  exact ⟨rfl, rfl⟩

set_option maxHeartbeats 1000000 in
theorem stampsIn_any (x : Off) (g : Nat) (w : World) (h : OffAt w w.heap.size g x) (tl : x.t.length ≤ 8) (ht : ∀ i (hi : i < x.t.length), x.t[i].ok = true) :
    Calls Tryd.prog 49 #[.pointer (some ⟨g, 0, none⟩)] w fun e w' => e = .returned (.int .i64 (inSum x.t)) ∧ Below w.heap.size w w' := by
  have HT := Lib.hid ht; clear ht
  have HF : Hid (inFrom 0 (x.t.drop 0) = inSum x.t) := rfl
  have s0 : w.cell? ⟨g, 0, none⟩ = some (.slice x.TA x.t.length x.tc) := h.s.c0 (Since.start _ _)
  have hrt := h.r.ts.el
  go_enter Tryd.func49, Tryd.ntmps49
  go_wp2
  clear s0
  go_loopw [3, 11] (fun s i wr => ∃ (k : Nat) (t : Int), k ≤ x.t.length ∧ i = .int .i64 k ∧ s = .int .i64 t ∧ (0 ≤ t ∧ t ≤ 9999 * (k : Int)) ∧ (∃ q : Since w.heap.size w, wr = q.val) ∧ Hid (inFrom t (x.t.drop k) = inSum x.t)) (fun _ i _ => x.t.length - (intOf i).toNat)
  case atStart => exact ⟨0, 0, Nat.zero_le _, rfl, rfl, by omega, ⟨Since.start _ _, rfl⟩, HF⟩
  case round =>
    obtain ⟨k, t, hk, rfl, rfl, ⟨t0, t1⟩, ⟨q, rfl⟩, HR⟩ := hrel
    by_cases hlt : k < x.t.length
    · obtain ⟨b, off, hA, hb, hcell⟩ := hrt (by omega)
      obtain ⟨e0, e1⟩ := hcell k hlt
      obtain ⟨_, x1, x2⟩ := Tray.bounds (HT.out k hlt)
      have HS := Lib.hid (in_step hlt t)
      obtain ⟨r, hre⟩ : ∃ r, r = x.t[k] := ⟨_, rfl⟩
      rw [← hre] at e0 e1 HS x1 x2
      clear hre hcell hrt
      go_wp2
      go_roundw
      case rel => exact ⟨k + 1, t + r.c, by omega, by go_num, rfl, by omega, ⟨⟨_, q.below.alloc q.size _⟩, rfl⟩, by have h1 := HR.out; rw [HS.out] at h1; exact h1⟩
      case measure => simp [intOf]; omega
    · have HE : Hid (t = inSum x.t) := by
        have h1 := HR.out; rw [List.drop_eq_nil_of_le (by omega)] at h1; exact h1
      clear hrt
      go_wp2
      go_ret
      exact ⟨by rw [← HE.out]; rfl, q.below⟩

set_option maxHeartbeats 1000000 in
theorem stampsOut_any (f : Outing → Bool) (kf : Nat) (lb : Array Value) (eg : ∀ args w, (callFunc kf args).run Tryd.prog w = .ok (.enter kf args) w) (x : Off) (g : Nat) (w : World)
    (hf : ∀ (o : Outing) (p : Since w.heap.size w), Calls Tryd.prog kf (#[o.val] ++ lb) p.val fun e w' => e = .returned (.bool (f o)) ∧ Below p.val.heap.size p.val w')
    (h : OffAt w w.heap.size g x) (ol : x.o.length ≤ 8) (ho : ∀ i (hi : i < x.o.length), x.o[i].ok x.t = true) :
    Calls Tryd.prog 45 #[.pointer (some ⟨g, 0, none⟩), .func (.func kf) #[] lb] w fun e w' => e = .returned (.int .i64 (outSum f x.o)) ∧ Below w.heap.size w w' := by
  have HO := Lib.hid ho; clear ho
  have HC := Lib.hid hf; clear hf
  have HF : Hid (outFrom f 0 (x.o.drop 0) = outSum f x.o) := rfl
  have s1 : w.cell? ⟨g, 1, none⟩ = some (.slice x.OA x.o.length x.oc) := h.s.c1 (Since.start _ _)
  have hro := h.r.os.el
  generalize x.OA = OA at s1 hro
  go_enter Tryd.func45, Tryd.ntmps45
  go_wp2
  clear s1
  go_loopw [5, 13] (fun s i wr => ∃ (k : Nat) (t : Int), k ≤ x.o.length ∧ i = .int .i64 k ∧ s = .int .i64 t ∧ (0 ≤ t ∧ t ≤ 9999 * (k : Int)) ∧ (∃ q : Since w.heap.size w, wr = q.val) ∧ Hid (outFrom f t (x.o.drop k) = outSum f x.o)) (fun _ i _ => x.o.length - (intOf i).toNat)
  case atStart => exact ⟨0, 0, Nat.zero_le _, rfl, rfl, by omega, ⟨Since.start _ _, rfl⟩, HF⟩
  case round =>
    obtain ⟨k, t, hk, rfl, rfl, ⟨t0, t1⟩, ⟨q, rfl⟩, HR⟩ := hrel
    by_cases hlt : k < x.o.length
    · obtain ⟨b, off, rfl, hb, hcell⟩ := hro (by omega)
      obtain ⟨e0, e1, e2⟩ := hcell k hlt
      obtain ⟨_, _, x1, x2⟩ := Outing.bounds (HO.out k hlt)
      have HS := Lib.hid (out_step (f := f) hlt t)
      obtain ⟨r, hre⟩ : ∃ r, r = x.o[k] := ⟨_, rfl⟩
      rw [← hre] at e0 e1 e2 HS x1 x2
      clear hre hcell hro
      have hbV := q.below.alloc q.size (.cells #[.int .i64 r.k, .int .i64 r.p, .int .i64 r.c] 71)
      have hlV := Lies.new q.val 71 #[.int .i64 r.k, .int .i64 r.p, .int .i64 r.c]
      have hcx := fun p => HC.out r p
      cases hv : f r
      all_goals
        rw [hv] at hcx HS
        clear hv
        go_wp2_with fail
        generalize q.val.alloc (.cells #[.int .i64 r.k, .int .i64 r.p, .int .i64 r.c] 71) = V at hbV hlV ⊢
        refine (hcx ⟨V, hbV⟩).mono ?_
        rintro e w1 ⟨rfl, hb1⟩
        have d2 := (hlV.below hb1 hlV.lt).cell 2
        simp only [List.getElem?_cons_zero, List.getElem?_cons_succ] at d2
        go_wp2
      · go_roundw
        case rel => exact ⟨k + 1, t, by omega, by go_num, rfl, by omega, ⟨⟨w1, hbV.trans (hb1.mono hbV.size)⟩, rfl⟩, by have h1 := HR.out; rw [HS.out] at h1; exact h1⟩
        case measure => simp [intOf]; omega
      · go_roundw
        case rel => exact ⟨k + 1, t + r.c, by omega, by go_num, rfl, by omega, ⟨⟨w1, hbV.trans (hb1.mono hbV.size)⟩, rfl⟩, by have h1 := HR.out; rw [HS.out] at h1; exact h1⟩
        case measure => simp [intOf]; omega
    · have HE : Hid (t = outSum f x.o) := by
        have h1 := HR.out; rw [List.drop_eq_nil_of_le (by omega)] at h1; exact h1
      clear hro
      go_wp2
      go_ret
      exact ⟨by rw [← HE.out]; rfl, q.below⟩

theorem every1_any (o : Outing) (w : World) : Calls Tryd.prog 61 #[o.val] w fun e w' => e = .returned (.bool true) ∧ Below w.heap.size w w' := by
  go_enter Tryd.func61, Tryd.ntmps61
  go_wp2
  go_ret
  exact ⟨rfl, (Below.refl _ _).alloc (Nat.le_refl _) _⟩

/-- What the order says of two numbers. -/
def cmpI (a b : Int) : Int := if a < b then -1 else if b < a then 1 else 0
theorem isNaN_any (a : Int) (w : World) : Calls Tryd.prog 78 #[.int .i64 a] w fun e w' => e = .returned (.bool false) ∧ w = w' := by
  have hv : (a != a) = false := by simp
  go_enter Tryd.func78, Tryd.ntmps78
  go_wp2
  go_ret
  exact ⟨rfl, rfl⟩
theorem compare_any (a b : Int) (w : World) : Calls Tryd.prog 73 #[.int .i64 a, .int .i64 b] w fun e w' => e = .returned (.int .i64 (cmpI a b)) ∧ w = w' := by
  have ha := fun W => isNaN_any a W
  have hb := fun W => isNaN_any b W
  by_cases h1 : a < b
  · have HE : Hid (cmpI a b = -1) := by unfold Hid cmpI; rw [if_pos h1]
    go_enter Tryd.func73, Tryd.ntmps73
    go_wp2_with fail
    refine (ha _).mono ?_
    rintro e w' ⟨rfl, rfl⟩
    go_wp2_with fail
    refine (hb _).mono ?_
    rintro e w' ⟨rfl, rfl⟩
    go_wp2
    go_ret
    exact ⟨by rw [HE.out]; rfl, rfl⟩
  · by_cases h2 : b < a
    · have HE : Hid (cmpI a b = 1) := by unfold Hid cmpI; rw [if_neg h1, if_pos h2]
      go_enter Tryd.func73, Tryd.ntmps73
      go_wp2_with fail
      refine (ha _).mono ?_
      rintro e w' ⟨rfl, rfl⟩
      go_wp2_with fail
      refine (hb _).mono ?_
      rintro e w' ⟨rfl, rfl⟩
      go_wp2
      go_ret
      exact ⟨by rw [HE.out]; rfl, rfl⟩
    · have HE : Hid (cmpI a b = 0) := by unfold Hid cmpI; rw [if_neg h1, if_neg h2]
      go_enter Tryd.func73, Tryd.ntmps73
      go_wp2_with fail
      refine (ha _).mono ?_
      rintro e w' ⟨rfl, rfl⟩
      go_wp2_with fail
      refine (hb _).mono ?_
      rintro e w' ⟨rfl, rfl⟩
      go_wp2
      go_ret
      exact ⟨by rw [HE.out]; rfl, rfl⟩
end Go.Proofs.YtdiojhjkcholiaaDoor

/- Offices in the program: the order of outings. -/
namespace Go.Proofs.YtdiojhjkcholiaaDoor
open Go.RowKit

def orI (a b : Int) : Int := if a = 0 then b else a
theorem or2_any (a b : Int) (g c : Nat) (w : World) (h0 : w.cell? ⟨g, 0, none⟩ = some (.int .i64 a)) (h1 : w.cell? ⟨g, 1, none⟩ = some (.int .i64 b)) :
    Calls Tryd.prog 72 #[.slice (some ⟨g, 0, none⟩) 2 c] w fun e w' => e = .returned (.int .i64 (orI a b)) ∧ w = w' := by
  by_cases ha : a = 0
  · have va : (a != 0) = false := by simp [ha]
    have HE : Hid (orI a b = b) := by unfold Hid orI; rw [if_pos ha]
    clear ha
    by_cases hb : b = 0
    · have vb : (b != 0) = false := by simp [hb]
      have HB := Lib.hid hb; clear hb
      go_enter Tryd.func72, Tryd.ntmps72
      go_wp2
      refine wp_loop_rounds 3 ?_
      rw [rounds_succ]
      go_wp2
      rw [rounds_succ]
      go_wp2
      rw [rounds_succ]
      go_wp2
      go_ret
      exact ⟨by rw [HE.out, HB.out]; rfl, rfl⟩
    · have vb : (b != 0) = true := by simp [hb]
      clear hb
      go_enter Tryd.func72, Tryd.ntmps72
      go_wp2
      refine wp_loop_rounds 2 ?_
      rw [rounds_succ]
      go_wp2
      rw [rounds_succ]
      go_wp2
      go_ret
      exact ⟨by rw [HE.out]; rfl, rfl⟩
  · have va : (a != 0) = true := by simp [ha]
    have HE : Hid (orI a b = a) := by unfold Hid orI; rw [if_neg ha]
    clear ha
    go_enter Tryd.func72, Tryd.ntmps72
    go_wp2
    refine wp_loop_rounds 1 ?_
    rw [rounds_succ]
    go_wp2
    go_ret
    exact ⟨by rw [HE.out]; rfl, rfl⟩

def cmpO (a b : Outing) : Int := orI (cmpI a.k b.k) (cmpI a.p b.p)
theorem cmpO_before (a b : Outing) : decide (0 ≤ cmpO a b) = !(before a b) := by
  unfold cmpO orI cmpI before
  by_cases h1 : a.k < b.k
  · simp [h1]
  · by_cases h2 : b.k < a.k
    · have h3 : a.k ≠ b.k := by omega
      simp [h1, h2, h3]
    · have h3 : a.k = b.k := by omega
      by_cases h4 : a.p < b.p
      · simp [h3, h4]
      · by_cases h5 : b.p < a.p
        · simp [h3, h4, h5]
        · simp [h3, h4, h5]

set_option maxHeartbeats 1000000 in
theorem compareOutings_any (a b : Outing) (w : World) : Calls Tryd.prog 60 #[a.val, b.val] w fun e w' => e = .returned (.int .i64 (cmpO a b)) ∧ Below w.heap.size w w' := by
  have b1 := (Below.refl w.heap.size w).alloc (Nat.le_refl _) (.cells #[.int .i64 a.k, .int .i64 a.p, .int .i64 a.c] 71)
  have b2 := b1.alloc b1.size (.cells #[.int .i64 b.k, .int .i64 b.p, .int .i64 b.c] 71)
  have L1 := (Lies.new w 71 #[.int .i64 a.k, .int .i64 a.p, .int .i64 a.c]).alloc (.cells #[.int .i64 b.k, .int .i64 b.p, .int .i64 b.c] 71)
  have L2 := Lies.new1 w (.cells #[.int .i64 a.k, .int .i64 a.p, .int .i64 a.c] 71) 71 #[.int .i64 b.k, .int .i64 b.p, .int .i64 b.c]
  clear b1
  obtain ⟨X, hX⟩ : ∃ X, cmpI a.k b.k = X := ⟨_, rfl⟩
  obtain ⟨Y, hY⟩ : ∃ Y, cmpI a.p b.p = Y := ⟨_, rfl⟩
  have HO : Hid (cmpO a b = orI X Y) := by rw [← hX, ← hY]; rfl
  have cX := fun W => compare_any a.k b.k W
  have cY := fun W => compare_any a.p b.p W
  rw [hX] at cX
  rw [hY] at cY
  clear hX hY
  go_enter Tryd.func60, Tryd.ntmps60
  go_wp2
  generalize ((w.alloc (.cells #[.int .i64 a.k, .int .i64 a.p, .int .i64 a.c] 71)).alloc (.cells #[.int .i64 b.k, .int .i64 b.p, .int .i64 b.c] 71)) = W at b2 L1 L2 ⊢
  have c0 := L1.cell 0
  have c1 := L1.cell 1
  have d0 := L2.cell 0
  have d1 := L2.cell 1
  simp only [List.getElem?_cons_zero, List.getElem?_cons_succ] at c0 c1 d0 d1
  have HK : ∀ W', Below W.heap.size W W' → (Below W.heap.size W W' ∧ W'.cell? ⟨w.heap.size, 0, none⟩ = some (.int .i64 a.k) ∧ W'.cell? ⟨w.heap.size, 1, none⟩ = some (.int .i64 a.p) ∧ W'.cell? ⟨w.heap.size + 1, 0, none⟩ = some (.int .i64 b.k) ∧ W'.cell? ⟨w.heap.size + 1, 1, none⟩ = some (.int .i64 b.p)) := fun W' hb =>
    ⟨hb, (hb.cell L1.lt).trans c0, (hb.cell L1.lt).trans c1, (hb.cell L2.lt).trans d0, (hb.cell L2.lt).trans d1⟩
  have HL0 : (W.alloc (.cells #[.int .i64 X, .int .i64 Y] 3)).drew.cell? ⟨W.heap.size, 0, none⟩ = some (.int .i64 X) := (Lies.new W 3 #[.int .i64 X, .int .i64 Y]).cell 0
  have HL1 : (W.alloc (.cells #[.int .i64 X, .int .i64 Y] 3)).drew.cell? ⟨W.heap.size, 1, none⟩ = some (.int .i64 Y) := (Lies.new W 3 #[.int .i64 X, .int .i64 Y]).cell 1
  go_region_held3 (fun W' => Below W.heap.size W W' ∧ W'.cell? ⟨w.heap.size, 0, none⟩ = some (.int .i64 a.k) ∧ W'.cell? ⟨w.heap.size, 1, none⟩ = some (.int .i64 a.p) ∧ W'.cell? ⟨w.heap.size + 1, 0, none⟩ = some (.int .i64 b.k) ∧ W'.cell? ⟨w.heap.size + 1, 1, none⟩ = some (.int .i64 b.p)) (first | exact HK _ (Below.refl _ _).drew | exact HK _ (((Below.refl _ _).drew).alloc (by first | exact Nat.le_refl _ | simp) _) | (exact HK _ (by assumption))) (first | (go_at_call 73; with_reducible refine (cX _).mono ?_; rintro e w8 ⟨rfl, rfl⟩) | (go_at_call 73; with_reducible refine (cY _).mono ?_; rintro e w8 ⟨rfl, rfl⟩) | (go_at_call 72; refine (or2_any X Y W.heap.size 2 (W.alloc (.cells #[.int .i64 X, .int .i64 Y] 3)).drew HL0 HL1).mono ?_; rintro e w9 ⟨rfl, rfl⟩))
  all_goals
    go_wp2
    go_ret
    exact ⟨by rw [HO.out]; rfl, bthen b2 ((Below.refl W.heap.size W).alloc (Nat.le_refl _) _).drew⟩
end Go.Proofs.YtdiojhjkcholiaaDoor

/- Validity of an office, in the program. -/
namespace Go.Proofs.YtdiojhjkcholiaaDoor
open Go.RowKit

set_option maxRecDepth 100000 in
set_option maxHeartbeats 2000000 in
theorem isOfficeValid_no (x : Off) (g : Nat) (w : World) (h : OffAt w w.heap.size g x) (hno : (sizesOk x && numsOk x) = false) :
    Calls Tryd.prog 35 #[.pointer (some ⟨g, 0, none⟩)] w fun e w' => e = .returned (.bool (goodOff x)) ∧ Below w.heap.size w w' := by
  have s0 : w.cell? ⟨g, 0, none⟩ = some (.slice x.TA x.t.length x.tc) := h.s.c0 (Since.start _ _)
  have s1 : w.cell? ⟨g, 1, none⟩ = some (.slice x.OA x.o.length x.oc) := h.s.c1 (Since.start _ _)
  have s2 : w.cell? ⟨g, 2, none⟩ = some (.int .i64 x.got) := h.s.c2 (Since.start _ _)
  have s3 : w.cell? ⟨g, 3, none⟩ = some (.int .i64 x.sold) := h.s.c3 (Since.start _ _)
  have s4 : w.cell? ⟨g, 4, none⟩ = some (.int .i64 x.missed) := h.s.c4 (Since.start _ _)
  have hl := h.r.ts.big
  have hm := h.r.os.big
  have c3 := fun W => inRange_any x.got 0 99999 W
  have c4 := fun W => inRange_any x.sold 0 99999 W
  have c5 := fun W => inRange_any x.missed 0 99999 W
  have HNO := Lib.hid hno; clear hno
  have HG : Hid (goodOff x = (sizesOk x && (inR x.got 0 99999 && inR x.sold 0 99999 && inR x.missed 0 99999) && traysOk x.t && outsOk x.t x.o && sumOk x)) := rfl
  by_cases hz : x.t.length ≤ 8 ∧ x.o.length ≤ 8
  · obtain ⟨tl, ol⟩ := hz
    have HZ : Hid (sizesOk x = true) := by unfold Hid sizesOk; rw [decide_eq_true tl, decide_eq_true ol]; rfl
    obtain ⟨v3, hv3⟩ : ∃ v, inR x.got 0 99999 = v := ⟨_, rfl⟩
    obtain ⟨v4, hv4⟩ : ∃ v, inR x.sold 0 99999 = v := ⟨_, rfl⟩
    obtain ⟨v5, hv5⟩ : ∃ v, inR x.missed 0 99999 = v := ⟨_, rfl⟩
    rw [hv3] at c3
    rw [hv4] at c4
    rw [hv5] at c5
    rw [hv3, hv4, hv5] at HG
    have HV3 := Lib.hid hv3; clear hv3
    have HV4 := Lib.hid hv4; clear hv4
    have HV5 := Lib.hid hv5; clear hv5
    by_cases hall3 : (v3 && v4 && v5) = true
    · exfalso
      have hn : numsOk x = true := by unfold numsOk; rw [HV3.out, HV4.out, HV5.out]; exact hall3
      have hno := HNO.out
      rw [HZ.out, hn] at hno; cases hno
    · have HGF : Hid (goodOff x = false) := by
        unfold Hid; rw [HG.out, HZ.out]
        cases v3 <;> cases v4 <;> cases v5 <;> first | rfl | exact absurd rfl hall3
      cases v3
      all_goals (try cases v4)
      all_goals (try cases v5)
      all_goals first
        | exact absurd rfl hall3
        | skip
      all_goals
        clear hall3
        go_enter Tryd.func35, Tryd.ntmps35
        go_wp2_with fail
        refine (c3 _).mono ?_
        rintro e w3 ⟨rfl, rfl⟩
        go_wp2_with (first | (go_at_call 59; with_reducible refine (c4 _).mono ?_; rintro e w4 ⟨rfl, rfl⟩) | (go_at_call 59; with_reducible refine (c5 _).mono ?_; rintro e w4 ⟨rfl, rfl⟩))
        go_ret
        exact ⟨by rw [HGF.out]; rfl, Below.refl _ _⟩
  · have HGF : Hid (goodOff x = false) := by
      unfold Hid; rw [HG.out]
      have : sizesOk x = false := by
        unfold sizesOk
        by_cases h1 : x.t.length ≤ 8
        · rw [decide_eq_false (show ¬ x.o.length ≤ 8 from fun h2 => hz ⟨h1, h2⟩), Bool.and_false]
        · rw [decide_eq_false h1, Bool.false_and]
      rw [this]; rfl
    by_cases h1 : x.t.length ≤ 8
    · have h2 : ¬ x.o.length ≤ 8 := fun h2 => hz ⟨h1, h2⟩
      clear hz
      go_enter Tryd.func35, Tryd.ntmps35
      go_wp2
      go_ret
      exact ⟨by rw [HGF.out]; rfl, Below.refl _ _⟩
    · clear hz
      go_enter Tryd.func35, Tryd.ntmps35
      go_wp2
      go_ret
      exact ⟨by rw [HGF.out]; rfl, Below.refl _ _⟩
end Go.Proofs.YtdiojhjkcholiaaDoor

/- Validity of an office, in the program: the loops. -/
namespace Go.Proofs.YtdiojhjkcholiaaDoor
open Go.RowKit

theorem every1_all (o : Outing) (w : World) : Calls Tryd.prog 61 (#[o.val] ++ #[]) w fun e w' => e = .returned (.bool (every o)) ∧ Below w.heap.size w w' := every1_any o w

set_option maxRecDepth 100000 in
set_option maxHeartbeats 4000000 in
theorem isOfficeValid_yes (x : Off) (g : Nat) (w : World) (h : OffAt w w.heap.size g x) (hyes : (sizesOk x && numsOk x) = true) :
    Calls Tryd.prog 35 #[.pointer (some ⟨g, 0, none⟩)] w fun e w' => e = .returned (.bool (goodOff x)) ∧ Below w.heap.size w w' := by
  have s0 : w.cell? ⟨g, 0, none⟩ = some (.slice x.TA x.t.length x.tc) := h.s.c0 (Since.start _ _)
  have s1 : w.cell? ⟨g, 1, none⟩ = some (.slice x.OA x.o.length x.oc) := h.s.c1 (Since.start _ _)
  have s2 : w.cell? ⟨g, 2, none⟩ = some (.int .i64 x.got) := h.s.c2 (Since.start _ _)
  have s3 : w.cell? ⟨g, 3, none⟩ = some (.int .i64 x.sold) := h.s.c3 (Since.start _ _)
  have s4 : w.cell? ⟨g, 4, none⟩ = some (.int .i64 x.missed) := h.s.c4 (Since.start _ _)
  have c3 := fun W => inRange_any x.got 0 99999 W
  have c4 := fun W => inRange_any x.sold 0 99999 W
  have c5 := fun W => inRange_any x.missed 0 99999 W
  have HG : Hid (goodOff x = (traysOk x.t && outsOk x.t x.o && sumOk x)) := by
    unfold Hid goodOff; rw [hyes, Bool.true_and]
  rw [Bool.and_eq_true] at hyes
  have hz := hyes.1
  have hn := hyes.2
  unfold sizesOk at hz
  unfold numsOk at hn
  rw [Bool.and_eq_true] at hz hn
  rw [Bool.and_eq_true] at hn
  obtain ⟨⟨hv3, hv4⟩, hv5⟩ := hn
  have tl : x.t.length ≤ 8 := of_decide_eq_true hz.1
  have ol : x.o.length ≤ 8 := of_decide_eq_true hz.2
  clear hz hyes
  rw [hv3] at c3
  rw [hv4] at c4
  rw [hv5] at c5
  obtain ⟨g1, g2⟩ := inR_iff.1 hv3
  obtain ⟨g3, g4⟩ := inR_iff.1 hv4
  obtain ⟨g5, g6⟩ := inR_iff.1 hv5
  clear hv3 hv4 hv5
  have hrt := h.r.ts.el
  have hro := h.r.os.el
  obtain ⟨p0, p1, p2, p3, p4⟩ := h.s
  obtain ⟨TA, hTA⟩ : ∃ A, x.TA = A := ⟨_, rfl⟩
  obtain ⟨OA, hOA⟩ : ∃ A, x.OA = A := ⟨_, rfl⟩
  rw [hTA] at s0 hrt
  rw [hOA] at s1 hro
  simp only [hTA] at p0
  simp only [hOA] at p1
  clear hTA hOA
  go_enter Tryd.func35, Tryd.ntmps35
  go_wp2_with fail
  refine (c3 _).mono ?_
  rintro e w3 ⟨rfl, rfl⟩
  go_wp2_with fail
  refine (c4 _).mono ?_
  rintro e w3 ⟨rfl, rfl⟩
  go_wp2_with fail
  refine (c5 _).mono ?_
  rintro e w3 ⟨rfl, rfl⟩
  go_wp2
  clear s0 s1 s2 s3 s4 c3 c4 c5
  go_loopw [50] (fun i wr => ∃ (k : Nat) (prev : Int), k ≤ x.t.length ∧ i = .int .i64 k ∧ (∃ q : Since w.heap.size w, wr = q.val) ∧ Hid (traysFrom k prev (x.t.drop k) = traysOk x.t) ∧ Hid (∀ (_hk : 0 < k) (h' : k - 1 < x.t.length), prev = x.t[k - 1].k)) (fun i _ => x.t.length - (intOf i).toNat)
  case atStart => exact ⟨0, 0, Nat.zero_le _, rfl, ⟨Since.start _ _, rfl⟩, rfl, fun h => absurd h (by omega)⟩
  case round =>
    obtain ⟨k, prev, hk, rfl, ⟨q, rfl⟩, HR, HP⟩ := hrel
    by_cases hlt : k < x.t.length
    · obtain ⟨b, off, rfl, hb, hcell⟩ := hrt (by omega)
      obtain ⟨e0, e1⟩ := hcell k hlt
      have HC : Hid (0 < k → ∀ p : Since w.heap.size w, p.val.cell? ⟨b, off + (k - 1) * 2, none⟩ = some (.int .i64 prev)) := fun h p => by
        rw [HP.out h (by omega)]; exact (hcell (k - 1) (by omega)).c0 p
      have HS := Lib.hid (trays_step (n := k) (p := prev) hlt)
      obtain ⟨r, hre⟩ : ∃ r, r = x.t[k] := ⟨_, rfl⟩
      have HN : Hid (∀ (_hk : 0 < k + 1) (h' : k + 1 - 1 < x.t.length), r.k = x.t[k + 1 - 1].k) := fun _ h' => by rw [hre]; rfl
      rw [← hre] at e0 e1 HS
      clear hre hcell hrt hro
      go_wp2
      have hbV := q.below.alloc q.size (.cells #[.int .i64 r.k, .int .i64 r.c] 68)
      have hlV := Lies.new q.val 68 #[.int .i64 r.k, .int .i64 r.c]
      generalize q.val.alloc (.cells #[.int .i64 r.k, .int .i64 r.c] 68) = V at hbV hlV ⊢
      generalize q.val.heap.size = gv at hlV ⊢
      obtain ⟨d0, d1⟩ := TrayS.of (r := r) hlV
      have p0' : ∀ p : Since V.heap.size V, p.val.cell? ⟨g, 0, none⟩ = some (.slice (some ⟨b, off, none⟩) x.t.length x.tc) := fun p => p0 ⟨p.val, hbV.trans (p.below.mono hbV.size)⟩
      have HOK : Hid (r.ok = (inR r.k 1 99 && inR r.c 0 9999)) := rfl
      clear e0 e1
      obtain ⟨v1, hv1⟩ : ∃ v, inR r.k 1 99 = v := ⟨_, rfl⟩
      obtain ⟨v2, hv2⟩ : ∃ v, inR r.c 0 9999 = v := ⟨_, rfl⟩
      rw [hv1, hv2] at HOK
      have HV1 := Lib.hid hv1; clear hv1
      have HV2 := Lib.hid hv2; clear hv2
      rcases Nat.eq_zero_or_pos k with h0 | h0
      · have hd : decide (0 < k) = false := decide_eq_false (by omega)
        have H0 := Lib.hid h0; clear h0
        cases v1
        · refine wp_region_since0 (by kernel_rfl) (by kernel_rfl) ?_
          repeat (any_goals (first | go_big_quiet_step ((go_at_call 59; with_reducible refine calls_sameB HV1 (inRange_any r.k 1 99 _))) | (refine wpQuiet_step (fun K hK => ?_); go_simp; split <;> (refine hK _ ?_; clear hK K))))
          all_goals (refine wpQuiet_nil ?_; rintro _ ⟨q1, rfl⟩)
          all_goals have hb1 := hbV.trans (q1.below.mono hbV.size)
          all_goals go_wp2
          go_ret
          refine ⟨?_, hb1⟩
          rw [HG.out, ← HR.out, HS.out, HOK.out]; rfl
        · cases v2
          all_goals
            refine wp_region_since0 (by kernel_rfl) (by kernel_rfl) ?_
            repeat (any_goals (first | go_big_quiet_step ((first | (go_at_call 59; with_reducible refine calls_sameB HV1 (inRange_any r.k 1 99 _)) | (go_at_call 59; with_reducible refine calls_sameB HV2 (inRange_any r.c 0 9999 _)))) | (refine wpQuiet_step (fun K hK => ?_); go_simp; split <;> (refine hK _ ?_; clear hK K))))
            all_goals (refine wpQuiet_nil ?_; rintro _ ⟨q1, rfl⟩)
            all_goals have hb1 := hbV.trans (q1.below.mono hbV.size)
            all_goals go_wp2
          · go_ret
            refine ⟨?_, hb1⟩
            rw [HG.out, ← HR.out, HS.out, HOK.out]; rfl
          · go_roundw
            case rel => exact ⟨k + 1, r.k, by omega, by go_num, ⟨⟨_, hbV.trans (q1.below.mono hbV.size)⟩, rfl⟩, by have h1 := HR.out; rw [HS.out, HOK.out, decide_eq_true H0.out] at h1; exact h1, HN⟩
            case measure => simp [intOf]; omega
      · have c5 : ∀ p : Since V.heap.size V, p.val.cell? ⟨b, off + (k - 1) * 2, none⟩ = some (.int .i64 prev) := fun p => HC.out h0 ⟨p.val, hbV.trans (p.below.mono hbV.size)⟩
        have h0' : (0 : Int) < (k : Int) := by omega
        cases v1
        · refine wp_region_since0 (by kernel_rfl) (by kernel_rfl) ?_
          repeat (any_goals (first | go_big_quiet_step ((go_at_call 59; with_reducible refine calls_sameB HV1 (inRange_any r.k 1 99 _))) | (refine wpQuiet_step (fun K hK => ?_); go_simp; split <;> (refine hK _ ?_; clear hK K))))
          all_goals (refine wpQuiet_nil ?_; rintro _ ⟨q1, rfl⟩)
          all_goals have hb1 := hbV.trans (q1.below.mono hbV.size)
          all_goals go_wp2
          go_ret
          refine ⟨?_, hb1⟩
          rw [HG.out, ← HR.out, HS.out, HOK.out]; rfl
        · cases v2
          all_goals
            refine wp_region_since0 (by kernel_rfl) (by kernel_rfl) ?_
            repeat (any_goals (first | go_big_quiet_step ((first | (go_at_call 59; with_reducible refine calls_sameB HV1 (inRange_any r.k 1 99 _)) | (go_at_call 59; with_reducible refine calls_sameB HV2 (inRange_any r.c 0 9999 _)))) | (refine wpQuiet_step (fun K hK => ?_); go_simp; split <;> (refine hK _ ?_; clear hK K))))
            all_goals (refine wpQuiet_nil ?_; rintro _ ⟨q1, rfl⟩)
            all_goals have hb1 := hbV.trans (q1.below.mono hbV.size)
            all_goals go_wp2
          · go_ret
            refine ⟨?_, hb1⟩
            rw [HG.out, ← HR.out, HS.out, HOK.out]; rfl
          · go_ret
            refine ⟨?_, hb1⟩
            have hm : r.k ≤ prev := by assumption
            rw [HG.out, ← HR.out, HS.out, HOK.out, decide_eq_false (by omega : ¬ k = 0), decide_eq_false (by omega : ¬ prev < r.k)]; rfl
          · have hm : prev < r.k := by assumption
            go_roundw
            case rel => exact ⟨k + 1, r.k, by omega, by go_num, ⟨⟨_, hbV.trans (q1.below.mono hbV.size)⟩, rfl⟩, by have h1 := HR.out; rw [HS.out, HOK.out, decide_eq_true hm, Bool.or_true] at h1; exact h1, HN⟩
            case measure => simp [intOf]; omega
    · have hK : traysOk x.t = true := by
        have h1 := HR.out
        rw [List.drop_eq_nil_of_le (by omega)] at h1; exact h1.symm
      have HALL := Lib.hid (traysFrom_all _ _ _ hK)
      have HK := Lib.hid hK; clear hK
      have hq1 := p1 q
      clear hrt
      go_wp2
      go_loopw [89] (fun i wr => ∃ (k : Nat) (prev : Option Outing), k ≤ x.o.length ∧ i = .int .i64 k ∧ (∃ q : Since w.heap.size w, wr = q.val) ∧ Hid (outsFrom x.t prev (x.o.drop k) = outsOk x.t x.o) ∧ Hid ((k = 0 → prev = none) ∧ ∀ (_hk : 0 < k) (h' : k - 1 < x.o.length), prev = some x.o[k - 1] ∧ x.o[k - 1].ok x.t = true)) (fun i _ => x.o.length - (intOf i).toNat)
      case atStart => exact ⟨0, none, Nat.zero_le _, rfl, ⟨q, rfl⟩, rfl, fun _ => rfl, fun h => absurd h (by omega)⟩
      case round =>
        clear hlt HR HP hq1
        obtain ⟨k, prev, hk, rfl, ⟨q, rfl⟩, HR, HP⟩ := hrel
        by_cases hlt : k < x.o.length
        · obtain ⟨b, off, rfl, hb, hcell⟩ := hro (by omega)
          obtain ⟨e0, e1, e2⟩ := hcell k hlt
          have HS := Lib.hid (outs_step (ts := x.t) (p := prev) hlt)
          obtain ⟨r, hre⟩ : ∃ r, r = x.o[k] := ⟨_, rfl⟩
          have HN : Hid (r.ok x.t = true → (k + 1 = 0 → some r = none) ∧ ∀ (_hk : 0 < k + 1) (h' : k + 1 - 1 < x.o.length), some r = some x.o[k + 1 - 1] ∧ x.o[k + 1 - 1].ok x.t = true) := fun ho => ⟨fun h => by omega, fun _ h' => ⟨by rw [hre]; rfl, by rw [hre] at ho; exact ho⟩⟩
          have HC : Hid (∀ _ : 0 < k, ∃ u : Outing, prev = some u ∧ u.ok x.t = true ∧ OutingS w.heap.size w b (off + (k - 1) * 3) u) := fun h => ⟨x.o[k - 1], (HP.out.2 h (by omega)).1, (HP.out.2 h (by omega)).2, hcell (k - 1) (by omega)⟩
          rw [← hre] at e0 e1 e2 HS
          clear hre hcell hro
          go_wp2
          have hbV := q.below.alloc q.size (.cells #[.int .i64 r.k, .int .i64 r.p, .int .i64 r.c] 71)
          have hlV := Lies.new q.val 71 #[.int .i64 r.k, .int .i64 r.p, .int .i64 r.c]
          generalize q.val.alloc (.cells #[.int .i64 r.k, .int .i64 r.p, .int .i64 r.c] 71) = V at hbV hlV ⊢
          generalize q.val.heap.size = gv at hlV ⊢
          obtain ⟨d0, d1, d2⟩ := OutingS.of (r := r) hlV
          have up : ∀ {a : Addr} {u : Value}, (∀ p : Since w.heap.size w, p.val.cell? a = some u) → ∀ p : Since V.heap.size V, p.val.cell? a = some u := fun h p => h ⟨p.val, hbV.trans (p.below.mono hbV.size)⟩
          have z1 := up p1
          have hAV : ∀ p : Since V.heap.size V, OffAt p.val p.val.heap.size g x := fun p => h.at ⟨p.val, hbV.trans (p.below.mono hbV.size)⟩
          have HOK : Hid (r.ok x.t = (hasTray x.t r.k && inR r.p 1 999 && inR r.c 1 9999)) := rfl
          clear e0 e1 e2
          obtain ⟨X, hX⟩ : ∃ X, trayIx x.t r.k = X := ⟨_, rfl⟩
          have HX : Hid (Value.int .i64 (trayIx x.t r.k) = .int .i64 X) := by rw [hX]; rfl
          have HH : Hid (hasTray x.t r.k = decide (0 ≤ X)) := by rw [← hX]; exact (trayIx_has _ _).symm
          obtain ⟨v2, hv2⟩ : ∃ v, inR r.p 1 999 = v := ⟨_, rfl⟩
          obtain ⟨v3, hv3⟩ : ∃ v, inR r.c 1 9999 = v := ⟨_, rfl⟩
          rw [hv2, hv3] at HOK
          have HV2 := Lib.hid hv2; clear hv2
          have HV3 := Lib.hid hv3; clear hv3
          clear hX
          by_cases hX0 : 0 ≤ X
          · have hd0 : decide (X < 0) = false := decide_eq_false (by omega)
            have HXT : Hid (decide (0 ≤ X) = true) := decide_eq_true hX0
            cases v2
            · rcases Nat.eq_zero_or_pos k with h0 | h0
              · have hd : decide (0 < k) = false := decide_eq_false (by omega)
                clear h0
                refine wp_region_since0 (by kernel_rfl) (by kernel_rfl) ?_
                repeat (any_goals (first | go_big_quiet_step ((first | (go_at_call 36; with_reducible refine calls_sinceE HX (Nat.le_refl _) (trayAt_any x g r.k _ (hAV _))) | (go_at_call 44; with_reducible refine calls_sameB HV2 (isPerson_any r.p _)))) | (refine wpQuiet_step (fun K hK => ?_); go_simp; split <;> (refine hK _ ?_; clear hK K))))
                all_goals (refine wpQuiet_nil ?_; rintro _ ⟨q1, rfl⟩)
                all_goals have hb1 := hbV.trans (q1.below.mono hbV.size)
                all_goals go_wp2
                go_ret
                refine ⟨?_, hb1⟩
                rw [HG.out, HK.out, ← HR.out, HS.out, HOK.out, Bool.and_false]; rfl
              · have h0' : (0 : Int) < (k : Int) := by omega
                refine wp_region_since0 (by kernel_rfl) (by kernel_rfl) ?_
                repeat (any_goals (first | go_big_quiet_step ((first | (go_at_call 36; with_reducible refine calls_sinceE HX (Nat.le_refl _) (trayAt_any x g r.k _ (hAV _))) | (go_at_call 44; with_reducible refine calls_sameB HV2 (isPerson_any r.p _)))) | (refine wpQuiet_step (fun K hK => ?_); go_simp; split <;> (refine hK _ ?_; clear hK K))))
                all_goals (refine wpQuiet_nil ?_; rintro _ ⟨q1, rfl⟩)
                all_goals have hb1 := hbV.trans (q1.below.mono hbV.size)
                all_goals go_wp2
                go_ret
                refine ⟨?_, hb1⟩
                rw [HG.out, HK.out, ← HR.out, HS.out, HOK.out, Bool.and_false]; rfl
            · cases v3
              · rcases Nat.eq_zero_or_pos k with h0 | h0
                · have hd : decide (0 < k) = false := decide_eq_false (by omega)
                  clear h0
                  refine wp_region_since0 (by kernel_rfl) (by kernel_rfl) ?_
                  repeat (any_goals (first | go_big_quiet_step ((first | (go_at_call 36; with_reducible refine calls_sinceE HX (Nat.le_refl _) (trayAt_any x g r.k _ (hAV _))) | (go_at_call 44; with_reducible refine calls_sameB HV2 (isPerson_any r.p _)) | (go_at_call 59; with_reducible refine calls_sameB HV3 (inRange_any r.c 1 9999 _)))) | (refine wpQuiet_step (fun K hK => ?_); go_simp; split <;> (refine hK _ ?_; clear hK K))))
                  all_goals (refine wpQuiet_nil ?_; rintro _ ⟨q1, rfl⟩)
                  all_goals have hb1 := hbV.trans (q1.below.mono hbV.size)
                  all_goals go_wp2
                  go_ret
                  refine ⟨?_, hb1⟩
                  rw [HG.out, HK.out, ← HR.out, HS.out, HOK.out, Bool.and_false]; rfl
                · have h0' : (0 : Int) < (k : Int) := by omega
                  refine wp_region_since0 (by kernel_rfl) (by kernel_rfl) ?_
                  repeat (any_goals (first | go_big_quiet_step ((first | (go_at_call 36; with_reducible refine calls_sinceE HX (Nat.le_refl _) (trayAt_any x g r.k _ (hAV _))) | (go_at_call 44; with_reducible refine calls_sameB HV2 (isPerson_any r.p _)) | (go_at_call 59; with_reducible refine calls_sameB HV3 (inRange_any r.c 1 9999 _)))) | (refine wpQuiet_step (fun K hK => ?_); go_simp; split <;> (refine hK _ ?_; clear hK K))))
                  all_goals (refine wpQuiet_nil ?_; rintro _ ⟨q1, rfl⟩)
                  all_goals have hb1 := hbV.trans (q1.below.mono hbV.size)
                  all_goals go_wp2
                  go_ret
                  refine ⟨?_, hb1⟩
                  rw [HG.out, HK.out, ← HR.out, HS.out, HOK.out, Bool.and_false]; rfl
              · have HRO : Hid (r.ok x.t = true) := by unfold Hid; rw [HOK.out, HH.out, HXT.out]; rfl
                rcases Nat.eq_zero_or_pos k with h0 | h0
                · have hd : decide (0 < k) = false := decide_eq_false (by omega)
                  have HP0 : Hid (prev = none) := HP.out.1 h0
                  clear h0
                  refine wp_region_since0 (by kernel_rfl) (by kernel_rfl) ?_
                  repeat (any_goals (first | go_big_quiet_step ((first | (go_at_call 36; with_reducible refine calls_sinceE HX (Nat.le_refl _) (trayAt_any x g r.k _ (hAV _))) | (go_at_call 44; with_reducible refine calls_sameB HV2 (isPerson_any r.p _)) | (go_at_call 59; with_reducible refine calls_sameB HV3 (inRange_any r.c 1 9999 _)))) | (refine wpQuiet_step (fun K hK => ?_); go_simp; split <;> (refine hK _ ?_; clear hK K))))
                  all_goals (refine wpQuiet_nil ?_; rintro _ ⟨q1, rfl⟩)
                  all_goals have hb1 := hbV.trans (q1.below.mono hbV.size)
                  all_goals go_wp2
                  go_roundw
                  case rel => exact ⟨k + 1, some r, by omega, by go_num, ⟨⟨_, hb1⟩, rfl⟩, by have h1 := HR.out; rw [HS.out, HRO.out, HP0.out] at h1; exact h1, HN.out HRO.out⟩
                  case measure => simp [intOf]; omega
                · have h0' : (0 : Int) < (k : Int) := by omega
                  obtain ⟨u, hpu, huo, ⟨t0, t1, t2⟩⟩ := HC.out h0
                  have t0 := up t0
                  have t1 := up t1
                  have t2 := up t2
                  subst hpu
                  have HS2 : Hid (outsFrom x.t (some u) (x.o.drop k) = (r.ok x.t && before u r && outsFrom x.t (some r) (x.o.drop (k + 1)))) := HS.out
                  obtain ⟨C, hC⟩ : ∃ C, cmpO u r = C := ⟨_, rfl⟩
                  have HCM : Hid (Value.int .i64 (cmpO u r) = .int .i64 C) := by rw [hC]; rfl
                  have HB : Hid (decide (0 ≤ C) = !(before u r)) := by rw [← hC]; exact cmpO_before u r
                  clear hC huo up
                  refine wp_region_since0 (by kernel_rfl) (by kernel_rfl) ?_
                  repeat (any_goals (first | go_big_quiet_step ((first | (go_at_call 36; with_reducible refine calls_sinceE HX (Nat.le_refl _) (trayAt_any x g r.k _ (hAV _))) | (go_at_call 44; with_reducible refine calls_sameB HV2 (isPerson_any r.p _)) | (go_at_call 59; with_reducible refine calls_sameB HV3 (inRange_any r.c 1 9999 _)) | (go_at_call 60; with_reducible refine calls_sinceE HCM (Nat.le_refl _) (compareOutings_any u r _)))) | (refine wpQuiet_step (fun K hK => ?_); go_simp; split <;> (refine hK _ ?_; clear hK K))))
                  all_goals (refine wpQuiet_nil ?_; rintro _ ⟨q1, rfl⟩)
                  all_goals have hb1 := hbV.trans (q1.below.mono hbV.size)
                  all_goals go_wp2
                  · go_ret
                    refine ⟨?_, hb1⟩
                    have hm : 0 ≤ C := by assumption
                    have hb0 := HB.out
                    rw [decide_eq_true hm] at hb0
                    have hbf : before u r = false := by
                      cases hbb : before u r with
                      | false => rfl
                      | true => rw [hbb] at hb0; cases hb0
                    rw [HG.out, HK.out, ← HR.out, HS2.out, HRO.out, hbf]; rfl
                  · have hm : C < 0 := by assumption
                    have hb0 := HB.out
                    rw [decide_eq_false (by omega)] at hb0
                    have hbt : before u r = true := by
                      cases hbb : before u r with
                      | true => rfl
                      | false => rw [hbb] at hb0; cases hb0
                    have hbf := Lib.hid hbt
                    clear hbt
                    clear hb0
                    go_roundw
                    case rel => exact ⟨k + 1, some r, by omega, by go_num, ⟨⟨_, hb1⟩, rfl⟩, by have h1 := HR.out; rw [HS2.out, HRO.out, hbf.out] at h1; exact h1, HN.out HRO.out⟩
                    case measure => simp [intOf]; omega
          · have hd0 : decide (X < 0) = true := decide_eq_true (by omega)
            have HXT : Hid (decide (0 ≤ X) = false) := decide_eq_false hX0
            rcases Nat.eq_zero_or_pos k with h0 | h0
            · have hd : decide (0 < k) = false := decide_eq_false (by omega)
              clear h0
              refine wp_region_since0 (by kernel_rfl) (by kernel_rfl) ?_
              repeat (any_goals (first | go_big_quiet_step ((go_at_call 36; with_reducible refine calls_sinceE HX (Nat.le_refl _) (trayAt_any x g r.k _ (hAV _)))) | (refine wpQuiet_step (fun K hK => ?_); go_simp; split <;> (refine hK _ ?_; clear hK K))))
              all_goals (refine wpQuiet_nil ?_; rintro _ ⟨q1, rfl⟩)
              all_goals have hb1 := hbV.trans (q1.below.mono hbV.size)
              all_goals go_wp2
              go_ret
              refine ⟨?_, hb1⟩
              rw [HG.out, HK.out, ← HR.out, HS.out, HOK.out, HH.out, HXT.out]; rfl
            · have h0' : (0 : Int) < (k : Int) := by omega
              refine wp_region_since0 (by kernel_rfl) (by kernel_rfl) ?_
              repeat (any_goals (first | go_big_quiet_step ((go_at_call 36; with_reducible refine calls_sinceE HX (Nat.le_refl _) (trayAt_any x g r.k _ (hAV _)))) | (refine wpQuiet_step (fun K hK => ?_); go_simp; split <;> (refine hK _ ?_; clear hK K))))
              all_goals (refine wpQuiet_nil ?_; rintro _ ⟨q1, rfl⟩)
              all_goals have hb1 := hbV.trans (q1.below.mono hbV.size)
              all_goals go_wp2
              go_ret
              refine ⟨?_, hb1⟩
              rw [HG.out, HK.out, ← HR.out, HS.out, HOK.out, HH.out, HXT.out]; rfl
        · have hKO : outsOk x.t x.o = true := by
            have h1 := HR.out
            rw [List.drop_eq_nil_of_le (by omega)] at h1; exact h1.symm
          have HOLL := Lib.hid (outsFrom_all _ _ _ hKO)
          have HKO := Lib.hid hKO; clear hKO
          have hi := inFrom_bd x.t 0 HALL.out
          have hj := outFrom_bd every x.t x.o 0 HOLL.out
          have HSM : Hid (sumOk x = decide (x.got = inSum x.t + outSum every x.o + x.sold + x.missed)) := rfl
          change 0 ≤ inSum x.t ∧ inSum x.t ≤ _ at hi
          change 0 ≤ outSum every x.o ∧ outSum every x.o ≤ _ at hj
          obtain ⟨I, hI⟩ : ∃ I, inSum x.t = I := ⟨_, rfl⟩
          obtain ⟨J, hJ⟩ : ∃ J, outSum every x.o = J := ⟨_, rfl⟩
          rw [hI] at hi HSM
          rw [hJ] at hj HSM
          have HI : Hid (Value.int .i64 (inSum x.t) = .int .i64 I) := by rw [hI]; rfl
          have HJ : Hid (Value.int .i64 (outSum every x.o) = .int .i64 J) := by rw [hJ]; rfl
          clear hI hJ
          obtain ⟨i1, i2⟩ := hi
          obtain ⟨j1, j2⟩ := hj
          have w1 : IntKind.i64.wrap (I + J) = I + J := IntWalk.i64_in _ (by omega)
          have w2 : IntKind.i64.wrap (I + J + x.sold) = I + J + x.sold := IntWalk.i64_in _ (by omega)
          have w3 : IntKind.i64.wrap (I + J + x.sold + x.missed) = I + J + x.sold + x.missed := IntWalk.i64_in _ (by omega)
          obtain ⟨z, hz⟩ : ∃ z, decide (x.got = I + J + x.sold + x.missed) = z := ⟨_, rfl⟩
          have hzz : (x.got == I + J + x.sold + x.missed) = z := by rw [← hz, Bool.eq_iff_iff]; simp
          have HZ := Lib.hid hz; clear hz
          have hAQ : ∀ p : Since w.heap.size w, OffAt p.val p.val.heap.size g x := fun p => h.at p
          clear hro HR HP
          go_wp2
          refine wp_region_since _ (by kernel_rfl) (by kernel_rfl) ?_
          repeat (any_goals (first | go_big_quiet_step ((first | (go_at_call 49; with_reducible refine calls_sinceE HI (Nat.le_refl _) (stampsIn_any x g _ (hAQ _) tl HALL.out)) | (go_at_call 45; with_reducible refine calls_sinceE HJ (Nat.le_refl _) (stampsOut_any every 61 #[] Tryd.call61 x g _ (fun o p => every1_all o p.val) (hAQ _) ol HOLL.out)))) | (refine wpQuiet_step (fun K hK => ?_); go_simp; split <;> (refine hK _ ?_; clear hK K))))
          all_goals (refine wpQuiet_nil ?_; rintro _ ⟨q1, rfl⟩)
          go_wp2
          go_ret
          refine ⟨?_, q1.below⟩
          rw [HG.out, HK.out, HKO.out, HSM.out, HZ.out]; rfl
end Go.Proofs.YtdiojhjkcholiaaDoor

/- IsOffice, StampsIn, StampsOut, in the reference and in the program. -/
namespace Go.Proofs.YtdiojhjkcholiaaDoor
open Go.RowKit

theorem isOfficeValid_any (x : Off) (g : Nat) (w : World) (h : OffAt w w.heap.size g x) :
    Calls Tryd.prog 35 #[.pointer (some ⟨g, 0, none⟩)] w fun e w' => e = .returned (.bool (goodOff x)) ∧ Below w.heap.size w w' := by
  cases hv : (sizesOk x && numsOk x)
  · exact isOfficeValid_no x g w h hv
  · exact isOfficeValid_yes x g w h hv
/-- The box of an office that was handed over by value. -/
theorem box_at {x : Off} {w : World} (h : OffR w w.heap.size x) (t : TypeId) : OffAt (w.alloc (.cells #[.slice x.TA x.t.length x.tc, .slice x.OA x.o.length x.oc, .int .i64 x.got, .int .i64 x.sold, .int .i64 x.missed] t)) (w.alloc (.cells #[.slice x.TA x.t.length x.tc, .slice x.OA x.o.length x.oc, .int .i64 x.got, .int .i64 x.sold, .int .i64 x.missed] t)).heap.size w.heap.size x :=
  OffAt.of (x := x) (Lies.new w t #[.slice x.TA x.t.length x.tc, .slice x.OA x.o.length x.oc, .int .i64 x.got, .int .i64 x.sold, .int .i64 x.missed]) (h.up ((Below.refl w.heap.size w).alloc (Nat.le_refl _) _) (Nat.le_refl _))

theorem implIsOffice_any (x : Off) (w : World) (h : OffR w w.heap.size x) : Calls Tryd.prog 19 #[x.val] w fun e w' => e = .returned (.bool (goodOff x)) ∧ Below w.heap.size w w' := by
  have b1 := (Below.refl w.heap.size w).alloc (Nat.le_refl _) (.cells #[.slice x.TA x.t.length x.tc, .slice x.OA x.o.length x.oc, .int .i64 x.got, .int .i64 x.sold, .int .i64 x.missed] 32)
  have hA := box_at h 32
  go_enter Tryd.func19, Tryd.ntmps19
  go_wp2_with fail
  refine (isOfficeValid_any x _ _ hA).mono ?_
  rintro e w1 ⟨rfl, hb⟩
  go_wp2
  go_ret
  exact ⟨rfl, bthen b1 hb⟩
def okOf (g : Bool) (v : Int) : Int := if g then v else 0
theorem every2_all (o : Outing) (w : World) : Calls Tryd.prog 51 (#[o.val] ++ #[]) w fun e w' => e = .returned (.bool (every o)) ∧ Below w.heap.size w w' := by
  show Calls Tryd.prog 51 #[o.val] w _
  go_enter Tryd.func51, Tryd.ntmps51
  go_wp2
  go_ret
  exact ⟨rfl, (Below.refl _ _).alloc (Nat.le_refl _) _⟩


theorem specStampsIn_any (x : Off) (w : World) (h : OffR w w.heap.size x) : Calls Tryd.prog 22 #[x.val] w fun e w' => e = .returned (.tuple #[.int .i64 (okOf (goodOff x) (inSum x.t)), .bool (goodOff x)]) ∧ Below w.heap.size w w' := by
  have b1 := (Below.refl w.heap.size w).alloc (Nat.le_refl _) (.cells #[.slice x.TA x.t.length x.tc, .slice x.OA x.o.length x.oc, .int .i64 x.got, .int .i64 x.sold, .int .i64 x.missed] 32)
  have hA := box_at h 32
  have cG := fun W hW => l32Good_any x W hW
  cases hg : goodOff x
  · rw [hg] at cG
    clear hg
    go_enter Tryd.func22, Tryd.ntmps22
    go_wp2_with fail
    generalize w.alloc (.cells #[.slice x.TA x.t.length x.tc, .slice x.OA x.o.length x.oc, .int .i64 x.got, .int .i64 x.sold, .int .i64 x.missed] 32) = W at b1 hA ⊢
    refine (cG _ hA.r).mono ?_
    rintro e w1 ⟨rfl, hb⟩
    go_wp2
    go_ret2
    exact ⟨rfl, bthen b1 hb⟩
  · rw [hg] at cG
    have G := good_iff.1 hg
    have cM := fun W hW => l32Sums_any x W hW G.tl G.ol G.tall G.oall
    clear hg G
    go_enter Tryd.func22, Tryd.ntmps22
    go_wp2_with fail
    generalize w.alloc (.cells #[.slice x.TA x.t.length x.tc, .slice x.OA x.o.length x.oc, .int .i64 x.got, .int .i64 x.sold, .int .i64 x.missed] 32) = W at b1 hA ⊢
    obtain ⟨p0, p1, p2, p3, p4⟩ := hA.s
    refine (calls_since0 (cG _ hA.r)).mono ?_
    rintro e w1 ⟨rfl, q1, rfl⟩
    go_wp2_with fail
    refine (calls_since (Nat.le_refl _) (cM _ (hA.r.at q1))).mono ?_
    rintro e w2 ⟨rfl, q2, rfl⟩
    go_wp2
    go_ret2
    exact ⟨rfl, b1.trans (q2.below.mono b1.size)⟩
theorem implStampsIn_any (x : Off) (w : World) (h : OffR w w.heap.size x) : Calls Tryd.prog 21 #[x.val] w fun e w' => e = .returned (.tuple #[.int .i64 (okOf (goodOff x) (inSum x.t)), .bool (goodOff x)]) ∧ Below w.heap.size w w' := by
  have b1 := (Below.refl w.heap.size w).alloc (Nat.le_refl _) (.cells #[.slice x.TA x.t.length x.tc, .slice x.OA x.o.length x.oc, .int .i64 x.got, .int .i64 x.sold, .int .i64 x.missed] 32)
  have hA := box_at h 32
  have cG := fun W hW => isOfficeValid_any x w.heap.size W hW
  cases hg : goodOff x
  · rw [hg] at cG
    clear hg
    go_enter Tryd.func21, Tryd.ntmps21
    go_wp2_with fail
    generalize w.alloc (.cells #[.slice x.TA x.t.length x.tc, .slice x.OA x.o.length x.oc, .int .i64 x.got, .int .i64 x.sold, .int .i64 x.missed] 32) = W at b1 hA ⊢
    refine (cG _ hA).mono ?_
    rintro e w1 ⟨rfl, hb⟩
    go_wp2
    go_ret2
    exact ⟨rfl, bthen b1 hb⟩
  · rw [hg] at cG
    have G := good_iff.1 hg
    have cM := fun W hW => stampsIn_any x w.heap.size W hW G.tl G.tall
    clear hg G
    go_enter Tryd.func21, Tryd.ntmps21
    go_wp2_with fail
    generalize w.alloc (.cells #[.slice x.TA x.t.length x.tc, .slice x.OA x.o.length x.oc, .int .i64 x.got, .int .i64 x.sold, .int .i64 x.missed] 32) = W at b1 hA ⊢
    refine (calls_since0 (cG _ hA)).mono ?_
    rintro e w1 ⟨rfl, q1, rfl⟩
    go_wp2_with fail
    refine (calls_since (Nat.le_refl _) (cM _ (hA.at q1))).mono ?_
    rintro e w2 ⟨rfl, q2, rfl⟩
    go_wp2
    go_ret2
    exact ⟨rfl, b1.trans (q2.below.mono b1.size)⟩

theorem specStampsOut_any (x : Off) (w : World) (h : OffR w w.heap.size x) : Calls Tryd.prog 24 #[x.val] w fun e w' => e = .returned (.tuple #[.int .i64 (okOf (goodOff x) (outSum every x.o)), .bool (goodOff x)]) ∧ Below w.heap.size w w' := by
  have b1 := (Below.refl w.heap.size w).alloc (Nat.le_refl _) (.cells #[.slice x.TA x.t.length x.tc, .slice x.OA x.o.length x.oc, .int .i64 x.got, .int .i64 x.sold, .int .i64 x.missed] 32)
  have hA := box_at h 32
  have cG := fun W hW => l32Good_any x W hW
  cases hg : goodOff x
  · rw [hg] at cG
    clear hg
    go_enter Tryd.func24, Tryd.ntmps24
    go_wp2_with fail
    generalize w.alloc (.cells #[.slice x.TA x.t.length x.tc, .slice x.OA x.o.length x.oc, .int .i64 x.got, .int .i64 x.sold, .int .i64 x.missed] 32) = W at b1 hA ⊢
    refine (cG _ hA.r).mono ?_
    rintro e w1 ⟨rfl, hb⟩
    go_wp2
    go_ret2
    exact ⟨rfl, bthen b1 hb⟩
  · rw [hg] at cG
    have G := good_iff.1 hg
    have cM := fun W hW => l32Sums_any x W hW G.tl G.ol G.tall G.oall
    clear hg G
    go_enter Tryd.func24, Tryd.ntmps24
    go_wp2_with fail
    generalize w.alloc (.cells #[.slice x.TA x.t.length x.tc, .slice x.OA x.o.length x.oc, .int .i64 x.got, .int .i64 x.sold, .int .i64 x.missed] 32) = W at b1 hA ⊢
    obtain ⟨p0, p1, p2, p3, p4⟩ := hA.s
    refine (calls_since0 (cG _ hA.r)).mono ?_
    rintro e w1 ⟨rfl, q1, rfl⟩
    go_wp2_with fail
    refine (calls_since (Nat.le_refl _) (cM _ (hA.r.at q1))).mono ?_
    rintro e w2 ⟨rfl, q2, rfl⟩
    go_wp2
    go_ret2
    exact ⟨rfl, b1.trans (q2.below.mono b1.size)⟩
theorem implStampsOut_any (x : Off) (w : World) (h : OffR w w.heap.size x) : Calls Tryd.prog 23 #[x.val] w fun e w' => e = .returned (.tuple #[.int .i64 (okOf (goodOff x) (outSum every x.o)), .bool (goodOff x)]) ∧ Below w.heap.size w w' := by
  have b1 := (Below.refl w.heap.size w).alloc (Nat.le_refl _) (.cells #[.slice x.TA x.t.length x.tc, .slice x.OA x.o.length x.oc, .int .i64 x.got, .int .i64 x.sold, .int .i64 x.missed] 32)
  have hA := box_at h 32
  have cG := fun W hW => isOfficeValid_any x w.heap.size W hW
  cases hg : goodOff x
  · rw [hg] at cG
    clear hg
    go_enter Tryd.func23, Tryd.ntmps23
    go_wp2_with fail
    generalize w.alloc (.cells #[.slice x.TA x.t.length x.tc, .slice x.OA x.o.length x.oc, .int .i64 x.got, .int .i64 x.sold, .int .i64 x.missed] 32) = W at b1 hA ⊢
    refine (cG _ hA).mono ?_
    rintro e w1 ⟨rfl, hb⟩
    go_wp2
    go_ret2
    exact ⟨rfl, bthen b1 hb⟩
  · rw [hg] at cG
    have G := good_iff.1 hg
    have cM := fun W hW => stampsOut_any every 51 #[] Tryd.call51 x w.heap.size W (fun o p => every2_all o p.val) hW G.ol G.oall
    clear hg G
    go_enter Tryd.func23, Tryd.ntmps23
    go_wp2_with fail
    generalize w.alloc (.cells #[.slice x.TA x.t.length x.tc, .slice x.OA x.o.length x.oc, .int .i64 x.got, .int .i64 x.sold, .int .i64 x.missed] 32) = W at b1 hA ⊢
    refine (calls_since0 (cG _ hA)).mono ?_
    rintro e w1 ⟨rfl, q1, rfl⟩
    go_wp2_with fail
    refine (calls_since (Nat.le_refl _) (cM _ (hA.at q1))).mono ?_
    rintro e w2 ⟨rfl, q2, rfl⟩
    go_wp2
    go_ret2
    exact ⟨rfl, b1.trans (q2.below.mono b1.size)⟩
end Go.Proofs.YtdiojhjkcholiaaDoor

/- Own slices that grow by one element (no program in sight). -/
namespace Go.Proofs.YtdiojhjkcholiaaDoor
open Go.RowKit

theorem cells_new (w : World) (vs : Array Value) (t : TypeId) : ∀ j u, vs.toList[j]? = some u → (w.alloc (.cells vs t)).cell? ((⟨w.heap.size, 0, none⟩ : Addr).add j) = some u := by
  intro j u hj
  have e : ((⟨w.heap.size, 0, none⟩ : Addr).add j) = ⟨w.heap.size, j, none⟩ := by unfold Addr.add; by_cases h : j = 0 <;> simp [h]
  rw [e, (Lies.new w t vs).cell]; exact hj

theorem ownsRow_heap {w w' : World} {B : Nat} {e : TypeId} {k : Nat} {v : Value} {n : Nat} {xs : List Value} (h : w'.heap = w.heap) (ho : w.ownsRow B e k v n xs) : w'.ownsRow B e k v n xs := by
  unfold World.ownsRow at *; rw [h]; exact ho

/-- 'append(s, x)': s the call's own, x one element of k cells. -/
theorem wpList_push {P : Program} {ops : Array Oper} {rest : List Oper} {o : Oper} {a : Act} {w0 wA : World} {Q : Exit → Act → World → Prop} (hgd : o.guard = none) (s x : Operand) (t : TypeId)
    (ho : o.op = .call { callee := .builtin .append, args := #[s, x], argTypes := #[t, t] })
    (e : TypeId) (z : Value) (k bytes : Nat) (ht : P.underlying t = some (.slice e)) (hinfo : (P.info? e).map (fun i => (i.zero, i.size, i.bytes)) = some (some z, k, bytes)) (hzs : z.cells.size = k) (hsz : 0 < k) (hby : bytes ≤ 1000)
    (B : Nat) (v : Value) (n : Nat) (xs : List Value) (hs : a.eval s = v) (hown : Hid (w0.ownsRow B e k v n xs))
    (vs : Array Value) (c g : Nat) (hx : a.eval x = .slice (some ⟨g, 0, none⟩) 1 c) (hg : w0.heap.size = g) (hvs : vs.size = k) (h1 : vs.all (·.oneCell') = true) (hn : n < 1000000000) (hbase : B ≤ w0.heap.size)
    (hheap : wA.heap = (w0.alloc (.cells vs e)).heap) (hos : wA.os = w0.os) (htape : wA.tape = w0.tape) (hout : wA.output = w0.output)
    (h : ∀ v' w', Hid (w'.ownsRow B e k v' (n + 1) (xs ++ vs.toList)) → w0.grownBy w' v.ownBlock → Below B w0 w' → wpList P ops Q rest (a.put o.dst v') w') : wpList P ops Q (o :: rest) a wA := by
  subst hg
  obtain ⟨i, hi, hz, hs', hb⟩ := info_parts hinfo
  have hown' := hown.out
  have hsize : wA.heap.size = w0.heap.size + 1 := by rw [hheap]; exact Array.size_push _
  have hblock : ∀ j, j < w0.heap.size → wA.heap[j]? = w0.heap[j]? := fun j hj => by rw [hheap]; exact Below.heap_alloc w0 _ j hj
  have h4 : w0.grownBy wA v.ownBlock := ⟨hos, htape, hout, by omega, fun j hj _ => hblock j hj⟩
  refine wpList_append_own (w := wA) hgd s x t ho B e i z k bytes ht hi hz hs' hb hzs hsz v n xs hs (ownsRow_heap hheap (hown'.alloc _)) ⟨w0.heap.size, 0, none⟩ 1 c vs.toList hx (by simp [hvs]) ?_ (fun u hu => (Array.all_eq_true_iff_forall_mem.1 h1) u (by simpa using hu)) (by unfold maxLen; omega) ?_ (by omega) fun v' w' h2 h3 _ => h v' w' h2 ?_ ?_
  · intro j u hj
    have := cells_new w0 vs e j u hj
    rw [← this]; exact World.cell?_of_block (by rw [hheap])
  · have := Nat.mul_le_mul (show n + 1 ≤ 1000000000 by omega) hby
    omega
  · exact ⟨h3.os.trans h4.os, h3.tape.trans h4.tape, h3.output.trans h4.output, Nat.le_trans h4.size h3.size, fun j hj hne => (h3.block j (Nat.lt_of_lt_of_le hj h4.size) hne).trans (h4.block j hj hne)⟩
  · exact ((Below.refl B w0).grown h4 hbase (fun j hj => (hown'.lt j hj).1)).grown h3 (by omega) (fun j hj => (hown'.lt j hj).1)

theorem ownsRow_slice {w : World} {B : Nat} {e : TypeId} {k : Nat} {v : Value} {n : Nat} {xs : List Value} (h : w.ownsRow B e k v n xs) : ∃ A c, v = .slice A n c := by
  obtain ⟨_, ⟨rfl, rfl⟩ | ⟨g, cap, _, rfl, _⟩⟩ := h
  · exact ⟨_, _, rfl⟩
  · exact ⟨_, _, rfl⟩
end Go.Proofs.YtdiojhjkcholiaaDoor

/- 'append(s, xs...)' onto a row of the call's own, the source nil, empty or not (no program in sight). -/
namespace Go.Proofs.YtdiojhjkcholiaaDoor
open Go.RowKit

/-- Nothing is appended: the nil slice. -/
theorem run_cat_nil {P : Program} (w : World) (base : Nat) (t ty e : TypeId) (i : TypeInfo) (size : Nat) (ht : P.underlying t = some (.slice e)) (hi : P.info? e = some i)
    (v : Value) (n : Nat) (xs : List Value) (hown : w.ownsRow base e size v n xs) (c : Nat) : (Builtin.append_ #[t, t] ty #[v, .slice none 0 c]).run P w = .ok v w := by
  obtain ⟨_, ⟨rfl, rfl⟩ | ⟨g, cap, cur, rfl, _, _, hcap, _⟩⟩ := hown
  · simp [Builtin.append_, run_underlying ht, sizeOf, typeInfo, hi, Builtin.lenOf, Builtin.firstCells]
  · simp [Builtin.append_, run_underlying ht, sizeOf, typeInfo, hi, Builtin.lenOf, Builtin.firstCells, hcap, storeCells]

theorem addr_add (b o j : Nat) : ((⟨b, o, none⟩ : Addr).add j) = ⟨b, o + j, none⟩ := by unfold Addr.add; by_cases h : j = 0 <;> simp [h]

theorem wp_cat {P : Program} {o : Oper} {a : Act} {w : World} {K : Act → World → Prop} {Q : Exit → Act → World → Prop} (s x : Operand) (t : TypeId)
    (ho : o.op = .call { callee := .builtin .append, args := #[s, x], argTypes := #[t, t] })
    (e : TypeId) (z : Value) (k bytes : Nat) (ht : P.underlying t = some (.slice e)) (hinfo : (P.info? e).map (fun i => (i.zero, i.size, i.bytes)) = some (some z, k, bytes)) (hzs : z.cells.size = k) (hsz : 0 < k) (hby : bytes ≤ 1000)
    (B : Nat) (v : Value) (n : Nat) (xs : List Value) (hs : a.eval s = v) (hown : Hid (w.ownsRow B e k v n xs))
    (S : Nat) (A : Option Addr) (m c : Nat) (cs : List Value) (hx : a.eval x = .slice A m c) (hr : Hid (SlcR w S k A m cs)) (h1 : ∀ u ∈ cs, u.oneCell' = true)
    (hn : n + m ≤ 1000000000) (hbase : B ≤ w.heap.size)
    (h : ∀ v' w', Hid (w'.ownsRow B e k v' (n + m) (xs ++ cs)) → w.grownBy w' v.ownBlock → Below B w w' → (v'.ownBlock = v.ownBlock ∨ v'.ownBlock = some w.heap.size) → K (a.put o.dst v') w') : o.wp P a w K Q := by
  obtain ⟨i, hi, hz, hs', hb⟩ := info_parts hinfo
  have hbytes : (n + m) * bytes ≤ 140737488355328 := by have := Nat.mul_le_mul hn hby; omega
  have fin : ∀ v' w', (Builtin.append_ #[t, t] o.type #[v, .slice A m c]).run P w = .ok v' w' → w'.ownsRow B e k v' (n + m) (xs ++ cs) → w.grownBy w' v.ownBlock → (v'.ownBlock = v.ownBlock ∨ v'.ownBlock = some w.heap.size) → o.wp P a w K Q := by
    intro v' w' hrun h2 h3 h4
    unfold Oper.wp execOp
    simp only [ho, resolve, invoke, builtin, Sem.run_bind, Sem.run_pure, Result.andThen_ok, List.map_toArray, List.map_cons, List.map_nil, hs, hx, hrun]
    exact h v' w' h2 h3 ((Below.refl B w).grown h3 hbase (fun j hj => (hown.out.lt j hj).1)) h4
  rcases Nat.eq_zero_or_pos m with h0 | h0
  · subst h0
    have hc0 : cs = [] := List.eq_nil_of_length_eq_zero (by simpa using hr.out.len)
    subst hc0
    rcases A with _ | ad
    · exact fin v w (run_cat_nil w B t o.type e i k ht hi v n xs hown.out c) (by simpa using hown.out) (World.grownBy.refl w _) (.inl rfl)
    · obtain ⟨v', w', hrun, h2, h3, _, h5⟩ := run_append_own_at (P := P) w B t o.type e i z k bytes ht hi hz hs' hb hzs hsz v n xs hown.out ad 0 c [] (by simp) (by simp) (by simp) (by unfold maxLen; omega) hbytes hbase
      exact fin v' w' hrun h2 h3 h5
  · obtain ⟨b, off, rfl, hlt, hcell⟩ := hr.out.at_ h0
    obtain ⟨v', w', hrun, h2, h3, _, h5⟩ := run_append_own_at (P := P) w B t o.type e i z k bytes ht hi hz hs' hb hzs hsz v n xs hown.out ⟨b, off, none⟩ m c cs hr.out.len (fun j u hu => by rw [addr_add]; exact hcell j u hu) h1 (by unfold maxLen; omega) hbytes hbase
    exact fin v' w' hrun h2 h3 h5

theorem wpList_cat {P : Program} {ops : Array Oper} {rest : List Oper} {o : Oper} {a : Act} {w : World} {Q : Exit → Act → World → Prop} (hgd : o.guard = none) (s x : Operand) (t : TypeId)
    (ho : o.op = .call { callee := .builtin .append, args := #[s, x], argTypes := #[t, t] })
    (e : TypeId) (z : Value) (k bytes : Nat) (ht : P.underlying t = some (.slice e)) (hinfo : (P.info? e).map (fun i => (i.zero, i.size, i.bytes)) = some (some z, k, bytes)) (hzs : z.cells.size = k) (hsz : 0 < k) (hby : bytes ≤ 1000)
    (B : Nat) (v : Value) (n : Nat) (xs : List Value) (hs : a.eval s = v) (hown : Hid (w.ownsRow B e k v n xs))
    (S : Nat) (A : Option Addr) (m c : Nat) (cs : List Value) (hx : a.eval x = .slice A m c) (hr : Hid (SlcR w S k A m cs)) (h1 : ∀ u ∈ cs, u.oneCell' = true)
    (hn : n + m ≤ 1000000000) (hbase : B ≤ w.heap.size)
    (h : ∀ v' w', Hid (w'.ownsRow B e k v' (n + m) (xs ++ cs)) → w.grownBy w' v.ownBlock → Below B w w' → (v'.ownBlock = v.ownBlock ∨ v'.ownBlock = some w.heap.size) → wpList P ops Q rest (a.put o.dst v') w') : wpList P ops Q (o :: rest) a w :=
  wpList_plain hgd fun _ hK => wp_cat s x t ho e z k bytes ht hinfo hzs hsz hby B v n xs hs hown S A m c cs hx hr h1 hn hbase fun v' w' h2 h3 h4 h5 => hK _ _ (h v' w' h2 h3 h4 h5)

/-- A slice made by the text itself, of no element. -/
theorem owns_empty {w : World} {B g : Nat} {e : TypeId} {k : Nat} (h : Lies w g e []) (hB : B ≤ g) : w.ownsRow B e k (.slice (some ⟨g, 0, none⟩) 0 0) 0 [] := h.own hB (by simp) (by unfold maxLen; omega)
theorem ints_one {l : List Int} : ∀ u ∈ (l.map (Value.int .i64)), u.oneCell' = true := by
  intro u hu; obtain ⟨n, _, rfl⟩ := List.mem_map.1 hu; rfl
end Go.Proofs.YtdiojhjkcholiaaDoor

/- Rows that are spliced: copy, clear, append in place, at elements of k cells (no program in sight). -/
namespace Go.Proofs.YtdiojhjkcholiaaDoor
open Go.RowKit

theorem Lies.setCells {g : Nat} {t : TypeId} : ∀ (vs : List Value) (o : Nat) (w : World) (cs : List Value), Lies w g t cs → o + vs.length ≤ cs.length → Lies (w.setCells g o vs) g t (splice cs o vs)
  | [], o, w, cs, h, _ => by simpa [World.setCells, splice] using h
  | v :: r, o, w, cs, h, hl => by
    rw [World.setCells]
    have h2 := Lies.setCells r (o + 1) (w.setCell ⟨g, o, none⟩ v) (cs.set o v) (h.set o v) (by simp at hl ⊢; omega)
    have e : splice (cs.set o v) (o + 1) r = splice cs o (v :: r) := by
      unfold splice
      have hlt : o < cs.length := by simp at hl; omega
      have e1 : (cs.set o v).take (o + 1) = cs.take o ++ [v] := by
        rw [List.take_set, List.take_succ_eq_append_getElem hlt, List.set_append_right _ _ (by rw [List.length_take]; omega)]
        rw [List.length_take, Nat.min_eq_left (by omega), Nat.sub_self]; rfl
      have e2 : (cs.set o v).drop (o + 1 + r.length) = cs.drop (o + (v :: r).length) := by
        rw [List.drop_set_of_lt (by omega)]; congr 1; simp; omega
      rw [e1, e2]; simp
    rw [e] at h2; exact h2
theorem grown_setCells {a : World} {g : Nat} : ∀ (vs : List Value) (o : Nat) (w : World), a.grownBy w (some g) → a.grownBy (w.setCells g o vs) (some g)
  | [], _, _, h => h
  | v :: r, o, w, h => by
    rw [World.setCells]
    have hs : a.grownBy (w.setCell ⟨g, o, none⟩ v) (some g) :=
      ⟨h.os, h.tape, h.output, by have := h.size; simpa [World.setCell] using this, fun k hk hne => (Below.heap_setCell w ⟨g, o, none⟩ v k (fun e => hne (by rw [e]))).trans (h.block k hk hne)⟩
    exact grown_setCells r (o + 1) _ hs
theorem Lies.drew {w : World} {g : Nat} {t : TypeId} {cs : List Value} (h : Lies w g t cs) : Lies w.drew g t cs := h

/-- copy at elements of k cells. -/
theorem run_copy_k {P : Program} (w : World) (dT sT ty elem : TypeId) (k b o dLen dCap : Nat) (a : Addr) (sLen sCap : Nat) (cs : List Value)
    (hu : P.underlying dT = some (.slice elem)) (hs : (P.info? elem).map (·.size) = some k) (hn : cs.length = Nat.min sLen dLen * k)
    (hsrc : ∀ j v, cs[j]? = some v → w.cell? (a.add j) = some v) (hc : ∀ j, j < cs.length → (w.cell? ⟨b, o + j, none⟩).isSome = true) (hf : ∀ j, j < cs.length → w.frozen? ⟨b, o + j, none⟩ = false) (h1 : ∀ v ∈ cs, v.oneCell' = true) :
    (Builtin.copy_ #[dT, sT] ty #[.slice (some ⟨b, o, none⟩) dLen dCap, .slice (some a) sLen sCap]).run P w = .ok (goInt (Nat.min sLen dLen)) (w.setCells b o cs) := by
  have hst := run_storeCells_cells (P := P) b o cs 0 w (by simpa using hc) (by simpa using hf) h1
  cases hq : P.info? elem with
  | none => simp [hq] at hs
  | some i =>
    have hi : i.size = k := by simpa [hq] using hs
    have hfc := run_firstCells_some (P := P) w k (Nat.min sLen dLen) a sLen sCap cs hn hsrc
    simp [Builtin.copy_, run_underlying hu, Builtin.lenOf, sizeOf, typeInfo, hq, hi, hfc, hst]
/-- copy into a block that is known whole. -/
theorem run_copy_own {P : Program} (w : World) (dT sT ty elem e : TypeId) (k b o dLen dCap : Nat) (a : Addr) (sLen sCap m : Nat) (cs cur : List Value)
    (hu : P.underlying dT = some (.slice elem)) (hs : (P.info? elem).map (·.size) = some k) (hm : Nat.min sLen dLen = m) (hn : cs.length = m * k)
    (hL : Lies w b e cur) (hfit : o + cs.length ≤ cur.length) (hsrc : ∀ j v, cs[j]? = some v → w.cell? (a.add j) = some v) (h1 : ∀ v ∈ cs, v.oneCell' = true) :
    (Builtin.copy_ #[dT, sT] ty #[.slice (some ⟨b, o, none⟩) dLen dCap, .slice (some a) sLen sCap]).run P w = .ok (goInt m) (w.setCells b o cs) := by
  subst hm
  exact run_copy_k w dT sT ty elem k b o dLen dCap a sLen sCap cs hu hs hn hsrc (fun j hj => by rw [hL.cell, List.getElem?_eq_getElem (by omega)]; rfl) (fun j hj => hL.frozen _) h1
/-- clear at elements of k cells. -/
theorem run_clear_k {P : Program} (w : World) (t e ty : TypeId) (z : Value) (zs : List Value) (ht : P.underlying t = some (.slice e)) (hv : ∀ w, (zeroValue e).run P w = .ok z w) (b o n c : Nat) (hn : 0 < n) (hz : (Builtin.zeroCells z.cells n).toList = zs) (h1 : ∀ v ∈ zs, v.oneCell' = true)
    (hc : ∀ j, j < zs.length → (w.cell? ⟨b, o + j, none⟩).isSome = true) (hf : ∀ j, j < zs.length → w.frozen? ⟨b, o + j, none⟩ = false) :
    (Builtin.clear_ #[t] ty #[.slice (some ⟨b, o, none⟩) n c]).run P w = .ok (.tuple #[]) (w.setCells b o zs) := by
  have hst := run_storeCells_cells (P := P) b o zs 0 w (by simpa using hc) (by simpa using hf) h1
  simp only [Nat.add_zero] at hst
  obtain ⟨m, rfl⟩ : ∃ m, n = m + 1 := ⟨n - 1, by omega⟩
  simp [Builtin.clear_, run_underlying ht, hv, hz, hst]

/-- What an insertion in place leaves. -/
theorem splice_insert (cur xs x : List Value) (i k n : Nat) (hx : x.length = k) (hxs : xs.length = n * k) (hi : i ≤ n) (hcur : cur.take (n * k) = xs) (hroom : (n + 1) * k ≤ cur.length) :
    (splice (splice cur (i * k + k) (xs.drop (i * k))) (i * k) x).take ((n + 1) * k) = xs.take (i * k) ++ x ++ xs.drop (i * k) := by
  have hik : i * k ≤ n * k := Nat.mul_le_mul_right k hi
  have hn1 : (n + 1) * k = n * k + k := Nat.succ_mul n k
  rw [hn1] at hroom ⊢
  have hl0 : n * k ≤ cur.length := by omega
  have et : (cur.take (i * k)) = xs.take (i * k) := by rw [← hcur, List.take_take, Nat.min_eq_left hik]
  have hd : (xs.drop (i * k)).length = n * k - i * k := by rw [List.length_drop, hxs]
  have e1 : splice cur (i * k + k) (xs.drop (i * k)) = cur.take (i * k + k) ++ xs.drop (i * k) ++ cur.drop (n * k + k) := by
    unfold splice; rw [hd]; congr 2; omega
  have l1 : (cur.take (i * k + k)).length = i * k + k := by rw [List.length_take]; omega
  rw [e1]
  unfold splice
  have e2 : (cur.take (i * k + k) ++ xs.drop (i * k) ++ cur.drop (n * k + k)).take (i * k) = xs.take (i * k) := by
    rw [List.append_assoc, List.take_append_of_le_length (by omega), List.take_take, Nat.min_eq_left (by omega), et]
  have e3 : (cur.take (i * k + k) ++ xs.drop (i * k) ++ cur.drop (n * k + k)).drop (i * k + x.length) = xs.drop (i * k) ++ cur.drop (n * k + k) := by
    rw [hx, List.append_assoc, List.drop_append_of_le_length (by omega), List.drop_of_length_le (by omega), List.nil_append]
  rw [e2, e3, ← List.append_assoc]
  have l2 : (xs.take (i * k) ++ x ++ xs.drop (i * k)).length = n * k + k := by
    rw [List.length_append, List.length_append, List.length_take, hd, hxs, hx]; omega
  rw [List.take_append_of_le_length (by omega), List.take_of_length_le (by omega)]
theorem splice_len (cs vs : List Value) (o : Nat) (h : o + vs.length ≤ cs.length) : (splice cs o vs).length = cs.length := by
  unfold splice; simp; omega
/-- What a deletion leaves. -/
theorem splice_delete (cur xs zs : List Value) (i k n : Nat) (hz : zs.length = k) (hxs : xs.length = n * k) (hi : i < n) (hcur : cur.take (n * k) = xs) (hl : n * k ≤ cur.length) :
    (splice (splice cur (i * k) (xs.drop (i * k + k))) ((n - 1) * k) zs).take ((n - 1) * k) = xs.take (i * k) ++ xs.drop (i * k + k) := by
  have hik : i * k + k ≤ n * k := by rw [← Nat.succ_mul]; exact Nat.mul_le_mul_right k hi
  have hn1 : (n - 1) * k + k = n * k := by rw [← Nat.succ_mul]; congr 1; omega
  have et : (cur.take (i * k)) = xs.take (i * k) := by rw [← hcur, List.take_take, Nat.min_eq_left (by omega)]
  have hd : (xs.drop (i * k + k)).length = n * k - (i * k + k) := by rw [List.length_drop, hxs]
  have l1 : (xs.take (i * k) ++ xs.drop (i * k + k)).length = (n - 1) * k := by rw [List.length_append, List.length_take, hd, hxs]; omega
  have e1 : (splice cur (i * k) (xs.drop (i * k + k))).take ((n - 1) * k) = xs.take (i * k) ++ xs.drop (i * k + k) := by
    unfold splice; rw [et, List.take_append_of_le_length (by omega), List.take_of_length_le (by omega)]
  have l2 : (splice cur (i * k) (xs.drop (i * k + k))).length = cur.length := splice_len _ _ _ (by rw [hd]; omega)
  have e2 : (splice (splice cur (i * k) (xs.drop (i * k + k))) ((n - 1) * k) zs) = (splice cur (i * k) (xs.drop (i * k + k))).take ((n - 1) * k) ++ (zs ++ (splice cur (i * k) (xs.drop (i * k + k))).drop ((n - 1) * k + zs.length)) := by
    rw [splice, List.append_assoc]
  rw [e2, List.take_append_of_le_length (by rw [List.length_take]; omega), List.take_take, Nat.min_self, e1]
/-- What an insertion into a new row leaves. -/
theorem splice_grow (xs x Z : List Value) (i k n : Nat) (hx : x.length = k) (hxs : xs.length = n * k) (hi : i ≤ n) (hZ : (n + 1) * k ≤ i * k + Z.length) :
    (splice (splice (xs.take (i * k) ++ Z) (i * k) x) ((i + 1) * k) (xs.drop (i * k))).take ((n + 1) * k) = xs.take (i * k) ++ x ++ xs.drop (i * k) := by
  have hik : i * k ≤ n * k := Nat.mul_le_mul_right k hi
  have hn1 : (n + 1) * k = n * k + k := Nat.succ_mul n k
  have hi1 : (i + 1) * k = i * k + k := Nat.succ_mul i k
  rw [hn1] at hZ ⊢
  rw [hi1]
  have lt : (xs.take (i * k)).length = i * k := by rw [List.length_take]; omega
  have ld : (xs.drop (i * k)).length = n * k - i * k := by rw [List.length_drop, hxs]
  have e1 : splice (xs.take (i * k) ++ Z) (i * k) x = xs.take (i * k) ++ x ++ Z.drop k := by
    unfold splice
    rw [List.take_append_of_le_length (by omega), List.take_of_length_le (by omega), List.drop_append, List.drop_eq_nil_of_le (by omega), lt, hx, List.nil_append]
    congr 2; omega
  have l1 : (xs.take (i * k) ++ x).length = i * k + k := by rw [List.length_append, lt, hx]
  rw [e1]
  unfold splice
  have e2 : (xs.take (i * k) ++ x ++ Z.drop k).take (i * k + k) = xs.take (i * k) ++ x := by
    rw [List.take_append_of_le_length (by omega), List.take_of_length_le (by omega)]
  rw [e2]
  have l2 : (xs.take (i * k) ++ x ++ xs.drop (i * k)).length = n * k + k := by rw [List.length_append, l1, ld]; omega
  rw [List.take_append_of_le_length (by omega), List.take_of_length_le (by omega)]
theorem Lies.shape {w : World} {g : Nat} {t : TypeId} {cs : List Value} (h : Lies w g t cs) : w.shape? g = some (t, cs.length) := by
  unfold Lies at h; simp [World.shape?, h]
/-- Two blocks of their own do not overlap. -/
theorem run_overlaps_own {P : Program} (w : World) (f : FuncId) (fn : Func) (tS tR e : TypeId) (hf : P.funcs[f]? = some fn) (hname : (fn.name == "runtime.NumGoroutine") = false) (hb : fn.body.isNone = true) (hnx : Extern.findNext fn = none) (he : Extern.find fn = some (Extern.SlicesOverlaps.overlaps #[tS, tS] #[tR]))
    (ht : P.underlying tS = some (.slice e)) (size : Nat) (hz : ∀ w, (Go.sizeOf e).run P w = .ok size w) (ga gb : Nat) (oa ob la ca lb cb : Nat) (hne : ga ≠ gb) (ta tb : TypeId) (xa xb : List Value) (hLa : Lies w ga ta xa) (hLb : Lies w gb tb xb) (hxb : xb.length ≠ 0) :
    (callFunc f #[.slice (some ⟨ga, oa, none⟩) la ca, .slice (some ⟨gb, ob, none⟩) lb cb]).run P w = .ok (.value (.bool false)) w := by
  rw [run_callFunc_extern hf hname hb hnx he, Lib.run_overlaps_apart w tS tR e ht size hz ⟨ga, oa, none⟩ ⟨gb, ob, none⟩ la ca lb cb hne ta tb _ _ hLa.shape hLb.shape hxb (hLa.frozen _) (hLa.frozen _)]
  rfl

/-- The operation copy, where its run is known. -/
theorem wp_copy_known {P : Program} (w : World) {o : Oper} {a : Act} {K : Act → World → Prop} {Q : Exit → Act → World → Prop} (d s : Operand) (t t' : TypeId)
    (ho : o.op = .call { callee := .builtin .copy, args := #[d, s], argTypes := #[t, t'] }) (v u : Value) (hd : a.eval d = v) (hs : a.eval s = u) {v' : Value} {w' : World}
    (hr : (Builtin.copy_ #[t, t'] o.type #[v, u]).run P w = .ok v' w') (h : K (a.put o.dst v') w') : o.wp P a w K Q := by
  unfold Oper.wp execOp
  simp only [ho, resolve, invoke, builtin, Sem.run_bind, Sem.run_pure, Result.andThen_ok, List.map_toArray, List.map_cons, List.map_nil, hd, hs, hr]
  exact h
theorem wp_copy_own {P : Program} {w : World} {o : Oper} {a : Act} {K : Act → World → Prop} {Q : Exit → Act → World → Prop} (d s : Operand) (t : TypeId)
    (ho : o.op = .call { callee := .builtin .copy, args := #[d, s], argTypes := #[t, t] }) (e elem : TypeId) (k b ofs dLen dCap : Nat) (A : Addr) (sLen sCap m : Nat) (cs cur : List Value)
    (hd : a.eval d = .slice (some ⟨b, ofs, none⟩) dLen dCap) (hs : a.eval s = .slice (some A) sLen sCap)
    (hu : P.underlying t = some (.slice elem)) (hi : (P.info? elem).map (·.size) = some k) (hm : Nat.min sLen dLen = m) (hn : cs.length = m * k)
    (hL : Hid (Lies w b e cur)) (hfit : Hid (ofs + cs.length ≤ cur.length)) (hsrc : Hid (∀ j v, cs[j]? = some v → w.cell? (A.add j) = some v)) (h1 : Hid (∀ v ∈ cs, v.oneCell' = true))
    (h : ∀ w', Hid (Lies w' b e (splice cur ofs cs)) → w.grownBy w' (some b) → K (a.put o.dst (goInt m)) w') : o.wp P a w K Q :=
  wp_copy_known w d s t t ho _ _ hd hs (run_copy_own w t t o.type elem e k b ofs dLen dCap A sLen sCap m cs cur hu hi hm hn hL.out hfit.out hsrc.out h1.out) (h _ (Lies.setCells cs ofs w cur hL.out hfit.out) (grown_setCells cs ofs w (World.grownBy.refl w _)))
theorem wpList_copy_own {P : Program} {w : World} {ops : Array Oper} {rest : List Oper} {o : Oper} {a : Act} {Q : Exit → Act → World → Prop} (hgd : o.guard = none) (d s : Operand) (t : TypeId)
    (ho : o.op = .call { callee := .builtin .copy, args := #[d, s], argTypes := #[t, t] }) (e elem : TypeId) (k b ofs dLen dCap : Nat) (A : Addr) (sLen sCap m : Nat) (cs cur : List Value)
    (hd : a.eval d = .slice (some ⟨b, ofs, none⟩) dLen dCap) (hs : a.eval s = .slice (some A) sLen sCap)
    (hu : P.underlying t = some (.slice elem)) (hi : (P.info? elem).map (·.size) = some k) (hm : Nat.min sLen dLen = m) (hn : cs.length = m * k)
    (hL : Hid (Lies w b e cur)) (hfit : Hid (ofs + cs.length ≤ cur.length)) (hsrc : Hid (∀ j v, cs[j]? = some v → w.cell? (A.add j) = some v)) (h1 : Hid (∀ v ∈ cs, v.oneCell' = true))
    (h : ∀ w', Hid (Lies w' b e (splice cur ofs cs)) → w.grownBy w' (some b) → wpList P ops Q rest (a.put o.dst (goInt m)) w') : wpList P ops Q (o :: rest) a w :=
  wpList_plain hgd fun _ hK => wp_copy_own d s t ho e elem k b ofs dLen dCap A sLen sCap m cs cur hd hs hu hi hm hn hL hfit hsrc h1 fun w' h2 h3 => hK _ _ (h w' h2 h3)
theorem step_copy_own {P : Program} {w : World} {ops : Array Oper} {o : Oper} {a : Act} {K : Act → World → Prop} {Q : Exit → Act → World → Prop} {E : Prop} (hgd : o.guard = none) (d s : Operand) (t : TypeId)
    (ho : o.op = .call { callee := .builtin .copy, args := #[d, s], argTypes := #[t, t] }) (e elem : TypeId) (k b ofs dLen dCap : Nat) (A : Addr) (sLen sCap m : Nat) (cs cur : List Value)
    (hd : a.eval d = .slice (some ⟨b, ofs, none⟩) dLen dCap) (hs : a.eval s = .slice (some A) sLen sCap)
    (hu : P.underlying t = some (.slice elem)) (hi : (P.info? elem).map (·.size) = some k) (hm : Nat.min sLen dLen = m) (hn : cs.length = m * k)
    (hL : Hid (Lies w b e cur)) (hfit : Hid (ofs + cs.length ≤ cur.length)) (hsrc : Hid (∀ j v, cs[j]? = some v → w.cell? (A.add j) = some v)) (h1 : Hid (∀ v ∈ cs, v.oneCell' = true))
    (h : ∀ w', Hid (Lies w' b e (splice cur ofs cs)) → w.grownBy w' (some b) → K (a.put o.dst (goInt m)) w') :
    if Region.wanted o (yielded ops a.tmps) = true then Oper.wp P o a w K Q else E := by
  have hw : Region.wanted o (yielded ops a.tmps) = true := by simp [Region.wanted, hgd]
  rw [if_pos hw]
  exact wp_copy_own d s t ho e elem k b ofs dLen dCap A sLen sCap m cs cur hd hs hu hi hm hn hL hfit hsrc h1 h
/-- The operation clear, into a block that is known whole. -/
theorem wpList_clear_own {P : Program} {w : World} {ops : Array Oper} {rest : List Oper} {o : Oper} {a : Act} {Q : Exit → Act → World → Prop} (hgd : o.guard = none) (d : Operand) (t : TypeId)
    (ho : o.op = .call { callee := .builtin .clear, args := #[d], argTypes := #[t] }) (e el : TypeId) (z : Value) (zs : List Value) (b ofs n c : Nat) (cur : List Value) (hd : a.eval d = .slice (some ⟨b, ofs, none⟩) n c)
    (ht : P.underlying t = some (.slice e)) (hv : ∀ w, (zeroValue e).run P w = .ok z w) (hn : 0 < n) (hz : (Builtin.zeroCells z.cells n).toList = zs) (h1 : ∀ v ∈ zs, v.oneCell' = true)
    (hL : Hid (Lies w b el cur)) (hfit : Hid (ofs + zs.length ≤ cur.length))
    (h : ∀ w', Hid (Lies w' b el (splice cur ofs zs)) → w.grownBy w' (some b) → wpList P ops Q rest (a.put o.dst (.tuple #[])) w') : wpList P ops Q (o :: rest) a w := by
  have hr := run_clear_k (P := P) w t e o.type z zs ht hv b ofs n c hn hz h1 (fun j hj => by rw [hL.out.cell, List.getElem?_eq_getElem (by have := hfit.out; omega)]; rfl) (fun j hj => hL.out.frozen _)
  refine wpList_plain hgd fun K hK => ?_
  unfold Oper.wp execOp
  simp only [ho, resolve, invoke, builtin, Sem.run_bind, Sem.run_pure, Result.andThen_ok, List.map_toArray, List.map_cons, List.map_nil, hd, hr]
  exact hK _ _ (h _ (Lies.setCells zs ofs w cur hL.out hfit.out) (grown_setCells zs ofs w (World.grownBy.refl w _)))
end Go.Proofs.YtdiojhjkcholiaaDoor

/- slices.BinarySearchFunc, Insert at impl.Tray (printed by gen_libq.py). -/
namespace Go.Proofs.YtdiojhjkcholiaaDoor
open Go.RowKit

theorem tray_cells {l : List Tray} : ∀ u ∈ l.flatMap Tray.enc, u.oneCell' = true := by
  intro u hu
  obtain ⟨r, _, hr⟩ := List.mem_flatMap.1 hu
  simp only [Tray.enc, List.mem_cons, List.not_mem_nil, or_false] at hr
  rcases hr with rfl | rfl <;> rfl
end Go.Proofs.YtdiojhjkcholiaaDoor

/- slices.BinarySearchFunc, Insert, Delete at impl.Outing (printed by gen_libq.py). -/
namespace Go.Proofs.YtdiojhjkcholiaaDoor
open Go.RowKit

theorem outing_cells {l : List Outing} : ∀ u ∈ l.flatMap Outing.enc, u.oneCell' = true := by
  intro u hu
  obtain ⟨r, _, hr⟩ := List.mem_flatMap.1 hu
  simp only [Outing.enc, List.mem_cons, List.not_mem_nil, or_false] at hr
  rcases hr with rfl | rfl | rfl <;> rfl
end Go.Proofs.YtdiojhjkcholiaaDoor
