/- Fc02: the texts OffSpec4 OffImpl1 OffImpl2 OffImpl3 OffImpl4 OffIn Num Itoab Itoa TrayTx, joined into one file. -/
import Derived.Deep.RegionHeld3
import Derived.Test.YtojceibamgodbaaGreatDoorProg
import Derived.Lib.ItoaNum
import Derived.Lib.ItoaLen
import Derived.Shelf.LaysM
import Derived.Shelf.Strconv.Itoa3
import Derived.Shelf.Small.Wraps
import Derived.Shelf.Small.Strs
import Derived.Shelf.Strings.Search3
import Derived.Shelf.Strings.LastIndexAll
import Derived.Shelf.Slices.Turned
import Derived.WalkSmall
import Derived.Lib.AppendIntMem
import Derived.Test.YtojceibamgodbaaGreatDoorFc01

set_option linter.unusedVariables false

/- Validity of an office, in the reference: sums, the whole. -/
namespace Go.Proofs.YtojceibamgodbaaGreatDoor
open Go.RowKit

theorem calls_since0B {P : Program} {f : FuncId} {args : Array Value} {W : World} {b b' : Bool} (hb : Hid (b = b'))
    (h : Calls P f args W fun e w' => e = .returned (.bool b) ∧ Below W.heap.size W w') : Calls P f args W fun e w' => e = .returned (.bool b') ∧ ∃ q' : Since W.heap.size W, w' = q'.val := by
  have := hb.out; subst this; exact calls_since0 h
theorem l32All_any (n : Int) (w : World) : Calls Tryz.prog 37 #[.int .i64 n] w fun e w' => e = .returned (.bool (inR n 0 99999)) ∧ w = w' := by
  go_enter Tryz.func37, Tryz.ntmps37
  go_wp2_with fail
  refine (l1In_any n 0 99999 _).mono ?_
  rintro e w' ⟨rfl, rfl⟩
  go_wp2
  go_ret
  exact ⟨rfl, rfl⟩

set_option maxHeartbeats 1000000 in
theorem l32Sums_any (x : Off) (w : World) (h : OffR w w.heap.size x) (tl : x.t.length ≤ 8) (ol : x.o.length ≤ 8) (ht : ∀ i (hi : i < x.t.length), x.t[i].ok = true) (ho : ∀ i (hi : i < x.o.length), x.o[i].ok x.t = true) :
    Calls Tryz.prog 38 #[x.val] w fun e w' => e = .returned (.tuple #[.int .i64 (inSum x.t), .int .i64 (outSum every x.o)]) ∧ Below w.heap.size w w' := by
  have HT := Lib.hid ht; clear ht
  have HO := Lib.hid ho; clear ho
  have HF : Hid (inFrom 0 (x.t.drop 0) = inSum x.t) := rfl
  have HG : Hid (outFrom every 0 (x.o.drop 0) = outSum every x.o) := rfl
  go_enter Tryz.func38, Tryz.ntmps38
  go_wp2
  have hb0 := (Below.refl w.heap.size w).alloc (Nat.le_refl _) (.cells #[.slice x.TA x.t.length x.tc, .slice x.OA x.o.length x.oc, .int .i64 x.got, .int .i64 x.sold, .int .i64 x.missed] 36)
  have hS := OffS.of (x := x) (Lies.new w 36 #[.slice x.TA x.t.length x.tc, .slice x.OA x.o.length x.oc, .int .i64 x.got, .int .i64 x.sold, .int .i64 x.missed])
  have hR := h.up hb0 (Nat.le_refl _)
  generalize w.alloc (.cells #[.slice x.TA x.t.length x.tc, .slice x.OA x.o.length x.oc, .int .i64 x.got, .int .i64 x.sold, .int .i64 x.missed] 36) = W at hb0 hS hR ⊢
  obtain ⟨s0, s1, s2, s3, s4⟩ := hS
  have hrt := hR.ts.el
  have hro := hR.os.el
  go_loopw [4, 6] (fun s i wr => ∃ (k : Nat) (t : Int), k ≤ x.t.length ∧ i = .int .i64 k ∧ s = .int .i64 t ∧ (0 ≤ t ∧ t ≤ 9999 * (k : Int)) ∧ (∃ q : Since W.heap.size W, wr = q.val) ∧ Hid (inFrom t (x.t.drop k) = inSum x.t)) (fun _ i _ => x.t.length - (intOf i).toNat)
  case atStart => exact ⟨0, 0, Nat.zero_le _, rfl, rfl, by omega, ⟨Since.start _ _, rfl⟩, HF⟩
  case round =>
    obtain ⟨k, t, hk, rfl, rfl, ⟨t0, t1⟩, ⟨q, rfl⟩, HR⟩ := hrel
    by_cases hlt : k < x.t.length
    · obtain ⟨b, off, hA, hb, hcell⟩ := hrt (by omega)
      obtain ⟨e0, e1⟩ := hcell k hlt
      obtain ⟨_, x1, x2⟩ := Tray.bounds (HT.out k hlt)
      have HS := Lib.hid (in_step hlt t)
      obtain ⟨r, hre⟩ : ∃ r, r = x.t[k] := ⟨_, rfl⟩
      rw [← hre] at e0 e1 HS x1 x2
      simp only [hA] at s0
      clear hre hcell hrt hro hA
      go_wp2
      go_roundw
      case rel => exact ⟨k + 1, t + r.c, by omega, by go_num, rfl, by omega, ⟨q, rfl⟩, by have h1 := HR.out; rw [HS.out] at h1; exact h1⟩
      case measure => simp [intOf]; omega
    · have HE : Hid (t = inSum x.t) := by
        have h1 := HR.out; rw [List.drop_eq_nil_of_le (by omega)] at h1; exact h1
      clear hrt
      go_wp2
      go_loopw [5, 7] (fun s i wr => ∃ (k : Nat) (u : Int), k ≤ x.o.length ∧ i = .int .i64 k ∧ s = .int .i64 u ∧ (0 ≤ u ∧ u ≤ 9999 * (k : Int)) ∧ (∃ q : Since W.heap.size W, wr = q.val) ∧ Hid (outFrom every u (x.o.drop k) = outSum every x.o)) (fun _ i _ => x.o.length - (intOf i).toNat)
      case atStart => exact ⟨0, 0, Nat.zero_le _, rfl, rfl, by omega, ⟨q, rfl⟩, HG⟩
      case round =>
        obtain ⟨j, u, hj, rfl, rfl, ⟨u0, u1⟩, ⟨p, rfl⟩, HU⟩ := hrel
        by_cases hlj : j < x.o.length
        · obtain ⟨b, off, hA, hb, hcell⟩ := hro (by omega)
          obtain ⟨e0, e1, e2⟩ := hcell j hlj
          obtain ⟨_, _, x1, x2⟩ := Outing.bounds (HO.out j hlj)
          have HS : Hid (outFrom every u (x.o.drop j) = outFrom every (u + x.o[j].c) (x.o.drop (j + 1))) := out_step (f := every) hlj u
          obtain ⟨r, hre⟩ : ∃ r, r = x.o[j] := ⟨_, rfl⟩
          rw [← hre] at e0 e1 e2 HS x1 x2
          simp only [hA] at s1
          clear hre hcell hro hA
          go_wp2
          go_roundw
          case rel => exact ⟨j + 1, u + r.c, by omega, by go_num, rfl, by omega, ⟨p, rfl⟩, by have h1 := HU.out; rw [HS.out] at h1; exact h1⟩
          case measure => simp [intOf]; omega
        · have HE2 : Hid (u = outSum every x.o) := by
            have h1 := HU.out; rw [List.drop_eq_nil_of_le (by omega)] at h1; exact h1
          clear hro
          go_wp2
          go_ret2
          exact ⟨by rw [← HE.out, ← HE2.out]; rfl, hb0.trans (p.below.mono hb0.size)⟩

set_option maxHeartbeats 2000000 in
theorem l32Good_any (x : Off) (w : World) (h : OffR w w.heap.size x) :
    Calls Tryz.prog 23 #[x.val] w fun e w' => e = .returned (.bool (goodOff x)) ∧ Below w.heap.size w w' := by
  have hb0 := (Below.refl w.heap.size w).alloc (Nat.le_refl _) (.cells #[.slice x.TA x.t.length x.tc, .slice x.OA x.o.length x.oc, .int .i64 x.got, .int .i64 x.sold, .int .i64 x.missed] 36)
  have hS := OffS.of (x := x) (Lies.new w 36 #[.slice x.TA x.t.length x.tc, .slice x.OA x.o.length x.oc, .int .i64 x.got, .int .i64 x.sold, .int .i64 x.missed])
  have hR := h.up hb0 (Nat.le_refl _)
  have HG : Hid (goodOff x = ((traysOk x.t && decide (x.t.length ≤ 8)) && (outsOk x.t x.o && decide (x.o.length ≤ 8)) && inR x.got 0 99999 && inR x.sold 0 99999 && inR x.missed 0 99999 && sumOk x)) := by
    unfold Hid goodOff sizesOk numsOk
    generalize traysOk x.t = a1; generalize outsOk x.t x.o = a2; generalize decide (x.t.length ≤ 8) = a3; generalize decide (x.o.length ≤ 8) = a4; generalize inR x.got 0 99999 = a5; generalize inR x.sold 0 99999 = a6; generalize inR x.missed 0 99999 = a7; generalize sumOk x = a8
    cases a1 <;> cases a2 <;> cases a3 <;> cases a4 <;> cases a5 <;> cases a6 <;> cases a7 <;> rfl
  obtain ⟨v1, hv1⟩ : ∃ v, (traysOk x.t && decide (x.t.length ≤ 8)) = v := ⟨_, rfl⟩
  obtain ⟨v2, hv2⟩ : ∃ v, (outsOk x.t x.o && decide (x.o.length ≤ 8)) = v := ⟨_, rfl⟩
  obtain ⟨v3, hv3⟩ : ∃ v, inR x.got 0 99999 = v := ⟨_, rfl⟩
  obtain ⟨v4, hv4⟩ : ∃ v, inR x.sold 0 99999 = v := ⟨_, rfl⟩
  obtain ⟨v5, hv5⟩ : ∃ v, inR x.missed 0 99999 = v := ⟨_, rfl⟩
  rw [hv1, hv2, hv3, hv4, hv5] at HG
  have cT : ∀ W, OffR W W.heap.size x → Calls Tryz.prog 35 #[x.val] W fun e w' => e = .returned (.bool v1) ∧ Below W.heap.size W w' := fun W hW => by rw [← hv1]; exact l32Trays_any x W hW
  have c3 := fun W => l32All_any x.got W
  have c4 := fun W => l32All_any x.sold W
  have c5 := fun W => l32All_any x.missed W
  rw [hv3] at c3
  rw [hv4] at c4
  rw [hv5] at c5
  have HV1 := Lib.hid hv1; clear hv1
  have HV2 := Lib.hid hv2; clear hv2
  have HV3 := Lib.hid hv3; clear hv3
  have HV4 := Lib.hid hv4; clear hv4
  have HV5 := Lib.hid hv5; clear hv5
  cases v1
  · go_enter Tryz.func23, Tryz.ntmps23
    go_wp2_with fail
    generalize w.alloc (.cells #[.slice x.TA x.t.length x.tc, .slice x.OA x.o.length x.oc, .int .i64 x.got, .int .i64 x.sold, .int .i64 x.missed] 36) = W at hb0 hS hR ⊢
    refine (calls_since0 (cT W hR)).mono ?_
    rintro e w1 ⟨rfl, q1, rfl⟩
    go_wp2
    go_ret
    exact ⟨by rw [HG.out]; rfl, hb0.trans (q1.below.mono hb0.size)⟩
  · have h1 := HV1.out
    rw [Bool.and_eq_true] at h1
    have tl : x.t.length ≤ 8 := of_decide_eq_true h1.2
    have HALL := Lib.hid (traysFrom_all _ _ _ h1.1)
    have cO : ∀ W, OffR W W.heap.size x → Calls Tryz.prog 36 #[x.val] W fun e w' => e = .returned (.bool v2) ∧ Below W.heap.size W w' := fun W hW => by rw [← HV2.out]; exact l32Outs_any x W hW HALL.out
    clear h1
    cases v2
    · go_enter Tryz.func23, Tryz.ntmps23
      go_wp2_with fail
      generalize w.alloc (.cells #[.slice x.TA x.t.length x.tc, .slice x.OA x.o.length x.oc, .int .i64 x.got, .int .i64 x.sold, .int .i64 x.missed] 36) = W at hb0 hS hR ⊢
      obtain ⟨s0, s1, s2, s3, s4⟩ := hS
      refine (calls_since0 (cT W hR)).mono ?_
      rintro e w1 ⟨rfl, q1, rfl⟩
      go_wp2_with fail
      refine (calls_since (Nat.le_refl _) (cO _ (hR.at q1))).mono ?_
      rintro e w2 ⟨rfl, q2, rfl⟩
      go_wp2
      go_ret
      exact ⟨by rw [HG.out]; rfl, hb0.trans (q2.below.mono hb0.size)⟩
    · have h2 := HV2.out
      rw [Bool.and_eq_true] at h2
      have ol : x.o.length ≤ 8 := of_decide_eq_true h2.2
      have HOLL := Lib.hid (outsFrom_all _ _ _ h2.1)
      have cM := fun W hW => l32Sums_any x W hW tl ol HALL.out HOLL.out
      have hi := inFrom_bd x.t 0 HALL.out
      have hj := outFrom_bd every x.t x.o 0 HOLL.out
      have HSM : Hid (sumOk x = decide (x.got = inSum x.t + outSum every x.o + x.sold + x.missed)) := rfl
      change 0 ≤ inSum x.t ∧ inSum x.t ≤ _ at hi
      change 0 ≤ outSum every x.o ∧ outSum every x.o ≤ _ at hj
      generalize inSum x.t = I at cM hi HSM
      generalize outSum every x.o = J at cM hj HSM
      obtain ⟨i1, i2⟩ := hi
      obtain ⟨j1, j2⟩ := hj
      clear h2
      by_cases hall3 : (v3 && v4 && v5) = true
      · rw [Bool.and_eq_true, Bool.and_eq_true] at hall3
        obtain ⟨⟨rfl, rfl⟩, rfl⟩ := hall3
        obtain ⟨g1, g2⟩ := inR_iff.1 HV3.out
        obtain ⟨g3, g4⟩ := inR_iff.1 HV4.out
        obtain ⟨g5, g6⟩ := inR_iff.1 HV5.out
        obtain ⟨z, hz⟩ : ∃ z, decide (x.got = I + J + x.sold + x.missed) = z := ⟨_, rfl⟩
        have hzz : (x.got == I + J + x.sold + x.missed) = z := by rw [← hz, Bool.eq_iff_iff]; simp
        have HZ := Lib.hid hz; clear hz
        cases z
        all_goals
          go_enter Tryz.func23, Tryz.ntmps23
          go_wp2_with fail
          generalize w.alloc (.cells #[.slice x.TA x.t.length x.tc, .slice x.OA x.o.length x.oc, .int .i64 x.got, .int .i64 x.sold, .int .i64 x.missed] 36) = W at hb0 hS hR ⊢
          obtain ⟨s0, s1, s2, s3, s4⟩ := hS
          refine (calls_since0 (cT W hR)).mono ?_
          rintro e w1 ⟨rfl, q1, rfl⟩
          go_wp2_with fail
          refine (calls_since (Nat.le_refl _) (cO _ (hR.at q1))).mono ?_
          rintro e w2 ⟨rfl, q2, rfl⟩
          go_wp2_with fail
          refine (c3 _).mono ?_
          rintro e w3 ⟨rfl, rfl⟩
          go_wp2_with fail
          refine (c4 _).mono ?_
          rintro e w3 ⟨rfl, rfl⟩
          go_wp2_with fail
          refine (c5 _).mono ?_
          rintro e w3 ⟨rfl, rfl⟩
          go_wp2_with fail
          refine (calls_since (Nat.le_refl _) (cM _ (hR.at q2))).mono ?_
          rintro e w4 ⟨rfl, q4, rfl⟩
          go_wp2
          go_ret
          exact ⟨by rw [HG.out, HSM.out, HZ.out]; rfl, hb0.trans (q4.below.mono hb0.size)⟩
      · have HGF : Hid (goodOff x = false) := by
          unfold Hid; rw [HG.out]
          cases v3 <;> cases v4 <;> cases v5 <;> first | rfl | exact absurd rfl hall3
        cases v3
        all_goals (try cases v4)
        all_goals (try cases v5)
        all_goals first
          | exact absurd rfl hall3
          | skip
        all_goals
          clear hall3
          go_enter Tryz.func23, Tryz.ntmps23
          go_wp2_with fail
          generalize w.alloc (.cells #[.slice x.TA x.t.length x.tc, .slice x.OA x.o.length x.oc, .int .i64 x.got, .int .i64 x.sold, .int .i64 x.missed] 36) = W at hb0 hS hR ⊢
          obtain ⟨s0, s1, s2, s3, s4⟩ := hS
          refine (calls_since0 (cT W hR)).mono ?_
          rintro e w1 ⟨rfl, q1, rfl⟩
          go_wp2_with fail
          refine (calls_since (Nat.le_refl _) (cO _ (hR.at q1))).mono ?_
          rintro e w2 ⟨rfl, q2, rfl⟩
          go_wp2_with fail
          refine (c3 _).mono ?_
          rintro e w3 ⟨rfl, rfl⟩
          go_wp2_with (first | (go_at_call 37; with_reducible refine (c4 _).mono ?_; rintro e w4 ⟨rfl, rfl⟩) | (go_at_call 37; with_reducible refine (c5 _).mono ?_; rintro e w4 ⟨rfl, rfl⟩))
          go_ret
          exact ⟨by rw [HGF.out]; rfl, hb0.trans (q2.below.mono hb0.size)⟩
end Go.Proofs.YtojceibamgodbaaGreatDoor

/- Offices in the program: closures, the place of a tray, sums, the order of outings. -/
namespace Go.Proofs.YtojceibamgodbaaGreatDoor
open Go.RowKit

/-- An office lies at the head of block g, below B, its slices too. -/
structure OffAt (w : World) (B g : Nat) (x : Off) : Prop where
  s : OffS B w g x
  lt : g < B
  r : OffR w B x
theorem OffAt.of {w : World} {g : Nat} {t : TypeId} {x : Off} (h : Lies w g t x.enc) (hr : OffR w w.heap.size x) : OffAt w w.heap.size g x := ⟨OffS.of h, h.lt, hr⟩
theorem OffAt.then {w w' : World} {B g : Nat} {x : Off} (h : OffAt w B g x) (hb : Below B w w') {B' : Nat} (hB : B ≤ B') : OffAt w' B' g x :=
  ⟨⟨fun p => h.s.c0 ⟨p.val, hb.trans (p.below.mono hB)⟩, fun p => h.s.c1 ⟨p.val, hb.trans (p.below.mono hB)⟩, fun p => h.s.c2 ⟨p.val, hb.trans (p.below.mono hB)⟩, fun p => h.s.c3 ⟨p.val, hb.trans (p.below.mono hB)⟩, fun p => h.s.c4 ⟨p.val, hb.trans (p.below.mono hB)⟩⟩, Nat.lt_of_lt_of_le h.lt hB, (h.r.below hb).mono hB⟩
theorem OffAt.at {w : World} {g : Nat} {x : Off} (h : OffAt w w.heap.size g x) (q : Since w.heap.size w) : OffAt q.val q.val.heap.size g x := h.then q.below q.size

/-- slices.IndexFunc over trays, whatever the function value. -/
theorem idxTrays_any (f : Tray → Bool) (g : Nat) (lb : Array Value) (eg : ∀ args w, (callFunc g args).run Tryz.prog w = .ok (.enter g args) w) (A : Option Addr) (c : Nat) (l : List Tray) (w : World)
    (hf : ∀ (t : Tray) (p : Since w.heap.size w), Calls Tryz.prog g (#[t.val] ++ lb) p.val fun e w' => e = .returned (.bool (f t)) ∧ Below p.val.heap.size p.val w') (h : TraysR w w.heap.size A l) :
    Calls Tryz.prog 50 #[.slice A l.length c, .func (.func g) #[] lb] w fun e w' => e = .returned (.int .i64 (idxFrom f 0 l)) ∧ Below w.heap.size w w' := by
  have hl := h.big
  have hrd := h.el
  have HF : Hid (idxFrom f 0 (l.drop 0) = idxFrom f 0 l) := rfl
  have HC := Lib.hid hf; clear hf
  go_enter Tryz.func50, Tryz.ntmps50
  go_wp2
  go_loopw [8] (fun i wr => ∃ (k : Nat), k ≤ l.length ∧ i = .int .i64 k ∧ (∃ q : Since w.heap.size w, wr = q.val) ∧ Hid (idxFrom f k (l.drop k) = idxFrom f 0 l)) (fun i _ => l.length - (intOf i).toNat)
  case atStart => exact ⟨0, Nat.zero_le _, rfl, ⟨Since.start _ _, rfl⟩, HF⟩
  case round =>
    obtain ⟨k, hk, rfl, ⟨q, rfl⟩, HR⟩ := hrel
    by_cases hlt : k < l.length
    · obtain ⟨b, off, rfl, hb, hcell⟩ := hrd (by omega)
      obtain ⟨c0, c1⟩ := hcell k hlt
      have hy := fun hv => idx_yes (f := f) hlt hv
      have hn := fun hv => idx_no (f := f) hlt hv
      obtain ⟨x, hxe⟩ : ∃ x, x = l[k] := ⟨_, rfl⟩
      rw [← hxe] at c0 c1 hy hn
      clear hxe hcell hrd
      cases hv : f x
      · have HE : Hid (idxFrom f (k + 1) (l.drop (k + 1)) = idxFrom f 0 l) := by rw [← hn hv]; exact HR.out
        have hcx := fun p => HC.out x p
        rw [hv] at hcx
        clear hy hn hv
        go_wp2_with fail
        refine (calls_since (Nat.le_refl _) (hcx _)).mono ?_
        rintro e w1 ⟨rfl, q1, rfl⟩
        go_wp2
        go_roundw
        case rel => exact ⟨k + 1, by omega, by go_num, ⟨q1, rfl⟩, HE⟩
        case measure => simp [intOf]; omega
      · have HE : Hid ((k : Int) = idxFrom f 0 l) := by rw [← hy hv]; exact HR.out
        have hcx := fun p => HC.out x p
        rw [hv] at hcx
        clear hy hn hv
        go_wp2_with fail
        refine (calls_since (Nat.le_refl _) (hcx _)).mono ?_
        rintro e w1 ⟨rfl, q1, rfl⟩
        go_wp2
        go_ret
        exact ⟨by rw [← HE.out]; rfl, q1.below⟩
    · have HE : Hid (-1 = idxFrom f 0 l) := by
        have h1 := HR.out; rw [List.drop_eq_nil_of_le (by omega)] at h1; exact h1
      clear hrd
      go_wp2
      go_ret
      exact ⟨by rw [← HE.out]; rfl, q.below⟩

/-- The closure of trayAt. -/
theorem ofKind_any (t : Tray) (gk : Nat) (kd : Int) (w : World) (hk : gk < w.heap.size) (hc : w.cell? ⟨gk, 0, none⟩ = some (.int .i64 kd)) :
    Calls Tryz.prog 51 #[t.val, .pointer (some ⟨gk, 0, none⟩)] w fun e w' => e = .returned (.bool (decide (t.k = kd))) ∧ Below w.heap.size w w' := by
  have hc' : (w.alloc (.cells #[.int .i64 t.k, .int .i64 t.c] 48)).cell? ⟨gk, 0, none⟩ = some (.int .i64 kd) := ((Below.refl w.heap.size w).alloc (Nat.le_refl _) _).cell hk |>.trans hc
  by_cases hz : t.k = kd
  all_goals
    obtain ⟨v, hv⟩ : ∃ v, (t.k == kd) = v := ⟨_, rfl⟩
    have HV : Hid (decide (t.k = kd) = v) := by rw [← hv]; unfold Hid; rw [Bool.eq_iff_iff]; simp
    clear hz
    go_enter Tryz.func51, Tryz.ntmps51
    go_wp2
    go_ret
    exact ⟨by rw [HV.out]; rfl, (Below.refl _ _).alloc (Nat.le_refl _) _⟩

theorem trayAt_any (x : Off) (g : Nat) (kd : Int) (w : World) (h : OffAt w w.heap.size g x) :
    Calls Tryz.prog 32 #[.pointer (some ⟨g, 0, none⟩), .int .i64 kd] w fun e w' => e = .returned (.int .i64 (trayIx x.t kd)) ∧ Below w.heap.size w w' := by
  have hmf : ∀ (fn : Fn) (first cap : Array Value) (w : World), (Instr.makeFunc fn first cap).run Tryz.prog w = .ok (.func fn first cap) w := fun _ _ _ _ => rfl
  have b1 := (Below.refl w.heap.size w).alloc (Nat.le_refl _) (.cells #[.int .i64 kd] 3)
  have hL := Lies.new w 3 #[.int .i64 kd]
  have hA := h.then (B' := (w.alloc (.cells #[.int .i64 kd] 3)).heap.size) b1 b1.size
  have c0 : (w.alloc (.cells #[.int .i64 kd] 3)).cell? ⟨g, 0, none⟩ = some (.slice x.TA x.t.length x.tc) := hA.s.c0 (Since.start _ _)
  have HI : Hid (idxFrom (fun t : Tray => decide (t.k = kd)) 0 x.t = trayIx x.t kd) := rfl
  go_enter Tryz.func32, Tryz.ntmps32
  go_wp2_with fail
  clear c0
  generalize w.alloc (.cells #[.int .i64 kd] 3) = W at b1 hL hA ⊢
  refine (idxTrays_any (fun t : Tray => decide (t.k = kd)) 51 #[.pointer (some ⟨w.heap.size, 0, none⟩)] Tryz.call51 _ _ _ _ (fun t p => ofKind_any t w.heap.size kd _ (Nat.lt_of_lt_of_le hL.lt p.size) ((p.cell hL.lt).trans (hL.cell 0))) hA.r.ts).mono ?_
  rintro e w1 ⟨rfl, hb1⟩
  rw [HI.out]
  go_wp2
  go_ret
  exact ⟨rfl, bthen b1 hb1⟩

theorem isPerson_any (n : Int) (w : World) : Calls Tryz.prog 43 #[.int .i64 n] w fun e w' => e = .returned (.bool (inR n 1 999)) ∧ w = w' := by
  go_enter Tryz.func43, Tryz.ntmps43
  go_wp2_with fail
  refine (inRange_any n 1 999 _).mono ?_
  rintro e w' ⟨rfl, rfl⟩
  go_wp2
  go_ret
  exact ⟨rfl, rfl⟩

set_option maxHeartbeats 1000000 in
theorem stampsIn_any (x : Off) (g : Nat) (w : World) (h : OffAt w w.heap.size g x) (tl : x.t.length ≤ 8) (ht : ∀ i (hi : i < x.t.length), x.t[i].ok = true) :
    Calls Tryz.prog 45 #[.pointer (some ⟨g, 0, none⟩)] w fun e w' => e = .returned (.int .i64 (inSum x.t)) ∧ Below w.heap.size w w' := by
  have HT := Lib.hid ht; clear ht
  have HF : Hid (inFrom 0 (x.t.drop 0) = inSum x.t) := rfl
  have s0 : w.cell? ⟨g, 0, none⟩ = some (.slice x.TA x.t.length x.tc) := h.s.c0 (Since.start _ _)
  have hrt := h.r.ts.el
  go_enter Tryz.func45, Tryz.ntmps45
  go_wp2
  clear s0
  go_loopw [3, 11] (fun s i wr => ∃ (k : Nat) (t : Int), k ≤ x.t.length ∧ i = .int .i64 k ∧ s = .int .i64 t ∧ (0 ≤ t ∧ t ≤ 9999 * (k : Int)) ∧ (∃ q : Since w.heap.size w, wr = q.val) ∧ Hid (inFrom t (x.t.drop k) = inSum x.t)) (fun _ i _ => x.t.length - (intOf i).toNat)
  case atStart => exact ⟨0, 0, Nat.zero_le _, rfl, rfl, by omega, ⟨Since.start _ _, rfl⟩, HF⟩
  case round =>
    obtain ⟨k, t, hk, rfl, rfl, ⟨t0, t1⟩, ⟨q, rfl⟩, HR⟩ := hrel
    by_cases hlt : k < x.t.length
    · obtain ⟨b, off, hA, hb, hcell⟩ := hrt (by omega)
      obtain ⟨e0, e1⟩ := hcell k hlt
      obtain ⟨_, x1, x2⟩ := Tray.bounds (HT.out k hlt)
      have HS := Lib.hid (in_step hlt t)
      obtain ⟨r, hre⟩ : ∃ r, r = x.t[k] := ⟨_, rfl⟩
      rw [← hre] at e0 e1 HS x1 x2
      clear hre hcell hrt
      go_wp2
      go_roundw
      case rel => exact ⟨k + 1, t + r.c, by omega, by go_num, rfl, by omega, ⟨⟨_, q.below.alloc q.size _⟩, rfl⟩, by have h1 := HR.out; rw [HS.out] at h1; exact h1⟩
      case measure => simp [intOf]; omega
    · have HE : Hid (t = inSum x.t) := by
        have h1 := HR.out; rw [List.drop_eq_nil_of_le (by omega)] at h1; exact h1
      clear hrt
      go_wp2
      go_ret
      exact ⟨by rw [← HE.out]; rfl, q.below⟩

set_option maxHeartbeats 1000000 in
theorem stampsOut_any (f : Outing → Bool) (kf : Nat) (lb : Array Value) (eg : ∀ args w, (callFunc kf args).run Tryz.prog w = .ok (.enter kf args) w) (x : Off) (g : Nat) (w : World)
    (hf : ∀ (o : Outing) (p : Since w.heap.size w), Calls Tryz.prog kf (#[o.val] ++ lb) p.val fun e w' => e = .returned (.bool (f o)) ∧ Below p.val.heap.size p.val w')
    (h : OffAt w w.heap.size g x) (ol : x.o.length ≤ 8) (ho : ∀ i (hi : i < x.o.length), x.o[i].ok x.t = true) :
    Calls Tryz.prog 30 #[.pointer (some ⟨g, 0, none⟩), .func (.func kf) #[] lb] w fun e w' => e = .returned (.int .i64 (outSum f x.o)) ∧ Below w.heap.size w w' := by
  have HO := Lib.hid ho; clear ho
  have HC := Lib.hid hf; clear hf
  have HF : Hid (outFrom f 0 (x.o.drop 0) = outSum f x.o) := rfl
  have s1 : w.cell? ⟨g, 1, none⟩ = some (.slice x.OA x.o.length x.oc) := h.s.c1 (Since.start _ _)
  have hro := h.r.os.el
  generalize x.OA = OA at s1 hro
  go_enter Tryz.func30, Tryz.ntmps30
  go_wp2
  clear s1
  go_loopw [5, 13] (fun s i wr => ∃ (k : Nat) (t : Int), k ≤ x.o.length ∧ i = .int .i64 k ∧ s = .int .i64 t ∧ (0 ≤ t ∧ t ≤ 9999 * (k : Int)) ∧ (∃ q : Since w.heap.size w, wr = q.val) ∧ Hid (outFrom f t (x.o.drop k) = outSum f x.o)) (fun _ i _ => x.o.length - (intOf i).toNat)
  case atStart => exact ⟨0, 0, Nat.zero_le _, rfl, rfl, by omega, ⟨Since.start _ _, rfl⟩, HF⟩
  case round =>
    obtain ⟨k, t, hk, rfl, rfl, ⟨t0, t1⟩, ⟨q, rfl⟩, HR⟩ := hrel
    by_cases hlt : k < x.o.length
    · obtain ⟨b, off, rfl, hb, hcell⟩ := hro (by omega)
      obtain ⟨e0, e1, e2⟩ := hcell k hlt
      obtain ⟨_, _, x1, x2⟩ := Outing.bounds (HO.out k hlt)
      have HS := Lib.hid (out_step (f := f) hlt t)
      obtain ⟨r, hre⟩ : ∃ r, r = x.o[k] := ⟨_, rfl⟩
      rw [← hre] at e0 e1 e2 HS x1 x2
      clear hre hcell hro
      have hbV := q.below.alloc q.size (.cells #[.int .i64 r.k, .int .i64 r.p, .int .i64 r.c] 60)
      have hlV := Lies.new q.val 60 #[.int .i64 r.k, .int .i64 r.p, .int .i64 r.c]
      have hcx := fun p => HC.out r p
      cases hv : f r
      all_goals
        rw [hv] at hcx HS
        clear hv
        go_wp2_with fail
        generalize q.val.alloc (.cells #[.int .i64 r.k, .int .i64 r.p, .int .i64 r.c] 60) = V at hbV hlV ⊢
        refine (hcx ⟨V, hbV⟩).mono ?_
        rintro e w1 ⟨rfl, hb1⟩
        have d2 := (hlV.below hb1 hlV.lt).cell 2
        simp only [List.getElem?_cons_zero, List.getElem?_cons_succ] at d2
        go_wp2
      · go_roundw
        case rel => exact ⟨k + 1, t, by omega, by go_num, rfl, by omega, ⟨⟨w1, hbV.trans (hb1.mono hbV.size)⟩, rfl⟩, by have h1 := HR.out; rw [HS.out] at h1; exact h1⟩
        case measure => simp [intOf]; omega
      · go_roundw
        case rel => exact ⟨k + 1, t + r.c, by omega, by go_num, rfl, by omega, ⟨⟨w1, hbV.trans (hb1.mono hbV.size)⟩, rfl⟩, by have h1 := HR.out; rw [HS.out] at h1; exact h1⟩
        case measure => simp [intOf]; omega
    · have HE : Hid (t = outSum f x.o) := by
        have h1 := HR.out; rw [List.drop_eq_nil_of_le (by omega)] at h1; exact h1
      clear hro
      go_wp2
      go_ret
      exact ⟨by rw [← HE.out]; rfl, q.below⟩

theorem every1_any (o : Outing) (w : World) : Calls Tryz.prog 46 #[o.val] w fun e w' => e = .returned (.bool true) ∧ Below w.heap.size w w' := by
  go_enter Tryz.func46, Tryz.ntmps46
  go_wp2
  go_ret
  exact ⟨rfl, (Below.refl _ _).alloc (Nat.le_refl _) _⟩

/-- What the order says of two numbers. -/
def cmpI (a b : Int) : Int := if a < b then -1 else if b < a then 1 else 0
theorem isNaN_any (a : Int) (w : World) : Calls Tryz.prog 70 #[.int .i64 a] w fun e w' => e = .returned (.bool false) ∧ w = w' := by
  have hv : (a != a) = false := by simp
  go_enter Tryz.func70, Tryz.ntmps70
  go_wp2
  go_ret
  exact ⟨rfl, rfl⟩
theorem compare_any (a b : Int) (w : World) : Calls Tryz.prog 60 #[.int .i64 a, .int .i64 b] w fun e w' => e = .returned (.int .i64 (cmpI a b)) ∧ w = w' := by
  have ha := fun W => isNaN_any a W
  have hb := fun W => isNaN_any b W
  by_cases h1 : a < b
  · have HE : Hid (cmpI a b = -1) := by unfold Hid cmpI; rw [if_pos h1]
    go_enter Tryz.func60, Tryz.ntmps60
    go_wp2_with fail
    refine (ha _).mono ?_
    rintro e w' ⟨rfl, rfl⟩
    go_wp2_with fail
    refine (hb _).mono ?_
    rintro e w' ⟨rfl, rfl⟩
    go_wp2
    go_ret
    exact ⟨by rw [HE.out]; rfl, rfl⟩
  · by_cases h2 : b < a
    · have HE : Hid (cmpI a b = 1) := by unfold Hid cmpI; rw [if_neg h1, if_pos h2]
      go_enter Tryz.func60, Tryz.ntmps60
      go_wp2_with fail
      refine (ha _).mono ?_
      rintro e w' ⟨rfl, rfl⟩
      go_wp2_with fail
      refine (hb _).mono ?_
      rintro e w' ⟨rfl, rfl⟩
      go_wp2
      go_ret
      exact ⟨by rw [HE.out]; rfl, rfl⟩
    · have HE : Hid (cmpI a b = 0) := by unfold Hid cmpI; rw [if_neg h1, if_neg h2]
      go_enter Tryz.func60, Tryz.ntmps60
      go_wp2_with fail
      refine (ha _).mono ?_
      rintro e w' ⟨rfl, rfl⟩
      go_wp2_with fail
      refine (hb _).mono ?_
      rintro e w' ⟨rfl, rfl⟩
      go_wp2
      go_ret
      exact ⟨by rw [HE.out]; rfl, rfl⟩
end Go.Proofs.YtojceibamgodbaaGreatDoor

/- Offices in the program: the order of outings. -/
namespace Go.Proofs.YtojceibamgodbaaGreatDoor
open Go.RowKit

def orI (a b : Int) : Int := if a = 0 then b else a
theorem or2_any (a b : Int) (g c : Nat) (w : World) (h0 : w.cell? ⟨g, 0, none⟩ = some (.int .i64 a)) (h1 : w.cell? ⟨g, 1, none⟩ = some (.int .i64 b)) :
    Calls Tryz.prog 59 #[.slice (some ⟨g, 0, none⟩) 2 c] w fun e w' => e = .returned (.int .i64 (orI a b)) ∧ w = w' := by
  by_cases ha : a = 0
  · have va : (a != 0) = false := by simp [ha]
    have HE : Hid (orI a b = b) := by unfold Hid orI; rw [if_pos ha]
    clear ha
    by_cases hb : b = 0
    · have vb : (b != 0) = false := by simp [hb]
      have HB := Lib.hid hb; clear hb
      go_enter Tryz.func59, Tryz.ntmps59
      go_wp2
      refine wp_loop_rounds 3 ?_
      rw [rounds_succ]
      go_wp2
      rw [rounds_succ]
      go_wp2
      rw [rounds_succ]
      go_wp2
      go_ret
      exact ⟨by rw [HE.out, HB.out]; rfl, rfl⟩
    · have vb : (b != 0) = true := by simp [hb]
      clear hb
      go_enter Tryz.func59, Tryz.ntmps59
      go_wp2
      refine wp_loop_rounds 2 ?_
      rw [rounds_succ]
      go_wp2
      rw [rounds_succ]
      go_wp2
      go_ret
      exact ⟨by rw [HE.out]; rfl, rfl⟩
  · have va : (a != 0) = true := by simp [ha]
    have HE : Hid (orI a b = a) := by unfold Hid orI; rw [if_neg ha]
    clear ha
    go_enter Tryz.func59, Tryz.ntmps59
    go_wp2
    refine wp_loop_rounds 1 ?_
    rw [rounds_succ]
    go_wp2
    go_ret
    exact ⟨by rw [HE.out]; rfl, rfl⟩

def cmpO (a b : Outing) : Int := orI (cmpI a.k b.k) (cmpI a.p b.p)
theorem cmpO_before (a b : Outing) : decide (0 ≤ cmpO a b) = !(before a b) := by
  unfold cmpO orI cmpI before
  by_cases h1 : a.k < b.k
  · simp [h1]
  · by_cases h2 : b.k < a.k
    · have h3 : a.k ≠ b.k := by omega
      simp [h1, h2, h3]
    · have h3 : a.k = b.k := by omega
      by_cases h4 : a.p < b.p
      · simp [h3, h4]
      · by_cases h5 : b.p < a.p
        · simp [h3, h4, h5]
        · simp [h3, h4, h5]

set_option maxHeartbeats 1000000 in
theorem compareOutings_any (a b : Outing) (w : World) : Calls Tryz.prog 44 #[a.val, b.val] w fun e w' => e = .returned (.int .i64 (cmpO a b)) ∧ Below w.heap.size w w' := by
  have b1 := (Below.refl w.heap.size w).alloc (Nat.le_refl _) (.cells #[.int .i64 a.k, .int .i64 a.p, .int .i64 a.c] 60)
  have b2 := b1.alloc b1.size (.cells #[.int .i64 b.k, .int .i64 b.p, .int .i64 b.c] 60)
  have L1 := (Lies.new w 60 #[.int .i64 a.k, .int .i64 a.p, .int .i64 a.c]).alloc (.cells #[.int .i64 b.k, .int .i64 b.p, .int .i64 b.c] 60)
  have L2 := Lies.new1 w (.cells #[.int .i64 a.k, .int .i64 a.p, .int .i64 a.c] 60) 60 #[.int .i64 b.k, .int .i64 b.p, .int .i64 b.c]
  clear b1
  obtain ⟨X, hX⟩ : ∃ X, cmpI a.k b.k = X := ⟨_, rfl⟩
  obtain ⟨Y, hY⟩ : ∃ Y, cmpI a.p b.p = Y := ⟨_, rfl⟩
  have HO : Hid (cmpO a b = orI X Y) := by rw [← hX, ← hY]; rfl
  have cX := fun W => compare_any a.k b.k W
  have cY := fun W => compare_any a.p b.p W
  rw [hX] at cX
  rw [hY] at cY
  clear hX hY
  go_enter Tryz.func44, Tryz.ntmps44
  go_wp2
  generalize ((w.alloc (.cells #[.int .i64 a.k, .int .i64 a.p, .int .i64 a.c] 60)).alloc (.cells #[.int .i64 b.k, .int .i64 b.p, .int .i64 b.c] 60)) = W at b2 L1 L2 ⊢
  have c0 := L1.cell 0
  have c1 := L1.cell 1
  have d0 := L2.cell 0
  have d1 := L2.cell 1
  simp only [List.getElem?_cons_zero, List.getElem?_cons_succ] at c0 c1 d0 d1
  have HK : ∀ W', Below W.heap.size W W' → (Below W.heap.size W W' ∧ W'.cell? ⟨w.heap.size, 0, none⟩ = some (.int .i64 a.k) ∧ W'.cell? ⟨w.heap.size, 1, none⟩ = some (.int .i64 a.p) ∧ W'.cell? ⟨w.heap.size + 1, 0, none⟩ = some (.int .i64 b.k) ∧ W'.cell? ⟨w.heap.size + 1, 1, none⟩ = some (.int .i64 b.p)) := fun W' hb =>
    ⟨hb, (hb.cell L1.lt).trans c0, (hb.cell L1.lt).trans c1, (hb.cell L2.lt).trans d0, (hb.cell L2.lt).trans d1⟩
  have HL0 : (W.alloc (.cells #[.int .i64 X, .int .i64 Y] 3)).drew.cell? ⟨W.heap.size, 0, none⟩ = some (.int .i64 X) := (Lies.new W 3 #[.int .i64 X, .int .i64 Y]).cell 0
  have HL1 : (W.alloc (.cells #[.int .i64 X, .int .i64 Y] 3)).drew.cell? ⟨W.heap.size, 1, none⟩ = some (.int .i64 Y) := (Lies.new W 3 #[.int .i64 X, .int .i64 Y]).cell 1
  go_region_held3 (fun W' => Below W.heap.size W W' ∧ W'.cell? ⟨w.heap.size, 0, none⟩ = some (.int .i64 a.k) ∧ W'.cell? ⟨w.heap.size, 1, none⟩ = some (.int .i64 a.p) ∧ W'.cell? ⟨w.heap.size + 1, 0, none⟩ = some (.int .i64 b.k) ∧ W'.cell? ⟨w.heap.size + 1, 1, none⟩ = some (.int .i64 b.p)) (first | exact HK _ (Below.refl _ _).drew | exact HK _ (((Below.refl _ _).drew).alloc (by first | exact Nat.le_refl _ | simp) _) | (exact HK _ (by assumption))) (first | (go_at_call 60; with_reducible refine (cX _).mono ?_; rintro e w8 ⟨rfl, rfl⟩) | (go_at_call 60; with_reducible refine (cY _).mono ?_; rintro e w8 ⟨rfl, rfl⟩) | (go_at_call 59; refine (or2_any X Y W.heap.size 2 (W.alloc (.cells #[.int .i64 X, .int .i64 Y] 3)).drew HL0 HL1).mono ?_; rintro e w9 ⟨rfl, rfl⟩))
  all_goals
    go_wp2
    go_ret
    exact ⟨by rw [HO.out]; rfl, bthen b2 ((Below.refl W.heap.size W).alloc (Nat.le_refl _) _).drew⟩
end Go.Proofs.YtojceibamgodbaaGreatDoor

/- Validity of an office, in the program. -/
namespace Go.Proofs.YtojceibamgodbaaGreatDoor
open Go.RowKit

set_option maxRecDepth 100000 in
set_option maxHeartbeats 2000000 in
theorem isOfficeValid_no (x : Off) (g : Nat) (w : World) (h : OffAt w w.heap.size g x) (hno : (sizesOk x && numsOk x) = false) :
    Calls Tryz.prog 27 #[.pointer (some ⟨g, 0, none⟩)] w fun e w' => e = .returned (.bool (goodOff x)) ∧ Below w.heap.size w w' := by
  have s0 : w.cell? ⟨g, 0, none⟩ = some (.slice x.TA x.t.length x.tc) := h.s.c0 (Since.start _ _)
  have s1 : w.cell? ⟨g, 1, none⟩ = some (.slice x.OA x.o.length x.oc) := h.s.c1 (Since.start _ _)
  have s2 : w.cell? ⟨g, 2, none⟩ = some (.int .i64 x.got) := h.s.c2 (Since.start _ _)
  have s3 : w.cell? ⟨g, 3, none⟩ = some (.int .i64 x.sold) := h.s.c3 (Since.start _ _)
  have s4 : w.cell? ⟨g, 4, none⟩ = some (.int .i64 x.missed) := h.s.c4 (Since.start _ _)
  have hl := h.r.ts.big
  have hm := h.r.os.big
  have c3 := fun W => inRange_any x.got 0 99999 W
  have c4 := fun W => inRange_any x.sold 0 99999 W
  have c5 := fun W => inRange_any x.missed 0 99999 W
  have HNO := Lib.hid hno; clear hno
  have HG : Hid (goodOff x = (sizesOk x && (inR x.got 0 99999 && inR x.sold 0 99999 && inR x.missed 0 99999) && traysOk x.t && outsOk x.t x.o && sumOk x)) := rfl
  by_cases hz : x.t.length ≤ 8 ∧ x.o.length ≤ 8
  · obtain ⟨tl, ol⟩ := hz
    have HZ : Hid (sizesOk x = true) := by unfold Hid sizesOk; rw [decide_eq_true tl, decide_eq_true ol]; rfl
    obtain ⟨v3, hv3⟩ : ∃ v, inR x.got 0 99999 = v := ⟨_, rfl⟩
    obtain ⟨v4, hv4⟩ : ∃ v, inR x.sold 0 99999 = v := ⟨_, rfl⟩
    obtain ⟨v5, hv5⟩ : ∃ v, inR x.missed 0 99999 = v := ⟨_, rfl⟩
    rw [hv3] at c3
    rw [hv4] at c4
    rw [hv5] at c5
    rw [hv3, hv4, hv5] at HG
    have HV3 := Lib.hid hv3; clear hv3
    have HV4 := Lib.hid hv4; clear hv4
    have HV5 := Lib.hid hv5; clear hv5
    by_cases hall3 : (v3 && v4 && v5) = true
    · exfalso
      have hn : numsOk x = true := by unfold numsOk; rw [HV3.out, HV4.out, HV5.out]; exact hall3
      have hno := HNO.out
      rw [HZ.out, hn] at hno; cases hno
    · have HGF : Hid (goodOff x = false) := by
        unfold Hid; rw [HG.out, HZ.out]
        cases v3 <;> cases v4 <;> cases v5 <;> first | rfl | exact absurd rfl hall3
      cases v3
      all_goals (try cases v4)
      all_goals (try cases v5)
      all_goals first
        | exact absurd rfl hall3
        | skip
      all_goals
        clear hall3
        go_enter Tryz.func27, Tryz.ntmps27
        go_wp2_with fail
        refine (c3 _).mono ?_
        rintro e w3 ⟨rfl, rfl⟩
        go_wp2_with (first | (go_at_call 42; with_reducible refine (c4 _).mono ?_; rintro e w4 ⟨rfl, rfl⟩) | (go_at_call 42; with_reducible refine (c5 _).mono ?_; rintro e w4 ⟨rfl, rfl⟩))
        go_ret
        exact ⟨by rw [HGF.out]; rfl, Below.refl _ _⟩
  · have HGF : Hid (goodOff x = false) := by
      unfold Hid; rw [HG.out]
      have : sizesOk x = false := by
        unfold sizesOk
        by_cases h1 : x.t.length ≤ 8
        · rw [decide_eq_false (show ¬ x.o.length ≤ 8 from fun h2 => hz ⟨h1, h2⟩), Bool.and_false]
        · rw [decide_eq_false h1, Bool.false_and]
      rw [this]; rfl
    by_cases h1 : x.t.length ≤ 8
    · have h2 : ¬ x.o.length ≤ 8 := fun h2 => hz ⟨h1, h2⟩
      clear hz
      go_enter Tryz.func27, Tryz.ntmps27
      go_wp2
      go_ret
      exact ⟨by rw [HGF.out]; rfl, Below.refl _ _⟩
    · clear hz
      go_enter Tryz.func27, Tryz.ntmps27
      go_wp2
      go_ret
      exact ⟨by rw [HGF.out]; rfl, Below.refl _ _⟩
end Go.Proofs.YtojceibamgodbaaGreatDoor

/- Validity of an office, in the program: the loops. -/
namespace Go.Proofs.YtojceibamgodbaaGreatDoor
open Go.RowKit

theorem every1_all (o : Outing) (w : World) : Calls Tryz.prog 46 (#[o.val] ++ #[]) w fun e w' => e = .returned (.bool (every o)) ∧ Below w.heap.size w w' := every1_any o w

set_option maxRecDepth 100000 in
set_option maxHeartbeats 4000000 in
theorem isOfficeValid_yes (x : Off) (g : Nat) (w : World) (h : OffAt w w.heap.size g x) (hyes : (sizesOk x && numsOk x) = true) :
    Calls Tryz.prog 27 #[.pointer (some ⟨g, 0, none⟩)] w fun e w' => e = .returned (.bool (goodOff x)) ∧ Below w.heap.size w w' := by
  have s0 : w.cell? ⟨g, 0, none⟩ = some (.slice x.TA x.t.length x.tc) := h.s.c0 (Since.start _ _)
  have s1 : w.cell? ⟨g, 1, none⟩ = some (.slice x.OA x.o.length x.oc) := h.s.c1 (Since.start _ _)
  have s2 : w.cell? ⟨g, 2, none⟩ = some (.int .i64 x.got) := h.s.c2 (Since.start _ _)
  have s3 : w.cell? ⟨g, 3, none⟩ = some (.int .i64 x.sold) := h.s.c3 (Since.start _ _)
  have s4 : w.cell? ⟨g, 4, none⟩ = some (.int .i64 x.missed) := h.s.c4 (Since.start _ _)
  have c3 := fun W => inRange_any x.got 0 99999 W
  have c4 := fun W => inRange_any x.sold 0 99999 W
  have c5 := fun W => inRange_any x.missed 0 99999 W
  have HG : Hid (goodOff x = (traysOk x.t && outsOk x.t x.o && sumOk x)) := by
    unfold Hid goodOff; rw [hyes, Bool.true_and]
  rw [Bool.and_eq_true] at hyes
  have hz := hyes.1
  have hn := hyes.2
  unfold sizesOk at hz
  unfold numsOk at hn
  rw [Bool.and_eq_true] at hz hn
  rw [Bool.and_eq_true] at hn
  obtain ⟨⟨hv3, hv4⟩, hv5⟩ := hn
  have tl : x.t.length ≤ 8 := of_decide_eq_true hz.1
  have ol : x.o.length ≤ 8 := of_decide_eq_true hz.2
  clear hz hyes
  rw [hv3] at c3
  rw [hv4] at c4
  rw [hv5] at c5
  obtain ⟨g1, g2⟩ := inR_iff.1 hv3
  obtain ⟨g3, g4⟩ := inR_iff.1 hv4
  obtain ⟨g5, g6⟩ := inR_iff.1 hv5
  clear hv3 hv4 hv5
  have hrt := h.r.ts.el
  have hro := h.r.os.el
  obtain ⟨p0, p1, p2, p3, p4⟩ := h.s
  obtain ⟨TA, hTA⟩ : ∃ A, x.TA = A := ⟨_, rfl⟩
  obtain ⟨OA, hOA⟩ : ∃ A, x.OA = A := ⟨_, rfl⟩
  rw [hTA] at s0 hrt
  rw [hOA] at s1 hro
  simp only [hTA] at p0
  simp only [hOA] at p1
  clear hTA hOA
  go_enter Tryz.func27, Tryz.ntmps27
  go_wp2_with fail
  refine (c3 _).mono ?_
  rintro e w3 ⟨rfl, rfl⟩
  go_wp2_with fail
  refine (c4 _).mono ?_
  rintro e w3 ⟨rfl, rfl⟩
  go_wp2_with fail
  refine (c5 _).mono ?_
  rintro e w3 ⟨rfl, rfl⟩
  go_wp2
  clear s0 s1 s2 s3 s4 c3 c4 c5
  go_loopw [50] (fun i wr => ∃ (k : Nat) (prev : Int), k ≤ x.t.length ∧ i = .int .i64 k ∧ (∃ q : Since w.heap.size w, wr = q.val) ∧ Hid (traysFrom k prev (x.t.drop k) = traysOk x.t) ∧ Hid (∀ (_hk : 0 < k) (h' : k - 1 < x.t.length), prev = x.t[k - 1].k)) (fun i _ => x.t.length - (intOf i).toNat)
  case atStart => exact ⟨0, 0, Nat.zero_le _, rfl, ⟨Since.start _ _, rfl⟩, rfl, fun h => absurd h (by omega)⟩
  case round =>
    obtain ⟨k, prev, hk, rfl, ⟨q, rfl⟩, HR, HP⟩ := hrel
    by_cases hlt : k < x.t.length
    · obtain ⟨b, off, rfl, hb, hcell⟩ := hrt (by omega)
      obtain ⟨e0, e1⟩ := hcell k hlt
      have HC : Hid (0 < k → ∀ p : Since w.heap.size w, p.val.cell? ⟨b, off + (k - 1) * 2, none⟩ = some (.int .i64 prev)) := fun h p => by
        rw [HP.out h (by omega)]; exact (hcell (k - 1) (by omega)).c0 p
      have HS := Lib.hid (trays_step (n := k) (p := prev) hlt)
      obtain ⟨r, hre⟩ : ∃ r, r = x.t[k] := ⟨_, rfl⟩
      have HN : Hid (∀ (_hk : 0 < k + 1) (h' : k + 1 - 1 < x.t.length), r.k = x.t[k + 1 - 1].k) := fun _ h' => by rw [hre]; rfl
      rw [← hre] at e0 e1 HS
      clear hre hcell hrt hro
      go_wp2
      have hbV := q.below.alloc q.size (.cells #[.int .i64 r.k, .int .i64 r.c] 48)
      have hlV := Lies.new q.val 48 #[.int .i64 r.k, .int .i64 r.c]
      generalize q.val.alloc (.cells #[.int .i64 r.k, .int .i64 r.c] 48) = V at hbV hlV ⊢
      generalize q.val.heap.size = gv at hlV ⊢
      obtain ⟨d0, d1⟩ := TrayS.of (r := r) hlV
      have p0' : ∀ p : Since V.heap.size V, p.val.cell? ⟨g, 0, none⟩ = some (.slice (some ⟨b, off, none⟩) x.t.length x.tc) := fun p => p0 ⟨p.val, hbV.trans (p.below.mono hbV.size)⟩
      have HOK : Hid (r.ok = (inR r.k 1 99 && inR r.c 0 9999)) := rfl
      clear e0 e1
      obtain ⟨v1, hv1⟩ : ∃ v, inR r.k 1 99 = v := ⟨_, rfl⟩
      obtain ⟨v2, hv2⟩ : ∃ v, inR r.c 0 9999 = v := ⟨_, rfl⟩
      rw [hv1, hv2] at HOK
      have HV1 := Lib.hid hv1; clear hv1
      have HV2 := Lib.hid hv2; clear hv2
      rcases Nat.eq_zero_or_pos k with h0 | h0
      · have hd : decide (0 < k) = false := decide_eq_false (by omega)
        have H0 := Lib.hid h0; clear h0
        cases v1
        · refine wp_region_since0 (by kernel_rfl) (by kernel_rfl) ?_
          repeat (any_goals (first | go_big_quiet_step ((go_at_call 42; with_reducible refine calls_sameB HV1 (inRange_any r.k 1 99 _))) | (refine wpQuiet_step (fun K hK => ?_); go_simp; split <;> (refine hK _ ?_; clear hK K))))
          all_goals (refine wpQuiet_nil ?_; rintro _ ⟨q1, rfl⟩)
          all_goals have hb1 := hbV.trans (q1.below.mono hbV.size)
          all_goals go_wp2
          go_ret
          refine ⟨?_, hb1⟩
          rw [HG.out, ← HR.out, HS.out, HOK.out]; rfl
        · cases v2
          all_goals
            refine wp_region_since0 (by kernel_rfl) (by kernel_rfl) ?_
            repeat (any_goals (first | go_big_quiet_step ((first | (go_at_call 42; with_reducible refine calls_sameB HV1 (inRange_any r.k 1 99 _)) | (go_at_call 42; with_reducible refine calls_sameB HV2 (inRange_any r.c 0 9999 _)))) | (refine wpQuiet_step (fun K hK => ?_); go_simp; split <;> (refine hK _ ?_; clear hK K))))
            all_goals (refine wpQuiet_nil ?_; rintro _ ⟨q1, rfl⟩)
            all_goals have hb1 := hbV.trans (q1.below.mono hbV.size)
            all_goals go_wp2
          · go_ret
            refine ⟨?_, hb1⟩
            rw [HG.out, ← HR.out, HS.out, HOK.out]; rfl
          · go_roundw
            case rel => exact ⟨k + 1, r.k, by omega, by go_num, ⟨⟨_, hbV.trans (q1.below.mono hbV.size)⟩, rfl⟩, by have h1 := HR.out; rw [HS.out, HOK.out, decide_eq_true H0.out] at h1; exact h1, HN⟩
            case measure => simp [intOf]; omega
      · have c5 : ∀ p : Since V.heap.size V, p.val.cell? ⟨b, off + (k - 1) * 2, none⟩ = some (.int .i64 prev) := fun p => HC.out h0 ⟨p.val, hbV.trans (p.below.mono hbV.size)⟩
        have h0' : (0 : Int) < (k : Int) := by omega
        cases v1
        · refine wp_region_since0 (by kernel_rfl) (by kernel_rfl) ?_
          repeat (any_goals (first | go_big_quiet_step ((go_at_call 42; with_reducible refine calls_sameB HV1 (inRange_any r.k 1 99 _))) | (refine wpQuiet_step (fun K hK => ?_); go_simp; split <;> (refine hK _ ?_; clear hK K))))
          all_goals (refine wpQuiet_nil ?_; rintro _ ⟨q1, rfl⟩)
          all_goals have hb1 := hbV.trans (q1.below.mono hbV.size)
          all_goals go_wp2
          go_ret
          refine ⟨?_, hb1⟩
          rw [HG.out, ← HR.out, HS.out, HOK.out]; rfl
        · cases v2
          all_goals
            refine wp_region_since0 (by kernel_rfl) (by kernel_rfl) ?_
            repeat (any_goals (first | go_big_quiet_step ((first | (go_at_call 42; with_reducible refine calls_sameB HV1 (inRange_any r.k 1 99 _)) | (go_at_call 42; with_reducible refine calls_sameB HV2 (inRange_any r.c 0 9999 _)))) | (refine wpQuiet_step (fun K hK => ?_); go_simp; split <;> (refine hK _ ?_; clear hK K))))
            all_goals (refine wpQuiet_nil ?_; rintro _ ⟨q1, rfl⟩)
            all_goals have hb1 := hbV.trans (q1.below.mono hbV.size)
            all_goals go_wp2
          · go_ret
            refine ⟨?_, hb1⟩
            rw [HG.out, ← HR.out, HS.out, HOK.out]; rfl
          · go_ret
            refine ⟨?_, hb1⟩
            have hm : r.k ≤ prev := by assumption
            rw [HG.out, ← HR.out, HS.out, HOK.out, decide_eq_false (by omega : ¬ k = 0), decide_eq_false (by omega : ¬ prev < r.k)]; rfl
          · have hm : prev < r.k := by assumption
            go_roundw
            case rel => exact ⟨k + 1, r.k, by omega, by go_num, ⟨⟨_, hbV.trans (q1.below.mono hbV.size)⟩, rfl⟩, by have h1 := HR.out; rw [HS.out, HOK.out, decide_eq_true hm, Bool.or_true] at h1; exact h1, HN⟩
            case measure => simp [intOf]; omega
    · have hK : traysOk x.t = true := by
        have h1 := HR.out
        rw [List.drop_eq_nil_of_le (by omega)] at h1; exact h1.symm
      have HALL := Lib.hid (traysFrom_all _ _ _ hK)
      have HK := Lib.hid hK; clear hK
      have hq1 := p1 q
      clear hrt
      go_wp2
      go_loopw [89] (fun i wr => ∃ (k : Nat) (prev : Option Outing), k ≤ x.o.length ∧ i = .int .i64 k ∧ (∃ q : Since w.heap.size w, wr = q.val) ∧ Hid (outsFrom x.t prev (x.o.drop k) = outsOk x.t x.o) ∧ Hid ((k = 0 → prev = none) ∧ ∀ (_hk : 0 < k) (h' : k - 1 < x.o.length), prev = some x.o[k - 1] ∧ x.o[k - 1].ok x.t = true)) (fun i _ => x.o.length - (intOf i).toNat)
      case atStart => exact ⟨0, none, Nat.zero_le _, rfl, ⟨q, rfl⟩, rfl, fun _ => rfl, fun h => absurd h (by omega)⟩
      case round =>
        clear hlt HR HP hq1
        obtain ⟨k, prev, hk, rfl, ⟨q, rfl⟩, HR, HP⟩ := hrel
        by_cases hlt : k < x.o.length
        · obtain ⟨b, off, rfl, hb, hcell⟩ := hro (by omega)
          obtain ⟨e0, e1, e2⟩ := hcell k hlt
          have HS := Lib.hid (outs_step (ts := x.t) (p := prev) hlt)
          obtain ⟨r, hre⟩ : ∃ r, r = x.o[k] := ⟨_, rfl⟩
          have HN : Hid (r.ok x.t = true → (k + 1 = 0 → some r = none) ∧ ∀ (_hk : 0 < k + 1) (h' : k + 1 - 1 < x.o.length), some r = some x.o[k + 1 - 1] ∧ x.o[k + 1 - 1].ok x.t = true) := fun ho => ⟨fun h => by omega, fun _ h' => ⟨by rw [hre]; rfl, by rw [hre] at ho; exact ho⟩⟩
          have HC : Hid (∀ _ : 0 < k, ∃ u : Outing, prev = some u ∧ u.ok x.t = true ∧ OutingS w.heap.size w b (off + (k - 1) * 3) u) := fun h => ⟨x.o[k - 1], (HP.out.2 h (by omega)).1, (HP.out.2 h (by omega)).2, hcell (k - 1) (by omega)⟩
          rw [← hre] at e0 e1 e2 HS
          clear hre hcell hro
          go_wp2
          have hbV := q.below.alloc q.size (.cells #[.int .i64 r.k, .int .i64 r.p, .int .i64 r.c] 60)
          have hlV := Lies.new q.val 60 #[.int .i64 r.k, .int .i64 r.p, .int .i64 r.c]
          generalize q.val.alloc (.cells #[.int .i64 r.k, .int .i64 r.p, .int .i64 r.c] 60) = V at hbV hlV ⊢
          generalize q.val.heap.size = gv at hlV ⊢
          obtain ⟨d0, d1, d2⟩ := OutingS.of (r := r) hlV
          have up : ∀ {a : Addr} {u : Value}, (∀ p : Since w.heap.size w, p.val.cell? a = some u) → ∀ p : Since V.heap.size V, p.val.cell? a = some u := fun h p => h ⟨p.val, hbV.trans (p.below.mono hbV.size)⟩
          have z1 := up p1
          have hAV : ∀ p : Since V.heap.size V, OffAt p.val p.val.heap.size g x := fun p => h.at ⟨p.val, hbV.trans (p.below.mono hbV.size)⟩
          have HOK : Hid (r.ok x.t = (hasTray x.t r.k && inR r.p 1 999 && inR r.c 1 9999)) := rfl
          clear e0 e1 e2
          obtain ⟨X, hX⟩ : ∃ X, trayIx x.t r.k = X := ⟨_, rfl⟩
          have HX : Hid (Value.int .i64 (trayIx x.t r.k) = .int .i64 X) := by rw [hX]; rfl
          have HH : Hid (hasTray x.t r.k = decide (0 ≤ X)) := by rw [← hX]; exact (trayIx_has _ _).symm
          obtain ⟨v2, hv2⟩ : ∃ v, inR r.p 1 999 = v := ⟨_, rfl⟩
          obtain ⟨v3, hv3⟩ : ∃ v, inR r.c 1 9999 = v := ⟨_, rfl⟩
          rw [hv2, hv3] at HOK
          have HV2 := Lib.hid hv2; clear hv2
          have HV3 := Lib.hid hv3; clear hv3
          clear hX
          by_cases hX0 : 0 ≤ X
          · have hd0 : decide (X < 0) = false := decide_eq_false (by omega)
            have HXT : Hid (decide (0 ≤ X) = true) := decide_eq_true hX0
            cases v2
            · rcases Nat.eq_zero_or_pos k with h0 | h0
              · have hd : decide (0 < k) = false := decide_eq_false (by omega)
                clear h0
                refine wp_region_since0 (by kernel_rfl) (by kernel_rfl) ?_
                repeat (any_goals (first | go_big_quiet_step ((first | (go_at_call 32; with_reducible refine calls_sinceE HX (Nat.le_refl _) (trayAt_any x g r.k _ (hAV _))) | (go_at_call 43; with_reducible refine calls_sameB HV2 (isPerson_any r.p _)))) | (refine wpQuiet_step (fun K hK => ?_); go_simp; split <;> (refine hK _ ?_; clear hK K))))
                all_goals (refine wpQuiet_nil ?_; rintro _ ⟨q1, rfl⟩)
                all_goals have hb1 := hbV.trans (q1.below.mono hbV.size)
                all_goals go_wp2
                go_ret
                refine ⟨?_, hb1⟩
                rw [HG.out, HK.out, ← HR.out, HS.out, HOK.out, Bool.and_false]; rfl
              · have h0' : (0 : Int) < (k : Int) := by omega
                refine wp_region_since0 (by kernel_rfl) (by kernel_rfl) ?_
                repeat (any_goals (first | go_big_quiet_step ((first | (go_at_call 32; with_reducible refine calls_sinceE HX (Nat.le_refl _) (trayAt_any x g r.k _ (hAV _))) | (go_at_call 43; with_reducible refine calls_sameB HV2 (isPerson_any r.p _)))) | (refine wpQuiet_step (fun K hK => ?_); go_simp; split <;> (refine hK _ ?_; clear hK K))))
                all_goals (refine wpQuiet_nil ?_; rintro _ ⟨q1, rfl⟩)
                all_goals have hb1 := hbV.trans (q1.below.mono hbV.size)
                all_goals go_wp2
                go_ret
                refine ⟨?_, hb1⟩
                rw [HG.out, HK.out, ← HR.out, HS.out, HOK.out, Bool.and_false]; rfl
            · cases v3
              · rcases Nat.eq_zero_or_pos k with h0 | h0
                · have hd : decide (0 < k) = false := decide_eq_false (by omega)
                  clear h0
                  refine wp_region_since0 (by kernel_rfl) (by kernel_rfl) ?_
                  repeat (any_goals (first | go_big_quiet_step ((first | (go_at_call 32; with_reducible refine calls_sinceE HX (Nat.le_refl _) (trayAt_any x g r.k _ (hAV _))) | (go_at_call 43; with_reducible refine calls_sameB HV2 (isPerson_any r.p _)) | (go_at_call 42; with_reducible refine calls_sameB HV3 (inRange_any r.c 1 9999 _)))) | (refine wpQuiet_step (fun K hK => ?_); go_simp; split <;> (refine hK _ ?_; clear hK K))))
                  all_goals (refine wpQuiet_nil ?_; rintro _ ⟨q1, rfl⟩)
                  all_goals have hb1 := hbV.trans (q1.below.mono hbV.size)
                  all_goals go_wp2
                  go_ret
                  refine ⟨?_, hb1⟩
                  rw [HG.out, HK.out, ← HR.out, HS.out, HOK.out, Bool.and_false]; rfl
                · have h0' : (0 : Int) < (k : Int) := by omega
                  refine wp_region_since0 (by kernel_rfl) (by kernel_rfl) ?_
                  repeat (any_goals (first | go_big_quiet_step ((first | (go_at_call 32; with_reducible refine calls_sinceE HX (Nat.le_refl _) (trayAt_any x g r.k _ (hAV _))) | (go_at_call 43; with_reducible refine calls_sameB HV2 (isPerson_any r.p _)) | (go_at_call 42; with_reducible refine calls_sameB HV3 (inRange_any r.c 1 9999 _)))) | (refine wpQuiet_step (fun K hK => ?_); go_simp; split <;> (refine hK _ ?_; clear hK K))))
                  all_goals (refine wpQuiet_nil ?_; rintro _ ⟨q1, rfl⟩)
                  all_goals have hb1 := hbV.trans (q1.below.mono hbV.size)
                  all_goals go_wp2
                  go_ret
                  refine ⟨?_, hb1⟩
                  rw [HG.out, HK.out, ← HR.out, HS.out, HOK.out, Bool.and_false]; rfl
              · have HRO : Hid (r.ok x.t = true) := by unfold Hid; rw [HOK.out, HH.out, HXT.out]; rfl
                rcases Nat.eq_zero_or_pos k with h0 | h0
                · have hd : decide (0 < k) = false := decide_eq_false (by omega)
                  have HP0 : Hid (prev = none) := HP.out.1 h0
                  clear h0
                  refine wp_region_since0 (by kernel_rfl) (by kernel_rfl) ?_
                  repeat (any_goals (first | go_big_quiet_step ((first | (go_at_call 32; with_reducible refine calls_sinceE HX (Nat.le_refl _) (trayAt_any x g r.k _ (hAV _))) | (go_at_call 43; with_reducible refine calls_sameB HV2 (isPerson_any r.p _)) | (go_at_call 42; with_reducible refine calls_sameB HV3 (inRange_any r.c 1 9999 _)))) | (refine wpQuiet_step (fun K hK => ?_); go_simp; split <;> (refine hK _ ?_; clear hK K))))
                  all_goals (refine wpQuiet_nil ?_; rintro _ ⟨q1, rfl⟩)
                  all_goals have hb1 := hbV.trans (q1.below.mono hbV.size)
                  all_goals go_wp2
                  go_roundw
                  case rel => exact ⟨k + 1, some r, by omega, by go_num, ⟨⟨_, hb1⟩, rfl⟩, by have h1 := HR.out; rw [HS.out, HRO.out, HP0.out] at h1; exact h1, HN.out HRO.out⟩
                  case measure => simp [intOf]; omega
                · have h0' : (0 : Int) < (k : Int) := by omega
                  obtain ⟨u, hpu, huo, ⟨t0, t1, t2⟩⟩ := HC.out h0
                  have t0 := up t0
                  have t1 := up t1
                  have t2 := up t2
                  subst hpu
                  have HS2 : Hid (outsFrom x.t (some u) (x.o.drop k) = (r.ok x.t && before u r && outsFrom x.t (some r) (x.o.drop (k + 1)))) := HS.out
                  obtain ⟨C, hC⟩ : ∃ C, cmpO u r = C := ⟨_, rfl⟩
                  have HCM : Hid (Value.int .i64 (cmpO u r) = .int .i64 C) := by rw [hC]; rfl
                  have HB : Hid (decide (0 ≤ C) = !(before u r)) := by rw [← hC]; exact cmpO_before u r
                  clear hC huo up
                  refine wp_region_since0 (by kernel_rfl) (by kernel_rfl) ?_
                  repeat (any_goals (first | go_big_quiet_step ((first | (go_at_call 32; with_reducible refine calls_sinceE HX (Nat.le_refl _) (trayAt_any x g r.k _ (hAV _))) | (go_at_call 43; with_reducible refine calls_sameB HV2 (isPerson_any r.p _)) | (go_at_call 42; with_reducible refine calls_sameB HV3 (inRange_any r.c 1 9999 _)) | (go_at_call 44; with_reducible refine calls_sinceE HCM (Nat.le_refl _) (compareOutings_any u r _)))) | (refine wpQuiet_step (fun K hK => ?_); go_simp; split <;> (refine hK _ ?_; clear hK K))))
                  all_goals (refine wpQuiet_nil ?_; rintro _ ⟨q1, rfl⟩)
                  all_goals have hb1 := hbV.trans (q1.below.mono hbV.size)
                  all_goals go_wp2
                  · go_ret
                    refine ⟨?_, hb1⟩
                    have hm : 0 ≤ C := by assumption
                    have hb0 := HB.out
                    rw [decide_eq_true hm] at hb0
                    have hbf : before u r = false := by
                      cases hbb : before u r with
                      | false => rfl
                      | true => rw [hbb] at hb0; cases hb0
                    rw [HG.out, HK.out, ← HR.out, HS2.out, HRO.out, hbf]; rfl
                  · have hm : C < 0 := by assumption
                    have hb0 := HB.out
                    rw [decide_eq_false (by omega)] at hb0
                    have hbt : before u r = true := by
                      cases hbb : before u r with
                      | true => rfl
                      | false => rw [hbb] at hb0; cases hb0
                    have hbf := Lib.hid hbt
                    clear hbt
                    clear hb0
                    go_roundw
                    case rel => exact ⟨k + 1, some r, by omega, by go_num, ⟨⟨_, hb1⟩, rfl⟩, by have h1 := HR.out; rw [HS2.out, HRO.out, hbf.out] at h1; exact h1, HN.out HRO.out⟩
                    case measure => simp [intOf]; omega
          · have hd0 : decide (X < 0) = true := decide_eq_true (by omega)
            have HXT : Hid (decide (0 ≤ X) = false) := decide_eq_false hX0
            rcases Nat.eq_zero_or_pos k with h0 | h0
            · have hd : decide (0 < k) = false := decide_eq_false (by omega)
              clear h0
              refine wp_region_since0 (by kernel_rfl) (by kernel_rfl) ?_
              repeat (any_goals (first | go_big_quiet_step ((go_at_call 32; with_reducible refine calls_sinceE HX (Nat.le_refl _) (trayAt_any x g r.k _ (hAV _)))) | (refine wpQuiet_step (fun K hK => ?_); go_simp; split <;> (refine hK _ ?_; clear hK K))))
              all_goals (refine wpQuiet_nil ?_; rintro _ ⟨q1, rfl⟩)
              all_goals have hb1 := hbV.trans (q1.below.mono hbV.size)
              all_goals go_wp2
              go_ret
              refine ⟨?_, hb1⟩
              rw [HG.out, HK.out, ← HR.out, HS.out, HOK.out, HH.out, HXT.out]; rfl
            · have h0' : (0 : Int) < (k : Int) := by omega
              refine wp_region_since0 (by kernel_rfl) (by kernel_rfl) ?_
              repeat (any_goals (first | go_big_quiet_step ((go_at_call 32; with_reducible refine calls_sinceE HX (Nat.le_refl _) (trayAt_any x g r.k _ (hAV _)))) | (refine wpQuiet_step (fun K hK => ?_); go_simp; split <;> (refine hK _ ?_; clear hK K))))
              all_goals (refine wpQuiet_nil ?_; rintro _ ⟨q1, rfl⟩)
              all_goals have hb1 := hbV.trans (q1.below.mono hbV.size)
              all_goals go_wp2
              go_ret
              refine ⟨?_, hb1⟩
              rw [HG.out, HK.out, ← HR.out, HS.out, HOK.out, HH.out, HXT.out]; rfl
        · have hKO : outsOk x.t x.o = true := by
            have h1 := HR.out
            rw [List.drop_eq_nil_of_le (by omega)] at h1; exact h1.symm
          have HOLL := Lib.hid (outsFrom_all _ _ _ hKO)
          have HKO := Lib.hid hKO; clear hKO
          have hi := inFrom_bd x.t 0 HALL.out
          have hj := outFrom_bd every x.t x.o 0 HOLL.out
          have HSM : Hid (sumOk x = decide (x.got = inSum x.t + outSum every x.o + x.sold + x.missed)) := rfl
          change 0 ≤ inSum x.t ∧ inSum x.t ≤ _ at hi
          change 0 ≤ outSum every x.o ∧ outSum every x.o ≤ _ at hj
          obtain ⟨I, hI⟩ : ∃ I, inSum x.t = I := ⟨_, rfl⟩
          obtain ⟨J, hJ⟩ : ∃ J, outSum every x.o = J := ⟨_, rfl⟩
          rw [hI] at hi HSM
          rw [hJ] at hj HSM
          have HI : Hid (Value.int .i64 (inSum x.t) = .int .i64 I) := by rw [hI]; rfl
          have HJ : Hid (Value.int .i64 (outSum every x.o) = .int .i64 J) := by rw [hJ]; rfl
          clear hI hJ
          obtain ⟨i1, i2⟩ := hi
          obtain ⟨j1, j2⟩ := hj
          have w1 : IntKind.i64.wrap (I + J) = I + J := IntWalk.i64_in _ (by omega)
          have w2 : IntKind.i64.wrap (I + J + x.sold) = I + J + x.sold := IntWalk.i64_in _ (by omega)
          have w3 : IntKind.i64.wrap (I + J + x.sold + x.missed) = I + J + x.sold + x.missed := IntWalk.i64_in _ (by omega)
          obtain ⟨z, hz⟩ : ∃ z, decide (x.got = I + J + x.sold + x.missed) = z := ⟨_, rfl⟩
          have hzz : (x.got == I + J + x.sold + x.missed) = z := by rw [← hz, Bool.eq_iff_iff]; simp
          have HZ := Lib.hid hz; clear hz
          have hAQ : ∀ p : Since w.heap.size w, OffAt p.val p.val.heap.size g x := fun p => h.at p
          clear hro HR HP
          go_wp2
          refine wp_region_since _ (by kernel_rfl) (by kernel_rfl) ?_
          repeat (any_goals (first | go_big_quiet_step ((first | (go_at_call 45; with_reducible refine calls_sinceE HI (Nat.le_refl _) (stampsIn_any x g _ (hAQ _) tl HALL.out)) | (go_at_call 30; with_reducible refine calls_sinceE HJ (Nat.le_refl _) (stampsOut_any every 46 #[] Tryz.call46 x g _ (fun o p => every1_all o p.val) (hAQ _) ol HOLL.out)))) | (refine wpQuiet_step (fun K hK => ?_); go_simp; split <;> (refine hK _ ?_; clear hK K))))
          all_goals (refine wpQuiet_nil ?_; rintro _ ⟨q1, rfl⟩)
          go_wp2
          go_ret
          refine ⟨?_, q1.below⟩
          rw [HG.out, HK.out, HKO.out, HSM.out, HZ.out]; rfl
end Go.Proofs.YtojceibamgodbaaGreatDoor

/- IsOffice, StampsIn, StampsOut, in the reference and in the program. -/
namespace Go.Proofs.YtojceibamgodbaaGreatDoor
open Go.RowKit

theorem isOfficeValid_any (x : Off) (g : Nat) (w : World) (h : OffAt w w.heap.size g x) :
    Calls Tryz.prog 27 #[.pointer (some ⟨g, 0, none⟩)] w fun e w' => e = .returned (.bool (goodOff x)) ∧ Below w.heap.size w w' := by
  cases hv : (sizesOk x && numsOk x)
  · exact isOfficeValid_no x g w h hv
  · exact isOfficeValid_yes x g w h hv
/-- The box of an office that was handed over by value. -/
theorem box_at {x : Off} {w : World} (h : OffR w w.heap.size x) (t : TypeId) : OffAt (w.alloc (.cells #[.slice x.TA x.t.length x.tc, .slice x.OA x.o.length x.oc, .int .i64 x.got, .int .i64 x.sold, .int .i64 x.missed] t)) (w.alloc (.cells #[.slice x.TA x.t.length x.tc, .slice x.OA x.o.length x.oc, .int .i64 x.got, .int .i64 x.sold, .int .i64 x.missed] t)).heap.size w.heap.size x :=
  OffAt.of (x := x) (Lies.new w t #[.slice x.TA x.t.length x.tc, .slice x.OA x.o.length x.oc, .int .i64 x.got, .int .i64 x.sold, .int .i64 x.missed]) (h.up ((Below.refl w.heap.size w).alloc (Nat.le_refl _) _) (Nat.le_refl _))

def okOf (g : Bool) (v : Int) : Int := if g then v else 0
end Go.Proofs.YtojceibamgodbaaGreatDoor

/- The text of a number, in the reference (l1Num). -/
namespace Go.Proofs.YtojceibamgodbaaGreatDoor
open Go.RowKit

theorem dec_small {n : Nat} (h : n < 10) : Lib.decDigits n = [UInt8.ofNat (48 + n)] := by rw [Lib.decDigits, dif_pos h]
theorem dec_big {n : Nat} (h : ¬ n < 10) : Lib.decDigits n = Lib.decDigits (n / 10) ++ [UInt8.ofNat (48 + n % 10)] := by rw [Lib.decDigits, dif_neg h]

theorem digit_at : ∀ {n : Nat}, n < 10 → (⟨#[48, 49, 50, 51, 52, 53, 54, 55, 56, 57]⟩ : ByteArray).extract n (n + 1) = ⟨[UInt8.ofNat (48 + n)].toArray⟩
  | 0, _ => by decide | 1, _ => by decide | 2, _ => by decide | 3, _ => by decide | 4, _ => by decide
  | 5, _ => by decide | 6, _ => by decide | 7, _ => by decide | 8, _ => by decide | 9, _ => by decide

theorem dec_len {n : Nat} (h : n ≤ 1000000000) : (⟨(Lib.decDigits n).toArray⟩ : ByteArray).size ≤ 100 := by
  show (Lib.decDigits n).toArray.size ≤ 100
  rw [List.size_toArray, Lib.decDigits_length]
  have := Lib.nDigits_le20 n (by omega)
  omega

set_option maxHeartbeats 1000000 in
theorem l1Num_nat (k : Nat) : ∀ (n : Nat) (w : World), n < 10 ^ k → n ≤ 1000000000 →
    Calls Tryz.prog 12 #[.int .i64 (n : Int)] w fun e w' => e = .returned (.string ⟨(Lib.decDigits n).toArray⟩) ∧ Below w.heap.size w w' := by
  induction k with
  | zero =>
    intro n w hn _
    have h0 : n = 0 := by simpa using hn
    subst h0
    have HD := Lib.hid (dec_small (n := 0) (by omega))
    have HE := Lib.hid (digit_at (n := 0) (by omega))
    go_enter Tryz.func12, Tryz.ntmps12
    go_wp2
    go_ret
    exact ⟨by rw [HD.out, ← HE.out]; rfl, Below.refl _ _⟩
  | succ k ih =>
    intro n w hn hb
    by_cases h10 : n < 10
    · have HD := Lib.hid (dec_small h10)
      have HE := Lib.hid (digit_at h10)
      go_enter Tryz.func12, Tryz.ntmps12
      go_wp2
      go_ret
      exact ⟨by rw [HD.out, ← HE.out]; rfl, Below.refl _ _⟩
    · have HD := Lib.hid (dec_big h10)
      have hr : n % 10 < 10 := Nat.mod_lt _ (by omega)
      have HE := Lib.hid (digit_at hr)
      have hk : n / 10 < 10 ^ k := Nat.div_lt_of_lt_mul (by rw [Nat.mul_comm, ← Nat.pow_succ]; exact hn)
      obtain ⟨sv, hsv⟩ : ∃ s : ByteArray, s = ⟨(Lib.decDigits (n / 10)).toArray⟩ := ⟨_, rfl⟩
      obtain ⟨dv, hdv⟩ : ∃ s : ByteArray, s = (⟨#[48, 49, 50, 51, 52, 53, 54, 55, 56, 57]⟩ : ByteArray).extract (n % 10) (n % 10 + 1) := ⟨_, rfl⟩
      have hss : sv.size ≤ 100 := by rw [hsv]; exact dec_len (by omega)
      have hds : dv.size ≤ 10 := by rw [hdv, HE.out]; exact (by decide : (1 : Nat) ≤ 10)
      have ih' : ∀ W : World, Calls Tryz.prog 12 #[.int .i64 ((n : Int) / 10)] W fun e w' => e = .returned (.string sv) ∧ Below W.heap.size W w' := fun W => by
        have := ih (n / 10) W hk (by omega)
        rw [Int.natCast_ediv] at this; rw [hsv]; exact this
      have IH := Lib.hid ih'; clear ih' ih
      have hex := hdv.symm
      have HSV := Lib.hid hsv; clear hsv
      have HDV := Lib.hid hdv; clear hdv
      have e1 : (n : Int).tdiv 10 = (n : Int) / 10 := Int.tdiv_eq_ediv_of_nonneg (by omega)
      have e2 : (n : Int).tmod 10 = (n : Int) % 10 := Int.tmod_eq_emod_of_nonneg (by omega)
      go_enter Tryz.func12, Tryz.ntmps12
      go_wp2_with fail
      refine wp_region_since0 (by kernel_rfl) (by kernel_rfl) ?_
      repeat (any_goals (first | go_big_quiet_step ((go_at_call 12; refine calls_since (Nat.le_refl _) (IH.out _))) | (refine wpQuiet_step (fun K hK => ?_); go_simp; split <;> (refine hK _ ?_; clear hK K))))
      all_goals (refine wpQuiet_nil ?_; rintro _ ⟨q1, rfl⟩)
      go_wp2
      go_ret
      exact ⟨by rw [HD.out, HSV.out, HDV.out, HE.out, ByteArray.mk_append_mk]; rfl, q1.below⟩
/-- Every number up to a thousand millions. -/
theorem l1Num_any (n : Int) (w : World) (h0 : 0 ≤ n) (h1 : n ≤ 1000000000) :
    Calls Tryz.prog 12 #[.int .i64 n] w fun e w' => e = .returned (.string ⟨(Lib.itoa n).toArray⟩) ∧ Below w.heap.size w w' := by
  obtain ⟨m, rfl⟩ := Int.eq_ofNat_of_zero_le h0
  have e : Lib.itoa (m : Int) = Lib.decDigits m := by unfold Lib.itoa; rw [if_neg (by omega), Int.toNat_natCast]
  have e' : Lib.itoa (Int.ofNat m) = Lib.decDigits m := e
  first | rw [e] | rw [e']
  exact l1Num_nat 10 m w (by omega) (by omega)
theorem itoa_len {n : Int} (h0 : 0 ≤ n) (h1 : n ≤ 1000000000) : (⟨(Lib.itoa n).toArray⟩ : ByteArray).size ≤ 100 := by
  unfold Lib.itoa
  rw [if_neg (by omega)]
  exact dec_len (by omega)
end Go.Proofs.YtojceibamgodbaaGreatDoor

/- Contracts of the library at this dump, as the kit's own tool lays them (plain), the few that are wanted here. -/
namespace Go.Proofs
open Go.Shelf
def Tryz.lays137_ren : Go.Shelf.Ren := ⟨fun | 137 => 61 | 217 => 71 | 266 => 84 | n => n, fun | 9 => 9 | 5 => 5 | 3 => 3 | n => n, fun | n => n⟩
theorem Tryz.lays137 : Go.Proofs.Lays.n137 Tryz.prog Tryz.lays137_ren := {
  mixed := by kernel_rfl
  f137 := Tryz.func61.trans (congrArg some (by kernel_rfl))
  f217 := Tryz.func71.trans (congrArg some (by kernel_rfl))
  f266 := Tryz.func84.trans (congrArg some (by kernel_rfl))
  t3 := Tryz.underlying3
  a3 := Tryz.isAgg3
  z3 := Tryz.sizeOf3
  v3 := Tryz.zeroValue3
  t5 := Tryz.underlying5
  a5 := Tryz.isAgg5
  z5 := Tryz.sizeOf5
  v5 := Tryz.zeroValue5
  t9 := Tryz.underlying9
  a9 := Tryz.isAgg9
  z9 := Tryz.sizeOf9
  v9 := Tryz.zeroValue9 }
open Go.RowKit in
theorem Tryz.strings_IndexByte (s : ByteArray) (c : Int) (w : World) :
    Calls Tryz.prog 61 #[.string s, .int .u8 c] w fun e w' => e = .returned (.int .i64 (Lib.indexByte s.data.toList c.toNat.toUInt8)) ∧ w' = w := Any.strings_IndexByte Tryz.lays137 s c w
def Tryz.lays103_ren : Go.Shelf.Ren := ⟨fun | 103 => 73 | 210 => 87 | 206 => 97 | n => n, fun | 9 => 9 | 4 => 4 | 24 => 31 | 3 => 3 | n => n, fun | n => n⟩
theorem Tryz.lays103 : Go.Proofs.Lays.n103 Tryz.prog Tryz.lays103_ren := {
  mixed := by kernel_rfl
  f103 := Tryz.func73.trans (congrArg some (by kernel_rfl))
  f206 := Tryz.func97.trans (congrArg some (by kernel_rfl))
  f210 := Tryz.func87.trans (congrArg some (by kernel_rfl))
  t3 := Tryz.underlying3
  a3 := Tryz.isAgg3
  z3 := Tryz.sizeOf3
  v3 := Tryz.zeroValue3
  t4 := Tryz.underlying4
  a4 := Tryz.isAgg4
  z4 := Tryz.sizeOf4
  v4 := Tryz.zeroValue4
  t9 := Tryz.underlying9
  a9 := Tryz.isAgg9
  z9 := Tryz.sizeOf9
  v9 := Tryz.zeroValue9
  t24 := Tryz.underlying31
  a24 := Tryz.isAgg31
  z24 := Tryz.sizeOf31
  v24 := Tryz.zeroValue31 }
open Go.RowKit in
theorem Tryz.strings_CutPrefix (s p : ByteArray) (w : World) :
    Calls Tryz.prog 73 #[.string s, .string p] w fun e w' => e = .returned (.tuple #[.string ⟨(Lib.trimPrefix s.data.toList p.data.toList).toArray⟩, .bool (Lib.hasPrefix s.data.toList p.data.toList)]) ∧ w' = w := Any.strings_CutPrefix Tryz.lays103 s p w
def Tryz.laysM171_ren : Go.Shelf.Ren := ⟨fun | 171 => 17 | 243 => 29 | 246 => 49 | 283 => 64 | 284 => 65 | 285 => 66 | 286 => 67 | 129 => 77 | 317 => 76 | 318 => 78 | 319 => 79 | 320 => 80 | 337 => 91 | 338 => 92 | n => n, fun | 3 => 3 | 9 => 9 | 2 => 2 | 4 => 4 | 171 => 104 | 0 => 0 | 53 => 105 | 37 => 108 | 5 => 5 | 173 => 109 | 212 => 118 | 51 => 119 | 20 => 20 | 213 => 120 | 46 => 121 | 232 => 133 | 233 => 134 | n => n, fun | 17 => 0 | 18 => 2 | 19 => 3 | n => n⟩
theorem Tryz.laysM171 : Go.Proofs.LaysM.n171 Tryz.prog Tryz.laysM171_ren := {
  mixed := by kernel_rfl
  f129 := Tryz.func77.trans (congrArg some (by kernel_rfl))
  f171 := Tryz.func17.trans (congrArg some (by kernel_rfl))
  f243 := Tryz.func29.trans (congrArg some (by kernel_rfl))
  f246 := Tryz.func49.trans (congrArg some (by kernel_rfl))
  f283 := Tryz.func64.trans (congrArg some (by kernel_rfl))
  f284 := Tryz.func65.trans (congrArg some (by kernel_rfl))
  f285 := Tryz.func66.trans (congrArg some (by kernel_rfl))
  f286 := Tryz.func67.trans (congrArg some (by kernel_rfl))
  f317 := Tryz.func76.trans (congrArg some (by kernel_rfl))
  f318 := Tryz.func78.trans (congrArg some (by kernel_rfl))
  f319 := Tryz.func79.trans (congrArg some (by kernel_rfl))
  f320 := Tryz.func80.trans (congrArg some (by kernel_rfl))
  f337 := Tryz.func91.trans (congrArg some (by kernel_rfl))
  f338 := Tryz.func92.trans (congrArg some (by kernel_rfl))
  t0 := Tryz.underlying0
  a0 := Tryz.isAgg0
  z0 := Tryz.sizeOf0
  v0 := Tryz.zeroValue0
  t2 := Tryz.underlying2
  a2 := Tryz.isAgg2
  z2 := Tryz.sizeOf2
  v2 := Tryz.zeroValue2
  t3 := Tryz.underlying3
  a3 := Tryz.isAgg3
  z3 := Tryz.sizeOf3
  v3 := Tryz.zeroValue3
  t4 := Tryz.underlying4
  a4 := Tryz.isAgg4
  z4 := Tryz.sizeOf4
  v4 := Tryz.zeroValue4
  t5 := Tryz.underlying5
  a5 := Tryz.isAgg5
  z5 := Tryz.sizeOf5
  v5 := Tryz.zeroValue5
  t9 := Tryz.underlying9
  a9 := Tryz.isAgg9
  z9 := Tryz.sizeOf9
  v9 := Tryz.zeroValue9
  t20 := Tryz.underlying20
  a20 := Tryz.isAgg20
  z20 := Tryz.sizeOf20
  v20 := Tryz.zeroValue20
  t37 := Tryz.underlying108
  a37 := Tryz.isAgg108
  z37 := Tryz.sizeOf108
  v37 := Tryz.zeroValue108
  t46 := Tryz.underlying121
  a46 := Tryz.isAgg121
  z46 := Tryz.sizeOf121
  v46 := Tryz.zeroValue121
  t51 := Tryz.underlying119
  a51 := Tryz.isAgg119
  z51 := Tryz.sizeOf119
  v51 := Tryz.zeroValue119
  t53 := Tryz.underlying105
  a53 := Tryz.isAgg105
  z53 := Tryz.sizeOf105
  v53 := Tryz.zeroValue105
  t171 := Tryz.underlying104
  a171 := Tryz.isAgg104
  z171 := Tryz.sizeOf104
  v171 := Tryz.zeroValue104
  t173 := Tryz.underlying109
  a173 := Tryz.isAgg109
  z173 := Tryz.sizeOf109
  v173 := Tryz.zeroValue109
  t212 := Tryz.underlying118
  a212 := Tryz.isAgg118
  z212 := Tryz.sizeOf118
  v212 := Tryz.zeroValue118
  t213 := Tryz.underlying120
  a213 := Tryz.isAgg120
  z213 := Tryz.sizeOf120
  t232 := Tryz.underlying133
  a232 := Tryz.isAgg133
  z232 := Tryz.sizeOf133
  v232 := Tryz.zeroValue133
  t233 := Tryz.underlying134
  a233 := Tryz.isAgg134
  z233 := Tryz.sizeOf134
  v233 := Tryz.zeroValue134
  g17 := by kernel_rfl
  g18 := by kernel_rfl
  g19 := by kernel_rfl
  i0 := by kernel_rfl
  i2 := by kernel_rfl
  i3 := by kernel_rfl
  i4 := by kernel_rfl
  i5 := by kernel_rfl
  i9 := by kernel_rfl
  i20 := by kernel_rfl
  i37 := by kernel_rfl
  i46 := by kernel_rfl
  i51 := by kernel_rfl
  i53 := by kernel_rfl
  i171 := by kernel_rfl
  i173 := by kernel_rfl
  i212 := by kernel_rfl
  i232 := by kernel_rfl
  i233 := by kernel_rfl
  m17 := by kernel_rfl
  m18 := by kernel_rfl
  m19 := by kernel_rfl }
open Go.RowKit Go.Sort Go.Lib in
theorem Tryz.strconv_Itoa (n : Int) (h0 : -9223372036854775808 ≤ n) (h1 : n ≤ 9223372036854775807) (w : World) (htab : Lib.TabIs Tryz.prog w "internal/strconv.uint64pow10" .u64 Lib.pow10Tab) :
    Calls Tryz.prog 17 #[.int .i64 n] w fun e w' => e = .returned (.string ⟨(Lib.itoa n).toArray⟩) ∧ ∃ k os, w' = grow (w.drewN k) os := Any.strconv_Itoa Tryz.laysM171 n h0 h1 w htab
def Tryz.lays219_ren : Go.Shelf.Ren := ⟨fun | 219 => 98 | 217 => 71 | 225 => 101 | 224 => 102 | 267 => 103 | 266 => 84 | 314 => 104 | n => n, fun | 9 => 9 | 3 => 3 | 4 => 4 | 5 => 5 | 46 => 121 | 146 => 135 | 51 => 119 | n => n, fun | 1 => 1 | n => n⟩
theorem Tryz.lays219 : Go.Proofs.Lays.n219 Tryz.prog Tryz.lays219_ren := {
  mixed := by kernel_rfl
  f217 := Tryz.func71.trans (congrArg some (by kernel_rfl))
  f219 := Tryz.func98.trans (congrArg some (by kernel_rfl))
  f224 := Tryz.func102.trans (congrArg some (by kernel_rfl))
  f225 := Tryz.func101.trans (congrArg some (by kernel_rfl))
  f266 := Tryz.func84.trans (congrArg some (by kernel_rfl))
  f267 := Tryz.func103.trans (congrArg some (by kernel_rfl))
  f314 := Tryz.func104.trans (congrArg some (by kernel_rfl))
  t3 := Tryz.underlying3
  a3 := Tryz.isAgg3
  z3 := Tryz.sizeOf3
  v3 := Tryz.zeroValue3
  t4 := Tryz.underlying4
  a4 := Tryz.isAgg4
  z4 := Tryz.sizeOf4
  v4 := Tryz.zeroValue4
  t5 := Tryz.underlying5
  a5 := Tryz.isAgg5
  z5 := Tryz.sizeOf5
  v5 := Tryz.zeroValue5
  t9 := Tryz.underlying9
  a9 := Tryz.isAgg9
  z9 := Tryz.sizeOf9
  v9 := Tryz.zeroValue9
  t46 := Tryz.underlying121
  a46 := Tryz.isAgg121
  z46 := Tryz.sizeOf121
  v46 := Tryz.zeroValue121
  t51 := Tryz.underlying119
  a51 := Tryz.isAgg119
  z51 := Tryz.sizeOf119
  v51 := Tryz.zeroValue119
  t146 := Tryz.underlying135
  a146 := Tryz.isAgg135
  z146 := Tryz.sizeOf135
  v146 := Tryz.zeroValue135
  g1 := by kernel_rfl }
open Go.RowKit Go.Lib in
theorem Tryz.stringslite_Index_one (s : ByteArray) (c : UInt8) (w : World) :
    Calls Tryz.prog 98 #[.string s, .string ⟨#[c]⟩] w fun e w' => e = .returned (.int .i64 (Lib.indexByte s.data.toList c)) ∧ w' = w := Any.stringslite_Index_one Tryz.lays219 s c w
def Tryz.lays144_ren : Go.Shelf.Ren := ⟨fun | 144 => 90 | 143 => 99 | 219 => 98 | 217 => 71 | 225 => 101 | 224 => 102 | 267 => 103 | 266 => 84 | 314 => 104 | n => n, fun | 9 => 9 | 4 => 4 | 3 => 3 | 5 => 5 | 46 => 121 | 146 => 135 | 51 => 119 | n => n, fun | 1 => 1 | n => n⟩
theorem Tryz.lays144 : Go.Proofs.Lays.n144 Tryz.prog Tryz.lays144_ren := {
  mixed := by kernel_rfl
  f143 := Tryz.func99.trans (congrArg some (by kernel_rfl))
  f144 := Tryz.func90.trans (congrArg some (by kernel_rfl))
  f217 := Tryz.func71.trans (congrArg some (by kernel_rfl))
  f219 := Tryz.func98.trans (congrArg some (by kernel_rfl))
  f224 := Tryz.func102.trans (congrArg some (by kernel_rfl))
  f225 := Tryz.func101.trans (congrArg some (by kernel_rfl))
  f266 := Tryz.func84.trans (congrArg some (by kernel_rfl))
  f267 := Tryz.func103.trans (congrArg some (by kernel_rfl))
  f314 := Tryz.func104.trans (congrArg some (by kernel_rfl))
  t3 := Tryz.underlying3
  a3 := Tryz.isAgg3
  z3 := Tryz.sizeOf3
  v3 := Tryz.zeroValue3
  t4 := Tryz.underlying4
  a4 := Tryz.isAgg4
  z4 := Tryz.sizeOf4
  v4 := Tryz.zeroValue4
  t5 := Tryz.underlying5
  a5 := Tryz.isAgg5
  z5 := Tryz.sizeOf5
  v5 := Tryz.zeroValue5
  t9 := Tryz.underlying9
  a9 := Tryz.isAgg9
  z9 := Tryz.sizeOf9
  v9 := Tryz.zeroValue9
  t46 := Tryz.underlying121
  a46 := Tryz.isAgg121
  z46 := Tryz.sizeOf121
  v46 := Tryz.zeroValue121
  t51 := Tryz.underlying119
  a51 := Tryz.isAgg119
  z51 := Tryz.sizeOf119
  v51 := Tryz.zeroValue119
  t146 := Tryz.underlying135
  a146 := Tryz.isAgg135
  z146 := Tryz.sizeOf135
  v146 := Tryz.zeroValue135
  g1 := by kernel_rfl }
open Go.RowKit Go.Lib in
theorem Tryz.strings_Contains_one (s : ByteArray) (c : UInt8) (w : World) :
    Calls Tryz.prog 90 #[.string s, .string ⟨#[c]⟩] w fun e w' => e = .returned (.bool (decide (0 ≤ Lib.indexByte s.data.toList c))) ∧ w' = w := Any.strings_Contains_one Tryz.lays144 s c w
def Tryz.lays148_ren : Go.Shelf.Ren := ⟨fun | 148 => 85 | 222 => 94 | 223 => 95 | 269 => 100 | n => n, fun | 9 => 9 | 3 => 3 | 4 => 4 | 5 => 5 | 146 => 135 | 51 => 119 | 46 => 121 | n => n, fun | n => n⟩
theorem Tryz.lays148 : Go.Proofs.Lays.n148 Tryz.prog Tryz.lays148_ren := {
  mixed := by kernel_rfl
  f148 := Tryz.func85.trans (congrArg some (by kernel_rfl))
  f222 := Tryz.func94.trans (congrArg some (by kernel_rfl))
  f223 := Tryz.func95.trans (congrArg some (by kernel_rfl))
  f269 := Tryz.func100.trans (congrArg some (by kernel_rfl))
  t3 := Tryz.underlying3
  a3 := Tryz.isAgg3
  z3 := Tryz.sizeOf3
  v3 := Tryz.zeroValue3
  t4 := Tryz.underlying4
  a4 := Tryz.isAgg4
  z4 := Tryz.sizeOf4
  v4 := Tryz.zeroValue4
  t5 := Tryz.underlying5
  a5 := Tryz.isAgg5
  z5 := Tryz.sizeOf5
  v5 := Tryz.zeroValue5
  t9 := Tryz.underlying9
  a9 := Tryz.isAgg9
  z9 := Tryz.sizeOf9
  v9 := Tryz.zeroValue9
  t46 := Tryz.underlying121
  a46 := Tryz.isAgg121
  z46 := Tryz.sizeOf121
  v46 := Tryz.zeroValue121
  t51 := Tryz.underlying119
  a51 := Tryz.isAgg119
  z51 := Tryz.sizeOf119
  v51 := Tryz.zeroValue119
  t146 := Tryz.underlying135
  a146 := Tryz.isAgg135
  z146 := Tryz.sizeOf135
  v146 := Tryz.zeroValue135 }
open Go.RowKit Go.Lib in
theorem Tryz.strings_LastIndex (s sub : ByteArray) (hs : s.size < 4611686018427387904) (w : World) :
    Calls Tryz.prog 85 #[.string s, .string sub] w fun e w' => e = .returned (.int .i64 (Lib.lastIndex s.data.toList sub.data.toList)) ∧ w' = w := Any.strings_LastIndex Tryz.lays148 s sub hs w
def Tryz.lays107_ren : Go.Shelf.Ren := ⟨fun | 107 => 48 | 108 => 63 | n => n, fun | 28 => 82 | 3 => 3 | 4 => 4 | 0 => 0 | n => n, fun | n => n⟩
theorem Tryz.lays107 : Go.Proofs.Lays.n107 Tryz.prog Tryz.lays107_ren := {
  mixed := by kernel_rfl
  f107 := Tryz.func48.trans (congrArg some (by kernel_rfl))
  f108 := Tryz.func63.trans (congrArg some (by kernel_rfl))
  t0 := Tryz.underlying0
  a0 := Tryz.isAgg0
  z0 := Tryz.sizeOf0
  v0 := Tryz.zeroValue0
  t3 := Tryz.underlying3
  a3 := Tryz.isAgg3
  z3 := Tryz.sizeOf3
  v3 := Tryz.zeroValue3
  t4 := Tryz.underlying4
  a4 := Tryz.isAgg4
  z4 := Tryz.sizeOf4
  v4 := Tryz.zeroValue4
  t28 := Tryz.underlying82
  a28 := Tryz.isAgg82
  z28 := Tryz.sizeOf82
  v28 := Tryz.zeroValue82 }
open Go.Lib in
theorem Tryz.slices_Contains_int (b off n c : Nat) (zs : List Int) (x : Int) (w : World) (hz : n ≤ zs.length) (hbig : n ≤ 9223372036854775807) (hc : ∀ j, j < zs.length → w.cell? ⟨b, off + j, none⟩ = some (.int .i64 (zs.getD j 0))) :
    Calls Tryz.prog 48 #[.slice (some ⟨b, off, none⟩) n c, .int .i64 x] w fun e w' => e = .returned (.bool ((zs.take n).contains x)) ∧ w' = w := Any.slices_Contains_int Tryz.lays107 b off n c zs x w hz hbig hc
end Go.Proofs

/- The text of a number, in the program (strconv.Itoa), and what its table asks of the world. -/
namespace Go.Proofs.YtojceibamgodbaaGreatDoor
open Go.RowKit

theorem below_grow (w : World) (k : Nat) (os : Array Obj) : Below w.heap.size w (Sort.grow (w.drewN k) os) := by
  have h1 : Below w.heap.size w (w.drewN k) := below_drewN (Below.refl _ _) k
  refine h1.trans ⟨rfl, rfl, rfl, by simp [Sort.grow], fun i hi => ?_⟩
  have hs : (w.drewN k).heap = w.heap := by simp
  simp only [Sort.grow]
  rw [Array.getElem?_append_left (by rw [hs]; exact hi)]
/-- The table of the powers of ten lies, now and in every world since. -/
abbrev Tab (w : World) : Prop := Lib.TabBelow Tryz.prog w.heap.size w "internal/strconv.uint64pow10" .u64 Lib.pow10Tab
theorem Tab.is {w : World} (h : Tab w) : Lib.TabIs Tryz.prog w "internal/strconv.uint64pow10" .u64 Lib.pow10Tab := h w (Below.refl _ _)
theorem Tab.then {w w' : World} (h : Tab w) (hb : Below w.heap.size w w') : Tab w' := fun w'' h'' => h w'' (hb.trans (h''.mono hb.size))
theorem Tab.at {w : World} (h : Tab w) (q : Since w.heap.size w) : Tab q.val := h.then q.below

theorem itoa_any (n : Int) (w : World) (h0 : -9223372036854775808 ≤ n) (h1 : n ≤ 9223372036854775807) (ht : Tab w) :
    Calls Tryz.prog 17 #[.int .i64 n] w fun e w' => e = .returned (.string ⟨(Lib.itoa n).toArray⟩) ∧ Below w.heap.size w w' :=
  (Tryz.strconv_Itoa n h0 h1 w ht.is).mono fun e w' ⟨he, k, os, hw⟩ => ⟨he, by rw [hw]; exact below_grow w k os⟩
end Go.Proofs.YtojceibamgodbaaGreatDoor

/- The text of a tray, in the reference and in the program. -/
namespace Go.Proofs.YtojceibamgodbaaGreatDoor
open Go.RowKit

abbrev isKind (k : Int) : Outing → Bool := fun o => decide (o.k = k)
def trT (c o : ByteArray) : ByteArray := c ++ ⟨#[32, 105, 110, 32]⟩ ++ o ++ ⟨#[32, 111, 117, 116]⟩
abbrev numT (n : Int) : ByteArray := ⟨(Lib.itoa n).toArray⟩
/-- The text of the tray of a kind. -/
def trayTx (x : Off) (kd : Int) : ByteArray := trT (numT (x.t.getD (trayIx x.t kd).toNat default).c) (numT (outSum (isKind kd) x.o))
def trayT (x : Off) (kd : Int) : ByteArray := if goodOff x && hasTray x.t kd then trayTx x kd else ⟨#[]⟩
theorem idxFrom_ge {α : Type} (f : α → Bool) : ∀ (l : List α) (k : Nat) (i : Nat), idxFrom f k l = (i : Int) → k ≤ i ∧ ∃ h : i - k < l.length, f l[i - k] = true
  | [], k, i, h => by simp [idxFrom] at h
  | x :: l, k, i, h => by
    rw [idxFrom] at h
    split at h
    · rename_i hx
      obtain rfl : k = i := by omega
      exact ⟨Nat.le_refl _, by simp, by simpa using hx⟩
    · obtain ⟨h1, h2, h3⟩ := idxFrom_ge f l (k + 1) i h
      refine ⟨by omega, by simp; omega, ?_⟩
      have e : i - k = (i - (k + 1)) + 1 := by omega
      simp only [e, List.getElem_cons_succ]
      exact h3
theorem trayIx_at {ts : List Tray} {kd : Int} {i : Nat} (h : trayIx ts kd = i) : ∃ hi : i < ts.length, ts[i].k = kd := by
  obtain ⟨_, h2, h3⟩ := idxFrom_ge _ ts 0 i h
  simp only [Nat.sub_zero] at h2 h3
  exact ⟨h2, of_decide_eq_true h3⟩
theorem trayIx_nat {ts : List Tray} {kd : Int} (h : 0 ≤ trayIx ts kd) : ∃ i : Nat, trayIx ts kd = i := ⟨(trayIx ts kd).toNat, by omega⟩

set_option maxRecDepth 100000 in
set_option maxHeartbeats 2000000 in
theorem l32Text_any (x : Off) (i : Nat) (kd : Int) (w : World) (h : OffR w w.heap.size x) (G : Good x) (hi : i < x.t.length) (hk : x.t[i].k = kd) :
    Calls Tryz.prog 13 #[x.val, .int .i64 i] w fun e w' => e = .returned (.string (trT (numT x.t[i].c) (numT (outSum (isKind kd) x.o)))) ∧ Below w.heap.size w w' := by
  have hb0 := (Below.refl w.heap.size w).alloc (Nat.le_refl _) (.cells #[.slice x.TA x.t.length x.tc, .slice x.OA x.o.length x.oc, .int .i64 x.got, .int .i64 x.sold, .int .i64 x.missed] 36)
  have hS := OffS.of (x := x) (Lies.new w 36 #[.slice x.TA x.t.length x.tc, .slice x.OA x.o.length x.oc, .int .i64 x.got, .int .i64 x.sold, .int .i64 x.missed])
  have hR := h.up hb0 (Nat.le_refl _)
  have HO := Lib.hid G.oall
  have ol := G.ol
  have tl := G.tl
  have htb := (Tray.bounds (G.tall i hi)).2
  have hob := outFrom_bd (isKind kd) x.t x.o 0 G.oall
  change 0 ≤ outSum (isKind kd) x.o ∧ outSum (isKind kd) x.o ≤ _ at hob
  have HF : Hid (outFrom (isKind kd) 0 (x.o.drop 0) = outSum (isKind kd) x.o) := rfl
  have HT : Hid (trT (numT x.t[i].c) (numT (outSum (isKind kd) x.o)) = numT x.t[i].c ++ ⟨#[32, 105, 110, 32]⟩ ++ numT (outSum (isKind kd) x.o) ++ ⟨#[32, 111, 117, 116]⟩) := rfl
  obtain ⟨tr, htr⟩ : ∃ tr, x.t[i] = tr := ⟨_, rfl⟩
  rw [htr] at hk htb HT ⊢
  go_enter Tryz.func13, Tryz.ntmps13
  go_wp2
  generalize w.alloc (.cells #[.slice x.TA x.t.length x.tc, .slice x.OA x.o.length x.oc, .int .i64 x.got, .int .i64 x.sold, .int .i64 x.missed] 36) = W at hb0 hS hR ⊢
  obtain ⟨s0, s1, s2, s3, s4⟩ := hS
  obtain ⟨bt, ot, hTA, _, htc⟩ := hR.ts.el (by omega)
  obtain ⟨t0, t1⟩ := htc i hi
  have hro := hR.os.el
  simp only [hTA] at s0
  rw [htr] at t0 t1
  clear htc hTA htr
  subst hk
  obtain ⟨htb1, htb2⟩ := htb
  obtain ⟨hob1, hob2⟩ := hob
  have hz0 : (0 : Int) ≤ (i : Int) := by omega
  have hii : (i : Int) < (x.t.length : Int) := by omega
  go_loopw [5, 6] (fun s k wr => ∃ (j : Nat) (u : Int), j ≤ x.o.length ∧ k = .int .i64 j ∧ s = .int .i64 u ∧ (0 ≤ u ∧ u ≤ 9999 * (j : Int)) ∧ (∃ q : Since W.heap.size W, wr = q.val) ∧ Hid (outFrom (isKind tr.k) u (x.o.drop j) = outSum (isKind tr.k) x.o)) (fun _ k _ => x.o.length - (intOf k).toNat)
  case atStart => exact ⟨0, 0, Nat.zero_le _, rfl, rfl, by omega, ⟨Since.start _ _, rfl⟩, HF⟩
  case round =>
    obtain ⟨j, u, hj, rfl, rfl, ⟨u0, u1⟩, ⟨p, rfl⟩, HU⟩ := hrel
    by_cases hlj : j < x.o.length
    · obtain ⟨b, off, hA, hb, hcell⟩ := hro (by omega)
      obtain ⟨e0, e1, e2⟩ := hcell j hlj
      obtain ⟨_, _, x1, x2⟩ := Outing.bounds (HO.out j hlj)
      have HS : Hid (outFrom (isKind tr.k) u (x.o.drop j) = outFrom (isKind tr.k) (if isKind tr.k x.o[j] then u + x.o[j].c else u) (x.o.drop (j + 1))) := out_step (f := isKind tr.k) hlj u
      obtain ⟨r, hre⟩ : ∃ r, r = x.o[j] := ⟨_, rfl⟩
      rw [← hre] at e0 e1 e2 HS x1 x2
      simp only [hA] at s1
      clear hre hcell hro hA
      by_cases hz : r.k = tr.k
      · have hv : (r.k == tr.k) = true := by simp [hz]
        have HE : Hid (outFrom (isKind tr.k) (u + r.c) (x.o.drop (j + 1)) = outSum (isKind tr.k) x.o) := by
          have h1 := HU.out; rw [HS.out, show isKind tr.k r = true from decide_eq_true hz, if_pos rfl] at h1; exact h1
        clear hz HS
        go_wp2
        refine wp_region_since _ (by kernel_rfl) (by kernel_rfl) ?_
        repeat (any_goals (first | go_big_quiet_step ((fail)) | (refine wpQuiet_step (fun K hK => ?_); go_simp; split <;> (refine hK _ ?_; clear hK K))))
        all_goals (refine wpQuiet_nil ?_; rintro _ ⟨q1, rfl⟩)
        all_goals go_wp2
        go_roundw
        case rel => exact ⟨j + 1, u + r.c, by omega, by go_num, rfl, by omega, ⟨q1, rfl⟩, HE⟩
        case measure => simp [intOf]; omega
      · have hv : (r.k == tr.k) = false := by simp [hz]
        have HE : Hid (outFrom (isKind tr.k) u (x.o.drop (j + 1)) = outSum (isKind tr.k) x.o) := by
          have h1 := HU.out; rw [HS.out, show isKind tr.k r = false from decide_eq_false hz, if_neg (by simp)] at h1; exact h1
        clear hz HS
        go_wp2
        refine wp_region_since _ (by kernel_rfl) (by kernel_rfl) ?_
        repeat (any_goals (first | go_big_quiet_step ((fail)) | (refine wpQuiet_step (fun K hK => ?_); go_simp; split <;> (refine hK _ ?_; clear hK K))))
        all_goals (refine wpQuiet_nil ?_; rintro _ ⟨q1, rfl⟩)
        all_goals go_wp2
        go_roundw
        case rel => exact ⟨j + 1, u, by omega, by go_num, rfl, by omega, ⟨q1, rfl⟩, HE⟩
        case measure => simp [intOf]; omega
    · have HE2 : Hid (u = outSum (isKind tr.k) x.o) := by
        have h1 := HU.out; rw [List.drop_eq_nil_of_le (by omega)] at h1; exact h1
      have z1 := itoa_len htb1 (by omega : tr.c ≤ 1000000000)
      have z2 := itoa_len u0 (by omega : u ≤ 1000000000)
      obtain ⟨SA, hSA⟩ : ∃ SA, numT tr.c = SA := ⟨_, rfl⟩
      obtain ⟨SB, hSB⟩ : ∃ SB, numT u = SB := ⟨_, rfl⟩
      have cA : ∀ W, Calls Tryz.prog 12 #[.int .i64 tr.c] W fun e w' => e = .returned (.string SA) ∧ Below W.heap.size W w' := fun W => by rw [← hSA]; exact l1Num_any tr.c W htb1 (by omega)
      have cB : ∀ W, Calls Tryz.prog 12 #[.int .i64 u] W fun e w' => e = .returned (.string SB) ∧ Below W.heap.size W w' := fun W => by rw [← hSB]; exact l1Num_any u W u0 (by omega)
      have z1' : SA.size ≤ 100 := by rw [← hSA]; exact z1
      have z2' : SB.size ≤ 100 := by rw [← hSB]; exact z2
      have HA := Lib.hid hSA
      have HB := Lib.hid hSB
      clear hro hSA hSB z1 z2
      go_wp2_with fail
      refine (cA _).mono ?_
      rintro e w1 ⟨rfl, hb1⟩
      go_wp2_with fail
      refine (cB _).mono ?_
      rintro e w2 ⟨rfl, hb2⟩
      go_wp2
      go_ret
      exact ⟨by rw [HT.out, ← HE2.out, HA.out, HB.out]; rfl, bthen (bthen (bthen hb0 p.below) hb1) hb2⟩

theorem trayT_no {x : Off} {kd : Int} (h : (goodOff x && hasTray x.t kd) = false) : trayT x kd = ⟨#[]⟩ := by unfold trayT; rw [h]; rfl
theorem trayT_yes {x : Off} {kd : Int} {i : Nat} (hg : goodOff x = true) (hI : trayIx x.t kd = i) (hi : i < x.t.length) : (goodOff x && hasTray x.t kd) = true ∧ trayT x kd = trT (numT x.t[i].c) (numT (outSum (isKind kd) x.o)) := by
  have h1 : hasTray x.t kd = true := by rw [← trayIx_has, hI]; simp
  refine ⟨by rw [hg, h1]; rfl, ?_⟩
  unfold trayT trayTx
  rw [hg, h1, hI, Int.toNat_natCast, List.getD_eq_getElem?_getD, List.getElem?_eq_getElem hi]; rfl
theorem hasTray_no {ts : List Tray} {kd : Int} (h : ¬ 0 ≤ trayIx ts kd) : hasTray ts kd = false := by rw [← trayIx_has, decide_eq_false h]

/-- The closure of trayText. -/
theorem textFn_any (t : Outing) (gk : Nat) (kd : Int) (w : World) (hL : Lies w gk 3 [.int .i64 kd]) :
    Calls Tryz.prog 31 (#[t.val] ++ #[.pointer (some ⟨gk, 0, none⟩)]) w fun e w' => e = .returned (.bool (isKind kd t)) ∧ Below w.heap.size w w' := by
  show Calls Tryz.prog 31 #[t.val, .pointer (some ⟨gk, 0, none⟩)] w _
  have b1 := (Below.refl w.heap.size w).alloc (Nat.le_refl _) (.cells #[.int .i64 t.k, .int .i64 t.p, .int .i64 t.c] 60)
  have c0 := (hL.alloc (.cells #[.int .i64 t.k, .int .i64 t.p, .int .i64 t.c] 60)).cell 0
  simp only [List.getElem?_cons_zero] at c0
  obtain ⟨v, hv⟩ : ∃ v, (t.k == kd) = v := ⟨_, rfl⟩
  have HV : Hid (isKind kd t = v) := by rw [← hv]; unfold Hid; rw [Bool.eq_iff_iff]; simp [isKind]
  go_enter Tryz.func31, Tryz.ntmps31
  go_wp2
  go_ret
  exact ⟨by rw [HV.out]; rfl, b1⟩

set_option maxRecDepth 100000 in
set_option maxHeartbeats 2000000 in
theorem trayText_any (x : Off) (g i : Nat) (kd : Int) (w : World) (h : OffAt w w.heap.size g x) (G : Good x) (hI : trayIx x.t kd = i) (hi : i < x.t.length) (ht : Tab w) :
    Calls Tryz.prog 18 #[.pointer (some ⟨g, 0, none⟩), .int .i64 kd] w fun e w' => e = .returned (.string (trT (numT x.t[i].c) (numT (outSum (isKind kd) x.o)))) ∧ Below w.heap.size w w' := by
  have hmf : ∀ (fn : Fn) (first cap : Array Value) (w : World), (Instr.makeFunc fn first cap).run Tryz.prog w = .ok (.func fn first cap) w := fun _ _ _ _ => rfl
  have b1 := (Below.refl w.heap.size w).alloc (Nat.le_refl _) (.cells #[.int .i64 kd] 3)
  have hL := Lies.new w 3 #[.int .i64 kd]
  have hA := h.then b1 b1.size
  have ht1 := ht.then b1
  have ol := G.ol
  have htb := (Tray.bounds (G.tall i hi)).2
  have hob := outFrom_bd (isKind kd) x.t x.o 0 G.oall
  change 0 ≤ outSum (isKind kd) x.o ∧ outSum (isKind kd) x.o ≤ _ at hob
  have HT : Hid (trT (numT x.t[i].c) (numT (outSum (isKind kd) x.o)) = numT x.t[i].c ++ ⟨#[32, 105, 110, 32]⟩ ++ numT (outSum (isKind kd) x.o) ++ ⟨#[32, 111, 117, 116]⟩) := rfl
  rw [HT.out]
  obtain ⟨tr, htr⟩ : ∃ tr, x.t[i] = tr := ⟨_, rfl⟩
  obtain ⟨S, hS⟩ : ∃ S, outSum (isKind kd) x.o = S := ⟨_, rfl⟩
  rw [htr] at htb
  rw [hS] at hob
  rw [htr, hS]
  go_enter Tryz.func18, Tryz.ntmps18
  go_wp2_with fail
  generalize w.alloc (.cells #[.int .i64 kd] 3) = W at b1 hL hA ht1 ⊢
  have cO := stampsOut_any (isKind kd) 31 #[.pointer (some ⟨w.heap.size, 0, none⟩)] Tryz.call31 x g W (fun o p => textFn_any o w.heap.size kd p.val (hL.below p.below hL.lt)) hA ol G.oall
  rw [hS] at cO
  refine (calls_since0 cO).mono ?_
  rintro e w1 ⟨rfl, q1, rfl⟩
  have hk0 : ∀ q : Since W.heap.size W, q.val.cell? ⟨w.heap.size, 0, none⟩ = some (.int .i64 kd) := fun q => (q.cell hL.lt).trans (hL.cell 0)
  obtain ⟨p0, p1, p2, p3, p4⟩ := hA.s
  obtain ⟨bt, ot, hTA, _, htc⟩ := hA.r.ts.el (by omega)
  obtain ⟨t0, t1⟩ := htc i hi
  simp only [hTA] at p0
  have cA := fun q : Since W.heap.size W => trayAt_any x g kd q.val (hA.at q)
  rw [hI] at cA
  rw [htr] at t1
  obtain ⟨htb1, htb2⟩ := htb
  obtain ⟨hob1, hob2⟩ := hob
  have c1 := fun q : Since W.heap.size W => itoa_any tr.c q.val (by omega) (by omega) (ht1.at q)
  have c2 := fun q : Since W.heap.size W => itoa_any S q.val (by omega) (by omega) (ht1.at q)
  have z1 := itoa_len htb1 (by omega : tr.c ≤ 1000000000)
  have z2 := itoa_len hob1 (by omega : S ≤ 1000000000)
  have HA : Hid (numT tr.c = ⟨(Lib.itoa tr.c).toArray⟩) := rfl
  have HB : Hid (numT S = ⟨(Lib.itoa S).toArray⟩) := rfl
  generalize (⟨(Lib.itoa tr.c).toArray⟩ : ByteArray) = SA at c1 z1 HA
  generalize (⟨(Lib.itoa S).toArray⟩ : ByteArray) = SB at c2 z2 HB
  have hz0 : (0 : Int) ≤ (i : Int) := by omega
  have hii : (i : Int) < (x.t.length : Int) := by omega
  clear htc hTA cO hS t0 HT
  go_wp2
  refine wp_region_since _ (by kernel_rfl) (by kernel_rfl) ?_
  repeat (any_goals (first | go_big_quiet_step ((first | (go_at_call 32; with_reducible refine calls_since (Nat.le_refl _) (cA _)) | (go_at_call 17; with_reducible refine calls_since (Nat.le_refl _) (c1 _)) | (go_at_call 17; with_reducible refine calls_since (Nat.le_refl _) (c2 _)))) | (refine wpQuiet_step (fun K hK => ?_); go_simp; split <;> (refine hK _ ?_; clear hK K))))
  all_goals (refine wpQuiet_nil ?_; rintro _ ⟨q1, rfl⟩)
  all_goals go_wp2
  go_ret
  exact ⟨by rw [HA.out, HB.out]; rfl, bthen b1 q1.below⟩

end Go.Proofs.YtojceibamgodbaaGreatDoor
