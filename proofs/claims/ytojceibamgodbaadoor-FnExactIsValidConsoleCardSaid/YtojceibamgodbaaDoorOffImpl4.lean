/- Validity of an office, in the program: the loops. -/
import Derived.Test.YtojceibamgodbaaDoorOffImpl3
namespace Go.Proofs.YtojceibamgodbaaDoor
open Go.RowKit

theorem every1_all (o : Outing) (w : World) : Calls Tryd.prog 67 (#[o.val] ++ #[]) w fun e w' => e = .returned (.bool (every o)) ∧ Below w.heap.size w w' := every1_any o w

set_option maxRecDepth 100000 in
set_option maxHeartbeats 4000000 in
theorem isOfficeValid_yes (x : Off) (g : Nat) (w : World) (h : OffAt w w.heap.size g x) (hyes : (sizesOk x && numsOk x) = true) :
    Calls Tryd.prog 37 #[.pointer (some ⟨g, 0, none⟩)] w fun e w' => e = .returned (.bool (goodOff x)) ∧ Below w.heap.size w w' := by
  have s0 : w.cell? ⟨g, 0, none⟩ = some (.slice x.TA x.t.length x.tc) := h.s.c0 (Since.start _ _)
  have s1 : w.cell? ⟨g, 1, none⟩ = some (.slice x.OA x.o.length x.oc) := h.s.c1 (Since.start _ _)
  have s2 : w.cell? ⟨g, 2, none⟩ = some (.int .i64 x.got) := h.s.c2 (Since.start _ _)
  have s3 : w.cell? ⟨g, 3, none⟩ = some (.int .i64 x.sold) := h.s.c3 (Since.start _ _)
  have s4 : w.cell? ⟨g, 4, none⟩ = some (.int .i64 x.missed) := h.s.c4 (Since.start _ _)
  have c3 := fun W => inRange_any x.got 0 99999 W
  have c4 := fun W => inRange_any x.sold 0 99999 W
  have c5 := fun W => inRange_any x.missed 0 99999 W
  have HG : Hid (goodOff x = (traysOk x.t && outsOk x.t x.o && sumOk x)) := by
    unfold Hid goodOff; rw [hyes, Bool.true_and]
  rw [Bool.and_eq_true] at hyes
  have hz := hyes.1
  have hn := hyes.2
  unfold sizesOk at hz
  unfold numsOk at hn
  rw [Bool.and_eq_true] at hz hn
  rw [Bool.and_eq_true] at hn
  obtain ⟨⟨hv3, hv4⟩, hv5⟩ := hn
  have tl : x.t.length ≤ 8 := of_decide_eq_true hz.1
  have ol : x.o.length ≤ 8 := of_decide_eq_true hz.2
  clear hz hyes
  rw [hv3] at c3
  rw [hv4] at c4
  rw [hv5] at c5
  obtain ⟨g1, g2⟩ := inR_iff.1 hv3
  obtain ⟨g3, g4⟩ := inR_iff.1 hv4
  obtain ⟨g5, g6⟩ := inR_iff.1 hv5
  clear hv3 hv4 hv5
  have hrt := h.r.ts.el
  have hro := h.r.os.el
  obtain ⟨p0, p1, p2, p3, p4⟩ := h.s
  obtain ⟨TA, hTA⟩ : ∃ A, x.TA = A := ⟨_, rfl⟩
  obtain ⟨OA, hOA⟩ : ∃ A, x.OA = A := ⟨_, rfl⟩
  rw [hTA] at s0 hrt
  rw [hOA] at s1 hro
  simp only [hTA] at p0
  simp only [hOA] at p1
  clear hTA hOA
  go_enter Tryd.func37, Tryd.ntmps37
  go_wp2_with fail
  refine (c3 _).mono ?_
  rintro e w3 ⟨rfl, rfl⟩
  go_wp2_with fail
  refine (c4 _).mono ?_
  rintro e w3 ⟨rfl, rfl⟩
  go_wp2_with fail
  refine (c5 _).mono ?_
  rintro e w3 ⟨rfl, rfl⟩
  go_wp2
  clear s0 s1 s2 s3 s4 c3 c4 c5
  go_loopw [50] (fun i wr => ∃ (k : Nat) (prev : Int), k ≤ x.t.length ∧ i = .int .i64 k ∧ (∃ q : Since w.heap.size w, wr = q.val) ∧ Hid (traysFrom k prev (x.t.drop k) = traysOk x.t) ∧ Hid (∀ (_hk : 0 < k) (h' : k - 1 < x.t.length), prev = x.t[k - 1].k)) (fun i _ => x.t.length - (intOf i).toNat)
  case atStart => exact ⟨0, 0, Nat.zero_le _, rfl, ⟨Since.start _ _, rfl⟩, rfl, fun h => absurd h (by omega)⟩
  case round =>
    obtain ⟨k, prev, hk, rfl, ⟨q, rfl⟩, HR, HP⟩ := hrel
    by_cases hlt : k < x.t.length
    · obtain ⟨b, off, rfl, hb, hcell⟩ := hrt (by omega)
      obtain ⟨e0, e1⟩ := hcell k hlt
      have HC : Hid (0 < k → ∀ p : Since w.heap.size w, p.val.cell? ⟨b, off + (k - 1) * 2, none⟩ = some (.int .i64 prev)) := fun h p => by
        rw [HP.out h (by omega)]; exact (hcell (k - 1) (by omega)).c0 p
      have HS := Lib.hid (trays_step (n := k) (p := prev) hlt)
      obtain ⟨r, hre⟩ : ∃ r, r = x.t[k] := ⟨_, rfl⟩
      have HN : Hid (∀ (_hk : 0 < k + 1) (h' : k + 1 - 1 < x.t.length), r.k = x.t[k + 1 - 1].k) := fun _ h' => by rw [hre]; rfl
      rw [← hre] at e0 e1 HS
      clear hre hcell hrt hro
      go_wp2
      have hbV := q.below.alloc q.size (.cells #[.int .i64 r.k, .int .i64 r.c] 97)
      have hlV := Lies.new q.val 97 #[.int .i64 r.k, .int .i64 r.c]
      generalize q.val.alloc (.cells #[.int .i64 r.k, .int .i64 r.c] 97) = V at hbV hlV ⊢
      generalize q.val.heap.size = gv at hlV ⊢
      obtain ⟨d0, d1⟩ := TrayS.of (r := r) hlV
      have p0' : ∀ p : Since V.heap.size V, p.val.cell? ⟨g, 0, none⟩ = some (.slice (some ⟨b, off, none⟩) x.t.length x.tc) := fun p => p0 ⟨p.val, hbV.trans (p.below.mono hbV.size)⟩
      have HOK : Hid (r.ok = (inR r.k 1 99 && inR r.c 0 9999)) := rfl
      clear e0 e1
      obtain ⟨v1, hv1⟩ : ∃ v, inR r.k 1 99 = v := ⟨_, rfl⟩
      obtain ⟨v2, hv2⟩ : ∃ v, inR r.c 0 9999 = v := ⟨_, rfl⟩
      rw [hv1, hv2] at HOK
      have HV1 := Lib.hid hv1; clear hv1
      have HV2 := Lib.hid hv2; clear hv2
      rcases Nat.eq_zero_or_pos k with h0 | h0
      · have hd : decide (0 < k) = false := decide_eq_false (by omega)
        have H0 := Lib.hid h0; clear h0
        cases v1
        · refine wp_region_since0 (by kernel_rfl) (by kernel_rfl) ?_
          repeat (any_goals (first | go_big_quiet_step ((go_at_call 51; with_reducible refine calls_sameB HV1 (inRange_any r.k 1 99 _))) | (refine wpQuiet_step (fun K hK => ?_); go_simp; split <;> (refine hK _ ?_; clear hK K))))
          all_goals (refine wpQuiet_nil ?_; rintro _ ⟨q1, rfl⟩)
          all_goals have hb1 := hbV.trans (q1.below.mono hbV.size)
          all_goals go_wp2
          go_ret
          refine ⟨?_, hb1⟩
          rw [HG.out, ← HR.out, HS.out, HOK.out]; rfl
        · cases v2
          all_goals
            refine wp_region_since0 (by kernel_rfl) (by kernel_rfl) ?_
            repeat (any_goals (first | go_big_quiet_step ((first | (go_at_call 51; with_reducible refine calls_sameB HV1 (inRange_any r.k 1 99 _)) | (go_at_call 51; with_reducible refine calls_sameB HV2 (inRange_any r.c 0 9999 _)))) | (refine wpQuiet_step (fun K hK => ?_); go_simp; split <;> (refine hK _ ?_; clear hK K))))
            all_goals (refine wpQuiet_nil ?_; rintro _ ⟨q1, rfl⟩)
            all_goals have hb1 := hbV.trans (q1.below.mono hbV.size)
            all_goals go_wp2
          · go_ret
            refine ⟨?_, hb1⟩
            rw [HG.out, ← HR.out, HS.out, HOK.out]; rfl
          · go_roundw
            case rel => exact ⟨k + 1, r.k, by omega, by go_num, ⟨⟨_, hbV.trans (q1.below.mono hbV.size)⟩, rfl⟩, by have h1 := HR.out; rw [HS.out, HOK.out, decide_eq_true H0.out] at h1; exact h1, HN⟩
            case measure => simp [intOf]; omega
      · have c5 : ∀ p : Since V.heap.size V, p.val.cell? ⟨b, off + (k - 1) * 2, none⟩ = some (.int .i64 prev) := fun p => HC.out h0 ⟨p.val, hbV.trans (p.below.mono hbV.size)⟩
        have h0' : (0 : Int) < (k : Int) := by omega
        cases v1
        · refine wp_region_since0 (by kernel_rfl) (by kernel_rfl) ?_
          repeat (any_goals (first | go_big_quiet_step ((go_at_call 51; with_reducible refine calls_sameB HV1 (inRange_any r.k 1 99 _))) | (refine wpQuiet_step (fun K hK => ?_); go_simp; split <;> (refine hK _ ?_; clear hK K))))
          all_goals (refine wpQuiet_nil ?_; rintro _ ⟨q1, rfl⟩)
          all_goals have hb1 := hbV.trans (q1.below.mono hbV.size)
          all_goals go_wp2
          go_ret
          refine ⟨?_, hb1⟩
          rw [HG.out, ← HR.out, HS.out, HOK.out]; rfl
        · cases v2
          all_goals
            refine wp_region_since0 (by kernel_rfl) (by kernel_rfl) ?_
            repeat (any_goals (first | go_big_quiet_step ((first | (go_at_call 51; with_reducible refine calls_sameB HV1 (inRange_any r.k 1 99 _)) | (go_at_call 51; with_reducible refine calls_sameB HV2 (inRange_any r.c 0 9999 _)))) | (refine wpQuiet_step (fun K hK => ?_); go_simp; split <;> (refine hK _ ?_; clear hK K))))
            all_goals (refine wpQuiet_nil ?_; rintro _ ⟨q1, rfl⟩)
            all_goals have hb1 := hbV.trans (q1.below.mono hbV.size)
            all_goals go_wp2
          · go_ret
            refine ⟨?_, hb1⟩
            rw [HG.out, ← HR.out, HS.out, HOK.out]; rfl
          · go_ret
            refine ⟨?_, hb1⟩
            have hm : r.k ≤ prev := by assumption
            rw [HG.out, ← HR.out, HS.out, HOK.out, decide_eq_false (by omega : ¬ k = 0), decide_eq_false (by omega : ¬ prev < r.k)]; rfl
          · have hm : prev < r.k := by assumption
            go_roundw
            case rel => exact ⟨k + 1, r.k, by omega, by go_num, ⟨⟨_, hbV.trans (q1.below.mono hbV.size)⟩, rfl⟩, by have h1 := HR.out; rw [HS.out, HOK.out, decide_eq_true hm, Bool.or_true] at h1; exact h1, HN⟩
            case measure => simp [intOf]; omega
    · have hK : traysOk x.t = true := by
        have h1 := HR.out
        rw [List.drop_eq_nil_of_le (by omega)] at h1; exact h1.symm
      have HALL := Lib.hid (traysFrom_all _ _ _ hK)
      have HK := Lib.hid hK; clear hK
      have hq1 := p1 q
      clear hrt
      go_wp2
      go_loopw [89] (fun i wr => ∃ (k : Nat) (prev : Option Outing), k ≤ x.o.length ∧ i = .int .i64 k ∧ (∃ q : Since w.heap.size w, wr = q.val) ∧ Hid (outsFrom x.t prev (x.o.drop k) = outsOk x.t x.o) ∧ Hid ((k = 0 → prev = none) ∧ ∀ (_hk : 0 < k) (h' : k - 1 < x.o.length), prev = some x.o[k - 1] ∧ x.o[k - 1].ok x.t = true)) (fun i _ => x.o.length - (intOf i).toNat)
      case atStart => exact ⟨0, none, Nat.zero_le _, rfl, ⟨q, rfl⟩, rfl, fun _ => rfl, fun h => absurd h (by omega)⟩
      case round =>
        clear hlt HR HP hq1
        obtain ⟨k, prev, hk, rfl, ⟨q, rfl⟩, HR, HP⟩ := hrel
        by_cases hlt : k < x.o.length
        · obtain ⟨b, off, rfl, hb, hcell⟩ := hro (by omega)
          obtain ⟨e0, e1, e2⟩ := hcell k hlt
          have HS := Lib.hid (outs_step (ts := x.t) (p := prev) hlt)
          obtain ⟨r, hre⟩ : ∃ r, r = x.o[k] := ⟨_, rfl⟩
          have HN : Hid (r.ok x.t = true → (k + 1 = 0 → some r = none) ∧ ∀ (_hk : 0 < k + 1) (h' : k + 1 - 1 < x.o.length), some r = some x.o[k + 1 - 1] ∧ x.o[k + 1 - 1].ok x.t = true) := fun ho => ⟨fun h => by omega, fun _ h' => ⟨by rw [hre]; rfl, by rw [hre] at ho; exact ho⟩⟩
          have HC : Hid (∀ _ : 0 < k, ∃ u : Outing, prev = some u ∧ u.ok x.t = true ∧ OutingS w.heap.size w b (off + (k - 1) * 3) u) := fun h => ⟨x.o[k - 1], (HP.out.2 h (by omega)).1, (HP.out.2 h (by omega)).2, hcell (k - 1) (by omega)⟩
          rw [← hre] at e0 e1 e2 HS
          clear hre hcell hro
          go_wp2
          have hbV := q.below.alloc q.size (.cells #[.int .i64 r.k, .int .i64 r.p, .int .i64 r.c] 99)
          have hlV := Lies.new q.val 99 #[.int .i64 r.k, .int .i64 r.p, .int .i64 r.c]
          generalize q.val.alloc (.cells #[.int .i64 r.k, .int .i64 r.p, .int .i64 r.c] 99) = V at hbV hlV ⊢
          generalize q.val.heap.size = gv at hlV ⊢
          obtain ⟨d0, d1, d2⟩ := OutingS.of (r := r) hlV
          have up : ∀ {a : Addr} {u : Value}, (∀ p : Since w.heap.size w, p.val.cell? a = some u) → ∀ p : Since V.heap.size V, p.val.cell? a = some u := fun h p => h ⟨p.val, hbV.trans (p.below.mono hbV.size)⟩
          have z1 := up p1
          have hAV : ∀ p : Since V.heap.size V, OffAt p.val p.val.heap.size g x := fun p => h.at ⟨p.val, hbV.trans (p.below.mono hbV.size)⟩
          have HOK : Hid (r.ok x.t = (hasTray x.t r.k && inR r.p 1 999 && inR r.c 1 9999)) := rfl
          clear e0 e1 e2
          obtain ⟨X, hX⟩ : ∃ X, trayIx x.t r.k = X := ⟨_, rfl⟩
          have HX : Hid (Value.int .i64 (trayIx x.t r.k) = .int .i64 X) := by rw [hX]; rfl
          have HH : Hid (hasTray x.t r.k = decide (0 ≤ X)) := by rw [← hX]; exact (trayIx_has _ _).symm
          obtain ⟨v2, hv2⟩ : ∃ v, inR r.p 1 999 = v := ⟨_, rfl⟩
          obtain ⟨v3, hv3⟩ : ∃ v, inR r.c 1 9999 = v := ⟨_, rfl⟩
          rw [hv2, hv3] at HOK
          have HV2 := Lib.hid hv2; clear hv2
          have HV3 := Lib.hid hv3; clear hv3
          clear hX
          by_cases hX0 : 0 ≤ X
          · have hd0 : decide (X < 0) = false := decide_eq_false (by omega)
            have HXT : Hid (decide (0 ≤ X) = true) := decide_eq_true hX0
            cases v2
            · rcases Nat.eq_zero_or_pos k with h0 | h0
              · have hd : decide (0 < k) = false := decide_eq_false (by omega)
                clear h0
                refine wp_region_since0 (by kernel_rfl) (by kernel_rfl) ?_
                repeat (any_goals (first | go_big_quiet_step ((first | (go_at_call 62; with_reducible refine calls_sinceE HX (Nat.le_refl _) (trayAt_any x g r.k _ (hAV _))) | (go_at_call 63; with_reducible refine calls_sameB HV2 (isPerson_any r.p _)))) | (refine wpQuiet_step (fun K hK => ?_); go_simp; split <;> (refine hK _ ?_; clear hK K))))
                all_goals (refine wpQuiet_nil ?_; rintro _ ⟨q1, rfl⟩)
                all_goals have hb1 := hbV.trans (q1.below.mono hbV.size)
                all_goals go_wp2
                go_ret
                refine ⟨?_, hb1⟩
                rw [HG.out, HK.out, ← HR.out, HS.out, HOK.out, Bool.and_false]; rfl
              · have h0' : (0 : Int) < (k : Int) := by omega
                refine wp_region_since0 (by kernel_rfl) (by kernel_rfl) ?_
                repeat (any_goals (first | go_big_quiet_step ((first | (go_at_call 62; with_reducible refine calls_sinceE HX (Nat.le_refl _) (trayAt_any x g r.k _ (hAV _))) | (go_at_call 63; with_reducible refine calls_sameB HV2 (isPerson_any r.p _)))) | (refine wpQuiet_step (fun K hK => ?_); go_simp; split <;> (refine hK _ ?_; clear hK K))))
                all_goals (refine wpQuiet_nil ?_; rintro _ ⟨q1, rfl⟩)
                all_goals have hb1 := hbV.trans (q1.below.mono hbV.size)
                all_goals go_wp2
                go_ret
                refine ⟨?_, hb1⟩
                rw [HG.out, HK.out, ← HR.out, HS.out, HOK.out, Bool.and_false]; rfl
            · cases v3
              · rcases Nat.eq_zero_or_pos k with h0 | h0
                · have hd : decide (0 < k) = false := decide_eq_false (by omega)
                  clear h0
                  refine wp_region_since0 (by kernel_rfl) (by kernel_rfl) ?_
                  repeat (any_goals (first | go_big_quiet_step ((first | (go_at_call 62; with_reducible refine calls_sinceE HX (Nat.le_refl _) (trayAt_any x g r.k _ (hAV _))) | (go_at_call 63; with_reducible refine calls_sameB HV2 (isPerson_any r.p _)) | (go_at_call 51; with_reducible refine calls_sameB HV3 (inRange_any r.c 1 9999 _)))) | (refine wpQuiet_step (fun K hK => ?_); go_simp; split <;> (refine hK _ ?_; clear hK K))))
                  all_goals (refine wpQuiet_nil ?_; rintro _ ⟨q1, rfl⟩)
                  all_goals have hb1 := hbV.trans (q1.below.mono hbV.size)
                  all_goals go_wp2
                  go_ret
                  refine ⟨?_, hb1⟩
                  rw [HG.out, HK.out, ← HR.out, HS.out, HOK.out, Bool.and_false]; rfl
                · have h0' : (0 : Int) < (k : Int) := by omega
                  refine wp_region_since0 (by kernel_rfl) (by kernel_rfl) ?_
                  repeat (any_goals (first | go_big_quiet_step ((first | (go_at_call 62; with_reducible refine calls_sinceE HX (Nat.le_refl _) (trayAt_any x g r.k _ (hAV _))) | (go_at_call 63; with_reducible refine calls_sameB HV2 (isPerson_any r.p _)) | (go_at_call 51; with_reducible refine calls_sameB HV3 (inRange_any r.c 1 9999 _)))) | (refine wpQuiet_step (fun K hK => ?_); go_simp; split <;> (refine hK _ ?_; clear hK K))))
                  all_goals (refine wpQuiet_nil ?_; rintro _ ⟨q1, rfl⟩)
                  all_goals have hb1 := hbV.trans (q1.below.mono hbV.size)
                  all_goals go_wp2
                  go_ret
                  refine ⟨?_, hb1⟩
                  rw [HG.out, HK.out, ← HR.out, HS.out, HOK.out, Bool.and_false]; rfl
              · have HRO : Hid (r.ok x.t = true) := by unfold Hid; rw [HOK.out, HH.out, HXT.out]; rfl
                rcases Nat.eq_zero_or_pos k with h0 | h0
                · have hd : decide (0 < k) = false := decide_eq_false (by omega)
                  have HP0 : Hid (prev = none) := HP.out.1 h0
                  clear h0
                  refine wp_region_since0 (by kernel_rfl) (by kernel_rfl) ?_
                  repeat (any_goals (first | go_big_quiet_step ((first | (go_at_call 62; with_reducible refine calls_sinceE HX (Nat.le_refl _) (trayAt_any x g r.k _ (hAV _))) | (go_at_call 63; with_reducible refine calls_sameB HV2 (isPerson_any r.p _)) | (go_at_call 51; with_reducible refine calls_sameB HV3 (inRange_any r.c 1 9999 _)))) | (refine wpQuiet_step (fun K hK => ?_); go_simp; split <;> (refine hK _ ?_; clear hK K))))
                  all_goals (refine wpQuiet_nil ?_; rintro _ ⟨q1, rfl⟩)
                  all_goals have hb1 := hbV.trans (q1.below.mono hbV.size)
                  all_goals go_wp2
                  go_roundw
                  case rel => exact ⟨k + 1, some r, by omega, by go_num, ⟨⟨_, hb1⟩, rfl⟩, by have h1 := HR.out; rw [HS.out, HRO.out, HP0.out] at h1; exact h1, HN.out HRO.out⟩
                  case measure => simp [intOf]; omega
                · have h0' : (0 : Int) < (k : Int) := by omega
                  obtain ⟨u, hpu, huo, ⟨t0, t1, t2⟩⟩ := HC.out h0
                  have t0 := up t0
                  have t1 := up t1
                  have t2 := up t2
                  subst hpu
                  have HS2 : Hid (outsFrom x.t (some u) (x.o.drop k) = (r.ok x.t && before u r && outsFrom x.t (some r) (x.o.drop (k + 1)))) := HS.out
                  obtain ⟨C, hC⟩ : ∃ C, cmpO u r = C := ⟨_, rfl⟩
                  have HCM : Hid (Value.int .i64 (cmpO u r) = .int .i64 C) := by rw [hC]; rfl
                  have HB : Hid (decide (0 ≤ C) = !(before u r)) := by rw [← hC]; exact cmpO_before u r
                  clear hC huo up
                  refine wp_region_since0 (by kernel_rfl) (by kernel_rfl) ?_
                  repeat (any_goals (first | go_big_quiet_step ((first | (go_at_call 62; with_reducible refine calls_sinceE HX (Nat.le_refl _) (trayAt_any x g r.k _ (hAV _))) | (go_at_call 63; with_reducible refine calls_sameB HV2 (isPerson_any r.p _)) | (go_at_call 51; with_reducible refine calls_sameB HV3 (inRange_any r.c 1 9999 _)) | (go_at_call 64; with_reducible refine calls_sinceE HCM (Nat.le_refl _) (compareOutings_any u r _)))) | (refine wpQuiet_step (fun K hK => ?_); go_simp; split <;> (refine hK _ ?_; clear hK K))))
                  all_goals (refine wpQuiet_nil ?_; rintro _ ⟨q1, rfl⟩)
                  all_goals have hb1 := hbV.trans (q1.below.mono hbV.size)
                  all_goals go_wp2
                  · go_ret
                    refine ⟨?_, hb1⟩
                    have hm : 0 ≤ C := by assumption
                    have hb0 := HB.out
                    rw [decide_eq_true hm] at hb0
                    have hbf : before u r = false := by
                      cases hbb : before u r with
                      | false => rfl
                      | true => rw [hbb] at hb0; cases hb0
                    rw [HG.out, HK.out, ← HR.out, HS2.out, HRO.out, hbf]; rfl
                  · have hm : C < 0 := by assumption
                    have hb0 := HB.out
                    rw [decide_eq_false (by omega)] at hb0
                    have hbt : before u r = true := by
                      cases hbb : before u r with
                      | true => rfl
                      | false => rw [hbb] at hb0; cases hb0
                    have hbf := Lib.hid hbt
                    clear hbt
                    clear hb0
                    go_roundw
                    case rel => exact ⟨k + 1, some r, by omega, by go_num, ⟨⟨_, hb1⟩, rfl⟩, by have h1 := HR.out; rw [HS2.out, HRO.out, hbf.out] at h1; exact h1, HN.out HRO.out⟩
                    case measure => simp [intOf]; omega
          · have hd0 : decide (X < 0) = true := decide_eq_true (by omega)
            have HXT : Hid (decide (0 ≤ X) = false) := decide_eq_false hX0
            rcases Nat.eq_zero_or_pos k with h0 | h0
            · have hd : decide (0 < k) = false := decide_eq_false (by omega)
              clear h0
              refine wp_region_since0 (by kernel_rfl) (by kernel_rfl) ?_
              repeat (any_goals (first | go_big_quiet_step ((go_at_call 62; with_reducible refine calls_sinceE HX (Nat.le_refl _) (trayAt_any x g r.k _ (hAV _)))) | (refine wpQuiet_step (fun K hK => ?_); go_simp; split <;> (refine hK _ ?_; clear hK K))))
              all_goals (refine wpQuiet_nil ?_; rintro _ ⟨q1, rfl⟩)
              all_goals have hb1 := hbV.trans (q1.below.mono hbV.size)
              all_goals go_wp2
              go_ret
              refine ⟨?_, hb1⟩
              rw [HG.out, HK.out, ← HR.out, HS.out, HOK.out, HH.out, HXT.out]; rfl
            · have h0' : (0 : Int) < (k : Int) := by omega
              refine wp_region_since0 (by kernel_rfl) (by kernel_rfl) ?_
              repeat (any_goals (first | go_big_quiet_step ((go_at_call 62; with_reducible refine calls_sinceE HX (Nat.le_refl _) (trayAt_any x g r.k _ (hAV _)))) | (refine wpQuiet_step (fun K hK => ?_); go_simp; split <;> (refine hK _ ?_; clear hK K))))
              all_goals (refine wpQuiet_nil ?_; rintro _ ⟨q1, rfl⟩)
              all_goals have hb1 := hbV.trans (q1.below.mono hbV.size)
              all_goals go_wp2
              go_ret
              refine ⟨?_, hb1⟩
              rw [HG.out, HK.out, ← HR.out, HS.out, HOK.out, HH.out, HXT.out]; rfl
        · have hKO : outsOk x.t x.o = true := by
            have h1 := HR.out
            rw [List.drop_eq_nil_of_le (by omega)] at h1; exact h1.symm
          have HOLL := Lib.hid (outsFrom_all _ _ _ hKO)
          have HKO := Lib.hid hKO; clear hKO
          have hi := inFrom_bd x.t 0 HALL.out
          have hj := outFrom_bd every x.t x.o 0 HOLL.out
          have HSM : Hid (sumOk x = decide (x.got = inSum x.t + outSum every x.o + x.sold + x.missed)) := rfl
          change 0 ≤ inSum x.t ∧ inSum x.t ≤ _ at hi
          change 0 ≤ outSum every x.o ∧ outSum every x.o ≤ _ at hj
          obtain ⟨I, hI⟩ : ∃ I, inSum x.t = I := ⟨_, rfl⟩
          obtain ⟨J, hJ⟩ : ∃ J, outSum every x.o = J := ⟨_, rfl⟩
          rw [hI] at hi HSM
          rw [hJ] at hj HSM
          have HI : Hid (Value.int .i64 (inSum x.t) = .int .i64 I) := by rw [hI]; rfl
          have HJ : Hid (Value.int .i64 (outSum every x.o) = .int .i64 J) := by rw [hJ]; rfl
          clear hI hJ
          obtain ⟨i1, i2⟩ := hi
          obtain ⟨j1, j2⟩ := hj
          have w1 : IntKind.i64.wrap (I + J) = I + J := IntWalk.i64_in _ (by omega)
          have w2 : IntKind.i64.wrap (I + J + x.sold) = I + J + x.sold := IntWalk.i64_in _ (by omega)
          have w3 : IntKind.i64.wrap (I + J + x.sold + x.missed) = I + J + x.sold + x.missed := IntWalk.i64_in _ (by omega)
          obtain ⟨z, hz⟩ : ∃ z, decide (x.got = I + J + x.sold + x.missed) = z := ⟨_, rfl⟩
          have hzz : (x.got == I + J + x.sold + x.missed) = z := by rw [← hz, Bool.eq_iff_iff]; simp
          have HZ := Lib.hid hz; clear hz
          have hAQ : ∀ p : Since w.heap.size w, OffAt p.val p.val.heap.size g x := fun p => h.at p
          clear hro HR HP
          go_wp2
          refine wp_region_since _ (by kernel_rfl) (by kernel_rfl) ?_
          repeat (any_goals (first | go_big_quiet_step ((first | (go_at_call 65; with_reducible refine calls_sinceE HI (Nat.le_refl _) (stampsIn_any x g _ (hAQ _) tl HALL.out)) | (go_at_call 66; with_reducible refine calls_sinceE HJ (Nat.le_refl _) (stampsOut_any every 67 #[] Tryd.call67 x g _ (fun o p => every1_all o p.val) (hAQ _) ol HOLL.out)))) | (refine wpQuiet_step (fun K hK => ?_); go_simp; split <;> (refine hK _ ?_; clear hK K))))
          all_goals (refine wpQuiet_nil ?_; rintro _ ⟨q1, rfl⟩)
          go_wp2
          go_ret
          refine ⟨?_, q1.below⟩
          rw [HG.out, HK.out, HKO.out, HSM.out, HZ.out]; rfl
end Go.Proofs.YtojceibamgodbaaDoor
