/- Validity of an office, in the reference: all outings. -/
import Derived.Test.YtojceibamgodbaaDoorOffSpec2
namespace Go.Proofs.YtojceibamgodbaaDoor
open Go.RowKit

set_option maxHeartbeats 2000000 in
theorem l32Outs_any (x : Off) (w : World) (h : OffR w w.heap.size x) (hall : ∀ i (hi : i < x.t.length), x.t[i].ok = true) :
    Calls Tryd.prog 87 #[x.val] w fun e w' => e = .returned (.bool (outsOk x.t x.o && decide (x.o.length ≤ 8))) ∧ Below w.heap.size w w' := by
  have hl := h.os.big
  have HALL := Lib.hid hall; clear hall
  go_enter Tryd.func87, Tryd.ntmps87
  go_wp2
  have hb0 := (Below.refl w.heap.size w).alloc (Nat.le_refl _) (.cells #[.slice x.TA x.t.length x.tc, .slice x.OA x.o.length x.oc, .int .i64 x.got, .int .i64 x.sold, .int .i64 x.missed] 35)
  have hS := OffS.of (x := x) (Lies.new w 35 #[.slice x.TA x.t.length x.tc, .slice x.OA x.o.length x.oc, .int .i64 x.got, .int .i64 x.sold, .int .i64 x.missed])
  have hR := h.up hb0 (Nat.le_refl _)
  generalize w.alloc (.cells #[.slice x.TA x.t.length x.tc, .slice x.OA x.o.length x.oc, .int .i64 x.got, .int .i64 x.sold, .int .i64 x.missed] 35) = W at hb0 hS hR ⊢
  have hrd := hR.os.el
  go_loopw [3] (fun i wr => ∃ (k : Nat) (prev : Option Outing), k ≤ x.o.length ∧ i = .int .i64 k ∧ (∃ q : Since W.heap.size W, wr = q.val) ∧ Hid (outsFrom x.t prev (x.o.drop k) = outsOk x.t x.o) ∧ Hid ((k = 0 → prev = none) ∧ ∀ (_hk : 0 < k) (h' : k - 1 < x.o.length), prev = some x.o[k - 1] ∧ x.o[k - 1].ok x.t = true)) (fun i _ => x.o.length - (intOf i).toNat)
  case atStart => exact ⟨0, none, Nat.zero_le _, rfl, ⟨Since.start _ _, rfl⟩, rfl, fun _ => rfl, fun h => absurd h (by omega)⟩
  case round =>
    obtain ⟨k, prev, hk, rfl, ⟨q, rfl⟩, HR, HP⟩ := hrel
    obtain ⟨s0, s1, s2, s3, s4⟩ := hS
    by_cases hlt : k < x.o.length
    · obtain ⟨b, off, hA, hb, hcell⟩ := hrd (by omega)
      obtain ⟨e0, e1, e2⟩ := hcell k hlt
      have HS := Lib.hid (outs_step (ts := x.t) (p := prev) hlt)
      obtain ⟨r, hre⟩ : ∃ r, r = x.o[k] := ⟨_, rfl⟩
      have HN : Hid (r.ok x.t = true → (k + 1 = 0 → some r = none) ∧ ∀ (_hk : 0 < k + 1) (h' : k + 1 - 1 < x.o.length), some r = some x.o[k + 1 - 1] ∧ x.o[k + 1 - 1].ok x.t = true) := fun ho => ⟨fun h => by omega, fun _ h' => ⟨by rw [hre]; rfl, by rw [hre] at ho; exact ho⟩⟩
      have HC : Hid (∀ _ : 0 < k, ∃ u : Outing, prev = some u ∧ u.ok x.t = true ∧ OutingS W.heap.size W b (off + (k - 1) * 3) u) := fun h => ⟨x.o[k - 1], (HP.out.2 h (by omega)).1, (HP.out.2 h (by omega)).2, hcell (k - 1) (by omega)⟩
      rw [← hre] at e0 e1 e2 HS
      simp only [hA] at s1
      clear hre hcell hrd
      go_wp2
      have hbV := q.below.alloc q.size (.cells #[.int .i64 r.k, .int .i64 r.p, .int .i64 r.c] 99)
      have hlV := Lies.new q.val 99 #[.int .i64 r.k, .int .i64 r.p, .int .i64 r.c]
      generalize q.val.alloc (.cells #[.int .i64 r.k, .int .i64 r.p, .int .i64 r.c] 99) = V at hbV hlV ⊢
      generalize q.val.heap.size = gv at hlV ⊢
      obtain ⟨d0, d1, d2⟩ := OutingS.of (r := r) hlV
      have up : ∀ {a : Addr} {u : Value}, (∀ p : Since W.heap.size W, p.val.cell? a = some u) → ∀ p : Since V.heap.size V, p.val.cell? a = some u := fun h p => h ⟨p.val, hbV.trans (p.below.mono hbV.size)⟩
      have s0 := up s0
      have s1 := up s1
      have s2 := up s2
      have s3 := up s3
      have s4 := up s4
      have hxe : ({ x with OA := some ⟨b, off, none⟩ } : Off) = x := by rw [← hA]
      have hRV : ∀ p : Since V.heap.size V, OffR p.val p.val.heap.size { x with OA := some ⟨b, off, none⟩ } := fun p => by rw [hxe]; exact hR.at ⟨p.val, hbV.trans (p.below.mono hbV.size)⟩
      clear hxe hA
      have HOK : Hid (r.ok x.t = (hasTray x.t r.k && inR r.p 1 999 && inR r.c 1 9999)) := rfl
      clear e0 e1 e2
      obtain ⟨X, hX⟩ : ∃ X, trayIx x.t r.k = X := ⟨_, rfl⟩
      have HX : Hid (Value.int .i64 (trayIx x.t r.k) = .int .i64 X) := by rw [hX]; rfl
      have HH : Hid (hasTray x.t r.k = decide (0 ≤ X)) := by rw [← hX]; exact (trayIx_has _ _).symm
      obtain ⟨v2, hv2⟩ : ∃ v, inR r.p 1 999 = v := ⟨_, rfl⟩
      obtain ⟨v3, hv3⟩ : ∃ v, inR r.c 1 9999 = v := ⟨_, rfl⟩
      rw [hv2, hv3] at HOK
      have HV2 := Lib.hid hv2; clear hv2
      have HV3 := Lib.hid hv3; clear hv3
      clear hX
      by_cases hX0 : 0 ≤ X
      · have hd0 : decide (X < 0) = false := decide_eq_false (by omega)
        have HXT : Hid (decide (0 ≤ X) = true) := decide_eq_true hX0
        cases v2
        · rcases Nat.eq_zero_or_pos k with h0 | h0
          · have hd : decide (0 < k) = false := decide_eq_false (by omega)
            clear h0
            refine wp_region_since0 (by kernel_rfl) (by kernel_rfl) ?_
            repeat (any_goals (first | go_big_quiet_step ((first | (go_at_call 107; with_reducible refine calls_sinceE HX (Nat.le_refl _) (l32Tray_any { x with OA := some ⟨b, off, none⟩ } r.k _ (hRV _))) | (go_at_call 52; with_reducible refine calls_sameB HV2 (l1In_any r.p 1 999 _)))) | (refine wpQuiet_step (fun K hK => ?_); go_simp; split <;> (refine hK _ ?_; clear hK K))))
            all_goals (refine wpQuiet_nil ?_; rintro _ ⟨q1, rfl⟩)
            all_goals have hb1 := hb0.trans ((hbV.trans (q1.below.mono hbV.size)).mono hb0.size)
            all_goals go_wp2
            go_ret
            refine ⟨?_, hb1⟩
            rw [← HR.out, HS.out, HOK.out, Bool.and_false]; rfl
          · have h0' : (0 : Int) < (k : Int) := by omega
            refine wp_region_since0 (by kernel_rfl) (by kernel_rfl) ?_
            repeat (any_goals (first | go_big_quiet_step ((first | (go_at_call 107; with_reducible refine calls_sinceE HX (Nat.le_refl _) (l32Tray_any { x with OA := some ⟨b, off, none⟩ } r.k _ (hRV _))) | (go_at_call 52; with_reducible refine calls_sameB HV2 (l1In_any r.p 1 999 _)))) | (refine wpQuiet_step (fun K hK => ?_); go_simp; split <;> (refine hK _ ?_; clear hK K))))
            all_goals (refine wpQuiet_nil ?_; rintro _ ⟨q1, rfl⟩)
            all_goals have hb1 := hb0.trans ((hbV.trans (q1.below.mono hbV.size)).mono hb0.size)
            all_goals go_wp2
            go_ret
            refine ⟨?_, hb1⟩
            rw [← HR.out, HS.out, HOK.out, Bool.and_false]; rfl
        · cases v3
          · rcases Nat.eq_zero_or_pos k with h0 | h0
            · have hd : decide (0 < k) = false := decide_eq_false (by omega)
              clear h0
              refine wp_region_since0 (by kernel_rfl) (by kernel_rfl) ?_
              repeat (any_goals (first | go_big_quiet_step ((first | (go_at_call 107; with_reducible refine calls_sinceE HX (Nat.le_refl _) (l32Tray_any { x with OA := some ⟨b, off, none⟩ } r.k _ (hRV _))) | (go_at_call 52; with_reducible refine calls_sameB HV2 (l1In_any r.p 1 999 _)) | (go_at_call 52; with_reducible refine calls_sameB HV3 (l1In_any r.c 1 9999 _)))) | (refine wpQuiet_step (fun K hK => ?_); go_simp; split <;> (refine hK _ ?_; clear hK K))))
              all_goals (refine wpQuiet_nil ?_; rintro _ ⟨q1, rfl⟩)
              all_goals have hb1 := hb0.trans ((hbV.trans (q1.below.mono hbV.size)).mono hb0.size)
              all_goals go_wp2
              go_ret
              refine ⟨?_, hb1⟩
              rw [← HR.out, HS.out, HOK.out, Bool.and_false]; rfl
            · have h0' : (0 : Int) < (k : Int) := by omega
              refine wp_region_since0 (by kernel_rfl) (by kernel_rfl) ?_
              repeat (any_goals (first | go_big_quiet_step ((first | (go_at_call 107; with_reducible refine calls_sinceE HX (Nat.le_refl _) (l32Tray_any { x with OA := some ⟨b, off, none⟩ } r.k _ (hRV _))) | (go_at_call 52; with_reducible refine calls_sameB HV2 (l1In_any r.p 1 999 _)) | (go_at_call 52; with_reducible refine calls_sameB HV3 (l1In_any r.c 1 9999 _)))) | (refine wpQuiet_step (fun K hK => ?_); go_simp; split <;> (refine hK _ ?_; clear hK K))))
              all_goals (refine wpQuiet_nil ?_; rintro _ ⟨q1, rfl⟩)
              all_goals have hb1 := hb0.trans ((hbV.trans (q1.below.mono hbV.size)).mono hb0.size)
              all_goals go_wp2
              go_ret
              refine ⟨?_, hb1⟩
              rw [← HR.out, HS.out, HOK.out, Bool.and_false]; rfl
          · have HRO : Hid (r.ok x.t = true) := by unfold Hid; rw [HOK.out, HH.out, HXT.out]; rfl
            rcases Nat.eq_zero_or_pos k with h0 | h0
            · have hd : decide (0 < k) = false := decide_eq_false (by omega)
              have HP0 : Hid (prev = none) := HP.out.1 h0
              clear h0
              refine wp_region_since0 (by kernel_rfl) (by kernel_rfl) ?_
              repeat (any_goals (first | go_big_quiet_step ((first | (go_at_call 107; with_reducible refine calls_sinceE HX (Nat.le_refl _) (l32Tray_any { x with OA := some ⟨b, off, none⟩ } r.k _ (hRV _))) | (go_at_call 52; with_reducible refine calls_sameB HV2 (l1In_any r.p 1 999 _)) | (go_at_call 52; with_reducible refine calls_sameB HV3 (l1In_any r.c 1 9999 _)))) | (refine wpQuiet_step (fun K hK => ?_); go_simp; split <;> (refine hK _ ?_; clear hK K))))
              all_goals (refine wpQuiet_nil ?_; rintro _ ⟨q1, rfl⟩)
              all_goals have hb1 := hb0.trans ((hbV.trans (q1.below.mono hbV.size)).mono hb0.size)
              all_goals go_wp2
              go_roundw
              case rel => exact ⟨k + 1, some r, by omega, by go_num, ⟨⟨_, hbV.trans (q1.below.mono hbV.size)⟩, rfl⟩, by have h1 := HR.out; rw [HS.out, HRO.out, HP0.out] at h1; exact h1, HN.out HRO.out⟩
              case measure => simp [intOf]; omega
            · have h0' : (0 : Int) < (k : Int) := by omega
              obtain ⟨u, hpu, huo, ⟨t0, t1, t2⟩⟩ := HC.out h0
              have t0 := up t0
              have t1 := up t1
              have t2 := up t2
              subst hpu
              have HS2 : Hid (outsFrom x.t (some u) (x.o.drop k) = (r.ok x.t && before u r && outsFrom x.t (some r) (x.o.drop (k + 1)))) := HS.out
              obtain ⟨hh1, hp1, _⟩ := Outing.bounds huo
              obtain ⟨hh2, hp2, _⟩ := Outing.bounds HRO.out
              have HKU := Lib.hid (And.intro (hasTray_bounds HALL.out hh1) hp1)
              have HKR := Lib.hid (And.intro (hasTray_bounds HALL.out hh2) hp2)
              have HB : Hid (before u r = decide (1000 * u.k + u.p < 1000 * r.k + r.p)) := before_key hp1 hp2
              clear huo hh1 hp1 hh2 hp2 up
              obtain ⟨K1, hK1⟩ : ∃ K, 1000 * u.k + u.p = K := ⟨_, rfl⟩
              obtain ⟨K2, hK2⟩ : ∃ K, 1000 * r.k + r.p = K := ⟨_, rfl⟩
              rw [hK1, hK2] at HB
              have HK1 : Hid (Value.int .i64 (1000 * u.k + u.p) = .int .i64 K1) := by rw [hK1]; rfl
              have HK2 : Hid (Value.int .i64 (1000 * r.k + r.p) = .int .i64 K2) := by rw [hK2]; rfl
              clear hK1 hK2
              refine wp_region_since0 (by kernel_rfl) (by kernel_rfl) ?_
              repeat (any_goals (first | go_big_quiet_step ((first | (go_at_call 107; with_reducible refine calls_sinceE HX (Nat.le_refl _) (l32Tray_any { x with OA := some ⟨b, off, none⟩ } r.k _ (hRV _))) | (go_at_call 52; with_reducible refine calls_sameB HV2 (l1In_any r.p 1 999 _)) | (go_at_call 52; with_reducible refine calls_sameB HV3 (l1In_any r.c 1 9999 _)) | (go_at_call 108; with_reducible refine calls_sinceE HK1 (Nat.le_refl _) (l32Key_any u _ HKU.out.1 HKU.out.2)) | (go_at_call 108; with_reducible refine calls_sinceE HK2 (Nat.le_refl _) (l32Key_any r _ HKR.out.1 HKR.out.2)))) | (refine wpQuiet_step (fun K hK => ?_); go_simp; split <;> (refine hK _ ?_; clear hK K))))
              all_goals (refine wpQuiet_nil ?_; rintro _ ⟨q1, rfl⟩)
              all_goals have hb1 := hb0.trans ((hbV.trans (q1.below.mono hbV.size)).mono hb0.size)
              all_goals go_wp2
              · go_ret
                refine ⟨?_, hb1⟩
                have hm : K2 ≤ K1 := by assumption
                rw [← HR.out, HS2.out, HRO.out, HB.out, decide_eq_false (by omega)]; rfl
              · have hm : K1 < K2 := by assumption
                go_roundw
                case rel => exact ⟨k + 1, some r, by omega, by go_num, ⟨⟨_, hbV.trans (q1.below.mono hbV.size)⟩, rfl⟩, by have h1 := HR.out; rw [HS2.out, HRO.out, HB.out, decide_eq_true hm] at h1; exact h1, HN.out HRO.out⟩
                case measure => simp [intOf]; omega
      · have hd0 : decide (X < 0) = true := decide_eq_true (by omega)
        have HXT : Hid (decide (0 ≤ X) = false) := decide_eq_false hX0
        rcases Nat.eq_zero_or_pos k with h0 | h0
        · have hd : decide (0 < k) = false := decide_eq_false (by omega)
          clear h0
          refine wp_region_since0 (by kernel_rfl) (by kernel_rfl) ?_
          repeat (any_goals (first | go_big_quiet_step ((go_at_call 107; with_reducible refine calls_sinceE HX (Nat.le_refl _) (l32Tray_any { x with OA := some ⟨b, off, none⟩ } r.k _ (hRV _)))) | (refine wpQuiet_step (fun K hK => ?_); go_simp; split <;> (refine hK _ ?_; clear hK K))))
          all_goals (refine wpQuiet_nil ?_; rintro _ ⟨q1, rfl⟩)
          all_goals have hb1 := hb0.trans ((hbV.trans (q1.below.mono hbV.size)).mono hb0.size)
          all_goals go_wp2
          go_ret
          refine ⟨?_, hb1⟩
          rw [← HR.out, HS.out, HOK.out, HH.out, HXT.out]; rfl
        · have h0' : (0 : Int) < (k : Int) := by omega
          refine wp_region_since0 (by kernel_rfl) (by kernel_rfl) ?_
          repeat (any_goals (first | go_big_quiet_step ((go_at_call 107; with_reducible refine calls_sinceE HX (Nat.le_refl _) (l32Tray_any { x with OA := some ⟨b, off, none⟩ } r.k _ (hRV _)))) | (refine wpQuiet_step (fun K hK => ?_); go_simp; split <;> (refine hK _ ?_; clear hK K))))
          all_goals (refine wpQuiet_nil ?_; rintro _ ⟨q1, rfl⟩)
          all_goals have hb1 := hb0.trans ((hbV.trans (q1.below.mono hbV.size)).mono hb0.size)
          all_goals go_wp2
          go_ret
          refine ⟨?_, hb1⟩
          rw [← HR.out, HS.out, HOK.out, HH.out, HXT.out]; rfl
    · have HK : Hid (outsOk x.t x.o = true) := by
        have h1 := HR.out
        rw [List.drop_eq_nil_of_le (by omega)] at h1; exact h1.symm
      clear hrd
      go_wp2
      go_ret
      refine ⟨?_, hb0.trans (q.below.mono hb0.size)⟩
      rw [HK.out, Bool.true_and]
      exact congrArg (fun b => Ending.returned (.bool b)) (decide_eq_decide.2 (by omega))
end Go.Proofs.YtojceibamgodbaaDoor
