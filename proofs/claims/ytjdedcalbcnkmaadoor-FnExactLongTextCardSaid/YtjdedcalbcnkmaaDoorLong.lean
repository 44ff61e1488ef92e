/- The long text of a phrase, in the reference. -/
import Derived.Test.YtjdedcalbcnkmaaDoorLongT
import Derived.Test.YtjdedcalbcnkmaaDoorFacts
namespace Go.Proofs.YtjdedcalbcnkmaaDoor
open Go.RowKit

set_option maxRecDepth 100000 in
set_option maxHeartbeats 20000000 in
theorem specLongText_any (x : Ph) (w : World) (h : IntsR w w.heap.size x.A x.f) :
    Calls Tryd.prog 13 #[x.val] w fun e w' => e = .returned (.tuple #[.string (okT x.ok (longT x)), .bool x.ok]) ∧ Below w.heap.size w w' := by
  have b1 := (Below.refl w.heap.size w).alloc (Nat.le_refl _) (.cells #[.int .i64 x.s, .int .i64 x.c, .slice x.A x.f.length x.cap, .int .i64 x.p] 28)
  have L0 := Lies.new w 28 #[.int .i64 x.s, .int .i64 x.c, .slice x.A x.f.length x.cap, .int .i64 x.p]
  have hR := SlcR.up h b1 (Nat.le_refl _)
  cases hok : x.ok
  · have HOK := Lib.hid hok; clear hok
    go_enter Tryd.func13, Tryd.ntmps13
    go_wp2_with fail
    generalize w.alloc (.cells #[.int .i64 x.s, .int .i64 x.c, .slice x.A x.f.length x.cap, .int .i64 x.p] 28) = W at b1 L0 hR ⊢
    refine (l30One_any x _ hR).mono ?_
    rw [HOK.out]
    rintro e w1 ⟨rfl, hb1⟩
    go_wp2
    go_ret2
    exact ⟨rfl, bthen b1 hb1⟩
  · obtain ⟨⟨s1, s2⟩, ⟨c1, c2⟩, hr, p1, p2⟩ := Ph.bounds hok
    have hnine := faults_nine hr
    have HRI : Hid (∀ i (hi : i < x.f.length), 1 ≤ x.f[i] ∧ x.f[i] ≤ 9) := fun i hi => by
      rw [rises_eq, Bool.and_eq_true, List.all_eq_true] at hr
      exact inR_iff.1 (hr.2 _ (List.getElem_mem hi))
    clear hr
    have HOK := Lib.hid hok; clear hok
    have hs : x.s = 1 ∨ x.s = 2 ∨ x.s = 3 := by omega
    obtain ⟨cv, hcv⟩ : ∃ s : ByteArray, s = ⟨(Lib.itoa x.c).toArray⟩ := ⟨_, rfl⟩
    have hcs : cv.size ≤ 100 := by rw [hcv]; exact itoa_len (by omega) (by omega)
    have NUMC : ∀ W : World, Calls Tryd.prog 35 #[.int .i64 x.c] W fun e w' => e = .returned (.string cv) ∧ Below W.heap.size W w' := by
      intro W; rw [hcv]; exact l1Num_any _ _ (by omega) (by omega)
    replace NUMC := Lib.hid NUMC
    have HCV : Hid (bl cv = Lib.itoa x.c) := by rw [hcv, Hid, bl_mk]
    clear hcv
    go_enter Tryd.func13, Tryd.ntmps13
    go_wp2_with fail
    generalize w.alloc (.cells #[.int .i64 x.s, .int .i64 x.c, .slice x.A x.f.length x.cap, .int .i64 x.p] 28) = W at b1 L0 hR ⊢
    generalize w.heap.size = g0 at L0 ⊢
    refine (l30One_any x _ hR).mono ?_
    rw [HOK.out]
    rintro e w1 ⟨rfl, hb1⟩
    have L1 := L0.below hb1 L0.lt
    have k0 := L1.cell 0
    have k1 := L1.cell 1
    have k2 := L1.cell 2
    have k3 := L1.cell 3
    simp only [List.getElem?_cons_zero, List.getElem?_cons_succ] at k0 k1 k2 k3
    go_wp2_with fail
    rename_i K aK
    have REST : ∀ (T : ByteArray) (u6 u9 u10 u11 u12 u13 u14 u15 u16 u17 u18 u19 : Value) (W' : World), T.size ≤ 120 → Hid (bl T = Lib.itoa x.c ++ [32] ++ longMark x.s) → Below w1.heap.size w1 W' → K { tmps := #[x.val, .pointer (some ⟨g0, 0, none⟩), .string ⟨#[]⟩, .bool false, .string T, undef, u6, .bool true, .bool false, u9, u10, u11, u12, u13, u14, u15, u16, u17, u18, u19, undef, undef, undef, undef, undef, undef, undef, undef, undef, undef, undef, undef, undef, undef, undef, undef, undef, undef, undef, undef, undef, undef, undef, undef, undef, undef, undef, undef, undef, undef, undef], defers := [] } W' := by
      intro T u6 u9 u10 u11 u12 u13 u14 u15 u16 u17 u18 u19 W' hT HT hbW
      apply aK
      have m2 := (hbW.cell L1.lt).trans k2
      have m3 := (hbW.cell L1.lt).trans k3
      clear k0 k1 k2 k3 aK
      have hb6 : Below w.heap.size w W' := bthen b1 (bthen hb1 hbW)
      have hRW := SlcR.then (SlcR.then hR hb1) hbW
      have n2 : ∀ p : Since W'.heap.size W', p.val.cell? ⟨g0, 2, none⟩ = some (.slice x.A x.f.length x.cap) := fun p => (p.cell (Nat.lt_of_lt_of_le L1.lt hbW.size)).trans m2
      have n3 : ∀ p : Since W'.heap.size W', p.val.cell? ⟨g0, 3, none⟩ = some (.int .i64 x.p) := fun p => (p.cell (Nat.lt_of_lt_of_le L1.lt hbW.size)).trans m3
      clear m2 m3 hs NUMC HCV
      go_wp2_with fail
      go_loopw [4, 5] (fun s i wr => ∃ (k : Nat) (T' : ByteArray), k ≤ x.f.length ∧ i = .int .i64 k ∧ s = .string T' ∧ T'.size ≤ 300 + 120 * k ∧ (∃ q : Since W'.heap.size W', wr = q.val) ∧ Hid (bl T' ++ longFau k (x.f.drop k) = bl T ++ longFau 0 x.f)) (fun _ i _ => x.f.length - (intOf i).toNat)
      case atStart => exact ⟨0, _, Nat.zero_le _, rfl, rfl, by omega, ⟨Since.start _ _, rfl⟩, rfl⟩
      case round =>
        obtain ⟨k, T', hk, rfl, rfl, hT', ⟨q, rfl⟩, HR⟩ := hrel
        by_cases hlt : k < x.f.length
        · obtain ⟨b, off, hA, hb, hcell⟩ := IntsR.ints hRW (by omega)
          have c0 := hcell k hlt
          obtain ⟨f1, f2⟩ := HRI.out k hlt
          have HS := Lib.hid (longFau_step hlt)
          obtain ⟨f, hfe⟩ : ∃ f, f = x.f[k] := ⟨_, rfl⟩
          rw [← hfe] at c0 f1 f2 HS
          simp only [hA] at n2
          clear hfe hcell hA
          obtain ⟨fv, hfv⟩ : ∃ s : ByteArray, s = ⟨(Lib.itoa f).toArray⟩ := ⟨_, rfl⟩
          have hfs : fv.size ≤ 100 := by rw [hfv]; exact itoa_len (by omega) (by omega)
          have NUMF : ∀ W : World, Calls Tryd.prog 35 #[.int .i64 f] W fun e w' => e = .returned (.string fv) ∧ Below W.heap.size W w' := by
            intro W; rw [hfv]; exact l1Num_any _ _ (by omega) (by omega)
          replace NUMF := Lib.hid NUMF
          have HFV : Hid (bl fv = Lib.itoa f) := by rw [hfv, Hid, bl_mk]
          clear hfv
          rcases Nat.eq_zero_or_pos k with h0 | h0
          · have hd1 : ((k : Int) == 0) = true := by simp [h0]
            have hd2 : decide ((k : Int) = 0) = true := decide_eq_true (by omega)
            have hd3 : decide (k = 0) = true := decide_eq_true h0
            have H0 := Lib.hid h0; clear h0
            go_wp2_with (go_at_call 35; refine (NUMF.out _).mono ?_; rintro e w4 ⟨rfl, hb4⟩)
            go_roundw
            case rel => exact ⟨k + 1, _, by omega, by go_num, rfl, by simp only [size_app]; (have e1 : (⟨#[44]⟩ : ByteArray).size = 1 := rfl); (have e2 : (⟨#[32, 119, 105, 116, 104, 32, 102, 97, 117, 108, 116, 115, 32]⟩ : ByteArray).size = 13 := rfl); omega, ⟨q.go (Nat.le_refl _) hb4, rfl⟩, by have h1 := HR.out; rw [HS.out, if_pos H0.out] at h1; rw [Hid, ← h1]; simp [bl_app, bl_lit, HFV.out, withF]⟩
            case measure => simp [intOf]; omega
          · have hd1 : ((k : Int) == 0) = false := by simp; omega
            have hd2 : decide ((k : Int) = 0) = false := decide_eq_false (by omega)
            have hd3 : decide (k = 0) = false := decide_eq_false (by omega)
            have h0' : ¬ k = 0 := by omega
            have H0 := Lib.hid h0'; clear h0'
            go_wp2_with (go_at_call 35; refine (NUMF.out _).mono ?_; rintro e w4 ⟨rfl, hb4⟩)
            go_roundw
            case rel => exact ⟨k + 1, _, by omega, by go_num, rfl, by simp only [size_app]; (have e1 : (⟨#[44]⟩ : ByteArray).size = 1 := rfl); (have e2 : (⟨#[32, 119, 105, 116, 104, 32, 102, 97, 117, 108, 116, 115, 32]⟩ : ByteArray).size = 13 := rfl); omega, ⟨q.go (Nat.le_refl _) hb4, rfl⟩, by have h1 := HR.out; rw [HS.out, if_neg H0.out] at h1; rw [Hid, ← h1]; simp [bl_app, bl_lit, HFV.out]⟩
            case measure => simp [intOf]; omega
        · have HE : Hid (bl T' = bl T ++ longFau 0 x.f) := by
            have h1 := HR.out; rw [List.drop_eq_nil_of_le (by omega), longFau, List.append_nil] at h1; exact h1
          by_cases hp : 0 < x.p
          · have HP : Hid (longPri x.p = [32, 97, 116, 32] ++ Lib.itoa x.p) := by unfold longPri Hid; rw [if_pos hp]
            obtain ⟨pv, hpv⟩ : ∃ s : ByteArray, s = ⟨(Lib.itoa x.p).toArray⟩ := ⟨_, rfl⟩
            have hps : pv.size ≤ 100 := by rw [hpv]; exact itoa_len (by omega) (by omega)
            have NUMP : ∀ W : World, Calls Tryd.prog 35 #[.int .i64 x.p] W fun e w' => e = .returned (.string pv) ∧ Below W.heap.size W w' := by
              intro W; rw [hpv]; exact l1Num_any _ _ (by omega) (by omega)
            replace NUMP := Lib.hid NUMP
            have HPV : Hid (bl pv = Lib.itoa x.p) := by rw [hpv, Hid, bl_mk]
            clear hpv
            go_wp2_with (go_at_call 35; refine (NUMP.out _).mono ?_; rintro e w3 ⟨rfl, hb3⟩)
            go_ret2
            have HF : T' ++ ⟨#[32, 97, 116, 32]⟩ ++ pv = (⟨(longT x).toArray⟩ : ByteArray) := bl_ext (by unfold longT; simp [bl_app, bl_lit, HE.out, HT.out, HP.out, HPV.out])
            have HF2 : okT true (longT x) = T' ++ ⟨#[32, 97, 116, 32]⟩ ++ pv := HF.symm
            rw [HF2]
            exact ⟨rfl, hb6.trans ((q.below.trans (hb3.mono q.size)).mono hb6.size)⟩
          · have HP : Hid (longPri x.p = []) := by unfold longPri Hid; rw [if_neg hp]
            go_wp2
            go_ret2
            have HF : T' = (⟨(longT x).toArray⟩ : ByteArray) := bl_ext (by unfold longT; simp [HE.out, HT.out, HP.out])
            have HF2 : okT true (longT x) = T' := HF.symm
            rw [HF2]
            exact ⟨rfl, hb6.trans (q.below.mono hb6.size)⟩
    have hg1 : g0 < w1.heap.size := L1.lt
    have hz1 : cv.size ≤ 9223372036854775806 := by omega
    have hz2 : cv.size ≤ 9223372036854775802 := by omega
    have hz3 : cv.size ≤ 9223372036854775800 := by omega
    rcases hs with hs | hs | hs
    · have HM : Hid (longMark x.s = [109, 105, 110, 116]) := by rw [hs]; rfl
      rw [hs] at k0
      have hsz : (cv ++ ⟨#[32]⟩ ++ ⟨#[109, 105, 110, 116]⟩ : ByteArray).size ≤ 120 := by simp only [size_app]; (have e1 : (⟨#[32]⟩ : ByteArray).size = 1 := rfl); (have e3 : (⟨#[109, 105, 110, 116]⟩ : ByteArray).size ≤ 6 := by decide); omega
      have K0 : ∀ W', Below w1.heap.size w1 W' → W'.cell? ⟨g0, 0, none⟩ = some (.int .i64 1) := fun W' hb => (hb.cell L1.lt).trans k0
      have K1 : ∀ W', Below w1.heap.size w1 W' → W'.cell? ⟨g0, 1, none⟩ = some (.int .i64 x.c) := fun W' hb => (hb.cell L1.lt).trans k1
      replace K0 := Lib.hid K0; replace K1 := Lib.hid K1
      clear k0 k1 k2 k3 hs
      refine wp_region_facts (fun W' => Below w1.heap.size w1 W') (fun W' W'' => Below W'.heap.size W' W'') (by kernel_rfl) (by kernel_rfl) (by kernel_rfl) (Below.refl _ _).drew ?_
      simp only [fillOps, Act.put, List.setIfInBounds_toArray, List.set_cons_zero, List.set_cons_succ, Nat.zero_add, Nat.reduceAdd]
      refine wpFacts_val (.pointer (some ⟨g0, 1, none⟩)) (fun vs w9 hC9 hB K9 hK9 => ?_) ?_
      · go_simp
        exact hK9 _ _ rfl hC9 (Below.refl _ _)
      refine wpFacts_val (.int .i64 x.c) (fun vs w9 hC9 hB K9 hK9 => ?_) ?_
      · have hd0 := hB 0 _ (by kernel_rfl) rfl
        simp only [hd0] at hK9 ⊢
        have kc := K1.out _ hC9
        go_simp
        exact hK9 _ _ rfl hC9 (Below.refl _ _)
      refine wpFacts_val (.string cv) (fun vs w9 hC9 hB K9 hK9 => ?_) ?_
      · have hd1 := hB 1 _ (by kernel_rfl) rfl
        simp only [hd1] at hK9 ⊢
        go_simp
        refine (NUMC.out _).mono ?_
        rintro e w8 ⟨rfl, hb8⟩
        exact hK9 _ _ rfl (hC9.trans (hb8.mono hC9.size)) hb8
      refine wpFacts_val (.string (cv ++ ⟨#[32]⟩)) (fun vs w9 hC9 hB K9 hK9 => ?_) ?_
      · have hd2 := hB 2 _ (by kernel_rfl) rfl
        simp only [hd2] at hK9 ⊢
        go_simp
        (first | (rw [if_neg (by omega)]; go_simp) | skip)
        exact hK9 _ _ rfl hC9 (Below.refl _ _)
      refine wpFacts_some (fun v W' => ∃ g, v = .slice (some ⟨g, 0, none⟩) 3 3 ∧ Lies W' g 9 [.string ⟨#[109, 105, 110, 116]⟩, .string ⟨#[117, 110, 117, 115, 101, 100]⟩, .string ⟨#[117, 115, 101, 100]⟩]) (fun v W' W'' ⟨g, e, hl⟩ hb => ⟨g, e, hl.below hb hl.lt⟩) (fun vs w9 hC9 hB K9 hK9 => ?_) ?_
      · go_simp
        exact hK9 _ _ _ rfl ⟨_, rfl, Lies.new _ _ #[.string ⟨#[109, 105, 110, 116]⟩, .string ⟨#[117, 110, 117, 115, 101, 100]⟩, .string ⟨#[117, 115, 101, 100]⟩]⟩ (hC9.alloc hC9.size _) ((Below.refl _ _).alloc (Nat.le_refl _) _)
      refine wpFacts_val (.pointer (some ⟨g0, 0, none⟩)) (fun vs w9 hC9 hB K9 hK9 => ?_) ?_
      · go_simp
        exact hK9 _ _ rfl hC9 (Below.refl _ _)
      refine wpFacts_val (.int .i64 1) (fun vs w9 hC9 hB K9 hK9 => ?_) ?_
      · have hd5 := hB 5 _ (by kernel_rfl) rfl
        simp only [hd5] at hK9 ⊢
        have kc := K0.out _ hC9
        go_simp
        exact hK9 _ _ rfl hC9 (Below.refl _ _)
      refine wpFacts_val (.int .i64 0) (fun vs w9 hC9 hB K9 hK9 => ?_) ?_
      · have hd6 := hB 6 _ (by kernel_rfl) rfl
        simp only [hd6] at hK9 ⊢
        go_simp
        exact hK9 _ _ rfl hC9 (Below.refl _ _)
      refine wpFacts_some (fun v W' => ∃ g, v = .pointer (some ⟨g, 0, none⟩) ∧ Lies W' g 9 [.string ⟨#[109, 105, 110, 116]⟩, .string ⟨#[117, 110, 117, 115, 101, 100]⟩, .string ⟨#[117, 115, 101, 100]⟩]) (fun v W' W'' ⟨g, e, hl⟩ hb => ⟨g, e, hl.below hb hl.lt⟩) (fun vs w9 hC9 hB K9 hK9 => ?_) ?_
      · have hd4 := hB 4 _ (by kernel_rfl) rfl
        have hd7 := hB 7 _ (by kernel_rfl) rfl
        obtain ⟨g, hv, hl⟩ := hd4
        simp only [hv, hd7] at hK9 ⊢
        go_simp
        exact hK9 _ _ _ rfl ⟨g, rfl, hl⟩ hC9 (Below.refl _ _)
      refine wpFacts_val (.string ⟨#[109, 105, 110, 116]⟩) (fun vs w9 hC9 hB K9 hK9 => ?_) ?_
      · obtain ⟨g, hv, hl⟩ := hB 8 _ (by kernel_rfl) rfl
        have hcell : w9.cell? ⟨g, 0, none⟩ = some (.string ⟨#[109, 105, 110, 116]⟩) := hl.cell 0
        simp only [hv] at hK9 ⊢
        go_simp
        exact hK9 _ _ rfl hC9 (Below.refl _ _)
      refine wpFacts_val (.string (cv ++ ⟨#[32]⟩ ++ ⟨#[109, 105, 110, 116]⟩)) (fun vs w9 hC9 hB K9 hK9 => ?_) ?_
      · have hd3 := hB 3 _ (by kernel_rfl) rfl
        have hd9 := hB 9 _ (by kernel_rfl) rfl
        simp only [hd3, hd9] at hK9 ⊢
        go_simp
        (first | (rw [if_neg (by omega)]; go_simp) | skip)
        exact hK9 _ _ rfl hC9 (Below.refl _ _)
      refine wpFacts_val (.string (cv ++ ⟨#[32]⟩ ++ ⟨#[109, 105, 110, 116]⟩)) (fun vs w9 hC9 hB K9 hK9 => ?_) ?_
      · have hd10 := hB 10 _ (by kernel_rfl) rfl
        simp only [hd10] at hK9 ⊢
        go_simp
        (first | (rw [if_neg (by omega)]; go_simp) | skip)
        exact hK9 _ _ rfl hC9 (Below.refl _ _)
      refine wpFacts_nil fun vs W' hC9 hB => ?_
      have hv11 := hB 11 _ rfl
      simp only [hv11]
      exact REST (cv ++ ⟨#[32]⟩ ++ ⟨#[109, 105, 110, 116]⟩) _ _ _ _ _ _ _ _ _ _ _ _ W' hsz (by rw [Hid, HM.out]; simp [bl_app, bl_lit, HCV.out]) hC9
    · have HM : Hid (longMark x.s = [117, 110, 117, 115, 101, 100]) := by rw [hs]; rfl
      rw [hs] at k0
      have hsz : (cv ++ ⟨#[32]⟩ ++ ⟨#[117, 110, 117, 115, 101, 100]⟩ : ByteArray).size ≤ 120 := by simp only [size_app]; (have e1 : (⟨#[32]⟩ : ByteArray).size = 1 := rfl); (have e3 : (⟨#[117, 110, 117, 115, 101, 100]⟩ : ByteArray).size ≤ 6 := by decide); omega
      have K0 : ∀ W', Below w1.heap.size w1 W' → W'.cell? ⟨g0, 0, none⟩ = some (.int .i64 2) := fun W' hb => (hb.cell L1.lt).trans k0
      have K1 : ∀ W', Below w1.heap.size w1 W' → W'.cell? ⟨g0, 1, none⟩ = some (.int .i64 x.c) := fun W' hb => (hb.cell L1.lt).trans k1
      replace K0 := Lib.hid K0; replace K1 := Lib.hid K1
      clear k0 k1 k2 k3 hs
      refine wp_region_facts (fun W' => Below w1.heap.size w1 W') (fun W' W'' => Below W'.heap.size W' W'') (by kernel_rfl) (by kernel_rfl) (by kernel_rfl) (Below.refl _ _).drew ?_
      simp only [fillOps, Act.put, List.setIfInBounds_toArray, List.set_cons_zero, List.set_cons_succ, Nat.zero_add, Nat.reduceAdd]
      refine wpFacts_val (.pointer (some ⟨g0, 1, none⟩)) (fun vs w9 hC9 hB K9 hK9 => ?_) ?_
      · go_simp
        exact hK9 _ _ rfl hC9 (Below.refl _ _)
      refine wpFacts_val (.int .i64 x.c) (fun vs w9 hC9 hB K9 hK9 => ?_) ?_
      · have hd0 := hB 0 _ (by kernel_rfl) rfl
        simp only [hd0] at hK9 ⊢
        have kc := K1.out _ hC9
        go_simp
        exact hK9 _ _ rfl hC9 (Below.refl _ _)
      refine wpFacts_val (.string cv) (fun vs w9 hC9 hB K9 hK9 => ?_) ?_
      · have hd1 := hB 1 _ (by kernel_rfl) rfl
        simp only [hd1] at hK9 ⊢
        go_simp
        refine (NUMC.out _).mono ?_
        rintro e w8 ⟨rfl, hb8⟩
        exact hK9 _ _ rfl (hC9.trans (hb8.mono hC9.size)) hb8
      refine wpFacts_val (.string (cv ++ ⟨#[32]⟩)) (fun vs w9 hC9 hB K9 hK9 => ?_) ?_
      · have hd2 := hB 2 _ (by kernel_rfl) rfl
        simp only [hd2] at hK9 ⊢
        go_simp
        (first | (rw [if_neg (by omega)]; go_simp) | skip)
        exact hK9 _ _ rfl hC9 (Below.refl _ _)
      refine wpFacts_some (fun v W' => ∃ g, v = .slice (some ⟨g, 0, none⟩) 3 3 ∧ Lies W' g 9 [.string ⟨#[109, 105, 110, 116]⟩, .string ⟨#[117, 110, 117, 115, 101, 100]⟩, .string ⟨#[117, 115, 101, 100]⟩]) (fun v W' W'' ⟨g, e, hl⟩ hb => ⟨g, e, hl.below hb hl.lt⟩) (fun vs w9 hC9 hB K9 hK9 => ?_) ?_
      · go_simp
        exact hK9 _ _ _ rfl ⟨_, rfl, Lies.new _ _ #[.string ⟨#[109, 105, 110, 116]⟩, .string ⟨#[117, 110, 117, 115, 101, 100]⟩, .string ⟨#[117, 115, 101, 100]⟩]⟩ (hC9.alloc hC9.size _) ((Below.refl _ _).alloc (Nat.le_refl _) _)
      refine wpFacts_val (.pointer (some ⟨g0, 0, none⟩)) (fun vs w9 hC9 hB K9 hK9 => ?_) ?_
      · go_simp
        exact hK9 _ _ rfl hC9 (Below.refl _ _)
      refine wpFacts_val (.int .i64 2) (fun vs w9 hC9 hB K9 hK9 => ?_) ?_
      · have hd5 := hB 5 _ (by kernel_rfl) rfl
        simp only [hd5] at hK9 ⊢
        have kc := K0.out _ hC9
        go_simp
        exact hK9 _ _ rfl hC9 (Below.refl _ _)
      refine wpFacts_val (.int .i64 1) (fun vs w9 hC9 hB K9 hK9 => ?_) ?_
      · have hd6 := hB 6 _ (by kernel_rfl) rfl
        simp only [hd6] at hK9 ⊢
        go_simp
        exact hK9 _ _ rfl hC9 (Below.refl _ _)
      refine wpFacts_some (fun v W' => ∃ g, v = .pointer (some ⟨g, 1, none⟩) ∧ Lies W' g 9 [.string ⟨#[109, 105, 110, 116]⟩, .string ⟨#[117, 110, 117, 115, 101, 100]⟩, .string ⟨#[117, 115, 101, 100]⟩]) (fun v W' W'' ⟨g, e, hl⟩ hb => ⟨g, e, hl.below hb hl.lt⟩) (fun vs w9 hC9 hB K9 hK9 => ?_) ?_
      · have hd4 := hB 4 _ (by kernel_rfl) rfl
        have hd7 := hB 7 _ (by kernel_rfl) rfl
        obtain ⟨g, hv, hl⟩ := hd4
        simp only [hv, hd7] at hK9 ⊢
        go_simp
        exact hK9 _ _ _ rfl ⟨g, rfl, hl⟩ hC9 (Below.refl _ _)
      refine wpFacts_val (.string ⟨#[117, 110, 117, 115, 101, 100]⟩) (fun vs w9 hC9 hB K9 hK9 => ?_) ?_
      · obtain ⟨g, hv, hl⟩ := hB 8 _ (by kernel_rfl) rfl
        have hcell : w9.cell? ⟨g, 1, none⟩ = some (.string ⟨#[117, 110, 117, 115, 101, 100]⟩) := hl.cell 1
        simp only [hv] at hK9 ⊢
        go_simp
        exact hK9 _ _ rfl hC9 (Below.refl _ _)
      refine wpFacts_val (.string (cv ++ ⟨#[32]⟩ ++ ⟨#[117, 110, 117, 115, 101, 100]⟩)) (fun vs w9 hC9 hB K9 hK9 => ?_) ?_
      · have hd3 := hB 3 _ (by kernel_rfl) rfl
        have hd9 := hB 9 _ (by kernel_rfl) rfl
        simp only [hd3, hd9] at hK9 ⊢
        go_simp
        (first | (rw [if_neg (by omega)]; go_simp) | skip)
        exact hK9 _ _ rfl hC9 (Below.refl _ _)
      refine wpFacts_val (.string (cv ++ ⟨#[32]⟩ ++ ⟨#[117, 110, 117, 115, 101, 100]⟩)) (fun vs w9 hC9 hB K9 hK9 => ?_) ?_
      · have hd10 := hB 10 _ (by kernel_rfl) rfl
        simp only [hd10] at hK9 ⊢
        go_simp
        (first | (rw [if_neg (by omega)]; go_simp) | skip)
        exact hK9 _ _ rfl hC9 (Below.refl _ _)
      refine wpFacts_nil fun vs W' hC9 hB => ?_
      have hv11 := hB 11 _ rfl
      simp only [hv11]
      exact REST (cv ++ ⟨#[32]⟩ ++ ⟨#[117, 110, 117, 115, 101, 100]⟩) _ _ _ _ _ _ _ _ _ _ _ _ W' hsz (by rw [Hid, HM.out]; simp [bl_app, bl_lit, HCV.out]) hC9
    · have HM : Hid (longMark x.s = [117, 115, 101, 100]) := by rw [hs]; rfl
      rw [hs] at k0
      have hsz : (cv ++ ⟨#[32]⟩ ++ ⟨#[117, 115, 101, 100]⟩ : ByteArray).size ≤ 120 := by simp only [size_app]; (have e1 : (⟨#[32]⟩ : ByteArray).size = 1 := rfl); (have e3 : (⟨#[117, 115, 101, 100]⟩ : ByteArray).size ≤ 6 := by decide); omega
      have K0 : ∀ W', Below w1.heap.size w1 W' → W'.cell? ⟨g0, 0, none⟩ = some (.int .i64 3) := fun W' hb => (hb.cell L1.lt).trans k0
      have K1 : ∀ W', Below w1.heap.size w1 W' → W'.cell? ⟨g0, 1, none⟩ = some (.int .i64 x.c) := fun W' hb => (hb.cell L1.lt).trans k1
      replace K0 := Lib.hid K0; replace K1 := Lib.hid K1
      clear k0 k1 k2 k3 hs
      refine wp_region_facts (fun W' => Below w1.heap.size w1 W') (fun W' W'' => Below W'.heap.size W' W'') (by kernel_rfl) (by kernel_rfl) (by kernel_rfl) (Below.refl _ _).drew ?_
      simp only [fillOps, Act.put, List.setIfInBounds_toArray, List.set_cons_zero, List.set_cons_succ, Nat.zero_add, Nat.reduceAdd]
      refine wpFacts_val (.pointer (some ⟨g0, 1, none⟩)) (fun vs w9 hC9 hB K9 hK9 => ?_) ?_
      · go_simp
        exact hK9 _ _ rfl hC9 (Below.refl _ _)
      refine wpFacts_val (.int .i64 x.c) (fun vs w9 hC9 hB K9 hK9 => ?_) ?_
      · have hd0 := hB 0 _ (by kernel_rfl) rfl
        simp only [hd0] at hK9 ⊢
        have kc := K1.out _ hC9
        go_simp
        exact hK9 _ _ rfl hC9 (Below.refl _ _)
      refine wpFacts_val (.string cv) (fun vs w9 hC9 hB K9 hK9 => ?_) ?_
      · have hd1 := hB 1 _ (by kernel_rfl) rfl
        simp only [hd1] at hK9 ⊢
        go_simp
        refine (NUMC.out _).mono ?_
        rintro e w8 ⟨rfl, hb8⟩
        exact hK9 _ _ rfl (hC9.trans (hb8.mono hC9.size)) hb8
      refine wpFacts_val (.string (cv ++ ⟨#[32]⟩)) (fun vs w9 hC9 hB K9 hK9 => ?_) ?_
      · have hd2 := hB 2 _ (by kernel_rfl) rfl
        simp only [hd2] at hK9 ⊢
        go_simp
        (first | (rw [if_neg (by omega)]; go_simp) | skip)
        exact hK9 _ _ rfl hC9 (Below.refl _ _)
      refine wpFacts_some (fun v W' => ∃ g, v = .slice (some ⟨g, 0, none⟩) 3 3 ∧ Lies W' g 9 [.string ⟨#[109, 105, 110, 116]⟩, .string ⟨#[117, 110, 117, 115, 101, 100]⟩, .string ⟨#[117, 115, 101, 100]⟩]) (fun v W' W'' ⟨g, e, hl⟩ hb => ⟨g, e, hl.below hb hl.lt⟩) (fun vs w9 hC9 hB K9 hK9 => ?_) ?_
      · go_simp
        exact hK9 _ _ _ rfl ⟨_, rfl, Lies.new _ _ #[.string ⟨#[109, 105, 110, 116]⟩, .string ⟨#[117, 110, 117, 115, 101, 100]⟩, .string ⟨#[117, 115, 101, 100]⟩]⟩ (hC9.alloc hC9.size _) ((Below.refl _ _).alloc (Nat.le_refl _) _)
      refine wpFacts_val (.pointer (some ⟨g0, 0, none⟩)) (fun vs w9 hC9 hB K9 hK9 => ?_) ?_
      · go_simp
        exact hK9 _ _ rfl hC9 (Below.refl _ _)
      refine wpFacts_val (.int .i64 3) (fun vs w9 hC9 hB K9 hK9 => ?_) ?_
      · have hd5 := hB 5 _ (by kernel_rfl) rfl
        simp only [hd5] at hK9 ⊢
        have kc := K0.out _ hC9
        go_simp
        exact hK9 _ _ rfl hC9 (Below.refl _ _)
      refine wpFacts_val (.int .i64 2) (fun vs w9 hC9 hB K9 hK9 => ?_) ?_
      · have hd6 := hB 6 _ (by kernel_rfl) rfl
        simp only [hd6] at hK9 ⊢
        go_simp
        exact hK9 _ _ rfl hC9 (Below.refl _ _)
      refine wpFacts_some (fun v W' => ∃ g, v = .pointer (some ⟨g, 2, none⟩) ∧ Lies W' g 9 [.string ⟨#[109, 105, 110, 116]⟩, .string ⟨#[117, 110, 117, 115, 101, 100]⟩, .string ⟨#[117, 115, 101, 100]⟩]) (fun v W' W'' ⟨g, e, hl⟩ hb => ⟨g, e, hl.below hb hl.lt⟩) (fun vs w9 hC9 hB K9 hK9 => ?_) ?_
      · have hd4 := hB 4 _ (by kernel_rfl) rfl
        have hd7 := hB 7 _ (by kernel_rfl) rfl
        obtain ⟨g, hv, hl⟩ := hd4
        simp only [hv, hd7] at hK9 ⊢
        go_simp
        exact hK9 _ _ _ rfl ⟨g, rfl, hl⟩ hC9 (Below.refl _ _)
      refine wpFacts_val (.string ⟨#[117, 115, 101, 100]⟩) (fun vs w9 hC9 hB K9 hK9 => ?_) ?_
      · obtain ⟨g, hv, hl⟩ := hB 8 _ (by kernel_rfl) rfl
        have hcell : w9.cell? ⟨g, 2, none⟩ = some (.string ⟨#[117, 115, 101, 100]⟩) := hl.cell 2
        simp only [hv] at hK9 ⊢
        go_simp
        exact hK9 _ _ rfl hC9 (Below.refl _ _)
      refine wpFacts_val (.string (cv ++ ⟨#[32]⟩ ++ ⟨#[117, 115, 101, 100]⟩)) (fun vs w9 hC9 hB K9 hK9 => ?_) ?_
      · have hd3 := hB 3 _ (by kernel_rfl) rfl
        have hd9 := hB 9 _ (by kernel_rfl) rfl
        simp only [hd3, hd9] at hK9 ⊢
        go_simp
        (first | (rw [if_neg (by omega)]; go_simp) | skip)
        exact hK9 _ _ rfl hC9 (Below.refl _ _)
      refine wpFacts_val (.string (cv ++ ⟨#[32]⟩ ++ ⟨#[117, 115, 101, 100]⟩)) (fun vs w9 hC9 hB K9 hK9 => ?_) ?_
      · have hd10 := hB 10 _ (by kernel_rfl) rfl
        simp only [hd10] at hK9 ⊢
        go_simp
        (first | (rw [if_neg (by omega)]; go_simp) | skip)
        exact hK9 _ _ rfl hC9 (Below.refl _ _)
      refine wpFacts_nil fun vs W' hC9 hB => ?_
      have hv11 := hB 11 _ rfl
      simp only [hv11]
      exact REST (cv ++ ⟨#[32]⟩ ++ ⟨#[117, 115, 101, 100]⟩) _ _ _ _ _ _ _ _ _ _ _ _ W' hsz (by rw [Hid, HM.out]; simp [bl_app, bl_lit, HCV.out]) hC9
end Go.Proofs.YtjdedcalbcnkmaaDoor
