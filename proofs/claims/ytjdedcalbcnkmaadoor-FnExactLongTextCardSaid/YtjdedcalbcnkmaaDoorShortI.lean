/- The short text of a phrase, in the program. -/
import Derived.Test.YtjdedcalbcnkmaaDoorShort
import Derived.Test.YtjdedcalbcnkmaaDoorItoa
namespace Go.Proofs.YtjdedcalbcnkmaaDoor
open Go.RowKit

set_option maxRecDepth 100000 in
theorem und53 : Tryd.prog.underlying 53 = some (.array 3 9) := by rfl
set_option maxRecDepth 100000 in
theorem siz9 : (Tryd.prog.info? 9).map (·.size) = some 1 := by rfl
theorem idx3_0 (a b c : ByteArray) (w : World) : (Instr.index 53 (.agg #[.string a, .string b, .string c]) (.int .i64 0)).run Tryd.prog w = .ok (.string a) w := by
  obtain ⟨i, hi, hs⟩ := Option.map_eq_some_iff.1 siz9
  simp [Instr.index, asIntOf, run_underlying und53, part, sizeOf, typeInfo, hi, hs]
theorem idx3_1 (a b c : ByteArray) (w : World) : (Instr.index 53 (.agg #[.string a, .string b, .string c]) (.int .i64 1)).run Tryd.prog w = .ok (.string b) w := by
  obtain ⟨i, hi, hs⟩ := Option.map_eq_some_iff.1 siz9
  simp [Instr.index, asIntOf, run_underlying und53, part, sizeOf, typeInfo, hi, hs]
theorem idx3_2 (a b c : ByteArray) (w : World) : (Instr.index 53 (.agg #[.string a, .string b, .string c]) (.int .i64 2)).run Tryd.prog w = .ok (.string c) w := by
  obtain ⟨i, hi, hs⟩ := Option.map_eq_some_iff.1 siz9
  simp [Instr.index, asIntOf, run_underlying und53, part, sizeOf, typeInfo, hi, hs]

set_option maxRecDepth 100000 in
set_option maxHeartbeats 2000000 in
theorem shortText_any (x : Ph) (w : World) (h : IntsR w w.heap.size x.A x.f) (hok : x.ok = true) (ht : Tab w) :
    Calls Tryd.prog 33 #[x.val] w fun e w' => e = .returned (.string ⟨(shortT x).toArray⟩) ∧ Below w.heap.size w w' := by
  obtain ⟨⟨s1, s2⟩, ⟨c1, c2⟩, hr, p1, p2⟩ := Ph.bounds hok
  have hnine := faults_nine hr
  have HRI : Hid (∀ i (hi : i < x.f.length), 1 ≤ x.f[i] ∧ x.f[i] ≤ 9) := fun i hi => by
    rw [rises_eq, Bool.and_eq_true, List.all_eq_true] at hr
    exact inR_iff.1 (hr.2 _ (List.getElem_mem hi))
  clear hr hok
  have hb1 := ((Below.refl w.heap.size w).alloc (Nat.le_refl _) (.cells #[.int .i64 x.s, .int .i64 x.c, .slice x.A x.f.length x.cap, .int .i64 x.p] 28))
  have hS := PhS.of (x := x) (Lies.new w 28 #[.int .i64 x.s, .int .i64 x.c, .slice x.A x.f.length x.cap, .int .i64 x.p])
  have hR := SlcR.up h hb1 (Nat.le_refl _)
  have k2 := hS.c2
  have k3 := hS.c3
  clear hS
  have hs : x.s = 1 ∨ x.s = 2 ∨ x.s = 3 := by omega
  by_cases hc1 : 1 < x.c
  · have HC : Hid (copT x.c = 40 :: Lib.itoa x.c ++ [41]) := by unfold copT Hid; rw [if_pos hc1]
    obtain ⟨cv, hcv⟩ : ∃ s : ByteArray, s = ⟨(Lib.itoa x.c).toArray⟩ := ⟨_, rfl⟩
    have hcs : cv.size ≤ 100 := by rw [hcv]; exact itoa_len (by omega) (by omega)
    have NUMC : ∀ W : World, Tab W → Calls Tryd.prog 36 #[.int .i64 x.c] W fun e w' => e = .returned (.string cv) ∧ Below W.heap.size W w' := by
      intro W hW; rw [hcv]; exact itoa_any _ _ (by omega) (by omega) hW
    replace NUMC := Lib.hid NUMC
    have HCV : Hid (bl cv = Lib.itoa x.c) := by rw [hcv, Hid, bl_mk]
    clear hcv
    rcases hs with hs | hs | hs
    · have HM : Hid (markT x.s = [42, 42]) := by rw [hs]; rfl
      rw [hs] at hb1 hR k2 k3
      clear s1 s2
      go_enter Tryd.func33, Tryd.ntmps33
      go_wp2_with fail
      rw [idx3_0]
      go_wp2_with (go_at_call 36; refine (NUMC.out _ (ht.then hb1)).mono ?_; rintro e w1 ⟨rfl, hb2⟩; have k2q : w1.cell? ⟨w.heap.size, 2, none⟩ = some (.slice x.A x.f.length x.cap) := k2 ⟨_, hb2⟩)
      generalize (w.alloc (.cells #[.int .i64 1, .int .i64 x.c, .slice x.A x.f.length x.cap, .int .i64 x.p] 28)) = W at k2 k3 hb1 hR hb2 ⊢
      go_loopw [3, 24] (fun s i wr => ∃ (k : Nat) (T : ByteArray), k ≤ x.f.length ∧ i = .int .i64 k ∧ s = .string T ∧ T.size ≤ 300 + 101 * k ∧ (∃ q : Since W.heap.size W, wr = q.val) ∧ Hid (bl T ++ fauT (x.f.drop k) = markT x.s ++ copT x.c ++ fauT x.f)) (fun _ i _ => x.f.length - (intOf i).toNat)
      case atStart => exact ⟨0, _, Nat.zero_le _, rfl, rfl, by simp only [size_app]; (have e1 : (⟨#[40]⟩ : ByteArray).size = 1 := rfl); (have e2 : (⟨#[41]⟩ : ByteArray).size = 1 := rfl); (have e3 : (⟨#[42, 42]⟩ : ByteArray).size ≤ 2 := by decide); omega, ⟨⟨_, hb2⟩, rfl⟩, by rw [Hid, HM.out, HC.out, List.drop_zero]; simp [bl_app, bl_lit, HCV.out]⟩
      case round =>
        obtain ⟨k, T, hk, rfl, rfl, hT, ⟨q, rfl⟩, HR⟩ := hrel
        have HQ := (ht.then hb1).at q
        by_cases hlt : k < x.f.length
        · obtain ⟨b, off, hA, hb, hcell⟩ := IntsR.ints hR (by omega)
          have c0 := hcell k hlt
          obtain ⟨f1, f2⟩ := HRI.out k hlt
          have HS := Lib.hid (fau_step hlt (bl T))
          obtain ⟨f, hfe⟩ : ∃ f, f = x.f[k] := ⟨_, rfl⟩
          rw [← hfe] at c0 f1 f2 HS
          simp only [hA] at k2 ⊢
          clear hfe hcell hA
          obtain ⟨fv, hfv⟩ : ∃ s : ByteArray, s = ⟨(Lib.itoa f).toArray⟩ := ⟨_, rfl⟩
          have hfs : fv.size ≤ 100 := by rw [hfv]; exact itoa_len (by omega) (by omega)
          have NUMF : ∀ W : World, Tab W → Calls Tryd.prog 36 #[.int .i64 f] W fun e w' => e = .returned (.string fv) ∧ Below W.heap.size W w' := by
            intro W hW; rw [hfv]; exact itoa_any _ _ (by omega) (by omega) hW
          replace NUMF := Lib.hid NUMF
          have HFV : Hid (bl fv = Lib.itoa f) := by rw [hfv, Hid, bl_mk]
          clear hfv
          go_wp2_with (go_at_call 36; refine (NUMF.out _ HQ).mono ?_; rintro e w4 ⟨rfl, hb4⟩)
          go_roundw
          case rel => exact ⟨k + 1, _, by omega, by go_num, rfl, by simp only [size_app]; (have e1 : (⟨#[33]⟩ : ByteArray).size = 1 := rfl); omega, ⟨q.go (Nat.le_refl _) hb4, rfl⟩, by have h1 := HR.out; rw [HS.out] at h1; rw [Hid, ← h1]; simp [bl_app, bl_lit, HFV.out]⟩
          case measure => simp [intOf]; omega
        · have HE : Hid (bl T = markT x.s ++ copT x.c ++ fauT x.f) := by
            have h1 := HR.out; rw [List.drop_eq_nil_of_le (by omega), fauT, List.append_nil] at h1; exact h1
          by_cases hp : 0 < x.p
          · have HP : Hid (priT x.p = 61 :: Lib.itoa x.p) := by unfold priT Hid; rw [if_pos hp]
            obtain ⟨pv, hpv⟩ : ∃ s : ByteArray, s = ⟨(Lib.itoa x.p).toArray⟩ := ⟨_, rfl⟩
            have hps : pv.size ≤ 100 := by rw [hpv]; exact itoa_len (by omega) (by omega)
            have NUMP : ∀ W : World, Tab W → Calls Tryd.prog 36 #[.int .i64 x.p] W fun e w' => e = .returned (.string pv) ∧ Below W.heap.size W w' := by
              intro W hW; rw [hpv]; exact itoa_any _ _ (by omega) (by omega) hW
            replace NUMP := Lib.hid NUMP
            have HPV : Hid (bl pv = Lib.itoa x.p) := by rw [hpv, Hid, bl_mk]
            clear hpv
            go_wp2_with (go_at_call 36; refine (NUMP.out _ HQ).mono ?_; rintro e w3 ⟨rfl, hb3⟩)
            go_ret
            exact ⟨congrArg (fun s => Ending.returned (Value.string s)) (bl_ext (by unfold shortT; simp [bl_app, bl_lit, HE.out, HP.out, HPV.out])), hb1.trans ((q.below.trans (hb3.mono q.size)).mono hb1.size)⟩
          · have HP : Hid (priT x.p = []) := by unfold priT Hid; rw [if_neg hp]
            go_wp2
            go_ret
            exact ⟨congrArg (fun s => Ending.returned (Value.string s)) (bl_ext (by unfold shortT; simp [HE.out, HP.out])), hb1.trans (q.below.mono hb1.size)⟩
    · have HM : Hid (markT x.s = [42]) := by rw [hs]; rfl
      rw [hs] at hb1 hR k2 k3
      clear s1 s2
      go_enter Tryd.func33, Tryd.ntmps33
      go_wp2_with fail
      rw [idx3_1]
      go_wp2_with (go_at_call 36; refine (NUMC.out _ (ht.then hb1)).mono ?_; rintro e w1 ⟨rfl, hb2⟩; have k2q : w1.cell? ⟨w.heap.size, 2, none⟩ = some (.slice x.A x.f.length x.cap) := k2 ⟨_, hb2⟩)
      generalize (w.alloc (.cells #[.int .i64 2, .int .i64 x.c, .slice x.A x.f.length x.cap, .int .i64 x.p] 28)) = W at k2 k3 hb1 hR hb2 ⊢
      go_loopw [3, 24] (fun s i wr => ∃ (k : Nat) (T : ByteArray), k ≤ x.f.length ∧ i = .int .i64 k ∧ s = .string T ∧ T.size ≤ 300 + 101 * k ∧ (∃ q : Since W.heap.size W, wr = q.val) ∧ Hid (bl T ++ fauT (x.f.drop k) = markT x.s ++ copT x.c ++ fauT x.f)) (fun _ i _ => x.f.length - (intOf i).toNat)
      case atStart => exact ⟨0, _, Nat.zero_le _, rfl, rfl, by simp only [size_app]; (have e1 : (⟨#[40]⟩ : ByteArray).size = 1 := rfl); (have e2 : (⟨#[41]⟩ : ByteArray).size = 1 := rfl); (have e3 : (⟨#[42]⟩ : ByteArray).size ≤ 2 := by decide); omega, ⟨⟨_, hb2⟩, rfl⟩, by rw [Hid, HM.out, HC.out, List.drop_zero]; simp [bl_app, bl_lit, HCV.out]⟩
      case round =>
        obtain ⟨k, T, hk, rfl, rfl, hT, ⟨q, rfl⟩, HR⟩ := hrel
        have HQ := (ht.then hb1).at q
        by_cases hlt : k < x.f.length
        · obtain ⟨b, off, hA, hb, hcell⟩ := IntsR.ints hR (by omega)
          have c0 := hcell k hlt
          obtain ⟨f1, f2⟩ := HRI.out k hlt
          have HS := Lib.hid (fau_step hlt (bl T))
          obtain ⟨f, hfe⟩ : ∃ f, f = x.f[k] := ⟨_, rfl⟩
          rw [← hfe] at c0 f1 f2 HS
          simp only [hA] at k2 ⊢
          clear hfe hcell hA
          obtain ⟨fv, hfv⟩ : ∃ s : ByteArray, s = ⟨(Lib.itoa f).toArray⟩ := ⟨_, rfl⟩
          have hfs : fv.size ≤ 100 := by rw [hfv]; exact itoa_len (by omega) (by omega)
          have NUMF : ∀ W : World, Tab W → Calls Tryd.prog 36 #[.int .i64 f] W fun e w' => e = .returned (.string fv) ∧ Below W.heap.size W w' := by
            intro W hW; rw [hfv]; exact itoa_any _ _ (by omega) (by omega) hW
          replace NUMF := Lib.hid NUMF
          have HFV : Hid (bl fv = Lib.itoa f) := by rw [hfv, Hid, bl_mk]
          clear hfv
          go_wp2_with (go_at_call 36; refine (NUMF.out _ HQ).mono ?_; rintro e w4 ⟨rfl, hb4⟩)
          go_roundw
          case rel => exact ⟨k + 1, _, by omega, by go_num, rfl, by simp only [size_app]; (have e1 : (⟨#[33]⟩ : ByteArray).size = 1 := rfl); omega, ⟨q.go (Nat.le_refl _) hb4, rfl⟩, by have h1 := HR.out; rw [HS.out] at h1; rw [Hid, ← h1]; simp [bl_app, bl_lit, HFV.out]⟩
          case measure => simp [intOf]; omega
        · have HE : Hid (bl T = markT x.s ++ copT x.c ++ fauT x.f) := by
            have h1 := HR.out; rw [List.drop_eq_nil_of_le (by omega), fauT, List.append_nil] at h1; exact h1
          by_cases hp : 0 < x.p
          · have HP : Hid (priT x.p = 61 :: Lib.itoa x.p) := by unfold priT Hid; rw [if_pos hp]
            obtain ⟨pv, hpv⟩ : ∃ s : ByteArray, s = ⟨(Lib.itoa x.p).toArray⟩ := ⟨_, rfl⟩
            have hps : pv.size ≤ 100 := by rw [hpv]; exact itoa_len (by omega) (by omega)
            have NUMP : ∀ W : World, Tab W → Calls Tryd.prog 36 #[.int .i64 x.p] W fun e w' => e = .returned (.string pv) ∧ Below W.heap.size W w' := by
              intro W hW; rw [hpv]; exact itoa_any _ _ (by omega) (by omega) hW
            replace NUMP := Lib.hid NUMP
            have HPV : Hid (bl pv = Lib.itoa x.p) := by rw [hpv, Hid, bl_mk]
            clear hpv
            go_wp2_with (go_at_call 36; refine (NUMP.out _ HQ).mono ?_; rintro e w3 ⟨rfl, hb3⟩)
            go_ret
            exact ⟨congrArg (fun s => Ending.returned (Value.string s)) (bl_ext (by unfold shortT; simp [bl_app, bl_lit, HE.out, HP.out, HPV.out])), hb1.trans ((q.below.trans (hb3.mono q.size)).mono hb1.size)⟩
          · have HP : Hid (priT x.p = []) := by unfold priT Hid; rw [if_neg hp]
            go_wp2
            go_ret
            exact ⟨congrArg (fun s => Ending.returned (Value.string s)) (bl_ext (by unfold shortT; simp [HE.out, HP.out])), hb1.trans (q.below.mono hb1.size)⟩
    · have HM : Hid (markT x.s = [111]) := by rw [hs]; rfl
      rw [hs] at hb1 hR k2 k3
      clear s1 s2
      go_enter Tryd.func33, Tryd.ntmps33
      go_wp2_with fail
      rw [idx3_2]
      go_wp2_with (go_at_call 36; refine (NUMC.out _ (ht.then hb1)).mono ?_; rintro e w1 ⟨rfl, hb2⟩; have k2q : w1.cell? ⟨w.heap.size, 2, none⟩ = some (.slice x.A x.f.length x.cap) := k2 ⟨_, hb2⟩)
      generalize (w.alloc (.cells #[.int .i64 3, .int .i64 x.c, .slice x.A x.f.length x.cap, .int .i64 x.p] 28)) = W at k2 k3 hb1 hR hb2 ⊢
      go_loopw [3, 24] (fun s i wr => ∃ (k : Nat) (T : ByteArray), k ≤ x.f.length ∧ i = .int .i64 k ∧ s = .string T ∧ T.size ≤ 300 + 101 * k ∧ (∃ q : Since W.heap.size W, wr = q.val) ∧ Hid (bl T ++ fauT (x.f.drop k) = markT x.s ++ copT x.c ++ fauT x.f)) (fun _ i _ => x.f.length - (intOf i).toNat)
      case atStart => exact ⟨0, _, Nat.zero_le _, rfl, rfl, by simp only [size_app]; (have e1 : (⟨#[40]⟩ : ByteArray).size = 1 := rfl); (have e2 : (⟨#[41]⟩ : ByteArray).size = 1 := rfl); (have e3 : (⟨#[111]⟩ : ByteArray).size ≤ 2 := by decide); omega, ⟨⟨_, hb2⟩, rfl⟩, by rw [Hid, HM.out, HC.out, List.drop_zero]; simp [bl_app, bl_lit, HCV.out]⟩
      case round =>
        obtain ⟨k, T, hk, rfl, rfl, hT, ⟨q, rfl⟩, HR⟩ := hrel
        have HQ := (ht.then hb1).at q
        by_cases hlt : k < x.f.length
        · obtain ⟨b, off, hA, hb, hcell⟩ := IntsR.ints hR (by omega)
          have c0 := hcell k hlt
          obtain ⟨f1, f2⟩ := HRI.out k hlt
          have HS := Lib.hid (fau_step hlt (bl T))
          obtain ⟨f, hfe⟩ : ∃ f, f = x.f[k] := ⟨_, rfl⟩
          rw [← hfe] at c0 f1 f2 HS
          simp only [hA] at k2 ⊢
          clear hfe hcell hA
          obtain ⟨fv, hfv⟩ : ∃ s : ByteArray, s = ⟨(Lib.itoa f).toArray⟩ := ⟨_, rfl⟩
          have hfs : fv.size ≤ 100 := by rw [hfv]; exact itoa_len (by omega) (by omega)
          have NUMF : ∀ W : World, Tab W → Calls Tryd.prog 36 #[.int .i64 f] W fun e w' => e = .returned (.string fv) ∧ Below W.heap.size W w' := by
            intro W hW; rw [hfv]; exact itoa_any _ _ (by omega) (by omega) hW
          replace NUMF := Lib.hid NUMF
          have HFV : Hid (bl fv = Lib.itoa f) := by rw [hfv, Hid, bl_mk]
          clear hfv
          go_wp2_with (go_at_call 36; refine (NUMF.out _ HQ).mono ?_; rintro e w4 ⟨rfl, hb4⟩)
          go_roundw
          case rel => exact ⟨k + 1, _, by omega, by go_num, rfl, by simp only [size_app]; (have e1 : (⟨#[33]⟩ : ByteArray).size = 1 := rfl); omega, ⟨q.go (Nat.le_refl _) hb4, rfl⟩, by have h1 := HR.out; rw [HS.out] at h1; rw [Hid, ← h1]; simp [bl_app, bl_lit, HFV.out]⟩
          case measure => simp [intOf]; omega
        · have HE : Hid (bl T = markT x.s ++ copT x.c ++ fauT x.f) := by
            have h1 := HR.out; rw [List.drop_eq_nil_of_le (by omega), fauT, List.append_nil] at h1; exact h1
          by_cases hp : 0 < x.p
          · have HP : Hid (priT x.p = 61 :: Lib.itoa x.p) := by unfold priT Hid; rw [if_pos hp]
            obtain ⟨pv, hpv⟩ : ∃ s : ByteArray, s = ⟨(Lib.itoa x.p).toArray⟩ := ⟨_, rfl⟩
            have hps : pv.size ≤ 100 := by rw [hpv]; exact itoa_len (by omega) (by omega)
            have NUMP : ∀ W : World, Tab W → Calls Tryd.prog 36 #[.int .i64 x.p] W fun e w' => e = .returned (.string pv) ∧ Below W.heap.size W w' := by
              intro W hW; rw [hpv]; exact itoa_any _ _ (by omega) (by omega) hW
            replace NUMP := Lib.hid NUMP
            have HPV : Hid (bl pv = Lib.itoa x.p) := by rw [hpv, Hid, bl_mk]
            clear hpv
            go_wp2_with (go_at_call 36; refine (NUMP.out _ HQ).mono ?_; rintro e w3 ⟨rfl, hb3⟩)
            go_ret
            exact ⟨congrArg (fun s => Ending.returned (Value.string s)) (bl_ext (by unfold shortT; simp [bl_app, bl_lit, HE.out, HP.out, HPV.out])), hb1.trans ((q.below.trans (hb3.mono q.size)).mono hb1.size)⟩
          · have HP : Hid (priT x.p = []) := by unfold priT Hid; rw [if_neg hp]
            go_wp2
            go_ret
            exact ⟨congrArg (fun s => Ending.returned (Value.string s)) (bl_ext (by unfold shortT; simp [HE.out, HP.out])), hb1.trans (q.below.mono hb1.size)⟩
  · have HC : Hid (copT x.c = []) := by unfold copT Hid; rw [if_neg hc1]
    rcases hs with hs | hs | hs
    · have HM : Hid (markT x.s = [42, 42]) := by rw [hs]; rfl
      rw [hs] at hb1 hR k2 k3
      clear s1 s2
      go_enter Tryd.func33, Tryd.ntmps33
      go_wp2_with fail
      rw [idx3_0]
      go_wp2_with fail
      generalize (w.alloc (.cells #[.int .i64 1, .int .i64 x.c, .slice x.A x.f.length x.cap, .int .i64 x.p] 28)) = W at k2 k3 hb1 hR ⊢
      go_loopw [3, 24] (fun s i wr => ∃ (k : Nat) (T : ByteArray), k ≤ x.f.length ∧ i = .int .i64 k ∧ s = .string T ∧ T.size ≤ 300 + 101 * k ∧ (∃ q : Since W.heap.size W, wr = q.val) ∧ Hid (bl T ++ fauT (x.f.drop k) = markT x.s ++ copT x.c ++ fauT x.f)) (fun _ i _ => x.f.length - (intOf i).toNat)
      case atStart => exact ⟨0, _, Nat.zero_le _, rfl, rfl, by (have e3 : (⟨#[42, 42]⟩ : ByteArray).size ≤ 2 := by decide); omega, ⟨Since.start _ _, rfl⟩, by rw [Hid, HM.out, HC.out, List.drop_zero]; simp [bl_lit]⟩
      case round =>
        obtain ⟨k, T, hk, rfl, rfl, hT, ⟨q, rfl⟩, HR⟩ := hrel
        have HQ := (ht.then hb1).at q
        by_cases hlt : k < x.f.length
        · obtain ⟨b, off, hA, hb, hcell⟩ := IntsR.ints hR (by omega)
          have c0 := hcell k hlt
          obtain ⟨f1, f2⟩ := HRI.out k hlt
          have HS := Lib.hid (fau_step hlt (bl T))
          obtain ⟨f, hfe⟩ : ∃ f, f = x.f[k] := ⟨_, rfl⟩
          rw [← hfe] at c0 f1 f2 HS
          simp only [hA] at k2 ⊢
          clear hfe hcell hA
          obtain ⟨fv, hfv⟩ : ∃ s : ByteArray, s = ⟨(Lib.itoa f).toArray⟩ := ⟨_, rfl⟩
          have hfs : fv.size ≤ 100 := by rw [hfv]; exact itoa_len (by omega) (by omega)
          have NUMF : ∀ W : World, Tab W → Calls Tryd.prog 36 #[.int .i64 f] W fun e w' => e = .returned (.string fv) ∧ Below W.heap.size W w' := by
            intro W hW; rw [hfv]; exact itoa_any _ _ (by omega) (by omega) hW
          replace NUMF := Lib.hid NUMF
          have HFV : Hid (bl fv = Lib.itoa f) := by rw [hfv, Hid, bl_mk]
          clear hfv
          go_wp2_with (go_at_call 36; refine (NUMF.out _ HQ).mono ?_; rintro e w4 ⟨rfl, hb4⟩)
          go_roundw
          case rel => exact ⟨k + 1, _, by omega, by go_num, rfl, by simp only [size_app]; (have e1 : (⟨#[33]⟩ : ByteArray).size = 1 := rfl); omega, ⟨q.go (Nat.le_refl _) hb4, rfl⟩, by have h1 := HR.out; rw [HS.out] at h1; rw [Hid, ← h1]; simp [bl_app, bl_lit, HFV.out]⟩
          case measure => simp [intOf]; omega
        · have HE : Hid (bl T = markT x.s ++ copT x.c ++ fauT x.f) := by
            have h1 := HR.out; rw [List.drop_eq_nil_of_le (by omega), fauT, List.append_nil] at h1; exact h1
          by_cases hp : 0 < x.p
          · have HP : Hid (priT x.p = 61 :: Lib.itoa x.p) := by unfold priT Hid; rw [if_pos hp]
            obtain ⟨pv, hpv⟩ : ∃ s : ByteArray, s = ⟨(Lib.itoa x.p).toArray⟩ := ⟨_, rfl⟩
            have hps : pv.size ≤ 100 := by rw [hpv]; exact itoa_len (by omega) (by omega)
            have NUMP : ∀ W : World, Tab W → Calls Tryd.prog 36 #[.int .i64 x.p] W fun e w' => e = .returned (.string pv) ∧ Below W.heap.size W w' := by
              intro W hW; rw [hpv]; exact itoa_any _ _ (by omega) (by omega) hW
            replace NUMP := Lib.hid NUMP
            have HPV : Hid (bl pv = Lib.itoa x.p) := by rw [hpv, Hid, bl_mk]
            clear hpv
            go_wp2_with (go_at_call 36; refine (NUMP.out _ HQ).mono ?_; rintro e w3 ⟨rfl, hb3⟩)
            go_ret
            exact ⟨congrArg (fun s => Ending.returned (Value.string s)) (bl_ext (by unfold shortT; simp [bl_app, bl_lit, HE.out, HP.out, HPV.out])), hb1.trans ((q.below.trans (hb3.mono q.size)).mono hb1.size)⟩
          · have HP : Hid (priT x.p = []) := by unfold priT Hid; rw [if_neg hp]
            go_wp2
            go_ret
            exact ⟨congrArg (fun s => Ending.returned (Value.string s)) (bl_ext (by unfold shortT; simp [HE.out, HP.out])), hb1.trans (q.below.mono hb1.size)⟩
    · have HM : Hid (markT x.s = [42]) := by rw [hs]; rfl
      rw [hs] at hb1 hR k2 k3
      clear s1 s2
      go_enter Tryd.func33, Tryd.ntmps33
      go_wp2_with fail
      rw [idx3_1]
      go_wp2_with fail
      generalize (w.alloc (.cells #[.int .i64 2, .int .i64 x.c, .slice x.A x.f.length x.cap, .int .i64 x.p] 28)) = W at k2 k3 hb1 hR ⊢
      go_loopw [3, 24] (fun s i wr => ∃ (k : Nat) (T : ByteArray), k ≤ x.f.length ∧ i = .int .i64 k ∧ s = .string T ∧ T.size ≤ 300 + 101 * k ∧ (∃ q : Since W.heap.size W, wr = q.val) ∧ Hid (bl T ++ fauT (x.f.drop k) = markT x.s ++ copT x.c ++ fauT x.f)) (fun _ i _ => x.f.length - (intOf i).toNat)
      case atStart => exact ⟨0, _, Nat.zero_le _, rfl, rfl, by (have e3 : (⟨#[42]⟩ : ByteArray).size ≤ 2 := by decide); omega, ⟨Since.start _ _, rfl⟩, by rw [Hid, HM.out, HC.out, List.drop_zero]; simp [bl_lit]⟩
      case round =>
        obtain ⟨k, T, hk, rfl, rfl, hT, ⟨q, rfl⟩, HR⟩ := hrel
        have HQ := (ht.then hb1).at q
        by_cases hlt : k < x.f.length
        · obtain ⟨b, off, hA, hb, hcell⟩ := IntsR.ints hR (by omega)
          have c0 := hcell k hlt
          obtain ⟨f1, f2⟩ := HRI.out k hlt
          have HS := Lib.hid (fau_step hlt (bl T))
          obtain ⟨f, hfe⟩ : ∃ f, f = x.f[k] := ⟨_, rfl⟩
          rw [← hfe] at c0 f1 f2 HS
          simp only [hA] at k2 ⊢
          clear hfe hcell hA
          obtain ⟨fv, hfv⟩ : ∃ s : ByteArray, s = ⟨(Lib.itoa f).toArray⟩ := ⟨_, rfl⟩
          have hfs : fv.size ≤ 100 := by rw [hfv]; exact itoa_len (by omega) (by omega)
          have NUMF : ∀ W : World, Tab W → Calls Tryd.prog 36 #[.int .i64 f] W fun e w' => e = .returned (.string fv) ∧ Below W.heap.size W w' := by
            intro W hW; rw [hfv]; exact itoa_any _ _ (by omega) (by omega) hW
          replace NUMF := Lib.hid NUMF
          have HFV : Hid (bl fv = Lib.itoa f) := by rw [hfv, Hid, bl_mk]
          clear hfv
          go_wp2_with (go_at_call 36; refine (NUMF.out _ HQ).mono ?_; rintro e w4 ⟨rfl, hb4⟩)
          go_roundw
          case rel => exact ⟨k + 1, _, by omega, by go_num, rfl, by simp only [size_app]; (have e1 : (⟨#[33]⟩ : ByteArray).size = 1 := rfl); omega, ⟨q.go (Nat.le_refl _) hb4, rfl⟩, by have h1 := HR.out; rw [HS.out] at h1; rw [Hid, ← h1]; simp [bl_app, bl_lit, HFV.out]⟩
          case measure => simp [intOf]; omega
        · have HE : Hid (bl T = markT x.s ++ copT x.c ++ fauT x.f) := by
            have h1 := HR.out; rw [List.drop_eq_nil_of_le (by omega), fauT, List.append_nil] at h1; exact h1
          by_cases hp : 0 < x.p
          · have HP : Hid (priT x.p = 61 :: Lib.itoa x.p) := by unfold priT Hid; rw [if_pos hp]
            obtain ⟨pv, hpv⟩ : ∃ s : ByteArray, s = ⟨(Lib.itoa x.p).toArray⟩ := ⟨_, rfl⟩
            have hps : pv.size ≤ 100 := by rw [hpv]; exact itoa_len (by omega) (by omega)
            have NUMP : ∀ W : World, Tab W → Calls Tryd.prog 36 #[.int .i64 x.p] W fun e w' => e = .returned (.string pv) ∧ Below W.heap.size W w' := by
              intro W hW; rw [hpv]; exact itoa_any _ _ (by omega) (by omega) hW
            replace NUMP := Lib.hid NUMP
            have HPV : Hid (bl pv = Lib.itoa x.p) := by rw [hpv, Hid, bl_mk]
            clear hpv
            go_wp2_with (go_at_call 36; refine (NUMP.out _ HQ).mono ?_; rintro e w3 ⟨rfl, hb3⟩)
            go_ret
            exact ⟨congrArg (fun s => Ending.returned (Value.string s)) (bl_ext (by unfold shortT; simp [bl_app, bl_lit, HE.out, HP.out, HPV.out])), hb1.trans ((q.below.trans (hb3.mono q.size)).mono hb1.size)⟩
          · have HP : Hid (priT x.p = []) := by unfold priT Hid; rw [if_neg hp]
            go_wp2
            go_ret
            exact ⟨congrArg (fun s => Ending.returned (Value.string s)) (bl_ext (by unfold shortT; simp [HE.out, HP.out])), hb1.trans (q.below.mono hb1.size)⟩
    · have HM : Hid (markT x.s = [111]) := by rw [hs]; rfl
      rw [hs] at hb1 hR k2 k3
      clear s1 s2
      go_enter Tryd.func33, Tryd.ntmps33
      go_wp2_with fail
      rw [idx3_2]
      go_wp2_with fail
      generalize (w.alloc (.cells #[.int .i64 3, .int .i64 x.c, .slice x.A x.f.length x.cap, .int .i64 x.p] 28)) = W at k2 k3 hb1 hR ⊢
      go_loopw [3, 24] (fun s i wr => ∃ (k : Nat) (T : ByteArray), k ≤ x.f.length ∧ i = .int .i64 k ∧ s = .string T ∧ T.size ≤ 300 + 101 * k ∧ (∃ q : Since W.heap.size W, wr = q.val) ∧ Hid (bl T ++ fauT (x.f.drop k) = markT x.s ++ copT x.c ++ fauT x.f)) (fun _ i _ => x.f.length - (intOf i).toNat)
      case atStart => exact ⟨0, _, Nat.zero_le _, rfl, rfl, by (have e3 : (⟨#[111]⟩ : ByteArray).size ≤ 2 := by decide); omega, ⟨Since.start _ _, rfl⟩, by rw [Hid, HM.out, HC.out, List.drop_zero]; simp [bl_lit]⟩
      case round =>
        obtain ⟨k, T, hk, rfl, rfl, hT, ⟨q, rfl⟩, HR⟩ := hrel
        have HQ := (ht.then hb1).at q
        by_cases hlt : k < x.f.length
        · obtain ⟨b, off, hA, hb, hcell⟩ := IntsR.ints hR (by omega)
          have c0 := hcell k hlt
          obtain ⟨f1, f2⟩ := HRI.out k hlt
          have HS := Lib.hid (fau_step hlt (bl T))
          obtain ⟨f, hfe⟩ : ∃ f, f = x.f[k] := ⟨_, rfl⟩
          rw [← hfe] at c0 f1 f2 HS
          simp only [hA] at k2 ⊢
          clear hfe hcell hA
          obtain ⟨fv, hfv⟩ : ∃ s : ByteArray, s = ⟨(Lib.itoa f).toArray⟩ := ⟨_, rfl⟩
          have hfs : fv.size ≤ 100 := by rw [hfv]; exact itoa_len (by omega) (by omega)
          have NUMF : ∀ W : World, Tab W → Calls Tryd.prog 36 #[.int .i64 f] W fun e w' => e = .returned (.string fv) ∧ Below W.heap.size W w' := by
            intro W hW; rw [hfv]; exact itoa_any _ _ (by omega) (by omega) hW
          replace NUMF := Lib.hid NUMF
          have HFV : Hid (bl fv = Lib.itoa f) := by rw [hfv, Hid, bl_mk]
          clear hfv
          go_wp2_with (go_at_call 36; refine (NUMF.out _ HQ).mono ?_; rintro e w4 ⟨rfl, hb4⟩)
          go_roundw
          case rel => exact ⟨k + 1, _, by omega, by go_num, rfl, by simp only [size_app]; (have e1 : (⟨#[33]⟩ : ByteArray).size = 1 := rfl); omega, ⟨q.go (Nat.le_refl _) hb4, rfl⟩, by have h1 := HR.out; rw [HS.out] at h1; rw [Hid, ← h1]; simp [bl_app, bl_lit, HFV.out]⟩
          case measure => simp [intOf]; omega
        · have HE : Hid (bl T = markT x.s ++ copT x.c ++ fauT x.f) := by
            have h1 := HR.out; rw [List.drop_eq_nil_of_le (by omega), fauT, List.append_nil] at h1; exact h1
          by_cases hp : 0 < x.p
          · have HP : Hid (priT x.p = 61 :: Lib.itoa x.p) := by unfold priT Hid; rw [if_pos hp]
            obtain ⟨pv, hpv⟩ : ∃ s : ByteArray, s = ⟨(Lib.itoa x.p).toArray⟩ := ⟨_, rfl⟩
            have hps : pv.size ≤ 100 := by rw [hpv]; exact itoa_len (by omega) (by omega)
            have NUMP : ∀ W : World, Tab W → Calls Tryd.prog 36 #[.int .i64 x.p] W fun e w' => e = .returned (.string pv) ∧ Below W.heap.size W w' := by
              intro W hW; rw [hpv]; exact itoa_any _ _ (by omega) (by omega) hW
            replace NUMP := Lib.hid NUMP
            have HPV : Hid (bl pv = Lib.itoa x.p) := by rw [hpv, Hid, bl_mk]
            clear hpv
            go_wp2_with (go_at_call 36; refine (NUMP.out _ HQ).mono ?_; rintro e w3 ⟨rfl, hb3⟩)
            go_ret
            exact ⟨congrArg (fun s => Ending.returned (Value.string s)) (bl_ext (by unfold shortT; simp [bl_app, bl_lit, HE.out, HP.out, HPV.out])), hb1.trans ((q.below.trans (hb3.mono q.size)).mono hb1.size)⟩
          · have HP : Hid (priT x.p = []) := by unfold priT Hid; rw [if_neg hp]
            go_wp2
            go_ret
            exact ⟨congrArg (fun s => Ending.returned (Value.string s)) (bl_ext (by unfold shortT; simp [HE.out, HP.out])), hb1.trans (q.below.mono hb1.size)⟩
end Go.Proofs.YtjdedcalbcnkmaaDoor
