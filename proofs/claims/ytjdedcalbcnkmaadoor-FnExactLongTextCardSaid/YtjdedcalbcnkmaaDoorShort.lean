/- The short text of a phrase, in the reference. -/
import Derived.Test.YtjdedcalbcnkmaaDoorPhrGood
import Derived.Test.YtjdedcalbcnkmaaDoorNum
namespace Go.Proofs.YtjdedcalbcnkmaaDoor
open Go.RowKit

def markT (s : Int) : List UInt8 := if s = 1 then [42, 42] else if s = 2 then [42] else [111]
def copT (c : Int) : List UInt8 := if 1 < c then 40 :: Lib.itoa c ++ [41] else []
def fauT : List Int → List UInt8
  | [] => []
  | f :: l => 33 :: Lib.itoa f ++ fauT l
def priT (p : Int) : List UInt8 := if 0 < p then 61 :: Lib.itoa p else []
def shortT (x : Ph) : List UInt8 := markT x.s ++ copT x.c ++ fauT x.f ++ priT x.p
theorem fau_step {l : List Int} {k : Nat} (h : k < l.length) (acc : List UInt8) : acc ++ fauT (l.drop k) = acc ++ (33 :: Lib.itoa l[k]) ++ fauT (l.drop (k + 1)) := by
  rw [List.drop_eq_getElem_cons h, fauT]; simp
theorem itoa_len' {n : Int} (h0 : 0 ≤ n) (h1 : n ≤ 1000000000) : (Lib.itoa n).length ≤ 100 := by
  have := itoa_len h0 h1
  exact this
theorem rises_len {lo hi : Int} : ∀ {l : List Int} {n : Nat} {p : Int}, riseFrom lo hi (n + 1) p l = true → lo ≤ p → (l.length : Int) ≤ hi - p ∨ l = []
  | [], _, _, _, _ => .inr rfl
  | x :: l, n, p, h, hp => by
    simp only [riseFrom, Bool.and_eq_true, inR_iff, Bool.or_eq_true, decide_eq_true_eq] at h
    obtain ⟨⟨⟨h1, h2⟩, h3⟩, h4⟩ := h
    have h5 : p < x := by omega
    left
    rcases rises_len h4 (by omega) with h6 | h6
    · simp only [List.length_cons]; omega
    · rw [h6]; simp; omega
theorem faults_nine {l : List Int} (h : rises 1 9 l = true) : l.length ≤ 9 := by
  cases l with
  | nil => simp
  | cons x l =>
    unfold rises at h
    simp only [riseFrom, Bool.and_eq_true, inR_iff] at h
    rcases rises_len h.2 (by omega) with h1 | h1
    · simp only [List.length_cons]; omega
    · rw [h1]; simp
/-- The bytes of a text. -/
def bl (s : ByteArray) : List UInt8 := s.data.toList
theorem bl_app (a b : ByteArray) : bl (a ++ b) = bl a ++ bl b := by unfold bl; rw [ByteArray.data_append, Array.toList_append]
theorem bl_mk (l : List UInt8) : bl ⟨l.toArray⟩ = l := by simp [bl]
theorem bl_lit (l : Array UInt8) : bl ⟨l⟩ = l.toList := rfl
theorem bl_size (s : ByteArray) : (bl s).length = s.size := rfl
theorem bl_ext {s : ByteArray} {l : List UInt8} (h : bl s = l) : s = ⟨l.toArray⟩ := by
  rw [← h]; simp [bl]
set_option maxRecDepth 10000 in
theorem size_app (a b : ByteArray) : (a ++ b).size = a.size + b.size := by rw [← bl_size (a ++ b), bl_app, List.length_append, bl_size, bl_size]

set_option maxHeartbeats 2000000 in
theorem l30Short_any (x : Ph) (w : World) (h : IntsR w w.heap.size x.A x.f) (hok : x.ok = true) :
    Calls Tryd.prog 30 #[x.val] w fun e w' => e = .returned (.string ⟨(shortT x).toArray⟩) ∧ Below w.heap.size w w' := by
  obtain ⟨⟨s1, s2⟩, ⟨c1, c2⟩, hr, p1, p2⟩ := Ph.bounds hok
  have hnine := faults_nine hr
  have HRI : Hid (∀ i (hi : i < x.f.length), 1 ≤ x.f[i] ∧ x.f[i] ≤ 9) := fun i hi => by
    rw [rises_eq, Bool.and_eq_true, List.all_eq_true] at hr
    exact inR_iff.1 (hr.2 _ (List.getElem_mem hi))
  clear hr hok
  have hb1 := ((Below.refl w.heap.size w).alloc (Nat.le_refl _) (.cells #[.int .i64 x.s, .int .i64 x.c, .slice x.A x.f.length x.cap, .int .i64 x.p] 28)).alloc (by simp) (.cells #[.string ⟨#[42, 42]⟩, .string ⟨#[42]⟩, .string ⟨#[111]⟩] 9)
  have hS := PhS.of (x := x) ((Lies.new w 28 #[.int .i64 x.s, .int .i64 x.c, .slice x.A x.f.length x.cap, .int .i64 x.p]).alloc (.cells #[.string ⟨#[42, 42]⟩, .string ⟨#[42]⟩, .string ⟨#[111]⟩] 9))
  have hR := SlcR.up h hb1 (Nat.le_refl _)
  have k2 := hS.c2
  have k3 := hS.c3
  clear hS
  have hs : x.s = 1 ∨ x.s = 2 ∨ x.s = 3 := by omega
  by_cases hc1 : 1 < x.c
  · have HC : Hid (copT x.c = 40 :: Lib.itoa x.c ++ [41]) := by unfold copT Hid; rw [if_pos hc1]
    obtain ⟨cv, hcv⟩ : ∃ s : ByteArray, s = ⟨(Lib.itoa x.c).toArray⟩ := ⟨_, rfl⟩
    have hcs : cv.size ≤ 100 := by rw [hcv]; exact itoa_len (by omega) (by omega)
    have NUMC : ∀ W : World, Calls Tryd.prog 35 #[.int .i64 x.c] W fun e w' => e = .returned (.string cv) ∧ Below W.heap.size W w' := by
      intro W; rw [hcv]; exact l1Num_any _ _ (by omega) (by omega)
    replace NUMC := Lib.hid NUMC
    have HCV : Hid (bl cv = Lib.itoa x.c) := by rw [hcv, Hid, bl_mk]
    clear hcv
    rcases hs with hs | hs | hs
    · have HM : Hid (markT x.s = [42, 42]) := by rw [hs]; rfl
      rw [hs] at hb1 hR k2 k3
      clear s1 s2
      go_enter Tryd.func30, Tryd.ntmps30
      go_wp2_with (go_at_call 35; refine (NUMC.out _).mono ?_; rintro e w1 ⟨rfl, hb2⟩)
      generalize ((w.alloc (.cells #[.int .i64 1, .int .i64 x.c, .slice x.A x.f.length x.cap, .int .i64 x.p] 28)).alloc (.cells #[.string ⟨#[42, 42]⟩, .string ⟨#[42]⟩, .string ⟨#[111]⟩] 9)) = W at k2 k3 hb1 hR hb2 ⊢
      go_loopw [3, 4] (fun s i wr => ∃ (k : Nat) (T : ByteArray), k ≤ x.f.length ∧ i = .int .i64 k ∧ s = .string T ∧ T.size ≤ 300 + 101 * k ∧ (∃ q : Since W.heap.size W, wr = q.val) ∧ Hid (bl T ++ fauT (x.f.drop k) = markT x.s ++ copT x.c ++ fauT x.f)) (fun _ i _ => x.f.length - (intOf i).toNat)
      case atStart => exact ⟨0, _, Nat.zero_le _, rfl, rfl, by simp only [size_app]; (have e1 : (⟨#[40]⟩ : ByteArray).size = 1 := rfl); (have e2 : (⟨#[41]⟩ : ByteArray).size = 1 := rfl); (have e3 : (⟨#[42, 42]⟩ : ByteArray).size ≤ 2 := by decide); omega, ⟨⟨_, hb2⟩, rfl⟩, by rw [Hid, HM.out, HC.out, List.drop_zero]; simp [bl_app, bl_lit, HCV.out]⟩
      case round =>
        obtain ⟨k, T, hk, rfl, rfl, hT, ⟨q, rfl⟩, HR⟩ := hrel
        by_cases hlt : k < x.f.length
        · obtain ⟨b, off, hA, hb, hcell⟩ := IntsR.ints hR (by omega)
          have c0 := hcell k hlt
          obtain ⟨f1, f2⟩ := HRI.out k hlt
          have HS := Lib.hid (fau_step hlt (bl T))
          obtain ⟨f, hfe⟩ : ∃ f, f = x.f[k] := ⟨_, rfl⟩
          rw [← hfe] at c0 f1 f2 HS
          simp only [hA] at k2
          clear hfe hcell hA
          obtain ⟨fv, hfv⟩ : ∃ s : ByteArray, s = ⟨(Lib.itoa f).toArray⟩ := ⟨_, rfl⟩
          have hfs : fv.size ≤ 100 := by rw [hfv]; exact itoa_len (by omega) (by omega)
          have NUMF : ∀ W : World, Calls Tryd.prog 35 #[.int .i64 f] W fun e w' => e = .returned (.string fv) ∧ Below W.heap.size W w' := by
            intro W; rw [hfv]; exact l1Num_any _ _ (by omega) (by omega)
          replace NUMF := Lib.hid NUMF
          have HFV : Hid (bl fv = Lib.itoa f) := by rw [hfv, Hid, bl_mk]
          clear hfv
          go_wp2_with (go_at_call 35; refine (NUMF.out _).mono ?_; rintro e w4 ⟨rfl, hb4⟩)
          go_roundw
          case rel => exact ⟨k + 1, _, by omega, by go_num, rfl, by simp only [size_app]; (have e1 : (⟨#[33]⟩ : ByteArray).size = 1 := rfl); omega, ⟨q.go (Nat.le_refl _) hb4, rfl⟩, by have h1 := HR.out; rw [HS.out] at h1; rw [Hid, ← h1]; simp [bl_app, bl_lit, HFV.out]⟩
          case measure => simp [intOf]; omega
        · have HE : Hid (bl T = markT x.s ++ copT x.c ++ fauT x.f) := by
            have h1 := HR.out; rw [List.drop_eq_nil_of_le (by omega), fauT, List.append_nil] at h1; exact h1
          by_cases hp : 0 < x.p
          · have HP : Hid (priT x.p = 61 :: Lib.itoa x.p) := by unfold priT Hid; rw [if_pos hp]
            obtain ⟨pv, hpv⟩ : ∃ s : ByteArray, s = ⟨(Lib.itoa x.p).toArray⟩ := ⟨_, rfl⟩
            have hps : pv.size ≤ 100 := by rw [hpv]; exact itoa_len (by omega) (by omega)
            have NUMP : ∀ W : World, Calls Tryd.prog 35 #[.int .i64 x.p] W fun e w' => e = .returned (.string pv) ∧ Below W.heap.size W w' := by
              intro W; rw [hpv]; exact l1Num_any _ _ (by omega) (by omega)
            replace NUMP := Lib.hid NUMP
            have HPV : Hid (bl pv = Lib.itoa x.p) := by rw [hpv, Hid, bl_mk]
            clear hpv
            go_wp2_with (go_at_call 35; refine (NUMP.out _).mono ?_; rintro e w3 ⟨rfl, hb3⟩)
            go_ret
            exact ⟨congrArg (fun s => Ending.returned (Value.string s)) (bl_ext (by unfold shortT; simp [bl_app, bl_lit, HE.out, HP.out, HPV.out])), hb1.trans ((q.below.trans (hb3.mono q.size)).mono hb1.size)⟩
          · have HP : Hid (priT x.p = []) := by unfold priT Hid; rw [if_neg hp]
            go_wp2
            go_ret
            exact ⟨congrArg (fun s => Ending.returned (Value.string s)) (bl_ext (by unfold shortT; simp [HE.out, HP.out])), hb1.trans (q.below.mono hb1.size)⟩
    · have HM : Hid (markT x.s = [42]) := by rw [hs]; rfl
      rw [hs] at hb1 hR k2 k3
      clear s1 s2
      go_enter Tryd.func30, Tryd.ntmps30
      go_wp2_with (go_at_call 35; refine (NUMC.out _).mono ?_; rintro e w1 ⟨rfl, hb2⟩)
      generalize ((w.alloc (.cells #[.int .i64 2, .int .i64 x.c, .slice x.A x.f.length x.cap, .int .i64 x.p] 28)).alloc (.cells #[.string ⟨#[42, 42]⟩, .string ⟨#[42]⟩, .string ⟨#[111]⟩] 9)) = W at k2 k3 hb1 hR hb2 ⊢
      go_loopw [3, 4] (fun s i wr => ∃ (k : Nat) (T : ByteArray), k ≤ x.f.length ∧ i = .int .i64 k ∧ s = .string T ∧ T.size ≤ 300 + 101 * k ∧ (∃ q : Since W.heap.size W, wr = q.val) ∧ Hid (bl T ++ fauT (x.f.drop k) = markT x.s ++ copT x.c ++ fauT x.f)) (fun _ i _ => x.f.length - (intOf i).toNat)
      case atStart => exact ⟨0, _, Nat.zero_le _, rfl, rfl, by simp only [size_app]; (have e1 : (⟨#[40]⟩ : ByteArray).size = 1 := rfl); (have e2 : (⟨#[41]⟩ : ByteArray).size = 1 := rfl); (have e3 : (⟨#[42]⟩ : ByteArray).size ≤ 2 := by decide); omega, ⟨⟨_, hb2⟩, rfl⟩, by rw [Hid, HM.out, HC.out, List.drop_zero]; simp [bl_app, bl_lit, HCV.out]⟩
      case round =>
        obtain ⟨k, T, hk, rfl, rfl, hT, ⟨q, rfl⟩, HR⟩ := hrel
        by_cases hlt : k < x.f.length
        · obtain ⟨b, off, hA, hb, hcell⟩ := IntsR.ints hR (by omega)
          have c0 := hcell k hlt
          obtain ⟨f1, f2⟩ := HRI.out k hlt
          have HS := Lib.hid (fau_step hlt (bl T))
          obtain ⟨f, hfe⟩ : ∃ f, f = x.f[k] := ⟨_, rfl⟩
          rw [← hfe] at c0 f1 f2 HS
          simp only [hA] at k2
          clear hfe hcell hA
          obtain ⟨fv, hfv⟩ : ∃ s : ByteArray, s = ⟨(Lib.itoa f).toArray⟩ := ⟨_, rfl⟩
          have hfs : fv.size ≤ 100 := by rw [hfv]; exact itoa_len (by omega) (by omega)
          have NUMF : ∀ W : World, Calls Tryd.prog 35 #[.int .i64 f] W fun e w' => e = .returned (.string fv) ∧ Below W.heap.size W w' := by
            intro W; rw [hfv]; exact l1Num_any _ _ (by omega) (by omega)
          replace NUMF := Lib.hid NUMF
          have HFV : Hid (bl fv = Lib.itoa f) := by rw [hfv, Hid, bl_mk]
          clear hfv
          go_wp2_with (go_at_call 35; refine (NUMF.out _).mono ?_; rintro e w4 ⟨rfl, hb4⟩)
          go_roundw
          case rel => exact ⟨k + 1, _, by omega, by go_num, rfl, by simp only [size_app]; (have e1 : (⟨#[33]⟩ : ByteArray).size = 1 := rfl); omega, ⟨q.go (Nat.le_refl _) hb4, rfl⟩, by have h1 := HR.out; rw [HS.out] at h1; rw [Hid, ← h1]; simp [bl_app, bl_lit, HFV.out]⟩
          case measure => simp [intOf]; omega
        · have HE : Hid (bl T = markT x.s ++ copT x.c ++ fauT x.f) := by
            have h1 := HR.out; rw [List.drop_eq_nil_of_le (by omega), fauT, List.append_nil] at h1; exact h1
          by_cases hp : 0 < x.p
          · have HP : Hid (priT x.p = 61 :: Lib.itoa x.p) := by unfold priT Hid; rw [if_pos hp]
            obtain ⟨pv, hpv⟩ : ∃ s : ByteArray, s = ⟨(Lib.itoa x.p).toArray⟩ := ⟨_, rfl⟩
            have hps : pv.size ≤ 100 := by rw [hpv]; exact itoa_len (by omega) (by omega)
            have NUMP : ∀ W : World, Calls Tryd.prog 35 #[.int .i64 x.p] W fun e w' => e = .returned (.string pv) ∧ Below W.heap.size W w' := by
              intro W; rw [hpv]; exact l1Num_any _ _ (by omega) (by omega)
            replace NUMP := Lib.hid NUMP
            have HPV : Hid (bl pv = Lib.itoa x.p) := by rw [hpv, Hid, bl_mk]
            clear hpv
            go_wp2_with (go_at_call 35; refine (NUMP.out _).mono ?_; rintro e w3 ⟨rfl, hb3⟩)
            go_ret
            exact ⟨congrArg (fun s => Ending.returned (Value.string s)) (bl_ext (by unfold shortT; simp [bl_app, bl_lit, HE.out, HP.out, HPV.out])), hb1.trans ((q.below.trans (hb3.mono q.size)).mono hb1.size)⟩
          · have HP : Hid (priT x.p = []) := by unfold priT Hid; rw [if_neg hp]
            go_wp2
            go_ret
            exact ⟨congrArg (fun s => Ending.returned (Value.string s)) (bl_ext (by unfold shortT; simp [HE.out, HP.out])), hb1.trans (q.below.mono hb1.size)⟩
    · have HM : Hid (markT x.s = [111]) := by rw [hs]; rfl
      rw [hs] at hb1 hR k2 k3
      clear s1 s2
      go_enter Tryd.func30, Tryd.ntmps30
      go_wp2_with (go_at_call 35; refine (NUMC.out _).mono ?_; rintro e w1 ⟨rfl, hb2⟩)
      generalize ((w.alloc (.cells #[.int .i64 3, .int .i64 x.c, .slice x.A x.f.length x.cap, .int .i64 x.p] 28)).alloc (.cells #[.string ⟨#[42, 42]⟩, .string ⟨#[42]⟩, .string ⟨#[111]⟩] 9)) = W at k2 k3 hb1 hR hb2 ⊢
      go_loopw [3, 4] (fun s i wr => ∃ (k : Nat) (T : ByteArray), k ≤ x.f.length ∧ i = .int .i64 k ∧ s = .string T ∧ T.size ≤ 300 + 101 * k ∧ (∃ q : Since W.heap.size W, wr = q.val) ∧ Hid (bl T ++ fauT (x.f.drop k) = markT x.s ++ copT x.c ++ fauT x.f)) (fun _ i _ => x.f.length - (intOf i).toNat)
      case atStart => exact ⟨0, _, Nat.zero_le _, rfl, rfl, by simp only [size_app]; (have e1 : (⟨#[40]⟩ : ByteArray).size = 1 := rfl); (have e2 : (⟨#[41]⟩ : ByteArray).size = 1 := rfl); (have e3 : (⟨#[111]⟩ : ByteArray).size ≤ 2 := by decide); omega, ⟨⟨_, hb2⟩, rfl⟩, by rw [Hid, HM.out, HC.out, List.drop_zero]; simp [bl_app, bl_lit, HCV.out]⟩
      case round =>
        obtain ⟨k, T, hk, rfl, rfl, hT, ⟨q, rfl⟩, HR⟩ := hrel
        by_cases hlt : k < x.f.length
        · obtain ⟨b, off, hA, hb, hcell⟩ := IntsR.ints hR (by omega)
          have c0 := hcell k hlt
          obtain ⟨f1, f2⟩ := HRI.out k hlt
          have HS := Lib.hid (fau_step hlt (bl T))
          obtain ⟨f, hfe⟩ : ∃ f, f = x.f[k] := ⟨_, rfl⟩
          rw [← hfe] at c0 f1 f2 HS
          simp only [hA] at k2
          clear hfe hcell hA
          obtain ⟨fv, hfv⟩ : ∃ s : ByteArray, s = ⟨(Lib.itoa f).toArray⟩ := ⟨_, rfl⟩
          have hfs : fv.size ≤ 100 := by rw [hfv]; exact itoa_len (by omega) (by omega)
          have NUMF : ∀ W : World, Calls Tryd.prog 35 #[.int .i64 f] W fun e w' => e = .returned (.string fv) ∧ Below W.heap.size W w' := by
            intro W; rw [hfv]; exact l1Num_any _ _ (by omega) (by omega)
          replace NUMF := Lib.hid NUMF
          have HFV : Hid (bl fv = Lib.itoa f) := by rw [hfv, Hid, bl_mk]
          clear hfv
          go_wp2_with (go_at_call 35; refine (NUMF.out _).mono ?_; rintro e w4 ⟨rfl, hb4⟩)
          go_roundw
          case rel => exact ⟨k + 1, _, by omega, by go_num, rfl, by simp only [size_app]; (have e1 : (⟨#[33]⟩ : ByteArray).size = 1 := rfl); omega, ⟨q.go (Nat.le_refl _) hb4, rfl⟩, by have h1 := HR.out; rw [HS.out] at h1; rw [Hid, ← h1]; simp [bl_app, bl_lit, HFV.out]⟩
          case measure => simp [intOf]; omega
        · have HE : Hid (bl T = markT x.s ++ copT x.c ++ fauT x.f) := by
            have h1 := HR.out; rw [List.drop_eq_nil_of_le (by omega), fauT, List.append_nil] at h1; exact h1
          by_cases hp : 0 < x.p
          · have HP : Hid (priT x.p = 61 :: Lib.itoa x.p) := by unfold priT Hid; rw [if_pos hp]
            obtain ⟨pv, hpv⟩ : ∃ s : ByteArray, s = ⟨(Lib.itoa x.p).toArray⟩ := ⟨_, rfl⟩
            have hps : pv.size ≤ 100 := by rw [hpv]; exact itoa_len (by omega) (by omega)
            have NUMP : ∀ W : World, Calls Tryd.prog 35 #[.int .i64 x.p] W fun e w' => e = .returned (.string pv) ∧ Below W.heap.size W w' := by
              intro W; rw [hpv]; exact l1Num_any _ _ (by omega) (by omega)
            replace NUMP := Lib.hid NUMP
            have HPV : Hid (bl pv = Lib.itoa x.p) := by rw [hpv, Hid, bl_mk]
            clear hpv
            go_wp2_with (go_at_call 35; refine (NUMP.out _).mono ?_; rintro e w3 ⟨rfl, hb3⟩)
            go_ret
            exact ⟨congrArg (fun s => Ending.returned (Value.string s)) (bl_ext (by unfold shortT; simp [bl_app, bl_lit, HE.out, HP.out, HPV.out])), hb1.trans ((q.below.trans (hb3.mono q.size)).mono hb1.size)⟩
          · have HP : Hid (priT x.p = []) := by unfold priT Hid; rw [if_neg hp]
            go_wp2
            go_ret
            exact ⟨congrArg (fun s => Ending.returned (Value.string s)) (bl_ext (by unfold shortT; simp [HE.out, HP.out])), hb1.trans (q.below.mono hb1.size)⟩
  · have HC : Hid (copT x.c = []) := by unfold copT Hid; rw [if_neg hc1]
    rcases hs with hs | hs | hs
    · have HM : Hid (markT x.s = [42, 42]) := by rw [hs]; rfl
      rw [hs] at hb1 hR k2 k3
      clear s1 s2
      go_enter Tryd.func30, Tryd.ntmps30
      go_wp2_with fail
      generalize ((w.alloc (.cells #[.int .i64 1, .int .i64 x.c, .slice x.A x.f.length x.cap, .int .i64 x.p] 28)).alloc (.cells #[.string ⟨#[42, 42]⟩, .string ⟨#[42]⟩, .string ⟨#[111]⟩] 9)) = W at k2 k3 hb1 hR ⊢
      go_loopw [3, 4] (fun s i wr => ∃ (k : Nat) (T : ByteArray), k ≤ x.f.length ∧ i = .int .i64 k ∧ s = .string T ∧ T.size ≤ 300 + 101 * k ∧ (∃ q : Since W.heap.size W, wr = q.val) ∧ Hid (bl T ++ fauT (x.f.drop k) = markT x.s ++ copT x.c ++ fauT x.f)) (fun _ i _ => x.f.length - (intOf i).toNat)
      case atStart => exact ⟨0, _, Nat.zero_le _, rfl, rfl, by (have e3 : (⟨#[42, 42]⟩ : ByteArray).size ≤ 2 := by decide); omega, ⟨Since.start _ _, rfl⟩, by rw [Hid, HM.out, HC.out, List.drop_zero]; simp [bl_lit]⟩
      case round =>
        obtain ⟨k, T, hk, rfl, rfl, hT, ⟨q, rfl⟩, HR⟩ := hrel
        by_cases hlt : k < x.f.length
        · obtain ⟨b, off, hA, hb, hcell⟩ := IntsR.ints hR (by omega)
          have c0 := hcell k hlt
          obtain ⟨f1, f2⟩ := HRI.out k hlt
          have HS := Lib.hid (fau_step hlt (bl T))
          obtain ⟨f, hfe⟩ : ∃ f, f = x.f[k] := ⟨_, rfl⟩
          rw [← hfe] at c0 f1 f2 HS
          simp only [hA] at k2
          clear hfe hcell hA
          obtain ⟨fv, hfv⟩ : ∃ s : ByteArray, s = ⟨(Lib.itoa f).toArray⟩ := ⟨_, rfl⟩
          have hfs : fv.size ≤ 100 := by rw [hfv]; exact itoa_len (by omega) (by omega)
          have NUMF : ∀ W : World, Calls Tryd.prog 35 #[.int .i64 f] W fun e w' => e = .returned (.string fv) ∧ Below W.heap.size W w' := by
            intro W; rw [hfv]; exact l1Num_any _ _ (by omega) (by omega)
          replace NUMF := Lib.hid NUMF
          have HFV : Hid (bl fv = Lib.itoa f) := by rw [hfv, Hid, bl_mk]
          clear hfv
          go_wp2_with (go_at_call 35; refine (NUMF.out _).mono ?_; rintro e w4 ⟨rfl, hb4⟩)
          go_roundw
          case rel => exact ⟨k + 1, _, by omega, by go_num, rfl, by simp only [size_app]; (have e1 : (⟨#[33]⟩ : ByteArray).size = 1 := rfl); omega, ⟨q.go (Nat.le_refl _) hb4, rfl⟩, by have h1 := HR.out; rw [HS.out] at h1; rw [Hid, ← h1]; simp [bl_app, bl_lit, HFV.out]⟩
          case measure => simp [intOf]; omega
        · have HE : Hid (bl T = markT x.s ++ copT x.c ++ fauT x.f) := by
            have h1 := HR.out; rw [List.drop_eq_nil_of_le (by omega), fauT, List.append_nil] at h1; exact h1
          by_cases hp : 0 < x.p
          · have HP : Hid (priT x.p = 61 :: Lib.itoa x.p) := by unfold priT Hid; rw [if_pos hp]
            obtain ⟨pv, hpv⟩ : ∃ s : ByteArray, s = ⟨(Lib.itoa x.p).toArray⟩ := ⟨_, rfl⟩
            have hps : pv.size ≤ 100 := by rw [hpv]; exact itoa_len (by omega) (by omega)
            have NUMP : ∀ W : World, Calls Tryd.prog 35 #[.int .i64 x.p] W fun e w' => e = .returned (.string pv) ∧ Below W.heap.size W w' := by
              intro W; rw [hpv]; exact l1Num_any _ _ (by omega) (by omega)
            replace NUMP := Lib.hid NUMP
            have HPV : Hid (bl pv = Lib.itoa x.p) := by rw [hpv, Hid, bl_mk]
            clear hpv
            go_wp2_with (go_at_call 35; refine (NUMP.out _).mono ?_; rintro e w3 ⟨rfl, hb3⟩)
            go_ret
            exact ⟨congrArg (fun s => Ending.returned (Value.string s)) (bl_ext (by unfold shortT; simp [bl_app, bl_lit, HE.out, HP.out, HPV.out])), hb1.trans ((q.below.trans (hb3.mono q.size)).mono hb1.size)⟩
          · have HP : Hid (priT x.p = []) := by unfold priT Hid; rw [if_neg hp]
            go_wp2
            go_ret
            exact ⟨congrArg (fun s => Ending.returned (Value.string s)) (bl_ext (by unfold shortT; simp [HE.out, HP.out])), hb1.trans (q.below.mono hb1.size)⟩
    · have HM : Hid (markT x.s = [42]) := by rw [hs]; rfl
      rw [hs] at hb1 hR k2 k3
      clear s1 s2
      go_enter Tryd.func30, Tryd.ntmps30
      go_wp2_with fail
      generalize ((w.alloc (.cells #[.int .i64 2, .int .i64 x.c, .slice x.A x.f.length x.cap, .int .i64 x.p] 28)).alloc (.cells #[.string ⟨#[42, 42]⟩, .string ⟨#[42]⟩, .string ⟨#[111]⟩] 9)) = W at k2 k3 hb1 hR ⊢
      go_loopw [3, 4] (fun s i wr => ∃ (k : Nat) (T : ByteArray), k ≤ x.f.length ∧ i = .int .i64 k ∧ s = .string T ∧ T.size ≤ 300 + 101 * k ∧ (∃ q : Since W.heap.size W, wr = q.val) ∧ Hid (bl T ++ fauT (x.f.drop k) = markT x.s ++ copT x.c ++ fauT x.f)) (fun _ i _ => x.f.length - (intOf i).toNat)
      case atStart => exact ⟨0, _, Nat.zero_le _, rfl, rfl, by (have e3 : (⟨#[42]⟩ : ByteArray).size ≤ 2 := by decide); omega, ⟨Since.start _ _, rfl⟩, by rw [Hid, HM.out, HC.out, List.drop_zero]; simp [bl_lit]⟩
      case round =>
        obtain ⟨k, T, hk, rfl, rfl, hT, ⟨q, rfl⟩, HR⟩ := hrel
        by_cases hlt : k < x.f.length
        · obtain ⟨b, off, hA, hb, hcell⟩ := IntsR.ints hR (by omega)
          have c0 := hcell k hlt
          obtain ⟨f1, f2⟩ := HRI.out k hlt
          have HS := Lib.hid (fau_step hlt (bl T))
          obtain ⟨f, hfe⟩ : ∃ f, f = x.f[k] := ⟨_, rfl⟩
          rw [← hfe] at c0 f1 f2 HS
          simp only [hA] at k2
          clear hfe hcell hA
          obtain ⟨fv, hfv⟩ : ∃ s : ByteArray, s = ⟨(Lib.itoa f).toArray⟩ := ⟨_, rfl⟩
          have hfs : fv.size ≤ 100 := by rw [hfv]; exact itoa_len (by omega) (by omega)
          have NUMF : ∀ W : World, Calls Tryd.prog 35 #[.int .i64 f] W fun e w' => e = .returned (.string fv) ∧ Below W.heap.size W w' := by
            intro W; rw [hfv]; exact l1Num_any _ _ (by omega) (by omega)
          replace NUMF := Lib.hid NUMF
          have HFV : Hid (bl fv = Lib.itoa f) := by rw [hfv, Hid, bl_mk]
          clear hfv
          go_wp2_with (go_at_call 35; refine (NUMF.out _).mono ?_; rintro e w4 ⟨rfl, hb4⟩)
          go_roundw
          case rel => exact ⟨k + 1, _, by omega, by go_num, rfl, by simp only [size_app]; (have e1 : (⟨#[33]⟩ : ByteArray).size = 1 := rfl); omega, ⟨q.go (Nat.le_refl _) hb4, rfl⟩, by have h1 := HR.out; rw [HS.out] at h1; rw [Hid, ← h1]; simp [bl_app, bl_lit, HFV.out]⟩
          case measure => simp [intOf]; omega
        · have HE : Hid (bl T = markT x.s ++ copT x.c ++ fauT x.f) := by
            have h1 := HR.out; rw [List.drop_eq_nil_of_le (by omega), fauT, List.append_nil] at h1; exact h1
          by_cases hp : 0 < x.p
          · have HP : Hid (priT x.p = 61 :: Lib.itoa x.p) := by unfold priT Hid; rw [if_pos hp]
            obtain ⟨pv, hpv⟩ : ∃ s : ByteArray, s = ⟨(Lib.itoa x.p).toArray⟩ := ⟨_, rfl⟩
            have hps : pv.size ≤ 100 := by rw [hpv]; exact itoa_len (by omega) (by omega)
            have NUMP : ∀ W : World, Calls Tryd.prog 35 #[.int .i64 x.p] W fun e w' => e = .returned (.string pv) ∧ Below W.heap.size W w' := by
              intro W; rw [hpv]; exact l1Num_any _ _ (by omega) (by omega)
            replace NUMP := Lib.hid NUMP
            have HPV : Hid (bl pv = Lib.itoa x.p) := by rw [hpv, Hid, bl_mk]
            clear hpv
            go_wp2_with (go_at_call 35; refine (NUMP.out _).mono ?_; rintro e w3 ⟨rfl, hb3⟩)
            go_ret
            exact ⟨congrArg (fun s => Ending.returned (Value.string s)) (bl_ext (by unfold shortT; simp [bl_app, bl_lit, HE.out, HP.out, HPV.out])), hb1.trans ((q.below.trans (hb3.mono q.size)).mono hb1.size)⟩
          · have HP : Hid (priT x.p = []) := by unfold priT Hid; rw [if_neg hp]
            go_wp2
            go_ret
            exact ⟨congrArg (fun s => Ending.returned (Value.string s)) (bl_ext (by unfold shortT; simp [HE.out, HP.out])), hb1.trans (q.below.mono hb1.size)⟩
    · have HM : Hid (markT x.s = [111]) := by rw [hs]; rfl
      rw [hs] at hb1 hR k2 k3
      clear s1 s2
      go_enter Tryd.func30, Tryd.ntmps30
      go_wp2_with fail
      generalize ((w.alloc (.cells #[.int .i64 3, .int .i64 x.c, .slice x.A x.f.length x.cap, .int .i64 x.p] 28)).alloc (.cells #[.string ⟨#[42, 42]⟩, .string ⟨#[42]⟩, .string ⟨#[111]⟩] 9)) = W at k2 k3 hb1 hR ⊢
      go_loopw [3, 4] (fun s i wr => ∃ (k : Nat) (T : ByteArray), k ≤ x.f.length ∧ i = .int .i64 k ∧ s = .string T ∧ T.size ≤ 300 + 101 * k ∧ (∃ q : Since W.heap.size W, wr = q.val) ∧ Hid (bl T ++ fauT (x.f.drop k) = markT x.s ++ copT x.c ++ fauT x.f)) (fun _ i _ => x.f.length - (intOf i).toNat)
      case atStart => exact ⟨0, _, Nat.zero_le _, rfl, rfl, by (have e3 : (⟨#[111]⟩ : ByteArray).size ≤ 2 := by decide); omega, ⟨Since.start _ _, rfl⟩, by rw [Hid, HM.out, HC.out, List.drop_zero]; simp [bl_lit]⟩
      case round =>
        obtain ⟨k, T, hk, rfl, rfl, hT, ⟨q, rfl⟩, HR⟩ := hrel
        by_cases hlt : k < x.f.length
        · obtain ⟨b, off, hA, hb, hcell⟩ := IntsR.ints hR (by omega)
          have c0 := hcell k hlt
          obtain ⟨f1, f2⟩ := HRI.out k hlt
          have HS := Lib.hid (fau_step hlt (bl T))
          obtain ⟨f, hfe⟩ : ∃ f, f = x.f[k] := ⟨_, rfl⟩
          rw [← hfe] at c0 f1 f2 HS
          simp only [hA] at k2
          clear hfe hcell hA
          obtain ⟨fv, hfv⟩ : ∃ s : ByteArray, s = ⟨(Lib.itoa f).toArray⟩ := ⟨_, rfl⟩
          have hfs : fv.size ≤ 100 := by rw [hfv]; exact itoa_len (by omega) (by omega)
          have NUMF : ∀ W : World, Calls Tryd.prog 35 #[.int .i64 f] W fun e w' => e = .returned (.string fv) ∧ Below W.heap.size W w' := by
            intro W; rw [hfv]; exact l1Num_any _ _ (by omega) (by omega)
          replace NUMF := Lib.hid NUMF
          have HFV : Hid (bl fv = Lib.itoa f) := by rw [hfv, Hid, bl_mk]
          clear hfv
          go_wp2_with (go_at_call 35; refine (NUMF.out _).mono ?_; rintro e w4 ⟨rfl, hb4⟩)
          go_roundw
          case rel => exact ⟨k + 1, _, by omega, by go_num, rfl, by simp only [size_app]; (have e1 : (⟨#[33]⟩ : ByteArray).size = 1 := rfl); omega, ⟨q.go (Nat.le_refl _) hb4, rfl⟩, by have h1 := HR.out; rw [HS.out] at h1; rw [Hid, ← h1]; simp [bl_app, bl_lit, HFV.out]⟩
          case measure => simp [intOf]; omega
        · have HE : Hid (bl T = markT x.s ++ copT x.c ++ fauT x.f) := by
            have h1 := HR.out; rw [List.drop_eq_nil_of_le (by omega), fauT, List.append_nil] at h1; exact h1
          by_cases hp : 0 < x.p
          · have HP : Hid (priT x.p = 61 :: Lib.itoa x.p) := by unfold priT Hid; rw [if_pos hp]
            obtain ⟨pv, hpv⟩ : ∃ s : ByteArray, s = ⟨(Lib.itoa x.p).toArray⟩ := ⟨_, rfl⟩
            have hps : pv.size ≤ 100 := by rw [hpv]; exact itoa_len (by omega) (by omega)
            have NUMP : ∀ W : World, Calls Tryd.prog 35 #[.int .i64 x.p] W fun e w' => e = .returned (.string pv) ∧ Below W.heap.size W w' := by
              intro W; rw [hpv]; exact l1Num_any _ _ (by omega) (by omega)
            replace NUMP := Lib.hid NUMP
            have HPV : Hid (bl pv = Lib.itoa x.p) := by rw [hpv, Hid, bl_mk]
            clear hpv
            go_wp2_with (go_at_call 35; refine (NUMP.out _).mono ?_; rintro e w3 ⟨rfl, hb3⟩)
            go_ret
            exact ⟨congrArg (fun s => Ending.returned (Value.string s)) (bl_ext (by unfold shortT; simp [bl_app, bl_lit, HE.out, HP.out, HPV.out])), hb1.trans ((q.below.trans (hb3.mono q.size)).mono hb1.size)⟩
          · have HP : Hid (priT x.p = []) := by unfold priT Hid; rw [if_neg hp]
            go_wp2
            go_ret
            exact ⟨congrArg (fun s => Ending.returned (Value.string s)) (bl_ext (by unfold shortT; simp [HE.out, HP.out])), hb1.trans (q.below.mono hb1.size)⟩
end Go.Proofs.YtjdedcalbcnkmaaDoor
