/- The text of a list of phrases, in the reference and in the program. -/
import Derived.Test.YtjdedcalbcnkmaaDoorShortText
import Derived.Test.YtjdedcalbcnkmaaDoorJoinInts
namespace Go.Proofs.YtjdedcalbcnkmaaDoor
open Go.RowKit

theorem fau_len : ∀ l : List Int, (∀ f ∈ l, 1 ≤ f ∧ f ≤ 9) → (fauT l).length ≤ 101 * l.length
  | [], _ => by simp [fauT]
  | f :: l, h => by
    have h1 := fau_len l fun y hy => h y (List.mem_cons_of_mem _ hy)
    have h2 := h f List.mem_cons_self
    have h3 := itoa_len' (n := f) (by omega) (by omega)
    simp only [fauT, List.length_cons, List.length_append]; omega
theorem short_len {x : Ph} (hok : x.ok = true) : (shortT x).length ≤ 1500 := by
  obtain ⟨⟨s1, s2⟩, ⟨c1, c2⟩, hr, p1, p2⟩ := Ph.bounds hok
  have hnine := faults_nine hr
  have hf := fau_len x.f fun f hf => by
    rw [rises_eq, Bool.and_eq_true, List.all_eq_true] at hr
    exact inR_iff.1 (hr.2 _ hf)
  have h1 : (markT x.s).length ≤ 2 := by unfold markT; split; · simp
                                         · split <;> simp
  have h2 : (copT x.c).length ≤ 102 := by
    unfold copT; split
    · have := itoa_len' (n := x.c) (by omega) (by omega)
      simp only [List.length_cons, List.length_append, List.length_nil]; omega
    · simp
  have h3 : (priT x.p).length ≤ 101 := by
    unfold priT; split
    · have := itoa_len' (n := x.p) (by omega) (by omega)
      simp only [List.length_cons]; omega
    · simp
  unfold shortT
  simp only [List.length_append]; omega
def listFrom : Nat → List Ph → List UInt8
  | _, [] => []
  | k, x :: l => (if k = 0 then [] else [32]) ++ shortT x ++ listFrom (k + 1) l
def listT (l : List Ph) : List UInt8 := Lib.join (l.map shortT) [32]
theorem listFrom_step {l : List Ph} {k : Nat} (h : k < l.length) : listFrom k (l.drop k) = (if k = 0 then [] else [32]) ++ shortT l[k] ++ listFrom (k + 1) (l.drop (k + 1)) := by
  rw [List.drop_eq_getElem_cons h, listFrom]
theorem listFrom_tail : ∀ (l : List Ph) (k : Nat), listFrom (k + 1) l = Lib.joinTail [32] (l.map shortT)
  | [], _ => rfl
  | x :: l, k => by rw [listFrom, listFrom_tail l]; simp [Lib.joinTail]
theorem listFrom_join (l : List Ph) : listFrom 0 l = listT l := by
  cases l with
  | nil => rfl
  | cons x l => rw [listFrom, listFrom_tail, listT, List.map_cons, Lib.join_cons]; simp

set_option maxRecDepth 100000 in
set_option maxHeartbeats 2000000 in
theorem specListText_any (A : Option Addr) (c : Nat) (l : List Ph) (w : World) (h : PhsR w w.heap.size A l) :
    Calls Tryd.prog 16 #[.slice A l.length c] w fun e w' => e = .returned (.tuple #[.string (okT (goodPhs l) (listT l)), .bool (goodPhs l)]) ∧ Below w.heap.size w w' := by
  have hl := h.slc.big
  have hrd := h.ph
  have hf : Hid (∀ i (hi : i < l.length), IntsR w w.heap.size l[i].A l[i].f) := fun i hi => h.f hi
  cases hg : goodPhs l
  · have HG := Lib.hid hg; clear hg hrd
    go_enter Tryd.func16, Tryd.ntmps16
    go_wp2_with (go_at_call 38; refine (l30Good_any A c l _ h).mono ?_; rw [HG.out]; rintro e w1 ⟨rfl, hb1⟩)
    go_ret2
    exact ⟨rfl, hb1⟩
  · skip
    have h10 := good_len hg
    have HA : Hid (∀ i (hi : i < l.length), l[i].ok = true) := fun i hi => good_at hg hi
    have HG := Lib.hid hg; clear hg
    go_enter Tryd.func16, Tryd.ntmps16
    go_wp2_with (go_at_call 38; refine (l30Good_any A c l _ h).mono ?_; rw [HG.out]; rintro e w1 ⟨rfl, hb1⟩)
    go_loopw [4, 5] (fun s i wr => ∃ (k : Nat) (T : ByteArray), k ≤ l.length ∧ i = .int .i64 k ∧ s = .string T ∧ T.size ≤ 1600 * k ∧ (∃ q : Since w.heap.size w, wr = q.val) ∧ Hid (bl T ++ listFrom k (l.drop k) = listFrom 0 l)) (fun _ i _ => l.length - (intOf i).toNat)
    case atStart => exact ⟨0, _, Nat.zero_le _, rfl, rfl, Nat.zero_le _, ⟨⟨_, hb1⟩, rfl⟩, by rw [Hid, List.drop_zero, bl_lit]; rfl⟩
    case round =>
      clear hb1
      obtain ⟨k, T, hk, rfl, rfl, hT, ⟨q, rfl⟩, HR⟩ := hrel
      by_cases hlt : k < l.length
      · obtain ⟨b, off, rfl, hb, hcell⟩ := hrd (by omega)
        obtain ⟨c0, c1, c2, c3⟩ := hcell k hlt
        have hx : ∀ p : Since w.heap.size w, IntsR p.val p.val.heap.size l[k].A l[k].f := fun p => SlcR.up (hf.out k hlt) p.below (Nat.le_refl _)
        have HOK := Lib.hid (HA.out k hlt)
        have HS := Lib.hid (listFrom_step hlt)
        obtain ⟨x, hxe⟩ : ∃ x, x = l[k] := ⟨_, rfl⟩
        rw [← hxe] at c0 c1 c2 c3 hx HOK HS
        clear hxe hcell hrd
        have hsl := short_len HOK.out
        obtain ⟨sv, hsv⟩ : ∃ s : ByteArray, s = ⟨(shortT x).toArray⟩ := ⟨_, rfl⟩
        have hss : sv.size ≤ 1500 := by rw [← bl_size, hsv, bl_mk]; exact hsl
        have SH : ∀ W : World, IntsR W W.heap.size x.A x.f → Calls Tryd.prog 30 #[x.val] W fun e w' => e = .returned (.string sv) ∧ Below W.heap.size W w' := by
          intro W hW; rw [hsv]; exact l30Short_any x W hW HOK.out
        replace SH := Lib.hid SH
        have HSV : Hid (bl sv = shortT x) := by rw [hsv, Hid, bl_mk]
        clear hsv hsl
        rcases Nat.eq_zero_or_pos k with h0 | h0
        · have hd : decide (0 < k) = false := decide_eq_false (by omega)
          have H0 := Lib.hid h0; clear h0
          go_wp2_with (go_at_call 30; refine (SH.out _ (hx q)).mono ?_; rintro e w4 ⟨rfl, hb4⟩)
          go_roundw
          case rel => exact ⟨k + 1, _, by omega, by go_num, rfl, by simp only [size_app]; omega, ⟨q.go (Nat.le_refl _) hb4, rfl⟩, by have h1 := HR.out; rw [HS.out, if_pos H0.out] at h1; rw [Hid, ← h1]; simp [bl_app, HSV.out]⟩
          case measure => simp [intOf]; omega
        · have hd : decide (0 < k) = true := decide_eq_true h0
          have h0' : ¬ k = 0 := by omega
          have H0 := Lib.hid h0'; clear h0'
          go_wp2_with (go_at_call 30; refine (SH.out _ (hx q)).mono ?_; rintro e w4 ⟨rfl, hb4⟩)
          go_roundw
          case rel => exact ⟨k + 1, _, by omega, by go_num, rfl, by simp only [size_app]; (have e1 : (⟨#[32]⟩ : ByteArray).size = 1 := rfl); omega, ⟨q.go (Nat.le_refl _) hb4, rfl⟩, by have h1 := HR.out; rw [HS.out, if_neg H0.out] at h1; rw [Hid, ← h1]; simp [bl_app, bl_lit, HSV.out]⟩
          case measure => simp [intOf]; omega
      · have HF : okT true (listT l) = T := by
          have h1 := HR.out; rw [List.drop_eq_nil_of_le (by omega), listFrom, List.append_nil, listFrom_join] at h1
          exact (bl_ext h1).symm
        replace HF := Lib.hid HF
        clear hrd
        go_wp2
        go_ret2
        rw [HF.out]
        exact ⟨rfl, q.below⟩
end Go.Proofs.YtjdedcalbcnkmaaDoor
