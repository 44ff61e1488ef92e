/- Sums over phrases: WorthOf, CleanCopies, CountState, in the reference and in the program. (Printed by gen_phrsum.py) -/
import Derived.Test.YtjdedcalbcnkmaaPhrGood
namespace Go.Proofs.Ytjdedcalbcnkmaa
open Go.RowKit

def sumFrom (f : Ph → Int) : Int → List Ph → Int
  | a, [] => a
  | a, x :: l => sumFrom f (a + f x) l
theorem sum_step {l : List Ph} {k : Nat} (h : k < l.length) (f : Ph → Int) (a : Int) : sumFrom f a (l.drop k) = sumFrom f (a + f l[k]) (l.drop (k + 1)) := by
  rw [List.drop_eq_getElem_cons h]; rfl
theorem sum_ph {f : Ph → Int} (hf : ∀ x y : Ph, x.ph = y.ph → f x = f y) : ∀ {a b : List Ph} (s : Int), a.map Ph.ph = b.map Ph.ph → sumFrom f s a = sumFrom f s b
  | [], [], _, _ => rfl
  | [], _ :: _, _, h => by simp at h
  | _ :: _, [], _, h => by simp at h
  | x :: a, y :: b, s, h => by
    simp only [List.map_cons, List.cons.injEq] at h
    rw [sumFrom, sumFrom, hf x y h.1]; exact sum_ph hf _ h.2
def worthV (x : Ph) : Int := x.c * x.p
def cleanV (x : Ph) : Int := if x.f.length = 0 then x.c else 0
def stateV (st : Int) (x : Ph) : Int := if x.s = st then x.c else 0
theorem worthV_ph (x y : Ph) (h : x.ph = y.ph) : worthV x = worthV y := by
  unfold Ph.ph at h; injection h with h1 h2; injection h2 with h2 h3; injection h3 with h3 h4; unfold worthV; rw [h2, h4]
theorem cleanV_ph (x y : Ph) (h : x.ph = y.ph) : cleanV x = cleanV y := by
  unfold Ph.ph at h; injection h with h1 h2; injection h2 with h2 h3; injection h3 with h3 h4; unfold cleanV; rw [h2, h3]
theorem stateV_ph (st : Int) (x y : Ph) (h : x.ph = y.ph) : stateV st x = stateV st y := by
  unfold Ph.ph at h; injection h with h1 h2; injection h2 with h2 h3; injection h3 with h3 h4; unfold stateV; rw [h1, h2]
theorem worthV_bd {x : Ph} (h : x.ok = true) : 0 ≤ x.c * x.p ∧ x.c * x.p ≤ 98999901 := by
  obtain ⟨_, ⟨h1, h2⟩, _, h3, h4⟩ := Ph.bounds h
  refine ⟨Int.mul_nonneg (by omega) h3, ?_⟩
  have := Int.mul_le_mul h2 h4 h3 (by omega : (0 : Int) ≤ 99)
  omega
def okOf (g : Bool) (v : Int) : Int := if g then v else 0

set_option maxHeartbeats 1000000 in
theorem specWorthOf_any (A : Option Addr) (c : Nat) (l : List Ph) (w : World) (h : PhsR w w.heap.size A l) :
    Calls Try.prog 17 #[.slice A l.length c] w fun e w' => e = .returned (.tuple #[.int .i64 (okOf (goodPhs l) (sumFrom worthV 0 l)), .bool (goodPhs l)]) ∧ Below w.heap.size w w' := by
  have hl := h.slc.big
  have hrd := h.ph
  cases hg : goodPhs l
  · have HG := Lib.hid hg; clear hg hrd
    go_enter Try.func17, Try.ntmps17
    go_wp2_with (go_at_call 45; refine (l30Good_any A c l _ h).mono ?_; rw [HG.out]; rintro e w1 ⟨rfl, hb1⟩)
    go_ret2
    exact ⟨rfl, hb1⟩
  · skip
    have h10 := good_len hg
    have HA : Hid (∀ i (hi : i < l.length), l[i].ok = true) := fun i hi => good_at hg hi
    have HG := Lib.hid hg; clear hg
    have HS0 : Hid (sumFrom worthV 0 (l.drop 0) = sumFrom worthV 0 l) := rfl
    go_enter Try.func17, Try.ntmps17
    go_wp2_with (go_at_call 45; refine (l30Good_any A c l _ h).mono ?_; rw [HG.out]; rintro e w1 ⟨rfl, hb1⟩)
    go_loopw [4, 5] (fun s i wr => ∃ (k : Nat) (t : Int), k ≤ l.length ∧ i = .int .i64 k ∧ s = .int .i64 t ∧ (0 ≤ t ∧ t ≤ 98999901 * (k : Int)) ∧ (∃ q : Since w.heap.size w, wr = q.val) ∧ Hid (sumFrom worthV t (l.drop k) = sumFrom worthV 0 l)) (fun _ i _ => l.length - (intOf i).toNat)
    case atStart => exact ⟨0, 0, Nat.zero_le _, rfl, rfl, by omega, ⟨⟨_, hb1⟩, rfl⟩, HS0⟩
    case round =>
      clear hb1
      obtain ⟨k, t, hk, rfl, rfl, ⟨t0, t1⟩, ⟨q, rfl⟩, HR⟩ := hrel
      by_cases hlt : k < l.length
      · obtain ⟨b, off, rfl, hb, hcell⟩ := hrd (by omega)
        obtain ⟨c0, c1, c2, c3⟩ := hcell k hlt
        have hxo := HA.out k hlt
        have HS : Hid (sumFrom worthV t (l.drop k) = sumFrom worthV (t + worthV l[k]) (l.drop (k + 1))) := sum_step hlt _ _
        obtain ⟨x, hxe⟩ : ∃ x, x = l[k] := ⟨_, rfl⟩
        rw [← hxe] at c0 c1 c2 c3 hxo HS
        clear hxe hcell hrd
        obtain ⟨m1, m2⟩ := worthV_bd hxo
        obtain ⟨⟨xs1, xs2⟩, ⟨xc1, xc2⟩, _, xp1, xp2⟩ := Ph.bounds hxo
        clear hxo
        have hm : IntKind.i64.wrap (x.c * x.p) = x.c * x.p := IntWalk.i64_in _ (by omega)
        have ha : IntKind.i64.wrap (t + x.c * x.p) = t + x.c * x.p := IntWalk.i64_in _ (by omega)
        go_wp2
        refine wp_region_since _ (by kernel_rfl) (by kernel_rfl) ?_
        repeat (any_goals (first | go_big_quiet_step ((fail)) | (refine wpQuiet_step (fun K hK => ?_); go_simp; split <;> (refine hK _ ?_; clear hK K))))
        all_goals (refine wpQuiet_nil ?_; rintro _ ⟨q1, rfl⟩)
        go_wp2
        go_roundw
        case rel => exact ⟨k + 1, t + x.c * x.p, by omega, by go_num, rfl, by omega, ⟨q1, rfl⟩, Lib.hid (by have h1 := HR.out; rw [HS.out] at h1; exact h1)⟩
        case measure => simp [intOf]; omega
      · have HE : Hid (t = sumFrom worthV 0 l) := by
          have h1 := HR.out; rw [List.drop_eq_nil_of_le (by omega)] at h1; exact h1
        clear hrd
        go_wp2
        go_ret2
        exact ⟨by rw [← HE.out]; rfl, q.below⟩

set_option maxHeartbeats 1000000 in
theorem implWorthOf_any (A : Option Addr) (c : Nat) (l : List Ph) (w : World) (h : PhsR w w.heap.size A l) :
    Calls Try.prog 19 #[.slice A l.length c] w fun e w' => e = .returned (.tuple #[.int .i64 (okOf (goodPhs l) (sumFrom worthV 0 l)), .bool (goodPhs l)]) ∧ Below w.heap.size w w' := by
  have hl := h.slc.big
  have hrd := h.ph
  cases hg : goodPhs l
  · have HG := Lib.hid hg; clear hg hrd
    go_enter Try.func19, Try.ntmps19
    go_wp2_with (go_at_call 46; refine (arePhrases_any A c l _ h).mono ?_; rw [HG.out]; rintro e w1 ⟨rfl, hb1⟩)
    go_ret2
    exact ⟨rfl, hb1⟩
  · skip
    have h10 := good_len hg
    have HA : Hid (∀ i (hi : i < l.length), l[i].ok = true) := fun i hi => good_at hg hi
    have HG := Lib.hid hg; clear hg
    have HS0 : Hid (sumFrom worthV 0 (l.drop 0) = sumFrom worthV 0 l) := rfl
    go_enter Try.func19, Try.ntmps19
    go_wp2_with (go_at_call 46; refine (arePhrases_any A c l _ h).mono ?_; rw [HG.out]; rintro e w1 ⟨rfl, hb1⟩)
    go_loopw [4, 12] (fun s i wr => ∃ (k : Nat) (t : Int), k ≤ l.length ∧ i = .int .i64 k ∧ s = .int .i64 t ∧ (0 ≤ t ∧ t ≤ 98999901 * (k : Int)) ∧ (∃ q : Since w.heap.size w, wr = q.val) ∧ Hid (sumFrom worthV t (l.drop k) = sumFrom worthV 0 l)) (fun _ i _ => l.length - (intOf i).toNat)
    case atStart => exact ⟨0, 0, Nat.zero_le _, rfl, rfl, by omega, ⟨⟨_, hb1⟩, rfl⟩, HS0⟩
    case round =>
      clear hb1
      obtain ⟨k, t, hk, rfl, rfl, ⟨t0, t1⟩, ⟨q, rfl⟩, HR⟩ := hrel
      by_cases hlt : k < l.length
      · obtain ⟨b, off, rfl, hb, hcell⟩ := hrd (by omega)
        obtain ⟨c0, c1, c2, c3⟩ := hcell k hlt
        have hxo := HA.out k hlt
        have HS : Hid (sumFrom worthV t (l.drop k) = sumFrom worthV (t + worthV l[k]) (l.drop (k + 1))) := sum_step hlt _ _
        obtain ⟨x, hxe⟩ : ∃ x, x = l[k] := ⟨_, rfl⟩
        rw [← hxe] at c0 c1 c2 c3 hxo HS
        clear hxe hcell hrd
        obtain ⟨m1, m2⟩ := worthV_bd hxo
        obtain ⟨⟨xs1, xs2⟩, ⟨xc1, xc2⟩, _, xp1, xp2⟩ := Ph.bounds hxo
        clear hxo
        have hm : IntKind.i64.wrap (x.c * x.p) = x.c * x.p := IntWalk.i64_in _ (by omega)
        have ha : IntKind.i64.wrap (t + x.c * x.p) = t + x.c * x.p := IntWalk.i64_in _ (by omega)
        go_wp2
        go_roundw
        case rel => exact ⟨k + 1, t + x.c * x.p, by omega, by go_num, rfl, by omega, ⟨⟨_, q.below.alloc q.size _⟩, rfl⟩, Lib.hid (by have h1 := HR.out; rw [HS.out] at h1; exact h1)⟩
        case measure => simp [intOf]; omega
      · have HE : Hid (t = sumFrom worthV 0 l) := by
          have h1 := HR.out; rw [List.drop_eq_nil_of_le (by omega)] at h1; exact h1
        clear hrd
        go_wp2
        go_ret2
        exact ⟨by rw [← HE.out]; rfl, q.below⟩

set_option maxHeartbeats 1000000 in
theorem specCleanCopies_any (A : Option Addr) (c : Nat) (l : List Ph) (w : World) (h : PhsR w w.heap.size A l) :
    Calls Try.prog 21 #[.slice A l.length c] w fun e w' => e = .returned (.tuple #[.int .i64 (okOf (goodPhs l) (sumFrom cleanV 0 l)), .bool (goodPhs l)]) ∧ Below w.heap.size w w' := by
  have hl := h.slc.big
  have hrd := h.ph
  cases hg : goodPhs l
  · have HG := Lib.hid hg; clear hg hrd
    go_enter Try.func21, Try.ntmps21
    go_wp2_with (go_at_call 45; refine (l30Good_any A c l _ h).mono ?_; rw [HG.out]; rintro e w1 ⟨rfl, hb1⟩)
    go_ret2
    exact ⟨rfl, hb1⟩
  · skip
    have h10 := good_len hg
    have HA : Hid (∀ i (hi : i < l.length), l[i].ok = true) := fun i hi => good_at hg hi
    have HG := Lib.hid hg; clear hg
    have HS0 : Hid (sumFrom cleanV 0 (l.drop 0) = sumFrom cleanV 0 l) := rfl
    go_enter Try.func21, Try.ntmps21
    go_wp2_with (go_at_call 45; refine (l30Good_any A c l _ h).mono ?_; rw [HG.out]; rintro e w1 ⟨rfl, hb1⟩)
    go_loopw [4, 5] (fun s i wr => ∃ (k : Nat) (t : Int), k ≤ l.length ∧ i = .int .i64 k ∧ s = .int .i64 t ∧ (0 ≤ t ∧ t ≤ 99 * (k : Int)) ∧ (∃ q : Since w.heap.size w, wr = q.val) ∧ Hid (sumFrom cleanV t (l.drop k) = sumFrom cleanV 0 l)) (fun _ i _ => l.length - (intOf i).toNat)
    case atStart => exact ⟨0, 0, Nat.zero_le _, rfl, rfl, by omega, ⟨⟨_, hb1⟩, rfl⟩, HS0⟩
    case round =>
      clear hb1
      obtain ⟨k, t, hk, rfl, rfl, ⟨t0, t1⟩, ⟨q, rfl⟩, HR⟩ := hrel
      by_cases hlt : k < l.length
      · obtain ⟨b, off, rfl, hb, hcell⟩ := hrd (by omega)
        obtain ⟨c0, c1, c2, c3⟩ := hcell k hlt
        have hxo := HA.out k hlt
        have HS : Hid (sumFrom cleanV t (l.drop k) = sumFrom cleanV (t + cleanV l[k]) (l.drop (k + 1))) := sum_step hlt _ _
        obtain ⟨x, hxe⟩ : ∃ x, x = l[k] := ⟨_, rfl⟩
        rw [← hxe] at c0 c1 c2 c3 hxo HS
        clear hxe hcell hrd
        obtain ⟨m1, m2⟩ := worthV_bd hxo
        obtain ⟨⟨xs1, xs2⟩, ⟨xc1, xc2⟩, _, xp1, xp2⟩ := Ph.bounds hxo
        clear hxo
        have ha : IntKind.i64.wrap (t + x.c) = t + x.c := IntWalk.i64_in _ (by omega)
        by_cases hz : x.f.length = 0
        · have HE : Hid (cleanV x = x.c) := by unfold Hid cleanV; rw [if_pos hz]
          have hv : ((x.f.length : Int) == 0) = true := by simp [hz]
          clear hz
          go_wp2
          go_roundw
          case rel => exact ⟨k + 1, t + x.c, by omega, by go_num, rfl, by omega, ⟨q, rfl⟩, Lib.hid (by have h1 := HR.out; rw [HS.out, HE.out] at h1; exact h1)⟩
          case measure => simp [intOf]; omega
        · have HE : Hid (cleanV x = 0) := by unfold Hid cleanV; rw [if_neg hz]
          have hv : ((x.f.length : Int) == 0) = false := by simp [hz]
          clear hz
          go_wp2
          go_roundw
          case rel => exact ⟨k + 1, t, by omega, by go_num, rfl, by omega, ⟨q, rfl⟩, Lib.hid (by have h1 := HR.out; rw [HS.out, HE.out, Int.add_zero] at h1; exact h1)⟩
          case measure => simp [intOf]; omega
      · have HE : Hid (t = sumFrom cleanV 0 l) := by
          have h1 := HR.out; rw [List.drop_eq_nil_of_le (by omega)] at h1; exact h1
        clear hrd
        go_wp2
        go_ret2
        exact ⟨by rw [← HE.out]; rfl, q.below⟩

set_option maxHeartbeats 1000000 in
theorem implCleanCopies_any (A : Option Addr) (c : Nat) (l : List Ph) (w : World) (h : PhsR w w.heap.size A l) :
    Calls Try.prog 22 #[.slice A l.length c] w fun e w' => e = .returned (.tuple #[.int .i64 (okOf (goodPhs l) (sumFrom cleanV 0 l)), .bool (goodPhs l)]) ∧ Below w.heap.size w w' := by
  have hl := h.slc.big
  have hrd := h.ph
  cases hg : goodPhs l
  · have HG := Lib.hid hg; clear hg hrd
    go_enter Try.func22, Try.ntmps22
    go_wp2_with (go_at_call 46; refine (arePhrases_any A c l _ h).mono ?_; rw [HG.out]; rintro e w1 ⟨rfl, hb1⟩)
    go_ret2
    exact ⟨rfl, hb1⟩
  · skip
    have h10 := good_len hg
    have HA : Hid (∀ i (hi : i < l.length), l[i].ok = true) := fun i hi => good_at hg hi
    have HG := Lib.hid hg; clear hg
    have HS0 : Hid (sumFrom cleanV 0 (l.drop 0) = sumFrom cleanV 0 l) := rfl
    go_enter Try.func22, Try.ntmps22
    go_wp2_with (go_at_call 46; refine (arePhrases_any A c l _ h).mono ?_; rw [HG.out]; rintro e w1 ⟨rfl, hb1⟩)
    go_loopw [4, 12] (fun s i wr => ∃ (k : Nat) (t : Int), k ≤ l.length ∧ i = .int .i64 k ∧ s = .int .i64 t ∧ (0 ≤ t ∧ t ≤ 99 * (k : Int)) ∧ (∃ q : Since w.heap.size w, wr = q.val) ∧ Hid (sumFrom cleanV t (l.drop k) = sumFrom cleanV 0 l)) (fun _ i _ => l.length - (intOf i).toNat)
    case atStart => exact ⟨0, 0, Nat.zero_le _, rfl, rfl, by omega, ⟨⟨_, hb1⟩, rfl⟩, HS0⟩
    case round =>
      clear hb1
      obtain ⟨k, t, hk, rfl, rfl, ⟨t0, t1⟩, ⟨q, rfl⟩, HR⟩ := hrel
      by_cases hlt : k < l.length
      · obtain ⟨b, off, rfl, hb, hcell⟩ := hrd (by omega)
        obtain ⟨c0, c1, c2, c3⟩ := hcell k hlt
        have hxo := HA.out k hlt
        have HS : Hid (sumFrom cleanV t (l.drop k) = sumFrom cleanV (t + cleanV l[k]) (l.drop (k + 1))) := sum_step hlt _ _
        obtain ⟨x, hxe⟩ : ∃ x, x = l[k] := ⟨_, rfl⟩
        rw [← hxe] at c0 c1 c2 c3 hxo HS
        clear hxe hcell hrd
        obtain ⟨m1, m2⟩ := worthV_bd hxo
        obtain ⟨⟨xs1, xs2⟩, ⟨xc1, xc2⟩, _, xp1, xp2⟩ := Ph.bounds hxo
        clear hxo
        have ha : IntKind.i64.wrap (t + x.c) = t + x.c := IntWalk.i64_in _ (by omega)
        by_cases hz : x.f.length = 0
        · have HE : Hid (cleanV x = x.c) := by unfold Hid cleanV; rw [if_pos hz]
          have hv : ((x.f.length : Int) == 0) = true := by simp [hz]
          clear hz
          go_wp2
          go_roundw
          case rel => exact ⟨k + 1, t + x.c, by omega, by go_num, rfl, by omega, ⟨⟨_, q.below.alloc q.size _⟩, rfl⟩, Lib.hid (by have h1 := HR.out; rw [HS.out, HE.out] at h1; exact h1)⟩
          case measure => simp [intOf]; omega
        · have HE : Hid (cleanV x = 0) := by unfold Hid cleanV; rw [if_neg hz]
          have hv : ((x.f.length : Int) == 0) = false := by simp [hz]
          clear hz
          go_wp2
          go_roundw
          case rel => exact ⟨k + 1, t, by omega, by go_num, rfl, by omega, ⟨⟨_, q.below.alloc q.size _⟩, rfl⟩, Lib.hid (by have h1 := HR.out; rw [HS.out, HE.out, Int.add_zero] at h1; exact h1)⟩
          case measure => simp [intOf]; omega
      · have HE : Hid (t = sumFrom cleanV 0 l) := by
          have h1 := HR.out; rw [List.drop_eq_nil_of_le (by omega)] at h1; exact h1
        clear hrd
        go_wp2
        go_ret2
        exact ⟨by rw [← HE.out]; rfl, q.below⟩

set_option maxHeartbeats 1000000 in
theorem specCountState_any (A : Option Addr) (c : Nat) (l : List Ph) (st : Int) (_hst : -9223372036854775808 ≤ st) (_hst' : st ≤ 9223372036854775807) (w : World) (h : PhsR w w.heap.size A l) :
    Calls Try.prog 23 #[.slice A l.length c, .int .i64 st] w fun e w' => e = .returned (.tuple #[.int .i64 (okOf (goodPhs l && inR st 1 3) (sumFrom (stateV st) 0 l)), .bool (goodPhs l && inR st 1 3)]) ∧ Below w.heap.size w w' := by
  have hl := h.slc.big
  have hrd := h.ph
  cases hg : goodPhs l
  · have HG := Lib.hid hg; clear hg hrd
    go_enter Try.func23, Try.ntmps23
    go_wp2_with (go_at_call 45; refine (l30Good_any A c l _ h).mono ?_; rw [HG.out]; rintro e w1 ⟨rfl, hb1⟩)
    go_ret2
    exact ⟨rfl, hb1⟩
  · cases hi : inR st 1 3
    · have HG := Lib.hid hg; clear hg hrd
      have HI := Lib.hid hi; clear hi
      go_enter Try.func23, Try.ntmps23
      go_wp2_with (first | (go_at_call 45; refine (l30Good_any A c l _ h).mono ?_; rw [HG.out]; rintro e w1 ⟨rfl, hb1⟩) | (go_at_call 47; refine (l1In_any _ _ _ _).mono ?_; rw [HI.out]; rintro e w2 ⟨rfl, rfl⟩))
      go_ret2
      exact ⟨rfl, hb1⟩
    · have HI := Lib.hid hi; clear hi
      have h10 := good_len hg
      have HA : Hid (∀ i (hi : i < l.length), l[i].ok = true) := fun i hi => good_at hg hi
      have HG := Lib.hid hg; clear hg
      have HS0 : Hid (sumFrom (stateV st) 0 (l.drop 0) = sumFrom (stateV st) 0 l) := rfl
      go_enter Try.func23, Try.ntmps23
      go_wp2_with (first | (go_at_call 45; refine (l30Good_any A c l _ h).mono ?_; rw [HG.out]; rintro e w1 ⟨rfl, hb1⟩) | (go_at_call 47; refine (l1In_any _ _ _ _).mono ?_; rw [HI.out]; rintro e w2 ⟨rfl, rfl⟩))
      go_loopw [6, 7] (fun s i wr => ∃ (k : Nat) (t : Int), k ≤ l.length ∧ i = .int .i64 k ∧ s = .int .i64 t ∧ (0 ≤ t ∧ t ≤ 99 * (k : Int)) ∧ (∃ q : Since w.heap.size w, wr = q.val) ∧ Hid (sumFrom (stateV st) t (l.drop k) = sumFrom (stateV st) 0 l)) (fun _ i _ => l.length - (intOf i).toNat)
      case atStart => exact ⟨0, 0, Nat.zero_le _, rfl, rfl, by omega, ⟨⟨_, hb1⟩, rfl⟩, HS0⟩
      case round =>
        clear hb1
        obtain ⟨k, t, hk, rfl, rfl, ⟨t0, t1⟩, ⟨q, rfl⟩, HR⟩ := hrel
        by_cases hlt : k < l.length
        · obtain ⟨b, off, rfl, hb, hcell⟩ := hrd (by omega)
          obtain ⟨c0, c1, c2, c3⟩ := hcell k hlt
          have hxo := HA.out k hlt
          have HS : Hid (sumFrom (stateV st) t (l.drop k) = sumFrom (stateV st) (t + (stateV st) l[k]) (l.drop (k + 1))) := sum_step hlt _ _
          obtain ⟨x, hxe⟩ : ∃ x, x = l[k] := ⟨_, rfl⟩
          rw [← hxe] at c0 c1 c2 c3 hxo HS
          clear hxe hcell hrd
          obtain ⟨m1, m2⟩ := worthV_bd hxo
          obtain ⟨⟨xs1, xs2⟩, ⟨xc1, xc2⟩, _, xp1, xp2⟩ := Ph.bounds hxo
          clear hxo
          have ha : IntKind.i64.wrap (t + x.c) = t + x.c := IntWalk.i64_in _ (by omega)
          by_cases hz : x.s = st
          · have HE : Hid ((stateV st) x = x.c) := by unfold Hid stateV; rw [if_pos hz]
            have hv : (x.s == st) = true := by simp [hz]
            clear hz
            go_wp2
            go_roundw
            case rel => exact ⟨k + 1, t + x.c, by omega, by go_num, rfl, by omega, ⟨q, rfl⟩, Lib.hid (by have h1 := HR.out; rw [HS.out, HE.out] at h1; exact h1)⟩
            case measure => simp [intOf]; omega
          · have HE : Hid ((stateV st) x = 0) := by unfold Hid stateV; rw [if_neg hz]
            have hv : (x.s == st) = false := by simp [hz]
            clear hz
            go_wp2
            go_roundw
            case rel => exact ⟨k + 1, t, by omega, by go_num, rfl, by omega, ⟨q, rfl⟩, Lib.hid (by have h1 := HR.out; rw [HS.out, HE.out, Int.add_zero] at h1; exact h1)⟩
            case measure => simp [intOf]; omega
        · have HE : Hid (t = sumFrom (stateV st) 0 l) := by
            have h1 := HR.out; rw [List.drop_eq_nil_of_le (by omega)] at h1; exact h1
          clear hrd
          go_wp2
          go_ret2
          exact ⟨by rw [← HE.out]; rfl, q.below⟩

set_option maxHeartbeats 1000000 in
theorem implCountState_any (A : Option Addr) (c : Nat) (l : List Ph) (st : Int) (_hst : -9223372036854775808 ≤ st) (_hst' : st ≤ 9223372036854775807) (w : World) (h : PhsR w w.heap.size A l) :
    Calls Try.prog 24 #[.slice A l.length c, .int .i64 st] w fun e w' => e = .returned (.tuple #[.int .i64 (okOf (goodPhs l && inR st 1 3) (sumFrom (stateV st) 0 l)), .bool (goodPhs l && inR st 1 3)]) ∧ Below w.heap.size w w' := by
  have hl := h.slc.big
  have hrd := h.ph
  cases hg : goodPhs l
  · have HG := Lib.hid hg; clear hg hrd
    go_enter Try.func24, Try.ntmps24
    go_wp2_with (go_at_call 46; refine (arePhrases_any A c l _ h).mono ?_; rw [HG.out]; rintro e w1 ⟨rfl, hb1⟩)
    go_ret2
    exact ⟨rfl, hb1⟩
  · cases hi : inR st 1 3
    · have HG := Lib.hid hg; clear hg hrd
      have HI := Lib.hid hi; clear hi
      go_enter Try.func24, Try.ntmps24
      go_wp2_with (first | (go_at_call 46; refine (arePhrases_any A c l _ h).mono ?_; rw [HG.out]; rintro e w1 ⟨rfl, hb1⟩) | (go_at_call 48; refine (inRange_any _ _ _ _).mono ?_; rw [HI.out]; rintro e w2 ⟨rfl, rfl⟩))
      go_ret2
      exact ⟨rfl, hb1⟩
    · have HI := Lib.hid hi; clear hi
      have h10 := good_len hg
      have HA : Hid (∀ i (hi : i < l.length), l[i].ok = true) := fun i hi => good_at hg hi
      have HG := Lib.hid hg; clear hg
      have HS0 : Hid (sumFrom (stateV st) 0 (l.drop 0) = sumFrom (stateV st) 0 l) := rfl
      go_enter Try.func24, Try.ntmps24
      go_wp2_with (first | (go_at_call 46; refine (arePhrases_any A c l _ h).mono ?_; rw [HG.out]; rintro e w1 ⟨rfl, hb1⟩) | (go_at_call 48; refine (inRange_any _ _ _ _).mono ?_; rw [HI.out]; rintro e w2 ⟨rfl, rfl⟩))
      go_loopw [6, 19] (fun s i wr => ∃ (k : Nat) (t : Int), k ≤ l.length ∧ i = .int .i64 k ∧ s = .int .i64 t ∧ (0 ≤ t ∧ t ≤ 99 * (k : Int)) ∧ (∃ q : Since w.heap.size w, wr = q.val) ∧ Hid (sumFrom (stateV st) t (l.drop k) = sumFrom (stateV st) 0 l)) (fun _ i _ => l.length - (intOf i).toNat)
      case atStart => exact ⟨0, 0, Nat.zero_le _, rfl, rfl, by omega, ⟨⟨_, hb1⟩, rfl⟩, HS0⟩
      case round =>
        clear hb1
        obtain ⟨k, t, hk, rfl, rfl, ⟨t0, t1⟩, ⟨q, rfl⟩, HR⟩ := hrel
        by_cases hlt : k < l.length
        · obtain ⟨b, off, rfl, hb, hcell⟩ := hrd (by omega)
          obtain ⟨c0, c1, c2, c3⟩ := hcell k hlt
          have hxo := HA.out k hlt
          have HS : Hid (sumFrom (stateV st) t (l.drop k) = sumFrom (stateV st) (t + (stateV st) l[k]) (l.drop (k + 1))) := sum_step hlt _ _
          obtain ⟨x, hxe⟩ : ∃ x, x = l[k] := ⟨_, rfl⟩
          rw [← hxe] at c0 c1 c2 c3 hxo HS
          clear hxe hcell hrd
          obtain ⟨m1, m2⟩ := worthV_bd hxo
          obtain ⟨⟨xs1, xs2⟩, ⟨xc1, xc2⟩, _, xp1, xp2⟩ := Ph.bounds hxo
          clear hxo
          have ha : IntKind.i64.wrap (t + x.c) = t + x.c := IntWalk.i64_in _ (by omega)
          by_cases hz : x.s = st
          · have HE : Hid ((stateV st) x = x.c) := by unfold Hid stateV; rw [if_pos hz]
            have hv : (x.s == st) = true := by simp [hz]
            clear hz
            go_wp2
            go_roundw
            case rel => exact ⟨k + 1, t + x.c, by omega, by go_num, rfl, by omega, ⟨⟨_, q.below.alloc q.size _⟩, rfl⟩, Lib.hid (by have h1 := HR.out; rw [HS.out, HE.out] at h1; exact h1)⟩
            case measure => simp [intOf]; omega
          · have HE : Hid ((stateV st) x = 0) := by unfold Hid stateV; rw [if_neg hz]
            have hv : (x.s == st) = false := by simp [hz]
            clear hz
            go_wp2
            go_roundw
            case rel => exact ⟨k + 1, t, by omega, by go_num, rfl, by omega, ⟨⟨_, q.below.alloc q.size _⟩, rfl⟩, Lib.hid (by have h1 := HR.out; rw [HS.out, HE.out, Int.add_zero] at h1; exact h1)⟩
            case measure => simp [intOf]; omega
        · have HE : Hid (t = sumFrom (stateV st) 0 l) := by
            have h1 := HR.out; rw [List.drop_eq_nil_of_le (by omega)] at h1; exact h1
          clear hrd
          go_wp2
          go_ret2
          exact ⟨by rw [← HE.out]; rfl, q.below⟩
end Go.Proofs.Ytjdedcalbcnkmaa
