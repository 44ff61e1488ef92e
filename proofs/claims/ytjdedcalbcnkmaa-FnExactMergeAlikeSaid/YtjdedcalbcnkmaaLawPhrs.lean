/- Laws over phrases with scalar results: the walks. (Printed by lawgen_phr.py) -/
import Derived.Test.YtjdedcalbcnkmaaPhrSum
namespace Go.Proofs.Ytjdedcalbcnkmaa
open Go.RowKit

theorem fsum_ph : ∀ {a b : List Ph}, a.map Ph.ph = b.map Ph.ph → fsum a = fsum b
  | [], [], _ => rfl
  | [], _ :: _, h => by simp at h
  | _ :: _, [], h => by simp at h
  | x :: a, y :: b, h => by
    simp only [List.map_cons, List.cons.injEq] at h
    have h1 : x.f = y.f := by have h1 := h.1; unfold Ph.ph at h1; injection h1 with h1 h2; injection h2 with h2 h3; injection h3 with h3 h4
    rw [fsum, fsum, h1, fsum_ph h.2]
theorem need_ph {a b : List Ph} (h : a.map Ph.ph = b.map Ph.ph) : need a = need b := by unfold need; rw [len_of_ph h, fsum_ph h]
theorem fsum_mem {l : List Ph} {x : Ph} (h : x ∈ l) : x.f.length ≤ fsum l := by
  induction l with
  | nil => cases h
  | cons y l ih =>
    rcases List.mem_cons.1 h with rfl | h
    · simp [fsum]
    · have := ih h; simp only [fsum]; omega
/-- A copy of phrases reads. -/
theorem OwnPhs.phs {w : World} {G : Nat} {l m : List Ph} {rest : List Value} (h : OwnPhs w G m rest) (hm : m.map Ph.ph = l.map Ph.ph) (hn : need l ≤ 1048576) : PhsR w w.heap.size (some ⟨G, 0, none⟩) m := by
  have hn' : need m ≤ 1048576 := by rw [need_ph hm]; exact hn
  unfold need at hn'
  exact h.reads (by omega) fun x hx => by have := fsum_mem hx; omega
theorem samePhs_of {a b c : List Ph} (h : a.map Ph.ph = c.map Ph.ph) (k : b.map Ph.ph = c.map Ph.ph) : samePhs a b = true := by unfold samePhs; exact decide_eq_true (h.trans k.symm)

set_option maxHeartbeats 2000000 in
theorem lawWorthOf_any (A : Option Addr) (c : Nat) (l : List Ph) (w : World) (h : PhsR w w.heap.size A l) :
    Calls Try.prog 4 #[.slice A l.length c] w fun e w' => e = .returned (.bool true) ∧ Below w.heap.size w w' := by
  by_cases hbig : (need l : Int) ≤ 1048576
  · have HS : lessen 1048576 (need l) = 1048576 - need l := by unfold lessen; rw [if_pos (by omega)]
    have HZ := Lib.hid HS; clear HS
    have hbn : need l ≤ 1048576 := by omega
    obtain ⟨v, hv⟩ : ∃ v, v = okOf (goodPhs l) (sumFrom worthV 0 l) := ⟨_, rfl⟩
    obtain ⟨ok, hok⟩ : ∃ ok, ok = (goodPhs l) := ⟨_, rfl⟩
    have cS : ∀ (m : List Ph) (_ : m.map Ph.ph = l.map Ph.ph) A c W, PhsR W W.heap.size A m → Calls Try.prog 17 #[.slice A m.length c] W fun e w' => e = .returned (.tuple #[.int .i64 v, .bool ok]) ∧ Below W.heap.size W w' := fun m hm A c W h => by
      have := specWorthOf_any A c m W h
      rw [good_ph hm, sum_ph worthV_ph 0 hm] at this
      rw [hv, hok]; exact this
    have cI : ∀ (m : List Ph) (_ : m.map Ph.ph = l.map Ph.ph) A c W, PhsR W W.heap.size A m → Calls Try.prog 19 #[.slice A m.length c] W fun e w' => e = .returned (.tuple #[.int .i64 v, .bool ok]) ∧ Below W.heap.size W w' := fun m hm A c W h => by
      have := implWorthOf_any A c m W h
      rw [good_ph hm, sum_ph worthV_ph 0 hm] at this
      rw [hv, hok]; exact this
    clear hv hok
    go_enter Try.func4, Try.ntmps4
    go_wp2_with fail
    refine (szPhraseS_any A c l _ _ (by omega) (by omega) h).mono ?_
    rintro e w0 ⟨rfl, hb0⟩
    rw [HZ.out]
    go_wp2_with fail
    refine (toPhraseS_any A c l _ (h.then hb0) hbn).mono ?_
    rintro e w1 ⟨G1, m1, rfl, hg1, hm1, ho1, hb1⟩
    have HM1 := Lib.hid hm1; clear hm1
    have k1 := bthen hb0 hb1
    go_wp2_with fail
    refine (cS m1 HM1.out _ _ _ (ho1.phs HM1.out hbn)).mono ?_
    rintro e w2 ⟨rfl, hb2⟩
    have k2 := bthen k1 hb2
    go_wp2_with fail
    refine (toPhraseS_any A c l _ (h.then k2) hbn).mono ?_
    rintro e w3 ⟨G3, m3, rfl, hg3, hm3, ho3, hb3⟩
    have HM3 := Lib.hid hm3; clear hm3
    have k3 := bthen k2 hb3
    go_wp2_with fail
    refine (cI m3 HM3.out _ _ _ (ho3.phs HM3.out hbn)).mono ?_
    rintro e w4 ⟨rfl, hb4⟩
    have k4 := bthen k3 hb4
    go_wp2_with fail
    refine (toPhraseS_any A c l _ (h.then k4) hbn).mono ?_
    rintro e w5 ⟨G5, m5, rfl, hg5, hm5, ho5, hb5⟩
    have HM5 := Lib.hid hm5; clear hm5
    have k5 := bthen k4 hb5
    go_wp2_with fail
    refine (eqPhraseS_any _ _ _ _ m3 m5 _ ((ho3.phs HM3.out hbn).then (bthen hb4 hb5)) (ho5.phs HM5.out hbn)).mono ?_
    rintro e w6 ⟨rfl, hb6⟩
    have k6 := bthen k5 hb6
    rw [samePhs_of HM3.out HM5.out]
    go_wp2_with fail
    go_ret
    exact ⟨rfl, k6⟩
  · have HS : lessen 1048576 (need l) = -1 := by unfold lessen; rw [if_neg (by omega)]
    have HZ := Lib.hid HS; clear HS
    go_enter Try.func4, Try.ntmps4
    go_wp2_with fail
    refine (szPhraseS_any A c l _ _ (by omega) (by omega) h).mono ?_
    rintro e w0 ⟨rfl, hb0⟩
    rw [HZ.out]
    go_wp2_with fail
    go_ret
    exact ⟨rfl, hb0⟩

set_option maxHeartbeats 2000000 in
theorem lawCleanCopies_any (A : Option Addr) (c : Nat) (l : List Ph) (w : World) (h : PhsR w w.heap.size A l) :
    Calls Try.prog 5 #[.slice A l.length c] w fun e w' => e = .returned (.bool true) ∧ Below w.heap.size w w' := by
  by_cases hbig : (need l : Int) ≤ 1048576
  · have HS : lessen 1048576 (need l) = 1048576 - need l := by unfold lessen; rw [if_pos (by omega)]
    have HZ := Lib.hid HS; clear HS
    have hbn : need l ≤ 1048576 := by omega
    obtain ⟨v, hv⟩ : ∃ v, v = okOf (goodPhs l) (sumFrom cleanV 0 l) := ⟨_, rfl⟩
    obtain ⟨ok, hok⟩ : ∃ ok, ok = (goodPhs l) := ⟨_, rfl⟩
    have cS : ∀ (m : List Ph) (_ : m.map Ph.ph = l.map Ph.ph) A c W, PhsR W W.heap.size A m → Calls Try.prog 21 #[.slice A m.length c] W fun e w' => e = .returned (.tuple #[.int .i64 v, .bool ok]) ∧ Below W.heap.size W w' := fun m hm A c W h => by
      have := specCleanCopies_any A c m W h
      rw [good_ph hm, sum_ph cleanV_ph 0 hm] at this
      rw [hv, hok]; exact this
    have cI : ∀ (m : List Ph) (_ : m.map Ph.ph = l.map Ph.ph) A c W, PhsR W W.heap.size A m → Calls Try.prog 22 #[.slice A m.length c] W fun e w' => e = .returned (.tuple #[.int .i64 v, .bool ok]) ∧ Below W.heap.size W w' := fun m hm A c W h => by
      have := implCleanCopies_any A c m W h
      rw [good_ph hm, sum_ph cleanV_ph 0 hm] at this
      rw [hv, hok]; exact this
    clear hv hok
    go_enter Try.func5, Try.ntmps5
    go_wp2_with fail
    refine (szPhraseS_any A c l _ _ (by omega) (by omega) h).mono ?_
    rintro e w0 ⟨rfl, hb0⟩
    rw [HZ.out]
    go_wp2_with fail
    refine (toPhraseS_any A c l _ (h.then hb0) hbn).mono ?_
    rintro e w1 ⟨G1, m1, rfl, hg1, hm1, ho1, hb1⟩
    have HM1 := Lib.hid hm1; clear hm1
    have k1 := bthen hb0 hb1
    go_wp2_with fail
    refine (cS m1 HM1.out _ _ _ (ho1.phs HM1.out hbn)).mono ?_
    rintro e w2 ⟨rfl, hb2⟩
    have k2 := bthen k1 hb2
    go_wp2_with fail
    refine (toPhraseS_any A c l _ (h.then k2) hbn).mono ?_
    rintro e w3 ⟨G3, m3, rfl, hg3, hm3, ho3, hb3⟩
    have HM3 := Lib.hid hm3; clear hm3
    have k3 := bthen k2 hb3
    go_wp2_with fail
    refine (cI m3 HM3.out _ _ _ (ho3.phs HM3.out hbn)).mono ?_
    rintro e w4 ⟨rfl, hb4⟩
    have k4 := bthen k3 hb4
    go_wp2_with fail
    refine (toPhraseS_any A c l _ (h.then k4) hbn).mono ?_
    rintro e w5 ⟨G5, m5, rfl, hg5, hm5, ho5, hb5⟩
    have HM5 := Lib.hid hm5; clear hm5
    have k5 := bthen k4 hb5
    go_wp2_with fail
    refine (eqPhraseS_any _ _ _ _ m3 m5 _ ((ho3.phs HM3.out hbn).then (bthen hb4 hb5)) (ho5.phs HM5.out hbn)).mono ?_
    rintro e w6 ⟨rfl, hb6⟩
    have k6 := bthen k5 hb6
    rw [samePhs_of HM3.out HM5.out]
    go_wp2_with fail
    go_ret
    exact ⟨rfl, k6⟩
  · have HS : lessen 1048576 (need l) = -1 := by unfold lessen; rw [if_neg (by omega)]
    have HZ := Lib.hid HS; clear HS
    go_enter Try.func5, Try.ntmps5
    go_wp2_with fail
    refine (szPhraseS_any A c l _ _ (by omega) (by omega) h).mono ?_
    rintro e w0 ⟨rfl, hb0⟩
    rw [HZ.out]
    go_wp2_with fail
    go_ret
    exact ⟨rfl, hb0⟩

set_option maxHeartbeats 2000000 in
theorem lawCountState_any (A : Option Addr) (c : Nat) (l : List Ph) (st : Int) (hst : -9223372036854775808 ≤ st) (hst' : st ≤ 9223372036854775807) (w : World) (h : PhsR w w.heap.size A l) :
    Calls Try.prog 6 #[.slice A l.length c, .int .i64 st] w fun e w' => e = .returned (.bool true) ∧ Below w.heap.size w w' := by
  by_cases hbig : (need l : Int) ≤ 1048576
  · have HS : lessen 1048576 (need l) = 1048576 - need l := by unfold lessen; rw [if_pos (by omega)]
    have HZ := Lib.hid HS; clear HS
    have hbn : need l ≤ 1048576 := by omega
    obtain ⟨v, hv⟩ : ∃ v, v = okOf (goodPhs l && inR st 1 3) (sumFrom (stateV st) 0 l) := ⟨_, rfl⟩
    obtain ⟨ok, hok⟩ : ∃ ok, ok = (goodPhs l && inR st 1 3) := ⟨_, rfl⟩
    have cS : ∀ (m : List Ph) (_ : m.map Ph.ph = l.map Ph.ph) A c W, PhsR W W.heap.size A m → Calls Try.prog 23 #[.slice A m.length c, .int .i64 st] W fun e w' => e = .returned (.tuple #[.int .i64 v, .bool ok]) ∧ Below W.heap.size W w' := fun m hm A c W h => by
      have := specCountState_any A c m st hst hst' W h
      rw [good_ph hm, sum_ph (stateV_ph st) 0 hm] at this
      rw [hv, hok]; exact this
    have cI : ∀ (m : List Ph) (_ : m.map Ph.ph = l.map Ph.ph) A c W, PhsR W W.heap.size A m → Calls Try.prog 24 #[.slice A m.length c, .int .i64 st] W fun e w' => e = .returned (.tuple #[.int .i64 v, .bool ok]) ∧ Below W.heap.size W w' := fun m hm A c W h => by
      have := implCountState_any A c m st hst hst' W h
      rw [good_ph hm, sum_ph (stateV_ph st) 0 hm] at this
      rw [hv, hok]; exact this
    clear hv hok
    go_enter Try.func6, Try.ntmps6
    go_wp2_with fail
    refine (szPhraseS_any A c l _ _ (by omega) (by omega) h).mono ?_
    rintro e w0 ⟨rfl, hb0⟩
    rw [HZ.out]
    go_wp2_with fail
    refine (toPhraseS_any A c l _ (h.then hb0) hbn).mono ?_
    rintro e w1 ⟨G1, m1, rfl, hg1, hm1, ho1, hb1⟩
    have HM1 := Lib.hid hm1; clear hm1
    have k1 := bthen hb0 hb1
    go_wp2_with fail
    refine (cS m1 HM1.out _ _ _ (ho1.phs HM1.out hbn)).mono ?_
    rintro e w2 ⟨rfl, hb2⟩
    have k2 := bthen k1 hb2
    go_wp2_with fail
    refine (toPhraseS_any A c l _ (h.then k2) hbn).mono ?_
    rintro e w3 ⟨G3, m3, rfl, hg3, hm3, ho3, hb3⟩
    have HM3 := Lib.hid hm3; clear hm3
    have k3 := bthen k2 hb3
    go_wp2_with fail
    refine (cI m3 HM3.out _ _ _ (ho3.phs HM3.out hbn)).mono ?_
    rintro e w4 ⟨rfl, hb4⟩
    have k4 := bthen k3 hb4
    go_wp2_with fail
    refine (toPhraseS_any A c l _ (h.then k4) hbn).mono ?_
    rintro e w5 ⟨G5, m5, rfl, hg5, hm5, ho5, hb5⟩
    have HM5 := Lib.hid hm5; clear hm5
    have k5 := bthen k4 hb5
    go_wp2_with fail
    refine (eqPhraseS_any _ _ _ _ m3 m5 _ ((ho3.phs HM3.out hbn).then (bthen hb4 hb5)) (ho5.phs HM5.out hbn)).mono ?_
    rintro e w6 ⟨rfl, hb6⟩
    have k6 := bthen k5 hb6
    rw [samePhs_of HM3.out HM5.out]
    go_wp2_with fail
    go_ret
    exact ⟨rfl, k6⟩
  · have HS : lessen 1048576 (need l) = -1 := by unfold lessen; rw [if_neg (by omega)]
    have HZ := Lib.hid HS; clear HS
    go_enter Try.func6, Try.ntmps6
    go_wp2_with fail
    refine (szPhraseS_any A c l _ _ (by omega) (by omega) h).mono ?_
    rintro e w0 ⟨rfl, hb0⟩
    rw [HZ.out]
    go_wp2_with fail
    go_ret
    exact ⟨rfl, hb0⟩
end Go.Proofs.Ytjdedcalbcnkmaa
