/- The law FnExactStockAfter: the walk. -/
import Derived.Test.YtgdjdejfegkjdaaLawsA
import Derived.Test.YtgdjdejfegkjdaaRowStock
namespace Go.Proofs.Ytgdjdejfegkjdaa
open Go.RowKit

set_option maxHeartbeats 2000000 in
theorem lawStockAfter_any (A : Option Addr) (c : Nat) (l : List Row) (x : Int) (hx : -9223372036854775808 ≤ x) (hx' : x ≤ 9223372036854775807) (w : World) (h : RowsR w w.heap.size A l) :
    Calls Try.prog 10 #[.slice A l.length c, .int .i64 x] w fun e w' => e = .returned (.bool true) ∧ Below w.heap.size w w' := by
  have hl := h.big
  by_cases hbig : (l.length : Int) ≤ 1048576
  · have HS : lessen 1048576 l.length = 1048576 - l.length := by unfold lessen; rw [if_pos (by omega)]
    have HZ := Lib.hid HS; clear HS
    obtain ⟨vs, hvs⟩ : ∃ vs, vs = stockR l x := ⟨_, rfl⟩
    obtain ⟨ok, hok⟩ : ∃ ok, ok = stockOk l x := ⟨_, rfl⟩
    have hlen : vs.length ≤ 1048577 := by rw [hvs]; exact (stockR_len l x (by omega))
    have cS := fun A c w => specStock_any A c l x w hx hx'
    have cI := fun A c w => implStock_any A c l x w hx hx'
    rw [← hvs, ← hok] at cS cI
    clear hvs hok
    have hbn : (ok != ok) = false := by simp
    have HQ : Hid (sameInts vs vs = true) := by unfold sameInts Hid; exact decide_eq_true rfl
    have HR : Hid ((ramp 1 vs.length).length = vs.length) := ramp_len 1 _
    go_enter Try.func10, Try.ntmps10
    go_wp2_with fail
    refine (szRows_any A _ c _ _ hl (by omega) (by omega)).mono ?_
    rintro e w0 ⟨rfl, rfl⟩
    rw [HZ.out]
    go_wp2_with fail
    refine (toRows_any A c l _ h (by omega)).mono ?_
    rintro e w1 ⟨g1, rfl, hg1, hl1, hb1⟩
    go_wp2_with fail
    refine (cS _ _ _ (lies_rows hl1 hl)).mono ?_
    rintro e w2 ⟨A2, c2, rfl, o2, hb2⟩
    have k2 := bthen hb1 hb2
    go_wp2_with fail
    refine (toRows_any A c l _ (h.then k2) (by omega)).mono ?_
    rintro e w3 ⟨g3, rfl, hg3, hl3, hb3⟩
    have k3 := bthen k2 hb3
    go_wp2_with fail
    refine (cI _ _ _ (lies_rows hl3 hl)).mono ?_
    rintro e w4 ⟨A4, c4, rfl, o4, hb4⟩
    have k4 := bthen k3 hb4
    have i2 : IntsR w4 w2.heap.size A2 vs := o2.reads.below (hb3.trans (hb4.mono hb3.size))
    have hs4 : w2.heap.size ≤ w4.heap.size := Nat.le_trans hb3.size hb4.size
    go_wp2_with fail
    refine (eqIntS_any _ _ _ _ vs vs _ o4.reads (i2.mono hs4)).mono ?_
    rintro e w5 ⟨rfl, hb5⟩
    have k5 := bthen k4 hb5
    have j2 : IntsR w5 w2.heap.size A2 vs := i2.below (hb5.mono hs4)
    have p4 := o4.then hb5
    rw [HQ.out]
    go_wp2_with fail
    refine (toRows_any A c l _ (h.then k5) (by omega)).mono ?_
    rintro e w6 ⟨g6, rfl, hg6, hl6, hb6⟩
    have k6 := bthen k5 hb6
    have b46 := bthen hb5 hb6
    have m3 : Lies w6 g3 25 (l.flatMap Row.enc) := (hl3.below hb4 hl3.lt).below b46 (Nat.lt_of_lt_of_le hl3.lt hb4.size)
    go_wp2_with fail
    refine (eqRows_any _ _ _ _ l l _ (lies_rows m3 hl) (lies_rows hl6 hl)).mono ?_
    rintro e w7 ⟨rfl, hb7⟩
    have k7 := bthen k6 hb7
    have n3 : Lies w7 g3 25 (l.flatMap Row.enc) := m3.below hb7 m3.lt
    have b57 := bthen hb6 hb7
    have q4 := p4.then b57
    have s57 : w2.heap.size ≤ w5.heap.size := Nat.le_trans hs4 hb5.size
    have q2 : IntsR w7 w2.heap.size A2 vs := j2.below (b57.mono s57)
    have s57' : w2.heap.size ≤ w7.heap.size := Nat.le_trans s57 b57.size
    have hs : sameRows l l = true := by simp [sameRows]
    rw [hs]
    clear hs
    go_wp2_with fail
    refine (markRows_any g3 l.length _ 1 _ _ (by omega) (by omega) (by omega) n3 (flat_len Row.enc 5 Row.enc_len l)).mono ?_
    rintro e w8 ⟨rfl, gr8⟩
    have k8 : Below w.heap.size w w8 := k7.grown gr8 k7.size (by rintro _ ⟨⟩; exact Nat.le_trans k2.size hg3)
    have r4 := q4.kept gr8 hl3.lt
    have r2 : IntsR w8 w2.heap.size A2 vs := q2.keep fun p hp => grown_cell gr8 p (by omega) (by intro e; injection e; omega)
    have s8 : w2.heap.size ≤ w8.heap.size := Nat.le_trans s57' gr8.size
    have hneg : ((1 : Int) + 5 * (l.length : Int) < 0) = False := eq_false (by omega)
    go_wp2_with fail
    refine (eqIntS_any _ _ _ _ vs vs _ r4.reads (r2.mono s8)).mono ?_
    rintro e w9 ⟨rfl, hb9⟩
    have k9 := bthen k8 hb9
    have t4 := r4.then hb9
    have t2 : IntsR w9 w2.heap.size A2 vs := r2.below (hb9.mono s8)
    rw [HQ.out]
    go_wp2_with fail
    refine (markIntS_any _ _ vs.length _ 1 _ _ (by omega) (by omega) (by omega) t4).mono ?_
    rintro e w10 ⟨rfl, u4, gr10⟩
    have k10 : Below w.heap.size w w10 := k9.grown gr10 k9.size (by intro g hg; exact Nat.le_trans k3.size (t4.at_ge g hg))
    have u2 : IntsR w10 w2.heap.size A2 vs := t2.keep fun p hp => grown_cell gr10 p (by have := hb9.size; omega) (by intro e; have := t4.at_ge _ e.symm; have := hb3.size; omega)
    have s10 : w2.heap.size ≤ w10.heap.size := Nat.le_trans s8 (Nat.le_trans hb9.size gr10.size)
    go_wp2_with fail
    refine (heldIntS_any _ _ vs.length 1 _ (by omega) (by omega) (by omega) (OwnS.held u4)).mono ?_
    rintro e w11 ⟨rfl, hb11⟩
    have k11 := bthen k10 hb11
    have v4 := u4.then hb11
    have v2 : IntsR w11 w2.heap.size A2 vs := u2.below (hb11.mono s10)
    have s11 : w2.heap.size ≤ w11.heap.size := Nat.le_trans s10 hb11.size
    go_wp2_with fail
    refine (toRows_any A c l _ (h.then k11) (by omega)).mono ?_
    rintro e w12 ⟨g12, rfl, hg12, hl12, hb12⟩
    have k12 := bthen k11 hb12
    go_wp2_with fail
    refine (cI _ _ _ (lies_rows hl12 hl)).mono ?_
    rintro e w13 ⟨A13, c13, rfl, o13, hb13⟩
    have k13 := bthen k12 hb13
    have b11 := bthen hb12 hb13
    have x4 := v4.then b11
    have x2 : IntsR w13 w2.heap.size A2 vs := v2.below (b11.mono s11)
    go_wp2_with fail
    refine (eqIntS_any _ _ _ _ vs vs _ o13.reads (x2.mono (Nat.le_trans s11 b11.size))).mono ?_
    rintro e w14 ⟨rfl, hb14⟩
    have k14 := bthen k13 hb14
    have y4 := x4.then hb14
    rw [HQ.out]
    go_wp2_with fail
    refine (heldIntS_any _ _ vs.length 1 _ (by omega) (by omega) (by omega) (OwnS.held y4)).mono ?_
    rintro e w15 ⟨rfl, hb15⟩
    have k15 := bthen k14 hb15
    go_wp2_with fail
    go_ret
    exact ⟨rfl, k15⟩
  · have HS : lessen 1048576 l.length = -1 := by unfold lessen; rw [if_neg (by omega)]
    have HZ := Lib.hid HS; clear HS
    go_enter Try.func10, Try.ntmps10
    go_wp2_with fail
    refine (szRows_any A _ c _ _ hl (by omega) (by omega)).mono ?_
    rintro e w0 ⟨rfl, rfl⟩
    rw [HZ.out]
    go_wp2_with fail
    go_ret
    exact ⟨rfl, Below.refl _ _⟩

end Go.Proofs.Ytgdjdejfegkjdaa
