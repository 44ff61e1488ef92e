/- The law of JoinRows. (Printed by gen_lawjoin.py) -/
import Derived.Test.YtpjfidmapnnbkaaJoinS
import Derived.Test.YtpjfidmapnnbkaaRowMk
namespace Go.Proofs.Ytpjfidmapnnbkaa
open Go.RowKit

theorem Lies.ownS {w : World} {g : Nat} {t : TypeId} {cs : List Value} (h : Lies w g t cs) {k n : Nat} (hl : cs.length = n * k) (hn : n ≤ 9223372036854775807) : OwnS w g t k (some ⟨g, 0, none⟩) n cs :=
  ⟨hl, hn, .inr ⟨g, [], rfl, Nat.le_refl _, by rw [List.append_nil]; exact h⟩⟩

theorem lies_rows {W : World} {g : Nat} {t : TypeId} {l : List Row} (h : Lies W g t (l.flatMap Row.enc)) (hn : l.length ≤ 9223372036854775807) : RowsR W W.heap.size (some ⟨g, 0, none⟩) l :=
  Lies.reads h (flat_len Row.enc 5 Row.enc_len l) hn

set_option maxHeartbeats 4000000 in
theorem lawJoin_any (A : Option Addr) (c : Nat) (l : List Row) (D : Option Addr) (d : Nat) (m : List Row) (w : World) (h : RowsR w w.heap.size A l) (h' : RowsR w w.heap.size D m) :
    Calls Try.prog 3 #[.slice A l.length c, .slice D m.length d] w fun e w' => e = .returned (.bool true) ∧ Below w.heap.size w w' := by
  have hl := h.big
  have hm := h'.big
  by_cases hbig : (l.length : Int) ≤ 1048576
  · have HS : lessen 1048576 l.length = 1048576 - l.length := by unfold lessen; rw [if_pos (by omega)]
    have HZ := Lib.hid HS; clear HS
    by_cases hbig' : (l.length : Int) + m.length ≤ 1048576
    · have HS' : lessen (1048576 - l.length) m.length = 1048576 - l.length - m.length := by unfold lessen; rw [if_pos (by omega)]
      have HY := Lib.hid HS'; clear HS'
      obtain ⟨rs, ok, hR⟩ : ∃ rs ok, joinBoth l m = (rs, ok) := ⟨_, _, rfl⟩
      have hlen : rs.length ≤ 12 := by have := joinBoth_len l m; rw [hR] at this; exact this
      have cS := fun A c D d w => specJoin_any A c l D d m w
      have cI := fun A c D d w => implJoin_any A c l D d m w
      rw [hR] at cS cI
      clear hR
      have hbn : (ok != ok) = false := by simp
      have HQ : Hid (sameRows rs rs = true) := by unfold sameRows Hid; exact decide_eq_true rfl
      have HL : Hid (sameRows l l = true) := by unfold sameRows Hid; exact decide_eq_true rfl
      have HM : Hid (sameRows m m = true) := by unfold sameRows Hid; exact decide_eq_true rfl
      have hR : Hid (rs.length ≤ 9223372036854775807) := by unfold Hid; omega
      have rle : rs.length ≤ 9223372036854775807 := hR.out
      go_enter Try.func3, Try.ntmps3
      go_wp2_with fail
      refine (szRows_any A _ c _ _ hl (by omega) (by omega)).mono ?_
      rintro e w0 ⟨rfl, rfl⟩
      rw [HZ.out]
      go_wp2_with fail
      refine (szRows_any D _ d _ _ hm (by omega) (by omega)).mono ?_
      rintro e w0 ⟨rfl, rfl⟩
      rw [HY.out]
      go_wp2_with fail
      refine (toRows_any A c l _ h (by omega)).mono ?_
      rintro e w1 ⟨g1, rfl, hg1, hl1, k1⟩
      go_wp2_with fail
      refine (toRows_any D d m _ (h'.then k1) (by omega)).mono ?_
      rintro e w2 ⟨g2, rfl, hg2, hl2, hb2⟩
      have k2 := bthen k1 hb2
      go_wp2_with fail
      refine (cS _ _ _ _ _ (lies_rows (hl1.below hb2 hl1.lt) hl) (lies_rows hl2 hm)).mono ?_
      rintro e w3 ⟨A3, c3, rfl, o3, hb3⟩
      have k3 := bthen k2 hb3
      go_wp2_with fail
      refine (toRows_any A c l _ (h.then k3) (by omega)).mono ?_
      rintro e w4 ⟨g4, rfl, hg4, hl4, hb4⟩
      have k4 := bthen k3 hb4
      go_wp2_with fail
      refine (toRows_any D d m _ (h'.then k4) (by omega)).mono ?_
      rintro e w5 ⟨g5, rfl, hg5, hl5, hb5⟩
      have k5 := bthen k4 hb5
      have x0 := hl4.below hb5 hl4.lt
      go_wp2_with fail
      refine (cI _ _ _ _ _ (lies_rows x0 hl) (lies_rows hl5 hm)).mono ?_
      rintro e w6 ⟨A6, c6, rfl, own6, hb6⟩
      have k6 := bthen k5 hb6
      have o6 := OwnS.of own6
      have x0 := x0.below hb6 x0.lt
      have x1 := hl5.below hb6 hl5.lt
      have s3 : w3.heap.size ≤ w6.heap.size := Nat.le_trans hb4.size (Nat.le_trans hb5.size hb6.size)
      have r3 : RowsR w6 w3.heap.size A3 rs := o3.below (hb4.trans ((hb5.mono hb4.size).trans (hb6.mono (Nat.le_trans hb4.size hb5.size))))
      have g45 : g4 < g5 := Nat.lt_of_lt_of_le hl4.lt hg5
      have lt5 : g5 < w5.heap.size := hl5.lt
      have lt4 : g4 < w5.heap.size := Nat.lt_of_lt_of_le hl4.lt hb5.size

      have s := s3
      have r := r3
      go_wp2_with fail
      refine (eqRows_any _ _ _ _ rs rs _ o6.reads (r.mono s)).mono ?_
      rintro e w7 ⟨rfl, hb7⟩
      have k7 := bthen k6 hb7
      have o7 := o6.then hb7
      have r7 : RowsR w7 w3.heap.size A3 rs := r.below (hb7.mono s)
      have s : w3.heap.size ≤ w7.heap.size := Nat.le_trans s hb7.size
      have r := r7
      have x0 := x0.below hb7 x0.lt
      have x1 := x1.below hb7 x1.lt
      rw [HQ.out]
      go_wp2_with fail
      refine (toRows_any A c l _ (h.then k7) (by omega)).mono ?_
      rintro e w8 ⟨g8, rfl, hg8, hl8, hb8⟩
      have k8 := bthen k7 hb8
      have o8 := o7.then hb8
      have r8 : RowsR w8 w3.heap.size A3 rs := r.below (hb8.mono s)
      have s : w3.heap.size ≤ w8.heap.size := Nat.le_trans s hb8.size
      have r := r8
      have x0 := x0.below hb8 x0.lt
      have x1 := x1.below hb8 x1.lt
      go_wp2_with fail
      refine (eqRows_any _ _ _ _ l l _ (lies_rows x0 hl) (lies_rows hl8 hl)).mono ?_
      rintro e w9 ⟨rfl, hb9⟩
      have k9 := bthen k8 hb9
      have o9 := o8.then hb9
      have r9 : RowsR w9 w3.heap.size A3 rs := r.below (hb9.mono s)
      have s : w3.heap.size ≤ w9.heap.size := Nat.le_trans s hb9.size
      have r := r9
      have x0 := x0.below hb9 x0.lt
      have x1 := x1.below hb9 x1.lt
      rw [HL.out]
      go_wp2_with fail
      refine (toRows_any D d m _ (h'.then k9) (by omega)).mono ?_
      rintro e w10 ⟨g10, rfl, hg10, hl10, hb10⟩
      have k10 := bthen k9 hb10
      have o10 := o9.then hb10
      have r10 : RowsR w10 w3.heap.size A3 rs := r.below (hb10.mono s)
      have s : w3.heap.size ≤ w10.heap.size := Nat.le_trans s hb10.size
      have r := r10
      have x0 := x0.below hb10 x0.lt
      have x1 := x1.below hb10 x1.lt
      go_wp2_with fail
      refine (eqRows_any _ _ _ _ m m _ (lies_rows x1 hm) (lies_rows hl10 hm)).mono ?_
      rintro e w11 ⟨rfl, hb11⟩
      have k11 := bthen k10 hb11
      have o11 := o10.then hb11
      have r11 : RowsR w11 w3.heap.size A3 rs := r.below (hb11.mono s)
      have s : w3.heap.size ≤ w11.heap.size := Nat.le_trans s hb11.size
      have r := r11
      have x0 := x0.below hb11 x0.lt
      have x1 := x1.below hb11 x1.lt
      rw [HM.out]
      have q0 := x0.ownS (flat_len Row.enc 5 Row.enc_len l) hl
      go_wp2_with fail
      refine (markRows_any _ _ l.length _ 1 _ _ (by omega) (by omega) (by omega) q0).mono ?_
      rintro e w12 ⟨rfl, _, gr12⟩
      have gr12 : w11.grownBy w12 (some g4) := gr12
      have k12 : Below w.heap.size w w12 := k11.grown gr12 k11.size (by rintro _ ⟨⟩; have := k3.size; have := k4.size; omega)
      have o12 := o11.kept gr12 lt4
      have r : RowsR w12 w3.heap.size A3 rs := r.keep fun p hp => grown_cell gr12 p (by omega) (by intro e; injection e; have := hb4.size; omega)
      have s : w3.heap.size ≤ w12.heap.size := Nat.le_trans s gr12.size
      have x1 := x1.kept gr12 (by intro e; injection e; omega)
      have q1 := x1.ownS (flat_len Row.enc 5 Row.enc_len m) hm
      go_wp2_with fail
      refine (markRows_any _ _ m.length _ _ _ _ (by omega) (by omega) (by omega) q1).mono ?_
      rintro e w13 ⟨rfl, _, gr13⟩
      have gr13 : w12.grownBy w13 (some g5) := gr13
      have k13 : Below w.heap.size w w13 := k12.grown gr13 k12.size (by rintro _ ⟨⟩; have := k3.size; have := k4.size; omega)
      have o13 := o12.kept gr13 lt5
      have r : RowsR w13 w3.heap.size A3 rs := r.keep fun p hp => grown_cell gr13 p (by omega) (by intro e; injection e; have := hb4.size; omega)
      have s : w3.heap.size ≤ w13.heap.size := Nat.le_trans s gr13.size
      have hneg : ((1 : Int) + 5 * (l.length : Int) + 5 * (m.length : Int) < 0) = False := eq_false (by omega)
      go_wp2_with fail
      refine (eqRows_any _ _ _ _ rs rs _ o13.reads (r.mono s)).mono ?_
      rintro e w14 ⟨rfl, hb14⟩
      have k14 := bthen k13 hb14
      have o14 := o13.then hb14
      have r14 : RowsR w14 w3.heap.size A3 rs := r.below (hb14.mono s)
      have s : w3.heap.size ≤ w14.heap.size := Nat.le_trans s hb14.size
      have r := r14
      rw [HQ.out]
      go_wp2_with fail
      refine (markRows_any _ _ rs.length _ 1 _ _ (by omega) (by omega) (by omega) o14).mono ?_
      rintro e w15 ⟨rfl, o15, gr15⟩
      have k15 : Below w.heap.size w w15 := k14.grown gr15 k14.size (by intro g hg; exact Nat.le_trans k5.size (o14.at_ge g hg))
      have r : RowsR w15 w3.heap.size A3 rs := r.keep fun p hp => grown_cell gr15 p (by omega) (by intro e; have := o14.at_ge _ e.symm; have := hb4.size; have := hb5.size; omega)
      have s : w3.heap.size ≤ w15.heap.size := Nat.le_trans s gr15.size
      go_wp2_with fail
      refine (heldRows_any _ _ rs.length 1 _ (by omega) (by omega) (by omega) o15.reads).mono ?_
      rintro e w16 ⟨rfl, hb16⟩
      have k16 := bthen k15 hb16
      have o16 := o15.then hb16
      have r16 : RowsR w16 w3.heap.size A3 rs := r.below (hb16.mono s)
      have s : w3.heap.size ≤ w16.heap.size := Nat.le_trans s hb16.size
      have r := r16
      go_wp2_with fail
      refine (toRows_any A c l _ (h.then k16) (by omega)).mono ?_
      rintro e w17 ⟨g17, rfl, hg17, hl17, hb17⟩
      have k17 := bthen k16 hb17
      have o17 := o16.then hb17
      have r17 : RowsR w17 w3.heap.size A3 rs := r.below (hb17.mono s)
      have s : w3.heap.size ≤ w17.heap.size := Nat.le_trans s hb17.size
      have r := r17
      go_wp2_with fail
      refine (toRows_any D d m _ (h'.then k17) (by omega)).mono ?_
      rintro e w18 ⟨g18, rfl, hg18, hl18, hb18⟩
      have k18 := bthen k17 hb18
      have o18 := o17.then hb18
      have r18 : RowsR w18 w3.heap.size A3 rs := r.below (hb18.mono s)
      have s : w3.heap.size ≤ w18.heap.size := Nat.le_trans s hb18.size
      have r := r18
      go_wp2_with fail
      refine (cI _ _ _ _ _ (lies_rows (hl17.below hb18 hl17.lt) hl) (lies_rows hl18 hm)).mono ?_
      rintro e w19 ⟨A19, c19, rfl, own19, hb19⟩
      have k19 := bthen k18 hb19
      have o19 := o18.then hb19
      have r19 : RowsR w19 w3.heap.size A3 rs := r.below (hb19.mono s)
      have s : w3.heap.size ≤ w19.heap.size := Nat.le_trans s hb19.size
      have r := r19
      have z19 := OwnS.of own19
      go_wp2_with fail
      refine (eqRows_any _ _ _ _ rs rs _ z19.reads (r.mono s)).mono ?_
      rintro e w20 ⟨rfl, hb20⟩
      have k20 := bthen k19 hb20
      have o20 := o19.then hb20
      have r20 : RowsR w20 w3.heap.size A3 rs := r.below (hb20.mono s)
      have s : w3.heap.size ≤ w20.heap.size := Nat.le_trans s hb20.size
      have r := r20
      rw [HQ.out]
      go_wp2_with fail
      refine (heldRows_any _ _ rs.length 1 _ (by omega) (by omega) (by omega) o20.reads).mono ?_
      rintro e w21 ⟨rfl, hb21⟩
      have k21 := bthen k20 hb21
      go_wp2_with fail
      go_ret
      exact ⟨rfl, k21⟩
    · have HS' : lessen (1048576 - l.length) m.length = -1 := by unfold lessen; rw [if_neg (by omega)]
      have HY := Lib.hid HS'; clear HS'
      go_enter Try.func3, Try.ntmps3
      go_wp2_with fail
      refine (szRows_any A _ c _ _ hl (by omega) (by omega)).mono ?_
      rintro e w0 ⟨rfl, rfl⟩
      rw [HZ.out]
      go_wp2_with fail
      refine (szRows_any D _ d _ _ hm (by omega) (by omega)).mono ?_
      rintro e w0 ⟨rfl, rfl⟩
      rw [HY.out]
      go_wp2_with fail
      go_ret
      exact ⟨rfl, Below.refl _ _⟩
  · have HS : lessen 1048576 l.length = -1 := by unfold lessen; rw [if_neg (by omega)]
    have HZ := Lib.hid HS; clear HS
    go_enter Try.func3, Try.ntmps3
    go_wp2_with fail
    refine (szRows_any A _ c _ _ hl (by omega) (by omega)).mono ?_
    rintro e w0 ⟨rfl, rfl⟩
    rw [HZ.out]
    go_wp2_with fail
    go_ret
    exact ⟨rfl, Below.refl _ _⟩
end Go.Proofs.Ytpjfidmapnnbkaa
