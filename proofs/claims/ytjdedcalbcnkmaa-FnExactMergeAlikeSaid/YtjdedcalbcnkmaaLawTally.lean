/- The law FnExactFaultTally: the walk. -/
import Derived.Test.YtjdedcalbcnkmaaLawPhrs
import Derived.Test.YtjdedcalbcnkmaaPhrTally
namespace Go.Proofs.Ytjdedcalbcnkmaa
open Go.RowKit

theorem OwnPhs.left {w w' : World} {G lo : Nat} {m : List Ph} (h : OwnPhs w G m []) (hlo : lo ≤ G) (hb : Below w.heap.size w w') : Left w' lo w.heap.size G 0 m :=
  ⟨⟨[], [], rfl, by have := (h.below hb).lies; simpa using this⟩, ⟨hlo, h.lies.lt⟩, fun x hx => by
    obtain ⟨g, hA, hG, hL⟩ := h.fs x hx
    exact ⟨g, hA, hG, hL.lt, hL.below hb hL.lt⟩, h.nd⟩
theorem Mid.ints {lo hi : Nat} {a b : World} (h : Mid lo hi a b) {A : Option Addr} {l : List Int} (hl : IntsR a lo A l) (hlo : lo ≤ a.heap.size) : IntsR b lo A l := hl.below (h.below hlo)

set_option maxHeartbeats 2000000 in
theorem lawFaultTally_any (A : Option Addr) (c : Nat) (l : List Ph) (w : World) (h : PhsR w w.heap.size A l) :
    Calls Try.prog 7 #[.slice A l.length c] w fun e w' => e = .returned (.bool true) ∧ Below w.heap.size w w' := by
  by_cases hbig : (need l : Int) ≤ 1048576
  · have HS : lessen 1048576 (need l) = 1048576 - need l := by unfold lessen; rw [if_pos (by omega)]
    have HZ := Lib.hid HS; clear HS
    have hbn : need l ≤ 1048576 := by omega
    have HBN : Hid (∀ m : List Ph, m.map Ph.ph = l.map Ph.ph → need m ≤ 1048576) := fun m hm => by rw [need_ph hm]; exact hbn
    obtain ⟨vs, hv⟩ : ∃ v, v = tallyR l := ⟨_, rfl⟩
    obtain ⟨ok, hok⟩ : ∃ ok, ok = goodPhs l := ⟨_, rfl⟩
    have hlen : vs.length ≤ 9 := by rw [hv]; exact tallyR_len l
    have cS : ∀ (m : List Ph) (_ : m.map Ph.ph = l.map Ph.ph) A c W, PhsR W W.heap.size A m → Calls Try.prog 25 #[.slice A m.length c] W fun e w' => ∃ A' c', e = .returned (.tuple #[.slice A' vs.length c', .bool ok]) ∧ OwnS w' W.heap.size 3 1 A' vs.length (encIs vs) ∧ Below W.heap.size W w' := fun m hm A c W h => by
      have := specTally_any A c m W h (by rw [need_ph hm]; exact hbn)
      rw [good_ph hm, tallyR_ph hm] at this
      rw [hv, hok]; exact this
    have cI : ∀ (m : List Ph) (_ : m.map Ph.ph = l.map Ph.ph) A c W, PhsR W W.heap.size A m → Calls Try.prog 26 #[.slice A m.length c] W fun e w' => ∃ A' c', e = .returned (.tuple #[.slice A' vs.length c', .bool ok]) ∧ OwnS w' W.heap.size 3 1 A' vs.length (encIs vs) ∧ Below W.heap.size W w' := fun m hm A c W h => by
      have := implTally_any A c m W h (by rw [need_ph hm]; exact hbn)
      rw [good_ph hm, tallyR_ph hm] at this
      rw [hv, hok]; exact this
    clear hv hok
    have hbo : (ok != ok) = false := by simp
    have HQ : Hid (sameInts vs vs = true) := by unfold sameInts Hid; exact decide_eq_true rfl
    go_enter Try.func7, Try.ntmps7
    go_wp2_with fail
    refine (szPhraseS_any A c l _ _ (by omega) (by omega) h).mono ?_
    rintro e w0 ⟨rfl, k0⟩
    rw [HZ.out]
    go_wp2_with fail
    refine (toPhraseS_any A c l _ (h.then k0) hbn).mono ?_
    rintro e w1 ⟨G1, m1, rfl, hg1, hm1, ho1, hb1⟩
    have HM1 := Lib.hid hm1; clear hm1
    have k1 := bthen k0 hb1
    go_wp2_with fail
    refine (cS m1 HM1.out _ _ _ (ho1.phs HM1.out hbn)).mono ?_
    rintro e w2 ⟨A2, c2, rfl, o2, hb2⟩
    have k2 := bthen k1 hb2
    go_wp2_with fail
    refine (toPhraseS_any A c l _ (h.then k2) hbn).mono ?_
    rintro e w3 ⟨G3, m3, rfl, hg3, hm3, ho3, hb3⟩
    have HM3 := Lib.hid hm3; clear hm3
    have k3 := bthen k2 hb3
    go_wp2_with fail
    refine (cI m3 HM3.out _ _ _ (ho3.phs HM3.out hbn)).mono ?_
    rintro e w4 ⟨A4, c4, rfl, o4, hb4⟩
    have k4 := bthen k3 hb4
    have i2 : IntsR w4 w2.heap.size A2 vs := o2.reads.below (hb3.trans (hb4.mono hb3.size))
    have hs4 : w2.heap.size ≤ w4.heap.size := Nat.le_trans hb3.size hb4.size
    go_wp2_with fail
    refine (eqIntS_any _ _ _ _ vs vs _ o4.reads (i2.mono hs4)).mono ?_
    rintro e w5 ⟨rfl, hb5⟩
    have k5 := bthen k4 hb5
    have j2 : IntsR w5 w2.heap.size A2 vs := i2.below (hb5.mono hs4)
    have p4 := o4.then hb5
    rw [HQ.out]
    go_wp2_with fail
    refine (toPhraseS_any A c l _ (h.then k5) hbn).mono ?_
    rintro e w6 ⟨G6, m6, rfl, hg6, hm6, ho6, hb6⟩
    have HM6 := Lib.hid hm6; clear hm6
    have k6 := bthen k5 hb6
    have b36 := bthen (bthen hb4 hb5) hb6
    go_wp2_with fail
    refine (eqPhraseS_any _ _ _ _ m3 m6 _ ((ho3.phs HM3.out hbn).then b36) (ho6.phs HM6.out hbn)).mono ?_
    rintro e w7 ⟨rfl, hb7⟩
    have k7 := bthen k6 hb7
    have L7 := ho3.left hg3 (bthen b36 hb7)
    have b57 := bthen hb6 hb7
    have q4 := p4.then b57
    have s57 : w2.heap.size ≤ w5.heap.size := Nat.le_trans hs4 hb5.size
    have q2 : IntsR w7 w2.heap.size A2 vs := j2.below (b57.mono s57)
    have s57' : w2.heap.size ≤ w7.heap.size := Nat.le_trans s57 b57.size
    rw [samePhs_of HM3.out HM6.out]
    go_wp2_with fail
    refine (markPhraseS_any w2.heap.size w3.heap.size G3 _ 1 m3 _ (by omega) (by omega) (HBN.out m3 HM3.out) L7).mono ?_
    rintro e w8 ⟨⟨k81, rfl, hk81⟩, M8⟩
    have k8 : Below w.heap.size w w8 := k7.trans ((M8.below s57').mono k2.size)
    have r4 := M8.own q4 (Nat.le_refl _)
    have r2 := M8.ints q2 s57'
    have s8 : w2.heap.size ≤ w8.heap.size := Nat.le_trans s57' M8.size
    have hneg : (k81 < 0) = False := eq_false (by omega)
    go_wp2_with fail
    refine (eqIntS_any _ _ _ _ vs vs _ r4.reads (r2.mono s8)).mono ?_
    rintro e w9 ⟨rfl, hb9⟩
    have k9 := bthen k8 hb9
    have t4 := r4.then hb9
    have t2 : IntsR w9 w2.heap.size A2 vs := r2.below (hb9.mono s8)
    rw [HQ.out]
    go_wp2_with fail
    refine (markIntS_any _ _ vs.length _ 1 _ _ (by omega) (by omega) (by omega) t4).mono ?_
    rintro e w10 ⟨rfl, u4, gr10⟩
    have k10 : Below w.heap.size w w10 := k9.grown gr10 k9.size (by intro g hg; exact Nat.le_trans k3.size (t4.at_ge g hg))
    have u2 : IntsR w10 w2.heap.size A2 vs := t2.keep fun p hp => grown_cell gr10 p (by have := hb9.size; omega) (by intro e; have := t4.at_ge _ e.symm; have := hb3.size; omega)
    have s10 : w2.heap.size ≤ w10.heap.size := Nat.le_trans s8 (Nat.le_trans hb9.size gr10.size)
    go_wp2_with fail
    refine (heldIntS_any _ _ vs.length 1 _ (by omega) (by omega) (by omega) (OwnS.held u4)).mono ?_
    rintro e w11 ⟨rfl, hb11⟩
    have k11 := bthen k10 hb11
    have v4 := u4.then hb11
    have v2 : IntsR w11 w2.heap.size A2 vs := u2.below (hb11.mono s10)
    have s11 : w2.heap.size ≤ w11.heap.size := Nat.le_trans s10 hb11.size
    go_wp2_with fail
    refine (toPhraseS_any A c l _ (h.then k11) hbn).mono ?_
    rintro e w12 ⟨G12, m12, rfl, hg12, hm12, ho12, hb12⟩
    have HM12 := Lib.hid hm12; clear hm12
    have k12 := bthen k11 hb12
    go_wp2_with fail
    refine (cI m12 HM12.out _ _ _ (ho12.phs HM12.out hbn)).mono ?_
    rintro e w13 ⟨A13, c13, rfl, o13, hb13⟩
    have k13 := bthen k12 hb13
    have b11 := bthen hb12 hb13
    have x4 := v4.then b11
    have x2 : IntsR w13 w2.heap.size A2 vs := v2.below (b11.mono s11)
    go_wp2_with fail
    refine (eqIntS_any _ _ _ _ vs vs _ o13.reads (x2.mono (Nat.le_trans s11 b11.size))).mono ?_
    rintro e w14 ⟨rfl, hb14⟩
    have k14 := bthen k13 hb14
    have y4 := x4.then hb14
    rw [HQ.out]
    go_wp2_with fail
    refine (heldIntS_any _ _ vs.length 1 _ (by omega) (by omega) (by omega) (OwnS.held y4)).mono ?_
    rintro e w15 ⟨rfl, hb15⟩
    have k15 := bthen k14 hb15
    go_wp2_with fail
    go_ret
    exact ⟨rfl, k15⟩
  · have HS : lessen 1048576 (need l) = -1 := by unfold lessen; rw [if_neg (by omega)]
    have HZ := Lib.hid HS; clear HS
    go_enter Try.func7, Try.ntmps7
    go_wp2_with fail
    refine (szPhraseS_any A c l _ _ (by omega) (by omega) h).mono ?_
    rintro e w0 ⟨rfl, hb0⟩
    rw [HZ.out]
    go_wp2_with fail
    go_ret
    exact ⟨rfl, hb0⟩
end Go.Proofs.Ytjdedcalbcnkmaa
