/- The law FnExactMergeAlike: the walk. -/
import Derived.Test.YtjdedcalbcnkmaaMergeI
import Derived.Test.YtjdedcalbcnkmaaMergeS
import Derived.Test.YtjdedcalbcnkmaaRowMark
import Derived.Test.YtjdedcalbcnkmaaLawTally
namespace Go.Proofs.Ytjdedcalbcnkmaa
open Go.RowKit

theorem RowPh.mid {lo hi : Nat} {a b : World} (h : Mid lo hi a b) {v : Value} {l : List Ph} (hr : RowPh a hi v l) : RowPh b hi v l := by
  have hkeep : ∀ g, hi ≤ g → g < a.heap.size → b.heap[g]? = a.heap[g]? := fun g h1 h2 => h.block g h2 (.inr h1)
  obtain ⟨⟨hl, hrow⟩, hfs, hnd⟩ := hr
  refine ⟨⟨hl, ?_⟩, fun x hx => ?_, hnd⟩
  · rcases hrow with h0 | ⟨g, cap, cur, hv, hg, hh, h1⟩
    · exact .inl h0
    · have hlt : g < a.heap.size := by
        rcases Nat.lt_or_ge g a.heap.size with hlt | hge
        · exact hlt
        · rw [Array.getElem?_eq_none hge] at hh; cases hh
      exact .inr ⟨g, cap, cur, hv, hg, (hkeep g hg hlt).trans hh, h1⟩
  · exact h.own (hfs x hx) (Nat.le_refl _)

theorem eqRow_yes {A B : Option Addr} {c d : Nat} {l m : List Ph} {R : List PhD} {w : World} (hA : PhsR w w.heap.size A l) (hB : PhsR w w.heap.size B m) (hl : l.map Ph.ph = R) (hm : m.map Ph.ph = R) :
    Calls Try.prog 20 #[.slice A l.length c, .slice B m.length d] w fun e w' => e = .returned (.bool true) ∧ Below w.heap.size w w' := by
  have := eqPhraseS_any A B c d l m w hA hB
  rwa [show samePhs l m = true by unfold samePhs; rw [hl, hm]; exact decide_eq_true rfl] at this

set_option maxHeartbeats 2000000 in
theorem lawMergeAlike_any (A : Option Addr) (c : Nat) (l : List Ph) (w : World) (h : PhsR w w.heap.size A l) :
    Calls Try.prog 8 #[.slice A l.length c] w fun e w' => e = .returned (.bool true) ∧ Below w.heap.size w w' := by
  by_cases hbig : (need l : Int) ≤ 1048576
  · have HS : lessen 1048576 (need l) = 1048576 - need l := by unfold lessen; rw [if_pos (by omega)]
    have HZ := Lib.hid HS; clear HS
    have hbn : need l ≤ 1048576 := by omega
    have HBN : Hid (∀ m : List Ph, m.map Ph.ph = l.map Ph.ph → need m ≤ 1048576) := fun m hm => by rw [need_ph hm]; exact hbn
    obtain ⟨R, hR⟩ : ∃ R, R = mergeA (l.map Ph.ph) := ⟨_, rfl⟩
    have HRN : Hid (∀ m : List Ph, m.map Ph.ph = R.1 → need m ≤ 1048576) := fun m hm => need_goodD hm (by rw [hR]; exact mergeA_good _)
    have cS : ∀ (m : List Ph) (_ : m.map Ph.ph = l.map Ph.ph) A c W, PhsR W W.heap.size A m → Calls Try.prog 31 #[.slice A m.length c] W (GivesRow W R) := fun m hm A c W h => by
      have := specMerge_any A c m W h
      rw [hm, ← hR] at this; exact this
    have cI : ∀ (m : List Ph) (_ : m.map Ph.ph = l.map Ph.ph) A c W, PhsR W W.heap.size A m → Calls Try.prog 32 #[.slice A m.length c] W (GivesRow W R) := fun m hm A c W h => by
      have := implMerge_any A c m W h
      rw [hm, ← hR] at this; exact this
    clear hR
    obtain ⟨vs, ok⟩ := R
    have hbo : (ok != ok) = false := by simp
    go_enter Try.func8, Try.ntmps8
    go_wp2_with fail
    refine (szPhraseS_any A c l _ _ (by omega) (by omega) h).mono ?_
    rintro e w0 ⟨rfl, k0⟩
    rw [HZ.out]
    go_wp2_with fail
    refine (toPhraseS_any A c l _ (h.then k0) hbn).mono ?_
    rintro e w1 ⟨G1, m1, rfl, hg1, hm1, ho1, hb1⟩
    have HM1 := Lib.hid hm1; clear hm1
    have k1 := bthen k0 hb1
    go_wp2_with fail
    refine (cS m1 HM1.out _ _ _ (ho1.phs HM1.out hbn)).mono ?_
    rintro e w2 ⟨A2, c2, r2, rfl, h2, o2, hb2⟩
    have HP2 := Lib.hid h2; clear h2
    have k2 := bthen k1 hb2
    go_wp2_with fail
    refine (toPhraseS_any A c l _ (h.then k2) hbn).mono ?_
    rintro e w3 ⟨G3, m3, rfl, hg3, hm3, ho3, hb3⟩
    have HM3 := Lib.hid hm3; clear hm3
    have k3 := bthen k2 hb3
    go_wp2_with fail
    refine (cI m3 HM3.out _ _ _ (ho3.phs HM3.out hbn)).mono ?_
    rintro e w4 ⟨A4, c4, r4, rfl, h4, o4, hb4⟩
    have HP4 := Lib.hid h4; clear h4
    have k4 := bthen k3 hb4
    have i2 : PhsR w4 w2.heap.size A2 r2 := o2.reads.below (hb3.trans (hb4.mono hb3.size))
    have hs4 : w2.heap.size ≤ w4.heap.size := Nat.le_trans hb3.size hb4.size
    go_wp2_with fail
    refine (eqRow_yes o4.reads (i2.mono hs4) HP4.out HP2.out).mono ?_
    rintro e w5 ⟨rfl, hb5⟩
    have k5 := bthen k4 hb5
    have j2 : PhsR w5 w2.heap.size A2 r2 := i2.below (hb5.mono hs4)
    have p4 := o4.below hb5
    go_wp2_with fail
    refine (toPhraseS_any A c l _ (h.then k5) hbn).mono ?_
    rintro e w6 ⟨G6, m6, rfl, hg6, hm6, ho6, hb6⟩
    have HM6 := Lib.hid hm6; clear hm6
    have k6 := bthen k5 hb6
    have b36 := bthen (bthen hb4 hb5) hb6
    go_wp2_with fail
    refine (eqPhraseS_any _ _ _ _ m3 m6 _ ((ho3.phs HM3.out hbn).then b36) (ho6.phs HM6.out hbn)).mono ?_
    rintro e w7 ⟨rfl, hb7⟩
    have k7 := bthen k6 hb7
    have L7 := ho3.left hg3 (bthen b36 hb7)
    have b57 := bthen hb6 hb7
    have q4 := p4.below b57
    have s57 : w2.heap.size ≤ w5.heap.size := Nat.le_trans hs4 hb5.size
    have q2 : PhsR w7 w2.heap.size A2 r2 := j2.below (b57.mono s57)
    have s57' : w2.heap.size ≤ w7.heap.size := Nat.le_trans s57 b57.size
    rw [samePhs_of HM3.out HM6.out]
    go_wp2_with fail
    refine (markPhraseS_any w2.heap.size w3.heap.size G3 _ 1 m3 _ (by omega) (by omega) (HBN.out m3 HM3.out) L7).mono ?_
    rintro e w8 ⟨⟨k81, rfl, hk81⟩, M8⟩
    have k8 : Below w.heap.size w w8 := k7.trans ((M8.below s57').mono k2.size)
    have r4' := RowPh.mid M8 q4
    have r2' : PhsR w8 w2.heap.size A2 r2 := q2.below (M8.below s57')
    have s8 : w2.heap.size ≤ w8.heap.size := Nat.le_trans s57' M8.size
    have hneg : (k81 < 0) = False := eq_false (by omega)
    go_wp2_with fail
    refine (eqRow_yes r4'.reads (r2'.mono s8) HP4.out HP2.out).mono ?_
    rintro e w9 ⟨rfl, hb9⟩
    have k9 := bthen k8 hb9
    have t4 := r4'.below hb9
    have s9 : w3.heap.size ≤ w9.heap.size := Nat.le_trans (Nat.le_trans hb4.size hb5.size) (Nat.le_trans b57.size (Nat.le_trans M8.size hb9.size))
    go_wp2_with fail
    refine (markRow_any _ _ _ 1 r4 _ (by omega) (by omega) (HRN.out r4 HP4.out) t4).mono ?_
    rintro e w10 ⟨rfl, u4, sz10, hb10⟩
    have k10 : Below w.heap.size w w10 := k9.trans (hb10.mono k3.size)
    have hnn : ¬ (1 + ((3 * r4.length + fsum r4 : Nat) : Int) < 0) := by omega
    have HUR : Hid (PhsR w10 w10.heap.size A4 (marked 1 r4)) := RowPh.reads (c := c4) (by have := u4; rwa [← marked_len 1 r4] at this)
    go_wp2_with fail
    refine (heldRow_any _ _ 1 r4 _ (by omega) (by omega) (HRN.out r4 HP4.out) HUR.out).mono ?_
    rintro e w11 ⟨rfl, hb11⟩
    have k11 := bthen k10 hb11
    have HV := Lib.hid (HUR.out.then hb11)
    go_wp2_with fail
    refine (toPhraseS_any A c l _ (h.then k11) hbn).mono ?_
    rintro e w12 ⟨G12, m12, rfl, hg12, hm12, ho12, hb12⟩
    have HM12 := Lib.hid hm12; clear hm12
    have k12 := bthen k11 hb12
    go_wp2_with fail
    refine (cI m12 HM12.out _ _ _ (ho12.phs HM12.out hbn)).mono ?_
    rintro e w13 ⟨A13, c13, r13, rfl, h13, o13, hb13⟩
    have HP13 := Lib.hid h13; clear h13
    have k13 := bthen k12 hb13
    have b11 := bthen hb12 hb13
    have x4 := Lib.hid (HV.out.then b11)
    have t2 : PhsR w9 w2.heap.size A2 r2 := r2'.below (hb9.mono s8)
    have u2 : PhsR w10 w2.heap.size A2 r2 := t2.below (hb10.mono hb3.size)
    have s10 : w2.heap.size ≤ w10.heap.size := Nat.le_trans hb3.size (Nat.le_trans s9 sz10)
    have x2 : PhsR w13 w2.heap.size A2 r2 := u2.below ((bthen hb11 b11).mono s10)
    have s13 : w2.heap.size ≤ w13.heap.size := Nat.le_trans s10 (bthen hb11 b11).size
    go_wp2_with fail
    refine (eqRow_yes o13.reads (x2.mono s13) HP13.out HP2.out).mono ?_
    rintro e w14 ⟨rfl, hb14⟩
    have k14 := bthen k13 hb14
    have y4 := Lib.hid (x4.out.then hb14)
    go_wp2_with fail
    refine (heldRow_any _ _ 1 r4 _ (by omega) (by omega) (HRN.out r4 HP4.out) y4.out).mono ?_
    rintro e w15 ⟨rfl, hb15⟩
    have k15 := bthen k14 hb15
    go_wp2_with fail
    go_ret
    exact ⟨rfl, k15⟩
  · have HS : lessen 1048576 (need l) = -1 := by unfold lessen; rw [if_neg (by omega)]
    have HZ := Lib.hid HS; clear HS
    go_enter Try.func8, Try.ntmps8
    go_wp2_with fail
    refine (szPhraseS_any A c l _ _ (by omega) (by omega) h).mono ?_
    rintro e w0 ⟨rfl, hb0⟩
    rw [HZ.out]
    go_wp2_with fail
    go_ret
    exact ⟨rfl, hb0⟩
end Go.Proofs.Ytjdedcalbcnkmaa

