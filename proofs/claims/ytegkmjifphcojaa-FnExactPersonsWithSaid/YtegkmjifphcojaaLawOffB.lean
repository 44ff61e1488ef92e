/- The laws FnExactKindsAt, FnExactPersonsWith: the walks. (Printed by lawgen_off2.py) -/
import Derived.Test.YtegkmjifphcojaaOffMark
import Derived.Test.YtegkmjifphcojaaOffPick
namespace Go.Proofs.Ytegkmjifphcojaa
open Go.RowKit

theorem listOf_len (ok : Bool) (sel : Outing → Bool) (get : Outing → Int) (l : List Outing) (h : l.length ≤ 1048576) : (listOf ok (picks sel get l)).length ≤ 1048576 := by
  unfold listOf
  split
  · exact Nat.le_trans (picks_len _ _ _) h
  · simp
theorem Mid.ints {lo hi : Nat} {a b : World} (h : Mid lo hi a b) {A : Option Addr} {l : List Int} (hl : IntsR a lo A l) (hlo : lo ≤ a.heap.size) : IntsR b lo A l := hl.below (h.below hlo)

set_option maxHeartbeats 4000000 in
theorem lawKindsAt_any (x : Off) (st : Int) (hst : -9223372036854775808 ≤ st) (hst' : st ≤ 9223372036854775807) (w : World) (h : OffR w w.heap.size x) :
    Calls Try.prog 7 #[x.val, .int .i64 st] w fun e w' => e = .returned (.bool true) ∧ Below w.heap.size w w' := by
  have hl1 := h.ts.big
  have hl2 := h.os.big
  have b0 := (Below.refl w.heap.size w).alloc (Nat.le_refl _) (.cells #[.slice x.TA x.t.length x.tc, .slice x.OA x.o.length x.oc, .int .i64 x.got, .int .i64 x.sold, .int .i64 x.missed] 25)
  have L0 := Lies.new w 25 #[.slice x.TA x.t.length x.tc, .slice x.OA x.o.length x.oc, .int .i64 x.got, .int .i64 x.sold, .int .i64 x.missed]
  by_cases hbig : ((x.t.length + x.o.length : Nat) : Int) ≤ 1048576
  · have HS : lessen 1048576 (x.t.length + x.o.length) = 1048576 - ((x.t.length + x.o.length : Nat) : Int) := by unfold lessen; rw [if_pos (by omega)]
    have HZ := Lib.hid HS; clear HS
    have hn : x.t.length ≤ 1048576 := by omega
    have hm : x.o.length ≤ 1048576 := by omega
    obtain ⟨vs, hv⟩ : ∃ v, listOf (goodOff x && inR st 1 999) (picks (fun r : Outing => decide (r.p = st)) Outing.k x.o) = v := ⟨_, rfl⟩
    obtain ⟨ok, hok⟩ : ∃ ok, (goodOff x && inR st 1 999) = ok := ⟨_, rfl⟩
    have hlen : vs.length ≤ 1048576 := by rw [← hv]; exact listOf_len _ _ _ _ hm
    have hnn : (ok != ok) = false := by simp
    have HQ : Hid (sameInts vs vs = true) := by unfold sameInts Hid; exact decide_eq_true rfl
    have cS : ∀ g1 g2 W, OffR W W.heap.size (x.copy g1 g2) → Calls Try.prog 25 #[(x.copy g1 g2).val, .int .i64 st] W fun e w' => ∃ A' c', e = .returned (.tuple #[.slice A' vs.length c', .bool ok]) ∧ OwnS w' W.heap.size 3 1 A' vs.length (encIs vs) ∧ Below W.heap.size W w' := fun g1 g2 W h => by rw [← hv, ← hok]; exact specKindsAt_any (x.copy g1 g2) st hst hst' W h
    have cI : ∀ g1 g2 W, OffR W W.heap.size (x.copy g1 g2) → Calls Try.prog 26 #[(x.copy g1 g2).val, .int .i64 st] W fun e w' => ∃ A' c', e = .returned (.tuple #[.slice A' vs.length c', .bool ok]) ∧ OwnS w' W.heap.size 3 1 A' vs.length (encIs vs) ∧ Below W.heap.size W w' := fun g1 g2 W h => by rw [← hv, ← hok]; exact implKindsAt_any (x.copy g1 g2) st hst hst' W h
    clear hv hok
    go_enter Try.func7, Try.ntmps7
    go_wp2_with fail
    generalize w.alloc (.cells #[.slice x.TA x.t.length x.tc, .slice x.OA x.o.length x.oc, .int .i64 x.got, .int .i64 x.sold, .int .i64 x.missed] 25) = W at b0 L0 ⊢
    have hW := h.up b0 (Nat.le_refl _)
    refine (szOffice_any x _ _ hl1 hl2 (by omega) (by omega)).mono ?_
    rintro e w1 ⟨rfl, c1⟩
    rw [HZ.out]
    have k0 := (L0.below c1 L0.lt).cell 0
    have k1 := (L0.below c1 L0.lt).cell 1
    have k2 := (L0.below c1 L0.lt).cell 2
    have k3 := (L0.below c1 L0.lt).cell 3
    have k4 := (L0.below c1 L0.lt).cell 4
    simp only [List.getElem?_cons_zero, List.getElem?_cons_succ] at k0 k1 k2 k3 k4
    go_wp2_with fail
    refine (toOffice_any x _ (hW.then c1) hn hm).mono ?_
    rintro e w2 ⟨g21, g22, rfl, hg21, hg22, hl21, hl22, hb2⟩
    have c2 := bthen c1 hb2
    go_wp2_with fail
    refine (cS g21 g22 _ (copy_reads hl21 hl22 hn hm)).mono ?_
    rintro e w3 ⟨A3, q3, rfl, o3, hb3⟩
    have c3 := bthen c2 hb3
    have i3 : IntsR w3 w3.heap.size A3 vs := o3.reads
    clear k0 k1 k2 k3 k4
    have k0 := (L0.below c3 L0.lt).cell 0
    have k1 := (L0.below c3 L0.lt).cell 1
    have k2 := (L0.below c3 L0.lt).cell 2
    have k3 := (L0.below c3 L0.lt).cell 3
    have k4 := (L0.below c3 L0.lt).cell 4
    simp only [List.getElem?_cons_zero, List.getElem?_cons_succ] at k0 k1 k2 k3 k4
    go_wp2_with fail
    refine (toOffice_any x _ (hW.then c3) hn hm).mono ?_
    rintro e w4 ⟨g41, g42, rfl, hg41, hg42, hl41, hl42, hb4⟩
    have c4 := bthen c3 hb4
    have L5 := Lies.new w4 31 #[.slice (some ⟨g41, 0, none⟩) x.t.length x.t.length, .slice (some ⟨g42, 0, none⟩) x.o.length x.o.length, .int .i64 x.got, .int .i64 x.sold, .int .i64 x.missed]
    have hl51 := hl41.alloc (.cells #[.slice (some ⟨g41, 0, none⟩) x.t.length x.t.length, .slice (some ⟨g42, 0, none⟩) x.o.length x.o.length, .int .i64 x.got, .int .i64 x.sold, .int .i64 x.missed] 31)
    have hl52 := hl42.alloc (.cells #[.slice (some ⟨g41, 0, none⟩) x.t.length x.t.length, .slice (some ⟨g42, 0, none⟩) x.o.length x.o.length, .int .i64 x.got, .int .i64 x.sold, .int .i64 x.missed] 31)
    have c5 := c4.alloc c4.size (.cells #[.slice (some ⟨g41, 0, none⟩) x.t.length x.t.length, .slice (some ⟨g42, 0, none⟩) x.o.length x.o.length, .int .i64 x.got, .int .i64 x.sold, .int .i64 x.missed] 31)
    have b45 := (Below.refl w4.heap.size w4).alloc (Nat.le_refl _) (.cells #[.slice (some ⟨g41, 0, none⟩) x.t.length x.t.length, .slice (some ⟨g42, 0, none⟩) x.o.length x.o.length, .int .i64 x.got, .int .i64 x.sold, .int .i64 x.missed] 31)
    have hlt42 := hl42.lt
    go_wp2_with fail
    generalize w4.alloc (.cells #[.slice (some ⟨g41, 0, none⟩) x.t.length x.t.length, .slice (some ⟨g42, 0, none⟩) x.o.length x.o.length, .int .i64 x.got, .int .i64 x.sold, .int .i64 x.missed] 31) = w5 at L5 hl51 hl52 c5 b45 ⊢
    generalize hg5 : w4.heap.size = g5 at L5 ⊢
    have HG5 := Lib.hid hg5; clear hg5
    refine (cI g41 g42 _ (copy_reads hl51 hl52 hn hm)).mono ?_
    rintro e w6 ⟨A6, q6, rfl, o6, hb6⟩
    have c6 := bthen c5 hb6
    have b36 := bthen (bthen hb4 b45) hb6
    have i6 : IntsR w6 w3.heap.size A3 vs := i3.below b36
    go_wp2_with fail
    refine (eqIntS_any _ _ _ _ vs vs _ o6.reads (i6.mono b36.size)).mono ?_
    rintro e w7 ⟨rfl, hb7⟩
    have c7 := bthen c6 hb7
    have b37 := bthen b36 hb7
    have b57 := bthen hb6 hb7
    have i7 : IntsR w7 w3.heap.size A3 vs := i3.below b37
    have o7 := o6.then hb7
    rw [HQ.out]
    clear k0 k1 k2 k3 k4
    have k0 := (L0.below c7 L0.lt).cell 0
    have k1 := (L0.below c7 L0.lt).cell 1
    have k2 := (L0.below c7 L0.lt).cell 2
    have k3 := (L0.below c7 L0.lt).cell 3
    have k4 := (L0.below c7 L0.lt).cell 4
    simp only [List.getElem?_cons_zero, List.getElem?_cons_succ] at k0 k1 k2 k3 k4
    have m0 := (L5.below b57 L5.lt).cell 0
    have m1 := (L5.below b57 L5.lt).cell 1
    have m2 := (L5.below b57 L5.lt).cell 2
    have m3 := (L5.below b57 L5.lt).cell 3
    have m4 := (L5.below b57 L5.lt).cell 4
    simp only [List.getElem?_cons_zero, List.getElem?_cons_succ] at m0 m1 m2 m3 m4
    go_wp2_with fail
    have HK : ∀ W', Below w7.heap.size w7 W' → (Below w7.heap.size w7 W' ∧ W'.cell? ⟨w.heap.size, 0, none⟩ = some (.slice x.TA x.t.length x.tc) ∧ W'.cell? ⟨w.heap.size, 1, none⟩ = some (.slice x.OA x.o.length x.oc) ∧ W'.cell? ⟨w.heap.size, 2, none⟩ = some (.int .i64 x.got) ∧ W'.cell? ⟨w.heap.size, 3, none⟩ = some (.int .i64 x.sold) ∧ W'.cell? ⟨w.heap.size, 4, none⟩ = some (.int .i64 x.missed) ∧ W'.cell? ⟨g5, 0, none⟩ = some (.slice (some ⟨g41, 0, none⟩) x.t.length x.t.length) ∧ W'.cell? ⟨g5, 1, none⟩ = some (.slice (some ⟨g42, 0, none⟩) x.o.length x.o.length) ∧ W'.cell? ⟨g5, 2, none⟩ = some (.int .i64 x.got) ∧ W'.cell? ⟨g5, 3, none⟩ = some (.int .i64 x.sold) ∧ W'.cell? ⟨g5, 4, none⟩ = some (.int .i64 x.missed)) := fun W' hb =>
      ⟨hb, (hb.cell (L0.below c7 L0.lt).lt).trans k0, (hb.cell (L0.below c7 L0.lt).lt).trans k1, (hb.cell (L0.below c7 L0.lt).lt).trans k2, (hb.cell (L0.below c7 L0.lt).lt).trans k3, (hb.cell (L0.below c7 L0.lt).lt).trans k4, (hb.cell (L5.below b57 L5.lt).lt).trans m0, (hb.cell (L5.below b57 L5.lt).lt).trans m1, (hb.cell (L5.below b57 L5.lt).lt).trans m2, (hb.cell (L5.below b57 L5.lt).lt).trans m3, (hb.cell (L5.below b57 L5.lt).lt).trans m4⟩
    go_region_held3 (fun W' => Below w7.heap.size w7 W' ∧ W'.cell? ⟨w.heap.size, 0, none⟩ = some (.slice x.TA x.t.length x.tc) ∧ W'.cell? ⟨w.heap.size, 1, none⟩ = some (.slice x.OA x.o.length x.oc) ∧ W'.cell? ⟨w.heap.size, 2, none⟩ = some (.int .i64 x.got) ∧ W'.cell? ⟨w.heap.size, 3, none⟩ = some (.int .i64 x.sold) ∧ W'.cell? ⟨w.heap.size, 4, none⟩ = some (.int .i64 x.missed) ∧ W'.cell? ⟨g5, 0, none⟩ = some (.slice (some ⟨g41, 0, none⟩) x.t.length x.t.length) ∧ W'.cell? ⟨g5, 1, none⟩ = some (.slice (some ⟨g42, 0, none⟩) x.o.length x.o.length) ∧ W'.cell? ⟨g5, 2, none⟩ = some (.int .i64 x.got) ∧ W'.cell? ⟨g5, 3, none⟩ = some (.int .i64 x.sold) ∧ W'.cell? ⟨g5, 4, none⟩ = some (.int .i64 x.missed)) (first | exact HK _ (Below.refl _ _).drew | (exact HK _ (by assumption))) (first | (go_at_call 16; refine (toOffice_any x _ (hW.then c7.drew) hn hm).mono ?_; rintro e w8 ⟨g81, g82, rfl, hg81, hg82, hl81, hl82, hb8⟩; have hB8 : Below w7.heap.size w7 w8 := ((Below.refl w7.heap.size w7).drew).trans hb8) | (go_at_call 18; refine (eqOffice_yes (x.copy g41 g42) (x.copy g81 g82) _ (copy_reads ((hl51.below b57 hl51.lt).below hB8 (Nat.lt_of_lt_of_le hl51.lt b57.size)) ((hl52.below b57 hl52.lt).below hB8 (Nat.lt_of_lt_of_le hl52.lt b57.size)) hn hm) (copy_reads hl81 hl82 hn hm) (decide_eq_true rfl) (decide_eq_true rfl) rfl rfl rfl).mono ?_; rintro e w9 ⟨rfl, hb9⟩; have hB9 : Below w7.heap.size w7 w9 := bthen hB8 hb9))
    have c9 := bthen c7 hB9
    have b59 := bthen b57 hB9
    have b39 := bthen b37 hB9
    have i9 : IntsR w9 w3.heap.size A3 vs := i3.below b39
    have o9 := o7.then hB9
    clear k0 k1 k2 k3 k4 m0 m1 m2 m3 m4 HK
    have m0 := (L5.below b59 L5.lt).cell 0
    have m1 := (L5.below b59 L5.lt).cell 1
    have m2 := (L5.below b59 L5.lt).cell 2
    have m3 := (L5.below b59 L5.lt).cell 3
    have m4 := (L5.below b59 L5.lt).cell 4
    simp only [List.getElem?_cons_zero, List.getElem?_cons_succ] at m0 m1 m2 m3 m4
    go_wp2_with fail
    refine (markOffice_any x g41 g42 w3.heap.size w4.heap.size w9 hn hm hg41 hg42 hlt42 (Nat.le_trans b45.size b59.size) (hl51.below b59 hl51.lt) (hl52.below b59 hl52.lt)).mono ?_
    rintro e w10 ⟨⟨k81, rfl, hk81⟩, M10⟩
    have c10 : Below W.heap.size W w10 := c9.trans ((M10.below b39.size).mono c3.size)
    have i10 := M10.ints i9 b39.size
    have o10 := M10.own o9 b45.size
    have s10 : w3.heap.size ≤ w10.heap.size := Nat.le_trans b39.size M10.size
    have hneg : (k81 < 0) = False := eq_false (by omega)
    go_wp2_with fail
    refine (eqIntS_any _ _ _ _ vs vs _ o10.reads (i10.mono s10)).mono ?_
    rintro e w11 ⟨rfl, hb11⟩
    have c11 := bthen c10 hb11
    have o11 := o10.then hb11
    have i11 : IntsR w11 w3.heap.size A3 vs := i10.below (hb11.mono s10)
    have s11 : w3.heap.size ≤ w11.heap.size := Nat.le_trans s10 hb11.size
    rw [HQ.out]
    go_wp2_with fail
    refine (markIntS_any _ _ vs.length _ 1 _ _ (by omega) (by omega) (by omega) o11).mono ?_
    rintro e w12 ⟨rfl, o12, gr12⟩
    have c12 : Below W.heap.size W w12 := c11.grown gr12 c11.size (by intro g hg; exact Nat.le_trans c5.size (o11.at_ge g hg))
    have i12 : IntsR w12 w3.heap.size A3 vs := i11.keep fun p hp => grown_cell gr12 p (by omega) (by intro e; have := o11.at_ge _ e.symm; have := b45.size; have := hb4.size; omega)
    have s12 : w3.heap.size ≤ w12.heap.size := Nat.le_trans s11 gr12.size
    go_wp2_with fail
    refine (heldIntS_any _ _ vs.length 1 _ (by omega) (by omega) (by omega) (OwnS.held o12)).mono ?_
    rintro e w13 ⟨rfl, hb13⟩
    have c13 := bthen c12 hb13
    have o13 := o12.then hb13
    have i13 : IntsR w13 w3.heap.size A3 vs := i12.below (hb13.mono s12)
    have s13 : w3.heap.size ≤ w13.heap.size := Nat.le_trans s12 hb13.size
    clear m0 m1 m2 m3 m4
    have k0 := (L0.below c13 L0.lt).cell 0
    have k1 := (L0.below c13 L0.lt).cell 1
    have k2 := (L0.below c13 L0.lt).cell 2
    have k3 := (L0.below c13 L0.lt).cell 3
    have k4 := (L0.below c13 L0.lt).cell 4
    simp only [List.getElem?_cons_zero, List.getElem?_cons_succ] at k0 k1 k2 k3 k4
    go_wp2_with fail
    refine (toOffice_any x _ (hW.then c13) hn hm).mono ?_
    rintro e w14 ⟨g141, g142, rfl, hg141, hg142, hl141, hl142, hb14⟩
    have c14 := bthen c13 hb14
    go_wp2_with fail
    refine (cI g141 g142 _ (copy_reads hl141 hl142 hn hm)).mono ?_
    rintro e w15 ⟨A15, q15, rfl, o15, hb15⟩
    have c15 := bthen c14 hb15
    have b1315 := bthen hb14 hb15
    have x4 := o13.then b1315
    have x2 : IntsR w15 w3.heap.size A3 vs := i13.below (b1315.mono s13)
    go_wp2_with fail
    refine (eqIntS_any _ _ _ _ vs vs _ o15.reads (x2.mono (Nat.le_trans s13 b1315.size))).mono ?_
    rintro e w16 ⟨rfl, hb16⟩
    have c16 := bthen c15 hb16
    have y4 := x4.then hb16
    rw [HQ.out]
    go_wp2_with fail
    refine (heldIntS_any _ _ vs.length 1 _ (by omega) (by omega) (by omega) (OwnS.held y4)).mono ?_
    rintro e w17 ⟨rfl, hb17⟩
    have c17 := bthen c16 hb17
    go_wp2_with fail
    go_ret
    exact ⟨rfl, bthen b0 c17⟩
  · have HS : lessen 1048576 (x.t.length + x.o.length) = -1 := by unfold lessen; rw [if_neg (by omega)]
    have HZ := Lib.hid HS; clear HS
    go_enter Try.func7, Try.ntmps7
    go_wp2_with fail
    refine (szOffice_any x _ _ hl1 hl2 (by omega) (by omega)).mono ?_
    rintro e w1 ⟨rfl, hb1⟩
    rw [HZ.out]
    go_wp2
    go_ret
    exact ⟨rfl, bthen b0 hb1⟩

set_option maxHeartbeats 4000000 in
theorem lawPersonsWith_any (x : Off) (st : Int) (hst : -9223372036854775808 ≤ st) (hst' : st ≤ 9223372036854775807) (w : World) (h : OffR w w.heap.size x) :
    Calls Try.prog 8 #[x.val, .int .i64 st] w fun e w' => e = .returned (.bool true) ∧ Below w.heap.size w w' := by
  have hl1 := h.ts.big
  have hl2 := h.os.big
  have b0 := (Below.refl w.heap.size w).alloc (Nat.le_refl _) (.cells #[.slice x.TA x.t.length x.tc, .slice x.OA x.o.length x.oc, .int .i64 x.got, .int .i64 x.sold, .int .i64 x.missed] 25)
  have L0 := Lies.new w 25 #[.slice x.TA x.t.length x.tc, .slice x.OA x.o.length x.oc, .int .i64 x.got, .int .i64 x.sold, .int .i64 x.missed]
  by_cases hbig : ((x.t.length + x.o.length : Nat) : Int) ≤ 1048576
  · have HS : lessen 1048576 (x.t.length + x.o.length) = 1048576 - ((x.t.length + x.o.length : Nat) : Int) := by unfold lessen; rw [if_pos (by omega)]
    have HZ := Lib.hid HS; clear HS
    have hn : x.t.length ≤ 1048576 := by omega
    have hm : x.o.length ≤ 1048576 := by omega
    obtain ⟨vs, hv⟩ : ∃ v, listOf (goodOff x && hasTray x.t st) (picks (fun r : Outing => decide (r.k = st)) Outing.p x.o) = v := ⟨_, rfl⟩
    obtain ⟨ok, hok⟩ : ∃ ok, (goodOff x && hasTray x.t st) = ok := ⟨_, rfl⟩
    have hlen : vs.length ≤ 1048576 := by rw [← hv]; exact listOf_len _ _ _ _ hm
    have hnn : (ok != ok) = false := by simp
    have HQ : Hid (sameInts vs vs = true) := by unfold sameInts Hid; exact decide_eq_true rfl
    have cS : ∀ g1 g2 W, OffR W W.heap.size (x.copy g1 g2) → Calls Try.prog 31 #[(x.copy g1 g2).val, .int .i64 st] W fun e w' => ∃ A' c', e = .returned (.tuple #[.slice A' vs.length c', .bool ok]) ∧ OwnS w' W.heap.size 3 1 A' vs.length (encIs vs) ∧ Below W.heap.size W w' := fun g1 g2 W h => by rw [← hv, ← hok]; exact specPersonsWith_any (x.copy g1 g2) st hst hst' W h
    have cI : ∀ g1 g2 W, OffR W W.heap.size (x.copy g1 g2) → Calls Try.prog 32 #[(x.copy g1 g2).val, .int .i64 st] W fun e w' => ∃ A' c', e = .returned (.tuple #[.slice A' vs.length c', .bool ok]) ∧ OwnS w' W.heap.size 3 1 A' vs.length (encIs vs) ∧ Below W.heap.size W w' := fun g1 g2 W h => by rw [← hv, ← hok]; exact implPersonsWith_any (x.copy g1 g2) st hst hst' W h
    clear hv hok
    go_enter Try.func8, Try.ntmps8
    go_wp2_with fail
    generalize w.alloc (.cells #[.slice x.TA x.t.length x.tc, .slice x.OA x.o.length x.oc, .int .i64 x.got, .int .i64 x.sold, .int .i64 x.missed] 25) = W at b0 L0 ⊢
    have hW := h.up b0 (Nat.le_refl _)
    refine (szOffice_any x _ _ hl1 hl2 (by omega) (by omega)).mono ?_
    rintro e w1 ⟨rfl, c1⟩
    rw [HZ.out]
    have k0 := (L0.below c1 L0.lt).cell 0
    have k1 := (L0.below c1 L0.lt).cell 1
    have k2 := (L0.below c1 L0.lt).cell 2
    have k3 := (L0.below c1 L0.lt).cell 3
    have k4 := (L0.below c1 L0.lt).cell 4
    simp only [List.getElem?_cons_zero, List.getElem?_cons_succ] at k0 k1 k2 k3 k4
    go_wp2_with fail
    refine (toOffice_any x _ (hW.then c1) hn hm).mono ?_
    rintro e w2 ⟨g21, g22, rfl, hg21, hg22, hl21, hl22, hb2⟩
    have c2 := bthen c1 hb2
    go_wp2_with fail
    refine (cS g21 g22 _ (copy_reads hl21 hl22 hn hm)).mono ?_
    rintro e w3 ⟨A3, q3, rfl, o3, hb3⟩
    have c3 := bthen c2 hb3
    have i3 : IntsR w3 w3.heap.size A3 vs := o3.reads
    clear k0 k1 k2 k3 k4
    have k0 := (L0.below c3 L0.lt).cell 0
    have k1 := (L0.below c3 L0.lt).cell 1
    have k2 := (L0.below c3 L0.lt).cell 2
    have k3 := (L0.below c3 L0.lt).cell 3
    have k4 := (L0.below c3 L0.lt).cell 4
    simp only [List.getElem?_cons_zero, List.getElem?_cons_succ] at k0 k1 k2 k3 k4
    go_wp2_with fail
    refine (toOffice_any x _ (hW.then c3) hn hm).mono ?_
    rintro e w4 ⟨g41, g42, rfl, hg41, hg42, hl41, hl42, hb4⟩
    have c4 := bthen c3 hb4
    have L5 := Lies.new w4 31 #[.slice (some ⟨g41, 0, none⟩) x.t.length x.t.length, .slice (some ⟨g42, 0, none⟩) x.o.length x.o.length, .int .i64 x.got, .int .i64 x.sold, .int .i64 x.missed]
    have hl51 := hl41.alloc (.cells #[.slice (some ⟨g41, 0, none⟩) x.t.length x.t.length, .slice (some ⟨g42, 0, none⟩) x.o.length x.o.length, .int .i64 x.got, .int .i64 x.sold, .int .i64 x.missed] 31)
    have hl52 := hl42.alloc (.cells #[.slice (some ⟨g41, 0, none⟩) x.t.length x.t.length, .slice (some ⟨g42, 0, none⟩) x.o.length x.o.length, .int .i64 x.got, .int .i64 x.sold, .int .i64 x.missed] 31)
    have c5 := c4.alloc c4.size (.cells #[.slice (some ⟨g41, 0, none⟩) x.t.length x.t.length, .slice (some ⟨g42, 0, none⟩) x.o.length x.o.length, .int .i64 x.got, .int .i64 x.sold, .int .i64 x.missed] 31)
    have b45 := (Below.refl w4.heap.size w4).alloc (Nat.le_refl _) (.cells #[.slice (some ⟨g41, 0, none⟩) x.t.length x.t.length, .slice (some ⟨g42, 0, none⟩) x.o.length x.o.length, .int .i64 x.got, .int .i64 x.sold, .int .i64 x.missed] 31)
    have hlt42 := hl42.lt
    go_wp2_with fail
    generalize w4.alloc (.cells #[.slice (some ⟨g41, 0, none⟩) x.t.length x.t.length, .slice (some ⟨g42, 0, none⟩) x.o.length x.o.length, .int .i64 x.got, .int .i64 x.sold, .int .i64 x.missed] 31) = w5 at L5 hl51 hl52 c5 b45 ⊢
    generalize hg5 : w4.heap.size = g5 at L5 ⊢
    have HG5 := Lib.hid hg5; clear hg5
    refine (cI g41 g42 _ (copy_reads hl51 hl52 hn hm)).mono ?_
    rintro e w6 ⟨A6, q6, rfl, o6, hb6⟩
    have c6 := bthen c5 hb6
    have b36 := bthen (bthen hb4 b45) hb6
    have i6 : IntsR w6 w3.heap.size A3 vs := i3.below b36
    go_wp2_with fail
    refine (eqIntS_any _ _ _ _ vs vs _ o6.reads (i6.mono b36.size)).mono ?_
    rintro e w7 ⟨rfl, hb7⟩
    have c7 := bthen c6 hb7
    have b37 := bthen b36 hb7
    have b57 := bthen hb6 hb7
    have i7 : IntsR w7 w3.heap.size A3 vs := i3.below b37
    have o7 := o6.then hb7
    rw [HQ.out]
    clear k0 k1 k2 k3 k4
    have k0 := (L0.below c7 L0.lt).cell 0
    have k1 := (L0.below c7 L0.lt).cell 1
    have k2 := (L0.below c7 L0.lt).cell 2
    have k3 := (L0.below c7 L0.lt).cell 3
    have k4 := (L0.below c7 L0.lt).cell 4
    simp only [List.getElem?_cons_zero, List.getElem?_cons_succ] at k0 k1 k2 k3 k4
    have m0 := (L5.below b57 L5.lt).cell 0
    have m1 := (L5.below b57 L5.lt).cell 1
    have m2 := (L5.below b57 L5.lt).cell 2
    have m3 := (L5.below b57 L5.lt).cell 3
    have m4 := (L5.below b57 L5.lt).cell 4
    simp only [List.getElem?_cons_zero, List.getElem?_cons_succ] at m0 m1 m2 m3 m4
    go_wp2_with fail
    have HK : ∀ W', Below w7.heap.size w7 W' → (Below w7.heap.size w7 W' ∧ W'.cell? ⟨w.heap.size, 0, none⟩ = some (.slice x.TA x.t.length x.tc) ∧ W'.cell? ⟨w.heap.size, 1, none⟩ = some (.slice x.OA x.o.length x.oc) ∧ W'.cell? ⟨w.heap.size, 2, none⟩ = some (.int .i64 x.got) ∧ W'.cell? ⟨w.heap.size, 3, none⟩ = some (.int .i64 x.sold) ∧ W'.cell? ⟨w.heap.size, 4, none⟩ = some (.int .i64 x.missed) ∧ W'.cell? ⟨g5, 0, none⟩ = some (.slice (some ⟨g41, 0, none⟩) x.t.length x.t.length) ∧ W'.cell? ⟨g5, 1, none⟩ = some (.slice (some ⟨g42, 0, none⟩) x.o.length x.o.length) ∧ W'.cell? ⟨g5, 2, none⟩ = some (.int .i64 x.got) ∧ W'.cell? ⟨g5, 3, none⟩ = some (.int .i64 x.sold) ∧ W'.cell? ⟨g5, 4, none⟩ = some (.int .i64 x.missed)) := fun W' hb =>
      ⟨hb, (hb.cell (L0.below c7 L0.lt).lt).trans k0, (hb.cell (L0.below c7 L0.lt).lt).trans k1, (hb.cell (L0.below c7 L0.lt).lt).trans k2, (hb.cell (L0.below c7 L0.lt).lt).trans k3, (hb.cell (L0.below c7 L0.lt).lt).trans k4, (hb.cell (L5.below b57 L5.lt).lt).trans m0, (hb.cell (L5.below b57 L5.lt).lt).trans m1, (hb.cell (L5.below b57 L5.lt).lt).trans m2, (hb.cell (L5.below b57 L5.lt).lt).trans m3, (hb.cell (L5.below b57 L5.lt).lt).trans m4⟩
    go_region_held3 (fun W' => Below w7.heap.size w7 W' ∧ W'.cell? ⟨w.heap.size, 0, none⟩ = some (.slice x.TA x.t.length x.tc) ∧ W'.cell? ⟨w.heap.size, 1, none⟩ = some (.slice x.OA x.o.length x.oc) ∧ W'.cell? ⟨w.heap.size, 2, none⟩ = some (.int .i64 x.got) ∧ W'.cell? ⟨w.heap.size, 3, none⟩ = some (.int .i64 x.sold) ∧ W'.cell? ⟨w.heap.size, 4, none⟩ = some (.int .i64 x.missed) ∧ W'.cell? ⟨g5, 0, none⟩ = some (.slice (some ⟨g41, 0, none⟩) x.t.length x.t.length) ∧ W'.cell? ⟨g5, 1, none⟩ = some (.slice (some ⟨g42, 0, none⟩) x.o.length x.o.length) ∧ W'.cell? ⟨g5, 2, none⟩ = some (.int .i64 x.got) ∧ W'.cell? ⟨g5, 3, none⟩ = some (.int .i64 x.sold) ∧ W'.cell? ⟨g5, 4, none⟩ = some (.int .i64 x.missed)) (first | exact HK _ (Below.refl _ _).drew | (exact HK _ (by assumption))) (first | (go_at_call 16; refine (toOffice_any x _ (hW.then c7.drew) hn hm).mono ?_; rintro e w8 ⟨g81, g82, rfl, hg81, hg82, hl81, hl82, hb8⟩; have hB8 : Below w7.heap.size w7 w8 := ((Below.refl w7.heap.size w7).drew).trans hb8) | (go_at_call 18; refine (eqOffice_yes (x.copy g41 g42) (x.copy g81 g82) _ (copy_reads ((hl51.below b57 hl51.lt).below hB8 (Nat.lt_of_lt_of_le hl51.lt b57.size)) ((hl52.below b57 hl52.lt).below hB8 (Nat.lt_of_lt_of_le hl52.lt b57.size)) hn hm) (copy_reads hl81 hl82 hn hm) (decide_eq_true rfl) (decide_eq_true rfl) rfl rfl rfl).mono ?_; rintro e w9 ⟨rfl, hb9⟩; have hB9 : Below w7.heap.size w7 w9 := bthen hB8 hb9))
    have c9 := bthen c7 hB9
    have b59 := bthen b57 hB9
    have b39 := bthen b37 hB9
    have i9 : IntsR w9 w3.heap.size A3 vs := i3.below b39
    have o9 := o7.then hB9
    clear k0 k1 k2 k3 k4 m0 m1 m2 m3 m4 HK
    have m0 := (L5.below b59 L5.lt).cell 0
    have m1 := (L5.below b59 L5.lt).cell 1
    have m2 := (L5.below b59 L5.lt).cell 2
    have m3 := (L5.below b59 L5.lt).cell 3
    have m4 := (L5.below b59 L5.lt).cell 4
    simp only [List.getElem?_cons_zero, List.getElem?_cons_succ] at m0 m1 m2 m3 m4
    go_wp2_with fail
    refine (markOffice_any x g41 g42 w3.heap.size w4.heap.size w9 hn hm hg41 hg42 hlt42 (Nat.le_trans b45.size b59.size) (hl51.below b59 hl51.lt) (hl52.below b59 hl52.lt)).mono ?_
    rintro e w10 ⟨⟨k81, rfl, hk81⟩, M10⟩
    have c10 : Below W.heap.size W w10 := c9.trans ((M10.below b39.size).mono c3.size)
    have i10 := M10.ints i9 b39.size
    have o10 := M10.own o9 b45.size
    have s10 : w3.heap.size ≤ w10.heap.size := Nat.le_trans b39.size M10.size
    have hneg : (k81 < 0) = False := eq_false (by omega)
    go_wp2_with fail
    refine (eqIntS_any _ _ _ _ vs vs _ o10.reads (i10.mono s10)).mono ?_
    rintro e w11 ⟨rfl, hb11⟩
    have c11 := bthen c10 hb11
    have o11 := o10.then hb11
    have i11 : IntsR w11 w3.heap.size A3 vs := i10.below (hb11.mono s10)
    have s11 : w3.heap.size ≤ w11.heap.size := Nat.le_trans s10 hb11.size
    rw [HQ.out]
    go_wp2_with fail
    refine (markIntS_any _ _ vs.length _ 1 _ _ (by omega) (by omega) (by omega) o11).mono ?_
    rintro e w12 ⟨rfl, o12, gr12⟩
    have c12 : Below W.heap.size W w12 := c11.grown gr12 c11.size (by intro g hg; exact Nat.le_trans c5.size (o11.at_ge g hg))
    have i12 : IntsR w12 w3.heap.size A3 vs := i11.keep fun p hp => grown_cell gr12 p (by omega) (by intro e; have := o11.at_ge _ e.symm; have := b45.size; have := hb4.size; omega)
    have s12 : w3.heap.size ≤ w12.heap.size := Nat.le_trans s11 gr12.size
    go_wp2_with fail
    refine (heldIntS_any _ _ vs.length 1 _ (by omega) (by omega) (by omega) (OwnS.held o12)).mono ?_
    rintro e w13 ⟨rfl, hb13⟩
    have c13 := bthen c12 hb13
    have o13 := o12.then hb13
    have i13 : IntsR w13 w3.heap.size A3 vs := i12.below (hb13.mono s12)
    have s13 : w3.heap.size ≤ w13.heap.size := Nat.le_trans s12 hb13.size
    clear m0 m1 m2 m3 m4
    have k0 := (L0.below c13 L0.lt).cell 0
    have k1 := (L0.below c13 L0.lt).cell 1
    have k2 := (L0.below c13 L0.lt).cell 2
    have k3 := (L0.below c13 L0.lt).cell 3
    have k4 := (L0.below c13 L0.lt).cell 4
    simp only [List.getElem?_cons_zero, List.getElem?_cons_succ] at k0 k1 k2 k3 k4
    go_wp2_with fail
    refine (toOffice_any x _ (hW.then c13) hn hm).mono ?_
    rintro e w14 ⟨g141, g142, rfl, hg141, hg142, hl141, hl142, hb14⟩
    have c14 := bthen c13 hb14
    go_wp2_with fail
    refine (cI g141 g142 _ (copy_reads hl141 hl142 hn hm)).mono ?_
    rintro e w15 ⟨A15, q15, rfl, o15, hb15⟩
    have c15 := bthen c14 hb15
    have b1315 := bthen hb14 hb15
    have x4 := o13.then b1315
    have x2 : IntsR w15 w3.heap.size A3 vs := i13.below (b1315.mono s13)
    go_wp2_with fail
    refine (eqIntS_any _ _ _ _ vs vs _ o15.reads (x2.mono (Nat.le_trans s13 b1315.size))).mono ?_
    rintro e w16 ⟨rfl, hb16⟩
    have c16 := bthen c15 hb16
    have y4 := x4.then hb16
    rw [HQ.out]
    go_wp2_with fail
    refine (heldIntS_any _ _ vs.length 1 _ (by omega) (by omega) (by omega) (OwnS.held y4)).mono ?_
    rintro e w17 ⟨rfl, hb17⟩
    have c17 := bthen c16 hb17
    go_wp2_with fail
    go_ret
    exact ⟨rfl, bthen b0 c17⟩
  · have HS : lessen 1048576 (x.t.length + x.o.length) = -1 := by unfold lessen; rw [if_neg (by omega)]
    have HZ := Lib.hid HS; clear HS
    go_enter Try.func8, Try.ntmps8
    go_wp2_with fail
    refine (szOffice_any x _ _ hl1 hl2 (by omega) (by omega)).mono ?_
    rintro e w1 ⟨rfl, hb1⟩
    rw [HZ.out]
    go_wp2
    go_ret
    exact ⟨rfl, bthen b0 hb1⟩
end Go.Proofs.Ytegkmjifphcojaa
