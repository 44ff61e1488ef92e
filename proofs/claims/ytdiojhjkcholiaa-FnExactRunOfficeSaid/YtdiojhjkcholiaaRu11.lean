/- Ru11: the texts LawRun LawRunZ Open OpenOff, joined into one file. -/
import Derived.ProofKit
import Derived.ChangeOld
import Derived.ShutString
import Derived.OpenShut
import Derived.Deep.Slices
import Derived.Deep.Fields
import Derived.Test.YtdiojhjkcholiaaRu01
import Derived.Test.YtdiojhjkcholiaaRu10

/- The law FnExactRunOffice: the walk, for any results that both give. (Printed by gen_lawrun.py) -/
namespace Go.Proofs.Ytdiojhjkcholiaa
open Go.RowKit

/-- The value v is a row of steps like l that reads. -/
def InSt (w : World) (l : List Stp) (v : Value) : Prop := ∃ A c, v = .slice A l.length c ∧ StpsR w w.heap.size A l
theorem InSt.copy {l : List Stp} {w : World} {g : Nat} (h1 : Lies w g 45 (l.flatMap Stp.enc)) (hn : l.length ≤ 1048576) : InSt w l (.slice (some ⟨g, 0, none⟩) l.length l.length) :=
  ⟨_, _, rfl, lies_stps h1 (by omega)⟩

set_option maxRecDepth 100000 in
set_option maxHeartbeats 4000000 in
set_option linter.unusedVariables false in
theorem lawRun_of (x : Off) (A : Option Addr) (c : Nat) (l : List Stp) (y : Oc) (n : Int) (b : Bool) (w : World) (h : OffR w w.heap.size x) (hs : StpsR w w.heap.size A l) (yt : y.t.length ≤ 1000000) (yo : y.o.length ≤ 1000000)
    (hS : ∀ {v v' : Value} (W : World), InV W x.c v → InSt W l v' → Calls Try.prog 21 #[v, v'] W (GivesN W (y, n, b)))
    (hI : ∀ {v v' : Value} (W : World), InV W x.c v → InSt W l v' → Calls Try.prog 23 #[v, v'] W (GivesN W (y, n, b))) :
    Calls Try.prog 5 #[x.val, .slice A l.length c] w fun e w' => e = .returned (.bool true) ∧ Below w.heap.size w w' := by
  have hl1 := h.ts.big
  have hl2 := h.os.big
  have hl3 := hs.big
  have b0 := (Below.refl w.heap.size w).alloc (Nat.le_refl _) (.cells #[.slice x.TA x.t.length x.tc, .slice x.OA x.o.length x.oc, .int .i64 x.got, .int .i64 x.sold, .int .i64 x.missed] 38)
  have L0 := Lies.new w 38 #[.slice x.TA x.t.length x.tc, .slice x.OA x.o.length x.oc, .int .i64 x.got, .int .i64 x.sold, .int .i64 x.missed]
  by_cases hbig : ((x.t.length + x.o.length : Nat) : Int) ≤ 1048576
  · have HS : lessen 1048576 (x.t.length + x.o.length) = 1048576 - ((x.t.length + x.o.length : Nat) : Int) := by unfold lessen; rw [if_pos (by omega)]
    have HZ := Lib.hid HS; clear HS
    have hn : x.t.length ≤ 1048576 := by omega
    have hm : x.o.length ≤ 1048576 := by omega
    by_cases hbig2 : (l.length : Int) ≤ 1048576 - ((x.t.length + x.o.length : Nat) : Int)
    · have HS : lessen (1048576 - ((x.t.length : Int) + (x.o.length : Int))) l.length = 1048576 - ((x.t.length : Int) + (x.o.length : Int)) - l.length := by unfold lessen; rw [if_pos (by omega)]
      have HZ2 := Lib.hid HS; clear HS
      have hls : l.length ≤ 1048576 := by omega
      have hbo : (b != b) = false := by simp
      have hno : (n != n) = false := by simp
      go_enter Try.func5, Try.ntmps5
      go_wp2_with fail
      generalize (w.alloc (.cells #[.slice x.TA x.t.length x.tc, .slice x.OA x.o.length x.oc, .int .i64 x.got, .int .i64 x.sold, .int .i64 x.missed] 38)) = W at b0 L0 ⊢
      have hW := h.up b0 (Nat.le_refl _)
      have hQ := SlcR.up hs b0 (Nat.le_refl _)
      refine (szOffice_any x _ _ hl1 hl2 (by omega) (by omega)).mono ?_
      rintro e w1 ⟨rfl, hb1⟩
      rw [HZ.out]
      have L1 := L0.below hb1 L0.lt
      have hR1 := hW.then hb1
      have hQ1 := SlcR.up hQ hb1 (Nat.le_refl _)
      have B1 := b0.trans (hb1.mono b0.size)
      clear L0 b0 hW hb1 h hQ hs
      go_wp2_with fail
      refine (szStps_any A l.length c _ w1 (by omega) (by omega) (by omega)).mono ?_
      rintro e w1 ⟨rfl, rfl⟩
      rw [HZ2.out]
      have c0 := L1.cell 0
      have c1 := L1.cell 1
      have c2 := L1.cell 2
      have c3 := L1.cell 3
      have c4 := L1.cell 4
      simp only [List.getElem?_cons_zero, List.getElem?_cons_succ] at c0 c1 c2 c3 c4
      go_wp2_with fail
      clear hbig hbig2 HZ HZ2
      refine (toOfficeV x _ hR1 hn hm).mono ?_
      rintro e w2 ⟨v1, rfl, hv1, hb2⟩
      go_wp2_with fail
      refine (toStps_any A c l w2 (SlcR.then hQ1 hb2) hls).mono ?_
      rintro e w3 ⟨gs, rfl, hgs, hls3, hb3⟩
      go_wp2_with fail
      refine (hS w3 (hv1.below hb3) (InSt.copy hls3 hls)).mono ?_
      rintro e w4 ⟨v4, rfl, ⟨TA6, tc6, OA6, oc6, rfl, hT, hO⟩, hb4⟩
      have hb14 := bthen (bthen hb2 hb3) hb4
      clear hv1 hls3 c0 c1 c2 c3 c4 hS hgs
      have hal := (Below.refl w4.heap.size w4).alloc (Nat.le_refl _) (.cells #[.slice TA6 y.t.length tc6, .slice OA6 y.o.length oc6, .int .i64 y.got, .int .i64 y.sold, .int .i64 y.missed] 25)
      have K6 := Lies.new w4 25 #[.slice TA6 y.t.length tc6, .slice OA6 y.o.length oc6, .int .i64 y.got, .int .i64 y.sold, .int .i64 y.missed]
      have hT6 := ownsRow_below hT hal
      have hO6 := ownsRow_below hO hal
      obtain ⟨w5, hW2⟩ : ∃ w5, w4.alloc (.cells #[.slice TA6 y.t.length tc6, .slice OA6 y.o.length oc6, .int .i64 y.got, .int .i64 y.sold, .int .i64 y.missed] 25) = w5 := ⟨_, rfl⟩
      rw [hW2] at hal K6 hT6 hO6
      have hgl := K6.lt
      have hge6 := hb4.size
      generalize hg : w4.heap.size = g6 at K6 hgl hge6
      clear hT hO
      have hb15 := bthen hb14 hal
      have B5 := B1.trans (hb15.mono B1.size)
      have L5 := L1.below hb15 L1.lt
      have hR5 := hR1.then hb15
      have hQ5 := SlcR.then hQ1 hb15
      have R6 : OffR w5 w5.heap.size (y.at TA6 tc6 OA6 oc6) := offR_row hT6 hO6
      have g15 := hb15.size
      have gl1 := L1.lt
      clear hT6 hO6 hal hb2 hb3 hb4 hb14 hb15 L1 hR1 hQ1 B1
      have c0 := L5.cell 0
      have c1 := L5.cell 1
      have c2 := L5.cell 2
      have c3 := L5.cell 3
      have c4 := L5.cell 4
      simp only [List.getElem?_cons_zero, List.getElem?_cons_succ] at c0 c1 c2 c3 c4
      go_wp2_with (rw [hW2]; clear hW2; rw [hg])
      refine (toOffice_any x _ hR5 hn hm).mono ?_
      rintro e w6 ⟨p1, p2, rfl, hp1, hp2, hq1, hq2, hb6⟩
      have L8 := Lies.new w6 25 #[.slice (some ⟨p1, 0, none⟩) x.t.length x.t.length, .slice (some ⟨p2, 0, none⟩) x.o.length x.o.length, .int .i64 x.got, .int .i64 x.sold, .int .i64 x.missed]
      have q1 := hq1.alloc (.cells #[.slice (some ⟨p1, 0, none⟩) x.t.length x.t.length, .slice (some ⟨p2, 0, none⟩) x.o.length x.o.length, .int .i64 x.got, .int .i64 x.sold, .int .i64 x.missed] 25)
      have q2 := hq2.alloc (.cells #[.slice (some ⟨p1, 0, none⟩) x.t.length x.t.length, .slice (some ⟨p2, 0, none⟩) x.o.length x.o.length, .int .i64 x.got, .int .i64 x.sold, .int .i64 x.missed] 25)
      have hal := (Below.refl w6.heap.size w6).alloc (Nat.le_refl _) (.cells #[.slice (some ⟨p1, 0, none⟩) x.t.length x.t.length, .slice (some ⟨p2, 0, none⟩) x.o.length x.o.length, .int .i64 x.got, .int .i64 x.sold, .int .i64 x.missed] 25)
      have hb57 := bthen hb6 hal
      have g8 := hq2.lt
      have g56 := hb6.size
      clear c0 c1 c2 c3 c4 hq1 hq2
      go_wp2_with fail
      generalize w6.alloc (.cells #[.slice (some ⟨p1, 0, none⟩) x.t.length x.t.length, .slice (some ⟨p2, 0, none⟩) x.o.length x.o.length, .int .i64 x.got, .int .i64 x.sold, .int .i64 x.missed] 25) = w7 at L8 q1 q2 hal hb57 ⊢
      generalize w6.heap.size = g8' at L8 g8 g56 hal ⊢
      refine (toStps_any A c l w7 (SlcR.then hQ5 hb57) hls).mono ?_
      rintro e w8 ⟨gs1, rfl, hgs1, hs8, hb8⟩
      have hb58 := bthen hb57 hb8
      have B8 := B5.trans (hb58.mono B5.size)
      have L58 := L5.below hb58 L5.lt
      have K68 := K6.below hb58 K6.lt
      have gk6 := K6.lt
      have R68 := R6.below hb58
      have g78 := hb8.size
      have gl8 := L8.lt
      have M8 := L8.below hb8 L8.lt
      have q18 := q1.below hb8 q1.lt
      have q28 := q2.below hb8 q2.lt
      have gss := hs8.lt
      clear L5 K6 R6 hal hb6 L8 q1 q2 hb57 hb8 B5
      have m0 := M8.cell 0
      have m1 := M8.cell 1
      have m2 := M8.cell 2
      have m3 := M8.cell 3
      have m4 := M8.cell 4
      simp only [List.getElem?_cons_zero, List.getElem?_cons_succ] at m0 m1 m2 m3 m4
      go_wp2_with fail
      refine (hI w8 (InV.copy q18 q28 hn hm) (InSt.copy hs8 hls)).mono ?_
      rintro e w9 ⟨v9, rfl, ⟨TA9, tc9, OA9, oc9, rfl, hT, hO⟩, hb9⟩
      clear m0 m1 m2 m3 m4
      have hal := (Below.refl w9.heap.size w9).alloc (Nat.le_refl _) (.cells #[.slice TA9 y.t.length tc9, .slice OA9 y.o.length oc9, .int .i64 y.got, .int .i64 y.sold, .int .i64 y.missed] 25)
      have K9 := Lies.new w9 25 #[.slice TA9 y.t.length tc9, .slice OA9 y.o.length oc9, .int .i64 y.got, .int .i64 y.sold, .int .i64 y.missed]
      have hT9 := ownsRow_below hT hal
      have hO9 := ownsRow_below hO hal
      obtain ⟨wa, hW2⟩ : ∃ wa, w9.alloc (.cells #[.slice TA9 y.t.length tc9, .slice OA9 y.o.length oc9, .int .i64 y.got, .int .i64 y.sold, .int .i64 y.missed] 25) = wa := ⟨_, rfl⟩
      rw [hW2] at hal K9 hT9 hO9
      have hgl := K9.lt
      have hge9 := hb9.size
      generalize hg : w9.heap.size = g9 at K9 hgl hge9
      clear hT hO
      have hb8a := bthen hb9 hal
      have O9 := OwnS.of hT9
      have U9 := OwnS.of hO9
      have Ba := B8.trans (hb8a.mono B8.size)
      have La := L58.below hb8a L58.lt
      have K6a := K68.below hb8a K68.lt
      have R6a := R68.below (hb8a.mono (by omega))
      have N8 := M8.below hb8a M8.lt
      have q1a := q18.below hb8a q18.lt
      have q2a := q28.below hb8a q28.lt
      have hsa := hs8.below hb8a hs8.lt
      have hb5a := bthen hb58 hb8a
      have g8a := hb8a.size
      have HE := Lib.hid (fun W TA OA TA' OA' tc oc tc' oc' h h' => @eqOwn y TA OA TA' OA' tc oc tc' oc' W h h')
      clear hT9 hO9 hal hb9 hb8a L58 K68 R68 M8 q18 q28 hs8 B8 hb58
      have c0 := K9.cell 0
      have c1 := K9.cell 1
      have c2 := K9.cell 2
      have c3 := K9.cell 3
      have c4 := K9.cell 4
      simp only [List.getElem?_cons_zero, List.getElem?_cons_succ] at c0 c1 c2 c3 c4
      have d0 := K6a.cell 0
      have d1 := K6a.cell 1
      have d2 := K6a.cell 2
      have d3 := K6a.cell 3
      have d4 := K6a.cell 4
      simp only [List.getElem?_cons_zero, List.getElem?_cons_succ] at d0 d1 d2 d3 d4
      go_wp2_with (rw [hW2]; clear hW2; rw [hg])
      refine (HE.out wa TA9 OA9 TA6 OA6 tc9 oc9 tc6 oc6 (offR_own O9 U9) (R6a.mono (by omega))).mono ?_
      rintro e wb ⟨rfl, hbx⟩
      clear c0 c1 c2 c3 c4 d0 d1 d2 d3 d4
      have Bb := Ba.trans (hbx.mono Ba.size)
      have Lb := La.below hbx La.lt
      have K6b := K6a.below hbx K6a.lt
      have R6b := R6a.below (hbx.mono (by omega))
      have Nb := N8.below hbx N8.lt
      have q1b := q1a.below hbx q1a.lt
      have q2b := q2a.below hbx q2a.lt
      have hsb := hsa.below hbx hsa.lt
      have K9b := K9.below hbx K9.lt
      have O9b := O9.then hbx
      have U9b := U9.then hbx
      have hb5b := bthen hb5a hbx
      have hRb := hR5.then hb5b
      have gab := hbx.size
      clear La K6a R6a N8 q1a q2a hsa K9 O9 U9 Ba hbx hb5a
      go_wp2_with fail
      refine wp_region_factsR (fun _ => (fun W9 => Below wb.heap.size wb W9)) (fun _ w1 w2 => Below w1.heap.size w1 w2) (by kernel_rfl) (by kernel_rfl) (by kernel_rfl) (Below.refl _ _).drew ?_
      simp only [fillOps, Act.put, List.setIfInBounds_toArray, List.set_cons_zero, List.set_cons_succ, Nat.zero_add, Nat.reduceAdd]
      apply wpFactsR_val
      case h1 =>
        intro vs L9 w9 hG9 hC9 hB K9 hK9
        have q0 : w9.cell? ⟨g8', 0, none⟩ = some (.slice (some ⟨p1, 0, none⟩) x.t.length x.t.length) := (Nb.below hC9 Nb.lt).cell 0
        have q1 : w9.cell? ⟨g8', 1, none⟩ = some (.slice (some ⟨p2, 0, none⟩) x.o.length x.o.length) := (Nb.below hC9 Nb.lt).cell 1
        have q2 : w9.cell? ⟨g8', 2, none⟩ = some (.int .i64 x.got) := (Nb.below hC9 Nb.lt).cell 2
        have q3 : w9.cell? ⟨g8', 3, none⟩ = some (.int .i64 x.sold) := (Nb.below hC9 Nb.lt).cell 3
        have q4 : w9.cell? ⟨g8', 4, none⟩ = some (.int .i64 x.missed) := (Nb.below hC9 Nb.lt).cell 4
        simp only [Act.put, List.setIfInBounds_toArray, List.set_cons_zero, List.set_cons_succ] at hK9
        go_simp
        exact hK9 _ _ rfl hC9 (Below.refl _ _)
      apply wpFactsR_val
      case h1 =>
        intro vs L9 w9 hG9 hC9 hB K9 hK9
        have q0 : w9.cell? ⟨w.heap.size, 0, none⟩ = some (.slice x.TA x.t.length x.tc) := (Lb.below hC9 Lb.lt).cell 0
        have q1 : w9.cell? ⟨w.heap.size, 1, none⟩ = some (.slice x.OA x.o.length x.oc) := (Lb.below hC9 Lb.lt).cell 1
        have q2 : w9.cell? ⟨w.heap.size, 2, none⟩ = some (.int .i64 x.got) := (Lb.below hC9 Lb.lt).cell 2
        have q3 : w9.cell? ⟨w.heap.size, 3, none⟩ = some (.int .i64 x.sold) := (Lb.below hC9 Lb.lt).cell 3
        have q4 : w9.cell? ⟨w.heap.size, 4, none⟩ = some (.int .i64 x.missed) := (Lb.below hC9 Lb.lt).cell 4
        simp only [Act.put, List.setIfInBounds_toArray, List.set_cons_zero, List.set_cons_succ] at hK9
        go_simp
        exact hK9 _ _ rfl hC9 (Below.refl _ _)
      refine wpFactsR_some [] (fun v w9 => InV w9 x.c v) ?su2 (fun vs L9 w9 hG9 hC9 hB K9 hK9 => ?hu2) ?ru2
      case su2 =>
        intro i9 hi9 hb9 ha9 v w1 w2 hv hT9
        have hb := hT9
        exact hv.below hb
      case hu2 =>
        have d1 := FactN.eq (hB 1 _ (by kernel_rfl) (by kernel_rfl) rfl (by decide))
        simp only [d1] at hK9 ⊢
        simp only [Act.put, List.setIfInBounds_toArray, List.set_cons_zero, List.set_cons_succ] at hK9
        go_simp
        refine (toOfficeV x w9 (hRb.then hC9) hn hm).mono ?_
        rintro en w8 ⟨v8, rfl, hv8, hb8⟩
        exact hK9 _ _ _ rfl hv8 (hC9.trans (hb8.mono hC9.size)) hb8
      refine wpFactsR_val (.bool true) (fun vs L9 w9 hG9 hC9 hB K9 hK9 => ?hu3) ?ru3
      case hu3 =>
        have d0 := FactN.eq (hB 0 _ (by kernel_rfl) (by kernel_rfl) rfl (by decide))
        simp only [d0] at hK9 ⊢
        have h1 := hB 2 _ (by kernel_rfl) (by kernel_rfl) rfl (by decide)
        go_simp
        refine (eqOfficeV (InV.copy (q1b.below hC9 q1b.lt) (q2b.below hC9 q2b.lt) hn hm) h1).mono ?_
        rintro en w8 ⟨rfl, hb8⟩
        exact hK9 _ _ rfl (hC9.trans (hb8.mono hC9.size)) hb8
      apply wpFactsR_val
      case h1 =>
        intro vs L9 w9 hG9 hC9 hB K9 hK9
        have d3 := FactN.eq (hB 3 _ (by kernel_rfl) (by kernel_rfl) rfl (by decide))
        simp only [d3] at hK9 ⊢
        simp only [Act.put, List.setIfInBounds_toArray, List.set_cons_zero, List.set_cons_succ] at hK9
        go_simp
        exact hK9 _ _ rfl hC9 (Below.refl _ _)
      refine wpFactsR_nil fun vs Lx wc hLx hbx hB => ?_
      have dl := FactN.eq (hB 4 _ rfl rfl (by decide))
      simp only [dl]
      clear hB hLx dl
      have Bc := Bb.trans (hbx.mono Bb.size)
      have K6c := K6b.below hbx K6b.lt
      have R6c := R6b.below (hbx.mono (by omega))
      have Nc := Nb.below hbx Nb.lt
      have q1c := q1b.below hbx q1b.lt
      have q2c := q2b.below hbx q2b.lt
      have hsc := hsb.below hbx hsb.lt
      have K9c := K9b.below hbx K9b.lt
      have O9c := O9b.then hbx
      have U9c := U9b.then hbx
      have hb5c := bthen hb5b hbx
      have Lc := Lb.below hbx Lb.lt
      have gbc := hbx.size
      clear Lb K6b R6b Nb q1b q2b hsb K9b O9b U9b Bb hbx hb5b hRb
      go_wp2_with fail
      refine (toStps_any A c l wc (SlcR.then hQ5 hb5c) hls).mono ?_
      rintro e wd ⟨gs2, rfl, hgs2, hs2, hbx⟩
      have Bd := Bc.trans (hbx.mono Bc.size)
      have K6d := K6c.below hbx K6c.lt
      have R6d := R6c.below (hbx.mono (by omega))
      have Nd := Nc.below hbx Nc.lt
      have q1d := q1c.below hbx q1c.lt
      have q2d := q2c.below hbx q2c.lt
      have hsd := hsc.below hbx hsc.lt
      have K9d := K9c.below hbx K9c.lt
      have O9d := O9c.then hbx
      have U9d := U9c.then hbx
      have hb5d := bthen hb5c hbx
      have Ld := Lc.below hbx Lc.lt
      have gcd := hbx.size
      clear Lc K6c R6c Nc q1c q2c hsc K9c O9c U9c Bc hbx hb5c
      go_wp2_with fail
      refine (eqStps_any _ _ _ _ l l wd (lies_stps hsd hl3) (lies_stps hs2 hl3)).mono ?_
      rw [show sameStps l l = true from decide_eq_true rfl]
      rintro e we ⟨rfl, hbx⟩
      have Be := Bd.trans (hbx.mono Bd.size)
      have K6e := K6d.below hbx K6d.lt
      have R6e := R6d.below (hbx.mono (by omega))
      have Ne := Nd.below hbx Nd.lt
      have q1e := q1d.below hbx q1d.lt
      have q2e := q2d.below hbx q2d.lt
      have hse := hsd.below hbx hsd.lt
      have K9e := K9d.below hbx K9d.lt
      have O9e := O9d.then hbx
      have U9e := U9d.then hbx
      have hb5e := bthen hb5d hbx
      have Le := Ld.below hbx Ld.lt
      have gde := hbx.size
      clear Ld K6d R6d Nd q1d q2d hsd hs2 K9d O9d U9d Bd hbx hb5d
      have c0 := Ne.cell 0
      have c1 := Ne.cell 1
      have c2 := Ne.cell 2
      have c3 := Ne.cell 3
      have c4 := Ne.cell 4
      simp only [List.getElem?_cons_zero, List.getElem?_cons_succ] at c0 c1 c2 c3 c4
      go_wp2_with fail
      refine (markOffice_bd x p1 p2 w5.heap.size g8' we hn hm hp1 hp2 g8 (by omega) q1e q2e).mono ?_
      rintro e wf ⟨⟨k1, rfl, hk1, hk1'⟩, hmx⟩
      clear c0 c1 c2 c3 c4
      have hbf := hmx.below (show w5.heap.size ≤ we.heap.size by omega)
      have Bf := Be.trans (hbf.mono (by omega))
      have K6f := hmx.lies K6e (.inl gk6)
      have R6f := R6e.below hbf
      have K9f := hmx.lies K9e (.inr (by omega))
      have O9f := hmx.own O9e (by omega)
      have U9f := hmx.own U9e (by omega)
      have Lf := hmx.lies Le (.inl (by omega))
      have hsf := hmx.lies hse (.inr (by omega))
      have gef := hmx.size
      clear K6e R6e Ne q1e q2e K9e O9e U9e Le hmx Be hse
      go_wp2_with fail
      refine (markStps_any (some ⟨gs1, 0, none⟩) l.length l.length w7.heap.size k1 (l.flatMap Stp.enc) wf (by omega) (by omega) (by omega) ⟨flat_len Stp.enc 4 Stp.enc_len l, by omega, .inr ⟨gs1, [], rfl, hgs1, by simpa using hsf⟩⟩).mono ?_
      rintro e wg ⟨rfl, og, gr0⟩
      have gr1 : wf.grownBy wg (some gs1) := gr0
      have hmx : Mid w7.heap.size w8.heap.size wf wg := Mid.of gr1 (by rintro _ ⟨⟩; exact ⟨hgs1, gss⟩)
      clear gr0 gr1 og hsf
      obtain ⟨k2, hk2⟩ : ∃ k2 : Int, k1 + 4 * (l.length : Int) = k2 := ⟨_, rfl⟩
      have hk3 : 0 ≤ k2 := by omega
      first | rw [hk2] | skip
      clear hk2 hk1 hk1'
      have hbg := hmx.below (show w7.heap.size ≤ wf.heap.size by omega)
      have Bg := Bf.trans (hbg.mono (by omega))
      have K6g := hmx.lies K6f (.inl (by omega))
      have R6g := R6f.below (hbg.mono (by omega))
      have K9g := hmx.lies K9f (.inr (by omega))
      have O9g := hmx.own O9f (by omega)
      have U9g := hmx.own U9f (by omega)
      have Lg := hmx.lies Lf (.inl (by omega))
      have gfg := hmx.size
      have hb5g := (hb5e.trans hbf).trans (hbg.mono (by omega))
      clear K6f R6f K9f O9f U9f Lf hmx Bf hbg hbf hb5e
      have c0 := K9g.cell 0
      have c1 := K9g.cell 1
      have c2 := K9g.cell 2
      have c3 := K9g.cell 3
      have c4 := K9g.cell 4
      simp only [List.getElem?_cons_zero, List.getElem?_cons_succ] at c0 c1 c2 c3 c4
      have d0 := K6g.cell 0
      have d1 := K6g.cell 1
      have d2 := K6g.cell 2
      have d3 := K6g.cell 3
      have d4 := K6g.cell 4
      simp only [List.getElem?_cons_zero, List.getElem?_cons_succ] at d0 d1 d2 d3 d4
      go_wp2_with fail
      refine (HE.out wg TA9 OA9 TA6 OA6 tc9 oc9 tc6 oc6 (offR_own O9g U9g) (R6g.mono (by omega))).mono ?_
      rintro e wh ⟨rfl, hbx⟩
      clear c0 c1 c2 c3 c4 d0 d1 d2 d3 d4
      have Bh := Bg.trans (hbx.mono Bg.size)
      have K6h := K6g.below hbx K6g.lt
      have R6h := R6g.below (hbx.mono (by omega))
      have K9h := K9g.below hbx K9g.lt
      have O9h := O9g.then hbx
      have U9h := U9g.then hbx
      have Lh := Lg.below hbx Lg.lt
      have hb5h := hb5g.trans (hbx.mono (by omega))
      have ggh := hbx.size
      clear K6g R6g K9g O9g U9g Lg Bg hbx hb5g
      obtain ⟨mk, hmk⟩ : ∃ mk : Int, 1 + 2 * (y.t.length : Int) + 3 * (y.o.length : Int) = mk := ⟨_, rfl⟩
      have hmk0 : 0 ≤ mk := by omega
      have hmm : (mk != mk) = false := by simp
      have HH := fun W h h' => heldOwn_any TA9 OA9 tc9 oc9 y.t.length y.o.length y.got y.sold y.missed 1 W (by omega) (by omega) yt yo h h'
      simp only [hmk] at HH
      have HH := Lib.hid HH
      have c0 := K9h.cell 0
      have c1 := K9h.cell 1
      have c2 := K9h.cell 2
      have c3 := K9h.cell 3
      have c4 := K9h.cell 4
      simp only [List.getElem?_cons_zero, List.getElem?_cons_succ] at c0 c1 c2 c3 c4
      go_wp2_with fail
      refine (markOwn_any TA9 OA9 tc9 oc9 y.t.length y.o.length w8.heap.size y.got y.sold y.missed 1 _ _ wh (by omega) (by omega) yt yo (by omega) O9h U9h).mono ?_
      rintro e wi ⟨rfl, Oi, Ui, hbx, hKi⟩
      rw [hmk]
      clear hmk
      clear c0 c1 c2 c3 c4
      have Bi := Bh.trans (hbx.mono (by omega))
      have K6i := hKi _ _ K6h
      have K9i := hKi _ _ K9h
      have R6i := R6h.below (hbx.mono (by omega))
      have Li := Lh.below hbx (by omega)
      have hb5i := hb5h.trans (hbx.mono (by omega))
      have ghi := hbx.size
      clear K6h K9h R6h Lh Bh O9h U9h hKi hbx hb5h
      have c0 := K9i.cell 0
      have c1 := K9i.cell 1
      have c2 := K9i.cell 2
      have c3 := K9i.cell 3
      have c4 := K9i.cell 4
      simp only [List.getElem?_cons_zero, List.getElem?_cons_succ] at c0 c1 c2 c3 c4
      go_wp2_with fail
      refine (HH.out wi Oi.reads Ui.reads).mono ?_
      rintro e wj ⟨rfl, hbx⟩
      clear c0 c1 c2 c3 c4
      have Bj := Bi.trans (hbx.mono Bi.size)
      have K6j := K6i.below hbx K6i.lt
      have K9j := K9i.below hbx K9i.lt
      have R6j := R6i.below (hbx.mono (by omega))
      have Lj := Li.below hbx Li.lt
      have Oj := Oi.then hbx
      have Uj := Ui.then hbx
      have hb5j := hb5i.trans (hbx.mono (by omega))
      have hRj := hR5.then hb5j
      have hQj := SlcR.then hQ5 hb5j
      have gij := hbx.size
      clear K6i K9i R6i Li Oi Ui Bi hbx hb5i hb5j hR5 hQ5
      have c0 := Lj.cell 0
      have c1 := Lj.cell 1
      have c2 := Lj.cell 2
      have c3 := Lj.cell 3
      have c4 := Lj.cell 4
      simp only [List.getElem?_cons_zero, List.getElem?_cons_succ] at c0 c1 c2 c3 c4
      go_wp2_with fail
      refine (toOfficeV x _ hRj hn hm).mono ?_
      rintro e wk ⟨v1, rfl, hv1, hb2⟩
      go_wp2_with fail
      refine (toStps_any A c l wk (SlcR.then hQj hb2) hls).mono ?_
      rintro e wl ⟨gs, rfl, hgs, hls3, hb3⟩
      go_wp2_with fail
      refine (hI wl (hv1.below hb3) (InSt.copy hls3 hls)).mono ?_
      rintro e wm ⟨v4, rfl, ⟨TA4, tc4, OA4, oc4, rfl, hT, hO⟩, hb4⟩
      have hbjm := bthen (bthen hb2 hb3) hb4
      clear hv1 hls3 c0 c1 c2 c3 c4 hI hgs
      have hal := (Below.refl wm.heap.size wm).alloc (Nat.le_refl _) (.cells #[.slice TA4 y.t.length tc4, .slice OA4 y.o.length oc4, .int .i64 y.got, .int .i64 y.sold, .int .i64 y.missed] 25)
      have K4 := Lies.new wm 25 #[.slice TA4 y.t.length tc4, .slice OA4 y.o.length oc4, .int .i64 y.got, .int .i64 y.sold, .int .i64 y.missed]
      have hT4 := ownsRow_below hT hal
      have hO4 := ownsRow_below hO hal
      obtain ⟨wn, hW2⟩ : ∃ wn, wm.alloc (.cells #[.slice TA4 y.t.length tc4, .slice OA4 y.o.length oc4, .int .i64 y.got, .int .i64 y.sold, .int .i64 y.missed] 25) = wn := ⟨_, rfl⟩
      rw [hW2] at hal K4 hT4 hO4
      have hgl := K4.lt
      have hge4 := hb4.size
      generalize hg : wm.heap.size = g4 at K4 hgl hge4
      clear hT hO
      have hbjn := bthen hbjm hal
      have Bn := Bj.trans (hbjn.mono Bj.size)
      have K6n := K6j.below hbjn K6j.lt
      have K9n := K9j.below hbjn K9j.lt
      have R6n := R6j.below (hbjn.mono (by omega))
      have On := Oj.then hbjn
      have Un := Uj.then hbjn
      have R4 : OffR wn wn.heap.size (y.at TA4 tc4 OA4 oc4) := offR_row hT4 hO4
      have gjn := hbjn.size
      clear hT4 hO4 hal hb2 hb3 hb4 hbjm hbjn K6j K9j R6j Lj Oj Uj Bj hRj hQj
      have c0 := K4.cell 0
      have c1 := K4.cell 1
      have c2 := K4.cell 2
      have c3 := K4.cell 3
      have c4 := K4.cell 4
      simp only [List.getElem?_cons_zero, List.getElem?_cons_succ] at c0 c1 c2 c3 c4
      have d0 := K6n.cell 0
      have d1 := K6n.cell 1
      have d2 := K6n.cell 2
      have d3 := K6n.cell 3
      have d4 := K6n.cell 4
      simp only [List.getElem?_cons_zero, List.getElem?_cons_succ] at d0 d1 d2 d3 d4
      go_wp2_with (rw [hW2]; clear hW2; rw [hg])
      refine (HE.out wn TA4 OA4 TA6 OA6 tc4 oc4 tc6 oc6 R4 (R6n.mono (by omega))).mono ?_
      rintro e wo ⟨rfl, hbx⟩
      clear c0 c1 c2 c3 c4 d0 d1 d2 d3 d4
      have Bo := Bn.trans (hbx.mono Bn.size)
      have K9o := K9n.below hbx K9n.lt
      have Oo := On.then hbx
      have Uo := Un.then hbx
      clear K6n K9n R6n On Un K4 R4 Bn HE
      have c0 := K9o.cell 0
      have c1 := K9o.cell 1
      have c2 := K9o.cell 2
      have c3 := K9o.cell 3
      have c4 := K9o.cell 4
      simp only [List.getElem?_cons_zero, List.getElem?_cons_succ] at c0 c1 c2 c3 c4
      go_wp2_with fail
      refine (HH.out wo Oo.reads Uo.reads).mono ?_
      rintro e wp ⟨rfl, hbx⟩
      clear c0 c1 c2 c3 c4 K9o Oo Uo
      go_wp2
      go_ret
      exact ⟨rfl, Bo.trans (hbx.mono Bo.size)⟩
    · have HS : lessen (1048576 - ((x.t.length : Int) + (x.o.length : Int))) l.length = -1 := by unfold lessen; rw [if_neg (by omega)]
      have HZ2 := Lib.hid HS; clear HS
      go_enter Try.func5, Try.ntmps5
      go_wp2_with fail
      generalize (w.alloc (.cells #[.slice x.TA x.t.length x.tc, .slice x.OA x.o.length x.oc, .int .i64 x.got, .int .i64 x.sold, .int .i64 x.missed] 38)) = W at b0 L0 ⊢
      refine (szOffice_any x _ _ hl1 hl2 (by omega) (by omega)).mono ?_
      rintro e w1 ⟨rfl, hb1⟩
      rw [HZ.out]
      go_wp2_with fail
      refine (szStps_any A l.length c _ w1 (by omega) (by omega) (by omega)).mono ?_
      rintro e w1 ⟨rfl, rfl⟩
      rw [HZ2.out]
      go_wp2
      go_ret
      exact ⟨rfl, b0.trans (hb1.mono b0.size)⟩
  · have HS : lessen 1048576 (x.t.length + x.o.length) = -1 := by unfold lessen; rw [if_neg (by omega)]
    have HZ := Lib.hid HS; clear HS
    go_enter Try.func5, Try.ntmps5
    go_wp2_with fail
    generalize (w.alloc (.cells #[.slice x.TA x.t.length x.tc, .slice x.OA x.o.length x.oc, .int .i64 x.got, .int .i64 x.sold, .int .i64 x.missed] 38)) = W at b0 L0 ⊢
    refine (szOffice_any x _ _ hl1 hl2 (by omega) (by omega)).mono ?_
    rintro e w1 ⟨rfl, hb1⟩
    rw [HZ.out]
    go_wp2
    go_ret
    exact ⟨rfl, b0.trans (hb1.mono b0.size)⟩
end Go.Proofs.Ytdiojhjkcholiaa

/- The law FnExactRunOffice holds. -/
namespace Go.Proofs.Ytdiojhjkcholiaa
open Go.RowKit

theorem specRunV (x : Off) (l : List Stp) {v v' : Value} (W : World) (h : InV W x.c v) (h' : InSt W l v') : Calls Try.prog 21 #[v, v'] W (GivesN W (runR x.c l)) := by
  obtain ⟨X, rfl, hc, hr, hcap⟩ := h
  obtain ⟨A, c, rfl, hs⟩ := h'
  rw [← hc]
  exact specRun_any X A c l W hr hs hcap
theorem implRunV (x : Off) (l : List Stp) {v v' : Value} (W : World) (h : InV W x.c v) (h' : InSt W l v') : Calls Try.prog 23 #[v, v'] W (GivesN W (runR x.c l)) := by
  obtain ⟨X, rfl, hc, hr, hcap⟩ := h
  obtain ⟨A, c, rfl, hs⟩ := h'
  rw [← hc]
  exact implRun_any X A c l W hr hs
theorem lawRunOffice_any (x : Off) (A : Option Addr) (c : Nat) (l : List Stp) (w : World) (h : OffR w w.heap.size x) (hs : StpsR w w.heap.size A l) :
    Calls Try.prog 5 #[x.val, .slice A l.length c] w fun e w' => e = .returned (.bool true) ∧ Below w.heap.size w w' :=
  lawRun_of x A c l (runR x.c l).1 (runR x.c l).2.1 (runR x.c l).2.2 w h hs (runR_len x.c l).1 (runR_len x.c l).2 (fun W h h' => specRunV x l W h h') (fun W h h' => implRunV x l W h h')
end Go.Proofs.Ytdiojhjkcholiaa

/- Arguments that came in: from the reader's own reading to plain words (no program in sight). -/
namespace Go.Proofs.Ytdiojhjkcholiaa
open Go.ChangeShapes Go.WideShapes Go.ChangeAt Go.RowKit Go.Deep

section
variable {H : Type} {enc : TypeId × Value → H} {P : Program} {w : World} {base : Nat} {spare : Nat → Bool} {held : Bool}

/-- The fields of a struct of one-cell fields: place by place. -/
theorem trod_fields {e : TypeId} {fs : Array Field} {n : Nat} {cs : List Value} {x : DataW H × List MemPlace} (he : P.underlying e = some (.struct fs)) (hone : oneCellFields P fs = true) (hC : P.cellsOf e = fs.size)
    (h : DataW.trod enc P w base spare held n e cs = some x) :
    cs.length = fs.size ∧ ∀ (j : Nat) (f : Field), fs[j]? = some f → ∃ v m y, cs[j]? = some v ∧ DataW.trod enc P w base spare held m f.type [v] = some y := by
  obtain ⟨ys, n', _, _, hlen, hyl, hf⟩ := DataW.trod_struct he h
  refine ⟨by rw [hlen, hC], fun j f hj => ?_⟩
  obtain ⟨ho, hk⟩ := hone_of hone j f hj
  have hjl : j < fs.size := (Array.getElem?_eq_some_iff.1 hj).1
  have hjc : j < cs.length := by rw [hlen, hC]; exact hjl
  have h1 := hf j f hj
  rw [ho, hk, List.drop_eq_getElem_cons hjc] at h1
  have hys : ys[j]? = some (ys[j]'(by omega)) := List.getElem?_eq_getElem (by omega)
  exact ⟨_, n', _, List.getElem?_eq_getElem hjc, h1.trans hys⟩

theorem cell_spot {w : World} {a : Addr} {u : Value} (h : w.cell? a = some u) : ∃ b off, a = ⟨b, off, none⟩ ∧ b < w.heap.size := by
  obtain ⟨b, off, sp⟩ := a
  cases sp with
  | none => exact ⟨b, off, rfl, block_lt_of_cell h⟩
  | some s =>
    simp only [World.cell?] at h
    split at h <;> simp_all

/-- A slice that came in, whatever its elements: k cells each; what the reader knows of an element's cells. -/
theorem trod_slc {t e : TypeId} {k n : Nat} {v : Value} {x : DataW H × List MemPlace} (ht : P.underlying t = some (.slice e)) (hk : P.cellsOf e = k) (hk0 : 0 < k)
    (h : DataW.trod enc P w base spare held n t [v] = some x) :
    ∃ A len cap, v = .slice A len cap ∧ ∃ css : List (List Value), css.length = len ∧ SlcR w w.heap.size k A len css.flatten ∧
      ∀ cs ∈ css, cs.length = k ∧ ∃ m y, DataW.trod enc P w base spare held m e cs = some y := by
  rcases open_slice ht h with ⟨h0, _⟩ | ⟨a, len, cap, m, n', D, Pl, hcs, hb, hl, hm, hmm, hx, hi⟩
  · have : v = .slice none 0 0 := by simpa using h0
    exact ⟨none, 0, 0, this, [], rfl, SlcR.nil _ _ _ _, by simp⟩
  · have hv : v = .slice (some a) len cap := by simpa using hcs
    have hle : len ≤ m := by rw [hmm]; split <;> omega
    rw [hk] at hi
    have hsel : ∀ i : Nat, ∃ cs : List Value, cs.length = k ∧ (i < len → (∀ j u, cs[j]? = some u → w.cell? ((a.add (i * k)).add j) = some u) ∧ ∃ m y, DataW.trod enc P w base spare held m e cs = some y) := fun i => by
      by_cases hlt : i < len
      · obtain ⟨cs', hc, ht'⟩ := hi i (by omega)
        obtain ⟨_, hcl, hat⟩ := World.cells?_some hc
        exact ⟨cs', hcl, fun _ => ⟨fun j u hu => by
          have hj : j < cs'.length := (List.getElem?_eq_some_iff.1 hu).1
          rw [hat j (by omega), hu], _, _, ht'⟩⟩
      · exact ⟨List.replicate k undef, by simp, fun h => absurd h hlt⟩
    obtain ⟨f, hf⟩ := Classical.axiomOfChoice hsel
    have hfk : ∀ i, (f i).length = k := fun i => (hf i).1
    have hlen := flat_len f k hfk (List.range len)
    rw [List.length_range, List.flatMap_def] at hlen
    refine ⟨some a, len, cap, hv, (List.range len).map f, by simp, ⟨hlen, by unfold maxLen at hm; omega, fun hpos => ?_⟩, ?_⟩
    · have h00 : (f 0)[0]? = some ((f 0)[0]'(by rw [hfk]; exact hk0)) := List.getElem?_eq_getElem _
      have hc0 := ((hf 0).2 hpos).1 0 _ h00
      rw [Nat.zero_mul] at hc0
      obtain ⟨b, off, rfl, hb'⟩ := cell_spot (a := a) hc0
      refine ⟨b, off, rfl, hb', fun j u hu => ?_⟩
      have hj : j < len * k := by rw [← hlen]; exact (List.getElem?_eq_some_iff.1 hu).1
      have hi' : j / k < len := Nat.div_lt_of_lt_mul (by rw [Nat.mul_comm]; exact hj)
      have hr : j % k < k := Nat.mod_lt _ hk0
      have e : j = j / k * k + j % k := by rw [Nat.mul_comm]; exact (Nat.div_add_mod j k).symm
      have hat := flat_at f k hfk (List.range len) (j / k) (by simpa using hi') (j % k) hr
      rw [List.flatMap_def, ← e, List.getElem_range, hu] at hat
      have hc := ((hf (j / k)).2 hi').1 (j % k) u hat.symm
      have hadd : ((⟨b, off, none⟩ : Addr).add (j / k * k)).add (j % k) = ⟨b, off + j, none⟩ := by
        unfold Addr.add
        by_cases h1 : j / k * k = 0 <;> by_cases h2 : j % k = 0 <;> simp [h1, h2] <;> omega
      rw [hadd] at hc
      exact hc
    · intro cs hcs
      obtain ⟨i, hi, rfl⟩ := List.mem_map.1 hcs
      exact ⟨hfk i, ((hf i).2 (List.mem_range.1 hi)).2⟩
end

/-- A list of lists of cells, each the image of something. -/
theorem lift_list {α : Type} (enc : α → List Value) : ∀ css : List (List Value), (∀ cs ∈ css, ∃ x, cs = enc x) → ∃ l : List α, css.flatten = l.flatMap enc ∧ l.length = css.length
  | [], _ => ⟨[], rfl, rfl⟩
  | cs :: css, h => by
    obtain ⟨x, hx⟩ := h cs (by simp)
    obtain ⟨l, hl, hn⟩ := lift_list enc css (fun c hc => h c (by simp [hc]))
    exact ⟨x :: l, by simp [hl, hx], by simp [hn]⟩

section
variable {H : Type} {enc : TypeId × Value → H} {P : Program} {w : World} {base : Nat} {spare : Nat → Bool} {held : Bool}
/-- A field that is an int. -/
theorem trod_i64 {t : TypeId} {n : Nat} {v : Value} {x : DataW H × List MemPlace} (ht : P.underlying t = some (.int .i64)) (h : DataW.trod enc P w base spare held n t [v] = some x) :
    ∃ m : Int, v = .int .i64 m ∧ -9223372036854775808 ≤ m ∧ m ≤ 9223372036854775807 := by
  obtain ⟨m, e, _, hw⟩ := DataW.trod_int ht h
  refine ⟨m, by simpa using e, ?_⟩
  simp [Lit.wf, IntKind.min, IntKind.max, IntKind.signed, IntKind.bits] at hw
  omega
end

/-- Structs of ints alone. -/
def intFields (P : Program) (fs : Array Field) : Bool := fs.all fun f => match P.underlying f.type with | some (.int .i64) => true | _ => false
theorem intFields_at {P : Program} {fs : Array Field} (h : intFields P fs = true) (j : Nat) (f : Field) (hj : fs[j]? = some f) : P.underlying f.type = some (.int .i64) := by
  have := (Array.all_eq_true_iff_forall_mem.1 h) f (Array.mem_of_getElem? hj)
  split at this
  · assumption
  · cases this

section
variable {H : Type} {enc : TypeId × Value → H} {P : Program} {w : World} {base : Nat} {spare : Nat → Bool} {held : Bool}
theorem trod_int_cells {e : TypeId} {fs : Array Field} {n k : Nat} {cs : List Value} {x : DataW H × List MemPlace} (he : P.underlying e = some (.struct fs)) (hone : oneCellFields P fs = true) (hC : P.cellsOf e = fs.size) (hint : intFields P fs = true) (hk : fs.size = k)
    (h : DataW.trod enc P w base spare held n e cs = some x) : ∃ ns : List Int, ns.length = k ∧ cs = ns.map (Value.int .i64) := by
  obtain ⟨hl, hf⟩ := trod_fields he hone hC h
  subst hk
  refine ⟨cs.map fun v => match v with | .int _ m => m | _ => 0, by simpa using hl, List.ext_getElem? fun j => ?_⟩
  rw [List.getElem?_map, List.getElem?_map]
  by_cases hj : j < cs.length
  · obtain ⟨v, m, y, hv, hy⟩ := hf j (fs[j]'(by omega)) (Array.getElem?_eq_getElem (by omega))
    obtain ⟨z, rfl, _, _⟩ := trod_i64 (intFields_at hint j _ (Array.getElem?_eq_getElem (by omega))) hy
    rw [hv]; rfl
  · rw [List.getElem?_eq_none (by omega)]; rfl

/-- A struct of ints, by value. -/
theorem open_int_struct {t : TypeId} {fs : Array Field} {k b0 : Nat} {r : Reach} {v : Value} {d : DataW H} {p : List MemPlace} (he : P.underlying t = some (.struct fs)) (hone : oneCellFields P fs = true) (hC : P.cellsOf t = fs.size) (hint : intFields P fs = true) (hk : fs.size = k)
    (hv : Value.okWide P w r b0 t v) (h : DataW.Trod enc P w base spare held t v d p) : ∃ ns : List Int, ns.length = k ∧ v = .agg (ns.map (Value.int .i64)).toArray := by
  obtain ⟨cs, rfl, hsz⟩ := okWide_struct he hv
  obtain ⟨n, hn⟩ := h
  obtain ⟨ns, hl, hc⟩ := trod_int_cells he hone hC hint hk hn
  refine ⟨ns, hl, ?_⟩
  rw [← hc]; simp [Value.cells]

/-- A slice of structs of ints. -/
theorem open_int_structs {α : Type} (en : α → List Value) {t e : TypeId} {fs : Array Field} {k b0 : Nat} {r : Reach} {v : Value} {d : DataW H} {p : List MemPlace} (ht : P.underlying t = some (.slice e)) (he : P.underlying e = some (.struct fs)) (hone : oneCellFields P fs = true) (hC : P.cellsOf e = fs.size) (hint : intFields P fs = true) (hk : fs.size = k) (hk0 : 0 < k)
    (hen : ∀ ns : List Int, ns.length = k → ∃ x, ns.map (Value.int .i64) = en x)
    (hv : Value.okWide P w r b0 t v) (h : DataW.Trod enc P w base spare held t v d p) : ∃ A c, ∃ l : List α, v = .slice A l.length c ∧ SlcR w w.heap.size k A l.length (l.flatMap en) := by
  obtain ⟨A, len, cap, rfl⟩ := okWide_slice ht hv
  obtain ⟨n, hn⟩ := h
  obtain ⟨A', len', cap', e', css, hl, hS, hcs⟩ := trod_slc ht (hC.trans hk) hk0 hn
  injection e' with e1 e2 e3
  subst e1; subst e2; subst e3
  obtain ⟨l, hfl, hll⟩ := lift_list en css (fun cs hc => by
    obtain ⟨hlen, m, y, hy⟩ := hcs cs hc
    obtain ⟨ns, hn', hc'⟩ := trod_int_cells he hone hC hint hk hy
    obtain ⟨x, hx⟩ := hen ns hn'
    exact ⟨x, by rw [hc', hx]⟩)
  refine ⟨A, cap, l, by rw [hll, hl], ?_⟩
  rw [hll, hl, ← hfl]; exact hS
end
theorem i64_lo {n : Int} (h : (Lit.int .i64 n).wf = true) : -9223372036854775808 ≤ n := by
  simp [Lit.wf, IntKind.min, IntKind.max, IntKind.signed, IntKind.bits] at h; omega
theorem i64_hi {n : Int} (h : (Lit.int .i64 n).wf = true) : n ≤ 9223372036854775807 := by
  simp [Lit.wf, IntKind.min, IntKind.max, IntKind.signed, IntKind.bits] at h; omega
end Go.Proofs.Ytdiojhjkcholiaa

/- Arguments that came in: offices. -/
namespace Go.Proofs.Ytdiojhjkcholiaa
open Go.ChangeShapes Go.WideShapes Go.ChangeAt Go.RowKit Go.Deep
section
variable {H : Type} {enc : TypeId × Value → H} {P : Program} {w : World} {base : Nat} {spare : Nat → Bool} {held : Bool}
theorem trod_int_structs {α : Type} (en : α → List Value) {t e : TypeId} {fs : Array Field} {k n : Nat} {v : Value} {x : DataW H × List MemPlace} (ht : P.underlying t = some (.slice e)) (he : P.underlying e = some (.struct fs)) (hone : oneCellFields P fs = true) (hC : P.cellsOf e = fs.size) (hint : intFields P fs = true) (hk : fs.size = k) (hk0 : 0 < k)
    (hen : ∀ ns : List Int, ns.length = k → ∃ x, ns.map (Value.int .i64) = en x)
    (h : DataW.trod enc P w base spare held n t [v] = some x) : ∃ A c, ∃ l : List α, v = .slice A l.length c ∧ SlcR w w.heap.size k A l.length (l.flatMap en) := by
  obtain ⟨A, len, cap, hv, css, hl, hS, hcs⟩ := trod_slc ht (hC.trans hk) hk0 h
  obtain ⟨l, hfl, hll⟩ := lift_list en css (fun cs hc => by
    obtain ⟨hlen, m, y, hy⟩ := hcs cs hc
    obtain ⟨ns, hn', hc'⟩ := trod_int_cells he hone hC hint hk hy
    obtain ⟨x, hx⟩ := hen ns hn'
    exact ⟨x, by rw [hc', hx]⟩)
  refine ⟨A, cap, l, by rw [hll, hl]; exact hv, ?_⟩
  rw [hll, hl, ← hfl]; exact hS
end
section
variable {H : Type} {enc : TypeId × Value → H} {w : World} {base : Nat} {spare : Nat → Bool} {held : Bool}
theorem trod_office {n : Nat} {cs : List Value} {x : DataW H × List MemPlace} (h : DataW.trod enc Try.prog w base spare held n 38 cs = some x) : ∃ p : Off, cs = p.enc ∧ OffR w w.heap.size p := by
  obtain ⟨hl, hf⟩ := trod_fields Try.underlying38 (by kernel_rfl) (by kernel_rfl) h
  match cs, hl with
  | [v0, v1, v2, v3, v4], _ =>
    obtain ⟨u0, _, _, e0, t0⟩ := hf 0 _ rfl
    obtain ⟨u1, _, _, e1, t1⟩ := hf 1 _ rfl
    obtain ⟨u2, _, _, e2, t2⟩ := hf 2 _ rfl
    obtain ⟨u3, _, _, e3, t3⟩ := hf 3 _ rfl
    obtain ⟨u4, _, _, e4, t4⟩ := hf 4 _ rfl
    simp only [List.getElem?_cons_zero, List.getElem?_cons_succ, Option.some.injEq] at e0 e1 e2 e3 e4
    subst e0; subst e1; subst e2; subst e3; subst e4
    obtain ⟨TA, tc, t, rfl, ht⟩ := trod_int_structs (k := 2) Tray.enc Try.underlying35 Try.underlying107 (by kernel_rfl) (by kernel_rfl) (by kernel_rfl) (by kernel_rfl) (by omega) Tray.of_ints_enc t0
    obtain ⟨OA, oc, o, rfl, ho⟩ := trod_int_structs (k := 3) Outing.enc Try.underlying36 Try.underlying109 (by kernel_rfl) (by kernel_rfl) (by kernel_rfl) (by kernel_rfl) (by omega) Outing.of_ints_enc t1
    obtain ⟨g, rfl, _, _⟩ := trod_i64 Try.underlying3 t2
    obtain ⟨s, rfl, _, _⟩ := trod_i64 Try.underlying3 t3
    obtain ⟨m, rfl, _, _⟩ := trod_i64 Try.underlying3 t4
    exact ⟨⟨TA, t, tc, OA, o, oc, g, s, m⟩, rfl, ht, ho⟩
set_option maxRecDepth 100000 in
theorem open_office {b0 : Nat} {r : Reach} {v : Value} {d : DataW H} {q : List MemPlace} (hv : Value.okWide Try.prog w r b0 38 v) (h : DataW.Trod enc Try.prog w base spare held 38 v d q) : ∃ p : Off, v = p.val ∧ OffR w w.heap.size p := by
  obtain ⟨cs, rfl, _⟩ := okWide_struct Try.underlying38 hv
  obtain ⟨n, hn⟩ := h
  obtain ⟨p, hp, hr⟩ := trod_office hn
  refine ⟨p, ?_, hr⟩
  have hp' : cs.toList = p.enc := by simpa [Value.cells] using hp
  unfold Off.val
  rw [show cs = cs.toList.toArray from rfl, hp']; rfl
end
end Go.Proofs.Ytdiojhjkcholiaa
