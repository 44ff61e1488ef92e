/- Fo15: the texts LawRun LawRunZ LawOffs, joined into one file. -/
import Derived.Test.YtdiojhjkcholiaaFo12
import Derived.Test.YtdiojhjkcholiaaFo14

/- The law FnExactRunOffice: the walk, for any results that both give. (Printed by gen_lawrun.py) -/
namespace Go.Proofs.Ytdiojhjkcholiaa
open Go.RowKit

/-- The value v is a row of steps like l that reads. -/
def InSt (w : World) (l : List Stp) (v : Value) : Prop := ∃ A c, v = .slice A l.length c ∧ StpsR w w.heap.size A l
theorem InSt.copy {l : List Stp} {w : World} {g : Nat} (h1 : Lies w g 45 (l.flatMap Stp.enc)) (hn : l.length ≤ 1048576) : InSt w l (.slice (some ⟨g, 0, none⟩) l.length l.length) :=
  ⟨_, _, rfl, lies_stps h1 (by omega)⟩

set_option maxRecDepth 100000 in
set_option maxHeartbeats 4000000 in
set_option linter.unusedVariables false in
theorem lawRun_of (x : Off) (A : Option Addr) (c : Nat) (l : List Stp) (y : Oc) (n : Int) (b : Bool) (w : World) (h : OffR w w.heap.size x) (hs : StpsR w w.heap.size A l) (yt : y.t.length ≤ 1000000) (yo : y.o.length ≤ 1000000)
    (hS : ∀ {v v' : Value} (W : World), InV W x.c v → InSt W l v' → Calls Try.prog 21 #[v, v'] W (GivesN W (y, n, b)))
    (hI : ∀ {v v' : Value} (W : World), InV W x.c v → InSt W l v' → Calls Try.prog 23 #[v, v'] W (GivesN W (y, n, b))) :
    Calls Try.prog 5 #[x.val, .slice A l.length c] w fun e w' => e = .returned (.bool true) ∧ Below w.heap.size w w' := by
  have hl1 := h.ts.big
  have hl2 := h.os.big
  have hl3 := hs.big
  have b0 := (Below.refl w.heap.size w).alloc (Nat.le_refl _) (.cells #[.slice x.TA x.t.length x.tc, .slice x.OA x.o.length x.oc, .int .i64 x.got, .int .i64 x.sold, .int .i64 x.missed] 38)
  have L0 := Lies.new w 38 #[.slice x.TA x.t.length x.tc, .slice x.OA x.o.length x.oc, .int .i64 x.got, .int .i64 x.sold, .int .i64 x.missed]
  by_cases hbig : ((x.t.length + x.o.length : Nat) : Int) ≤ 1048576
  · have HS : lessen 1048576 (x.t.length + x.o.length) = 1048576 - ((x.t.length + x.o.length : Nat) : Int) := by unfold lessen; rw [if_pos (by omega)]
    have HZ := Lib.hid HS; clear HS
    have hn : x.t.length ≤ 1048576 := by omega
    have hm : x.o.length ≤ 1048576 := by omega
    by_cases hbig2 : (l.length : Int) ≤ 1048576 - ((x.t.length + x.o.length : Nat) : Int)
    · have HS : lessen (1048576 - ((x.t.length : Int) + (x.o.length : Int))) l.length = 1048576 - ((x.t.length : Int) + (x.o.length : Int)) - l.length := by unfold lessen; rw [if_pos (by omega)]
      have HZ2 := Lib.hid HS; clear HS
      have hls : l.length ≤ 1048576 := by omega
      have hbo : (b != b) = false := by simp
      have hno : (n != n) = false := by simp
      go_enter Try.func5, Try.ntmps5
      go_wp2_with fail
      generalize (w.alloc (.cells #[.slice x.TA x.t.length x.tc, .slice x.OA x.o.length x.oc, .int .i64 x.got, .int .i64 x.sold, .int .i64 x.missed] 38)) = W at b0 L0 ⊢
      have hW := h.up b0 (Nat.le_refl _)
      have hQ := SlcR.up hs b0 (Nat.le_refl _)
      refine (szOffice_any x _ _ hl1 hl2 (by omega) (by omega)).mono ?_
      rintro e w1 ⟨rfl, hb1⟩
      rw [HZ.out]
      have L1 := L0.below hb1 L0.lt
      have hR1 := hW.then hb1
      have hQ1 := SlcR.up hQ hb1 (Nat.le_refl _)
      have B1 := b0.trans (hb1.mono b0.size)
      clear L0 b0 hW hb1 h hQ hs
      go_wp2_with fail
      refine (szStps_any A l.length c _ w1 (by omega) (by omega) (by omega)).mono ?_
      rintro e w1 ⟨rfl, rfl⟩
      rw [HZ2.out]
      have c0 := L1.cell 0
      have c1 := L1.cell 1
      have c2 := L1.cell 2
      have c3 := L1.cell 3
      have c4 := L1.cell 4
      simp only [List.getElem?_cons_zero, List.getElem?_cons_succ] at c0 c1 c2 c3 c4
      go_wp2_with fail
      clear hbig hbig2 HZ HZ2
      refine (toOfficeV x _ hR1 hn hm).mono ?_
      rintro e w2 ⟨v1, rfl, hv1, hb2⟩
      go_wp2_with fail
      refine (toStps_any A c l w2 (SlcR.then hQ1 hb2) hls).mono ?_
      rintro e w3 ⟨gs, rfl, hgs, hls3, hb3⟩
      go_wp2_with fail
      refine (hS w3 (hv1.below hb3) (InSt.copy hls3 hls)).mono ?_
      rintro e w4 ⟨v4, rfl, ⟨TA6, tc6, OA6, oc6, rfl, hT, hO⟩, hb4⟩
      have hb14 := bthen (bthen hb2 hb3) hb4
      clear hv1 hls3 c0 c1 c2 c3 c4 hS hgs
      have hal := (Below.refl w4.heap.size w4).alloc (Nat.le_refl _) (.cells #[.slice TA6 y.t.length tc6, .slice OA6 y.o.length oc6, .int .i64 y.got, .int .i64 y.sold, .int .i64 y.missed] 25)
      have K6 := Lies.new w4 25 #[.slice TA6 y.t.length tc6, .slice OA6 y.o.length oc6, .int .i64 y.got, .int .i64 y.sold, .int .i64 y.missed]
      have hT6 := ownsRow_below hT hal
      have hO6 := ownsRow_below hO hal
      obtain ⟨w5, hW2⟩ : ∃ w5, w4.alloc (.cells #[.slice TA6 y.t.length tc6, .slice OA6 y.o.length oc6, .int .i64 y.got, .int .i64 y.sold, .int .i64 y.missed] 25) = w5 := ⟨_, rfl⟩
      rw [hW2] at hal K6 hT6 hO6
      have hgl := K6.lt
      have hge6 := hb4.size
      generalize hg : w4.heap.size = g6 at K6 hgl hge6
      clear hT hO
      have hb15 := bthen hb14 hal
      have B5 := B1.trans (hb15.mono B1.size)
      have L5 := L1.below hb15 L1.lt
      have hR5 := hR1.then hb15
      have hQ5 := SlcR.then hQ1 hb15
      have R6 : OffR w5 w5.heap.size (y.at TA6 tc6 OA6 oc6) := offR_row hT6 hO6
      have g15 := hb15.size
      have gl1 := L1.lt
      clear hT6 hO6 hal hb2 hb3 hb4 hb14 hb15 L1 hR1 hQ1 B1
      have c0 := L5.cell 0
      have c1 := L5.cell 1
      have c2 := L5.cell 2
      have c3 := L5.cell 3
      have c4 := L5.cell 4
      simp only [List.getElem?_cons_zero, List.getElem?_cons_succ] at c0 c1 c2 c3 c4
      go_wp2_with (rw [hW2]; clear hW2; rw [hg])
      refine (toOffice_any x _ hR5 hn hm).mono ?_
      rintro e w6 ⟨p1, p2, rfl, hp1, hp2, hq1, hq2, hb6⟩
      have L8 := Lies.new w6 25 #[.slice (some ⟨p1, 0, none⟩) x.t.length x.t.length, .slice (some ⟨p2, 0, none⟩) x.o.length x.o.length, .int .i64 x.got, .int .i64 x.sold, .int .i64 x.missed]
      have q1 := hq1.alloc (.cells #[.slice (some ⟨p1, 0, none⟩) x.t.length x.t.length, .slice (some ⟨p2, 0, none⟩) x.o.length x.o.length, .int .i64 x.got, .int .i64 x.sold, .int .i64 x.missed] 25)
      have q2 := hq2.alloc (.cells #[.slice (some ⟨p1, 0, none⟩) x.t.length x.t.length, .slice (some ⟨p2, 0, none⟩) x.o.length x.o.length, .int .i64 x.got, .int .i64 x.sold, .int .i64 x.missed] 25)
      have hal := (Below.refl w6.heap.size w6).alloc (Nat.le_refl _) (.cells #[.slice (some ⟨p1, 0, none⟩) x.t.length x.t.length, .slice (some ⟨p2, 0, none⟩) x.o.length x.o.length, .int .i64 x.got, .int .i64 x.sold, .int .i64 x.missed] 25)
      have hb57 := bthen hb6 hal
      have g8 := hq2.lt
      have g56 := hb6.size
      clear c0 c1 c2 c3 c4 hq1 hq2
      go_wp2_with fail
      generalize w6.alloc (.cells #[.slice (some ⟨p1, 0, none⟩) x.t.length x.t.length, .slice (some ⟨p2, 0, none⟩) x.o.length x.o.length, .int .i64 x.got, .int .i64 x.sold, .int .i64 x.missed] 25) = w7 at L8 q1 q2 hal hb57 ⊢
      generalize w6.heap.size = g8' at L8 g8 g56 hal ⊢
      refine (toStps_any A c l w7 (SlcR.then hQ5 hb57) hls).mono ?_
      rintro e w8 ⟨gs1, rfl, hgs1, hs8, hb8⟩
      have hb58 := bthen hb57 hb8
      have B8 := B5.trans (hb58.mono B5.size)
      have L58 := L5.below hb58 L5.lt
      have K68 := K6.below hb58 K6.lt
      have gk6 := K6.lt
      have R68 := R6.below hb58
      have g78 := hb8.size
      have gl8 := L8.lt
      have M8 := L8.below hb8 L8.lt
      have q18 := q1.below hb8 q1.lt
      have q28 := q2.below hb8 q2.lt
      have gss := hs8.lt
      clear L5 K6 R6 hal hb6 L8 q1 q2 hb57 hb8 B5
      have m0 := M8.cell 0
      have m1 := M8.cell 1
      have m2 := M8.cell 2
      have m3 := M8.cell 3
      have m4 := M8.cell 4
      simp only [List.getElem?_cons_zero, List.getElem?_cons_succ] at m0 m1 m2 m3 m4
      go_wp2_with fail
      refine (hI w8 (InV.copy q18 q28 hn hm) (InSt.copy hs8 hls)).mono ?_
      rintro e w9 ⟨v9, rfl, ⟨TA9, tc9, OA9, oc9, rfl, hT, hO⟩, hb9⟩
      clear m0 m1 m2 m3 m4
      have hal := (Below.refl w9.heap.size w9).alloc (Nat.le_refl _) (.cells #[.slice TA9 y.t.length tc9, .slice OA9 y.o.length oc9, .int .i64 y.got, .int .i64 y.sold, .int .i64 y.missed] 25)
      have K9 := Lies.new w9 25 #[.slice TA9 y.t.length tc9, .slice OA9 y.o.length oc9, .int .i64 y.got, .int .i64 y.sold, .int .i64 y.missed]
      have hT9 := ownsRow_below hT hal
      have hO9 := ownsRow_below hO hal
      obtain ⟨wa, hW2⟩ : ∃ wa, w9.alloc (.cells #[.slice TA9 y.t.length tc9, .slice OA9 y.o.length oc9, .int .i64 y.got, .int .i64 y.sold, .int .i64 y.missed] 25) = wa := ⟨_, rfl⟩
      rw [hW2] at hal K9 hT9 hO9
      have hgl := K9.lt
      have hge9 := hb9.size
      generalize hg : w9.heap.size = g9 at K9 hgl hge9
      clear hT hO
      have hb8a := bthen hb9 hal
      have O9 := OwnS.of hT9
      have U9 := OwnS.of hO9
      have Ba := B8.trans (hb8a.mono B8.size)
      have La := L58.below hb8a L58.lt
      have K6a := K68.below hb8a K68.lt
      have R6a := R68.below (hb8a.mono (by omega))
      have N8 := M8.below hb8a M8.lt
      have q1a := q18.below hb8a q18.lt
      have q2a := q28.below hb8a q28.lt
      have hsa := hs8.below hb8a hs8.lt
      have hb5a := bthen hb58 hb8a
      have g8a := hb8a.size
      have HE := Lib.hid (fun W TA OA TA' OA' tc oc tc' oc' h h' => @eqOwn y TA OA TA' OA' tc oc tc' oc' W h h')
      clear hT9 hO9 hal hb9 hb8a L58 K68 R68 M8 q18 q28 hs8 B8 hb58
      have c0 := K9.cell 0
      have c1 := K9.cell 1
      have c2 := K9.cell 2
      have c3 := K9.cell 3
      have c4 := K9.cell 4
      simp only [List.getElem?_cons_zero, List.getElem?_cons_succ] at c0 c1 c2 c3 c4
      have d0 := K6a.cell 0
      have d1 := K6a.cell 1
      have d2 := K6a.cell 2
      have d3 := K6a.cell 3
      have d4 := K6a.cell 4
      simp only [List.getElem?_cons_zero, List.getElem?_cons_succ] at d0 d1 d2 d3 d4
      go_wp2_with (rw [hW2]; clear hW2; rw [hg])
      refine (HE.out wa TA9 OA9 TA6 OA6 tc9 oc9 tc6 oc6 (offR_own O9 U9) (R6a.mono (by omega))).mono ?_
      rintro e wb ⟨rfl, hbx⟩
      clear c0 c1 c2 c3 c4 d0 d1 d2 d3 d4
      have Bb := Ba.trans (hbx.mono Ba.size)
      have Lb := La.below hbx La.lt
      have K6b := K6a.below hbx K6a.lt
      have R6b := R6a.below (hbx.mono (by omega))
      have Nb := N8.below hbx N8.lt
      have q1b := q1a.below hbx q1a.lt
      have q2b := q2a.below hbx q2a.lt
      have hsb := hsa.below hbx hsa.lt
      have K9b := K9.below hbx K9.lt
      have O9b := O9.then hbx
      have U9b := U9.then hbx
      have hb5b := bthen hb5a hbx
      have hRb := hR5.then hb5b
      have gab := hbx.size
      clear La K6a R6a N8 q1a q2a hsa K9 O9 U9 Ba hbx hb5a
      go_wp2_with fail
      refine wp_region_factsR (fun _ => (fun W9 => Below wb.heap.size wb W9)) (fun _ w1 w2 => Below w1.heap.size w1 w2) (by kernel_rfl) (by kernel_rfl) (by kernel_rfl) (Below.refl _ _).drew ?_
      simp only [fillOps, Act.put, List.setIfInBounds_toArray, List.set_cons_zero, List.set_cons_succ, Nat.zero_add, Nat.reduceAdd]
      apply wpFactsR_val
      case h1 =>
        intro vs L9 w9 hG9 hC9 hB K9 hK9
        have q0 : w9.cell? ⟨g8', 0, none⟩ = some (.slice (some ⟨p1, 0, none⟩) x.t.length x.t.length) := (Nb.below hC9 Nb.lt).cell 0
        have q1 : w9.cell? ⟨g8', 1, none⟩ = some (.slice (some ⟨p2, 0, none⟩) x.o.length x.o.length) := (Nb.below hC9 Nb.lt).cell 1
        have q2 : w9.cell? ⟨g8', 2, none⟩ = some (.int .i64 x.got) := (Nb.below hC9 Nb.lt).cell 2
        have q3 : w9.cell? ⟨g8', 3, none⟩ = some (.int .i64 x.sold) := (Nb.below hC9 Nb.lt).cell 3
        have q4 : w9.cell? ⟨g8', 4, none⟩ = some (.int .i64 x.missed) := (Nb.below hC9 Nb.lt).cell 4
        simp only [Act.put, List.setIfInBounds_toArray, List.set_cons_zero, List.set_cons_succ] at hK9
        go_simp
        exact hK9 _ _ rfl hC9 (Below.refl _ _)
      apply wpFactsR_val
      case h1 =>
        intro vs L9 w9 hG9 hC9 hB K9 hK9
        have q0 : w9.cell? ⟨w.heap.size, 0, none⟩ = some (.slice x.TA x.t.length x.tc) := (Lb.below hC9 Lb.lt).cell 0
        have q1 : w9.cell? ⟨w.heap.size, 1, none⟩ = some (.slice x.OA x.o.length x.oc) := (Lb.below hC9 Lb.lt).cell 1
        have q2 : w9.cell? ⟨w.heap.size, 2, none⟩ = some (.int .i64 x.got) := (Lb.below hC9 Lb.lt).cell 2
        have q3 : w9.cell? ⟨w.heap.size, 3, none⟩ = some (.int .i64 x.sold) := (Lb.below hC9 Lb.lt).cell 3
        have q4 : w9.cell? ⟨w.heap.size, 4, none⟩ = some (.int .i64 x.missed) := (Lb.below hC9 Lb.lt).cell 4
        simp only [Act.put, List.setIfInBounds_toArray, List.set_cons_zero, List.set_cons_succ] at hK9
        go_simp
        exact hK9 _ _ rfl hC9 (Below.refl _ _)
      refine wpFactsR_some [] (fun v w9 => InV w9 x.c v) ?su2 (fun vs L9 w9 hG9 hC9 hB K9 hK9 => ?hu2) ?ru2
      case su2 =>
        intro i9 hi9 hb9 ha9 v w1 w2 hv hT9
        have hb := hT9
        exact hv.below hb
      case hu2 =>
        have d1 := FactN.eq (hB 1 _ (by kernel_rfl) (by kernel_rfl) rfl (by decide))
        simp only [d1] at hK9 ⊢
        simp only [Act.put, List.setIfInBounds_toArray, List.set_cons_zero, List.set_cons_succ] at hK9
        go_simp
        refine (toOfficeV x w9 (hRb.then hC9) hn hm).mono ?_
        rintro en w8 ⟨v8, rfl, hv8, hb8⟩
        exact hK9 _ _ _ rfl hv8 (hC9.trans (hb8.mono hC9.size)) hb8
      refine wpFactsR_val (.bool true) (fun vs L9 w9 hG9 hC9 hB K9 hK9 => ?hu3) ?ru3
      case hu3 =>
        have d0 := FactN.eq (hB 0 _ (by kernel_rfl) (by kernel_rfl) rfl (by decide))
        simp only [d0] at hK9 ⊢
        have h1 := hB 2 _ (by kernel_rfl) (by kernel_rfl) rfl (by decide)
        go_simp
        refine (eqOfficeV (InV.copy (q1b.below hC9 q1b.lt) (q2b.below hC9 q2b.lt) hn hm) h1).mono ?_
        rintro en w8 ⟨rfl, hb8⟩
        exact hK9 _ _ rfl (hC9.trans (hb8.mono hC9.size)) hb8
      apply wpFactsR_val
      case h1 =>
        intro vs L9 w9 hG9 hC9 hB K9 hK9
        have d3 := FactN.eq (hB 3 _ (by kernel_rfl) (by kernel_rfl) rfl (by decide))
        simp only [d3] at hK9 ⊢
        simp only [Act.put, List.setIfInBounds_toArray, List.set_cons_zero, List.set_cons_succ] at hK9
        go_simp
        exact hK9 _ _ rfl hC9 (Below.refl _ _)
      refine wpFactsR_nil fun vs Lx wc hLx hbx hB => ?_
      have dl := FactN.eq (hB 4 _ rfl rfl (by decide))
      simp only [dl]
      clear hB hLx dl
      have Bc := Bb.trans (hbx.mono Bb.size)
      have K6c := K6b.below hbx K6b.lt
      have R6c := R6b.below (hbx.mono (by omega))
      have Nc := Nb.below hbx Nb.lt
      have q1c := q1b.below hbx q1b.lt
      have q2c := q2b.below hbx q2b.lt
      have hsc := hsb.below hbx hsb.lt
      have K9c := K9b.below hbx K9b.lt
      have O9c := O9b.then hbx
      have U9c := U9b.then hbx
      have hb5c := bthen hb5b hbx
      have Lc := Lb.below hbx Lb.lt
      have gbc := hbx.size
      clear Lb K6b R6b Nb q1b q2b hsb K9b O9b U9b Bb hbx hb5b hRb
      go_wp2_with fail
      refine (toStps_any A c l wc (SlcR.then hQ5 hb5c) hls).mono ?_
      rintro e wd ⟨gs2, rfl, hgs2, hs2, hbx⟩
      have Bd := Bc.trans (hbx.mono Bc.size)
      have K6d := K6c.below hbx K6c.lt
      have R6d := R6c.below (hbx.mono (by omega))
      have Nd := Nc.below hbx Nc.lt
      have q1d := q1c.below hbx q1c.lt
      have q2d := q2c.below hbx q2c.lt
      have hsd := hsc.below hbx hsc.lt
      have K9d := K9c.below hbx K9c.lt
      have O9d := O9c.then hbx
      have U9d := U9c.then hbx
      have hb5d := bthen hb5c hbx
      have Ld := Lc.below hbx Lc.lt
      have gcd := hbx.size
      clear Lc K6c R6c Nc q1c q2c hsc K9c O9c U9c Bc hbx hb5c
      go_wp2_with fail
      refine (eqStps_any _ _ _ _ l l wd (lies_stps hsd hl3) (lies_stps hs2 hl3)).mono ?_
      rw [show sameStps l l = true from decide_eq_true rfl]
      rintro e we ⟨rfl, hbx⟩
      have Be := Bd.trans (hbx.mono Bd.size)
      have K6e := K6d.below hbx K6d.lt
      have R6e := R6d.below (hbx.mono (by omega))
      have Ne := Nd.below hbx Nd.lt
      have q1e := q1d.below hbx q1d.lt
      have q2e := q2d.below hbx q2d.lt
      have hse := hsd.below hbx hsd.lt
      have K9e := K9d.below hbx K9d.lt
      have O9e := O9d.then hbx
      have U9e := U9d.then hbx
      have hb5e := bthen hb5d hbx
      have Le := Ld.below hbx Ld.lt
      have gde := hbx.size
      clear Ld K6d R6d Nd q1d q2d hsd hs2 K9d O9d U9d Bd hbx hb5d
      have c0 := Ne.cell 0
      have c1 := Ne.cell 1
      have c2 := Ne.cell 2
      have c3 := Ne.cell 3
      have c4 := Ne.cell 4
      simp only [List.getElem?_cons_zero, List.getElem?_cons_succ] at c0 c1 c2 c3 c4
      go_wp2_with fail
      refine (markOffice_bd x p1 p2 w5.heap.size g8' we hn hm hp1 hp2 g8 (by omega) q1e q2e).mono ?_
      rintro e wf ⟨⟨k1, rfl, hk1, hk1'⟩, hmx⟩
      clear c0 c1 c2 c3 c4
      have hbf := hmx.below (show w5.heap.size ≤ we.heap.size by omega)
      have Bf := Be.trans (hbf.mono (by omega))
      have K6f := hmx.lies K6e (.inl gk6)
      have R6f := R6e.below hbf
      have K9f := hmx.lies K9e (.inr (by omega))
      have O9f := hmx.own O9e (by omega)
      have U9f := hmx.own U9e (by omega)
      have Lf := hmx.lies Le (.inl (by omega))
      have hsf := hmx.lies hse (.inr (by omega))
      have gef := hmx.size
      clear K6e R6e Ne q1e q2e K9e O9e U9e Le hmx Be hse
      go_wp2_with fail
      refine (markStps_any (some ⟨gs1, 0, none⟩) l.length l.length w7.heap.size k1 (l.flatMap Stp.enc) wf (by omega) (by omega) (by omega) ⟨flat_len Stp.enc 4 Stp.enc_len l, by omega, .inr ⟨gs1, [], rfl, hgs1, by simpa using hsf⟩⟩).mono ?_
      rintro e wg ⟨rfl, og, gr0⟩
      have gr1 : wf.grownBy wg (some gs1) := gr0
      have hmx : Mid w7.heap.size w8.heap.size wf wg := Mid.of gr1 (by rintro _ ⟨⟩; exact ⟨hgs1, gss⟩)
      clear gr0 gr1 og hsf
      obtain ⟨k2, hk2⟩ : ∃ k2 : Int, k1 + 4 * (l.length : Int) = k2 := ⟨_, rfl⟩
      have hk3 : 0 ≤ k2 := by omega
      first | rw [hk2] | skip
      clear hk2 hk1 hk1'
      have hbg := hmx.below (show w7.heap.size ≤ wf.heap.size by omega)
      have Bg := Bf.trans (hbg.mono (by omega))
      have K6g := hmx.lies K6f (.inl (by omega))
      have R6g := R6f.below (hbg.mono (by omega))
      have K9g := hmx.lies K9f (.inr (by omega))
      have O9g := hmx.own O9f (by omega)
      have U9g := hmx.own U9f (by omega)
      have Lg := hmx.lies Lf (.inl (by omega))
      have gfg := hmx.size
      have hb5g := (hb5e.trans hbf).trans (hbg.mono (by omega))
      clear K6f R6f K9f O9f U9f Lf hmx Bf hbg hbf hb5e
      have c0 := K9g.cell 0
      have c1 := K9g.cell 1
      have c2 := K9g.cell 2
      have c3 := K9g.cell 3
      have c4 := K9g.cell 4
      simp only [List.getElem?_cons_zero, List.getElem?_cons_succ] at c0 c1 c2 c3 c4
      have d0 := K6g.cell 0
      have d1 := K6g.cell 1
      have d2 := K6g.cell 2
      have d3 := K6g.cell 3
      have d4 := K6g.cell 4
      simp only [List.getElem?_cons_zero, List.getElem?_cons_succ] at d0 d1 d2 d3 d4
      go_wp2_with fail
      refine (HE.out wg TA9 OA9 TA6 OA6 tc9 oc9 tc6 oc6 (offR_own O9g U9g) (R6g.mono (by omega))).mono ?_
      rintro e wh ⟨rfl, hbx⟩
      clear c0 c1 c2 c3 c4 d0 d1 d2 d3 d4
      have Bh := Bg.trans (hbx.mono Bg.size)
      have K6h := K6g.below hbx K6g.lt
      have R6h := R6g.below (hbx.mono (by omega))
      have K9h := K9g.below hbx K9g.lt
      have O9h := O9g.then hbx
      have U9h := U9g.then hbx
      have Lh := Lg.below hbx Lg.lt
      have hb5h := hb5g.trans (hbx.mono (by omega))
      have ggh := hbx.size
      clear K6g R6g K9g O9g U9g Lg Bg hbx hb5g
      obtain ⟨mk, hmk⟩ : ∃ mk : Int, 1 + 2 * (y.t.length : Int) + 3 * (y.o.length : Int) = mk := ⟨_, rfl⟩
      have hmk0 : 0 ≤ mk := by omega
      have hmm : (mk != mk) = false := by simp
      have HH := fun W h h' => heldOwn_any TA9 OA9 tc9 oc9 y.t.length y.o.length y.got y.sold y.missed 1 W (by omega) (by omega) yt yo h h'
      simp only [hmk] at HH
      have HH := Lib.hid HH
      have c0 := K9h.cell 0
      have c1 := K9h.cell 1
      have c2 := K9h.cell 2
      have c3 := K9h.cell 3
      have c4 := K9h.cell 4
      simp only [List.getElem?_cons_zero, List.getElem?_cons_succ] at c0 c1 c2 c3 c4
      go_wp2_with fail
      refine (markOwn_any TA9 OA9 tc9 oc9 y.t.length y.o.length w8.heap.size y.got y.sold y.missed 1 _ _ wh (by omega) (by omega) yt yo (by omega) O9h U9h).mono ?_
      rintro e wi ⟨rfl, Oi, Ui, hbx, hKi⟩
      rw [hmk]
      clear hmk
      clear c0 c1 c2 c3 c4
      have Bi := Bh.trans (hbx.mono (by omega))
      have K6i := hKi _ _ K6h
      have K9i := hKi _ _ K9h
      have R6i := R6h.below (hbx.mono (by omega))
      have Li := Lh.below hbx (by omega)
      have hb5i := hb5h.trans (hbx.mono (by omega))
      have ghi := hbx.size
      clear K6h K9h R6h Lh Bh O9h U9h hKi hbx hb5h
      have c0 := K9i.cell 0
      have c1 := K9i.cell 1
      have c2 := K9i.cell 2
      have c3 := K9i.cell 3
      have c4 := K9i.cell 4
      simp only [List.getElem?_cons_zero, List.getElem?_cons_succ] at c0 c1 c2 c3 c4
      go_wp2_with fail
      refine (HH.out wi Oi.reads Ui.reads).mono ?_
      rintro e wj ⟨rfl, hbx⟩
      clear c0 c1 c2 c3 c4
      have Bj := Bi.trans (hbx.mono Bi.size)
      have K6j := K6i.below hbx K6i.lt
      have K9j := K9i.below hbx K9i.lt
      have R6j := R6i.below (hbx.mono (by omega))
      have Lj := Li.below hbx Li.lt
      have Oj := Oi.then hbx
      have Uj := Ui.then hbx
      have hb5j := hb5i.trans (hbx.mono (by omega))
      have hRj := hR5.then hb5j
      have hQj := SlcR.then hQ5 hb5j
      have gij := hbx.size
      clear K6i K9i R6i Li Oi Ui Bi hbx hb5i hb5j hR5 hQ5
      have c0 := Lj.cell 0
      have c1 := Lj.cell 1
      have c2 := Lj.cell 2
      have c3 := Lj.cell 3
      have c4 := Lj.cell 4
      simp only [List.getElem?_cons_zero, List.getElem?_cons_succ] at c0 c1 c2 c3 c4
      go_wp2_with fail
      refine (toOfficeV x _ hRj hn hm).mono ?_
      rintro e wk ⟨v1, rfl, hv1, hb2⟩
      go_wp2_with fail
      refine (toStps_any A c l wk (SlcR.then hQj hb2) hls).mono ?_
      rintro e wl ⟨gs, rfl, hgs, hls3, hb3⟩
      go_wp2_with fail
      refine (hI wl (hv1.below hb3) (InSt.copy hls3 hls)).mono ?_
      rintro e wm ⟨v4, rfl, ⟨TA4, tc4, OA4, oc4, rfl, hT, hO⟩, hb4⟩
      have hbjm := bthen (bthen hb2 hb3) hb4
      clear hv1 hls3 c0 c1 c2 c3 c4 hI hgs
      have hal := (Below.refl wm.heap.size wm).alloc (Nat.le_refl _) (.cells #[.slice TA4 y.t.length tc4, .slice OA4 y.o.length oc4, .int .i64 y.got, .int .i64 y.sold, .int .i64 y.missed] 25)
      have K4 := Lies.new wm 25 #[.slice TA4 y.t.length tc4, .slice OA4 y.o.length oc4, .int .i64 y.got, .int .i64 y.sold, .int .i64 y.missed]
      have hT4 := ownsRow_below hT hal
      have hO4 := ownsRow_below hO hal
      obtain ⟨wn, hW2⟩ : ∃ wn, wm.alloc (.cells #[.slice TA4 y.t.length tc4, .slice OA4 y.o.length oc4, .int .i64 y.got, .int .i64 y.sold, .int .i64 y.missed] 25) = wn := ⟨_, rfl⟩
      rw [hW2] at hal K4 hT4 hO4
      have hgl := K4.lt
      have hge4 := hb4.size
      generalize hg : wm.heap.size = g4 at K4 hgl hge4
      clear hT hO
      have hbjn := bthen hbjm hal
      have Bn := Bj.trans (hbjn.mono Bj.size)
      have K6n := K6j.below hbjn K6j.lt
      have K9n := K9j.below hbjn K9j.lt
      have R6n := R6j.below (hbjn.mono (by omega))
      have On := Oj.then hbjn
      have Un := Uj.then hbjn
      have R4 : OffR wn wn.heap.size (y.at TA4 tc4 OA4 oc4) := offR_row hT4 hO4
      have gjn := hbjn.size
      clear hT4 hO4 hal hb2 hb3 hb4 hbjm hbjn K6j K9j R6j Lj Oj Uj Bj hRj hQj
      have c0 := K4.cell 0
      have c1 := K4.cell 1
      have c2 := K4.cell 2
      have c3 := K4.cell 3
      have c4 := K4.cell 4
      simp only [List.getElem?_cons_zero, List.getElem?_cons_succ] at c0 c1 c2 c3 c4
      have d0 := K6n.cell 0
      have d1 := K6n.cell 1
      have d2 := K6n.cell 2
      have d3 := K6n.cell 3
      have d4 := K6n.cell 4
      simp only [List.getElem?_cons_zero, List.getElem?_cons_succ] at d0 d1 d2 d3 d4
      go_wp2_with (rw [hW2]; clear hW2; rw [hg])
      refine (HE.out wn TA4 OA4 TA6 OA6 tc4 oc4 tc6 oc6 R4 (R6n.mono (by omega))).mono ?_
      rintro e wo ⟨rfl, hbx⟩
      clear c0 c1 c2 c3 c4 d0 d1 d2 d3 d4
      have Bo := Bn.trans (hbx.mono Bn.size)
      have K9o := K9n.below hbx K9n.lt
      have Oo := On.then hbx
      have Uo := Un.then hbx
      clear K6n K9n R6n On Un K4 R4 Bn HE
      have c0 := K9o.cell 0
      have c1 := K9o.cell 1
      have c2 := K9o.cell 2
      have c3 := K9o.cell 3
      have c4 := K9o.cell 4
      simp only [List.getElem?_cons_zero, List.getElem?_cons_succ] at c0 c1 c2 c3 c4
      go_wp2_with fail
      refine (HH.out wo Oo.reads Uo.reads).mono ?_
      rintro e wp ⟨rfl, hbx⟩
      clear c0 c1 c2 c3 c4 K9o Oo Uo
      go_wp2
      go_ret
      exact ⟨rfl, Bo.trans (hbx.mono Bo.size)⟩
    · have HS : lessen (1048576 - ((x.t.length : Int) + (x.o.length : Int))) l.length = -1 := by unfold lessen; rw [if_neg (by omega)]
      have HZ2 := Lib.hid HS; clear HS
      go_enter Try.func5, Try.ntmps5
      go_wp2_with fail
      generalize (w.alloc (.cells #[.slice x.TA x.t.length x.tc, .slice x.OA x.o.length x.oc, .int .i64 x.got, .int .i64 x.sold, .int .i64 x.missed] 38)) = W at b0 L0 ⊢
      refine (szOffice_any x _ _ hl1 hl2 (by omega) (by omega)).mono ?_
      rintro e w1 ⟨rfl, hb1⟩
      rw [HZ.out]
      go_wp2_with fail
      refine (szStps_any A l.length c _ w1 (by omega) (by omega) (by omega)).mono ?_
      rintro e w1 ⟨rfl, rfl⟩
      rw [HZ2.out]
      go_wp2
      go_ret
      exact ⟨rfl, b0.trans (hb1.mono b0.size)⟩
  · have HS : lessen 1048576 (x.t.length + x.o.length) = -1 := by unfold lessen; rw [if_neg (by omega)]
    have HZ := Lib.hid HS; clear HS
    go_enter Try.func5, Try.ntmps5
    go_wp2_with fail
    generalize (w.alloc (.cells #[.slice x.TA x.t.length x.tc, .slice x.OA x.o.length x.oc, .int .i64 x.got, .int .i64 x.sold, .int .i64 x.missed] 38)) = W at b0 L0 ⊢
    refine (szOffice_any x _ _ hl1 hl2 (by omega) (by omega)).mono ?_
    rintro e w1 ⟨rfl, hb1⟩
    rw [HZ.out]
    go_wp2
    go_ret
    exact ⟨rfl, b0.trans (hb1.mono b0.size)⟩
end Go.Proofs.Ytdiojhjkcholiaa

/- The law FnExactRunOffice holds. -/
namespace Go.Proofs.Ytdiojhjkcholiaa
open Go.RowKit

theorem specRunV (x : Off) (l : List Stp) {v v' : Value} (W : World) (h : InV W x.c v) (h' : InSt W l v') : Calls Try.prog 21 #[v, v'] W (GivesN W (runR x.c l)) := by
  obtain ⟨X, rfl, hc, hr, hcap⟩ := h
  obtain ⟨A, c, rfl, hs⟩ := h'
  rw [← hc]
  exact specRun_any X A c l W hr hs hcap
theorem implRunV (x : Off) (l : List Stp) {v v' : Value} (W : World) (h : InV W x.c v) (h' : InSt W l v') : Calls Try.prog 23 #[v, v'] W (GivesN W (runR x.c l)) := by
  obtain ⟨X, rfl, hc, hr, hcap⟩ := h
  obtain ⟨A, c, rfl, hs⟩ := h'
  rw [← hc]
  exact implRun_any X A c l W hr hs
theorem lawRunOffice_any (x : Off) (A : Option Addr) (c : Nat) (l : List Stp) (w : World) (h : OffR w w.heap.size x) (hs : StpsR w w.heap.size A l) :
    Calls Try.prog 5 #[x.val, .slice A l.length c] w fun e w' => e = .returned (.bool true) ∧ Below w.heap.size w w' :=
  lawRun_of x A c l (runR x.c l).1 (runR x.c l).2.1 (runR x.c l).2.2 w h hs (runR_len x.c l).1 (runR_len x.c l).2 (fun W h h' => specRunV x l W h h') (fun W h h' => implRunV x l W h h')
end Go.Proofs.Ytdiojhjkcholiaa

/- FnOffices: the walk. (Printed by gen_lawoffs.py) -/
namespace Go.Proofs.Ytdiojhjkcholiaa
open Go.RowKit

theorem vBig_any (A : Option Addr) (n c : Nat) (w : World) : Calls Try.prog 26 #[.slice A n c] w fun e w' => e = .returned (.bool (decide (65536 < n))) ∧ w = w' := by
  by_cases h : 65536 < n
  · have h1 : (65536 : Int) < n := by omega
    rw [decide_eq_true h]
    go_enter Try.func26, Try.ntmps26
    go_wp2
    go_ret
    exact ⟨by simp [h1], rfl⟩
  · have h1 : ¬ (65536 : Int) < n := by omega
    rw [decide_eq_false h]
    go_enter Try.func26, Try.ntmps26
    go_wp2
    go_ret
    exact ⟨by simp [h1], rfl⟩
theorem implStepY (y : Oc) (s : Stp) {v : Value} (W : World) (h : InV W y v) : Calls Try.prog 16 #[v, s.val] W (GivesR W (resOf (tryD y s)) (tryD y s).isSome) := by
  obtain ⟨X, rfl, hc, hr, hcap⟩ := h
  rw [← hc]
  exact (implStepOffice_any X s W hr).mono fun _ _ h => h.r
theorem tryD_some {y : Oc} {s : Stp} (h : (tryD y s).isSome = true) : y.good = true ∧ s.ok = true ∧ stepD y s = some (resOf (tryD y s)) ∧ (resOf (tryD y s)).good = true := by
  unfold tryD at h ⊢
  by_cases hg : (y.good && s.ok) = true
  · rw [if_pos hg] at h ⊢
    have h1 := Bool.and_eq_true _ _ ▸ hg
    cases hd : stepD y s with
    | none => rw [hd] at h; cases h
    | some r => exact ⟨h1.1, h1.2, rfl, stepD_good hd⟩
  · rw [if_neg hg] at h; cases h

theorem runR_true {y r : Oc} {n : Int} {l : List Stp} (h : runR y l = (r, n, true)) : y.good = true ∧ runGo y 0 (l.drop 0) = (r, n) := by
  unfold runR at h
  split at h
  · rename_i hg
    rw [Bool.and_eq_true] at hg
    injection h with h1 h2
    injection h2 with h2 h3
    exact ⟨hg.1, by rw [List.drop_zero, ← h1, ← h2]⟩
  · injection h with h1 h2
    injection h2 with h2 h3
    cases h3
theorem tryD_next {y : Oc} {s : Stp} (h : y.good = true) : tryD y s = nextD y s := by
  unfold tryD nextD; rw [h, Bool.true_and]
theorem ok_person {s : Stp} (h : s.ok = true) : 0 ≤ s.person ∧ s.person ≤ 999 := by
  have hS : s.okS = true := by rw [Stp.ok_okS, Bool.and_eq_true] at h; exact h.1
  cases (Stp.okS_is hS).2 with
  | get hk hp hv => omega
  | show_ hk hp hv => omega
  | back hk hp hv => omega
  | sell0 hk hp hv => omega
  | sell hk hp hv => omega
  | miss hk hp hv => omega
  | move hk hp hv => omega
/-- What the law asks of a step made, by its kind. -/
theorem kind_facts {x : Off} {r : Oc} {s : Stp} (G : Good x) (hs : s.ok = true) (h : stepD x.c s = some r) :
    ((s.kind != 1) = false ∧ (s.kind == 2) = false ∧ (s.kind == 5) = false ∧ (s.kind == 6) = false ∧ True) ∨
    ((s.kind != 1) = true ∧ (s.kind == 2) = true ∧ (s.kind == 5) = false ∧ (s.kind == 6) = false ∧ (r.got != x.got) = false ∧ inR s.person 1 999 = true ∧ hasFrom s.stamp (listOf (inR s.person 1 999) (picks (fun o : Outing => decide (o.p = s.person)) Outing.k r.o)) = true) ∨
    ((s.kind != 1) = true ∧ (s.kind == 2) = false ∧ (s.kind == 5) = true ∧ (s.kind == 6) = false ∧ (r.got != x.got) = false ∧ hasFrom s.stamp (listOf (inR s.person 1 999) (picks (fun o : Outing => decide (o.p = s.person)) Outing.k r.o)) = false) ∨
    ((s.kind != 1) = true ∧ (s.kind == 2) = false ∧ (s.kind == 5) = false ∧ (s.kind == 6) = true ∧ (r.got != x.got) = false ∧ hasFrom s.stamp (listOf (inR s.person 1 999) (picks (fun o : Outing => decide (o.p = s.person)) Outing.k r.o)) = false) ∨
    ((s.kind != 1) = true ∧ (s.kind == 2) = false ∧ (s.kind == 5) = false ∧ (s.kind == 6) = false ∧ (r.got != x.got) = false) := by
  have hl : ∀ (b : Bool) (l : List Int), hasFrom s.stamp l = false → hasFrom s.stamp (listOf b l) = false := fun b l h => by cases b <;> simp [listOf, hasFrom] at * <;> assumption
  by_cases h1 : s.kind = 1
  · left; simp [h1]
  · have hg : (r.got != x.got) = false := by rw [bne_eq_false_iff_eq]; exact stepD_got h h1
    by_cases h2 : s.kind = 2
    · obtain ⟨a, b⟩ := plain_show G hs h2 h
      right; left
      rw [a]
      exact ⟨by simp [h2], by simp [h2], by simp [h2], by simp [h2], hg, rfl, b⟩
    · by_cases h5 : s.kind = 5
      · right; right; left
        exact ⟨by simp [h5], by simp [h5], by simp [h5], by simp [h5], hg, hl _ _ (plain_gone G hs (.inl h5) h)⟩
      · by_cases h6 : s.kind = 6
        · right; right; right; left
          exact ⟨by simp [h6], by simp [h6], by simp [h6], by simp [h6], hg, hl _ _ (plain_gone G hs (.inr h6) h)⟩
        · right; right; right; right
          exact ⟨by simp [h1], by simp [h2], by simp [h5], by simp [h6], hg⟩

set_option maxRecDepth 100000 in
set_option maxHeartbeats 8000000 in
set_option linter.unusedVariables false in
theorem lawOffices_any (A : Option Addr) (cap : Nat) (bs : List UInt8) (w : World) (hr : BytesR w w.heap.size A bs) :
    Calls Try.prog 6 #[.slice A bs.length cap] w fun e w' => e = .returned (.bool true) ∧ Below w.heap.size w w' := by
  by_cases hbig : 65536 < bs.length
  · have hb' : decide (65536 < bs.length) = true := decide_eq_true hbig
    go_enter Try.func6, Try.ntmps6
    go_wp2_with (go_at_call 26; refine (vBig_any _ _ _ _).mono ?_; rintro e w' ⟨rfl, rfl⟩)
    go_ret
    exact ⟨rfl, Below.refl _ _⟩
  · have hb' : decide (65536 < bs.length) = false := decide_eq_false hbig
    go_enter Try.func6, Try.ntmps6
    go_wp2_with fail
    refine (vBig_any _ _ _ _).mono ?_
    rintro e w' ⟨rfl, rfl⟩
    go_wp2_with fail
    clear hb' hbig
    have HBR := Lib.hid hr
    refine (drawStepOffice_any A cap bs w hr).mono ?_
    rintro e w1 ⟨y, s, v, rfl, ⟨TA3, tc3, OA3, oc3, rfl, hT, hO⟩, hb1⟩
    have hal := ((Below.refl w1.heap.size w1).alloc (Nat.le_refl _) (.cells #[.slice TA3 y.t.length tc3, .slice OA3 y.o.length oc3, .int .i64 y.got, .int .i64 y.sold, .int .i64 y.missed] 25)).alloc (by simp) (.cells #[.int .i64 s.kind, .int .i64 s.stamp, .int .i64 s.person, .int .i64 s.value] 45)
    have K3 := (Lies.new w1 25 #[.slice TA3 y.t.length tc3, .slice OA3 y.o.length oc3, .int .i64 y.got, .int .i64 y.sold, .int .i64 y.missed]).alloc (.cells #[.int .i64 s.kind, .int .i64 s.stamp, .int .i64 s.person, .int .i64 s.value] 45)
    have K4 := Lies.new1 w1 (.cells #[.slice TA3 y.t.length tc3, .slice OA3 y.o.length oc3, .int .i64 y.got, .int .i64 y.sold, .int .i64 y.missed] 25) 45 #[.int .i64 s.kind, .int .i64 s.stamp, .int .i64 s.person, .int .i64 s.value]
    have R3 : OffR ((w1.alloc (.cells #[.slice TA3 y.t.length tc3, .slice OA3 y.o.length oc3, .int .i64 y.got, .int .i64 y.sold, .int .i64 y.missed] 25)).alloc (.cells #[.int .i64 s.kind, .int .i64 s.stamp, .int .i64 s.person, .int .i64 s.value] 45)) ((w1.alloc (.cells #[.slice TA3 y.t.length tc3, .slice OA3 y.o.length oc3, .int .i64 y.got, .int .i64 y.sold, .int .i64 y.missed] 25)).alloc (.cells #[.int .i64 s.kind, .int .i64 s.stamp, .int .i64 s.person, .int .i64 s.value] 45)).heap.size (y.at TA3 tc3 OA3 oc3) := offR_row (ownsRow_below hT hal) (ownsRow_below hO hal)
    have hcap3 := ownsRow_cap hT
    have B2 := bthen hb1 hal
    clear hT hO hal hb1
    go_upto_region 4 with fail
    generalize ((w1.alloc (.cells #[.slice TA3 y.t.length tc3, .slice OA3 y.o.length oc3, .int .i64 y.got, .int .i64 y.sold, .int .i64 y.missed] 25)).alloc (.cells #[.int .i64 s.kind, .int .i64 s.stamp, .int .i64 s.person, .int .i64 s.value] 45)) = w2 at K3 K4 R3 B2 ⊢
    generalize w1.heap.size = g3 at K3 K4 ⊢
    obtain ⟨r, hrr⟩ : ∃ r, resOf (tryD y s) = r := ⟨_, rfl⟩
    obtain ⟨b, hbb⟩ : ∃ b, (tryD y s).isSome = b := ⟨_, rfl⟩
    have hF := fun h => tryD_some (y := y) (s := s) h
    have cI := fun W h => implStepY y s (v := .agg #[.slice TA3 y.t.length tc3, .slice OA3 y.o.length oc3, .int .i64 y.got, .int .i64 y.sold, .int .i64 y.missed]) W h
    have cS := fun W h => specStepY y s (v := .agg #[.slice TA3 y.t.length tc3, .slice OA3 y.o.length oc3, .int .i64 y.got, .int .i64 y.sold, .int .i64 y.missed]) W h
    rw [hrr, hbb] at cI cS
    rw [hrr, hbb] at hF
    clear hrr hbb
    have HF := Lib.hid hF
    have HI3 : Hid (∀ W, Below w2.heap.size w2 W → InV W y (.agg #[.slice TA3 y.t.length tc3, .slice OA3 y.o.length oc3, .int .i64 y.got, .int .i64 y.sold, .int .i64 y.missed])) := fun W hb => ⟨y.at TA3 tc3 OA3 oc3, rfl, rfl, R3.then hb, hcap3⟩
    clear hF
    have c0 := K3.cell 0
    have c1 := K3.cell 1
    have c2 := K3.cell 2
    have c3 := K3.cell 3
    have c4 := K3.cell 4
    simp only [List.getElem?_cons_zero, List.getElem?_cons_succ] at c0 c1 c2 c3 c4
    have d0 := K4.cell 0
    have d1 := K4.cell 1
    have d2 := K4.cell 2
    have d3 := K4.cell 3
    simp only [List.getElem?_cons_zero, List.getElem?_cons_succ] at d0 d1 d2 d3
    go_wp2_with fail
    refine (cI w2 (HI3.out w2 (Below.refl _ _))).mono ?_
    rintro e w3 ⟨v, rfl, ⟨TA5, tc5, OA5, oc5, rfl, hT, hO⟩, hb3⟩
    have hal := (Below.refl w3.heap.size w3).alloc (Nat.le_refl _) (.cells #[.slice TA5 r.t.length tc5, .slice OA5 r.o.length oc5, .int .i64 r.got, .int .i64 r.sold, .int .i64 r.missed] 25)
    have K5 := Lies.new w3 25 #[.slice TA5 r.t.length tc5, .slice OA5 r.o.length oc5, .int .i64 r.got, .int .i64 r.sold, .int .i64 r.missed]
    have R5 : OffR (w3.alloc (.cells #[.slice TA5 r.t.length tc5, .slice OA5 r.o.length oc5, .int .i64 r.got, .int .i64 r.sold, .int .i64 r.missed] 25)) (w3.alloc (.cells #[.slice TA5 r.t.length tc5, .slice OA5 r.o.length oc5, .int .i64 r.got, .int .i64 r.sold, .int .i64 r.missed] 25)).heap.size (r.at TA5 tc5 OA5 oc5) := offR_row (ownsRow_below hT hal) (ownsRow_below hO hal)
    have hx := bthen hb3 hal
    clear hT hO hal hb3 cI c0 c1 c2 c3 c4 d0 d1 d2 d3
    go_upto_region 5 with fail
    generalize w3.alloc (.cells #[.slice TA5 r.t.length tc5, .slice OA5 r.o.length oc5, .int .i64 r.got, .int .i64 r.sold, .int .i64 r.missed] 25) = w4 at K5 R5 hx ⊢
    generalize w3.heap.size = g5 at K5 ⊢
    have B4 := bthen B2 hx
    have K34 := K3.below hx K3.lt
    have K44 := K4.below hx K4.lt
    have R34 := R3.then hx
    have c0 := K34.cell 0
    have c1 := K34.cell 1
    have c2 := K34.cell 2
    have c3 := K34.cell 3
    have c4 := K34.cell 4
    simp only [List.getElem?_cons_zero, List.getElem?_cons_succ] at c0 c1 c2 c3 c4
    have d0 := K44.cell 0
    have d1 := K44.cell 1
    have d2 := K44.cell 2
    have d3 := K44.cell 3
    simp only [List.getElem?_cons_zero, List.getElem?_cons_succ] at d0 d1 d2 d3
    go_wp2_with fail
    refine (cS w4 (HI3.out w4 hx)).mono ?_
    rintro e w5 ⟨v, rfl, ⟨TA7, tc7, OA7, oc7, rfl, hT, hO⟩, hb5⟩
    have hal := (Below.refl w5.heap.size w5).alloc (Nat.le_refl _) (.cells #[.slice TA7 r.t.length tc7, .slice OA7 r.o.length oc7, .int .i64 r.got, .int .i64 r.sold, .int .i64 r.missed] 25)
    have K7 := Lies.new w5 25 #[.slice TA7 r.t.length tc7, .slice OA7 r.o.length oc7, .int .i64 r.got, .int .i64 r.sold, .int .i64 r.missed]
    have R7 : OffR (w5.alloc (.cells #[.slice TA7 r.t.length tc7, .slice OA7 r.o.length oc7, .int .i64 r.got, .int .i64 r.sold, .int .i64 r.missed] 25)) (w5.alloc (.cells #[.slice TA7 r.t.length tc7, .slice OA7 r.o.length oc7, .int .i64 r.got, .int .i64 r.sold, .int .i64 r.missed] 25)).heap.size (r.at TA7 tc7 OA7 oc7) := offR_row (ownsRow_below hT hal) (ownsRow_below hO hal)
    have hx2 := bthen hb5 hal
    clear hT hO hal hb5 cS c0 c1 c2 c3 c4 d0 d1 d2 d3
    go_upto_region 6 with fail
    generalize w5.alloc (.cells #[.slice TA7 r.t.length tc7, .slice OA7 r.o.length oc7, .int .i64 r.got, .int .i64 r.sold, .int .i64 r.missed] 25) = wk at K7 R7 hx2 ⊢
    generalize w5.heap.size = g7 at K7 ⊢
    have Bc := bthen B4 hx2
    have K3 := K34.below hx2 K34.lt
    have K4 := K44.below hx2 K44.lt
    have K5 := K5.below hx2 K5.lt
    have R3 := R34.then hx2
    have R5 := R5.then hx2
    clear HI3 B2 B4 hx hx2 K34 K44 R34 hcap3
    obtain ⟨gx, hgx⟩ : ∃ gx, y.good = gx := ⟨_, rfl⟩
    have HX1 : Hid (∀ W, OffR W W.heap.size (y.at TA3 tc3 OA3 oc3) → Calls Try.prog 29 #[.agg #[.slice TA3 y.t.length tc3, .slice OA3 y.o.length oc3, .int .i64 y.got, .int .i64 y.sold, .int .i64 y.missed]] W fun e w' => e = .returned (.bool gx) ∧ Below W.heap.size W w') := fun W h => by rw [← hgx]; exact implIsOffice_any (y.at TA3 tc3 OA3 oc3) W h
    have HX2 : Hid (∀ W, OffR W W.heap.size (y.at TA3 tc3 OA3 oc3) → Calls Try.prog 30 #[.agg #[.slice TA3 y.t.length tc3, .slice OA3 y.o.length oc3, .int .i64 y.got, .int .i64 y.sold, .int .i64 y.missed]] W fun e w' => e = .returned (.bool gx) ∧ Below W.heap.size W w') := fun W h => by rw [← hgx]; exact specIsOffice_any (y.at TA3 tc3 OA3 oc3) W h
    clear hgx
    go_cut [70] (fun s70 wx => s70 = .bool false ∧ Below wk.heap.size wk wx)
    case first => as_aux_lemma =>
      cases b
      · skip
        refine wp_region_factsR (fun _ => (fun W9 => Below wk.heap.size wk W9)) (fun _ w1 w2 => Below w1.heap.size w1 w2) (by kernel_rfl) (by kernel_rfl) (by kernel_rfl) (Below.refl _ _).drew ?_
        simp only [fillOps, Act.put, List.setIfInBounds_toArray, List.set_cons_zero, List.set_cons_succ, Nat.zero_add, Nat.reduceAdd]
        apply wpFactsR_val
        case h1 =>
          intro vs L9 w9 hG9 hC9 hB K9 hK9
          simp only [Act.put, List.setIfInBounds_toArray, List.set_cons_zero, List.set_cons_succ] at hK9
          go_simp
          exact hK9 _ _ rfl hC9 (Below.refl _ _)
        apply wpFactsR_val
        case h1 =>
          intro vs L9 w9 hG9 hC9 hB K9 hK9
          simp only [Act.put, List.setIfInBounds_toArray, List.set_cons_zero, List.set_cons_succ] at hK9
          go_simp
          exact hK9 _ _ rfl hC9 (Below.refl _ _)
        apply wpFactsR_val
        case h1 =>
          intro vs L9 w9 hG9 hC9 hB K9 hK9
          have d0 := FactN.eq (hB 0 _ (by kernel_rfl) (by kernel_rfl) rfl (by decide))
          have d1 := FactN.eq (hB 1 _ (by kernel_rfl) (by kernel_rfl) rfl (by decide))
          simp only [d0, d1] at hK9 ⊢
          simp only [Act.put, List.setIfInBounds_toArray, List.set_cons_zero, List.set_cons_succ] at hK9
          go_simp
          exact hK9 _ _ rfl hC9 (Below.refl _ _)
        apply wpFactsR_val
        case h1 =>
          intro vs L9 w9 hG9 hC9 hB K9 hK9
          have d2 := FactN.eq (hB 2 _ (by kernel_rfl) (by kernel_rfl) rfl (by decide))
          simp only [d2] at hK9 ⊢
          simp only [Act.put, List.setIfInBounds_toArray, List.set_cons_zero, List.set_cons_succ] at hK9
          go_simp
          exact hK9 _ _ rfl hC9 (Below.refl _ _)
        apply wpFactsR_val
        case h1 =>
          intro vs L9 w9 hG9 hC9 hB K9 hK9
          have d3 := FactN.eq (hB 3 _ (by kernel_rfl) (by kernel_rfl) rfl (by decide))
          simp only [d3] at hK9 ⊢
          have q0 : w9.cell? ⟨g5, 0, none⟩ = some (.slice TA5 r.t.length tc5) := (K5.below hC9 K5.lt).cell 0
          have q1 : w9.cell? ⟨g5, 1, none⟩ = some (.slice OA5 r.o.length oc5) := (K5.below hC9 K5.lt).cell 1
          have q2 : w9.cell? ⟨g5, 2, none⟩ = some (.int .i64 r.got) := (K5.below hC9 K5.lt).cell 2
          have q3 : w9.cell? ⟨g5, 3, none⟩ = some (.int .i64 r.sold) := (K5.below hC9 K5.lt).cell 3
          have q4 : w9.cell? ⟨g5, 4, none⟩ = some (.int .i64 r.missed) := (K5.below hC9 K5.lt).cell 4
          simp only [Act.put, List.setIfInBounds_toArray, List.set_cons_zero, List.set_cons_succ] at hK9
          go_simp
          exact hK9 _ _ rfl hC9 (Below.refl _ _)
        apply wpFactsR_val
        case h1 =>
          intro vs L9 w9 hG9 hC9 hB K9 hK9
          have d3 := FactN.eq (hB 3 _ (by kernel_rfl) (by kernel_rfl) rfl (by decide))
          simp only [d3] at hK9 ⊢
          have q0 : w9.cell? ⟨g7, 0, none⟩ = some (.slice TA7 r.t.length tc7) := (K7.below hC9 K7.lt).cell 0
          have q1 : w9.cell? ⟨g7, 1, none⟩ = some (.slice OA7 r.o.length oc7) := (K7.below hC9 K7.lt).cell 1
          have q2 : w9.cell? ⟨g7, 2, none⟩ = some (.int .i64 r.got) := (K7.below hC9 K7.lt).cell 2
          have q3 : w9.cell? ⟨g7, 3, none⟩ = some (.int .i64 r.sold) := (K7.below hC9 K7.lt).cell 3
          have q4 : w9.cell? ⟨g7, 4, none⟩ = some (.int .i64 r.missed) := (K7.below hC9 K7.lt).cell 4
          simp only [Act.put, List.setIfInBounds_toArray, List.set_cons_zero, List.set_cons_succ] at hK9
          go_simp
          exact hK9 _ _ rfl hC9 (Below.refl _ _)
        refine wpFactsR_val (.bool true) (fun vs L9 w9 hG9 hC9 hB K9 hK9 => ?_) ?_
        next =>
          have d4 := FactN.eq (hB 4 _ (by kernel_rfl) (by kernel_rfl) rfl (by decide))
          have d5 := FactN.eq (hB 5 _ (by kernel_rfl) (by kernel_rfl) rfl (by decide))
          have d3 := FactN.eq (hB 3 _ (by kernel_rfl) (by kernel_rfl) rfl (by decide))
          simp only [d4, d5, d3] at hK9 ⊢
          go_simp
          refine (vOwn (R5.then hC9) (R7.then hC9)).mono ?_
          rintro en w8 ⟨rfl, hb8⟩
          exact hK9 _ _ rfl (hC9.trans (hb8.mono hC9.size)) hb8
        apply wpFactsR_val
        case h1 =>
          intro vs L9 w9 hG9 hC9 hB K9 hK9
          have d6 := FactN.eq (hB 6 _ (by kernel_rfl) (by kernel_rfl) rfl (by decide))
          have d3 := FactN.eq (hB 3 _ (by kernel_rfl) (by kernel_rfl) rfl (by decide))
          simp only [d6, d3] at hK9 ⊢
          simp only [Act.put, List.setIfInBounds_toArray, List.set_cons_zero, List.set_cons_succ] at hK9
          go_simp
          exact hK9 _ _ rfl hC9 (Below.refl _ _)
        apply wpFactsR_val
        case h1 =>
          intro vs L9 w9 hG9 hC9 hB K9 hK9
          have d3 := FactN.eq (hB 3 _ (by kernel_rfl) (by kernel_rfl) rfl (by decide))
          have d7 := FactN.eq (hB 7 _ (by kernel_rfl) (by kernel_rfl) rfl (by decide))
          simp only [d3, d7] at hK9 ⊢
          simp only [Act.put, List.setIfInBounds_toArray, List.set_cons_zero, List.set_cons_succ] at hK9
          go_simp
          exact hK9 _ _ rfl hC9 (Below.refl _ _)
        apply wpFactsR_val
        case h1 =>
          intro vs L9 w9 hG9 hC9 hB K9 hK9
          have d8 := FactN.eq (hB 8 _ (by kernel_rfl) (by kernel_rfl) rfl (by decide))
          simp only [d8] at hK9 ⊢
          simp only [Act.put, List.setIfInBounds_toArray, List.set_cons_zero, List.set_cons_succ] at hK9
          go_simp
          exact hK9 _ _ rfl hC9 (Below.refl _ _)
        apply wpFactsR_val
        case h1 =>
          intro vs L9 w9 hG9 hC9 hB K9 hK9
          have d9 := FactN.eq (hB 9 _ (by kernel_rfl) (by kernel_rfl) rfl (by decide))
          simp only [d9] at hK9 ⊢
          have q0 : w9.cell? ⟨g3, 0, none⟩ = some (.slice TA3 y.t.length tc3) := (K3.below hC9 K3.lt).cell 0
          have q1 : w9.cell? ⟨g3, 1, none⟩ = some (.slice OA3 y.o.length oc3) := (K3.below hC9 K3.lt).cell 1
          have q2 : w9.cell? ⟨g3, 2, none⟩ = some (.int .i64 y.got) := (K3.below hC9 K3.lt).cell 2
          have q3 : w9.cell? ⟨g3, 3, none⟩ = some (.int .i64 y.sold) := (K3.below hC9 K3.lt).cell 3
          have q4 : w9.cell? ⟨g3, 4, none⟩ = some (.int .i64 y.missed) := (K3.below hC9 K3.lt).cell 4
          simp only [Act.put, List.setIfInBounds_toArray, List.set_cons_zero, List.set_cons_succ] at hK9
          go_simp
          exact hK9 _ _ rfl hC9 (Below.refl _ _)
        refine wpFactsR_val (.bool gx) (fun vs L9 w9 hG9 hC9 hB K9 hK9 => ?_) ?_
        next =>
          have d10 := FactN.eq (hB 10 _ (by kernel_rfl) (by kernel_rfl) rfl (by decide))
          have d9 := FactN.eq (hB 9 _ (by kernel_rfl) (by kernel_rfl) rfl (by decide))
          simp only [d10, d9] at hK9 ⊢
          go_simp
          refine (HX1.out w9 (R3.then hC9)).mono ?_
          rintro en w8 ⟨rfl, hb8⟩
          exact hK9 _ _ rfl (hC9.trans (hb8.mono hC9.size)) hb8
        apply wpFactsR_val
        case h1 =>
          intro vs L9 w9 hG9 hC9 hB K9 hK9
          have d9 := FactN.eq (hB 9 _ (by kernel_rfl) (by kernel_rfl) rfl (by decide))
          simp only [d9] at hK9 ⊢
          have q0 : w9.cell? ⟨g3, 0, none⟩ = some (.slice TA3 y.t.length tc3) := (K3.below hC9 K3.lt).cell 0
          have q1 : w9.cell? ⟨g3, 1, none⟩ = some (.slice OA3 y.o.length oc3) := (K3.below hC9 K3.lt).cell 1
          have q2 : w9.cell? ⟨g3, 2, none⟩ = some (.int .i64 y.got) := (K3.below hC9 K3.lt).cell 2
          have q3 : w9.cell? ⟨g3, 3, none⟩ = some (.int .i64 y.sold) := (K3.below hC9 K3.lt).cell 3
          have q4 : w9.cell? ⟨g3, 4, none⟩ = some (.int .i64 y.missed) := (K3.below hC9 K3.lt).cell 4
          simp only [Act.put, List.setIfInBounds_toArray, List.set_cons_zero, List.set_cons_succ] at hK9
          go_simp
          exact hK9 _ _ rfl hC9 (Below.refl _ _)
        refine wpFactsR_val (.bool gx) (fun vs L9 w9 hG9 hC9 hB K9 hK9 => ?_) ?_
        next =>
          have d12 := FactN.eq (hB 12 _ (by kernel_rfl) (by kernel_rfl) rfl (by decide))
          have d9 := FactN.eq (hB 9 _ (by kernel_rfl) (by kernel_rfl) rfl (by decide))
          simp only [d12, d9] at hK9 ⊢
          go_simp
          refine (HX2.out w9 (R3.then hC9)).mono ?_
          rintro en w8 ⟨rfl, hb8⟩
          exact hK9 _ _ rfl (hC9.trans (hb8.mono hC9.size)) hb8
        refine wpFactsR_val (.bool false) (fun vs L9 w9 hG9 hC9 hB K9 hK9 => ?_) ?_
        next =>
          have d11 := FactN.eq (hB 11 _ (by kernel_rfl) (by kernel_rfl) rfl (by decide))
          have d13 := FactN.eq (hB 13 _ (by kernel_rfl) (by kernel_rfl) rfl (by decide))
          have d9 := FactN.eq (hB 9 _ (by kernel_rfl) (by kernel_rfl) rfl (by decide))
          simp only [d11, d13, d9] at hK9 ⊢
          go_simp
          exact hK9 _ _ rfl hC9 (Below.refl _ _)
        apply wpFactsR_val
        case h1 =>
          intro vs L9 w9 hG9 hC9 hB K9 hK9
          have d9 := FactN.eq (hB 9 _ (by kernel_rfl) (by kernel_rfl) rfl (by decide))
          have d14 := FactN.eq (hB 14 _ (by kernel_rfl) (by kernel_rfl) rfl (by decide))
          simp only [d9, d14] at hK9 ⊢
          simp only [Act.put, List.setIfInBounds_toArray, List.set_cons_zero, List.set_cons_succ] at hK9
          go_simp
          exact hK9 _ _ rfl hC9 (Below.refl _ _)
        apply wpFactsR_val
        case h1 =>
          intro vs L9 w9 hG9 hC9 hB K9 hK9
          have d15 := FactN.eq (hB 15 _ (by kernel_rfl) (by kernel_rfl) rfl (by decide))
          simp only [d15] at hK9 ⊢
          simp only [Act.put, List.setIfInBounds_toArray, List.set_cons_zero, List.set_cons_succ] at hK9
          go_simp
          exact hK9 _ _ rfl hC9 (Below.refl _ _)
        apply wpFactsR_val
        case h1 =>
          intro vs L9 w9 hG9 hC9 hB K9 hK9
          have d16 := FactN.eq (hB 16 _ (by kernel_rfl) (by kernel_rfl) rfl (by decide))
          simp only [d16] at hK9 ⊢
          simp only [Act.put, List.setIfInBounds_toArray, List.set_cons_zero, List.set_cons_succ] at hK9
          go_simp
          exact hK9 _ _ rfl hC9 (Below.refl _ _)
        apply wpFactsR_val
        case h1 =>
          intro vs L9 w9 hG9 hC9 hB K9 hK9
          have d17 := FactN.eq (hB 17 _ (by kernel_rfl) (by kernel_rfl) rfl (by decide))
          have d16 := FactN.eq (hB 16 _ (by kernel_rfl) (by kernel_rfl) rfl (by decide))
          simp only [d17, d16] at hK9 ⊢
          simp only [Act.put, List.setIfInBounds_toArray, List.set_cons_zero, List.set_cons_succ] at hK9
          go_simp
          exact hK9 _ _ rfl hC9 (Below.refl _ _)
        refine wpFactsR_val (undef) (fun vs L9 w9 hG9 hC9 hB K9 hK9 => ?_) ?_
        next =>
          have d18 := FactN.eq (hB 18 _ (by kernel_rfl) (by kernel_rfl) rfl (by decide))
          simp only [d18] at hK9 ⊢
          go_simp
          exact hK9 _ _ rfl hC9 (Below.refl _ _)
        refine wpFactsR_val (undef) (fun vs L9 w9 hG9 hC9 hB K9 hK9 => ?_) ?_
        next =>
          have d19 := FactN.eq (hB 19 _ (by kernel_rfl) (by kernel_rfl) rfl (by decide))
          have d18 := FactN.eq (hB 18 _ (by kernel_rfl) (by kernel_rfl) rfl (by decide))
          simp only [d19, d18] at hK9 ⊢
          go_simp
          exact hK9 _ _ rfl hC9 (Below.refl _ _)
        refine wpFactsR_val (undef) (fun vs L9 w9 hG9 hC9 hB K9 hK9 => ?_) ?_
        next =>
          have d20 := FactN.eq (hB 20 _ (by kernel_rfl) (by kernel_rfl) rfl (by decide))
          have d18 := FactN.eq (hB 18 _ (by kernel_rfl) (by kernel_rfl) rfl (by decide))
          simp only [d20, d18] at hK9 ⊢
          go_simp
          exact hK9 _ _ rfl hC9 (Below.refl _ _)
        apply wpFactsR_val
        case h1 =>
          intro vs L9 w9 hG9 hC9 hB K9 hK9
          have d18 := FactN.eq (hB 18 _ (by kernel_rfl) (by kernel_rfl) rfl (by decide))
          have d21 := FactN.eq (hB 21 _ (by kernel_rfl) (by kernel_rfl) rfl (by decide))
          have d16 := FactN.eq (hB 16 _ (by kernel_rfl) (by kernel_rfl) rfl (by decide))
          simp only [d18, d21, d16] at hK9 ⊢
          simp only [Act.put, List.setIfInBounds_toArray, List.set_cons_zero, List.set_cons_succ] at hK9
          go_simp
          exact hK9 _ _ rfl hC9 (Below.refl _ _)
        apply wpFactsR_val
        case h1 =>
          intro vs L9 w9 hG9 hC9 hB K9 hK9
          have d16 := FactN.eq (hB 16 _ (by kernel_rfl) (by kernel_rfl) rfl (by decide))
          have d22 := FactN.eq (hB 22 _ (by kernel_rfl) (by kernel_rfl) rfl (by decide))
          simp only [d16, d22] at hK9 ⊢
          simp only [Act.put, List.setIfInBounds_toArray, List.set_cons_zero, List.set_cons_succ] at hK9
          go_simp
          exact hK9 _ _ rfl hC9 (Below.refl _ _)
        refine wpFactsR_nil fun vs Lq wd hL9 hbd hB => ?_
        have dl := FactN.eq (hB 23 _ rfl rfl (by decide))
        simp only [dl]
        clear hB hL9 dl
        go_wp2_with fail
        go_meet
        case rel => exact ⟨rfl, hbd⟩
      · obtain ⟨_, _, _, hrg⟩ := HF.out rfl
        have HX3 : Hid (∀ W, OffR W W.heap.size (r.at TA5 tc5 OA5 oc5) → Calls Try.prog 29 #[.agg #[.slice TA5 r.t.length tc5, .slice OA5 r.o.length oc5, .int .i64 r.got, .int .i64 r.sold, .int .i64 r.missed]] W fun e w' => e = .returned (.bool true) ∧ Below W.heap.size W w') := fun W h => by rw [← hrg]; exact implIsOffice_any (r.at TA5 tc5 OA5 oc5) W h
        clear hrg
        refine wp_region_factsR (fun _ => (fun W9 => Below wk.heap.size wk W9)) (fun _ w1 w2 => Below w1.heap.size w1 w2) (by kernel_rfl) (by kernel_rfl) (by kernel_rfl) (Below.refl _ _).drew ?_
        simp only [fillOps, Act.put, List.setIfInBounds_toArray, List.set_cons_zero, List.set_cons_succ, Nat.zero_add, Nat.reduceAdd]
        apply wpFactsR_val
        case h1 =>
          intro vs L9 w9 hG9 hC9 hB K9 hK9
          simp only [Act.put, List.setIfInBounds_toArray, List.set_cons_zero, List.set_cons_succ] at hK9
          go_simp
          exact hK9 _ _ rfl hC9 (Below.refl _ _)
        apply wpFactsR_val
        case h1 =>
          intro vs L9 w9 hG9 hC9 hB K9 hK9
          simp only [Act.put, List.setIfInBounds_toArray, List.set_cons_zero, List.set_cons_succ] at hK9
          go_simp
          exact hK9 _ _ rfl hC9 (Below.refl _ _)
        apply wpFactsR_val
        case h1 =>
          intro vs L9 w9 hG9 hC9 hB K9 hK9
          have d0 := FactN.eq (hB 0 _ (by kernel_rfl) (by kernel_rfl) rfl (by decide))
          have d1 := FactN.eq (hB 1 _ (by kernel_rfl) (by kernel_rfl) rfl (by decide))
          simp only [d0, d1] at hK9 ⊢
          simp only [Act.put, List.setIfInBounds_toArray, List.set_cons_zero, List.set_cons_succ] at hK9
          go_simp
          exact hK9 _ _ rfl hC9 (Below.refl _ _)
        apply wpFactsR_val
        case h1 =>
          intro vs L9 w9 hG9 hC9 hB K9 hK9
          have d2 := FactN.eq (hB 2 _ (by kernel_rfl) (by kernel_rfl) rfl (by decide))
          simp only [d2] at hK9 ⊢
          simp only [Act.put, List.setIfInBounds_toArray, List.set_cons_zero, List.set_cons_succ] at hK9
          go_simp
          exact hK9 _ _ rfl hC9 (Below.refl _ _)
        apply wpFactsR_val
        case h1 =>
          intro vs L9 w9 hG9 hC9 hB K9 hK9
          have d3 := FactN.eq (hB 3 _ (by kernel_rfl) (by kernel_rfl) rfl (by decide))
          simp only [d3] at hK9 ⊢
          have q0 : w9.cell? ⟨g5, 0, none⟩ = some (.slice TA5 r.t.length tc5) := (K5.below hC9 K5.lt).cell 0
          have q1 : w9.cell? ⟨g5, 1, none⟩ = some (.slice OA5 r.o.length oc5) := (K5.below hC9 K5.lt).cell 1
          have q2 : w9.cell? ⟨g5, 2, none⟩ = some (.int .i64 r.got) := (K5.below hC9 K5.lt).cell 2
          have q3 : w9.cell? ⟨g5, 3, none⟩ = some (.int .i64 r.sold) := (K5.below hC9 K5.lt).cell 3
          have q4 : w9.cell? ⟨g5, 4, none⟩ = some (.int .i64 r.missed) := (K5.below hC9 K5.lt).cell 4
          simp only [Act.put, List.setIfInBounds_toArray, List.set_cons_zero, List.set_cons_succ] at hK9
          go_simp
          exact hK9 _ _ rfl hC9 (Below.refl _ _)
        apply wpFactsR_val
        case h1 =>
          intro vs L9 w9 hG9 hC9 hB K9 hK9
          have d3 := FactN.eq (hB 3 _ (by kernel_rfl) (by kernel_rfl) rfl (by decide))
          simp only [d3] at hK9 ⊢
          have q0 : w9.cell? ⟨g7, 0, none⟩ = some (.slice TA7 r.t.length tc7) := (K7.below hC9 K7.lt).cell 0
          have q1 : w9.cell? ⟨g7, 1, none⟩ = some (.slice OA7 r.o.length oc7) := (K7.below hC9 K7.lt).cell 1
          have q2 : w9.cell? ⟨g7, 2, none⟩ = some (.int .i64 r.got) := (K7.below hC9 K7.lt).cell 2
          have q3 : w9.cell? ⟨g7, 3, none⟩ = some (.int .i64 r.sold) := (K7.below hC9 K7.lt).cell 3
          have q4 : w9.cell? ⟨g7, 4, none⟩ = some (.int .i64 r.missed) := (K7.below hC9 K7.lt).cell 4
          simp only [Act.put, List.setIfInBounds_toArray, List.set_cons_zero, List.set_cons_succ] at hK9
          go_simp
          exact hK9 _ _ rfl hC9 (Below.refl _ _)
        refine wpFactsR_val (.bool true) (fun vs L9 w9 hG9 hC9 hB K9 hK9 => ?_) ?_
        next =>
          have d4 := FactN.eq (hB 4 _ (by kernel_rfl) (by kernel_rfl) rfl (by decide))
          have d5 := FactN.eq (hB 5 _ (by kernel_rfl) (by kernel_rfl) rfl (by decide))
          have d3 := FactN.eq (hB 3 _ (by kernel_rfl) (by kernel_rfl) rfl (by decide))
          simp only [d4, d5, d3] at hK9 ⊢
          go_simp
          refine (vOwn (R5.then hC9) (R7.then hC9)).mono ?_
          rintro en w8 ⟨rfl, hb8⟩
          exact hK9 _ _ rfl (hC9.trans (hb8.mono hC9.size)) hb8
        apply wpFactsR_val
        case h1 =>
          intro vs L9 w9 hG9 hC9 hB K9 hK9
          have d6 := FactN.eq (hB 6 _ (by kernel_rfl) (by kernel_rfl) rfl (by decide))
          have d3 := FactN.eq (hB 3 _ (by kernel_rfl) (by kernel_rfl) rfl (by decide))
          simp only [d6, d3] at hK9 ⊢
          simp only [Act.put, List.setIfInBounds_toArray, List.set_cons_zero, List.set_cons_succ] at hK9
          go_simp
          exact hK9 _ _ rfl hC9 (Below.refl _ _)
        apply wpFactsR_val
        case h1 =>
          intro vs L9 w9 hG9 hC9 hB K9 hK9
          have d3 := FactN.eq (hB 3 _ (by kernel_rfl) (by kernel_rfl) rfl (by decide))
          have d7 := FactN.eq (hB 7 _ (by kernel_rfl) (by kernel_rfl) rfl (by decide))
          simp only [d3, d7] at hK9 ⊢
          simp only [Act.put, List.setIfInBounds_toArray, List.set_cons_zero, List.set_cons_succ] at hK9
          go_simp
          exact hK9 _ _ rfl hC9 (Below.refl _ _)
        apply wpFactsR_val
        case h1 =>
          intro vs L9 w9 hG9 hC9 hB K9 hK9
          have d8 := FactN.eq (hB 8 _ (by kernel_rfl) (by kernel_rfl) rfl (by decide))
          simp only [d8] at hK9 ⊢
          simp only [Act.put, List.setIfInBounds_toArray, List.set_cons_zero, List.set_cons_succ] at hK9
          go_simp
          exact hK9 _ _ rfl hC9 (Below.refl _ _)
        apply wpFactsR_val
        case h1 =>
          intro vs L9 w9 hG9 hC9 hB K9 hK9
          have d9 := FactN.eq (hB 9 _ (by kernel_rfl) (by kernel_rfl) rfl (by decide))
          simp only [d9] at hK9 ⊢
          have q0 : w9.cell? ⟨g3, 0, none⟩ = some (.slice TA3 y.t.length tc3) := (K3.below hC9 K3.lt).cell 0
          have q1 : w9.cell? ⟨g3, 1, none⟩ = some (.slice OA3 y.o.length oc3) := (K3.below hC9 K3.lt).cell 1
          have q2 : w9.cell? ⟨g3, 2, none⟩ = some (.int .i64 y.got) := (K3.below hC9 K3.lt).cell 2
          have q3 : w9.cell? ⟨g3, 3, none⟩ = some (.int .i64 y.sold) := (K3.below hC9 K3.lt).cell 3
          have q4 : w9.cell? ⟨g3, 4, none⟩ = some (.int .i64 y.missed) := (K3.below hC9 K3.lt).cell 4
          simp only [Act.put, List.setIfInBounds_toArray, List.set_cons_zero, List.set_cons_succ] at hK9
          go_simp
          exact hK9 _ _ rfl hC9 (Below.refl _ _)
        refine wpFactsR_val (.bool gx) (fun vs L9 w9 hG9 hC9 hB K9 hK9 => ?_) ?_
        next =>
          have d10 := FactN.eq (hB 10 _ (by kernel_rfl) (by kernel_rfl) rfl (by decide))
          have d9 := FactN.eq (hB 9 _ (by kernel_rfl) (by kernel_rfl) rfl (by decide))
          simp only [d10, d9] at hK9 ⊢
          go_simp
          refine (HX1.out w9 (R3.then hC9)).mono ?_
          rintro en w8 ⟨rfl, hb8⟩
          exact hK9 _ _ rfl (hC9.trans (hb8.mono hC9.size)) hb8
        apply wpFactsR_val
        case h1 =>
          intro vs L9 w9 hG9 hC9 hB K9 hK9
          have d9 := FactN.eq (hB 9 _ (by kernel_rfl) (by kernel_rfl) rfl (by decide))
          simp only [d9] at hK9 ⊢
          have q0 : w9.cell? ⟨g3, 0, none⟩ = some (.slice TA3 y.t.length tc3) := (K3.below hC9 K3.lt).cell 0
          have q1 : w9.cell? ⟨g3, 1, none⟩ = some (.slice OA3 y.o.length oc3) := (K3.below hC9 K3.lt).cell 1
          have q2 : w9.cell? ⟨g3, 2, none⟩ = some (.int .i64 y.got) := (K3.below hC9 K3.lt).cell 2
          have q3 : w9.cell? ⟨g3, 3, none⟩ = some (.int .i64 y.sold) := (K3.below hC9 K3.lt).cell 3
          have q4 : w9.cell? ⟨g3, 4, none⟩ = some (.int .i64 y.missed) := (K3.below hC9 K3.lt).cell 4
          simp only [Act.put, List.setIfInBounds_toArray, List.set_cons_zero, List.set_cons_succ] at hK9
          go_simp
          exact hK9 _ _ rfl hC9 (Below.refl _ _)
        refine wpFactsR_val (.bool gx) (fun vs L9 w9 hG9 hC9 hB K9 hK9 => ?_) ?_
        next =>
          have d12 := FactN.eq (hB 12 _ (by kernel_rfl) (by kernel_rfl) rfl (by decide))
          have d9 := FactN.eq (hB 9 _ (by kernel_rfl) (by kernel_rfl) rfl (by decide))
          simp only [d12, d9] at hK9 ⊢
          go_simp
          refine (HX2.out w9 (R3.then hC9)).mono ?_
          rintro en w8 ⟨rfl, hb8⟩
          exact hK9 _ _ rfl (hC9.trans (hb8.mono hC9.size)) hb8
        refine wpFactsR_val (.bool false) (fun vs L9 w9 hG9 hC9 hB K9 hK9 => ?_) ?_
        next =>
          have d11 := FactN.eq (hB 11 _ (by kernel_rfl) (by kernel_rfl) rfl (by decide))
          have d13 := FactN.eq (hB 13 _ (by kernel_rfl) (by kernel_rfl) rfl (by decide))
          have d9 := FactN.eq (hB 9 _ (by kernel_rfl) (by kernel_rfl) rfl (by decide))
          simp only [d11, d13, d9] at hK9 ⊢
          go_simp
          exact hK9 _ _ rfl hC9 (Below.refl _ _)
        apply wpFactsR_val
        case h1 =>
          intro vs L9 w9 hG9 hC9 hB K9 hK9
          have d9 := FactN.eq (hB 9 _ (by kernel_rfl) (by kernel_rfl) rfl (by decide))
          have d14 := FactN.eq (hB 14 _ (by kernel_rfl) (by kernel_rfl) rfl (by decide))
          simp only [d9, d14] at hK9 ⊢
          simp only [Act.put, List.setIfInBounds_toArray, List.set_cons_zero, List.set_cons_succ] at hK9
          go_simp
          exact hK9 _ _ rfl hC9 (Below.refl _ _)
        apply wpFactsR_val
        case h1 =>
          intro vs L9 w9 hG9 hC9 hB K9 hK9
          have d15 := FactN.eq (hB 15 _ (by kernel_rfl) (by kernel_rfl) rfl (by decide))
          simp only [d15] at hK9 ⊢
          simp only [Act.put, List.setIfInBounds_toArray, List.set_cons_zero, List.set_cons_succ] at hK9
          go_simp
          exact hK9 _ _ rfl hC9 (Below.refl _ _)
        apply wpFactsR_val
        case h1 =>
          intro vs L9 w9 hG9 hC9 hB K9 hK9
          have d16 := FactN.eq (hB 16 _ (by kernel_rfl) (by kernel_rfl) rfl (by decide))
          simp only [d16] at hK9 ⊢
          simp only [Act.put, List.setIfInBounds_toArray, List.set_cons_zero, List.set_cons_succ] at hK9
          go_simp
          exact hK9 _ _ rfl hC9 (Below.refl _ _)
        apply wpFactsR_val
        case h1 =>
          intro vs L9 w9 hG9 hC9 hB K9 hK9
          have d17 := FactN.eq (hB 17 _ (by kernel_rfl) (by kernel_rfl) rfl (by decide))
          have d16 := FactN.eq (hB 16 _ (by kernel_rfl) (by kernel_rfl) rfl (by decide))
          simp only [d17, d16] at hK9 ⊢
          simp only [Act.put, List.setIfInBounds_toArray, List.set_cons_zero, List.set_cons_succ] at hK9
          go_simp
          exact hK9 _ _ rfl hC9 (Below.refl _ _)
        apply wpFactsR_val
        case h1 =>
          intro vs L9 w9 hG9 hC9 hB K9 hK9
          have d18 := FactN.eq (hB 18 _ (by kernel_rfl) (by kernel_rfl) rfl (by decide))
          simp only [d18] at hK9 ⊢
          have q0 : w9.cell? ⟨g5, 0, none⟩ = some (.slice TA5 r.t.length tc5) := (K5.below hC9 K5.lt).cell 0
          have q1 : w9.cell? ⟨g5, 1, none⟩ = some (.slice OA5 r.o.length oc5) := (K5.below hC9 K5.lt).cell 1
          have q2 : w9.cell? ⟨g5, 2, none⟩ = some (.int .i64 r.got) := (K5.below hC9 K5.lt).cell 2
          have q3 : w9.cell? ⟨g5, 3, none⟩ = some (.int .i64 r.sold) := (K5.below hC9 K5.lt).cell 3
          have q4 : w9.cell? ⟨g5, 4, none⟩ = some (.int .i64 r.missed) := (K5.below hC9 K5.lt).cell 4
          simp only [Act.put, List.setIfInBounds_toArray, List.set_cons_zero, List.set_cons_succ] at hK9
          go_simp
          exact hK9 _ _ rfl hC9 (Below.refl _ _)
        refine wpFactsR_val (.bool true) (fun vs L9 w9 hG9 hC9 hB K9 hK9 => ?_) ?_
        next =>
          have d19 := FactN.eq (hB 19 _ (by kernel_rfl) (by kernel_rfl) rfl (by decide))
          have d18 := FactN.eq (hB 18 _ (by kernel_rfl) (by kernel_rfl) rfl (by decide))
          simp only [d19, d18] at hK9 ⊢
          go_simp
          refine (HX3.out w9 (R5.then hC9)).mono ?_
          rintro en w8 ⟨rfl, hb8⟩
          exact hK9 _ _ rfl (hC9.trans (hb8.mono hC9.size)) hb8
        apply wpFactsR_val
        case h1 =>
          intro vs L9 w9 hG9 hC9 hB K9 hK9
          have d20 := FactN.eq (hB 20 _ (by kernel_rfl) (by kernel_rfl) rfl (by decide))
          have d18 := FactN.eq (hB 18 _ (by kernel_rfl) (by kernel_rfl) rfl (by decide))
          simp only [d20, d18] at hK9 ⊢
          simp only [Act.put, List.setIfInBounds_toArray, List.set_cons_zero, List.set_cons_succ] at hK9
          go_simp
          exact hK9 _ _ rfl hC9 (Below.refl _ _)
        apply wpFactsR_val
        case h1 =>
          intro vs L9 w9 hG9 hC9 hB K9 hK9
          have d18 := FactN.eq (hB 18 _ (by kernel_rfl) (by kernel_rfl) rfl (by decide))
          have d21 := FactN.eq (hB 21 _ (by kernel_rfl) (by kernel_rfl) rfl (by decide))
          have d16 := FactN.eq (hB 16 _ (by kernel_rfl) (by kernel_rfl) rfl (by decide))
          simp only [d18, d21, d16] at hK9 ⊢
          simp only [Act.put, List.setIfInBounds_toArray, List.set_cons_zero, List.set_cons_succ] at hK9
          go_simp
          exact hK9 _ _ rfl hC9 (Below.refl _ _)
        apply wpFactsR_val
        case h1 =>
          intro vs L9 w9 hG9 hC9 hB K9 hK9
          have d16 := FactN.eq (hB 16 _ (by kernel_rfl) (by kernel_rfl) rfl (by decide))
          have d22 := FactN.eq (hB 22 _ (by kernel_rfl) (by kernel_rfl) rfl (by decide))
          simp only [d16, d22] at hK9 ⊢
          simp only [Act.put, List.setIfInBounds_toArray, List.set_cons_zero, List.set_cons_succ] at hK9
          go_simp
          exact hK9 _ _ rfl hC9 (Below.refl _ _)
        refine wpFactsR_nil fun vs Lq wd hL9 hbd hB => ?_
        have dl := FactN.eq (hB 23 _ rfl rfl (by decide))
        simp only [dl]
        clear hB hL9 dl
        go_wp2_with fail
        go_meet
        case rel => exact ⟨rfl, hbd⟩
    case rest => as_aux_lemma =>
      obtain ⟨rfl, hx⟩ := hcut
      have Bc := bthen Bc hx
      have K3 := K3.below hx K3.lt
      have K4 := K4.below hx K4.lt
      have K5 := K5.below hx K5.lt
      have R5 := R5.then hx
      clear hx K7 R7 R3 HX1 HX2
      go_upto_if 71 with fail
      go_cut [] (fun wx => Below wc.heap.size wc wx)
      case first => as_aux_lemma =>
        cases b
        · go_wp2_with fail
          go_meet
          case rel => exact Below.refl _ _
        · obtain ⟨hyg, hsk, hstp, hrg⟩ := HF.out rfl
          have hsum := good_sum hrg
          obtain ⟨i0, o0, s0, m0, g9⟩ := good_bds hrg
          obtain ⟨p0, p1⟩ := ok_person hsk
          have cIn := implStampsIn_any (r.at TA5 tc5 OA5 oc5) wc R5
          have cOut := fun W h => implStampsOut_any (r.at TA5 tc5 OA5 oc5) W h
          have cK := fun W h => implKindsAt_any (r.at TA5 tc5 OA5 oc5) s.person (by omega) (by omega) W h
          have hgd : goodOff (r.at TA5 tc5 OA5 oc5) = true := hrg
          simp only [hgd, Bool.true_and] at cIn cOut cK
          simp only [show (r.at TA5 tc5 OA5 oc5).t = r.t from rfl, show (r.at TA5 tc5 OA5 oc5).o = r.o from rfl, okOf, if_true] at cIn cOut cK
          have hK : ∀ kd : Bool, kd = true → True := fun _ _ => trivial
          have hKind := kind_facts (x := y.at none 0 none 0) (good_iff.1 hyg) hsk hstp
          simp only [show (y.at none 0 none 0).got = y.got from rfl] at hKind
          clear hgd hstp hsk hyg hrg hK
          obtain ⟨kin, hkin⟩ : ∃ kin, inR s.person 1 999 = kin := ⟨_, rfl⟩
          rw [hkin] at cK hKind
          obtain ⟨ks, hks⟩ : ∃ ks, listOf kin (picks (fun o : Outing => decide (o.p = s.person)) Outing.k r.o) = ks := ⟨_, rfl⟩
          rw [hks] at hKind
          simp only [hks] at cK
          obtain ⟨si, hsi⟩ : ∃ si, inSum r.t = si := ⟨_, rfl⟩
          obtain ⟨so, hso⟩ : ∃ so, outSum every r.o = so := ⟨_, rfl⟩
          rw [hsi] at cIn hsum i0
          simp only [hso] at cOut
          rw [hso] at hsum o0
          have hw1 : IntKind.i64.wrap (si + so) = si + so := IntWalk.i64_in _ (by omega)
          have hw2 : IntKind.i64.wrap (si + so + r.sold) = si + so + r.sold := IntWalk.i64_in _ (by omega)
          have hw3 : IntKind.i64.wrap (si + so + r.sold + r.missed) = si + so + r.sold + r.missed := IntWalk.i64_in _ (by omega)
          have hq : (r.got != si + so + r.sold + r.missed) = false := by rw [bne_eq_false_iff_eq]; exact hsum
          obtain ⟨hv, hhv⟩ : ∃ hv, hasFrom s.stamp ks = hv := ⟨_, rfl⟩
          rw [hhv] at hKind
          have cV := fun (A' : Option Addr) (c' : Nat) W h => vHas_any A' c' ks s.stamp W h
          rw [hhv] at cV
          have HC := Lib.hid cOut
          have HCK := Lib.hid cK
          have HCV := Lib.hid cV
          clear hkin hks hsi hso hsum i0 o0 s0 m0 g9 p0 p1 cOut cK cV hhv
          have c0 := K5.cell 0
          have c1 := K5.cell 1
          have c2 := K5.cell 2
          have c3 := K5.cell 3
          have c4 := K5.cell 4
          simp only [List.getElem?_cons_zero, List.getElem?_cons_succ] at c0 c1 c2 c3 c4
          have d0 := K4.cell 0
          have d1 := K4.cell 1
          have d2 := K4.cell 2
          have d3 := K4.cell 3
          simp only [List.getElem?_cons_zero, List.getElem?_cons_succ] at d0 d1 d2 d3
          have k0 := K3.cell 0
          have k1 := K3.cell 1
          have k2 := K3.cell 2
          have k3 := K3.cell 3
          have k4 := K3.cell 4
          simp only [List.getElem?_cons_zero, List.getElem?_cons_succ] at k0 k1 k2 k3 k4
          rcases hKind with ⟨f1, f2, f5, f6, fg⟩ | ⟨f1, f2, f5, f6, fg, rfl, rfl⟩ | ⟨f1, f2, f5, f6, fg, rfl⟩ | ⟨f1, f2, f5, f6, fg, rfl⟩ | ⟨f1, f2, f5, f6, fg⟩
          all_goals
            go_wp2_with fail
            refine cIn.mono ?_
            rintro e w6 ⟨rfl, hb6⟩
            have R56 := R5.then hb6
            have K56 := K5.below hb6 K5.lt
            have K46 := K4.below hb6 K4.lt
            have K36 := K3.below hb6 K3.lt
            clear cIn c0 c1 c2 c3 c4 d0 d1 d2 d3 k0 k1 k2 k3 k4
            have c0 := K56.cell 0
            have c1 := K56.cell 1
            have c2 := K56.cell 2
            have c3 := K56.cell 3
            have c4 := K56.cell 4
            simp only [List.getElem?_cons_zero, List.getElem?_cons_succ] at c0 c1 c2 c3 c4
            go_wp2_with fail
            refine (HC.out w6 R56).mono ?_
            rintro e w7 ⟨rfl, hb7⟩
            have R57 := R56.then hb7
            have K57 := K56.below hb7 K56.lt
            have K47 := K46.below hb7 K46.lt
            have K37 := K36.below hb7 K36.lt
            have B7 := bthen hb6 hb7
            clear c0 c1 c2 c3 c4 R56 K56 K46 K36 hb6 hb7
            have c0 := K57.cell 0
            have c1 := K57.cell 1
            have c2 := K57.cell 2
            have c3 := K57.cell 3
            have c4 := K57.cell 4
            simp only [List.getElem?_cons_zero, List.getElem?_cons_succ] at c0 c1 c2 c3 c4
            have d0 := K47.cell 0
            have d1 := K47.cell 1
            have d2 := K47.cell 2
            have d3 := K47.cell 3
            simp only [List.getElem?_cons_zero, List.getElem?_cons_succ] at d0 d1 d2 d3
            have k0 := K37.cell 0
            have k1 := K37.cell 1
            have k2 := K37.cell 2
            have k3 := K37.cell 3
            have k4 := K37.cell 4
            simp only [List.getElem?_cons_zero, List.getElem?_cons_succ] at k0 k1 k2 k3 k4
            go_wp2_with fail
            refine (HCK.out w7 R57).mono ?_
            rintro e w8 ⟨A', c', rfl, hO8, hb8⟩
            have B8 := bthen B7 hb8
            have K48 := K47.below hb8 K47.lt
            clear c0 c1 c2 c3 c4 d0 d1 d2 d3 k0 k1 k2 k3 k4 K57 K47 K37 R57 hb8
            have d0 := K48.cell 0
            have d1 := K48.cell 1
            have d2 := K48.cell 2
            have d3 := K48.cell 3
            simp only [List.getElem?_cons_zero, List.getElem?_cons_succ] at d0 d1 d2 d3
            have hI8 : IntsR w8 w8.heap.size A' ks := hO8.reads
            go_wp2_with (go_at_call 34; refine (HCV.out A' c' w8 hI8).mono ?_; rintro e w9 ⟨rfl, hb9⟩; have x0 := (K48.below hb9 K48.lt).cell 0; have x1 := (K48.below hb9 K48.lt).cell 1; simp only [List.getElem?_cons_zero, List.getElem?_cons_succ] at x0 x1)
            go_meet
            case rel => first | exact bthen B8 hb9 | exact B8
      case rest => as_aux_lemma =>
        have Bd := bthen Bc hcut
        have hrd : BytesR wc wc.heap.size A bs := SlcR.up HBR.out Bd (Nat.le_refl _)
        have HBd := Lib.hid Bd.size
        clear hcut Bc K3 K4 K5 R5 HF
        go_wp2_with fail
        refine (drawRunOffice_any A cap bs wc hrd).mono ?_
        rintro e w1 ⟨y2, l, v, u, rfl, ⟨TA3, tc3, OA3, oc3, rfl, hT, hO⟩, ⟨A', c', rfl, hS⟩, hl, hb1⟩
        have hal := (Below.refl w1.heap.size w1).alloc (Nat.le_refl _) (.cells #[.slice TA3 y2.t.length tc3, .slice OA3 y2.o.length oc3, .int .i64 y2.got, .int .i64 y2.sold, .int .i64 y2.missed] 25)
        have K3 := Lies.new w1 25 #[.slice TA3 y2.t.length tc3, .slice OA3 y2.o.length oc3, .int .i64 y2.got, .int .i64 y2.sold, .int .i64 y2.missed]
        have hT2 := ownsRow_below hT hal
        have hO2 := ownsRow_below hO hal
        have hS2 := ownsRow_below hS hal
        have B2 := bthen Bd (bthen hb1 hal)
        clear hT hO hS hal hb1 Bd hrd
        go_upto_region 17 with fail
        generalize (w1.alloc (.cells #[.slice TA3 y2.t.length tc3, .slice OA3 y2.o.length oc3, .int .i64 y2.got, .int .i64 y2.sold, .int .i64 y2.missed] 25)) = w2 at K3 hT2 hO2 hS2 B2 ⊢
        generalize w1.heap.size = g3 at K3 ⊢
        have R3 : OffR w2 w2.heap.size (y2.at TA3 tc3 OA3 oc3) := offR_row hT2 hO2
        have RS : StpsR w2 w2.heap.size A' l := ownsRow_reads hS2
        have hcap3 := ownsRow_cap hT2
        have HT2 := Lib.hid (ownsRow_lower hT2 (show w.heap.size ≤ wc.heap.size from HBd.out))
        have HO2 := Lib.hid (ownsRow_lower hO2 (show w.heap.size ≤ wc.heap.size from HBd.out))
        clear hT2 hO2 hS2
        obtain ⟨R, hRR⟩ : ∃ R, runR y2 l = R := ⟨_, rfl⟩
        have cI := fun (W : World) (h : Below w2.heap.size w2 W) => implRunV (y2.at TA3 tc3 OA3 oc3) l W (v := .agg #[.slice TA3 y2.t.length tc3, .slice OA3 y2.o.length oc3, .int .i64 y2.got, .int .i64 y2.sold, .int .i64 y2.missed]) (v' := .slice A' l.length c') ⟨y2.at TA3 tc3 OA3 oc3, rfl, rfl, R3.then h, hcap3⟩ ⟨A', c', rfl, SlcR.then RS h⟩
        have cS := fun (W : World) (h : Below w2.heap.size w2 W) => specRunV (y2.at TA3 tc3 OA3 oc3) l W (v := .agg #[.slice TA3 y2.t.length tc3, .slice OA3 y2.o.length oc3, .int .i64 y2.got, .int .i64 y2.sold, .int .i64 y2.missed]) (v' := .slice A' l.length c') ⟨y2.at TA3 tc3 OA3 oc3, rfl, rfl, R3.then h, hcap3⟩ ⟨A', c', rfl, SlcR.then RS h⟩
        simp only [show (y2.at TA3 tc3 OA3 oc3).c = y2 from rfl, hRR] at cI cS
        have HRR := Lib.hid hRR
        clear hRR
        obtain ⟨r, n, b⟩ := R
        have hno : (n != n) = false := by simp
        have hbo : (b != b) = false := by simp
        have c0 := K3.cell 0
        have c1 := K3.cell 1
        have c2 := K3.cell 2
        have c3 := K3.cell 3
        have c4 := K3.cell 4
        simp only [List.getElem?_cons_zero, List.getElem?_cons_succ] at c0 c1 c2 c3 c4
        go_wp2_with fail
        refine (cI w2 (Below.refl _ _)).mono ?_
        rintro e w3 ⟨v, rfl, ⟨TA5, tc5, OA5, oc5, rfl, hT, hO⟩, hb3⟩
        have hal := (Below.refl w3.heap.size w3).alloc (Nat.le_refl _) (.cells #[.slice TA5 r.t.length tc5, .slice OA5 r.o.length oc5, .int .i64 r.got, .int .i64 r.sold, .int .i64 r.missed] 25)
        have K5 := Lies.new w3 25 #[.slice TA5 r.t.length tc5, .slice OA5 r.o.length oc5, .int .i64 r.got, .int .i64 r.sold, .int .i64 r.missed]
        have R5 : OffR (w3.alloc (.cells #[.slice TA5 r.t.length tc5, .slice OA5 r.o.length oc5, .int .i64 r.got, .int .i64 r.sold, .int .i64 r.missed] 25)) (w3.alloc (.cells #[.slice TA5 r.t.length tc5, .slice OA5 r.o.length oc5, .int .i64 r.got, .int .i64 r.sold, .int .i64 r.missed] 25)).heap.size (r.at TA5 tc5 OA5 oc5) := offR_row (ownsRow_below hT hal) (ownsRow_below hO hal)
        have hx := bthen hb3 hal
        clear hT hO hal hb3 cI c0 c1 c2 c3 c4
        go_upto_region 18 with fail
        generalize w3.alloc (.cells #[.slice TA5 r.t.length tc5, .slice OA5 r.o.length oc5, .int .i64 r.got, .int .i64 r.sold, .int .i64 r.missed] 25) = w4 at K5 R5 hx ⊢
        generalize w3.heap.size = g5 at K5 ⊢
        have K34 := K3.below hx K3.lt
        have c0 := K34.cell 0
        have c1 := K34.cell 1
        have c2 := K34.cell 2
        have c3 := K34.cell 3
        have c4 := K34.cell 4
        simp only [List.getElem?_cons_zero, List.getElem?_cons_succ] at c0 c1 c2 c3 c4
        go_wp2_with fail
        refine (cS w4 hx).mono ?_
        rintro e w5 ⟨v, rfl, ⟨TA7, tc7, OA7, oc7, rfl, hT, hO⟩, hb5⟩
        have hal := (Below.refl w5.heap.size w5).alloc (Nat.le_refl _) (.cells #[.slice TA7 r.t.length tc7, .slice OA7 r.o.length oc7, .int .i64 r.got, .int .i64 r.sold, .int .i64 r.missed] 25)
        have K7 := Lies.new w5 25 #[.slice TA7 r.t.length tc7, .slice OA7 r.o.length oc7, .int .i64 r.got, .int .i64 r.sold, .int .i64 r.missed]
        have R7 : OffR (w5.alloc (.cells #[.slice TA7 r.t.length tc7, .slice OA7 r.o.length oc7, .int .i64 r.got, .int .i64 r.sold, .int .i64 r.missed] 25)) (w5.alloc (.cells #[.slice TA7 r.t.length tc7, .slice OA7 r.o.length oc7, .int .i64 r.got, .int .i64 r.sold, .int .i64 r.missed] 25)).heap.size (r.at TA7 tc7 OA7 oc7) := offR_row (ownsRow_below hT hal) (ownsRow_below hO hal)
        have hx2 := bthen hb5 hal
        clear hT hO hal hb5 cS c0 c1 c2 c3 c4
        go_upto_region 19 with fail
        generalize w5.alloc (.cells #[.slice TA7 r.t.length tc7, .slice OA7 r.o.length oc7, .int .i64 r.got, .int .i64 r.sold, .int .i64 r.missed] 25) = w6 at K7 R7 hx2 ⊢
        generalize w5.heap.size = g7 at K7 ⊢
        have h26 := bthen hx hx2
        have B6 := bthen B2 h26
        have K56 := K5.below hx2 K5.lt
        have R56 := R5.then hx2
        have K36 := K34.below hx2 K34.lt
        have c0 := K56.cell 0
        have c1 := K56.cell 1
        have c2 := K56.cell 2
        have c3 := K56.cell 3
        have c4 := K56.cell 4
        simp only [List.getElem?_cons_zero, List.getElem?_cons_succ] at c0 c1 c2 c3 c4
        have d0 := K7.cell 0
        have d1 := K7.cell 1
        have d2 := K7.cell 2
        have d3 := K7.cell 3
        have d4 := K7.cell 4
        simp only [List.getElem?_cons_zero, List.getElem?_cons_succ] at d0 d1 d2 d3 d4
        go_wp2_with fail
        refine (vOwn R56 R7).mono ?_
        rintro e w7 ⟨rfl, hb7⟩
        have h27 := bthen h26 hb7
        have B7 := bthen B6 hb7
        have K57 := K56.below hb7 K56.lt
        have R57 := R56.then hb7
        have K37 := K36.below hb7 K36.lt
        have HT7 := Lib.hid (ownsRow_below HT2.out h27)
        have HO7 := Lib.hid (ownsRow_below HO2.out h27)
        have RS7 := SlcR.then RS h27
        have hw7 : w.heap.size ≤ w7.heap.size := B7.size
        clear c0 c1 c2 c3 c4 d0 d1 d2 d3 d4 hb7 B6 B2 K7 R7 K56 R56 K36 K5 R5 K3 K34 R3 RS hx hx2 h26 h27 hcap3 HT2 HO2
        cases b
        · go_wp2
          go_ret
          exact ⟨rfl, B7⟩
        · obtain ⟨hyg, hgo⟩ := runR_true HRR.out
          have HG0 := Lib.hid hyg
          have HGO := Lib.hid hgo
          clear hyg hgo HRR
          have c0 := K37.cell 0
          have c1 := K37.cell 1
          have c2 := K37.cell 2
          have c3 := K37.cell 3
          have c4 := K37.cell 4
          simp only [List.getElem?_cons_zero, List.getElem?_cons_succ] at c0 c1 c2 c3 c4
          have K8 := Lies.new w7 25 #[.slice TA3 y2.t.length tc3, .slice OA3 y2.o.length oc3, .int .i64 y2.got, .int .i64 y2.sold, .int .i64 y2.missed]
          have hal := (Below.refl w7.heap.size w7).alloc (Nat.le_refl _) (.cells #[.slice TA3 y2.t.length tc3, .slice OA3 y2.o.length oc3, .int .i64 y2.got, .int .i64 y2.sold, .int .i64 y2.missed] 25)
          have HI0 : Hid (OffIn (w7.alloc (.cells #[.slice TA3 y2.t.length tc3, .slice OA3 y2.o.length oc3, .int .i64 y2.got, .int .i64 y2.sold, .int .i64 y2.missed] 25)) w.heap.size w7.heap.size y2) := ⟨TA3, tc3, OA3, oc3, K8, hw7, ownsRow_below HT7.out hal, ownsRow_below HO7.out hal⟩
          clear K8 K37 HT7 HO7
          have hrdS := StpsR.el RS7
          have hl64 := RS7.big
          go_wp2_with fail
          go_loopw [24, 25, 26, 27] (fun cnt i _ _ wr => ∃ (k : Nat) (z : Oc) (q : Int), k ≤ l.length ∧ i = .int .i64 k ∧ cnt = .int .i64 q ∧ (0 ≤ q ∧ q ≤ k) ∧ Hid (z.good = true) ∧ Hid (OffIn wr w.heap.size w7.heap.size z) ∧ Below w7.heap.size w7 wr ∧ Hid (runGo z q (l.drop k) = (r, n))) (fun _ i _ _ _ => l.length - (intOf i).toNat)
          case atStart => exact ⟨0, y2, 0, Nat.zero_le _, rfl, rfl, by omega, HG0, HI0, hal, HGO⟩
          case round =>
            clear HI0 hal HGO HG0 c0 c1 c2 c3 c4
            obtain ⟨k, z, q, hk, rfl, rfl, ⟨q1, q2⟩, HG, HI, hbr, HR⟩ := hrel
            by_cases hlt : k < l.length
            · obtain ⟨bk, off, rfl, hbk, hcell⟩ := hrdS (by omega)
              obtain ⟨e0, e1, e2, e3⟩ := hcell k hlt
              have hN := runGo_none (y := z) (n := q) hlt
              have hS := fun rr => runGo_some (y := z) (n := q) (r := rr) hlt
              obtain ⟨s2, hse⟩ : ∃ s, s = l[k] := ⟨_, rfl⟩
              rw [← hse] at e0 e1 e2 e3 hN hS
              clear hse hcell hrdS
              obtain ⟨kd, st, pe, va⟩ := s2
              simp only at e0 e1 e2 e3
              have e0 : Hid (∀ W, Below wr.heap.size wr W → W.cell? ⟨bk, off + k * 4, none⟩ = some (.int .i64 kd)) := fun W hb => e0 ⟨W, hbr.trans (hb.mono hbr.size)⟩
              have e1 : Hid (∀ W, Below wr.heap.size wr W → W.cell? ⟨bk, off + k * 4 + 1, none⟩ = some (.int .i64 st)) := fun W hb => e1 ⟨W, hbr.trans (hb.mono hbr.size)⟩
              have e2 : Hid (∀ W, Below wr.heap.size wr W → W.cell? ⟨bk, off + k * 4 + 2, none⟩ = some (.int .i64 pe)) := fun W hb => e2 ⟨W, hbr.trans (hb.mono hbr.size)⟩
              have e3 : Hid (∀ W, Below wr.heap.size wr W → W.cell? ⟨bk, off + k * 4 + 3, none⟩ = some (.int .i64 va)) := fun W hb => e3 ⟨W, hbr.trans (hb.mono hbr.size)⟩
              obtain ⟨TA6, tc6, OA6, oc6, P6⟩ := HI.out
              have K6 := P6.lies
              have hz := tryD_next (s := ⟨kd, st, pe, va⟩) HG.out
              have hrg := resOf_good z ⟨kd, st, pe, va⟩
              have cS := fun W h => implStepY z ⟨kd, st, pe, va⟩ (v := .agg #[.slice TA6 z.t.length tc6, .slice OA6 z.o.length oc6, .int .i64 z.got, .int .i64 z.sold, .int .i64 z.missed]) W h
              rw [hz] at hrg
              simp only [hz] at cS
              obtain ⟨D, hD⟩ : ∃ D, nextD z ⟨kd, st, pe, va⟩ = D := ⟨_, rfl⟩
              rw [hD] at hrg
              simp only [hD] at cS
              obtain ⟨rr, hrr⟩ : ∃ rr, resOf D = rr := ⟨_, rfl⟩
              obtain ⟨bb, hbb⟩ : ∃ bb, D.isSome = bb := ⟨_, rfl⟩
              rw [hrr] at hrg
              simp only [hrr, hbb] at cS
              have HIn : Hid (∀ W, Below wr.heap.size wr W → InV W z (.agg #[.slice TA6 z.t.length tc6, .slice OA6 z.o.length oc6, .int .i64 z.got, .int .i64 z.sold, .int .i64 z.missed])) := fun W hb => ⟨z.at TA6 tc6 OA6 oc6, rfl, rfl, ⟨SlcR.then (ownsRow_reads P6.t) hb, SlcR.then (ownsRow_reads P6.o) hb⟩, ownsRow_cap P6.t⟩
              have hwr : w.heap.size ≤ wr.heap.size := Nat.le_trans hw7 hbr.size
              have HD := Lib.hid hD
              have HRRR := Lib.hid hrr
              have HBB := Lib.hid hbb
              have HGR := Lib.hid hrg
              have HC := Lib.hid cS
              have HN := Lib.hid hN
              have HS := Lib.hid hS
              clear hz hD hrr hbb hrg cS hN hS
              go_wp2_with fail
              refine wp_region_factsR (fun _ => (fun W9 => Below wr.heap.size wr W9)) (fun i w1 w2 => i ∉ [10] → Below w1.heap.size w1 w2) (by kernel_rfl) (by kernel_rfl) (by kernel_rfl) (Below.refl _ _).drew ?_
              simp only [fillOps, Act.put, List.setIfInBounds_toArray, List.set_cons_zero, List.set_cons_succ, Nat.zero_add, Nat.reduceAdd]
              apply wpFactsR_val
              case h1 =>
                intro vs L9 w9 hG9 hC9 hB K9 hK9
                have q0 : w9.cell? ⟨w7.heap.size, 0, none⟩ = some (.slice TA6 z.t.length tc6) := (K6.below hC9 K6.lt).cell 0
                have q1 : w9.cell? ⟨w7.heap.size, 1, none⟩ = some (.slice OA6 z.o.length oc6) := (K6.below hC9 K6.lt).cell 1
                have q2 : w9.cell? ⟨w7.heap.size, 2, none⟩ = some (.int .i64 z.got) := (K6.below hC9 K6.lt).cell 2
                have q3 : w9.cell? ⟨w7.heap.size, 3, none⟩ = some (.int .i64 z.sold) := (K6.below hC9 K6.lt).cell 3
                have q4 : w9.cell? ⟨w7.heap.size, 4, none⟩ = some (.int .i64 z.missed) := (K6.below hC9 K6.lt).cell 4
                simp only [Act.put, List.setIfInBounds_toArray, List.set_cons_zero, List.set_cons_succ] at hK9
                go_simp
                exact hK9 _ _ rfl hC9 (fun _ => Below.refl _ _)
              apply wpFactsR_val
              case h1 =>
                intro vs L9 w9 hG9 hC9 hB K9 hK9
                simp only [Act.put, List.setIfInBounds_toArray, List.set_cons_zero, List.set_cons_succ] at hK9
                go_simp
                exact hK9 _ _ rfl hC9 (fun _ => Below.refl _ _)
              apply wpFactsR_val
              case h1 =>
                intro vs L9 w9 hG9 hC9 hB K9 hK9
                simp only [Act.put, List.setIfInBounds_toArray, List.set_cons_zero, List.set_cons_succ] at hK9
                go_simp
                exact hK9 _ _ rfl hC9 (fun _ => Below.refl _ _)
              apply wpFactsR_val
              case h1 =>
                intro vs L9 w9 hG9 hC9 hB K9 hK9
                have d1 := FactN.eq (hB 1 _ (by kernel_rfl) (by kernel_rfl) rfl (by decide))
                have d2 := FactN.eq (hB 2 _ (by kernel_rfl) (by kernel_rfl) rfl (by decide))
                simp only [d1, d2] at hK9 ⊢
                simp only [Act.put, List.setIfInBounds_toArray, List.set_cons_zero, List.set_cons_succ] at hK9
                go_simp
                exact hK9 _ _ rfl hC9 (fun _ => Below.refl _ _)
              refine wpFactsR_val (.agg #[.int .i64 kd, .int .i64 st, .int .i64 pe, .int .i64 va]) (fun vs L9 w9 hG9 hC9 hB K9 hK9 => ?_) ?_
              next =>
                have d3 := FactN.eq (hB 3 _ (by kernel_rfl) (by kernel_rfl) rfl (by decide))
                simp only [d3] at hK9 ⊢
                have v0 := e0.out w9 hC9
                have v1 := e1.out w9 hC9
                have v2 := e2.out w9 hC9
                have v3 := e3.out w9 hC9
                go_simp
                exact hK9 _ _ rfl hC9 (fun _ => Below.refl _ _)
              refine wpFactsR_some [10] (fun v w9 => ∃ u, v = .tuple #[u, .bool bb] ∧ OwnV w9 w.heap.size rr u) ?_ (fun vs L9 w9 hG9 hC9 hB K9 hK9 => ?_) ?_
              next =>
                intro i9 hi9 hb9 ha9 v w1 w2 hv hT9
                have hb := hT9 (fun hm => by
                  simp only [List.mem_cons, List.not_mem_nil, or_false] at hm hb9
                  subst hm
                  · exact hb9 (by simp))
                obtain ⟨u, q1, q2⟩ := hv
                exact ⟨u, q1, q2.below hb⟩
              next =>
                have d0 := FactN.eq (hB 0 _ (by kernel_rfl) (by kernel_rfl) rfl (by decide))
                have d4 := FactN.eq (hB 4 _ (by kernel_rfl) (by kernel_rfl) rfl (by decide))
                simp only [d0, d4] at hK9 ⊢
                simp only [Act.put, List.setIfInBounds_toArray, List.set_cons_zero, List.set_cons_succ] at hK9
                go_simp
                refine (HC.out w9 (HIn.out w9 hC9)).mono ?_
                rintro en w8 ⟨v8, rfl, hv8, hb8⟩
                exact hK9 _ _ _ rfl ⟨_, rfl, hv8.lower (Nat.le_trans hwr hC9.size)⟩ (hC9.trans (hb8.mono hC9.size)) (fun _ => hb8)
              refine wpFactsR_pair [] 5 (fun u v _ => v = u ∧ ∃ q, u = .tuple #[q, .bool bb]) (by kernel_rfl) ?_ (fun vs L9 w9 hG9 hC9 hB K9 hK9 => ?_) ?_
              next =>
                intro i9 hi9 hb9 ha9 u v w1 w2 hv hT9
                exact hv
              next =>
                obtain ⟨u5, e5, h5⟩ := hB 5 _ (by kernel_rfl) (by kernel_rfl) rfl (by decide)
                simp only [e5] at hK9 ⊢
                go_simp
                exact hK9 _ _ _ rfl ⟨rfl, u5, rfl⟩ hC9 (fun _ => Below.refl _ _)
              refine wpFactsR_some [10] (fun v w9 => OwnV w9 w.heap.size rr v) ?_ (fun vs L9 w9 hG9 hC9 hB K9 hK9 => ?_) ?_
              next =>
                intro i9 hi9 hb9 ha9 v w1 w2 hv hT9
                have hb := hT9 (fun hm => by
                  simp only [List.mem_cons, List.not_mem_nil, or_false] at hm hb9
                  subst hm
                  · exact hb9 (by simp))
                exact hv.below hb
              next =>
                simp only [Act.put, List.setIfInBounds_toArray, List.set_cons_zero, List.set_cons_succ] at hK9
                obtain ⟨q5, _⟩ := hB 6 _ (by kernel_rfl) (by kernel_rfl) rfl (by decide)
                obtain ⟨u4, e4, h4⟩ := hB 5 _ (by kernel_rfl) (by kernel_rfl) rfl (by decide)
                simp only [q5, e4] at hK9 ⊢
                go_simp
                exact hK9 _ _ _ rfl h4 hC9 (fun _ => Below.refl _ _)
              refine wpFactsR_val (.bool bb) (fun vs L9 w9 hG9 hC9 hB K9 hK9 => ?_) ?_
              next =>
                obtain ⟨q5, u4, e4⟩ := hB 6 _ (by kernel_rfl) (by kernel_rfl) rfl (by decide)
                simp only [q5, e4] at hK9 ⊢
                go_simp
                exact hK9 _ _ rfl hC9 (fun _ => Below.refl _ _)
              refine wpFactsR_some [10] (fun v w9 => ∃ g9, v = .pointer (some ⟨g9, 0, none⟩) ∧ wr.heap.size ≤ g9 ∧ Lies w9 g9 25 [.slice none 0 0, .slice none 0 0, .int .i64 0, .int .i64 0, .int .i64 0]) ?_ (fun vs L9 w9 hG9 hC9 hB K9 hK9 => ?_) ?_
              next =>
                intro i9 hi9 hb9 ha9 v w1 w2 hv hT9
                have hb := hT9 (fun hm => by
                  simp only [List.mem_cons, List.not_mem_nil, or_false] at hm hb9
                  subst hm
                  · exact hb9 (by simp))
                obtain ⟨g9, q1, q2, q3⟩ := hv
                exact ⟨g9, q1, q2, q3.below hb q3.lt⟩
              next =>
                simp only [Act.put, List.setIfInBounds_toArray, List.set_cons_zero, List.set_cons_succ] at hK9
                go_simp
                have hb8 := (Below.refl w9.heap.size w9).alloc (Nat.le_refl _) (.cells #[.slice none 0 0, .slice none 0 0, .int .i64 0, .int .i64 0, .int .i64 0] 25)
                exact hK9 _ _ _ rfl ⟨_, rfl, hC9.size, Lies.new w9 25 #[.slice none 0 0, .slice none 0 0, .int .i64 0, .int .i64 0, .int .i64 0]⟩ (hC9.trans (hb8.mono hC9.size)) (fun _ => hb8)
              refine wpFactsR_pair [] 9 (fun u _ w9 => ∃ g9, u = .pointer (some ⟨g9, 0, none⟩) ∧ wr.heap.size ≤ g9 ∧ OffIn w9 w.heap.size g9 rr) (by kernel_rfl) ?_ (fun vs L9 w9 hG9 hC9 hB K9 hK9 => ?_) ?_
              next =>
                intro i9 hi9 hb9 ha9 u v w1 w2 hv hT9
                have hb := hT9 (fun hm => by
                  simp only [List.mem_cons, List.not_mem_nil, or_false] at hm hb9
                  subst hm
                  · exact hi9 rfl)
                obtain ⟨g9, q1, q2, q3⟩ := hv
                exact ⟨g9, q1, q2, q3.then hb⟩
              next =>
                obtain ⟨g9, hv9, hg9, hA9⟩ := hB 9 _ (by kernel_rfl) (by kernel_rfl) rfl (by decide)
                obtain ⟨TA, tc, OA, oc, e15, h1, h2⟩ := hB 7 _ (by kernel_rfl) (by kernel_rfl) rfl (by decide)
                simp only [hv9, e15] at hK9 ⊢
                have z0 := hA9.cell 0
                have z1 := hA9.cell 1
                have z2 := hA9.cell 2
                have z3 := hA9.cell 3
                have z4 := hA9.cell 4
                simp only [List.getElem?_cons_zero, List.getElem?_cons_succ] at z0 z1 z2 z3 z4
                have f0 := hA9.frozen 0
                have f1 := hA9.frozen 1
                have f2 := hA9.frozen 2
                have f3 := hA9.frozen 3
                have f4 := hA9.frozen 4
                have hS9 := Lib.hid (OwnV.store h1 h2 hA9 (Nat.le_trans hwr hg9))
                have hD9 := Lib.hid (hC9.trans (stOff_below (v0 := .slice TA rr.t.length tc) (v1 := .slice OA rr.o.length oc) (v2 := .int .i64 rr.got) (v3 := .int .i64 rr.sold) (v4 := .int .i64 rr.missed) hA9 hg9))
                clear h1 h2 hA9
                go_simp
                exact hK9 _ undef _ rfl ⟨g9, rfl, hg9, hS9.out⟩ hD9.out (fun hq => (hq (by decide)).elim)
              apply wpFactsR_val
              case h1 =>
                intro vs L9 w9 hG9 hC9 hB K9 hK9
                have d8 := FactN.eq (hB 8 _ (by kernel_rfl) (by kernel_rfl) rfl (by decide))
                simp only [d8] at hK9 ⊢
                simp only [Act.put, List.setIfInBounds_toArray, List.set_cons_zero, List.set_cons_succ] at hK9
                go_simp
                exact hK9 _ _ rfl hC9 (fun _ => Below.refl _ _)
              refine wpFactsR_nil fun vs Lq W9 hL9 hC7 hB => ?_
              obtain ⟨g6, hvg, hg6, P9⟩ := hB 10 _ rfl rfl (by decide)
              have dl := FactN.eq (hB 11 _ rfl rfl (by decide))
              simp only [hvg, dl]
              clear hB hL9 hvg dl
              have P69 := P6.then hC7
              have b9 := hbr.trans (hC7.mono hbr.size)
              clear hC7 e0 e1 e2 e3 HIn HC P6 K6
              cases bb
              · have hDn : D = none := by have h1 := HBB.out; cases D with | none => rfl | some a => simp at h1
                have HE : Hid (runGo z q (l.drop (k + 1)) = (r, n)) := by rw [← HN.out (by rw [HD.out, hDn])]; exact HR.out
                have HI7 := Lib.hid (show OffIn _ _ _ _ from ⟨TA6, tc6, OA6, oc6, P69⟩)
                clear hDn HN HS HR HD HBB HRRR HGR P69 P9 HI
                go_wp2
                go_roundw
                case rel => exact ⟨k + 1, z, q, by omega, by go_num, rfl, by omega, HG, HI7, b9, HE⟩
                case measure => simp [intOf]; omega
              · have hDs : D = some rr := by
                  have h1 := HBB.out
                  have h2 := HRRR.out
                  cases D with
                  | none => simp at h1
                  | some a => simp [resOf] at h2; rw [h2]
                have HE : Hid (runGo rr (q + 1) (l.drop (k + 1)) = (r, n)) := by rw [← HS.out rr (by rw [HD.out, hDs])]; exact HR.out
                have hw1 : IntKind.i64.wrap (q + 1) = q + 1 := IntWalk.i64_in _ (by omega)
                obtain ⟨TA, tc, OA, oc, P9⟩ := P9
                have K9 := P9.lies
                have K6 := P69.lies
                have p0 := K9.cell 0
                have p1 := K9.cell 1
                have p2 := K9.cell 2
                have p3 := K9.cell 3
                have p4 := K9.cell 4
                simp only [List.getElem?_cons_zero, List.getElem?_cons_succ] at p0 p1 p2 p3 p4
                have u0 := K6.cell 0
                have u1 := K6.cell 1
                have u2 := K6.cell 2
                have u3 := K6.cell 3
                have u4 := K6.cell 4
                simp only [List.getElem?_cons_zero, List.getElem?_cons_succ] at u0 u1 u2 u3 u4
                have f0 := K6.frozen 0
                have f1 := K6.frozen 1
                have f2 := K6.frozen 2
                have f3 := K6.frozen 3
                have f4 := K6.frozen 4
                have HI8 := Lib.hid (OwnV.store P9.t P9.o K6 hw7)
                have HB8 := Lib.hid (b9.trans (stOff_below (v0 := .slice TA rr.t.length tc) (v1 := .slice OA rr.o.length oc) (v2 := .int .i64 rr.got) (v3 := .int .i64 rr.sold) (v4 := .int .i64 rr.missed) K6 (Nat.le_refl _)))
                clear hDs HN HS HR HD HBB HRRR P69 P9 HI HG K9 K6
                go_wp2
                go_roundw
                case rel => exact ⟨k + 1, rr, q + 1, by omega, by go_num, rfl, by omega, HGR, HI8, HB8.out, HE⟩
                case measure => simp [intOf]; omega
            · have HE : Hid (z = r ∧ q = n) := by
                have h1 := HR.out
                rw [List.drop_eq_nil_of_le (by omega)] at h1
                injection h1 with h2 h3
                exact ⟨h2, h3⟩
              obtain ⟨TA6, tc6, OA6, oc6, P6⟩ := HI.out
              have K6 := P6.lies
              have K59 := K57.below hbr K57.lt
              have R59 := (R57.below hbr).mono hbr.size
              have R69 : OffR wr wr.heap.size (z.at TA6 tc6 OA6 oc6) := ⟨ownsRow_reads P6.t, ownsRow_reads P6.o⟩
              obtain ⟨rfl, rfl⟩ := HE.out
              have c0 := K6.cell 0
              have c1 := K6.cell 1
              have c2 := K6.cell 2
              have c3 := K6.cell 3
              have c4 := K6.cell 4
              simp only [List.getElem?_cons_zero, List.getElem?_cons_succ] at c0 c1 c2 c3 c4
              have d0 := K59.cell 0
              have d1 := K59.cell 1
              have d2 := K59.cell 2
              have d3 := K59.cell 3
              have d4 := K59.cell 4
              simp only [List.getElem?_cons_zero, List.getElem?_cons_succ] at d0 d1 d2 d3 d4
              clear P6 hrdS HR HE
              go_wp2_with fail
              refine (vOwn R69 R59).mono ?_
              rintro e w9 ⟨rfl, hb9⟩
              go_wp2
              go_ret
              exact ⟨rfl, B7.trans ((hbr.trans (hb9.mono hbr.size)).mono hw7)⟩
end Go.Proofs.Ytdiojhjkcholiaa
