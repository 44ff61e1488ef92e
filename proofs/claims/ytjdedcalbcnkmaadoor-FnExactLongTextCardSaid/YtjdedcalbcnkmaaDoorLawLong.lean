/- The law FnExactLongText: the walk. -/
import Derived.Test.YtjdedcalbcnkmaaDoorLong
import Derived.Test.YtjdedcalbcnkmaaDoorLongI
import Derived.Deep.RegionHeld3
namespace Go.Proofs.YtjdedcalbcnkmaaDoor
open Go.RowKit

theorem lies_ints {W : World} {g : Nat} {t : TypeId} {l : List Int} (h : Lies W g t (encIs l)) (hn : l.length ≤ 9223372036854775807) : IntsR W W.heap.size (some ⟨g, 0, none⟩) l :=
  Lies.reads h (encIs_len l) hn

set_option maxRecDepth 100000 in
set_option maxHeartbeats 2000000 in
theorem lawLongText_any (x : Ph) (w : World) (h : IntsR w w.heap.size x.A x.f) (ht : Tab w) :
    Calls Tryd.prog 4 #[x.val] w fun e w' => e = .returned (.bool true) ∧ Below w.heap.size w w' := by
  have hl := h.big
  have b0 := (Below.refl w.heap.size w).alloc (Nat.le_refl _) (.cells #[.int .i64 x.s, .int .i64 x.c, .slice x.A x.f.length x.cap, .int .i64 x.p] 24)
  have L0 := Lies.new w 24 #[.int .i64 x.s, .int .i64 x.c, .slice x.A x.f.length x.cap, .int .i64 x.p]
  have hnn : (x.ok != x.ok) = false := by simp
  by_cases hbig : (x.f.length : Int) ≤ 1048576
  · have HS : lessen 1048576 x.f.length = 1048576 - x.f.length := by unfold lessen; rw [if_pos (by omega)]
    have HZ := Lib.hid HS; clear HS
    go_enter Tryd.func4, Tryd.ntmps4
    go_wp2_with fail
    generalize w.alloc (.cells #[.int .i64 x.s, .int .i64 x.c, .slice x.A x.f.length x.cap, .int .i64 x.p] 24) = W at b0 L0 ⊢
    have hW := SlcR.up h b0 (Nat.le_refl _)
    refine (szPhrase_any x _ _ hl (by omega) (by omega)).mono ?_
    rintro e w1 ⟨rfl, hb1⟩
    rw [HZ.out]
    have k0 := (L0.below hb1 L0.lt).cell 0
    have k1 := (L0.below hb1 L0.lt).cell 1
    have k2 := (L0.below hb1 L0.lt).cell 2
    have k3 := (L0.below hb1 L0.lt).cell 3
    simp only [List.getElem?_cons_zero, List.getElem?_cons_succ] at k0 k1 k2 k3
    go_wp2_with fail
    refine (toPhrase_any x _ (hW.then hb1) (by omega)).mono ?_
    rintro e w2 ⟨g2, rfl, hg2, hl2, hb2⟩
    have c2 := bthen hb1 hb2
    go_wp2_with fail
    refine (specLongText_any _ _ (lies_ints hl2 hl)).mono ?_
    rintro e w3 ⟨rfl, hb3⟩
    have c3 := bthen c2 hb3
    clear k0 k1 k2 k3
    have k0 := (L0.below c3 L0.lt).cell 0
    have k1 := (L0.below c3 L0.lt).cell 1
    have k2 := (L0.below c3 L0.lt).cell 2
    have k3 := (L0.below c3 L0.lt).cell 3
    simp only [List.getElem?_cons_zero, List.getElem?_cons_succ] at k0 k1 k2 k3
    go_wp2_with fail
    refine (toPhrase_any x _ (hW.then c3) (by omega)).mono ?_
    rintro e w4 ⟨g4, rfl, hg4, hl4, hb4⟩
    have c4 := bthen c3 hb4
    have L5 := Lies.new w4 28 #[.int .i64 x.s, .int .i64 x.c, .slice (some ⟨g4, 0, none⟩) x.f.length x.f.length, .int .i64 x.p]
    have hl5 := hl4.alloc (.cells #[.int .i64 x.s, .int .i64 x.c, .slice (some ⟨g4, 0, none⟩) x.f.length x.f.length, .int .i64 x.p] 28)
    have c5 := c4.alloc c4.size (.cells #[.int .i64 x.s, .int .i64 x.c, .slice (some ⟨g4, 0, none⟩) x.f.length x.f.length, .int .i64 x.p] 28)
    go_wp2_with fail
    generalize w4.alloc (.cells #[.int .i64 x.s, .int .i64 x.c, .slice (some ⟨g4, 0, none⟩) x.f.length x.f.length, .int .i64 x.p] 28) = w5 at L5 hl5 c5 ⊢
    generalize w4.heap.size = g5 at L5 ⊢
    refine (implLongText_any { x with A := some ⟨g4, 0, none⟩, cap := x.f.length } _ (lies_ints hl5 hl) ((ht.then b0).then c5)).mono ?_
    rintro e w6 ⟨rfl, hb6⟩
    have c6 := bthen c5 hb6
    clear k0 k1 k2 k3
    have k0 := (L0.below c6 L0.lt).cell 0
    have k1 := (L0.below c6 L0.lt).cell 1
    have k2 := (L0.below c6 L0.lt).cell 2
    have k3 := (L0.below c6 L0.lt).cell 3
    have m0 := (L5.below hb6 L5.lt).cell 0
    have m1 := (L5.below hb6 L5.lt).cell 1
    have m2 := (L5.below hb6 L5.lt).cell 2
    have m3 := (L5.below hb6 L5.lt).cell 3
    simp only [List.getElem?_cons_zero, List.getElem?_cons_succ] at k0 k1 k2 k3 m0 m1 m2 m3
    have hok : Ph.ok { x with A := some ⟨g2, 0, none⟩, cap := x.f.length } = x.ok := rfl
    have hok' : Ph.ok { x with A := some ⟨g4, 0, none⟩, cap := x.f.length } = x.ok := rfl
    have hst : longT { x with A := some ⟨g2, 0, none⟩, cap := x.f.length } = longT x := rfl
    have hst' : longT { x with A := some ⟨g4, 0, none⟩, cap := x.f.length } = longT x := rfl
    rw [hok', hst']
    rw [hok, hst]
    generalize okT x.ok (longT x) = TT
    go_wp2_with fail
    have hs2 : ∀ g8 : Nat, Ph.same { x with A := some ⟨g4, 0, none⟩, cap := x.f.length } { x with A := some ⟨g8, 0, none⟩, cap := x.f.length } = true := fun g8 => by simp [Ph.same, sameInts]
    have HK : ∀ W', Below w6.heap.size w6 W' → (Below w6.heap.size w6 W' ∧ W'.cell? ⟨w.heap.size, 0, none⟩ = some (.int .i64 x.s) ∧ W'.cell? ⟨w.heap.size, 1, none⟩ = some (.int .i64 x.c) ∧ W'.cell? ⟨w.heap.size, 2, none⟩ = some (.slice x.A x.f.length x.cap) ∧ W'.cell? ⟨w.heap.size, 3, none⟩ = some (.int .i64 x.p) ∧ W'.cell? ⟨g5, 0, none⟩ = some (.int .i64 x.s) ∧ W'.cell? ⟨g5, 1, none⟩ = some (.int .i64 x.c) ∧ W'.cell? ⟨g5, 2, none⟩ = some (.slice (some ⟨g4, 0, none⟩) x.f.length x.f.length) ∧ W'.cell? ⟨g5, 3, none⟩ = some (.int .i64 x.p)) := fun W' hb =>
      ⟨hb, (hb.cell (L0.below c6 L0.lt).lt).trans k0, (hb.cell (L0.below c6 L0.lt).lt).trans k1, (hb.cell (L0.below c6 L0.lt).lt).trans k2, (hb.cell (L0.below c6 L0.lt).lt).trans k3, (hb.cell (L5.below hb6 L5.lt).lt).trans m0, (hb.cell (L5.below hb6 L5.lt).lt).trans m1, (hb.cell (L5.below hb6 L5.lt).lt).trans m2, (hb.cell (L5.below hb6 L5.lt).lt).trans m3⟩
    go_region_held3 (fun W' => Below w6.heap.size w6 W' ∧ W'.cell? ⟨w.heap.size, 0, none⟩ = some (.int .i64 x.s) ∧ W'.cell? ⟨w.heap.size, 1, none⟩ = some (.int .i64 x.c) ∧ W'.cell? ⟨w.heap.size, 2, none⟩ = some (.slice x.A x.f.length x.cap) ∧ W'.cell? ⟨w.heap.size, 3, none⟩ = some (.int .i64 x.p) ∧ W'.cell? ⟨g5, 0, none⟩ = some (.int .i64 x.s) ∧ W'.cell? ⟨g5, 1, none⟩ = some (.int .i64 x.c) ∧ W'.cell? ⟨g5, 2, none⟩ = some (.slice (some ⟨g4, 0, none⟩) x.f.length x.f.length) ∧ W'.cell? ⟨g5, 3, none⟩ = some (.int .i64 x.p)) (first | exact HK _ (Below.refl _ _).drew | (exact HK _ (by assumption))) (first | (go_at_call 10; refine (toPhrase_any x _ (hW.then c6.drew) (by omega)).mono ?_; rintro e w8 ⟨g8, rfl, hg8, hl8, hb8⟩; have hB8 : Below w6.heap.size w6 w8 := ((Below.refl w6.heap.size w6).drew).trans hb8) | (go_at_call 12; refine (eqPhrase_any { x with A := some ⟨g4, 0, none⟩, cap := x.f.length } { x with A := some ⟨g8, 0, none⟩, cap := x.f.length } _ (lies_ints ((hl5.below hb6 hl5.lt).below hB8 (Nat.lt_of_lt_of_le hl5.lt hb6.size)) hl) (lies_ints hl8 hl)).mono ?_; rw [hs2]; rintro e w9 ⟨rfl, hb9⟩; have hB9 : Below w6.heap.size w6 w9 := bthen hB8 hb9))
    all_goals
      go_wp2
      go_ret
      exact ⟨rfl, bthen b0 (bthen c6 (by assumption))⟩
  · have HS : lessen 1048576 x.f.length = -1 := by unfold lessen; rw [if_neg (by omega)]
    have HZ := Lib.hid HS; clear HS
    go_enter Tryd.func4, Tryd.ntmps4
    go_wp2_with fail
    refine (szPhrase_any x _ _ hl (by omega) (by omega)).mono ?_
    rintro e w1 ⟨rfl, hb1⟩
    rw [HZ.out]
    go_wp2
    go_ret
    exact ⟨rfl, bthen b0 hb1⟩
end Go.Proofs.YtjdedcalbcnkmaaDoor
