/- The law FnExactIsValidConsole: the walk. (Printed by gen_con.py) -/
import Derived.Test.YtojceibamgodbaaDoorConTo
import Derived.Deep.RegionHeld3
namespace Go.Proofs.YtojceibamgodbaaDoor
open Go.RowKit

set_option maxRecDepth 100000 in
set_option maxHeartbeats 4000000 in
theorem lawIsConsole_any (x : Off) (l : Lg) (w : World) (h : OffR w w.heap.size x) (h1 : l.D.size ≤ 9223372036854775807) (h2 : l.P.size ≤ 9223372036854775807) (ht : Tab w) :
    Calls Tryd.prog 3 #[conVal x l] w fun e w' => e = .returned (.bool true) ∧ Below w.heap.size w w' := by
  have hl1 := h.ts.big
  have hl2 := h.os.big
  have b0 := (Below.refl w.heap.size w).alloc (Nat.le_refl _) (.cells #[.slice x.TA x.t.length x.tc, .slice x.OA x.o.length x.oc, .int .i64 x.got, .int .i64 x.sold, .int .i64 x.missed, .string l.D, .string l.P, .int .i64 l.n] 29)
  have L0 := Lies.new w 29 #[.slice x.TA x.t.length x.tc, .slice x.OA x.o.length x.oc, .int .i64 x.got, .int .i64 x.sold, .int .i64 x.missed, .string l.D, .string l.P, .int .i64 l.n]
  have ht0 := ht.then b0
  obtain ⟨z, hz⟩ : ∃ z, z = lessR (lessen 1048576 (x.t.length + x.o.length)) l.need := ⟨_, rfl⟩
  have HZ : Hid (lessR (lessen 1048576 (x.t.length + x.o.length)) l.need = z) := hz.symm
  by_cases hbig : ((x.t.length + x.o.length : Nat) : Int) ≤ 1048576 ∧ (l.need : Int) ≤ 1048576 - ((x.t.length + x.o.length : Nat) : Int)
  · obtain ⟨hb1', hb2'⟩ := hbig
    have hz0 : 0 ≤ z := by rw [hz]; unfold lessR lessen; rw [if_pos hb1', if_pos hb2']; omega
    have hn : x.t.length ≤ 1048576 := by omega
    have hm : x.o.length ≤ 1048576 := by omega
    have hs : l.D.size + l.P.size ≤ 2000000 := by unfold Lg.need at hb2'; omega
    have hzn : decide (z < 0) = false := decide_eq_false (by omega)
    clear hz hb2' hb1'
    obtain ⟨ok, hok⟩ : ∃ ok, conOk x l = ok := ⟨_, rfl⟩
    have hnn : (ok != ok) = false := by simp
    have cS : ∀ g1 g2 W, OffR W W.heap.size (x.copy g1 g2) → Calls Tryd.prog 8 #[conVal (x.copy g1 g2) l] W fun e w' => e = .returned (.bool ok) ∧ Below W.heap.size W w' := fun g1 g2 W h => by rw [← hok]; exact specIsConsole_any (x.copy g1 g2) l W h hs
    have cI : ∀ g1 g2 W, OffR W W.heap.size (x.copy g1 g2) → Tab W → Calls Tryd.prog 10 #[conVal (x.copy g1 g2) l] W fun e w' => e = .returned (.bool ok) ∧ Below W.heap.size W w' := fun g1 g2 W h ht => by rw [← hok]; exact implIsConsole_any (x.copy g1 g2) l W h hs ht
    clear hok
    go_enter Tryd.func3, Tryd.ntmps3
    go_wp2_with fail
    generalize w.alloc (.cells #[.slice x.TA x.t.length x.tc, .slice x.OA x.o.length x.oc, .int .i64 x.got, .int .i64 x.sold, .int .i64 x.missed, .string l.D, .string l.P, .int .i64 l.n] 29) = W at b0 L0 ht0 ⊢
    have hW := h.up b0 (Nat.le_refl _)
    refine (szConsole_any x l _ _ hl1 hl2 h1 h2 (by omega) (by omega)).mono ?_
    rintro e w1 ⟨rfl, hb1⟩
    rw [HZ.out]
    have k0 := (L0.below hb1 L0.lt).cell 0
    have k1 := (L0.below hb1 L0.lt).cell 1
    have k2 := (L0.below hb1 L0.lt).cell 2
    have k3 := (L0.below hb1 L0.lt).cell 3
    have k4 := (L0.below hb1 L0.lt).cell 4
    have k5 := (L0.below hb1 L0.lt).cell 5
    have k6 := (L0.below hb1 L0.lt).cell 6
    have k7 := (L0.below hb1 L0.lt).cell 7
    simp only [List.getElem?_cons_zero, List.getElem?_cons_succ] at k0 k1 k2 k3 k4 k5 k6 k7
    go_wp2_with fail
    refine (toConsole_any x l _ (hW.then hb1) hn hm).mono ?_
    rintro e w2 ⟨g21, g22, rfl, hg21, hg22, hl21, hl22, hb2⟩
    have c2 := bthen hb1 hb2
    go_wp2_with fail
    refine (cS g21 g22 _ (copy_reads hl21 hl22 hn hm)).mono ?_
    rintro e w3 ⟨rfl, hb3⟩
    have c3 := bthen c2 hb3
    clear k0 k1 k2 k3 k4 k5 k6 k7
    have k0 := (L0.below c3 L0.lt).cell 0
    have k1 := (L0.below c3 L0.lt).cell 1
    have k2 := (L0.below c3 L0.lt).cell 2
    have k3 := (L0.below c3 L0.lt).cell 3
    have k4 := (L0.below c3 L0.lt).cell 4
    have k5 := (L0.below c3 L0.lt).cell 5
    have k6 := (L0.below c3 L0.lt).cell 6
    have k7 := (L0.below c3 L0.lt).cell 7
    simp only [List.getElem?_cons_zero, List.getElem?_cons_succ] at k0 k1 k2 k3 k4 k5 k6 k7
    go_wp2_with fail
    refine (toConsole_any x l _ (hW.then c3) hn hm).mono ?_
    rintro e w4 ⟨g41, g42, rfl, hg41, hg42, hl41, hl42, hb4⟩
    have c4 := bthen c3 hb4
    have L5 := Lies.new w4 38 #[.slice (some ⟨g41, 0, none⟩) x.t.length x.t.length, .slice (some ⟨g42, 0, none⟩) x.o.length x.o.length, .int .i64 x.got, .int .i64 x.sold, .int .i64 x.missed, .string l.D, .string l.P, .int .i64 l.n]
    have hl51 := hl41.alloc (.cells #[.slice (some ⟨g41, 0, none⟩) x.t.length x.t.length, .slice (some ⟨g42, 0, none⟩) x.o.length x.o.length, .int .i64 x.got, .int .i64 x.sold, .int .i64 x.missed, .string l.D, .string l.P, .int .i64 l.n] 38)
    have hl52 := hl42.alloc (.cells #[.slice (some ⟨g41, 0, none⟩) x.t.length x.t.length, .slice (some ⟨g42, 0, none⟩) x.o.length x.o.length, .int .i64 x.got, .int .i64 x.sold, .int .i64 x.missed, .string l.D, .string l.P, .int .i64 l.n] 38)
    have c5 := c4.alloc c4.size (.cells #[.slice (some ⟨g41, 0, none⟩) x.t.length x.t.length, .slice (some ⟨g42, 0, none⟩) x.o.length x.o.length, .int .i64 x.got, .int .i64 x.sold, .int .i64 x.missed, .string l.D, .string l.P, .int .i64 l.n] 38)
    go_wp2_with fail
    generalize w4.alloc (.cells #[.slice (some ⟨g41, 0, none⟩) x.t.length x.t.length, .slice (some ⟨g42, 0, none⟩) x.o.length x.o.length, .int .i64 x.got, .int .i64 x.sold, .int .i64 x.missed, .string l.D, .string l.P, .int .i64 l.n] 38) = w5 at L5 hl51 hl52 c5 ⊢
    generalize w4.heap.size = g5 at L5 ⊢
    refine (cI g41 g42 _ (copy_reads hl51 hl52 hn hm) (ht0.then c5)).mono ?_
    rintro e w6 ⟨rfl, hb6⟩
    have c6 := bthen c5 hb6
    clear k0 k1 k2 k3 k4 k5 k6 k7
    have k0 := (L0.below c6 L0.lt).cell 0
    have k1 := (L0.below c6 L0.lt).cell 1
    have k2 := (L0.below c6 L0.lt).cell 2
    have k3 := (L0.below c6 L0.lt).cell 3
    have k4 := (L0.below c6 L0.lt).cell 4
    have k5 := (L0.below c6 L0.lt).cell 5
    have k6 := (L0.below c6 L0.lt).cell 6
    have k7 := (L0.below c6 L0.lt).cell 7
    simp only [List.getElem?_cons_zero, List.getElem?_cons_succ] at k0 k1 k2 k3 k4 k5 k6 k7
    have m0 := (L5.below hb6 L5.lt).cell 0
    have m1 := (L5.below hb6 L5.lt).cell 1
    have m2 := (L5.below hb6 L5.lt).cell 2
    have m3 := (L5.below hb6 L5.lt).cell 3
    have m4 := (L5.below hb6 L5.lt).cell 4
    have m5 := (L5.below hb6 L5.lt).cell 5
    have m6 := (L5.below hb6 L5.lt).cell 6
    have m7 := (L5.below hb6 L5.lt).cell 7
    simp only [List.getElem?_cons_zero, List.getElem?_cons_succ] at m0 m1 m2 m3 m4 m5 m6 m7
    go_wp2_with fail
    have HK : ∀ W', Below w6.heap.size w6 W' → (Below w6.heap.size w6 W' ∧ W'.cell? ⟨w.heap.size, 0, none⟩ = some (.slice x.TA x.t.length x.tc) ∧ W'.cell? ⟨w.heap.size, 1, none⟩ = some (.slice x.OA x.o.length x.oc) ∧ W'.cell? ⟨w.heap.size, 2, none⟩ = some (.int .i64 x.got) ∧ W'.cell? ⟨w.heap.size, 3, none⟩ = some (.int .i64 x.sold) ∧ W'.cell? ⟨w.heap.size, 4, none⟩ = some (.int .i64 x.missed) ∧ W'.cell? ⟨w.heap.size, 5, none⟩ = some (.string l.D) ∧ W'.cell? ⟨w.heap.size, 6, none⟩ = some (.string l.P) ∧ W'.cell? ⟨w.heap.size, 7, none⟩ = some (.int .i64 l.n) ∧ W'.cell? ⟨g5, 0, none⟩ = some (.slice (some ⟨g41, 0, none⟩) x.t.length x.t.length) ∧ W'.cell? ⟨g5, 1, none⟩ = some (.slice (some ⟨g42, 0, none⟩) x.o.length x.o.length) ∧ W'.cell? ⟨g5, 2, none⟩ = some (.int .i64 x.got) ∧ W'.cell? ⟨g5, 3, none⟩ = some (.int .i64 x.sold) ∧ W'.cell? ⟨g5, 4, none⟩ = some (.int .i64 x.missed) ∧ W'.cell? ⟨g5, 5, none⟩ = some (.string l.D) ∧ W'.cell? ⟨g5, 6, none⟩ = some (.string l.P) ∧ W'.cell? ⟨g5, 7, none⟩ = some (.int .i64 l.n)) := fun W' hb =>
      ⟨hb, (hb.cell (L0.below c6 L0.lt).lt).trans k0, (hb.cell (L0.below c6 L0.lt).lt).trans k1, (hb.cell (L0.below c6 L0.lt).lt).trans k2, (hb.cell (L0.below c6 L0.lt).lt).trans k3, (hb.cell (L0.below c6 L0.lt).lt).trans k4, (hb.cell (L0.below c6 L0.lt).lt).trans k5, (hb.cell (L0.below c6 L0.lt).lt).trans k6, (hb.cell (L0.below c6 L0.lt).lt).trans k7, (hb.cell (L5.below hb6 L5.lt).lt).trans m0, (hb.cell (L5.below hb6 L5.lt).lt).trans m1, (hb.cell (L5.below hb6 L5.lt).lt).trans m2, (hb.cell (L5.below hb6 L5.lt).lt).trans m3, (hb.cell (L5.below hb6 L5.lt).lt).trans m4, (hb.cell (L5.below hb6 L5.lt).lt).trans m5, (hb.cell (L5.below hb6 L5.lt).lt).trans m6, (hb.cell (L5.below hb6 L5.lt).lt).trans m7⟩
    go_region_held3 (fun W' => Below w6.heap.size w6 W' ∧ W'.cell? ⟨w.heap.size, 0, none⟩ = some (.slice x.TA x.t.length x.tc) ∧ W'.cell? ⟨w.heap.size, 1, none⟩ = some (.slice x.OA x.o.length x.oc) ∧ W'.cell? ⟨w.heap.size, 2, none⟩ = some (.int .i64 x.got) ∧ W'.cell? ⟨w.heap.size, 3, none⟩ = some (.int .i64 x.sold) ∧ W'.cell? ⟨w.heap.size, 4, none⟩ = some (.int .i64 x.missed) ∧ W'.cell? ⟨w.heap.size, 5, none⟩ = some (.string l.D) ∧ W'.cell? ⟨w.heap.size, 6, none⟩ = some (.string l.P) ∧ W'.cell? ⟨w.heap.size, 7, none⟩ = some (.int .i64 l.n) ∧ W'.cell? ⟨g5, 0, none⟩ = some (.slice (some ⟨g41, 0, none⟩) x.t.length x.t.length) ∧ W'.cell? ⟨g5, 1, none⟩ = some (.slice (some ⟨g42, 0, none⟩) x.o.length x.o.length) ∧ W'.cell? ⟨g5, 2, none⟩ = some (.int .i64 x.got) ∧ W'.cell? ⟨g5, 3, none⟩ = some (.int .i64 x.sold) ∧ W'.cell? ⟨g5, 4, none⟩ = some (.int .i64 x.missed) ∧ W'.cell? ⟨g5, 5, none⟩ = some (.string l.D) ∧ W'.cell? ⟨g5, 6, none⟩ = some (.string l.P) ∧ W'.cell? ⟨g5, 7, none⟩ = some (.int .i64 l.n)) (first | exact HK _ (Below.refl _ _).drew | (exact HK _ (by assumption))) (first | (go_at_call 9; refine (toConsole_any x l _ (hW.then c6.drew) hn hm).mono ?_; rintro e w8 ⟨g81, g82, rfl, hg81, hg82, hl81, hl82, hb8⟩; have hB8 : Below w6.heap.size w6 w8 := ((Below.refl w6.heap.size w6).drew).trans hb8) | (go_at_call 11; refine (eqConsole_yes (x.copy g41 g42) (x.copy g81 g82) l _ (copy_reads ((hl51.below hb6 hl51.lt).below hB8 (Nat.lt_of_lt_of_le hl51.lt hb6.size)) ((hl52.below hb6 hl52.lt).below hB8 (Nat.lt_of_lt_of_le hl52.lt hb6.size)) hn hm) (copy_reads hl81 hl82 hn hm) (decide_eq_true rfl) (decide_eq_true rfl) rfl rfl rfl).mono ?_; rintro e w9 ⟨rfl, hb9⟩; have hB9 : Below w6.heap.size w6 w9 := bthen hB8 hb9))
    all_goals
      go_wp2
      go_ret
      exact ⟨rfl, bthen b0 (bthen c6 (by assumption))⟩
  · have hz0 : z = -1 := by
      rw [hz]; unfold lessR lessen
      by_cases hq : ((x.t.length + x.o.length : Nat) : Int) ≤ 1048576
      · rw [if_pos hq, if_neg (fun hh => hbig ⟨hq, hh⟩)]
      · rw [if_neg hq, if_neg (by omega)]
    rw [hz0] at HZ
    clear hz hz0 hbig
    go_enter Tryd.func3, Tryd.ntmps3
    go_wp2_with fail
    refine (szConsole_any x l _ _ hl1 hl2 h1 h2 (by omega) (by omega)).mono ?_
    rintro e w1 ⟨rfl, hb1⟩
    rw [HZ.out]
    go_wp2
    go_ret
    exact ⟨rfl, bthen b0 hb1⟩
end Go.Proofs.YtojceibamgodbaaDoor
