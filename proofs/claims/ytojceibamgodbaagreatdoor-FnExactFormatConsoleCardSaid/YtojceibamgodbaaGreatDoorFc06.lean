/- Fc06: the texts LawFmt OpenOff OpenRec OpenText OpenLog OpenCon, joined into one file. -/
import Derived.Deep.RegionHeld3
import Derived.Test.YtojceibamgodbaaGreatDoorProg
import Derived.Test.YtojceibamgodbaaGreatDoorFc01
import Derived.Test.YtojceibamgodbaaGreatDoorFc03
import Derived.Test.YtojceibamgodbaaGreatDoorFc04
import Derived.Test.YtojceibamgodbaaGreatDoorFc05

set_option linter.unusedVariables false

/- The law FnExactFormatConsole: the walk. (Printed by gen_lawfmt.py) -/
namespace Go.Proofs.YtojceibamgodbaaGreatDoor
open Go.RowKit

set_option maxRecDepth 100000 in
set_option maxHeartbeats 4000000 in
theorem lawFormat_any (x : Off) (l : Lg) (w : World) (h : OffR w w.heap.size x) (h1 : l.D.size ≤ 9223372036854775807) (h2 : l.P.size ≤ 9223372036854775807) (ht : Tab w) :
    Calls Tryz.prog 3 #[conVal x l] w fun e w' => e = .returned (.bool true) ∧ Below w.heap.size w w' := by
  have hl1 := h.ts.big
  have hl2 := h.os.big
  have b0 := (Below.refl w.heap.size w).alloc (Nat.le_refl _) (.cells #[.slice x.TA x.t.length x.tc, .slice x.OA x.o.length x.oc, .int .i64 x.got, .int .i64 x.sold, .int .i64 x.missed, .string l.D, .string l.P, .int .i64 l.n] 29)
  have L0 := Lies.new w 29 #[.slice x.TA x.t.length x.tc, .slice x.OA x.o.length x.oc, .int .i64 x.got, .int .i64 x.sold, .int .i64 x.missed, .string l.D, .string l.P, .int .i64 l.n]
  have ht0 := ht.then b0
  obtain ⟨z, hz⟩ : ∃ z, z = lessR (lessen 1048576 (x.t.length + x.o.length)) l.need := ⟨_, rfl⟩
  have HZ : Hid (lessR (lessen 1048576 (x.t.length + x.o.length)) l.need = z) := hz.symm
  by_cases hbig : ((x.t.length + x.o.length : Nat) : Int) ≤ 1048576 ∧ (l.need : Int) ≤ 1048576 - ((x.t.length + x.o.length : Nat) : Int)
  · obtain ⟨hb1', hb2'⟩ := hbig
    have hz0 : 0 ≤ z := by rw [hz]; unfold lessR lessen; rw [if_pos hb1', if_pos hb2']; omega
    have hn : x.t.length ≤ 1048576 := by omega
    have hm : x.o.length ≤ 1048576 := by omega
    have hs : l.D.size + l.P.size ≤ 2000000 := by unfold Lg.need at hb2'; omega
    have hzn : decide (z < 0) = false := decide_eq_false (by omega)
    clear hz hb2' hb1'
    obtain ⟨ok, hok⟩ : ∃ ok, conOk x l = ok := ⟨_, rfl⟩
    obtain ⟨V, hV⟩ : ∃ V, conV x l = V := ⟨_, rfl⟩
    have hnn : (ok != ok) = false := by simp
    have cS : ∀ g1 g2 W, OffR W W.heap.size (x.copy g1 g2) → Calls Tryz.prog 5 #[conVal (x.copy g1 g2) l] W fun e w' => e = .returned (.tuple #[.string V, .bool ok]) ∧ Below W.heap.size W w' := fun g1 g2 W h => by rw [← hok, ← hV]; exact specFormat_any (x.copy g1 g2) l W h hs
    have cI : ∀ g1 g2 W, OffR W W.heap.size (x.copy g1 g2) → Tab W → Calls Tryz.prog 7 #[conVal (x.copy g1 g2) l] W fun e w' => e = .returned (.tuple #[.string V, .bool ok]) ∧ Below W.heap.size W w' := fun g1 g2 W h ht => by rw [← hok, ← hV]; exact implFormat_any (x.copy g1 g2) l W h hs ht
    clear hok hV
    go_enter Tryz.func3, Tryz.ntmps3
    go_wp2_with fail
    generalize w.alloc (.cells #[.slice x.TA x.t.length x.tc, .slice x.OA x.o.length x.oc, .int .i64 x.got, .int .i64 x.sold, .int .i64 x.missed, .string l.D, .string l.P, .int .i64 l.n] 29) = W at b0 L0 ht0 ⊢
    have hW := h.up b0 (Nat.le_refl _)
    refine (szConsole_any x l _ _ hl1 hl2 h1 h2 (by omega) (by omega)).mono ?_
    rintro e w1 ⟨rfl, hb1⟩
    rw [HZ.out]
    have k0 := (L0.below hb1 L0.lt).cell 0
    have k1 := (L0.below hb1 L0.lt).cell 1
    have k2 := (L0.below hb1 L0.lt).cell 2
    have k3 := (L0.below hb1 L0.lt).cell 3
    have k4 := (L0.below hb1 L0.lt).cell 4
    have k5 := (L0.below hb1 L0.lt).cell 5
    have k6 := (L0.below hb1 L0.lt).cell 6
    have k7 := (L0.below hb1 L0.lt).cell 7
    simp only [List.getElem?_cons_zero, List.getElem?_cons_succ] at k0 k1 k2 k3 k4 k5 k6 k7
    go_wp2_with fail
    refine (toConsole_any x l _ (hW.then hb1) hn hm).mono ?_
    rintro e w2 ⟨g21, g22, rfl, hg21, hg22, hl21, hl22, hb2⟩
    have c2 := bthen hb1 hb2
    go_wp2_with fail
    refine (cS g21 g22 _ (copy_reads hl21 hl22 hn hm)).mono ?_
    rintro e w3 ⟨rfl, hb3⟩
    have c3 := bthen c2 hb3
    clear k0 k1 k2 k3 k4 k5 k6 k7
    have k0 := (L0.below c3 L0.lt).cell 0
    have k1 := (L0.below c3 L0.lt).cell 1
    have k2 := (L0.below c3 L0.lt).cell 2
    have k3 := (L0.below c3 L0.lt).cell 3
    have k4 := (L0.below c3 L0.lt).cell 4
    have k5 := (L0.below c3 L0.lt).cell 5
    have k6 := (L0.below c3 L0.lt).cell 6
    have k7 := (L0.below c3 L0.lt).cell 7
    simp only [List.getElem?_cons_zero, List.getElem?_cons_succ] at k0 k1 k2 k3 k4 k5 k6 k7
    go_wp2_with fail
    refine (toConsole_any x l _ (hW.then c3) hn hm).mono ?_
    rintro e w4 ⟨g41, g42, rfl, hg41, hg42, hl41, hl42, hb4⟩
    have c4 := bthen c3 hb4
    have L5 := Lies.new w4 39 #[.slice (some ⟨g41, 0, none⟩) x.t.length x.t.length, .slice (some ⟨g42, 0, none⟩) x.o.length x.o.length, .int .i64 x.got, .int .i64 x.sold, .int .i64 x.missed, .string l.D, .string l.P, .int .i64 l.n]
    have hl51 := hl41.alloc (.cells #[.slice (some ⟨g41, 0, none⟩) x.t.length x.t.length, .slice (some ⟨g42, 0, none⟩) x.o.length x.o.length, .int .i64 x.got, .int .i64 x.sold, .int .i64 x.missed, .string l.D, .string l.P, .int .i64 l.n] 39)
    have hl52 := hl42.alloc (.cells #[.slice (some ⟨g41, 0, none⟩) x.t.length x.t.length, .slice (some ⟨g42, 0, none⟩) x.o.length x.o.length, .int .i64 x.got, .int .i64 x.sold, .int .i64 x.missed, .string l.D, .string l.P, .int .i64 l.n] 39)
    have c5 := c4.alloc c4.size (.cells #[.slice (some ⟨g41, 0, none⟩) x.t.length x.t.length, .slice (some ⟨g42, 0, none⟩) x.o.length x.o.length, .int .i64 x.got, .int .i64 x.sold, .int .i64 x.missed, .string l.D, .string l.P, .int .i64 l.n] 39)
    go_wp2_with fail
    generalize w4.alloc (.cells #[.slice (some ⟨g41, 0, none⟩) x.t.length x.t.length, .slice (some ⟨g42, 0, none⟩) x.o.length x.o.length, .int .i64 x.got, .int .i64 x.sold, .int .i64 x.missed, .string l.D, .string l.P, .int .i64 l.n] 39) = w5 at L5 hl51 hl52 c5 ⊢
    generalize w4.heap.size = g5 at L5 ⊢
    refine (cI g41 g42 _ (copy_reads hl51 hl52 hn hm) (ht0.then c5)).mono ?_
    rintro e w6 ⟨rfl, hb6⟩
    have c6 := bthen c5 hb6
    clear k0 k1 k2 k3 k4 k5 k6 k7
    have k0 := (L0.below c6 L0.lt).cell 0
    have k1 := (L0.below c6 L0.lt).cell 1
    have k2 := (L0.below c6 L0.lt).cell 2
    have k3 := (L0.below c6 L0.lt).cell 3
    have k4 := (L0.below c6 L0.lt).cell 4
    have k5 := (L0.below c6 L0.lt).cell 5
    have k6 := (L0.below c6 L0.lt).cell 6
    have k7 := (L0.below c6 L0.lt).cell 7
    simp only [List.getElem?_cons_zero, List.getElem?_cons_succ] at k0 k1 k2 k3 k4 k5 k6 k7
    have m0 := (L5.below hb6 L5.lt).cell 0
    have m1 := (L5.below hb6 L5.lt).cell 1
    have m2 := (L5.below hb6 L5.lt).cell 2
    have m3 := (L5.below hb6 L5.lt).cell 3
    have m4 := (L5.below hb6 L5.lt).cell 4
    have m5 := (L5.below hb6 L5.lt).cell 5
    have m6 := (L5.below hb6 L5.lt).cell 6
    have m7 := (L5.below hb6 L5.lt).cell 7
    simp only [List.getElem?_cons_zero, List.getElem?_cons_succ] at m0 m1 m2 m3 m4 m5 m6 m7
    go_wp2_with fail
    have HK : ∀ W', Below w6.heap.size w6 W' → (Below w6.heap.size w6 W' ∧ W'.cell? ⟨w.heap.size, 0, none⟩ = some (.slice x.TA x.t.length x.tc) ∧ W'.cell? ⟨w.heap.size, 1, none⟩ = some (.slice x.OA x.o.length x.oc) ∧ W'.cell? ⟨w.heap.size, 2, none⟩ = some (.int .i64 x.got) ∧ W'.cell? ⟨w.heap.size, 3, none⟩ = some (.int .i64 x.sold) ∧ W'.cell? ⟨w.heap.size, 4, none⟩ = some (.int .i64 x.missed) ∧ W'.cell? ⟨w.heap.size, 5, none⟩ = some (.string l.D) ∧ W'.cell? ⟨w.heap.size, 6, none⟩ = some (.string l.P) ∧ W'.cell? ⟨w.heap.size, 7, none⟩ = some (.int .i64 l.n) ∧ W'.cell? ⟨g5, 0, none⟩ = some (.slice (some ⟨g41, 0, none⟩) x.t.length x.t.length) ∧ W'.cell? ⟨g5, 1, none⟩ = some (.slice (some ⟨g42, 0, none⟩) x.o.length x.o.length) ∧ W'.cell? ⟨g5, 2, none⟩ = some (.int .i64 x.got) ∧ W'.cell? ⟨g5, 3, none⟩ = some (.int .i64 x.sold) ∧ W'.cell? ⟨g5, 4, none⟩ = some (.int .i64 x.missed) ∧ W'.cell? ⟨g5, 5, none⟩ = some (.string l.D) ∧ W'.cell? ⟨g5, 6, none⟩ = some (.string l.P) ∧ W'.cell? ⟨g5, 7, none⟩ = some (.int .i64 l.n)) := fun W' hb =>
      ⟨hb, (hb.cell (L0.below c6 L0.lt).lt).trans k0, (hb.cell (L0.below c6 L0.lt).lt).trans k1, (hb.cell (L0.below c6 L0.lt).lt).trans k2, (hb.cell (L0.below c6 L0.lt).lt).trans k3, (hb.cell (L0.below c6 L0.lt).lt).trans k4, (hb.cell (L0.below c6 L0.lt).lt).trans k5, (hb.cell (L0.below c6 L0.lt).lt).trans k6, (hb.cell (L0.below c6 L0.lt).lt).trans k7, (hb.cell (L5.below hb6 L5.lt).lt).trans m0, (hb.cell (L5.below hb6 L5.lt).lt).trans m1, (hb.cell (L5.below hb6 L5.lt).lt).trans m2, (hb.cell (L5.below hb6 L5.lt).lt).trans m3, (hb.cell (L5.below hb6 L5.lt).lt).trans m4, (hb.cell (L5.below hb6 L5.lt).lt).trans m5, (hb.cell (L5.below hb6 L5.lt).lt).trans m6, (hb.cell (L5.below hb6 L5.lt).lt).trans m7⟩
    go_region_held3 (fun W' => Below w6.heap.size w6 W' ∧ W'.cell? ⟨w.heap.size, 0, none⟩ = some (.slice x.TA x.t.length x.tc) ∧ W'.cell? ⟨w.heap.size, 1, none⟩ = some (.slice x.OA x.o.length x.oc) ∧ W'.cell? ⟨w.heap.size, 2, none⟩ = some (.int .i64 x.got) ∧ W'.cell? ⟨w.heap.size, 3, none⟩ = some (.int .i64 x.sold) ∧ W'.cell? ⟨w.heap.size, 4, none⟩ = some (.int .i64 x.missed) ∧ W'.cell? ⟨w.heap.size, 5, none⟩ = some (.string l.D) ∧ W'.cell? ⟨w.heap.size, 6, none⟩ = some (.string l.P) ∧ W'.cell? ⟨w.heap.size, 7, none⟩ = some (.int .i64 l.n) ∧ W'.cell? ⟨g5, 0, none⟩ = some (.slice (some ⟨g41, 0, none⟩) x.t.length x.t.length) ∧ W'.cell? ⟨g5, 1, none⟩ = some (.slice (some ⟨g42, 0, none⟩) x.o.length x.o.length) ∧ W'.cell? ⟨g5, 2, none⟩ = some (.int .i64 x.got) ∧ W'.cell? ⟨g5, 3, none⟩ = some (.int .i64 x.sold) ∧ W'.cell? ⟨g5, 4, none⟩ = some (.int .i64 x.missed) ∧ W'.cell? ⟨g5, 5, none⟩ = some (.string l.D) ∧ W'.cell? ⟨g5, 6, none⟩ = some (.string l.P) ∧ W'.cell? ⟨g5, 7, none⟩ = some (.int .i64 l.n)) (first | exact HK _ (Below.refl _ _).drew | (exact HK _ (by assumption))) (first | (go_at_call 6; refine (toConsole_any x l _ (hW.then c6.drew) hn hm).mono ?_; rintro e w8 ⟨g81, g82, rfl, hg81, hg82, hl81, hl82, hb8⟩; have hB8 : Below w6.heap.size w6 w8 := ((Below.refl w6.heap.size w6).drew).trans hb8) | (go_at_call 8; refine (eqConsole_yes (x.copy g41 g42) (x.copy g81 g82) l _ (copy_reads ((hl51.below hb6 hl51.lt).below hB8 (Nat.lt_of_lt_of_le hl51.lt hb6.size)) ((hl52.below hb6 hl52.lt).below hB8 (Nat.lt_of_lt_of_le hl52.lt hb6.size)) hn hm) (copy_reads hl81 hl82 hn hm) (decide_eq_true rfl) (decide_eq_true rfl) rfl rfl rfl).mono ?_; rintro e w9 ⟨rfl, hb9⟩; have hB9 : Below w6.heap.size w6 w9 := bthen hB8 hb9))
    all_goals
      go_wp2
      go_ret
      exact ⟨rfl, bthen b0 (bthen c6 (by assumption))⟩
  · have hz0 : z = -1 := by
      rw [hz]; unfold lessR lessen
      by_cases hq : ((x.t.length + x.o.length : Nat) : Int) ≤ 1048576
      · rw [if_pos hq, if_neg (fun hh => hbig ⟨hq, hh⟩)]
      · rw [if_neg hq, if_neg (by omega)]
    rw [hz0] at HZ
    clear hz hz0 hbig
    go_enter Tryz.func3, Tryz.ntmps3
    go_wp2_with fail
    refine (szConsole_any x l _ _ hl1 hl2 h1 h2 (by omega) (by omega)).mono ?_
    rintro e w1 ⟨rfl, hb1⟩
    rw [HZ.out]
    go_wp2
    go_ret
    exact ⟨rfl, bthen b0 hb1⟩
end Go.Proofs.YtojceibamgodbaaGreatDoor

/- Arguments that came in: offices. -/
namespace Go.Proofs.YtojceibamgodbaaGreatDoor
open Go.ChangeShapes Go.WideShapes Go.ChangeAt Go.RowKit Go.Deep
section
variable {H : Type} {enc : TypeId × Value → H} {P : Program} {w : World} {base : Nat} {spare : Nat → Bool} {held : Bool}
theorem trod_int_structs {α : Type} (en : α → List Value) {t e : TypeId} {fs : Array Field} {k n : Nat} {v : Value} {x : DataW H × List MemPlace} (ht : P.underlying t = some (.slice e)) (he : P.underlying e = some (.struct fs)) (hone : oneCellFields P fs = true) (hC : P.cellsOf e = fs.size) (hint : intFields P fs = true) (hk : fs.size = k) (hk0 : 0 < k)
    (hen : ∀ ns : List Int, ns.length = k → ∃ x, ns.map (Value.int .i64) = en x)
    (h : DataW.trod enc P w base spare held n t [v] = some x) : ∃ A c, ∃ l : List α, v = .slice A l.length c ∧ SlcR w w.heap.size k A l.length (l.flatMap en) := by
  obtain ⟨A, len, cap, hv, css, hl, hS, hcs⟩ := trod_slc ht (hC.trans hk) hk0 h
  obtain ⟨l, hfl, hll⟩ := lift_list en css (fun cs hc => by
    obtain ⟨hlen, m, y, hy⟩ := hcs cs hc
    obtain ⟨ns, hn', hc'⟩ := trod_int_cells he hone hC hint hk hy
    obtain ⟨x, hx⟩ := hen ns hn'
    exact ⟨x, by rw [hc', hx]⟩)
  refine ⟨A, cap, l, by rw [hll, hl]; exact hv, ?_⟩
  rw [hll, hl, ← hfl]; exact hS
end
section
variable {H : Type} {enc : TypeId × Value → H} {w : World} {base : Nat} {spare : Nat → Bool} {held : Bool}
theorem trod_office {n : Nat} {cs : List Value} {x : DataW H × List MemPlace} (h : DataW.trod enc Tryz.prog w base spare held n 25 cs = some x) : ∃ p : Off, cs = p.enc ∧ OffR w w.heap.size p := by
  obtain ⟨hl, hf⟩ := trod_fields Tryz.underlying25 (by kernel_rfl) (by kernel_rfl) h
  match cs, hl with
  | [v0, v1, v2, v3, v4], _ =>
    obtain ⟨u0, _, _, e0, t0⟩ := hf 0 _ rfl
    obtain ⟨u1, _, _, e1, t1⟩ := hf 1 _ rfl
    obtain ⟨u2, _, _, e2, t2⟩ := hf 2 _ rfl
    obtain ⟨u3, _, _, e3, t3⟩ := hf 3 _ rfl
    obtain ⟨u4, _, _, e4, t4⟩ := hf 4 _ rfl
    simp only [List.getElem?_cons_zero, List.getElem?_cons_succ, Option.some.injEq] at e0 e1 e2 e3 e4
    subst e0; subst e1; subst e2; subst e3; subst e4
    obtain ⟨TA, tc, t, rfl, ht⟩ := trod_int_structs (k := 2) Tray.enc Tryz.underlying22 Tryz.underlying76 (by kernel_rfl) (by kernel_rfl) (by kernel_rfl) (by kernel_rfl) (by omega) Tray.of_ints_enc t0
    obtain ⟨OA, oc, o, rfl, ho⟩ := trod_int_structs (k := 3) Outing.enc Tryz.underlying23 Tryz.underlying78 (by kernel_rfl) (by kernel_rfl) (by kernel_rfl) (by kernel_rfl) (by omega) Outing.of_ints_enc t1
    obtain ⟨g, rfl, _, _⟩ := trod_i64 Tryz.underlying3 t2
    obtain ⟨s, rfl, _, _⟩ := trod_i64 Tryz.underlying3 t3
    obtain ⟨m, rfl, _, _⟩ := trod_i64 Tryz.underlying3 t4
    exact ⟨⟨TA, t, tc, OA, o, oc, g, s, m⟩, rfl, ht, ho⟩
set_option maxRecDepth 100000 in
theorem open_office {b0 : Nat} {r : Reach} {v : Value} {d : DataW H} {q : List MemPlace} (hv : Value.okWide Tryz.prog w r b0 25 v) (h : DataW.Trod enc Tryz.prog w base spare held 25 v d q) : ∃ p : Off, v = p.val ∧ OffR w w.heap.size p := by
  obtain ⟨cs, rfl, _⟩ := okWide_struct Tryz.underlying25 hv
  obtain ⟨n, hn⟩ := h
  obtain ⟨p, hp, hr⟩ := trod_office hn
  refine ⟨p, ?_, hr⟩
  have hp' : cs.toList = p.enc := by simpa [Value.cells] using hp
  unfold Off.val
  rw [show cs = cs.toList.toArray from rfl, hp']; rfl
end
end Go.Proofs.YtojceibamgodbaaGreatDoor

/- Arguments that came in: records. -/
namespace Go.Proofs.YtojceibamgodbaaGreatDoor
open Go.ChangeShapes Go.WideShapes Go.ChangeAt Go.RowKit Go.Deep
section
variable {H : Type} {enc : TypeId × Value → H} {P : Program} {w : World} {base : Nat} {spare : Nat → Bool} {held : Bool}
/-- A field that is a text. -/
theorem trod_text {t : TypeId} {n : Nat} {v : Value} {x : DataW H × List MemPlace} (ht : P.underlying t = some .string) (h : DataW.trod enc P w base spare held n t [v] = some x) :
    ∃ s : ByteArray, v = .string s ∧ s.size ≤ 9223372036854775807 := by
  obtain ⟨s, e, _, hs⟩ := DataW.trod_string ht h
  exact ⟨s, by simpa using e, by unfold maxLen at hs; exact hs⟩
end
section
variable {H : Type} {enc : TypeId × Value → H} {w : World} {base : Nat} {spare : Nat → Bool} {held : Bool}
end
end Go.Proofs.YtojceibamgodbaaGreatDoor

/- Texts and flags that came in. -/
namespace Go.Proofs.YtojceibamgodbaaGreatDoor
open Go.ChangeShapes Go.WideShapes Go.ChangeAt Go.RowKit Go.Deep
section
variable {H : Type} {enc : TypeId × Value → H} {w : World} {base : Nat} {spare : Nat → Bool} {held : Bool}
theorem open_text_of {P : Program} {t : TypeId} {b0 : Nat} {r : Reach} {v : Value} {d : DataW H} {q : List MemPlace} (ht : P.underlying t = some .string) (hv : Value.okWide P w r b0 t v) (h : DataW.Trod enc P w base spare held t v d q) :
    ∃ s : ByteArray, v = .string s ∧ s.size ≤ 9223372036854775807 := by
  obtain ⟨s, rfl⟩ := okWide_string ht hv
  obtain ⟨n, hn⟩ := h
  obtain ⟨s', e, _, hs⟩ := DataW.trod_string ht hn
  simp [Value.cells] at e
  subst e
  exact ⟨s, rfl, by unfold maxLen at hs; exact hs⟩
theorem open_flag_of {P : Program} {t : TypeId} {b0 : Nat} {r : Reach} {v : Value} {d : DataW H} {q : List MemPlace} (ht : P.underlying t = some .bool) (hv : Value.okWide P w r b0 t v) (_ : DataW.Trod enc P w base spare held t v d q) :
    ∃ b : Bool, v = .bool b := by
  obtain ⟨b, rfl⟩ := okWide_bool ht hv
  exact ⟨b, rfl⟩
set_option maxRecDepth 20000 in
theorem open_text {b0 : Nat} {r : Reach} {v : Value} {d : DataW H} {q : List MemPlace} (hv : Value.okWide Tryz.prog w r b0 9 v) (h : DataW.Trod enc Tryz.prog w base spare held 9 v d q) :
    ∃ s : ByteArray, v = .string s ∧ s.size ≤ 9223372036854775807 := open_text_of Tryz.underlying9 hv h
set_option maxRecDepth 20000 in
theorem open_flag {b0 : Nat} {r : Reach} {v : Value} {d : DataW H} {q : List MemPlace} (hv : Value.okWide Tryz.prog w r b0 4 v) (h : DataW.Trod enc Tryz.prog w base spare held 4 v d q) :
    ∃ b : Bool, v = .bool b := open_flag_of Tryz.underlying4 hv h
end
end Go.Proofs.YtojceibamgodbaaGreatDoor

/- Arguments that came in: logs, texts, flags. -/
namespace Go.Proofs.YtojceibamgodbaaGreatDoor
open Go.ChangeShapes Go.WideShapes Go.ChangeAt Go.RowKit Go.Deep
section
variable {H : Type} {enc : TypeId × Value → H} {w : World} {base : Nat} {spare : Nat → Bool} {held : Bool}
set_option maxRecDepth 20000 in
theorem open_log {b0 : Nat} {r : Reach} {v : Value} {d : DataW H} {q : List MemPlace} (hv : Value.okWide Tryz.prog w r b0 27 v) (h : DataW.Trod enc Tryz.prog w base spare held 27 v d q) :
    ∃ l : Lg, v = l.val ∧ l.D.size ≤ 9223372036854775807 ∧ l.P.size ≤ 9223372036854775807 ∧ -9223372036854775808 ≤ l.n ∧ l.n ≤ 9223372036854775807 := by
  obtain ⟨cs, rfl, _⟩ := okWide_struct Tryz.underlying27 hv
  obtain ⟨n, hn⟩ := h
  obtain ⟨hl, hf⟩ := trod_fields Tryz.underlying27 (by kernel_rfl) (by kernel_rfl) hn
  have hcs : (Value.agg cs).cells.toList = cs.toList := by simp [Value.cells]
  rw [hcs] at hl hf
  obtain ⟨l, rfl⟩ : ∃ l : List Value, cs = l.toArray := ⟨cs.toList, by simp⟩
  simp only at hl hf
  match l, hl with
  | [v0, v1, v2], _ =>
    obtain ⟨u0, _, _, e0, t0⟩ := hf 0 _ rfl
    obtain ⟨u1, _, _, e1, t1⟩ := hf 1 _ rfl
    obtain ⟨u2, _, _, e2, t2⟩ := hf 2 _ rfl
    simp only [List.getElem?_cons_zero, List.getElem?_cons_succ, Option.some.injEq] at e0 e1 e2
    subst e0; subst e1; subst e2
    obtain ⟨s0, rfl, z0⟩ := trod_text Tryz.underlying9 t0
    obtain ⟨s1, rfl, z1⟩ := trod_text Tryz.underlying9 t1
    obtain ⟨m, rfl, z2, z3⟩ := trod_i64 Tryz.underlying3 t2
    exact ⟨⟨s0, s1, m⟩, rfl, z0, z1, z2, z3⟩
end
end Go.Proofs.YtojceibamgodbaaGreatDoor

/- Arguments that came in: consoles (an office and a log side by side). -/
namespace Go.Proofs.YtojceibamgodbaaGreatDoor
open Go.ChangeShapes Go.WideShapes Go.ChangeAt Go.RowKit Go.Deep
section
variable {H : Type} {enc : TypeId × Value → H} {w : World} {base : Nat} {spare : Nat → Bool} {held : Bool}
set_option maxRecDepth 20000 in
theorem trod_log {n : Nat} {cs : List Value} {x : DataW H × List MemPlace} (hn : DataW.trod enc Tryz.prog w base spare held n 27 cs = some x) :
    ∃ l : Lg, cs = [.string l.D, .string l.P, .int .i64 l.n] ∧ l.D.size ≤ 9223372036854775807 ∧ l.P.size ≤ 9223372036854775807 ∧ -9223372036854775808 ≤ l.n ∧ l.n ≤ 9223372036854775807 := by
  obtain ⟨hl, hf⟩ := trod_fields Tryz.underlying27 (by kernel_rfl) (by kernel_rfl) hn
  match cs, hl with
  | [v0, v1, v2], _ =>
    obtain ⟨u0, _, _, e0, t0⟩ := hf 0 _ rfl
    obtain ⟨u1, _, _, e1, t1⟩ := hf 1 _ rfl
    obtain ⟨u2, _, _, e2, t2⟩ := hf 2 _ rfl
    simp only [List.getElem?_cons_zero, List.getElem?_cons_succ, Option.some.injEq] at e0 e1 e2
    subst e0; subst e1; subst e2
    obtain ⟨s0, rfl, z0⟩ := trod_text Tryz.underlying9 t0
    obtain ⟨s1, rfl, z1⟩ := trod_text Tryz.underlying9 t1
    obtain ⟨m, rfl, z2, z3⟩ := trod_i64 Tryz.underlying3 t2
    exact ⟨⟨s0, s1, m⟩, rfl, z0, z1, z2, z3⟩
set_option maxRecDepth 20000 in
theorem trod_console {n : Nat} {cs : List Value} {x : DataW H × List MemPlace} (hn : DataW.trod enc Tryz.prog w base spare held n 29 cs = some x) :
    ∃ (p : Off) (l : Lg), cs = p.enc ++ [.string l.D, .string l.P, .int .i64 l.n] ∧ OffR w w.heap.size p ∧ l.D.size ≤ 9223372036854775807 ∧ l.P.size ≤ 9223372036854775807 ∧ -9223372036854775808 ≤ l.n ∧ l.n ≤ 9223372036854775807 := by
  obtain ⟨ys, n', _, _, hlen, hyl, hf⟩ := DataW.trod_struct Tryz.underlying29 hn
  have e0 : Tryz.prog.cellsOf 25 = 5 := by kernel_rfl
  have e1 : Tryz.prog.cellsOf 27 = 3 := by kernel_rfl
  have e2 : Tryz.prog.cellsOf 29 = 8 := by kernel_rfl
  have hyl2 : ys.length = 2 := hyl
  have h0 : DataW.trod enc Tryz.prog w base spare held n' 25 ((cs.drop 0).take (Tryz.prog.cellsOf 25)) = ys[0]? := hf 0 _ rfl
  have h1 : DataW.trod enc Tryz.prog w base spare held n' 27 ((cs.drop 5).take (Tryz.prog.cellsOf 27)) = ys[1]? := hf 1 _ rfl
  rw [e0, List.drop_zero, List.getElem?_eq_getElem (by omega)] at h0
  rw [e1, List.getElem?_eq_getElem (by omega)] at h1
  rw [e2] at hlen
  obtain ⟨p, hp, hr⟩ := trod_office h0
  obtain ⟨l, hL, z0, z1, z2, z3⟩ := trod_log h1
  refine ⟨p, l, ?_, hr, z0, z1, z2, z3⟩
  rw [List.take_of_length_le (by rw [List.length_drop]; omega)] at hL
  rw [← hp, ← hL, List.take_append_drop]
set_option maxRecDepth 100000 in
theorem open_console {b0 : Nat} {r : Reach} {v : Value} {d : DataW H} {q : List MemPlace} (hv : Value.okWide Tryz.prog w r b0 29 v) (h : DataW.Trod enc Tryz.prog w base spare held 29 v d q) :
    ∃ (p : Off) (l : Lg), v = conVal p l ∧ OffR w w.heap.size p ∧ l.D.size ≤ 9223372036854775807 ∧ l.P.size ≤ 9223372036854775807 ∧ -9223372036854775808 ≤ l.n ∧ l.n ≤ 9223372036854775807 := by
  obtain ⟨cs, rfl, _⟩ := okWide_struct Tryz.underlying29 hv
  obtain ⟨n, hn⟩ := h
  obtain ⟨p, l, hp, hr⟩ := trod_console hn
  refine ⟨p, l, ?_, hr⟩
  have hp' : cs.toList = p.enc ++ [.string l.D, .string l.P, .int .i64 l.n] := by simpa [Value.cells] using hp
  unfold conVal
  rw [show cs = cs.toList.toArray from rfl, hp']; rfl
end
end Go.Proofs.YtojceibamgodbaaGreatDoor
