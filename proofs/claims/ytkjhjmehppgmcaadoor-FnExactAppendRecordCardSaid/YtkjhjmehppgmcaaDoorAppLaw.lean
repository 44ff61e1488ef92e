/- AppendRecord: the law. -/
import Derived.Test.YtkjhjmehppgmcaaDoorAppend
import Derived.Test.YtkjhjmehppgmcaaDoorFactsV
namespace Go.Proofs.YtkjhjmehppgmcaaDoor
open Go.RowKit

def LogAt (W : World) (g : Nat) : Prop := ∃ a b c, Lies W g 31 [a, b, c]
def TLog (lg : Lg) (W W' : World) : Prop := (∀ g, Lies W g 31 [.string lg.D, .string lg.P, .int .i64 lg.n] → Lies W' g 31 [.string lg.D, .string lg.P, .int .i64 lg.n]) ∧ (∀ g, LogAt W g → LogAt W' g)
theorem TLog.rfl (lg : Lg) (W : World) : TLog lg W W := ⟨fun _ h => h, fun _ h => h⟩
theorem TLog.below (lg : Lg) {W W' : World} (h : Below W.heap.size W W') : TLog lg W W' := ⟨fun _ h' => h'.below h h'.lt, fun _ ⟨a, b, c, h'⟩ => ⟨a, b, c, h'.below h h'.lt⟩⟩
theorem TLog.store (lg : Lg) {W : World} {g9 : Nat} {a b d : Value} (hA : Lies W g9 31 [a, b, d]) :
    TLog lg W (((W.setCell ⟨g9, 0, none⟩ (.string lg.D)).setCell ⟨g9, 1, none⟩ (.string lg.P)).setCell ⟨g9, 2, none⟩ (.int .i64 lg.n)) := by
  have hS : Lies (((W.setCell ⟨g9, 0, none⟩ (.string lg.D)).setCell ⟨g9, 1, none⟩ (.string lg.P)).setCell ⟨g9, 2, none⟩ (.int .i64 lg.n)) g9 31 [.string lg.D, .string lg.P, .int .i64 lg.n] := ((hA.set 0 (.string lg.D)).set 1 (.string lg.P)).set 2 (.int .i64 lg.n)
  refine ⟨fun g h => ?_, fun g ⟨a', b', c', h⟩ => ?_⟩
  · by_cases e : g = g9
    · subst e; exact hS
    · exact ((h.other (p := ⟨g9, 0, none⟩) e _).other (p := ⟨g9, 1, none⟩) e _).other (p := ⟨g9, 2, none⟩) e _
  · by_cases e : g = g9
    · subst e; exact ⟨_, _, _, hS⟩
    · exact ⟨_, _, _, ((h.other (p := ⟨g9, 0, none⟩) e _).other (p := ⟨g9, 1, none⟩) e _).other (p := ⟨g9, 2, none⟩) e _⟩

set_option maxRecDepth 100000 in
set_option maxHeartbeats 4000000 in
set_option linter.unusedVariables false in
theorem lawAppendRecord_any (l : Lg) (e : Rec) (w : World) (h1 : l.D.size ≤ 9223372036854775807) (h2 : l.P.size ≤ 9223372036854775807) (h3 : -9223372036854775808 ≤ l.n) (h4 : l.n ≤ 9223372036854775807) (h5 : e.c.size ≤ 9223372036854775807) (h6 : e.r.size ≤ 9223372036854775807) (ht : Tab w) :
    Calls Tryd.prog 8 #[l.val, e.val] w fun en w' => en = .returned (.bool true) ∧ Below w.heap.size w w' := by
  have b1 := ((Below.refl w.heap.size w).alloc (Nat.le_refl _) (.cells #[.string l.D, .string l.P, .int .i64 l.n] 36)).alloc (by simp) (.cells #[.string e.c, .string e.r] 23)
  have L1 := (Lies.new w 36 #[.string l.D, .string l.P, .int .i64 l.n]).alloc (.cells #[.string e.c, .string e.r] 23)
  have E1 := Lies.new (w.alloc (.cells #[.string l.D, .string l.P, .int .i64 l.n] 36)) 23 #[.string e.c, .string e.r]
  have hg1 : (w.alloc (.cells #[.string l.D, .string l.P, .int .i64 l.n] 36)).heap.size = w.heap.size + 1 := by simp
  rw [hg1] at E1
  clear hg1
  by_cases hbig : (l.need : Int) ≤ 1048576
  · have HS := Lib.hid (lessR_le hbig)
    have hs : l.D.size + l.P.size ≤ 2000000 := by unfold Lg.need at hbig; omega
    have hn0 : decide ((1048576 : Int) - (l.need : Int) < 0) = false := decide_eq_false (by omega)
    by_cases hbig2 : (e.need : Int) ≤ 1048576 - (l.need : Int)
    · have HS2 := Lib.hid (lessR_le hbig2)
      have hc : e.c.size ≤ 1048576 := by unfold Rec.need at hbig2; omega
      have hr : e.r.size ≤ 1048576 := by unfold Rec.need at hbig2; omega
      have hn2 : decide ((1048576 : Int) - (l.need : Int) - (e.need : Int) < 0) = false := decide_eq_false (by omega)
      have cS := fun W => specAppend_any l e W hs hc hr
      have cI := fun W hW => implAppend_any l e W hs hc hr hW
      generalize appLg l e = lg at cS cI
      generalize appCode l e = cd at cS cI
      have hbo : (cd != cd) = false := by simp
      have HE := Lib.hid (fun W => eqLog_yes lg W)
      go_enter Tryd.func8, Tryd.ntmps8
      go_wp2_with fail
      generalize (w.alloc (.cells #[.string l.D, .string l.P, .int .i64 l.n] 36)).alloc (.cells #[.string e.c, .string e.r] 23) = W at b1 L1 E1 ⊢
      generalize hg : w.heap.size = g at L1 E1 ⊢
      refine (szLog_any l _ _ h1 h2 (by omega) (by omega)).mono ?_
      rintro en w1 ⟨rfl, hb1⟩
      rw [HS.out]
      have P1 := L1.below hb1 L1.lt
      have Q1 := E1.below hb1 E1.lt
      have e0 := Q1.cell 0
      have e1 := Q1.cell 1
      simp only [List.getElem?_cons_zero, List.getElem?_cons_succ] at e0 e1
      go_wp2_with fail
      refine (szLogRecord_any e _ _ h5 h6 (by omega) (by omega)).mono ?_
      rintro en w2 ⟨rfl, hb2⟩
      rw [HS2.out]
      have M1 := P1.below hb2 P1.lt
      have R1 := Q1.below hb2 Q1.lt
      have B1 : Below w.heap.size w w2 := by rw [← hg] at *; exact bthen b1 (bthen hb1 hb2)
      clear e0 e1 L1 E1 P1 Q1 hbig hbig2
      go_wp2_with fail
      refine wp_region_factsV (fun W9 => Lies W9 g 36 [.string l.D, .string l.P, .int .i64 l.n] ∧ Lies W9 (g + 1) 23 [.string e.c, .string e.r] ∧ Below w.heap.size w W9) (TLog lg) (by kernel_rfl) (by kernel_rfl) (by kernel_rfl) ⟨M1.below (Below.refl _ _).drew M1.lt, R1.below (Below.refl _ _).drew R1.lt, B1.drew⟩ ?_
      simp only [fillOps, Act.put, List.setIfInBounds_toArray, List.set_cons_zero, List.set_cons_succ, Nat.zero_add, Nat.reduceAdd]
      refine wpFactsV_val (.agg #[.string l.D, .string l.P, .int .i64 l.n]) (fun vs w9 hC9 hB K9 hK9 => ?_) ?_
      · have q0 : w9.cell? ⟨g, 0, none⟩ = some (.string l.D) := hC9.1.cell 0
        have q1 : w9.cell? ⟨g, 1, none⟩ = some (.string l.P) := hC9.1.cell 1
        have q2 : w9.cell? ⟨g, 2, none⟩ = some (.int .i64 l.n) := hC9.1.cell 2
        go_simp
        exact hK9 _ _ rfl hC9 (TLog.rfl lg _)
      refine wpFactsV_val (.agg #[.string l.D, .string l.P, .int .i64 l.n]) (fun vs w9 hC9 hB K9 hK9 => ?_) ?_
      · have hd0 : vs 0 = .agg #[.string l.D, .string l.P, .int .i64 l.n] := hB 0 _ (by kernel_rfl) rfl
        simp only [hd0] at hK9 ⊢
        go_simp
        refine (toLog_any l _).mono ?_
        rintro en w8 ⟨rfl, hb8⟩
        exact hK9 _ _ rfl ⟨hC9.1.below hb8 hC9.1.lt, hC9.2.1.below hb8 hC9.2.1.lt, hC9.2.2.trans (hb8.mono hC9.2.2.size)⟩ (TLog.below lg hb8)
      refine wpFactsV_val (.agg #[.string e.c, .string e.r]) (fun vs w9 hC9 hB K9 hK9 => ?_) ?_
      · have q0 : w9.cell? ⟨g + 1, 0, none⟩ = some (.string e.c) := hC9.2.1.cell 0
        have q1 : w9.cell? ⟨g + 1, 1, none⟩ = some (.string e.r) := hC9.2.1.cell 1
        go_simp
        exact hK9 _ _ rfl hC9 (TLog.rfl lg _)
      refine wpFactsV_val (.agg #[.string e.c, .string e.r]) (fun vs w9 hC9 hB K9 hK9 => ?_) ?_
      · have hd2 : vs 2 = .agg #[.string e.c, .string e.r] := hB 2 _ (by kernel_rfl) rfl
        simp only [hd2] at hK9 ⊢
        go_simp
        refine (toLogRecord_any e _).mono ?_
        rintro en w8 ⟨rfl, hb8⟩
        exact hK9 _ _ rfl ⟨hC9.1.below hb8 hC9.1.lt, hC9.2.1.below hb8 hC9.2.1.lt, hC9.2.2.trans (hb8.mono hC9.2.2.size)⟩ (TLog.below lg hb8)
      refine wpFactsV_val (.tuple #[.agg #[.string lg.D, .string lg.P, .int .i64 lg.n], .int .i64 cd]) (fun vs w9 hC9 hB K9 hK9 => ?_) ?_
      · have hd1 : vs 1 = .agg #[.string l.D, .string l.P, .int .i64 l.n] := hB 1 _ (by kernel_rfl) rfl
        have hd3 : vs 3 = .agg #[.string e.c, .string e.r] := hB 3 _ (by kernel_rfl) rfl
        simp only [hd1, hd3] at hK9 ⊢
        go_simp
        refine (cS _).mono ?_
        rintro en w8 ⟨rfl, hb8⟩
        exact hK9 _ _ rfl ⟨hC9.1.below hb8 hC9.1.lt, hC9.2.1.below hb8 hC9.2.1.lt, hC9.2.2.trans (hb8.mono hC9.2.2.size)⟩ (TLog.below lg hb8)
      refine wpFactsV_val (.tuple #[.agg #[.string lg.D, .string lg.P, .int .i64 lg.n], .int .i64 cd]) (fun vs w9 hC9 hB K9 hK9 => ?_) ?_
      · have hd4 : vs 4 = .tuple #[.agg #[.string lg.D, .string lg.P, .int .i64 lg.n], .int .i64 cd] := hB 4 _ (by kernel_rfl) rfl
        simp only [hd4] at hK9 ⊢
        go_simp
        exact hK9 _ _ rfl hC9 (TLog.rfl lg _)
      refine wpFactsV_val (.agg #[.string lg.D, .string lg.P, .int .i64 lg.n]) (fun vs w9 hC9 hB K9 hK9 => ?_) ?_
      · have hd5 : vs 5 = .tuple #[.agg #[.string lg.D, .string lg.P, .int .i64 lg.n], .int .i64 cd] := hB 5 _ (by kernel_rfl) rfl
        simp only [hd5] at hK9 ⊢
        go_simp
        exact hK9 _ _ rfl hC9 (TLog.rfl lg _)
      refine wpFactsV_val (.int .i64 cd) (fun vs w9 hC9 hB K9 hK9 => ?_) ?_
      · have hd5 : vs 5 = .tuple #[.agg #[.string lg.D, .string lg.P, .int .i64 lg.n], .int .i64 cd] := hB 5 _ (by kernel_rfl) rfl
        simp only [hd5] at hK9 ⊢
        go_simp
        exact hK9 _ _ rfl hC9 (TLog.rfl lg _)
      refine wpFactsV_some (fun v W9 => ∃ g9, v = .pointer (some ⟨g9, 0, none⟩) ∧ LogAt W9 g9 ∧ (g + 1) < g9) (fun v W W' h t => by obtain ⟨g9, h1, h2, h3⟩ := h; exact ⟨g9, h1, t.2 g9 h2, h3⟩) (fun vs w9 hC9 hB K9 hK9 => ?_) ?_
      · go_simp
        have hb8 := (Below.refl w9.heap.size w9).alloc (Nat.le_refl _) (.cells #[.string ⟨#[]⟩, .string ⟨#[]⟩, .int .i64 0] 31)
        exact hK9 _ _ _ rfl ⟨_, rfl, ⟨_, _, _, Lies.new w9 31 #[.string ⟨#[]⟩, .string ⟨#[]⟩, .int .i64 0]⟩, hC9.2.1.lt⟩ ⟨hC9.1.below hb8 hC9.1.lt, hC9.2.1.below hb8 hC9.2.1.lt, hC9.2.2.trans (hb8.mono hC9.2.2.size)⟩ (TLog.below lg hb8)
      refine wpFactsV_pair 8 (fun u _ W9 => ∃ g9, u = .pointer (some ⟨g9, 0, none⟩) ∧ Lies W9 g9 31 [.string lg.D, .string lg.P, .int .i64 lg.n] ∧ (g + 1) < g9) (by kernel_rfl) (fun u v W W' h t => by obtain ⟨g9, h1, h2, h3⟩ := h; exact ⟨g9, h1, t.1 g9 h2, h3⟩) (fun vs w9 hC9 hB K9 hK9 => ?_) ?_
      · obtain ⟨g9, hv9, ⟨a9, b9, d9, hA9⟩, hl9⟩ : ∃ g9, vs 8 = .pointer (some ⟨g9, 0, none⟩) ∧ LogAt w9 g9 ∧ (g + 1) < g9 := hB 8 _ (by kernel_rfl) rfl
        have hd6 : vs 6 = .agg #[.string lg.D, .string lg.P, .int .i64 lg.n] := hB 6 _ (by kernel_rfl) rfl
        simp only [hv9, hd6] at hK9 ⊢
        have q0 : w9.cell? ⟨g9, 0, none⟩ = some a9 := hA9.cell 0
        have q1 : w9.cell? ⟨g9, 1, none⟩ = some b9 := hA9.cell 1
        have q2 : w9.cell? ⟨g9, 2, none⟩ = some d9 := hA9.cell 2
        have f0 := hA9.frozen 0
        have f1 := hA9.frozen 1
        have f2 := hA9.frozen 2
        have hgw : w.heap.size ≤ g9 := by omega
        have hS : Lies (((w9.setCell ⟨g9, 0, none⟩ (.string lg.D)).setCell ⟨g9, 1, none⟩ (.string lg.P)).setCell ⟨g9, 2, none⟩ (.int .i64 lg.n)) g9 31 [.string lg.D, .string lg.P, .int .i64 lg.n] := ((hA9.set 0 (.string lg.D)).set 1 (.string lg.P)).set 2 (.int .i64 lg.n)
        have hT := TLog.store lg hA9
        have h1 := ((hC9.1.other (p := ⟨g9, 0, none⟩) (by simp; omega) (.string lg.D)).other (p := ⟨g9, 1, none⟩) (by simp; omega) (.string lg.P)).other (p := ⟨g9, 2, none⟩) (by simp; omega) (.int .i64 lg.n)
        have h2 := ((hC9.2.1.other (p := ⟨g9, 0, none⟩) (by simp; omega) (.string lg.D)).other (p := ⟨g9, 1, none⟩) (by simp; omega) (.string lg.P)).other (p := ⟨g9, 2, none⟩) (by simp; omega) (.int .i64 lg.n)
        have h3 := ((hC9.2.2.setCell (p := ⟨g9, 0, none⟩) hgw (.string lg.D)).setCell (p := ⟨g9, 1, none⟩) hgw (.string lg.P)).setCell (p := ⟨g9, 2, none⟩) hgw (.int .i64 lg.n)
        go_simp
        exact hK9 _ undef _ rfl ⟨g9, rfl, hS, hl9⟩ ⟨h1, h2, h3⟩ hT
      refine wpFactsV_val (.int .i64 cd) (fun vs w9 hC9 hB K9 hK9 => ?_) ?_
      · have hd7 : vs 7 = .int .i64 cd := hB 7 _ (by kernel_rfl) rfl
        simp only [hd7] at hK9 ⊢
        go_simp
        exact hK9 _ _ rfl hC9 (TLog.rfl lg _)
      refine wpFactsV_nil fun vs W3 hC9 hB => ?_
      obtain ⟨g6, hv8, N6, hl1⟩ : ∃ g9, vs 8 = .pointer (some ⟨g9, 0, none⟩) ∧ Lies W3 g9 31 [.string lg.D, .string lg.P, .int .i64 lg.n] ∧ (g + 1) < g9 := hB 9 _ rfl
      have hd10 : vs 10 = .int .i64 cd := hB 10 _ rfl
      simp only [hv8, hd10]
      obtain ⟨M2, R2, B2⟩ := hC9
      clear hB
      go_wp2_with fail
      refine wp_region_factsV (fun W9 => Lies W9 g 36 [.string l.D, .string l.P, .int .i64 l.n] ∧ Lies W9 (g + 1) 23 [.string e.c, .string e.r] ∧ Below w.heap.size w W9 ∧ Lies W9 g6 31 [.string lg.D, .string lg.P, .int .i64 lg.n]) (TLog lg) (by kernel_rfl) (by kernel_rfl) (by kernel_rfl) ⟨M2.below (Below.refl _ _).drew M2.lt, R2.below (Below.refl _ _).drew R2.lt, B2.drew, N6.below (Below.refl _ _).drew N6.lt⟩ ?_
      simp only [fillOps, Act.put, List.setIfInBounds_toArray, List.set_cons_zero, List.set_cons_succ, Nat.zero_add, Nat.reduceAdd]
      refine wpFactsV_val (.agg #[.string l.D, .string l.P, .int .i64 l.n]) (fun vs w9 hC9 hB K9 hK9 => ?_) ?_
      · have q0 : w9.cell? ⟨g, 0, none⟩ = some (.string l.D) := hC9.1.cell 0
        have q1 : w9.cell? ⟨g, 1, none⟩ = some (.string l.P) := hC9.1.cell 1
        have q2 : w9.cell? ⟨g, 2, none⟩ = some (.int .i64 l.n) := hC9.1.cell 2
        go_simp
        exact hK9 _ _ rfl hC9 (TLog.rfl lg _)
      refine wpFactsV_val (.agg #[.string l.D, .string l.P, .int .i64 l.n]) (fun vs w9 hC9 hB K9 hK9 => ?_) ?_
      · have hd0 : vs 0 = .agg #[.string l.D, .string l.P, .int .i64 l.n] := hB 0 _ (by kernel_rfl) rfl
        simp only [hd0] at hK9 ⊢
        go_simp
        refine (toLog_any l _).mono ?_
        rintro en w8 ⟨rfl, hb8⟩
        exact hK9 _ _ rfl ⟨hC9.1.below hb8 hC9.1.lt, hC9.2.1.below hb8 hC9.2.1.lt, hC9.2.2.1.trans (hb8.mono hC9.2.2.1.size), hC9.2.2.2.below hb8 hC9.2.2.2.lt⟩ (TLog.below lg hb8)
      refine wpFactsV_val (.agg #[.string e.c, .string e.r]) (fun vs w9 hC9 hB K9 hK9 => ?_) ?_
      · have q0 : w9.cell? ⟨g + 1, 0, none⟩ = some (.string e.c) := hC9.2.1.cell 0
        have q1 : w9.cell? ⟨g + 1, 1, none⟩ = some (.string e.r) := hC9.2.1.cell 1
        go_simp
        exact hK9 _ _ rfl hC9 (TLog.rfl lg _)
      refine wpFactsV_val (.agg #[.string e.c, .string e.r]) (fun vs w9 hC9 hB K9 hK9 => ?_) ?_
      · have hd2 : vs 2 = .agg #[.string e.c, .string e.r] := hB 2 _ (by kernel_rfl) rfl
        simp only [hd2] at hK9 ⊢
        go_simp
        refine (toLogRecord_any e _).mono ?_
        rintro en w8 ⟨rfl, hb8⟩
        exact hK9 _ _ rfl ⟨hC9.1.below hb8 hC9.1.lt, hC9.2.1.below hb8 hC9.2.1.lt, hC9.2.2.1.trans (hb8.mono hC9.2.2.1.size), hC9.2.2.2.below hb8 hC9.2.2.2.lt⟩ (TLog.below lg hb8)
      refine wpFactsV_val (.tuple #[.agg #[.string lg.D, .string lg.P, .int .i64 lg.n], .int .i64 cd]) (fun vs w9 hC9 hB K9 hK9 => ?_) ?_
      · have hd1 : vs 1 = .agg #[.string l.D, .string l.P, .int .i64 l.n] := hB 1 _ (by kernel_rfl) rfl
        have hd3 : vs 3 = .agg #[.string e.c, .string e.r] := hB 3 _ (by kernel_rfl) rfl
        simp only [hd1, hd3] at hK9 ⊢
        go_simp
        refine (cI _ (ht.then hC9.2.2.1)).mono ?_
        rintro en w8 ⟨rfl, hb8⟩
        exact hK9 _ _ rfl ⟨hC9.1.below hb8 hC9.1.lt, hC9.2.1.below hb8 hC9.2.1.lt, hC9.2.2.1.trans (hb8.mono hC9.2.2.1.size), hC9.2.2.2.below hb8 hC9.2.2.2.lt⟩ (TLog.below lg hb8)
      refine wpFactsV_val (.tuple #[.agg #[.string lg.D, .string lg.P, .int .i64 lg.n], .int .i64 cd]) (fun vs w9 hC9 hB K9 hK9 => ?_) ?_
      · have hd4 : vs 4 = .tuple #[.agg #[.string lg.D, .string lg.P, .int .i64 lg.n], .int .i64 cd] := hB 4 _ (by kernel_rfl) rfl
        simp only [hd4] at hK9 ⊢
        go_simp
        exact hK9 _ _ rfl hC9 (TLog.rfl lg _)
      refine wpFactsV_val (.agg #[.string lg.D, .string lg.P, .int .i64 lg.n]) (fun vs w9 hC9 hB K9 hK9 => ?_) ?_
      · have hd5 : vs 5 = .tuple #[.agg #[.string lg.D, .string lg.P, .int .i64 lg.n], .int .i64 cd] := hB 5 _ (by kernel_rfl) rfl
        simp only [hd5] at hK9 ⊢
        go_simp
        exact hK9 _ _ rfl hC9 (TLog.rfl lg _)
      refine wpFactsV_val (.int .i64 cd) (fun vs w9 hC9 hB K9 hK9 => ?_) ?_
      · have hd5 : vs 5 = .tuple #[.agg #[.string lg.D, .string lg.P, .int .i64 lg.n], .int .i64 cd] := hB 5 _ (by kernel_rfl) rfl
        simp only [hd5] at hK9 ⊢
        go_simp
        exact hK9 _ _ rfl hC9 (TLog.rfl lg _)
      refine wpFactsV_some (fun v W9 => ∃ g9, v = .pointer (some ⟨g9, 0, none⟩) ∧ LogAt W9 g9 ∧ g6 < g9) (fun v W W' h t => by obtain ⟨g9, h1, h2, h3⟩ := h; exact ⟨g9, h1, t.2 g9 h2, h3⟩) (fun vs w9 hC9 hB K9 hK9 => ?_) ?_
      · go_simp
        have hb8 := (Below.refl w9.heap.size w9).alloc (Nat.le_refl _) (.cells #[.string ⟨#[]⟩, .string ⟨#[]⟩, .int .i64 0] 31)
        exact hK9 _ _ _ rfl ⟨_, rfl, ⟨_, _, _, Lies.new w9 31 #[.string ⟨#[]⟩, .string ⟨#[]⟩, .int .i64 0]⟩, hC9.2.2.2.lt⟩ ⟨hC9.1.below hb8 hC9.1.lt, hC9.2.1.below hb8 hC9.2.1.lt, hC9.2.2.1.trans (hb8.mono hC9.2.2.1.size), hC9.2.2.2.below hb8 hC9.2.2.2.lt⟩ (TLog.below lg hb8)
      refine wpFactsV_pair 8 (fun u _ W9 => ∃ g9, u = .pointer (some ⟨g9, 0, none⟩) ∧ Lies W9 g9 31 [.string lg.D, .string lg.P, .int .i64 lg.n] ∧ g6 < g9) (by kernel_rfl) (fun u v W W' h t => by obtain ⟨g9, h1, h2, h3⟩ := h; exact ⟨g9, h1, t.1 g9 h2, h3⟩) (fun vs w9 hC9 hB K9 hK9 => ?_) ?_
      · obtain ⟨g9, hv9, ⟨a9, b9, d9, hA9⟩, hl9⟩ : ∃ g9, vs 8 = .pointer (some ⟨g9, 0, none⟩) ∧ LogAt w9 g9 ∧ g6 < g9 := hB 8 _ (by kernel_rfl) rfl
        have hd6 : vs 6 = .agg #[.string lg.D, .string lg.P, .int .i64 lg.n] := hB 6 _ (by kernel_rfl) rfl
        simp only [hv9, hd6] at hK9 ⊢
        have q0 : w9.cell? ⟨g9, 0, none⟩ = some a9 := hA9.cell 0
        have q1 : w9.cell? ⟨g9, 1, none⟩ = some b9 := hA9.cell 1
        have q2 : w9.cell? ⟨g9, 2, none⟩ = some d9 := hA9.cell 2
        have f0 := hA9.frozen 0
        have f1 := hA9.frozen 1
        have f2 := hA9.frozen 2
        have hgw : w.heap.size ≤ g9 := by omega
        have hS : Lies (((w9.setCell ⟨g9, 0, none⟩ (.string lg.D)).setCell ⟨g9, 1, none⟩ (.string lg.P)).setCell ⟨g9, 2, none⟩ (.int .i64 lg.n)) g9 31 [.string lg.D, .string lg.P, .int .i64 lg.n] := ((hA9.set 0 (.string lg.D)).set 1 (.string lg.P)).set 2 (.int .i64 lg.n)
        have hT := TLog.store lg hA9
        have h1 := ((hC9.1.other (p := ⟨g9, 0, none⟩) (by simp; omega) (.string lg.D)).other (p := ⟨g9, 1, none⟩) (by simp; omega) (.string lg.P)).other (p := ⟨g9, 2, none⟩) (by simp; omega) (.int .i64 lg.n)
        have h2 := ((hC9.2.1.other (p := ⟨g9, 0, none⟩) (by simp; omega) (.string lg.D)).other (p := ⟨g9, 1, none⟩) (by simp; omega) (.string lg.P)).other (p := ⟨g9, 2, none⟩) (by simp; omega) (.int .i64 lg.n)
        have h3 := ((hC9.2.2.1.setCell (p := ⟨g9, 0, none⟩) hgw (.string lg.D)).setCell (p := ⟨g9, 1, none⟩) hgw (.string lg.P)).setCell (p := ⟨g9, 2, none⟩) hgw (.int .i64 lg.n)
        have h4 := ((hC9.2.2.2.other (p := ⟨g9, 0, none⟩) (by simp; omega) (.string lg.D)).other (p := ⟨g9, 1, none⟩) (by simp; omega) (.string lg.P)).other (p := ⟨g9, 2, none⟩) (by simp; omega) (.int .i64 lg.n)
        go_simp
        exact hK9 _ undef _ rfl ⟨g9, rfl, hS, hl9⟩ ⟨h1, h2, h3, h4⟩ hT
      refine wpFactsV_val (.int .i64 cd) (fun vs w9 hC9 hB K9 hK9 => ?_) ?_
      · have hd7 : vs 7 = .int .i64 cd := hB 7 _ (by kernel_rfl) rfl
        simp only [hd7] at hK9 ⊢
        go_simp
        exact hK9 _ _ rfl hC9 (TLog.rfl lg _)
      refine wpFactsV_nil fun vs W4 hC9 hB => ?_
      obtain ⟨g7, hv8, N7, hl2⟩ : ∃ g9, vs 8 = .pointer (some ⟨g9, 0, none⟩) ∧ Lies W4 g9 31 [.string lg.D, .string lg.P, .int .i64 lg.n] ∧ g6 < g9 := hB 9 _ rfl
      have hd10 : vs 10 = .int .i64 cd := hB 10 _ rfl
      simp only [hv8, hd10]
      obtain ⟨_, _, B3, N8⟩ := hC9
      clear hB
      have c0 := N8.cell 0
      have c1 := N8.cell 1
      have c2 := N8.cell 2
      have k0 := N7.cell 0
      have k1 := N7.cell 1
      have k2 := N7.cell 2
      simp only [List.getElem?_cons_zero, List.getElem?_cons_succ] at c0 c1 c2 k0 k1 k2
      clear M1 R1 M2 R2 N6 N7 N8
      go_wp2_with (go_at_call 20; refine (HE.out _).mono ?_; rintro en w11 ⟨rfl, hb11⟩)
      go_ret
      exact ⟨rfl, B3.trans (hb11.mono B3.size)⟩
    · have HS2 := Lib.hid (lessR_gt hbig2)
      clear hbig2
      go_enter Tryd.func8, Tryd.ntmps8
      go_wp2_with fail
      generalize (w.alloc (.cells #[.string l.D, .string l.P, .int .i64 l.n] 36)).alloc (.cells #[.string e.c, .string e.r] 23) = W at b1 L1 E1 ⊢
      generalize hg : w.heap.size = g at L1 E1 ⊢
      refine (szLog_any l _ _ h1 h2 (by omega) (by omega)).mono ?_
      rintro en w1 ⟨rfl, hb1⟩
      rw [HS.out]
      have R1 := E1.below hb1 E1.lt
      have e0 := R1.cell 0
      have e1 := R1.cell 1
      simp only [List.getElem?_cons_zero, List.getElem?_cons_succ] at e0 e1
      go_wp2_with fail
      refine (szLogRecord_any e _ _ h5 h6 (by omega) (by omega)).mono ?_
      rintro en w2 ⟨rfl, hb2⟩
      rw [HS2.out]
      clear hbig
      go_wp2
      go_ret
      exact ⟨rfl, by rw [← hg] at *; exact bthen b1 (bthen hb1 hb2)⟩
  · have HS := Lib.hid (lessR_gt hbig)
    clear hbig
    go_enter Tryd.func8, Tryd.ntmps8
    go_wp2_with fail
    refine (szLog_any l _ _ h1 h2 (by omega) (by omega)).mono ?_
    rintro en w1 ⟨rfl, hb1⟩
    rw [HS.out]
    go_wp2
    go_ret
    exact ⟨rfl, bthen b1 hb1⟩
end Go.Proofs.YtkjhjmehppgmcaaDoor
