/- LogRecords: both sides and the law. -/
import Derived.Test.YtkjhjmehppgmcaaDoorRecMark
namespace Go.Proofs.YtkjhjmehppgmcaaDoor
open Go.RowKit

/-- The records of a log. -/
noncomputable def recsL (l : Lg) : List ((List UInt8 × List UInt8) × Nat) := if l.ok then openF 60 0 (bl l.D ++ bl l.P) else []
def GivesRecs (l : Lg) (w : World) (e : Ending) (w' : World) : Prop := ∃ A c m, e = .returned (.tuple #[.slice A (List.length m) c, .bool l.ok]) ∧ recsOf (recsL l) m ∧ w'.ownsRow w.heap.size 27 2 (.slice A m.length c) m.length (m.flatMap Rec.enc) ∧ Below w.heap.size w w'
theorem recs_same {l : List ((List UInt8 × List UInt8) × Nat)} {m m' : List Rec} (h : recsOf l m) (h' : recsOf l m') : m = m' := by
  unfold recsOf at h h'
  have e : m.map (fun r => (bl r.c, bl r.r)) = m'.map (fun r => (bl r.c, bl r.r)) := h.trans h'.symm
  clear h h'
  induction m generalizing m' with
  | nil => cases m' with
    | nil => rfl
    | cons y m' => simp at e
  | cons x m ih => cases m' with
    | nil => simp at e
    | cons y m' =>
      simp only [List.map_cons, List.cons.injEq, Prod.mk.injEq] at e
      obtain ⟨⟨e1, e2⟩, e3⟩ := e
      obtain ⟨xc, xr⟩ := x
      obtain ⟨yc, yr⟩ := y
      rw [show xc = yc from bl_ext e1, show xr = yr from bl_ext e2, ih e3]
theorem recsL_len (l : Lg) {m : List Rec} (h : recsOf (recsL l) m) : m.length ≤ 60 := by
  rw [recsOf_len h]; unfold recsL
  split
  · exact openF_length 60 0 _
  · simp

set_option maxRecDepth 100000 in
set_option maxHeartbeats 2000000 in
theorem specLogRecords_any (l : Lg) (w : World) (hs : l.D.size + l.P.size ≤ 2000000) :
    Calls Tryd.prog 31 #[l.val] w (GivesRecs l w) := by
  have b1 := (Below.refl w.heap.size w).alloc (Nat.le_refl _) (.cells #[.string l.D, .string l.P, .int .i64 l.n] 31)
  have L1 := Lies.new w 31 #[.string l.D, .string l.P, .int .i64 l.n]
  have hz : (l.D ++ l.P).size = l.D.size + l.P.size := size_app _ _
  have hbl : bl (l.D ++ l.P) = bl l.D ++ bl l.P := bl_app _ _
  go_enter Tryd.func31, Tryd.ntmps31
  go_wp2_with fail
  generalize w.alloc (.cells #[.string l.D, .string l.P, .int .i64 l.n] 31) = W at b1 L1 ⊢
  generalize hg : w.heap.size = g at L1 ⊢
  refine (l33Log_any l _ hs).mono ?_
  rintro e w2 ⟨rfl, hb2⟩
  have L2 := L1.below hb2 L1.lt
  have c0 := L2.cell 0
  have c1 := L2.cell 1
  have c2 := L2.cell 2
  simp only [List.getElem?_cons_zero, List.getElem?_cons_succ] at c0 c1 c2
  have hbb : Below w.heap.size w w2 := by rw [← hg] at *; exact bthen b1 hb2
  cases hok : l.ok
  · have HK := Lib.hid hok
    clear hok hbl L1 L2
    have hb3 := hbb.alloc hbb.size (.cells #[] 27)
    have hO : (w2.alloc (.cells #[] 27)).ownsRow w.heap.size 27 2 (.slice (some ⟨w2.heap.size, 0, none⟩) 0 0) 0 (([] : List Rec).flatMap Rec.enc) := owns_empty (Lies.new w2 27 #[]) hbb.size
    have HO := Lib.hid hO
    clear hO
    go_wp2_with fail
    go_ret2
    exact ⟨_, _, [], by rw [HK.out]; rfl, by unfold recsL; rw [HK.out]; rfl, HO.out, hb3⟩
  · have HK := Lib.hid hok
    have hsm : l.D.size + l.P.size ≤ 30000 := by
      have h9 := logOk_small (logOk_iff.1 hok).1
      rwa [bl_size, bl_size] at h9
    have HO : Hid (∀ W, Calls Tryd.prog 54 #[.string (l.D ++ l.P)] W (GivesRead (l.D ++ l.P) W)) := fun W => l33Open_any (l.D ++ l.P) W (by omega)
    have HB := Lib.hid hbl
    clear hok hbl L1 L2
    go_wp2_with fail
    refine (HO.out _).mono ?_
    rintro e w3 ⟨A, c, m, rfl, hm, hO, hb3⟩
    go_wp2_with fail
    go_ret2
    exact ⟨A, c, m, by rw [HK.out]; rfl, by unfold recsL; rw [HK.out, if_pos rfl, ← HB.out]; exact hm, ownsRow_lower hO (hbb.size), hbb.trans (hb3.mono hbb.size)⟩

set_option maxRecDepth 100000 in
set_option maxHeartbeats 2000000 in
theorem implLogRecords_any (l : Lg) (w : World) (hs : l.D.size + l.P.size ≤ 2000000) (ht : Tab w) :
    Calls Tryd.prog 32 #[l.val] w (GivesRecs l w) := by
  have b1 := (Below.refl w.heap.size w).alloc (Nat.le_refl _) (.cells #[.string l.D, .string l.P, .int .i64 l.n] 31)
  have L1 := Lies.new w 31 #[.string l.D, .string l.P, .int .i64 l.n]
  have ht1 := ht.then b1
  have hz : (l.D ++ l.P).size = l.D.size + l.P.size := size_app _ _
  have hbl : bl (l.D ++ l.P) = bl l.D ++ bl l.P := bl_app _ _
  go_enter Tryd.func32, Tryd.ntmps32
  go_wp2_with fail
  generalize w.alloc (.cells #[.string l.D, .string l.P, .int .i64 l.n] 31) = W at ht1 b1 L1 ⊢
  generalize hg : w.heap.size = g at L1 ⊢
  refine (isLog_any l _ hs ht1).mono ?_
  rintro e w2 ⟨rfl, hb2⟩
  have L2 := L1.below hb2 L1.lt
  have c0 := L2.cell 0
  have c1 := L2.cell 1
  have c2 := L2.cell 2
  simp only [List.getElem?_cons_zero, List.getElem?_cons_succ] at c0 c1 c2
  have hbb : Below w.heap.size w w2 := by rw [← hg] at *; exact bthen b1 hb2
  cases hok : l.ok
  · have HK := Lib.hid hok
    clear hok hbl L1 L2
    go_wp2_with fail
    go_ret2
    exact ⟨none, 0, [], by rw [HK.out]; rfl, by unfold recsL; rw [HK.out]; rfl, World.ownsRow_nil _ _ _ _, hbb⟩
  · have HK := Lib.hid hok
    have hsm : l.D.size + l.P.size ≤ 30000 := by
      have h9 := logOk_small (logOk_iff.1 hok).1
      rwa [bl_size, bl_size] at h9
    have HO : Hid (∀ W, Tab W → Calls Tryd.prog 55 #[.string (l.D ++ l.P)] W (GivesOpen (l.D ++ l.P) W)) := fun W hW => readRecords_any (l.D ++ l.P) W (by omega) hW
    have HB := Lib.hid hbl
    clear hok hbl L1 L2
    go_wp2_with fail
    refine (HO.out _ (ht.then hbb)).mono ?_
    rintro e w3 ⟨A, c, A8, c8, m, rfl, hm, hO, _, hb3⟩
    go_wp2_with fail
    go_ret2
    exact ⟨A, c, m, by rw [HK.out]; rfl, by unfold recsL; rw [HK.out, if_pos rfl, ← HB.out]; exact hm, ownsRow_lower hO (hbb.size), hbb.trans (hb3.mono hbb.size)⟩

set_option maxRecDepth 100000 in
set_option maxHeartbeats 2000000 in
set_option linter.unusedVariables false in
theorem lawLogRecords_any (l : Lg) (w : World) (h1 : l.D.size ≤ 9223372036854775807) (h2 : l.P.size ≤ 9223372036854775807) (h3 : -9223372036854775808 ≤ l.n) (h4 : l.n ≤ 9223372036854775807) (ht : Tab w) :
    Calls Tryd.prog 9 #[l.val] w fun en w' => en = .returned (.bool true) ∧ Below w.heap.size w w' := by
  have b1 := (Below.refl w.heap.size w).alloc (Nat.le_refl _) (.cells #[.string l.D, .string l.P, .int .i64 l.n] 36)
  have L1 := Lies.new w 36 #[.string l.D, .string l.P, .int .i64 l.n]
  have ht1 := ht.then b1
  by_cases hbig : (l.need : Int) ≤ 1048576
  · have HS := Lib.hid (lessR_le hbig)
    have hs : l.D.size + l.P.size ≤ 2000000 := by unfold Lg.need at hbig; omega
    have hn0 : decide ((1048576 : Int) - (l.need : Int) < 0) = false := decide_eq_false (by omega)
    have cS := Lib.hid (fun W => specLogRecords_any l W hs)
    have cI := Lib.hid (fun W hW => implLogRecords_any l W hs hW)
    have HLen := Lib.hid (fun m h => recsL_len l (m := m) h)
    unfold GivesRecs at cS cI
    generalize l.ok = ok at cS cI
    generalize recsL l = R at cS cI HLen
    have hbo : (ok != ok) = false := by simp
    clear hbig
    go_enter Tryd.func9, Tryd.ntmps9
    go_wp2_with fail
    generalize w.alloc (.cells #[.string l.D, .string l.P, .int .i64 l.n] 36) = W at b1 L1 ht1 ⊢
    generalize hg : w.heap.size = g at L1 ⊢
    refine (szLog_any l _ _ h1 h2 (by omega) (by omega)).mono ?_
    rintro en w1 ⟨rfl, hb1⟩
    rw [HS.out]
    have M1 := L1.below hb1 L1.lt
    have c0 := M1.cell 0
    have c1 := M1.cell 1
    have c2 := M1.cell 2
    simp only [List.getElem?_cons_zero, List.getElem?_cons_succ] at c0 c1 c2
    go_wp2_with fail
    refine (toLog_any l _).mono ?_
    rintro en w2 ⟨rfl, hb2⟩
    have M2 := M1.below hb2 M1.lt
    go_wp2_with fail
    refine (cS.out _).mono ?_
    rintro en w3 ⟨A3, c3, m3, rfl, hm3, hO3, hb3⟩
    have M3 := M2.below hb3 M2.lt
    have k3 : Below w.heap.size w w3 := by rw [← hg] at *; exact bthen b1 (bthen hb1 (bthen hb2 hb3))
    have HM3 := Lib.hid hm3; clear hm3
    have HO3 := Lib.hid (RecsR.of hO3); clear hO3
    clear c0 c1 c2
    have c0 := M3.cell 0
    have c1 := M3.cell 1
    have c2 := M3.cell 2
    simp only [List.getElem?_cons_zero, List.getElem?_cons_succ] at c0 c1 c2
    go_wp2_with fail
    refine (toLog_any l _).mono ?_
    rintro en w4 ⟨rfl, hb4⟩
    have M4 := M3.below hb4 M3.lt
    go_wp2_with fail
    refine (cI.out _ (ht.then (bthen k3 hb4))).mono ?_
    rintro en w5 ⟨A5, c5, m5, rfl, hm5, hO5, hb5⟩
    obtain rfl : m5 = m3 := recs_same hm5 HM3.out
    clear hm5
    have M5 := M4.below hb5 M4.lt
    have k5 : Below w.heap.size w w5 := bthen k3 (bthen hb4 hb5)
    have x3 := Lib.hid (HO3.out.then (bthen hb4 hb5))
    have HO5 := Lib.hid hO5; clear hO5
    have hlen := HLen.out _ HM3.out
    go_wp2_with fail
    refine (eqRecS_any _ _ _ _ m5 _ (RecsR.of HO5.out) x3.out).mono ?_
    rintro en w6 ⟨rfl, hb6⟩
    have M6 := M5.below hb6 M5.lt
    have k6 : Below w.heap.size w w6 := bthen k5 hb6
    have HO6 := Lib.hid (ownsRow_below HO5.out hb6)
    have x6 : Hid (RecsR w6 w4.heap.size A3 m5) := SlcR.mono (SlcR.keep HO3.out (fun p hp => (bthen hb4 (bthen hb5 hb6)).cell hp)) hb4.size
    go_wp2_with fail
    have MK := markRecS_any w4.heap.size A5 c5 1 m5 w6 (by omega) (by omega) (by omega) HO6.out
    refine MK.mono ?_
    rintro en w7 ⟨rfl, hO7, hs7, hb7⟩
    have hs46 : w4.heap.size ≤ w6.heap.size := Nat.le_trans hb5.size hb6.size
    have M7 := M6.below hb7 M4.lt
    have k7 : Below w.heap.size w w7 := k6.trans (hb7.mono (by have := (bthen k3 hb4).size; omega))
    have HO7 : Hid (RecsR w7 w7.heap.size A5 (markedR 1 m5)) := by
      have h9 := RecsR.of (c := c5) (m := markedR 1 m5) (by rw [markedR_len]; exact hO7)
      exact h9
    have x7 : Hid (RecsR w7 w7.heap.size A3 m5) := SlcR.mono (SlcR.below x6.out hb7) (by omega)
    clear hO7
    go_wp2_with fail
    refine (heldRecS_any A5 c5 1 m5 w7 (by omega) (by omega) (by omega) HO7.out).mono ?_
    rintro en w8 ⟨rfl, hb8⟩
    have M8 := M7.below hb8 M7.lt
    have k8 := bthen k7 hb8
    have HO8 := Lib.hid (HO7.out.then hb8)
    have x8 := Lib.hid (x7.out.then hb8)
    clear c0 c1 c2
    have c0 := M8.cell 0
    have c1 := M8.cell 1
    have c2 := M8.cell 2
    simp only [List.getElem?_cons_zero, List.getElem?_cons_succ] at c0 c1 c2
    have hneg : decide ((1 : Int) + 2 * (m5.length : Int) < 0) = false := decide_eq_false (by omega)
    have hneg2 : ¬ ((1 : Int) + 2 * (m5.length : Int) < 0) := by omega
    have hne : ((1 : Int) + 2 * (m5.length : Int) != 1 + 2 * (m5.length : Int)) = false := by simp
    go_wp2_with fail
    refine (toLog_any l _).mono ?_
    rintro en w9 ⟨rfl, hb9⟩
    go_wp2_with fail
    refine (cI.out _ (ht.then (bthen k8 hb9))).mono ?_
    rintro en w10 ⟨A10, c10, m10, rfl, hm10, hO10, hb10⟩
    obtain rfl : m10 = m5 := recs_same hm10 HM3.out
    clear hm10
    have k10 := bthen k8 (bthen hb9 hb10)
    have HO10 := Lib.hid (RecsR.of hO10); clear hO10
    have y8 := Lib.hid (HO8.out.then (bthen hb9 hb10))
    have x10 := Lib.hid (x8.out.then (bthen hb9 hb10))
    go_wp2_with fail
    refine (eqRecS_any _ _ _ _ m10 _ HO10.out x10.out).mono ?_
    rintro en w11 ⟨rfl, hb11⟩
    have k11 := bthen k10 hb11
    have y11 := Lib.hid (y8.out.then hb11)
    go_wp2_with fail
    refine (heldRecS_any A5 c5 1 m10 w11 (by omega) (by omega) (by omega) y11.out).mono ?_
    rintro en w12 ⟨rfl, hb12⟩
    have k12 := bthen k11 hb12
    go_wp2_with fail
    go_ret
    exact ⟨rfl, k12⟩
  · have HS := Lib.hid (lessR_gt hbig)
    clear hbig
    go_enter Tryd.func9, Tryd.ntmps9
    go_wp2_with fail
    refine (szLog_any l _ _ h1 h2 (by omega) (by omega)).mono ?_
    rintro en w1 ⟨rfl, hb1⟩
    rw [HS.out]
    go_wp2
    go_ret
    exact ⟨rfl, bthen b1 hb1⟩
end Go.Proofs.YtkjhjmehppgmcaaDoor
