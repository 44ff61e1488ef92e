/- OfficeReport in the program; the law. -/
import Derived.Test.YtgdjdejfegkjdaaDoorReport
namespace Go.Proofs.YtgdjdejfegkjdaaDoor
open Go.RowKit

set_option maxRecDepth 100000 in
set_option maxHeartbeats 2000000 in
theorem implReport_any (A : Option Addr) (c : Nat) (l : List Row) (w : World) (h : RowsR w w.heap.size A l) (ht : Tab w) :
    Calls Tryd.prog 12 #[.slice A l.length c] w fun e w' => e = .returned (.tuple #[.string (reportV l), .bool (goodRows l)]) ∧ Below w.heap.size w w' := by
  have hl := h.big
  have hS := areOfficeRows_any A c l w h
  cases hg : goodRows l
  · have HV : Hid (reportV l = ⟨#[]⟩) := by unfold reportV Hid; rw [hg]; rfl
    rw [hg] at hS
    have HG := Lib.hid hg; clear hg
    have HS := Lib.hid hS; clear hS
    go_enter Tryd.func12, Tryd.ntmps12
    go_wp2_with fail
    refine (HS.out).mono ?_
    rintro e w1 ⟨rfl, hb1⟩
    go_wp2_with fail
    go_ret2
    exact ⟨by rw [HV.out]; rfl, hb1⟩
  · have h12 := good_len hg
    have hall : ∀ i (hi : i < l.length), l[i].ok = true := fun i hi => good_at hg hi
    have HA := Lib.hid hall
    have hsb := soldF_bound l 0 hall (by omega)
    have HV : Hid (reportV l = ⟨(reportT l).toArray⟩) := by unfold reportV Hid; rw [hg]; rfl
    rw [hg] at hS
    clear hall
    have HG := Lib.hid hg; clear hg
    have HS := Lib.hid hS; clear hS
    obtain ⟨sd, hsd⟩ : ∃ sd, sd = soldF 0 l := ⟨_, rfl⟩
    rw [← hsd] at hsb
    have HSD : Hid (soldF 0 (l.drop 0) = sd) := hsd.symm
    obtain ⟨ts, hts⟩ : ∃ t : ByteArray, t = ⟨(Lib.itoa sd).toArray⟩ := ⟨_, rfl⟩
    have hz : ts.size ≤ 100 := by rw [hts]; exact itoa_len (by omega) (by omega)
    have HN : Hid (∀ W, Tab W → Calls Tryd.prog 24 #[.int .i64 sd] W fun e w' => e = .returned (.string ts) ∧ Below W.heap.size W w') := fun W hW => by rw [hts]; exact itoa_any sd W (by omega) (by omega) hW
    have HF : Hid (bl ⟨#[]⟩ ++ repT (l.drop 0) = repT l) := rfl
    have HT : Hid (reportT l = repT l ++ ([115, 111, 108, 100, 32] ++ bl ts)) := by rw [Hid, hts, bl_mk, hsd]; rfl
    clear hts hsd
    have z1 : (⟨#[10]⟩ : ByteArray).size = 1 := rfl
    have z2 : (⟨#[115, 111, 108, 100, 32]⟩ : ByteArray).size = 5 := rfl
    go_enter Tryd.func12, Tryd.ntmps12
    go_wp2_with fail
    refine (HS.out).mono ?_
    rintro e w1 ⟨rfl, hb1⟩
    have hr1 : RowsR w1 w1.heap.size A l := h.then hb1
    have ht1 := ht.then hb1
    have hrd := hr1.row
    go_wp2_with fail
    go_loopw [4, 5, 7, 13] (fun o sv _ i wr => ∃ (k : Nat) (x : ByteArray) (s : Int), k ≤ l.length ∧ i = .int .i64 k ∧ o = .string x ∧ sv = .int .i64 s ∧ x.size ≤ 3000 * k ∧ 0 ≤ s ∧ s ≤ 9999 * (k : Int) ∧ Hid (bl x ++ repT (l.drop k) = repT l) ∧ Hid (soldF s (l.drop k) = sd) ∧ (∃ q : Since w1.heap.size w1, wr = q.val)) (fun _ _ _ i _ => l.length - (intOf i).toNat)
    case atStart => exact ⟨0, ⟨#[]⟩, 0, Nat.zero_le _, rfl, rfl, rfl, by decide, by omega, by omega, HF, HSD, ⟨Since.start _ _, rfl⟩⟩
    case round =>
      obtain ⟨k, x, s, hk, rfl, rfl, rfl, hx, hs0, hs1, HR, HSk, ⟨q, rfl⟩⟩ := hrel
      by_cases hlt : k < l.length
      · obtain ⟨b, off, rfl, hb, hcell⟩ := hrd (by omega)
        obtain ⟨c0, c1, c2, c3, c4⟩ := hcell k hlt
        have hok := HA.out k hlt
        obtain ⟨_, _, ⟨u1, u2⟩, _⟩ := Row.bounds hok
        have HD := Lib.hid (repT_drop hlt)
        have HSt := Lib.hid (soldF_drop hlt s)
        obtain ⟨y, hy⟩ : ∃ y, y = l[k] := ⟨_, rfl⟩
        rw [← hy] at c0 c1 c2 c3 c4 hok HD u1 u2 HSt
        have HL := Lib.hid (fun W hW => officeLine_any y W hok hW)
        have hls := lineO_size hok
        have HLB := Lib.hid (lineO_bl y)
        clear hy hcell hrd hok
        generalize lineO y = t at HL hls HLB
        have N1 := Lies.new q.val 26 #[.int .i64 y.m, .int .i64 y.b, .int .i64 y.s, .int .i64 y.c, .int .i64 y.l]
        have bq := (Below.refl q.val.heap.size q.val).alloc (Nat.le_refl _) (.cells #[.int .i64 y.m, .int .i64 y.b, .int .i64 y.s, .int .i64 y.c, .int .i64 y.l] 26)
        have htq := (ht1.at q).then bq
        go_wp2_with fail
        refine (HL.out _ htq).mono ?_
        rintro e w2 ⟨rfl, hb2⟩
        have N2 := N1.below hb2 N1.lt
        have d2 := N2.cell 2
        simp only [List.getElem?_cons_zero, List.getElem?_cons_succ] at d2
        have hq2 := bthen bq hb2
        clear N1 N2 bq
        go_wp2_with fail
        go_roundw
        case rel => exact ⟨k + 1, x ++ (t ++ ⟨#[10]⟩), s + y.s, by omega, by go_num, rfl, rfl, by rw [size_app, size_app, z1]; omega, by omega, by omega, by
          have h9 := HR.out
          rw [HD.out, ← HLB.out] at h9
          rw [Hid, bl_app, bl_app, ← h9]
          simp [bl], by have h9 := HSk.out; rw [HSt.out] at h9; exact h9, ⟨q.go (Nat.le_refl _) hq2, rfl⟩⟩
        case measure => simp [intOf]; omega
      · have HX : Hid (bl x = repT l) := by
          have h9 := HR.out
          rw [List.drop_eq_nil_of_le (by omega), show repT [] = [] from rfl, List.append_nil] at h9; exact h9
        have hss : s = sd := by
          have h9 := HSk.out
          rw [List.drop_eq_nil_of_le (by omega)] at h9; exact h9
        subst hss
        clear hrd
        go_wp2_with fail
        refine (HN.out _ (ht1.at q)).mono ?_
        rintro e w2 ⟨rfl, hb2⟩
        go_wp2_with fail
        have key : (x ++ ⟨#[115, 111, 108, 100, 32]⟩ ++ ts : ByteArray) = reportV l := by
          rw [HV.out]; refine bl_ext ?_
          rw [HT.out, bl_app, bl_app, HX.out, List.append_assoc]; rfl
        go_ret2
        exact ⟨by rw [← key]; rfl, bthen hb1 (q.below.trans (hb2.mono q.size))⟩

set_option maxHeartbeats 1000000 in
theorem lawOfficeReport_any (A : Option Addr) (c : Nat) (l : List Row) (w : World) (h : RowsR w w.heap.size A l) (ht : Tab w) :
    Calls Tryd.prog 4 #[.slice A l.length c] w fun e w' => e = .returned (.bool true) ∧ Below w.heap.size w w' := by
  have hl := h.big
  have cS := fun A c W h => specReport_any A c l W h
  have cI := fun A c W h hW => implReport_any A c l W h hW
  generalize reportV l = x at cS cI
  generalize goodRows l = ok at cS cI
  have hbo : (ok != ok) = false := by simp
  have hbx : (x.toList != x.toList) = false := by simp
  by_cases hbig : (l.length : Int) ≤ 1048576
  · have HS : lessen 1048576 l.length = 1048576 - l.length := by unfold lessen; rw [if_pos (by omega)]
    have HZ := Lib.hid HS; clear HS
    go_enter Tryd.func4, Tryd.ntmps4
    go_wp2_with fail
    refine (szRows_any A _ c _ _ hl (by omega) (by omega)).mono ?_
    rintro e w0 ⟨rfl, rfl⟩
    rw [HZ.out]
    go_wp2_with fail
    refine (toRows_any A c l _ h (by omega)).mono ?_
    rintro e w1 ⟨g1, rfl, hg1, hl1, hb1⟩
    go_wp2_with fail
    refine (cS _ _ _ (lies_rows hl1 hl)).mono ?_
    rintro e w2 ⟨rfl, hb2⟩
    have k2 := bthen hb1 hb2
    go_wp2_with fail
    refine (toRows_any A c l _ (h.then k2) (by omega)).mono ?_
    rintro e w3 ⟨g3, rfl, hg3, hl3, hb3⟩
    have k3 := bthen k2 hb3
    go_wp2_with fail
    refine (cI _ _ _ (lies_rows hl3 hl) (ht.then k3)).mono ?_
    rintro e w4 ⟨rfl, hb4⟩
    have k4 := bthen k3 hb4
    go_wp2_with fail
    refine (toRows_any A c l _ (h.then k4) (by omega)).mono ?_
    rintro e w5 ⟨g5, rfl, hg5, hl5, hb5⟩
    have k5 := bthen k4 hb5
    go_wp2_with fail
    refine (eqRows_any _ _ _ _ l l _ ((lies_rows hl3 hl).then (bthen hb4 hb5)) (lies_rows hl5 hl)).mono ?_
    rintro e w6 ⟨rfl, hb6⟩
    have k6 := bthen k5 hb6
    have hs : sameRows l l = true := by simp [sameRows]
    rw [hs]
    go_wp2_with fail
    go_ret
    exact ⟨rfl, k6⟩
  · have HS : lessen 1048576 l.length = -1 := by unfold lessen; rw [if_neg (by omega)]
    have HZ := Lib.hid HS; clear HS
    go_enter Tryd.func4, Tryd.ntmps4
    go_wp2_with fail
    refine (szRows_any A _ c _ _ hl (by omega) (by omega)).mono ?_
    rintro e w0 ⟨rfl, rfl⟩
    rw [HZ.out]
    go_wp2_with fail
    go_ret
    exact ⟨rfl, Below.refl _ _⟩
end Go.Proofs.YtgdjdejfegkjdaaDoor
