/- SyncLog: both sides and the law. -/
import Derived.Test.YtkjhjmehppgmcaaDoorLgTo
namespace Go.Proofs.YtkjhjmehppgmcaaDoor
open Go.RowKit

noncomputable def syncLg (l : Lg) : Lg := if l.ok then ⟨l.D ++ l.P, ⟨#[]⟩, l.n⟩ else ⟨⟨#[]⟩, ⟨#[]⟩, 0⟩

set_option maxRecDepth 100000 in
set_option maxHeartbeats 2000000 in
theorem specSync_any (l : Lg) (w : World) (hs : l.D.size + l.P.size ≤ 2000000) :
    Calls Tryd.prog 27 #[l.val] w fun e w' => e = .returned (.tuple #[(syncLg l).val, .bool l.ok]) ∧ Below w.heap.size w w' := by
  have b1 := ((Below.refl w.heap.size w).alloc (Nat.le_refl _) (.cells #[.string l.D, .string l.P, .int .i64 l.n] 31)).alloc (by simp) (.cells #[.string ⟨#[]⟩, .string ⟨#[]⟩, .int .i64 0] 31)
  have L1 := (Lies.new w 31 #[.string l.D, .string l.P, .int .i64 l.n]).alloc (.cells #[.string ⟨#[]⟩, .string ⟨#[]⟩, .int .i64 0] 31)
  have N1 := Lies.new (w.alloc (.cells #[.string l.D, .string l.P, .int .i64 l.n] 31)) 31 #[.string ⟨#[]⟩, .string ⟨#[]⟩, .int .i64 0]
  have hz : (l.D ++ l.P).size = l.D.size + l.P.size := size_app _ _
  have HOk : Hid (syncLg l = if l.ok then ⟨l.D ++ l.P, ⟨#[]⟩, l.n⟩ else ⟨⟨#[]⟩, ⟨#[]⟩, 0⟩) := rfl
  go_enter Tryd.func27, Tryd.ntmps27
  go_wp2_with fail
  have hgg : (w.alloc (.cells #[.string l.D, .string l.P, .int .i64 l.n] 31)).heap.size = w.heap.size + 1 := by simp
  generalize (w.alloc (.cells #[.string l.D, .string l.P, .int .i64 l.n] 31)).alloc (.cells #[.string ⟨#[]⟩, .string ⟨#[]⟩, .int .i64 0] 31) = W at  b1 L1 N1 ⊢
  rw [hgg] at N1
  generalize hg : w.heap.size = g at L1 N1 ⊢
  refine (l33Log_any l _ hs).mono ?_
  rintro e w2 ⟨rfl, hb2⟩
  have L2 := L1.below hb2 L1.lt
  have N2 := N1.below hb2 N1.lt
  have c0 := L2.cell 0
  have c1 := L2.cell 1
  have c2 := L2.cell 2
  have n0 := N2.cell 0
  have n1 := N2.cell 1
  have n2 := N2.cell 2
  have f0 := N2.frozen 0
  have f1 := N2.frozen 1
  have f2 := N2.frozen 2
  have hgl := L2.lt
  have hnl := N2.lt
  simp only [List.getElem?_cons_zero, List.getElem?_cons_succ] at c0 c1 c2 n0 n1 n2
  have hbb : Below w.heap.size w w2 := by rw [← hg] at *; exact bthen b1 hb2
  clear L1 L2 N1 N2
  cases hok : l.ok
  · have HV : Hid (syncLg l = ⟨⟨#[]⟩, ⟨#[]⟩, 0⟩) := by rw [HOk.out, hok]; rfl
    have HK := Lib.hid hok
    clear hok HOk
    go_wp2_with fail
    refine bodyPost_ret (v := .tuple #[.agg #[.string ⟨#[]⟩, .string ⟨#[]⟩, .int .i64 0], .bool false]) (by simp [results, Tryd.results27, go_sem, *]) rfl ⟨by rw [HK.out, HV.out], ?_⟩
    refine hbb.trans ?_
    repeat (first | exact Below.refl _ _ | refine Below.setCell ?_ (by simp; omega) _)
  · have HV : Hid (syncLg l = ⟨l.D ++ l.P, ⟨#[]⟩, l.n⟩) := by rw [HOk.out, hok]; rfl
    have HK := Lib.hid hok
    clear hok HOk
    go_wp2_with fail
    refine bodyPost_ret (v := .tuple #[.agg #[.string (l.D ++ l.P), .string ⟨#[]⟩, .int .i64 l.n], .bool true]) (by simp [results, Tryd.results27, go_sem, *]) rfl ⟨by rw [HK.out, HV.out], ?_⟩
    refine hbb.trans ?_
    repeat (first | exact Below.refl _ _ | refine Below.setCell ?_ (by simp; omega) _)

set_option maxRecDepth 100000 in
set_option maxHeartbeats 2000000 in
theorem implSync_any (l : Lg) (w : World) (hs : l.D.size + l.P.size ≤ 2000000) (ht : Tab w) :
    Calls Tryd.prog 28 #[l.val] w fun e w' => e = .returned (.tuple #[(syncLg l).val, .bool l.ok]) ∧ Below w.heap.size w w' := by
  have b1 := ((Below.refl w.heap.size w).alloc (Nat.le_refl _) (.cells #[.string l.D, .string l.P, .int .i64 l.n] 31)).alloc (by simp) (.cells #[.string ⟨#[]⟩, .string ⟨#[]⟩, .int .i64 0] 31)
  have L1 := (Lies.new w 31 #[.string l.D, .string l.P, .int .i64 l.n]).alloc (.cells #[.string ⟨#[]⟩, .string ⟨#[]⟩, .int .i64 0] 31)
  have N1 := Lies.new (w.alloc (.cells #[.string l.D, .string l.P, .int .i64 l.n] 31)) 31 #[.string ⟨#[]⟩, .string ⟨#[]⟩, .int .i64 0]
  have ht1 := ht.then b1
  have hz : (l.D ++ l.P).size = l.D.size + l.P.size := size_app _ _
  have HOk : Hid (syncLg l = if l.ok then ⟨l.D ++ l.P, ⟨#[]⟩, l.n⟩ else ⟨⟨#[]⟩, ⟨#[]⟩, 0⟩) := rfl
  go_enter Tryd.func28, Tryd.ntmps28
  go_wp2_with fail
  have hgg : (w.alloc (.cells #[.string l.D, .string l.P, .int .i64 l.n] 31)).heap.size = w.heap.size + 1 := by simp
  generalize (w.alloc (.cells #[.string l.D, .string l.P, .int .i64 l.n] 31)).alloc (.cells #[.string ⟨#[]⟩, .string ⟨#[]⟩, .int .i64 0] 31) = W at ht1 b1 L1 N1 ⊢
  rw [hgg] at N1
  generalize hg : w.heap.size = g at L1 N1 ⊢
  refine (isLog_any l _ hs ht1).mono ?_
  rintro e w2 ⟨rfl, hb2⟩
  have L2 := L1.below hb2 L1.lt
  have N2 := N1.below hb2 N1.lt
  have c0 := L2.cell 0
  have c1 := L2.cell 1
  have c2 := L2.cell 2
  have n0 := N2.cell 0
  have n1 := N2.cell 1
  have n2 := N2.cell 2
  have f0 := N2.frozen 0
  have f1 := N2.frozen 1
  have f2 := N2.frozen 2
  have hgl := L2.lt
  have hnl := N2.lt
  simp only [List.getElem?_cons_zero, List.getElem?_cons_succ] at c0 c1 c2 n0 n1 n2
  have hbb : Below w.heap.size w w2 := by rw [← hg] at *; exact bthen b1 hb2
  clear L1 L2 N1 N2
  cases hok : l.ok
  · have HV : Hid (syncLg l = ⟨⟨#[]⟩, ⟨#[]⟩, 0⟩) := by rw [HOk.out, hok]; rfl
    have HK := Lib.hid hok
    clear hok HOk
    go_wp2_with fail
    refine bodyPost_ret (v := .tuple #[.agg #[.string ⟨#[]⟩, .string ⟨#[]⟩, .int .i64 0], .bool false]) (by simp [results, Tryd.results28, go_sem, *]) rfl ⟨by rw [HK.out, HV.out], ?_⟩
    refine hbb.trans ?_
    repeat (first | exact Below.refl _ _ | refine Below.setCell ?_ (by simp; omega) _)
  · have HV : Hid (syncLg l = ⟨l.D ++ l.P, ⟨#[]⟩, l.n⟩) := by rw [HOk.out, hok]; rfl
    have HK := Lib.hid hok
    clear hok HOk
    go_wp2_with fail
    refine bodyPost_ret (v := .tuple #[.agg #[.string (l.D ++ l.P), .string ⟨#[]⟩, .int .i64 l.n], .bool true]) (by simp [results, Tryd.results28, go_sem, *]) rfl ⟨by rw [HK.out, HV.out], ?_⟩
    refine hbb.trans ?_
    repeat (first | exact Below.refl _ _ | refine Below.setCell ?_ (by simp; omega) _)

set_option maxRecDepth 100000 in
set_option maxHeartbeats 1000000 in
set_option linter.unusedVariables false in
theorem lawSyncLog_any (l : Lg) (w : World) (h1 : l.D.size ≤ 9223372036854775807) (h2 : l.P.size ≤ 9223372036854775807) (h3 : -9223372036854775808 ≤ l.n) (h4 : l.n ≤ 9223372036854775807) (ht : Tab w) :
    Calls Tryd.prog 7 #[l.val] w fun en w' => en = .returned (.bool true) ∧ Below w.heap.size w w' := by
  have b1 := (Below.refl w.heap.size w).alloc (Nat.le_refl _) (.cells #[.string l.D, .string l.P, .int .i64 l.n] 36)
  have L1 := Lies.new w 36 #[.string l.D, .string l.P, .int .i64 l.n]
  have ht1 := ht.then b1
  by_cases hbig : (l.need : Int) ≤ 1048576
  · have HS := Lib.hid (lessR_le hbig)
    have hs : l.D.size + l.P.size ≤ 2000000 := by unfold Lg.need at hbig; omega
    have hn0 : decide ((1048576 : Int) - (l.need : Int) < 0) = false := decide_eq_false (by omega)
    have cS := fun W => specSync_any l W hs
    have cI := fun W hW => implSync_any l W hs hW
    generalize syncLg l = lg at cS cI
    generalize l.ok = ok at cS cI
    have hbo : (ok != ok) = false := by simp
    have HE := Lib.hid (fun W => eqLog_yes lg W)
    clear hbig
    go_enter Tryd.func7, Tryd.ntmps7
    go_wp2_with fail
    generalize w.alloc (.cells #[.string l.D, .string l.P, .int .i64 l.n] 36) = W at b1 L1 ht1 ⊢
    generalize hg : w.heap.size = g at L1 ⊢
    refine (szLog_any l _ _ h1 h2 (by omega) (by omega)).mono ?_
    rintro en w1 ⟨rfl, hb1⟩
    rw [HS.out]
    have M1 := L1.below hb1 L1.lt
    have c0 := M1.cell 0
    have c1 := M1.cell 1
    have c2 := M1.cell 2
    simp only [List.getElem?_cons_zero, List.getElem?_cons_succ] at c0 c1 c2
    go_wp2_with fail
    refine (toLog_any l _).mono ?_
    rintro en w2 ⟨rfl, hb2⟩
    have M2 := M1.below hb2 M1.lt
    go_wp2_with fail
    refine (cS _).mono ?_
    rintro en w3 ⟨rfl, hb3⟩
    have M3 := M2.below hb3 M2.lt
    have M4 := M3.alloc (.cells #[.string lg.D, .string lg.P, .int .i64 lg.n] 31)
    clear c0 c1 c2
    have c0 := M3.cell 0
    have c1 := M3.cell 1
    have c2 := M3.cell 2
    have hgl := M3.lt
    simp only [List.getElem?_cons_zero, List.getElem?_cons_succ] at c0 c1 c2
    go_wp2_with fail
    have b4 := (Below.refl w3.heap.size w3).alloc (Nat.le_refl _) (.cells #[.string lg.D, .string lg.P, .int .i64 lg.n] 31)
    have N4 := Lies.new w3 31 #[.string lg.D, .string lg.P, .int .i64 lg.n]
    generalize w3.alloc (.cells #[.string lg.D, .string lg.P, .int .i64 lg.n] 31) = w4 at b4 N4 M4 ⊢
    generalize hg4 : w3.heap.size = g4 at N4 ⊢
    clear c0 c1 c2
    refine (toLog_any l _).mono ?_
    rintro en w5 ⟨rfl, hb5⟩
    have N5 := N4.below hb5 N4.lt
    go_wp2_with fail
    refine (cI _ ((((((ht1.then hb1).then hb2).then hb3).then b4).then hb5))).mono ?_
    rintro en w6 ⟨rfl, hb6⟩
    have N6 := N5.below hb6 N5.lt
    have k0 := N6.cell 0
    have k1 := N6.cell 1
    have k2 := N6.cell 2
    have hkl := N6.lt
    simp only [List.getElem?_cons_zero, List.getElem?_cons_succ] at k0 k1 k2
    have b7 := hb6.alloc hb6.size (.cells #[.string lg.D, .string lg.P, .int .i64 lg.n] 31)
    have hfin : Below w.heap.size w w5 := by rw [← hg, ← hg4] at *; exact bthen b1 (bthen hb1 (bthen hb2 (bthen hb3 (bthen b4 hb5))))
    clear M1 M2 M3 M4 N4 N5 N6 L1
    go_wp2_with (go_at_call 20; refine (HE.out _).mono ?_; rintro en w8 ⟨rfl, hb8⟩)
    go_ret
    exact ⟨rfl, bthen hfin (bthen b7 hb8)⟩
  · have HS := Lib.hid (lessR_gt hbig)
    clear hbig
    go_enter Tryd.func7, Tryd.ntmps7
    go_wp2_with fail
    refine (szLog_any l _ _ h1 h2 (by omega) (by omega)).mono ?_
    rintro en w1 ⟨rfl, hb1⟩
    rw [HS.out]
    go_wp2
    go_ret
    exact ⟨rfl, bthen b1 hb1⟩
end Go.Proofs.YtkjhjmehppgmcaaDoor
