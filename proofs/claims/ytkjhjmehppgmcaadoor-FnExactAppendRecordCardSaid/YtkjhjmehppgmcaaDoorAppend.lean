/- AppendRecord: both sides and the law. -/
import Derived.Test.YtkjhjmehppgmcaaDoorLgTo
import Derived.Test.YtkjhjmehppgmcaaDoorEnc
import Derived.Test.YtkjhjmehppgmcaaDoorFactsT
namespace Go.Proofs.YtkjhjmehppgmcaaDoor
open Go.RowKit

noncomputable def appCode (l : Lg) (e : Rec) : Int := if l.ok && e.ok then (if l.n = 60 then 2 else 0) else 1
noncomputable def appLg (l : Lg) (e : Rec) : Lg := if l.ok && e.ok then (if l.n = 60 then l else ⟨l.D, l.P ++ ⟨(lineL l.n.toNat (bl e.c) (bl e.r)).toArray⟩, l.n + 1⟩) else l
theorem appLg_no {l : Lg} {e : Rec} (h : (l.ok && e.ok) = false) : appLg l e = l ∧ appCode l e = 1 := by unfold appLg appCode; rw [h]; exact ⟨rfl, rfl⟩
theorem appLg_full {l : Lg} {e : Rec} (h : (l.ok && e.ok) = true) (hn : l.n = 60) : appLg l e = l ∧ appCode l e = 2 := by unfold appLg appCode; rw [h, if_pos rfl, if_pos rfl, if_pos hn, if_pos hn]; exact ⟨rfl, rfl⟩
theorem appLg_yes {l : Lg} {e : Rec} (h : (l.ok && e.ok) = true) (hn : l.n ≠ 60) : appLg l e = ⟨l.D, l.P ++ ⟨(lineL l.n.toNat (bl e.c) (bl e.r)).toArray⟩, l.n + 1⟩ ∧ appCode l e = 0 := by unfold appLg appCode; rw [h, if_pos rfl, if_pos rfl, if_neg hn, if_neg hn]; exact ⟨rfl, rfl⟩

set_option maxRecDepth 100000 in
set_option maxHeartbeats 4000000 in
theorem specAppend_any (l : Lg) (e : Rec) (w : World) (hs : l.D.size + l.P.size ≤ 2000000) (h1 : e.c.size ≤ 1048576) (h2 : e.r.size ≤ 1048576) :
    Calls Tryd.prog 29 #[l.val, e.val] w fun en w' => en = .returned (.tuple #[(appLg l e).val, .int .i64 (appCode l e)]) ∧ Below w.heap.size w w' := by
  obtain ⟨D, P, n⟩ := l
  simp only at hs
  have hoff := @logOk_iff (bl D) (bl P) n
  have hoff2 := openF_length 60 0 (bl D ++ bl P)
  have HV1 := Lib.hid (appLg_no (l := ⟨D, P, n⟩) (e := e))
  have HV2 := Lib.hid (appLg_full (l := ⟨D, P, n⟩) (e := e))
  have HV3 := Lib.hid (appLg_yes (l := ⟨D, P, n⟩) (e := e))
  have HS := Lib.hid (fun W => l33Log_any ⟨D, P, n⟩ W hs)
  have HG := Lib.hid (fun W => l33Good_any e W (by omega) (by omega))
  have b1 := (((Below.refl w.heap.size w).alloc (Nat.le_refl _) (.cells #[.string D, .string P, .int .i64 n] 31)).alloc (by simp) (.cells #[.string e.c, .string e.r] 27)).alloc (by simp; omega) (.cells #[.string ⟨#[]⟩, .string ⟨#[]⟩, .int .i64 0] 31)
  have L1 := ((Lies.new w 31 #[.string D, .string P, .int .i64 n]).alloc (.cells #[.string e.c, .string e.r] 27)).alloc (.cells #[.string ⟨#[]⟩, .string ⟨#[]⟩, .int .i64 0] 31)
  have E1 := (Lies.new (w.alloc (.cells #[.string D, .string P, .int .i64 n] 31)) 27 #[.string e.c, .string e.r]).alloc (.cells #[.string ⟨#[]⟩, .string ⟨#[]⟩, .int .i64 0] 31)
  have N1 := Lies.new ((w.alloc (.cells #[.string D, .string P, .int .i64 n] 31)).alloc (.cells #[.string e.c, .string e.r] 27)) 31 #[.string ⟨#[]⟩, .string ⟨#[]⟩, .int .i64 0]
  have hg1 : (w.alloc (.cells #[.string D, .string P, .int .i64 n] 31)).heap.size = w.heap.size + 1 := by simp
  have hg2 : ((w.alloc (.cells #[.string D, .string P, .int .i64 n] 31)).alloc (.cells #[.string e.c, .string e.r] 27)).heap.size = w.heap.size + 2 := by simp
  rw [hg1] at E1
  rw [hg2] at N1
  clear hg1 hg2
  go_enter Tryd.func29, Tryd.ntmps29
  go_wp2_with fail
  generalize ((w.alloc (.cells #[.string D, .string P, .int .i64 n] 31)).alloc (.cells #[.string e.c, .string e.r] 27)).alloc (.cells #[.string ⟨#[]⟩, .string ⟨#[]⟩, .int .i64 0] 31) = W at b1 L1 E1 N1 ⊢
  generalize hg : w.heap.size = g at L1 E1 N1 ⊢
  refine (HS.out _).mono ?_
  rintro en w2 ⟨rfl, hb2⟩
  have L2 := L1.below hb2 L1.lt
  have E2 := E1.below hb2 E1.lt
  have N2 := N1.below hb2 N1.lt
  have c20 := L2.cell 0
  have c21 := L2.cell 1
  have c22 := L2.cell 2
  have e20 := E2.cell 0
  have e21 := E2.cell 1
  have n20 := N2.cell 0
  have n21 := N2.cell 1
  have n22 := N2.cell 2
  have f20 := N2.frozen 0
  have f21 := N2.frozen 1
  have f22 := N2.frozen 2
  have hl2 := L2.lt
  have he2 := E2.lt
  have hn2 := N2.lt
  simp only [List.getElem?_cons_zero, List.getElem?_cons_succ] at c20 c21 c22 e20 e21 n20 n21 n22
  have hbb2 : Below w.heap.size w w2 := by rw [← hg] at *; exact bthen b1 hb2
  cases hok : Lg.ok ⟨D, P, n⟩
  · have HK := Lib.hid (HV1.out (by rw [hok]; rfl))
    clear hok hoff hoff2 L1 E1 N1 L2 E2 N2
    go_wp2_with fail
    refine bodyPost_ret (v := .tuple #[.agg #[.string D, .string P, .int .i64 n], .int .i64 1]) (by simp [results, Tryd.results29, go_sem, *]) rfl ⟨by rw [HK.out.1, HK.out.2], ?_⟩
    refine hbb2.trans ?_
    repeat (first | exact Below.refl _ _ | refine Below.alloc ?_ (by simp; omega) _ | refine Below.setCell ?_ (by simp; omega) _)
  · have hof := hoff.1 hok
    clear hoff
    obtain ⟨k, hk⟩ : ∃ k : Nat, n = (k : Int) := ⟨_, hof.2.2.symm⟩
    have hk60 : k ≤ 60 := by have := hof.2.2; omega
    clear hoff2 hof
    subst hk
    go_wp2_with fail
    refine (HG.out _).mono ?_
    rintro en w3 ⟨rfl, hb3⟩
    clear c20 c21 c22 e20 e21 n20 n21 n22 f20 f21 f22 hl2 he2 hn2
    have L3 := L2.below hb3 L2.lt
    have E3 := E2.below hb3 E2.lt
    have N3 := N2.below hb3 N2.lt
    have c30 := L3.cell 0
    have c31 := L3.cell 1
    have c32 := L3.cell 2
    have e30 := E3.cell 0
    have e31 := E3.cell 1
    have n30 := N3.cell 0
    have n31 := N3.cell 1
    have n32 := N3.cell 2
    have f30 := N3.frozen 0
    have f31 := N3.frozen 1
    have f32 := N3.frozen 2
    have hl3 := L3.lt
    have he3 := E3.lt
    have hn3 := N3.lt
    simp only [List.getElem?_cons_zero, List.getElem?_cons_succ] at c30 c31 c32 e30 e31 n30 n31 n32
    have hbb3 : Below w.heap.size w w3 := bthen hbb2 hb3
    clear L1 E1 N1 L2 E2 N2
    cases hek : e.ok
    · have HK := Lib.hid (HV1.out (by rw [hok, hek]; rfl))
      clear hok hek L3 E3 N3
      go_wp2_with fail
      refine bodyPost_ret (v := .tuple #[.agg #[.string D, .string P, .int .i64 (k : Int)], .int .i64 1]) (by simp [results, Tryd.results29, go_sem, *]) rfl ⟨by rw [HK.out.1, HK.out.2], ?_⟩
      refine hbb3.trans ?_
      repeat (first | exact Below.refl _ _ | refine Below.alloc ?_ (by simp; omega) _ | refine Below.setCell ?_ (by simp; omega) _)
    · by_cases hfull : k = 60
      · have HK := Lib.hid (HV2.out (by rw [hok, hek]; rfl) (by simp [hfull]))
        have d1 : ((k : Int) == 60) = true := by rw [hfull]; rfl
        clear hok hek L3 E3 N3 hfull
        go_wp2_with fail
        refine bodyPost_ret (v := .tuple #[.agg #[.string D, .string P, .int .i64 (k : Int)], .int .i64 2]) (by simp [results, Tryd.results29, go_sem, *]) rfl ⟨by rw [HK.out.1, HK.out.2], ?_⟩
        refine hbb3.trans ?_
        repeat (first | exact Below.refl _ _ | refine Below.alloc ?_ (by simp; omega) _ | refine Below.setCell ?_ (by simp; omega) _)
      · have HK := Lib.hid (HV3.out (by rw [hok, hek]; rfl) (by simp; omega))
        have d1 : ((k : Int) == 60) = false := by simp; omega
        obtain ⟨ln, hln⟩ : ∃ ln : ByteArray, ln = ⟨(lineL k (bl e.c) (bl e.r)).toArray⟩ := ⟨_, rfl⟩
        have hlz : ln.size ≤ 100000000 := by rw [hln, ← bl_size, bl_mk]; have := line_len (k := k) (c := bl e.c) (r := bl e.r) hek (by omega); omega
        have HLn : Hid (∀ W, Calls Tryd.prog 50 #[.int .i64 (k : Int), e.val] W fun en w' => en = .returned (.string ln) ∧ Below W.heap.size W w') := fun W => by
          rw [hln]; exact l33Line_any k e W (by omega) (by have := (recOk_iff.1 hek).2.1; rw [bl_size] at this; omega) (by have := (recOk_iff.1 hek).2.2.2.2.2; rw [bl_size] at this; omega)
        have HK2 : Hid (appLg ⟨D, P, (k : Int)⟩ e = ⟨D, P ++ ln, (k : Int) + 1⟩ ∧ appCode ⟨D, P, (k : Int)⟩ e = 0) := by
          have h := HK.out
          rw [Int.toNat_natCast, ← hln] at h; exact h
        clear HK hok hek hln hfull HV1 HV2 HV3
        go_wp2_with fail
        have hgw : w.heap.size ≤ g := by omega
        refine wp_region_factsT (fun W9 => Lies W9 g 31 [.string D, .string P, .int .i64 (k : Int)] ∧ Lies W9 (g + 1) 27 [.string e.c, .string e.r] ∧ Lies W9 (g + 1 + 1) 31 [.string ⟨#[]⟩, .string ⟨#[]⟩, .int .i64 0] ∧ Below w.heap.size w W9) (fun _ _ => True) (by kernel_rfl) (by kernel_rfl) (by kernel_rfl) (by kernel_rfl) ⟨L3.below (Below.refl _ _).drew L3.lt, E3.below (Below.refl _ _).drew E3.lt, N3.below (Below.refl _ _).drew N3.lt, hbb3.drew⟩ ?_
        simp only [fillOps, Act.put, List.setIfInBounds_toArray, List.set_cons_zero, List.set_cons_succ, Nat.zero_add, Nat.reduceAdd]
        clear L3 E3 N3 c30 c31 c32 e30 e31 n30 n31 n32 f30 f31 f32 hl3 he3 hn3
        refine wpFactsT_val (.pointer (some ⟨g, 1, none⟩)) (fun vs w9 hC9 hB K9 hK9 => ?_) ?_
        · go_simp
          exact hK9 _ _ rfl hC9 trivial
        refine wpFactsT_val (.string P) (fun vs w9 hC9 hB K9 hK9 => ?_) ?_
        · have hd0 := hB 0 _ (by kernel_rfl) rfl
          simp only [hd0] at hK9 ⊢
          have q1 : w9.cell? ⟨g, 1, none⟩ = some (.string P) := hC9.1.cell 1
          go_simp
          exact hK9 _ _ rfl hC9 trivial
        refine wpFactsT_val (.pointer (some ⟨g, 2, none⟩)) (fun vs w9 hC9 hB K9 hK9 => ?_) ?_
        · go_simp
          exact hK9 _ _ rfl hC9 trivial
        refine wpFactsT_val (.int .i64 (k : Int)) (fun vs w9 hC9 hB K9 hK9 => ?_) ?_
        · have hd2 := hB 2 _ (by kernel_rfl) rfl
          simp only [hd2] at hK9 ⊢
          have q1 : w9.cell? ⟨g, 2, none⟩ = some (.int .i64 (k : Int)) := hC9.1.cell 2
          go_simp
          exact hK9 _ _ rfl hC9 trivial
        refine wpFactsT_val (.agg #[.string e.c, .string e.r]) (fun vs w9 hC9 hB K9 hK9 => ?_) ?_
        · have q0 : w9.cell? ⟨g + 1, 0, none⟩ = some (.string e.c) := hC9.2.1.cell 0
          have q1 : w9.cell? ⟨g + 1, 1, none⟩ = some (.string e.r) := hC9.2.1.cell 1
          go_simp
          exact hK9 _ _ rfl hC9 trivial
        refine wpFactsT_val (.string ln) (fun vs w9 hC9 hB K9 hK9 => ?_) ?_
        · have hd3 := hB 3 _ (by kernel_rfl) rfl
          have hd4 := hB 4 _ (by kernel_rfl) rfl
          simp only [hd3, hd4] at hK9 ⊢
          go_simp
          refine (HLn.out _).mono ?_
          rintro en w8 ⟨rfl, hb8⟩
          exact hK9 _ _ rfl ⟨hC9.1.below hb8 hC9.1.lt, hC9.2.1.below hb8 hC9.2.1.lt, hC9.2.2.1.below hb8 hC9.2.2.1.lt, hC9.2.2.2.trans (hb8.mono hC9.2.2.2.size)⟩ trivial
        refine wpFactsT_val (.string (P ++ ln)) (fun vs w9 hC9 hB K9 hK9 => ?_) ?_
        · have hd1 := hB 1 _ (by kernel_rfl) rfl
          have hd5 := hB 5 _ (by kernel_rfl) rfl
          simp only [hd1, hd5] at hK9 ⊢
          go_simp
          (first | (rw [if_neg (by omega)]; go_simp) | skip)
          exact hK9 _ _ rfl hC9 trivial
        refine wpFactsT_val (.pointer (some ⟨g, 1, none⟩)) (fun vs w9 hC9 hB K9 hK9 => ?_) ?_
        · go_simp
          exact hK9 _ _ rfl hC9 trivial
        refine wpFactsT_last (fun vs w9 hC9 hB K9 hK9 => ?_)
        have hd6 := hB 6 _ rfl
        have hd7 := hB 7 _ rfl
        simp only [hd6, hd7] at hK9 ⊢
        obtain ⟨L9, E9, N9, B9⟩ := hC9
        have c91 := L9.cell 1
        have f91 := L9.frozen 1
        simp only [List.getElem?_cons_zero, List.getElem?_cons_succ] at c91
        go_simp
        refine hK9 _ _ ?_
        have L4 := L9.set 1 (.string (P ++ ln))
        have E4 := E9.other (p := ⟨g, 1, none⟩) (by simp) (.string (P ++ ln))
        have N4 := N9.other (p := ⟨g, 1, none⟩) (by simp; omega) (.string (P ++ ln))
        have B4 := B9.setCell (p := ⟨g, 1, none⟩) hgw (.string (P ++ ln))
        generalize w9.setCell ⟨g, 1, none⟩ (.string (P ++ ln)) = w4 at L4 E4 N4 B4 ⊢
        simp only [List.set_cons_zero, List.set_cons_succ] at L4
        have ff2 := L4.frozen 2
        clear c91 f91 L9 E9 N9 B9 hB hK9
        have c40 := L4.cell 0
        have c41 := L4.cell 1
        have c42 := L4.cell 2
        have e40 := E4.cell 0
        have e41 := E4.cell 1
        have n40 := N4.cell 0
        have n41 := N4.cell 1
        have n42 := N4.cell 2
        have f40 := N4.frozen 0
        have f41 := N4.frozen 1
        have f42 := N4.frozen 2
        have hl4 := L4.lt
        have he4 := E4.lt
        have hn4 := N4.lt
        simp only [List.getElem?_cons_zero, List.getElem?_cons_succ] at c40 c41 c42 e40 e41 n40 n41 n42
        have hlt4 : (P ++ ln).size = P.size + ln.size := size_app _ _
        clear L4 E4 N4
        go_wp2_with fail
        refine bodyPost_ret (v := .tuple #[.agg #[.string D, .string (P ++ ln), .int .i64 ((k : Int) + 1)], .int .i64 0]) (by simp [results, Tryd.results29, go_sem, *]) rfl ⟨by rw [HK2.out.1, HK2.out.2], ?_⟩
        refine B4.trans ?_
        repeat (first | exact Below.refl _ _ | refine Below.alloc ?_ (by simp; omega) _ | refine Below.setCell ?_ (by simp; omega) _)

set_option maxRecDepth 100000 in
set_option maxHeartbeats 4000000 in
theorem implAppend_any (l : Lg) (e : Rec) (w : World) (hs : l.D.size + l.P.size ≤ 2000000) (h1 : e.c.size ≤ 1048576) (h2 : e.r.size ≤ 1048576) (ht : Tab w) :
    Calls Tryd.prog 30 #[l.val, e.val] w fun en w' => en = .returned (.tuple #[(appLg l e).val, .int .i64 (appCode l e)]) ∧ Below w.heap.size w w' := by
  obtain ⟨D, P, n⟩ := l
  simp only at hs
  have hoff := @logOk_iff (bl D) (bl P) n
  have hoff2 := openF_length 60 0 (bl D ++ bl P)
  have HV1 := Lib.hid (appLg_no (l := ⟨D, P, n⟩) (e := e))
  have HV2 := Lib.hid (appLg_full (l := ⟨D, P, n⟩) (e := e))
  have HV3 := Lib.hid (appLg_yes (l := ⟨D, P, n⟩) (e := e))
  have HS := Lib.hid (fun W hW => isLog_any ⟨D, P, n⟩ W hs hW)
  have HG := Lib.hid (fun W => isRecord_any e W (by omega) (by omega))
  have b1 := (((Below.refl w.heap.size w).alloc (Nat.le_refl _) (.cells #[.string D, .string P, .int .i64 n] 31)).alloc (by simp) (.cells #[.string e.c, .string e.r] 27)).alloc (by simp; omega) (.cells #[.string ⟨#[]⟩, .string ⟨#[]⟩, .int .i64 0] 31)
  have L1 := ((Lies.new w 31 #[.string D, .string P, .int .i64 n]).alloc (.cells #[.string e.c, .string e.r] 27)).alloc (.cells #[.string ⟨#[]⟩, .string ⟨#[]⟩, .int .i64 0] 31)
  have E1 := (Lies.new (w.alloc (.cells #[.string D, .string P, .int .i64 n] 31)) 27 #[.string e.c, .string e.r]).alloc (.cells #[.string ⟨#[]⟩, .string ⟨#[]⟩, .int .i64 0] 31)
  have N1 := Lies.new ((w.alloc (.cells #[.string D, .string P, .int .i64 n] 31)).alloc (.cells #[.string e.c, .string e.r] 27)) 31 #[.string ⟨#[]⟩, .string ⟨#[]⟩, .int .i64 0]
  have hg1 : (w.alloc (.cells #[.string D, .string P, .int .i64 n] 31)).heap.size = w.heap.size + 1 := by simp
  have hg2 : ((w.alloc (.cells #[.string D, .string P, .int .i64 n] 31)).alloc (.cells #[.string e.c, .string e.r] 27)).heap.size = w.heap.size + 2 := by simp
  rw [hg1] at E1
  rw [hg2] at N1
  have ht1 := ht.then b1
  clear hg1 hg2
  go_enter Tryd.func30, Tryd.ntmps30
  go_wp2_with fail
  generalize ((w.alloc (.cells #[.string D, .string P, .int .i64 n] 31)).alloc (.cells #[.string e.c, .string e.r] 27)).alloc (.cells #[.string ⟨#[]⟩, .string ⟨#[]⟩, .int .i64 0] 31) = W at ht1 b1 L1 E1 N1 ⊢
  generalize hg : w.heap.size = g at L1 E1 N1 ⊢
  refine (HS.out _ ht1).mono ?_
  rintro en w2 ⟨rfl, hb2⟩
  have L2 := L1.below hb2 L1.lt
  have E2 := E1.below hb2 E1.lt
  have N2 := N1.below hb2 N1.lt
  have c20 := L2.cell 0
  have c21 := L2.cell 1
  have c22 := L2.cell 2
  have e20 := E2.cell 0
  have e21 := E2.cell 1
  have n20 := N2.cell 0
  have n21 := N2.cell 1
  have n22 := N2.cell 2
  have f20 := N2.frozen 0
  have f21 := N2.frozen 1
  have f22 := N2.frozen 2
  have hl2 := L2.lt
  have he2 := E2.lt
  have hn2 := N2.lt
  simp only [List.getElem?_cons_zero, List.getElem?_cons_succ] at c20 c21 c22 e20 e21 n20 n21 n22
  have hbb2 : Below w.heap.size w w2 := by rw [← hg] at *; exact bthen b1 hb2
  cases hok : Lg.ok ⟨D, P, n⟩
  · have HK := Lib.hid (HV1.out (by rw [hok]; rfl))
    clear hok hoff hoff2 L1 E1 N1 L2 E2 N2
    go_wp2_with fail
    refine bodyPost_ret (v := .tuple #[.agg #[.string D, .string P, .int .i64 n], .int .i64 1]) (by simp [results, Tryd.results30, go_sem, *]) rfl ⟨by rw [HK.out.1, HK.out.2], ?_⟩
    refine hbb2.trans ?_
    repeat (first | exact Below.refl _ _ | refine Below.alloc ?_ (by simp; omega) _ | refine Below.setCell ?_ (by simp; omega) _)
  · have hof := hoff.1 hok
    clear hoff
    obtain ⟨k, hk⟩ : ∃ k : Nat, n = (k : Int) := ⟨_, hof.2.2.symm⟩
    have hk60 : k ≤ 60 := by have := hof.2.2; omega
    clear hoff2 hof
    subst hk
    go_wp2_with fail
    refine (HG.out _).mono ?_
    rintro en w3 ⟨rfl, hb3⟩
    clear c20 c21 c22 e20 e21 n20 n21 n22 f20 f21 f22 hl2 he2 hn2
    have L3 := L2.below hb3 L2.lt
    have E3 := E2.below hb3 E2.lt
    have N3 := N2.below hb3 N2.lt
    have c30 := L3.cell 0
    have c31 := L3.cell 1
    have c32 := L3.cell 2
    have e30 := E3.cell 0
    have e31 := E3.cell 1
    have n30 := N3.cell 0
    have n31 := N3.cell 1
    have n32 := N3.cell 2
    have f30 := N3.frozen 0
    have f31 := N3.frozen 1
    have f32 := N3.frozen 2
    have hl3 := L3.lt
    have he3 := E3.lt
    have hn3 := N3.lt
    simp only [List.getElem?_cons_zero, List.getElem?_cons_succ] at c30 c31 c32 e30 e31 n30 n31 n32
    have hbb3 : Below w.heap.size w w3 := bthen hbb2 hb3
    clear L1 E1 N1 L2 E2 N2
    cases hek : e.ok
    · have HK := Lib.hid (HV1.out (by rw [hok, hek]; rfl))
      clear hok hek L3 E3 N3
      go_wp2_with fail
      refine bodyPost_ret (v := .tuple #[.agg #[.string D, .string P, .int .i64 (k : Int)], .int .i64 1]) (by simp [results, Tryd.results30, go_sem, *]) rfl ⟨by rw [HK.out.1, HK.out.2], ?_⟩
      refine hbb3.trans ?_
      repeat (first | exact Below.refl _ _ | refine Below.alloc ?_ (by simp; omega) _ | refine Below.setCell ?_ (by simp; omega) _)
    · by_cases hfull : k = 60
      · have HK := Lib.hid (HV2.out (by rw [hok, hek]; rfl) (by simp [hfull]))
        have d1 : ((k : Int) == 60) = true := by rw [hfull]; rfl
        clear hok hek L3 E3 N3 hfull
        go_wp2_with fail
        refine bodyPost_ret (v := .tuple #[.agg #[.string D, .string P, .int .i64 (k : Int)], .int .i64 2]) (by simp [results, Tryd.results30, go_sem, *]) rfl ⟨by rw [HK.out.1, HK.out.2], ?_⟩
        refine hbb3.trans ?_
        repeat (first | exact Below.refl _ _ | refine Below.alloc ?_ (by simp; omega) _ | refine Below.setCell ?_ (by simp; omega) _)
      · have HK := Lib.hid (HV3.out (by rw [hok, hek]; rfl) (by simp; omega))
        have d1 : ((k : Int) == 60) = false := by simp; omega
        obtain ⟨ln, hln⟩ : ∃ ln : ByteArray, ln = ⟨(lineL k (bl e.c) (bl e.r)).toArray⟩ := ⟨_, rfl⟩
        have hlz : ln.size ≤ 100000000 := by rw [hln, ← bl_size, bl_mk]; have := line_len (k := k) (c := bl e.c) (r := bl e.r) hek (by omega); omega
        have HLn : Hid (∀ W, Tab W → Calls Tryd.prog 53 #[.int .i64 (k : Int), e.val] W fun en w' => en = .returned (.string ln) ∧ Below W.heap.size W w') := fun W hW => by
          rw [hln]; exact encodeRecord_any k e W (by omega) hek hW
        have HK2 : Hid (appLg ⟨D, P, (k : Int)⟩ e = ⟨D, P ++ ln, (k : Int) + 1⟩ ∧ appCode ⟨D, P, (k : Int)⟩ e = 0) := by
          have h := HK.out
          rw [Int.toNat_natCast, ← hln] at h; exact h
        clear HK hok hek hln hfull HV1 HV2 HV3
        go_wp2_with fail
        have hgw : w.heap.size ≤ g := by omega
        refine wp_region_factsT (fun W9 => Lies W9 g 31 [.string D, .string P, .int .i64 (k : Int)] ∧ Lies W9 (g + 1) 27 [.string e.c, .string e.r] ∧ Lies W9 (g + 1 + 1) 31 [.string ⟨#[]⟩, .string ⟨#[]⟩, .int .i64 0] ∧ Below w.heap.size w W9) (fun _ _ => True) (by kernel_rfl) (by kernel_rfl) (by kernel_rfl) (by kernel_rfl) ⟨L3.below (Below.refl _ _).drew L3.lt, E3.below (Below.refl _ _).drew E3.lt, N3.below (Below.refl _ _).drew N3.lt, hbb3.drew⟩ ?_
        simp only [fillOps, Act.put, List.setIfInBounds_toArray, List.set_cons_zero, List.set_cons_succ, Nat.zero_add, Nat.reduceAdd]
        clear L3 E3 N3 c30 c31 c32 e30 e31 n30 n31 n32 f30 f31 f32 hl3 he3 hn3
        refine wpFactsT_val (.pointer (some ⟨g, 1, none⟩)) (fun vs w9 hC9 hB K9 hK9 => ?_) ?_
        · go_simp
          exact hK9 _ _ rfl hC9 trivial
        refine wpFactsT_val (.string P) (fun vs w9 hC9 hB K9 hK9 => ?_) ?_
        · have hd0 := hB 0 _ (by kernel_rfl) rfl
          simp only [hd0] at hK9 ⊢
          have q1 : w9.cell? ⟨g, 1, none⟩ = some (.string P) := hC9.1.cell 1
          go_simp
          exact hK9 _ _ rfl hC9 trivial
        refine wpFactsT_val (.pointer (some ⟨g, 2, none⟩)) (fun vs w9 hC9 hB K9 hK9 => ?_) ?_
        · go_simp
          exact hK9 _ _ rfl hC9 trivial
        refine wpFactsT_val (.int .i64 (k : Int)) (fun vs w9 hC9 hB K9 hK9 => ?_) ?_
        · have hd2 := hB 2 _ (by kernel_rfl) rfl
          simp only [hd2] at hK9 ⊢
          have q1 : w9.cell? ⟨g, 2, none⟩ = some (.int .i64 (k : Int)) := hC9.1.cell 2
          go_simp
          exact hK9 _ _ rfl hC9 trivial
        refine wpFactsT_val (.agg #[.string e.c, .string e.r]) (fun vs w9 hC9 hB K9 hK9 => ?_) ?_
        · have q0 : w9.cell? ⟨g + 1, 0, none⟩ = some (.string e.c) := hC9.2.1.cell 0
          have q1 : w9.cell? ⟨g + 1, 1, none⟩ = some (.string e.r) := hC9.2.1.cell 1
          go_simp
          exact hK9 _ _ rfl hC9 trivial
        refine wpFactsT_val (.string ln) (fun vs w9 hC9 hB K9 hK9 => ?_) ?_
        · have hd3 := hB 3 _ (by kernel_rfl) rfl
          have hd4 := hB 4 _ (by kernel_rfl) rfl
          simp only [hd3, hd4] at hK9 ⊢
          go_simp
          refine (HLn.out _ (ht.then hC9.2.2.2)).mono ?_
          rintro en w8 ⟨rfl, hb8⟩
          exact hK9 _ _ rfl ⟨hC9.1.below hb8 hC9.1.lt, hC9.2.1.below hb8 hC9.2.1.lt, hC9.2.2.1.below hb8 hC9.2.2.1.lt, hC9.2.2.2.trans (hb8.mono hC9.2.2.2.size)⟩ trivial
        refine wpFactsT_val (.string (P ++ ln)) (fun vs w9 hC9 hB K9 hK9 => ?_) ?_
        · have hd1 := hB 1 _ (by kernel_rfl) rfl
          have hd5 := hB 5 _ (by kernel_rfl) rfl
          simp only [hd1, hd5] at hK9 ⊢
          go_simp
          (first | (rw [if_neg (by omega)]; go_simp) | skip)
          exact hK9 _ _ rfl hC9 trivial
        refine wpFactsT_val (.pointer (some ⟨g, 1, none⟩)) (fun vs w9 hC9 hB K9 hK9 => ?_) ?_
        · go_simp
          exact hK9 _ _ rfl hC9 trivial
        refine wpFactsT_last (fun vs w9 hC9 hB K9 hK9 => ?_)
        have hd6 := hB 6 _ rfl
        have hd7 := hB 7 _ rfl
        simp only [hd6, hd7] at hK9 ⊢
        obtain ⟨L9, E9, N9, B9⟩ := hC9
        have c91 := L9.cell 1
        have f91 := L9.frozen 1
        simp only [List.getElem?_cons_zero, List.getElem?_cons_succ] at c91
        go_simp
        refine hK9 _ _ ?_
        have L4 := L9.set 1 (.string (P ++ ln))
        have E4 := E9.other (p := ⟨g, 1, none⟩) (by simp) (.string (P ++ ln))
        have N4 := N9.other (p := ⟨g, 1, none⟩) (by simp; omega) (.string (P ++ ln))
        have B4 := B9.setCell (p := ⟨g, 1, none⟩) hgw (.string (P ++ ln))
        generalize w9.setCell ⟨g, 1, none⟩ (.string (P ++ ln)) = w4 at L4 E4 N4 B4 ⊢
        simp only [List.set_cons_zero, List.set_cons_succ] at L4
        have ff2 := L4.frozen 2
        clear c91 f91 L9 E9 N9 B9 hB hK9
        have c40 := L4.cell 0
        have c41 := L4.cell 1
        have c42 := L4.cell 2
        have e40 := E4.cell 0
        have e41 := E4.cell 1
        have n40 := N4.cell 0
        have n41 := N4.cell 1
        have n42 := N4.cell 2
        have f40 := N4.frozen 0
        have f41 := N4.frozen 1
        have f42 := N4.frozen 2
        have hl4 := L4.lt
        have he4 := E4.lt
        have hn4 := N4.lt
        simp only [List.getElem?_cons_zero, List.getElem?_cons_succ] at c40 c41 c42 e40 e41 n40 n41 n42
        have hlt4 : (P ++ ln).size = P.size + ln.size := size_app _ _
        clear L4 E4 N4
        go_wp2_with fail
        refine bodyPost_ret (v := .tuple #[.agg #[.string D, .string (P ++ ln), .int .i64 ((k : Int) + 1)], .int .i64 0]) (by simp [results, Tryd.results30, go_sem, *]) rfl ⟨by rw [HK2.out.1, HK2.out.2], ?_⟩
        refine B4.trans ?_
        repeat (first | exact Below.refl _ _ | refine Below.alloc ?_ (by simp; omega) _ | refine Below.setCell ?_ (by simp; omega) _)

end Go.Proofs.YtkjhjmehppgmcaaDoor
