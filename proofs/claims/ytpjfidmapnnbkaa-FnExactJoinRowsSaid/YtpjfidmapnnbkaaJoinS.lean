/- Joined rows, in the reference. (Printed by gen_join2.py) -/
import Derived.Test.YtpjfidmapnnbkaaJoinI
namespace Go.Proofs.Ytpjfidmapnnbkaa
open Go.RowKit

theorem merge_end1 {l : List Row} {i : Nat} (h : i < l.length) : mergeR (l.drop i) [] = l[i] :: mergeR (l.drop (i + 1)) [] := by
  rw [mergeR_nil, mergeR_nil, List.drop_eq_getElem_cons h]
theorem merge_end2 {m : List Row} {k : Nat} (h : k < m.length) : mergeR [] (m.drop k) = m[k] :: mergeR [] (m.drop (k + 1)) := by
  rw [mergeR, mergeR, List.drop_eq_getElem_cons h]
theorem merge_step {l m : List Row} {i k : Nat} (h : i < l.length) (h' : k < m.length) : mergeR (l.drop i) (m.drop k) =
    if l[i].m < m[k].m then l[i] :: mergeR (l.drop (i + 1)) (m.drop k) else if m[k].m < l[i].m then m[k] :: mergeR (l.drop i) (m.drop (k + 1)) else addR l[i] m[k] :: mergeR (l.drop (i + 1)) (m.drop (k + 1)) := by
  rw [List.drop_eq_getElem_cons h, List.drop_eq_getElem_cons h', mergeR]

/-- The reference's result reads. -/
def ReadsRows (w : World) (R : List Row × Bool) (e : Ending) (w' : World) : Prop := ∃ A c, e = .returned (.tuple #[.slice A R.1.length c, .bool R.2]) ∧ RowsR w' w'.heap.size A R.1 ∧ Below w.heap.size w w'

set_option maxRecDepth 100000 in
set_option maxHeartbeats 4000000 in
theorem specJoin_any (A : Option Addr) (c : Nat) (l : List Row) (A' : Option Addr) (c' : Nat) (m : List Row) (w : World) (h : RowsR w w.heap.size A l) (h' : RowsR w w.heap.size A' m) :
    Calls Try.prog 6 #[.slice A l.length c, .slice A' m.length c'] w (ReadsRows w (joinBoth l m)) := by
  have hl := h.big
  have hm := h'.big
  have ca := fun W hW => l31Good_any A c l W hW
  have cb := fun W hW => l31Good_any A' c' m W hW
  cases hg : goodRows l
  · have HN := Lib.hid (join_no (a := l) (b := m) (by rw [hg]; rfl))
    rw [hg] at ca
    clear hg
    go_enter Try.func6, Try.ntmps6
    go_wp2_with fail
    refine (ca _ h).mono ?_
    rintro e w1 ⟨rfl, hb1⟩
    go_wp2
    go_ret2
    rw [HN.out]
    exact ⟨_, _, rfl, SlcR.nil _ _ _ _, hb1.trans ((Below.refl w1.heap.size w1).alloc (Nat.le_refl _) _ |>.mono hb1.size)⟩
  · cases hg' : goodRows m
    · have HN := Lib.hid (join_no (a := l) (b := m) (by rw [hg, hg']; rfl))
      rw [hg] at ca
      rw [hg'] at cb
      clear hg hg'
      go_enter Try.func6, Try.ntmps6
      go_wp2_with fail
      refine (ca _ h).mono ?_
      rintro e w1 ⟨rfl, hb1⟩
      go_wp2_with fail
      refine (cb _ (SlcR.then h' hb1)).mono ?_
      rintro e w2 ⟨rfl, hb2⟩
      have k2 := bthen hb1 hb2
      go_wp2
      go_ret2
      rw [HN.out]
      exact ⟨_, _, rfl, SlcR.nil _ _ _ _, k2.trans ((Below.refl w2.heap.size w2).alloc (Nat.le_refl _) _ |>.mono k2.size)⟩
    · have hl12 := good_len hg
      have hm12 := good_len hg'
      have HLB : Hid (∀ k (hk : k < l.length), (l[k]'hk).within 1000000) := fun k hk => within_ok (good_at hg hk)
      have HMB : Hid (∀ k (hk : k < m.length), (m[k]'hk).within 1000000) := fun k hk => within_ok (good_at hg' hk)
      have HY : Hid (goodRows (mergeR l m) = true → joinBoth l m = (mergeR l m, true)) := fun h2 => join_yes (by rw [hg, hg']; rfl) h2
      have HX : Hid (goodRows (mergeR l m) = false → joinBoth l m = ([], false)) := fun h2 => join_bad (by rw [hg, hg']; rfl) h2
      rw [hg] at ca
      rw [hg'] at cb
      clear hg hg'
      have hrl := RowsR.row h
      have hrm := RowsR.row h'
      go_enter Try.func6, Try.ntmps6
      go_wp2_with fail
      refine (ca _ h).mono ?_
      rintro e w1 ⟨rfl, hb1⟩
      go_wp2_with fail
      refine (cb _ (SlcR.then h' hb1)).mono ?_
      rintro e w2 ⟨rfl, hb2⟩
      have k2 := bthen hb1 hb2
      have HO2 : Hid ((w2.alloc (.cells #[] 42)).ownsRow w.heap.size 42 5 (.slice (some ⟨w2.heap.size, 0, none⟩) 0 0) 0 []) := owns_empty (Lies.new w2 42 #[]) k2.size
      have B2 := k2.alloc k2.size (.cells #[] 42)
      clear ca cb hb1 hb2 h h'
      go_wp2
      go_loopw [6, 7, 8] (fun out si sk wr => ∃ (i k : Nat) (o : List Row), i ≤ l.length ∧ k ≤ m.length ∧ si = .int .i64 i ∧ sk = .int .i64 k ∧ o.length ≤ i + k ∧ Hid (o ++ mergeR (l.drop i) (m.drop k) = mergeR l m) ∧ Hid (wr.ownsRow w.heap.size 42 5 out o.length (o.flatMap Row.enc)) ∧ Below w.heap.size w wr) (fun _ si sk _ => l.length + m.length - ((intOf si).toNat + (intOf sk).toNat))
      case atStart => exact ⟨0, 0, [], Nat.zero_le _, Nat.zero_le _, rfl, rfl, by simp, by unfold Hid; simp, HO2, B2⟩
      case round =>
        clear HO2 B2 k2
        obtain ⟨i, k, o, hi, hk, rfl, rfl, hol, HR, HO, hbr⟩ := hrel
        obtain ⟨q, rfl⟩ : ∃ q : Since w.heap.size w, wr = q.val := ⟨⟨wr, hbr⟩, rfl⟩
        obtain ⟨A5, c5, rfl⟩ := ownsRow_slice HO.out
        by_cases hil : i < l.length
        · by_cases hkm : k < m.length
          · obtain ⟨ba, offa, rfl, hba, hcella⟩ := hrl (by omega)
            obtain ⟨bb, offb, rfl, hbb, hcellb⟩ := hrm (by omega)
            have hca := (hcella i hil).up q.below q.size
            have hcb := (hcellb k hkm).up q.below q.size
            have hst := merge_step hil hkm
            have hwx := HLB.out i hil
            have hwy := HMB.out k hkm
            obtain ⟨x, hx⟩ : ∃ r, r = l[i] := ⟨_, rfl⟩
            obtain ⟨y, hy⟩ : ∃ r, r = m[k] := ⟨_, rfl⟩
            rw [← hx] at hca hst hwx
            rw [← hy] at hcb hst hwy
            clear hx hy hcella hcellb hrl hrm
            have hkm1 : ((k : Int) == (m.length : Int)) = false := by simp; omega
            have hil1 : ((i : Int) == (l.length : Int)) = false := by simp; omega
            have hil2 : (i : Int) < (l.length : Int) := by omega
            have hkm2 : (k : Int) < (m.length : Int) := by omega
            by_cases h1 : x.m < y.m
            · have HE : Hid ((o ++ [x]) ++ mergeR (l.drop (i + 1)) (m.drop k) = mergeR l m) := by
                have := HR.out; rw [hst, if_pos h1] at this; unfold Hid; rw [List.append_assoc]; exact this
              clear hst HR hwx hwy
              obtain ⟨e0, e1, e2, e3, e4⟩ := hca
              obtain ⟨d0, d1, d2, d3, d4⟩ := hcb
              go_wp2
              refine wp_region_since0 (by kernel_rfl) (by kernel_rfl) ?_
              repeat (any_goals (first | go_big_quiet_step ((fail)) | (refine wpQuiet_step (fun K hK => ?_); go_simp; split <;> (refine hK _ ?_; clear hK K))))
              all_goals (refine wpQuiet_nil ?_; rintro _ ⟨q1, rfl⟩)
              have B1 : Below w.heap.size w q1.val := q.below.trans (q1.below.mono q.size)
              have HO1 := Lib.hid (ownsRow_below HO.out q1.below)
              go_wp2_with (at_builtin; refine wpList_push (w0 := q1.val) rfl _ _ 24 rfl 42 _ 5 40 Try.underlying24 infoRow rfl (by decide) (by omega) w.heap.size _ _ _ rfl HO1 #[.int .i64 x.m, .int .i64 x.b, .int .i64 x.s, .int .i64 x.c, .int .i64 x.l] 1 _ rfl (by first | rfl | exact Array.size_push _) rfl (by simp [Value.oneCell']) (by omega) (B1).size rfl rfl rfl rfl ?_; intro v' w3 HO3 hg3 hb3)
              obtain ⟨A3, c3, rfl⟩ := ownsRow_slice HO3.out
              have B3 := (B1).grown hg3 (B1).size (fun j hj => (HO1.out.lt j hj).1)
              have HO4 : Hid (w3.ownsRow w.heap.size 42 5 (.slice A3 (o.length + 1) c3) (o ++ [x]).length ((o ++ [x]).flatMap Row.enc)) := by
                have h3 := HO3.out
                unfold Hid
                rw [List.flatMap_append, List.length_append]
                simpa [Row.enc, addR] using h3
              have hln : (o ++ [x]).length ≤ i + 1 + k := by rw [List.length_append]; simp; omega
              clear hg3 hb3 HO3
              go_wp2
              go_roundw
              case rel => exact ⟨i + 1, k, o ++ [x], by omega, by omega, by go_num, by go_num, hln, HE, HO4, B3⟩
              case measure => simp [intOf]; omega
            · by_cases h2 : y.m < x.m
              · have HE : Hid ((o ++ [y]) ++ mergeR (l.drop i) (m.drop (k + 1)) = mergeR l m) := by
                  have := HR.out; rw [hst, if_neg h1, if_pos h2] at this; unfold Hid; rw [List.append_assoc]; exact this
                clear hst HR hwx hwy
                have hcb' := hcb
                have hca' := hca
                obtain ⟨e0, e1, e2, e3, e4⟩ := hca
                obtain ⟨d0, d1, d2, d3, d4⟩ := hcb
                go_wp2
                refine wp_region_since0 (by kernel_rfl) (by kernel_rfl) ?_
                repeat (any_goals (first | go_big_quiet_step ((fail)) | (refine wpQuiet_step (fun K hK => ?_); go_simp; split <;> (refine hK _ ?_; clear hK K))))
                all_goals (refine wpQuiet_nil ?_; rintro _ ⟨q1, rfl⟩)
                have B1 : Below w.heap.size w q1.val := q.below.trans (q1.below.mono q.size)
                have HO1 := Lib.hid (ownsRow_below HO.out q1.below)
                clear e0 e1 e2 e3 e4 d0 d1 d2 d3 d4
                obtain ⟨e0, e1, e2, e3, e4⟩ := hca'.up q1.below q1.size
                obtain ⟨d0, d1, d2, d3, d4⟩ := hcb'.up q1.below q1.size
                obtain ⟨qa, rfl⟩ : ∃ qa, qa = q1 := ⟨_, rfl⟩
                go_wp2
                refine wp_region_since0 (by kernel_rfl) (by kernel_rfl) ?_
                repeat (any_goals (first | go_big_quiet_step ((fail)) | (refine wpQuiet_step (fun K hK => ?_); go_simp; split <;> (refine hK _ ?_; clear hK K))))
                all_goals (refine wpQuiet_nil ?_; rintro _ ⟨q1, rfl⟩)
                have B2 : Below w.heap.size w q1.val := B1.trans (q1.below.mono B1.size)
                have HO2 := Lib.hid (ownsRow_below HO1.out q1.below)
                go_wp2_with (at_builtin; refine wpList_push (w0 := q1.val) rfl _ _ 24 rfl 42 _ 5 40 Try.underlying24 infoRow rfl (by decide) (by omega) w.heap.size _ _ _ rfl HO2 #[.int .i64 y.m, .int .i64 y.b, .int .i64 y.s, .int .i64 y.c, .int .i64 y.l] 1 _ rfl (by first | rfl | exact Array.size_push _) rfl (by simp [Value.oneCell']) (by omega) (B2).size rfl rfl rfl rfl ?_; intro v' w3 HO3 hg3 hb3)
                obtain ⟨A3, c3, rfl⟩ := ownsRow_slice HO3.out
                have B3 := (B2).grown hg3 (B2).size (fun j hj => (HO2.out.lt j hj).1)
                have HO4 : Hid (w3.ownsRow w.heap.size 42 5 (.slice A3 (o.length + 1) c3) (o ++ [y]).length ((o ++ [y]).flatMap Row.enc)) := by
                  have h3 := HO3.out
                  unfold Hid
                  rw [List.flatMap_append, List.length_append]
                  simpa [Row.enc, addR] using h3
                have hln : (o ++ [y]).length ≤ i + k + 1 := by rw [List.length_append]; simp; omega
                clear hg3 hb3 HO3
                go_wp2
                go_roundw
                case rel => exact ⟨i, k + 1, o ++ [y], by omega, by omega, by go_num, by go_num, hln, HE, HO4, B3⟩
                case measure => simp [intOf]; omega
              · have HE : Hid ((o ++ [addR x y]) ++ mergeR (l.drop (i + 1)) (m.drop (k + 1)) = mergeR l m) := by
                  have := HR.out; rw [hst, if_neg h1, if_neg h2] at this; unfold Hid; rw [List.append_assoc]; exact this
                clear hst HR
                obtain ⟨⟨hx1, hx2⟩, ⟨hx3, hx4⟩, ⟨hx5, hx6⟩, ⟨hx7, hx8⟩⟩ := hwx
                obtain ⟨⟨hr1, hr2⟩, ⟨hr3, hr4⟩, ⟨hr5, hr6⟩, ⟨hr7, hr8⟩⟩ := hwy
                have hcb' := hcb
                have hca' := hca
                obtain ⟨e0, e1, e2, e3, e4⟩ := hca
                obtain ⟨d0, d1, d2, d3, d4⟩ := hcb
                go_wp2
                refine wp_region_since0 (by kernel_rfl) (by kernel_rfl) ?_
                repeat (any_goals (first | go_big_quiet_step ((fail)) | (refine wpQuiet_step (fun K hK => ?_); go_simp; split <;> (refine hK _ ?_; clear hK K))))
                all_goals (refine wpQuiet_nil ?_; rintro _ ⟨q1, rfl⟩)
                have B1 : Below w.heap.size w q1.val := q.below.trans (q1.below.mono q.size)
                have HO1 := Lib.hid (ownsRow_below HO.out q1.below)
                clear e0 e1 e2 e3 e4 d0 d1 d2 d3 d4
                have hca1 := hca'.up q1.below q1.size
                have hcb1 := hcb'.up q1.below q1.size
                obtain ⟨e0, e1, e2, e3, e4⟩ := hca1
                obtain ⟨d0, d1, d2, d3, d4⟩ := hcb1
                obtain ⟨qa, rfl⟩ : ∃ qa, qa = q1 := ⟨_, rfl⟩
                go_wp2
                refine wp_region_since0 (by kernel_rfl) (by kernel_rfl) ?_
                repeat (any_goals (first | go_big_quiet_step ((fail)) | (refine wpQuiet_step (fun K hK => ?_); go_simp; split <;> (refine hK _ ?_; clear hK K))))
                all_goals (refine wpQuiet_nil ?_; rintro _ ⟨q1, rfl⟩)
                have B2 : Below w.heap.size w q1.val := B1.trans (q1.below.mono B1.size)
                have HO2 := Lib.hid (ownsRow_below HO1.out q1.below)
                clear e0 e1 e2 e3 e4 d0 d1 d2 d3 d4
                have hca2 := (hca'.up qa.below qa.size).up q1.below q1.size
                have hcb2 := (hcb'.up qa.below qa.size).up q1.below q1.size
                have e0 := hca2.c0 (Since.start _ _)
                have e1 := hca2.c1 (Since.start _ _)
                have e2 := hca2.c2 (Since.start _ _)
                have e3 := hca2.c3 (Since.start _ _)
                have e4 := hca2.c4 (Since.start _ _)
                change q1.val.cell? _ = _ at e0 e1 e2 e3 e4
                have al := (Below.refl q1.val.heap.size q1.val).alloc (Nat.le_refl _) (.cells #[.int .i64 x.m, .int .i64 x.b, .int .i64 x.s, .int .i64 x.c, .int .i64 x.l] 42)
                have LA := Lies.new q1.val 42 #[.int .i64 x.m, .int .i64 x.b, .int .i64 x.s, .int .i64 x.c, .int .i64 x.l]
                have HO3 := Lib.hid (ownsRow_below HO2.out al)
                have B3 : Below w.heap.size w (q1.val.alloc (.cells #[.int .i64 x.m, .int .i64 x.b, .int .i64 x.s, .int .i64 x.c, .int .i64 x.l] 42)) := B2.trans (al.mono B2.size)
                have hcb3 := hcb2.up al al.size
                have hbq : bb < q1.val.heap.size := Nat.lt_of_lt_of_le hbb B2.size
                have hgw : w.heap.size ≤ q1.val.heap.size := B2.size
                have HNG : Hid (∀ j, (Value.slice A5 o.length c5).ownBlock = some j → j < q1.val.heap.size) := fun j hj => (HO2.out.lt j hj).2
                go_wp2
                generalize q1.val.alloc (.cells #[.int .i64 x.m, .int .i64 x.b, .int .i64 x.s, .int .i64 x.c, .int .i64 x.l] 42) = w5 at al LA HO3 B3 hcb3 ⊢
                generalize q1.val.heap.size = gR at LA hbq hgw HNG ⊢
                have t1 := LA.cell 1
                have t2 := LA.cell 2
                have t3 := LA.cell 3
                have t4 := LA.cell 4
                simp only [List.getElem?_cons_zero, List.getElem?_cons_succ] at t1 t2 t3 t4
                have f1 := LA.frozen 1
                have f2 := LA.frozen 2
                have f3 := LA.frozen 3
                have f4 := LA.frozen 4
                have s1 := hcb3.c1 (Since.start _ _)
                have s2 := hcb3.c2 (Since.start _ _)
                have s3 := hcb3.c3 (Since.start _ _)
                have s4 := hcb3.c4 (Since.start _ _)
                change w5.cell? _ = _ at s1 s2 s3 s4
                have hne : ¬ gR = bb := by omega
                have hne' : ¬ bb = gR := by omega
                have hkz : (0 : Int) ≤ (k : Int) := by omega
                have M0 := Lib.hid LA
                have O0 := HO3
                have Q0 := Lib.hid B3
                clear LA HO3 B3 hcb3 hca2 hcb2 e0 e1 e2 e3 e4 al hca' hcb' HO1 HO2 B1 B2
                go_still_tail 9, (by kernel_rfl)
                change wpList _ _ _ _ _ w5.drew
                have t1d := (show w5.drew.cell? _ = _ from t1)
                have t2d := (show w5.drew.cell? _ = _ from t2)
                have t3d := (show w5.drew.cell? _ = _ from t3)
                have t4d := (show w5.drew.cell? _ = _ from t4)
                have s1d := (show w5.drew.cell? _ = _ from s1)
                have s2d := (show w5.drew.cell? _ = _ from s2)
                have s3d := (show w5.drew.cell? _ = _ from s3)
                have s4d := (show w5.drew.cell? _ = _ from s4)
                have f1d := (show w5.drew.frozen? _ = _ from f1)
                have f2d := (show w5.drew.frozen? _ = _ from f2)
                have f3d := (show w5.drew.frozen? _ = _ from f3)
                have f4d := (show w5.drew.frozen? _ = _ from f4)
                have O0d := Lib.hid (ownsRow_drew O0.out)
                have Q0d := Lib.hid (Q0.out).drew
                have M0d := Lib.hid (M0.out).drew
                clear t1 t2 t3 t4 f1 f2 f3 f4 s1 s2 s3 s4 O0 Q0 M0
                generalize w5.drew = D1 at t1d t2d t3d t4d f1d f2d f3d f4d s1d s2d s3d s4d O0d Q0d M0d ⊢
                have O1 := Lib.hid ((O0d.out).kept (grown_set (g := gR) (i := 1) (u := (.int .i64 (x.b + y.b))) (World.grownBy.refl D1 (some gR))) (.inr (fun e => by have := HNG.out gR e; omega)))
                have Q1 := Lib.hid ((Q0d.out).grown (grown_set (g := gR) (i := 1) (u := (.int .i64 (x.b + y.b))) (World.grownBy.refl D1 (some gR))) (Q0d.out).size (by rintro _ ⟨⟩; exact hgw))
                have M1 := Lib.hid ((M0d.out).set 1 (.int .i64 (x.b + y.b)))
                have t2 : (D1.setCell ⟨gR, 1, none⟩ (.int .i64 (x.b + y.b))).cell? ⟨gR, 2, none⟩ = _ := (World.cell?_setCell_other _ _ _ _ (by simp)).trans t2d
                have s2 : (D1.setCell ⟨gR, 1, none⟩ (.int .i64 (x.b + y.b))).cell? ⟨bb, offb + k * 5 + 2, none⟩ = _ := (World.cell?_setCell_other _ _ _ _ (by simp [hne, hne'])).trans s2d
                have f2 : (D1.setCell ⟨gR, 1, none⟩ (.int .i64 (x.b + y.b))).frozen? ⟨gR, 2, none⟩ = false := (World.frozen?_setCell _ _ _ _).trans f2d
                have t3 : (D1.setCell ⟨gR, 1, none⟩ (.int .i64 (x.b + y.b))).cell? ⟨gR, 3, none⟩ = _ := (World.cell?_setCell_other _ _ _ _ (by simp)).trans t3d
                have s3 : (D1.setCell ⟨gR, 1, none⟩ (.int .i64 (x.b + y.b))).cell? ⟨bb, offb + k * 5 + 3, none⟩ = _ := (World.cell?_setCell_other _ _ _ _ (by simp [hne, hne'])).trans s3d
                have f3 : (D1.setCell ⟨gR, 1, none⟩ (.int .i64 (x.b + y.b))).frozen? ⟨gR, 3, none⟩ = false := (World.frozen?_setCell _ _ _ _).trans f3d
                have t4 : (D1.setCell ⟨gR, 1, none⟩ (.int .i64 (x.b + y.b))).cell? ⟨gR, 4, none⟩ = _ := (World.cell?_setCell_other _ _ _ _ (by simp)).trans t4d
                have s4 : (D1.setCell ⟨gR, 1, none⟩ (.int .i64 (x.b + y.b))).cell? ⟨bb, offb + k * 5 + 4, none⟩ = _ := (World.cell?_setCell_other _ _ _ _ (by simp [hne, hne'])).trans s4d
                have f4 : (D1.setCell ⟨gR, 1, none⟩ (.int .i64 (x.b + y.b))).frozen? ⟨gR, 4, none⟩ = false := (World.frozen?_setCell _ _ _ _).trans f4d
                go_wp2
                clear t1d t2d t3d t4d f1d f2d f3d f4d s1d s2d s3d s4d
                generalize D1.setCell ⟨gR, 1, none⟩ (.int .i64 (x.b + y.b)) = E1 at t2 s2 f2 t3 s3 f3 t4 s4 f4 O1 Q1 M1 ⊢
                go_still_tail 9, (by kernel_rfl)
                change wpList _ _ _ _ _ E1.drew
                have t2d := (show E1.drew.cell? _ = _ from t2)
                have t3d := (show E1.drew.cell? _ = _ from t3)
                have t4d := (show E1.drew.cell? _ = _ from t4)
                have s2d := (show E1.drew.cell? _ = _ from s2)
                have s3d := (show E1.drew.cell? _ = _ from s3)
                have s4d := (show E1.drew.cell? _ = _ from s4)
                have f2d := (show E1.drew.frozen? _ = _ from f2)
                have f3d := (show E1.drew.frozen? _ = _ from f3)
                have f4d := (show E1.drew.frozen? _ = _ from f4)
                have O1d := Lib.hid (ownsRow_drew O1.out)
                have Q1d := Lib.hid (Q1.out).drew
                have M1d := Lib.hid (M1.out).drew
                clear t2 t3 t4 f2 f3 f4 s2 s3 s4 O1 Q1 M1
                generalize E1.drew = D2 at t2d t3d t4d f2d f3d f4d s2d s3d s4d O1d Q1d M1d ⊢
                have O2 := Lib.hid ((O1d.out).kept (grown_set (g := gR) (i := 2) (u := (.int .i64 (x.s + y.s))) (World.grownBy.refl D2 (some gR))) (.inr (fun e => by have := HNG.out gR e; omega)))
                have Q2 := Lib.hid ((Q1d.out).grown (grown_set (g := gR) (i := 2) (u := (.int .i64 (x.s + y.s))) (World.grownBy.refl D2 (some gR))) (Q1d.out).size (by rintro _ ⟨⟩; exact hgw))
                have M2 := Lib.hid ((M1d.out).set 2 (.int .i64 (x.s + y.s)))
                have t3 : (D2.setCell ⟨gR, 2, none⟩ (.int .i64 (x.s + y.s))).cell? ⟨gR, 3, none⟩ = _ := (World.cell?_setCell_other _ _ _ _ (by simp)).trans t3d
                have s3 : (D2.setCell ⟨gR, 2, none⟩ (.int .i64 (x.s + y.s))).cell? ⟨bb, offb + k * 5 + 3, none⟩ = _ := (World.cell?_setCell_other _ _ _ _ (by simp [hne, hne'])).trans s3d
                have f3 : (D2.setCell ⟨gR, 2, none⟩ (.int .i64 (x.s + y.s))).frozen? ⟨gR, 3, none⟩ = false := (World.frozen?_setCell _ _ _ _).trans f3d
                have t4 : (D2.setCell ⟨gR, 2, none⟩ (.int .i64 (x.s + y.s))).cell? ⟨gR, 4, none⟩ = _ := (World.cell?_setCell_other _ _ _ _ (by simp)).trans t4d
                have s4 : (D2.setCell ⟨gR, 2, none⟩ (.int .i64 (x.s + y.s))).cell? ⟨bb, offb + k * 5 + 4, none⟩ = _ := (World.cell?_setCell_other _ _ _ _ (by simp [hne, hne'])).trans s4d
                have f4 : (D2.setCell ⟨gR, 2, none⟩ (.int .i64 (x.s + y.s))).frozen? ⟨gR, 4, none⟩ = false := (World.frozen?_setCell _ _ _ _).trans f4d
                go_wp2
                clear t2d t3d t4d f2d f3d f4d s2d s3d s4d
                generalize D2.setCell ⟨gR, 2, none⟩ (.int .i64 (x.s + y.s)) = E2 at t3 s3 f3 t4 s4 f4 O2 Q2 M2 ⊢
                go_still_tail 9, (by kernel_rfl)
                change wpList _ _ _ _ _ E2.drew
                have t3d := (show E2.drew.cell? _ = _ from t3)
                have t4d := (show E2.drew.cell? _ = _ from t4)
                have s3d := (show E2.drew.cell? _ = _ from s3)
                have s4d := (show E2.drew.cell? _ = _ from s4)
                have f3d := (show E2.drew.frozen? _ = _ from f3)
                have f4d := (show E2.drew.frozen? _ = _ from f4)
                have O2d := Lib.hid (ownsRow_drew O2.out)
                have Q2d := Lib.hid (Q2.out).drew
                have M2d := Lib.hid (M2.out).drew
                clear t3 t4 f3 f4 s3 s4 O2 Q2 M2
                generalize E2.drew = D3 at t3d t4d f3d f4d s3d s4d O2d Q2d M2d ⊢
                have O3 := Lib.hid ((O2d.out).kept (grown_set (g := gR) (i := 3) (u := (.int .i64 (x.c + y.c))) (World.grownBy.refl D3 (some gR))) (.inr (fun e => by have := HNG.out gR e; omega)))
                have Q3 := Lib.hid ((Q2d.out).grown (grown_set (g := gR) (i := 3) (u := (.int .i64 (x.c + y.c))) (World.grownBy.refl D3 (some gR))) (Q2d.out).size (by rintro _ ⟨⟩; exact hgw))
                have M3 := Lib.hid ((M2d.out).set 3 (.int .i64 (x.c + y.c)))
                have t4 : (D3.setCell ⟨gR, 3, none⟩ (.int .i64 (x.c + y.c))).cell? ⟨gR, 4, none⟩ = _ := (World.cell?_setCell_other _ _ _ _ (by simp)).trans t4d
                have s4 : (D3.setCell ⟨gR, 3, none⟩ (.int .i64 (x.c + y.c))).cell? ⟨bb, offb + k * 5 + 4, none⟩ = _ := (World.cell?_setCell_other _ _ _ _ (by simp [hne, hne'])).trans s4d
                have f4 : (D3.setCell ⟨gR, 3, none⟩ (.int .i64 (x.c + y.c))).frozen? ⟨gR, 4, none⟩ = false := (World.frozen?_setCell _ _ _ _).trans f4d
                go_wp2
                clear t3d t4d f3d f4d s3d s4d
                generalize D3.setCell ⟨gR, 3, none⟩ (.int .i64 (x.c + y.c)) = E3 at t4 s4 f4 O3 Q3 M3 ⊢
                go_still_tail 9, (by kernel_rfl)
                change wpList _ _ _ _ _ E3.drew
                have t4d := (show E3.drew.cell? _ = _ from t4)
                have s4d := (show E3.drew.cell? _ = _ from s4)
                have f4d := (show E3.drew.frozen? _ = _ from f4)
                have O3d := Lib.hid (ownsRow_drew O3.out)
                have Q3d := Lib.hid (Q3.out).drew
                have M3d := Lib.hid (M3.out).drew
                clear t4 f4 s4 O3 Q3 M3
                generalize E3.drew = D4 at t4d f4d s4d O3d Q3d M3d ⊢
                have O4 := Lib.hid ((O3d.out).kept (grown_set (g := gR) (i := 4) (u := (.int .i64 (x.l + y.l))) (World.grownBy.refl D4 (some gR))) (.inr (fun e => by have := HNG.out gR e; omega)))
                have Q4 := Lib.hid ((Q3d.out).grown (grown_set (g := gR) (i := 4) (u := (.int .i64 (x.l + y.l))) (World.grownBy.refl D4 (some gR))) (Q3d.out).size (by rintro _ ⟨⟩; exact hgw))
                have M4 := Lib.hid ((M3d.out).set 4 (.int .i64 (x.l + y.l)))
                have z0 : (D4.setCell ⟨gR, 4, none⟩ (.int .i64 (x.l + y.l))).cell? ⟨gR, 0, none⟩ = some (.int .i64 x.m) := (M4.out).cell 0
                have z1 : (D4.setCell ⟨gR, 4, none⟩ (.int .i64 (x.l + y.l))).cell? ⟨gR, 1, none⟩ = some (.int .i64 (x.b + y.b)) := (M4.out).cell 1
                have z2 : (D4.setCell ⟨gR, 4, none⟩ (.int .i64 (x.l + y.l))).cell? ⟨gR, 2, none⟩ = some (.int .i64 (x.s + y.s)) := (M4.out).cell 2
                have z3 : (D4.setCell ⟨gR, 4, none⟩ (.int .i64 (x.l + y.l))).cell? ⟨gR, 3, none⟩ = some (.int .i64 (x.c + y.c)) := (M4.out).cell 3
                have z4 : (D4.setCell ⟨gR, 4, none⟩ (.int .i64 (x.l + y.l))).cell? ⟨gR, 4, none⟩ = some (.int .i64 (x.l + y.l)) := (M4.out).cell 4
                have zz := M4.out.lt
                obtain ⟨QW, hQW⟩ : ∃ QW, D4.setCell ⟨gR, 4, none⟩ (.int .i64 (x.l + y.l)) = QW := ⟨_, rfl⟩
                rw [hQW] at z0 z1 z2 z3 z4 O4 Q4 M4
                go_wp2_with (first | (rw [hQW]; clear hQW) | (at_builtin; refine wpList_push (w0 := QW) rfl _ _ 24 rfl 42 _ 5 40 Try.underlying24 infoRow rfl (by decide) (by omega) w.heap.size _ _ _ rfl O4 #[.int .i64 x.m, .int .i64 (x.b + y.b), .int .i64 (x.s + y.s), .int .i64 (x.c + y.c), .int .i64 (x.l + y.l)] 1 _ rfl (by first | rfl | exact Array.size_push _) rfl (by simp [Value.oneCell']) (by omega) (Q4.out).size rfl rfl rfl rfl ?_; intro v' w3 HO3 hg3 hb3))
                obtain ⟨A3, c3, rfl⟩ := ownsRow_slice HO3.out
                have B3 := (Q4.out).grown hg3 (Q4.out).size (fun j hj => (O4.out.lt j hj).1)
                have HO4 : Hid (w3.ownsRow w.heap.size 42 5 (.slice A3 (o.length + 1) c3) (o ++ [addR x y]).length ((o ++ [addR x y]).flatMap Row.enc)) := by
                  have h3 := HO3.out
                  unfold Hid
                  rw [List.flatMap_append, List.length_append]
                  simpa [Row.enc, addR] using h3
                have hln : (o ++ [addR x y]).length ≤ i + 1 + k + 1 := by rw [List.length_append]; simp; omega
                clear hg3 hb3 HO3
                go_wp2
                go_roundw
                case rel => exact ⟨i + 1, k + 1, o ++ [addR x y], by omega, by omega, by go_num, by go_num, hln, HE, HO4, B3⟩
                case measure => simp [intOf]; omega
          · have hke : k = m.length := by omega
            obtain ⟨ba, offa, rfl, hba, hcella⟩ := hrl (by omega)
            have hca := (hcella i hil).up q.below q.size
            have hst : mergeR (l.drop i) (m.drop k) = l[i] :: mergeR (l.drop (i + 1)) (m.drop k) := by rw [List.drop_eq_nil_of_le (by omega : m.length ≤ k), merge_end1 hil]
            obtain ⟨x, hx⟩ : ∃ r, r = l[i] := ⟨_, rfl⟩
            rw [← hx] at hca hst
            have HE : Hid ((o ++ [x]) ++ mergeR (l.drop (i + 1)) (m.drop k) = mergeR l m) := by
              have := HR.out; rw [hst] at this; unfold Hid; rw [List.append_assoc]; exact this
            have hkm1 : ((k : Int) == (m.length : Int)) = true := by simp; omega
            have hil2 : (i : Int) < (l.length : Int) := by omega
            clear hx hcella hrl hrm hst HR hke
            obtain ⟨e0, e1, e2, e3, e4⟩ := hca
            go_wp2
            refine wp_region_since0 (by kernel_rfl) (by kernel_rfl) ?_
            repeat (any_goals (first | go_big_quiet_step ((fail)) | (refine wpQuiet_step (fun K hK => ?_); go_simp; split <;> (refine hK _ ?_; clear hK K))))
            all_goals (refine wpQuiet_nil ?_; rintro _ ⟨q1, rfl⟩)
            have B1 : Below w.heap.size w q1.val := q.below.trans (q1.below.mono q.size)
            have HO1 := Lib.hid (ownsRow_below HO.out q1.below)
            go_wp2_with (at_builtin; refine wpList_push (w0 := q1.val) rfl _ _ 24 rfl 42 _ 5 40 Try.underlying24 infoRow rfl (by decide) (by omega) w.heap.size _ _ _ rfl HO1 #[.int .i64 x.m, .int .i64 x.b, .int .i64 x.s, .int .i64 x.c, .int .i64 x.l] 1 _ rfl (by first | rfl | exact Array.size_push _) rfl (by simp [Value.oneCell']) (by omega) (B1).size rfl rfl rfl rfl ?_; intro v' w3 HO3 hg3 hb3)
            obtain ⟨A3, c3, rfl⟩ := ownsRow_slice HO3.out
            have B3 := (B1).grown hg3 (B1).size (fun j hj => (HO1.out.lt j hj).1)
            have HO4 : Hid (w3.ownsRow w.heap.size 42 5 (.slice A3 (o.length + 1) c3) (o ++ [x]).length ((o ++ [x]).flatMap Row.enc)) := by
              have h3 := HO3.out
              unfold Hid
              rw [List.flatMap_append, List.length_append]
              simpa [Row.enc, addR] using h3
            have hln : (o ++ [x]).length ≤ i + 1 + k := by rw [List.length_append]; simp; omega
            clear hg3 hb3 HO3
            go_wp2
            go_roundw
            case rel => exact ⟨i + 1, k, o ++ [x], by omega, by omega, by go_num, by go_num, hln, HE, HO4, B3⟩
            case measure => simp [intOf]; omega
        · by_cases hkm : k < m.length
          · obtain ⟨bb, offb, rfl, hbb, hcellb⟩ := hrm (by omega)
            have hcb := (hcellb k hkm).up q.below q.size
            have hst : mergeR (l.drop i) (m.drop k) = m[k] :: mergeR (l.drop i) (m.drop (k + 1)) := by rw [List.drop_eq_nil_of_le (by omega : l.length ≤ i), merge_end2 hkm]
            obtain ⟨y, hy⟩ : ∃ r, r = m[k] := ⟨_, rfl⟩
            rw [← hy] at hcb hst
            have HE : Hid ((o ++ [y]) ++ mergeR (l.drop i) (m.drop (k + 1)) = mergeR l m) := by
              have := HR.out; rw [hst] at this; unfold Hid; rw [List.append_assoc]; exact this
            have hkm1 : ((k : Int) == (m.length : Int)) = false := by simp; omega
            have hil1 : ((i : Int) == (l.length : Int)) = true := by simp; omega
            have hil2 : decide ((i : Int) < (l.length : Int)) = false := decide_eq_false (by omega)
            have hil3 : decide (i < l.length) = false := decide_eq_false (by omega)
            have hkm2 : (k : Int) < (m.length : Int) := by omega
            clear hy hcellb hrl hrm hst HR
            have hcb' := hcb
            obtain ⟨d0, d1, d2, d3, d4⟩ := hcb
            go_wp2
            refine wp_region_since0 (by kernel_rfl) (by kernel_rfl) ?_
            repeat (any_goals (first | go_big_quiet_step ((fail)) | (refine wpQuiet_step (fun K hK => ?_); go_simp; split <;> (refine hK _ ?_; clear hK K))))
            all_goals (refine wpQuiet_nil ?_; rintro _ ⟨q1, rfl⟩)
            have B1 : Below w.heap.size w q1.val := q.below.trans (q1.below.mono q.size)
            have HO1 := Lib.hid (ownsRow_below HO.out q1.below)
            clear d0 d1 d2 d3 d4
            obtain ⟨d0, d1, d2, d3, d4⟩ := hcb'.up q1.below q1.size
            obtain ⟨qa, rfl⟩ : ∃ qa, qa = q1 := ⟨_, rfl⟩
            go_wp2
            refine wp_region_since0 (by kernel_rfl) (by kernel_rfl) ?_
            repeat (any_goals (first | go_big_quiet_step ((fail)) | (refine wpQuiet_step (fun K hK => ?_); go_simp; split <;> (refine hK _ ?_; clear hK K))))
            all_goals (refine wpQuiet_nil ?_; rintro _ ⟨q1, rfl⟩)
            have B2 : Below w.heap.size w q1.val := B1.trans (q1.below.mono B1.size)
            have HO2 := Lib.hid (ownsRow_below HO1.out q1.below)
            go_wp2_with (at_builtin; refine wpList_push (w0 := q1.val) rfl _ _ 24 rfl 42 _ 5 40 Try.underlying24 infoRow rfl (by decide) (by omega) w.heap.size _ _ _ rfl HO2 #[.int .i64 y.m, .int .i64 y.b, .int .i64 y.s, .int .i64 y.c, .int .i64 y.l] 1 _ rfl (by first | rfl | exact Array.size_push _) rfl (by simp [Value.oneCell']) (by omega) (B2).size rfl rfl rfl rfl ?_; intro v' w3 HO3 hg3 hb3)
            obtain ⟨A3, c3, rfl⟩ := ownsRow_slice HO3.out
            have B3 := (B2).grown hg3 (B2).size (fun j hj => (HO2.out.lt j hj).1)
            have HO4 : Hid (w3.ownsRow w.heap.size 42 5 (.slice A3 (o.length + 1) c3) (o ++ [y]).length ((o ++ [y]).flatMap Row.enc)) := by
              have h3 := HO3.out
              unfold Hid
              rw [List.flatMap_append, List.length_append]
              simpa [Row.enc, addR] using h3
            have hln : (o ++ [y]).length ≤ i + k + 1 := by rw [List.length_append]; simp; omega
            clear hg3 hb3 HO3
            go_wp2
            go_roundw
            case rel => exact ⟨i, k + 1, o ++ [y], by omega, by omega, by go_num, by go_num, hln, HE, HO4, B3⟩
            case measure => simp [intOf]; omega
          · have HE : Hid (o = mergeR l m) := by
              have := HR.out
              rw [List.drop_eq_nil_of_le (by omega : l.length ≤ i), List.drop_eq_nil_of_le (by omega : m.length ≤ k), mergeR, List.append_nil] at this
              exact this
            have hRO := ownsRow_reads HO.out
            have cF := l31Good_any A5 c5 o q.val hRO
            clear hrl hrm
            cases hgo : goodRows o
            · rw [hgo] at cF
              have HN := Lib.hid (HX.out (by rw [← HE.out]; exact hgo))
              clear hgo
              go_wp2_with fail
              refine cF.mono ?_
              rintro e w4 ⟨rfl, hb4⟩
              have k4 := q.below.trans (hb4.mono q.size)
              go_wp2
              go_ret2
              rw [HN.out]
              exact ⟨_, _, rfl, SlcR.nil _ _ _ _, k4.trans ((Below.refl w4.heap.size w4).alloc (Nat.le_refl _) _ |>.mono k4.size)⟩
            · rw [hgo] at cF
              have HN := Lib.hid (HY.out (by rw [← HE.out]; exact hgo))
              clear hgo
              go_wp2_with fail
              refine cF.mono ?_
              rintro e w4 ⟨rfl, hb4⟩
              go_wp2
              go_ret2
              rw [HN.out, ← HE.out]
              exact ⟨A5, c5, rfl, SlcR.then hRO hb4, q.below.trans (hb4.mono q.size)⟩
end Go.Proofs.Ytpjfidmapnnbkaa
