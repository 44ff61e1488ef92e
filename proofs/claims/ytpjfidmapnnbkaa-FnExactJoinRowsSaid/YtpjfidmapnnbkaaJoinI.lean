/- Joined rows, in the program. -/
import Derived.Test.YtpjfidmapnnbkaaJoinP
import Derived.Test.YtpjfidmapnnbkaaQRow
import Derived.Test.YtpjfidmapnnbkaaOwnRow
namespace Go.Proofs.Ytpjfidmapnnbkaa
open Go.RowKit

def cmpI (a b : Int) : Int := if a < b then -1 else if b < a then 1 else 0
theorem cmpI_lt {a b : Int} : cmpI a b < 0 ↔ a < b := by
  unfold cmpI; split
  · simp [*]
  · split <;> simp [*]
theorem cmpI_zero {a b : Int} : cmpI a b = 0 ↔ a = b := by
  unfold cmpI; split
  · simp; omega
  · split
    · simp; omega
    · simp; omega
theorem isNaN_any (a : Int) (w : World) : Calls Try.prog 50 #[.int .i64 a] w fun e w' => e = .returned (.bool false) ∧ w = w' := by
  have hv : (a != a) = false := by simp
  go_enter Try.func50, Try.ntmps50
  go_wp2
  go_ret
  exact ⟨rfl, rfl⟩
theorem compare_any (a b : Int) (w : World) : Calls Try.prog 35 #[.int .i64 a, .int .i64 b] w fun e w' => e = .returned (.int .i64 (cmpI a b)) ∧ w = w' := by
  have ha := fun W => isNaN_any a W
  have hb := fun W => isNaN_any b W
  by_cases h1 : a < b
  · have HE : Hid (cmpI a b = -1) := by unfold Hid cmpI; rw [if_pos h1]
    go_enter Try.func35, Try.ntmps35
    go_wp2_with fail
    refine (ha _).mono ?_
    rintro e w' ⟨rfl, rfl⟩
    go_wp2_with fail
    refine (hb _).mono ?_
    rintro e w' ⟨rfl, rfl⟩
    go_wp2
    go_ret
    exact ⟨by rw [HE.out]; rfl, rfl⟩
  · by_cases h2 : b < a
    · have HE : Hid (cmpI a b = 1) := by unfold Hid cmpI; rw [if_neg h1, if_pos h2]
      go_enter Try.func35, Try.ntmps35
      go_wp2_with fail
      refine (ha _).mono ?_
      rintro e w' ⟨rfl, rfl⟩
      go_wp2_with fail
      refine (hb _).mono ?_
      rintro e w' ⟨rfl, rfl⟩
      go_wp2
      go_ret
      exact ⟨by rw [HE.out]; rfl, rfl⟩
    · have HE : Hid (cmpI a b = 0) := by unfold Hid cmpI; rw [if_neg h1, if_neg h2]
      go_enter Try.func35, Try.ntmps35
      go_wp2_with fail
      refine (ha _).mono ?_
      rintro e w' ⟨rfl, rfl⟩
      go_wp2_with fail
      refine (hb _).mono ?_
      rintro e w' ⟨rfl, rfl⟩
      go_wp2
      go_ret
      exact ⟨by rw [HE.out]; rfl, rfl⟩
theorem monthFn_any (t u : Row) (w : World) : Calls Try.prog 34 (#[t.val, u.val] ++ #[]) w fun e w' => e = .returned (.int .i64 (cmpI t.m u.m)) ∧ Below w.heap.size w w' := by
  show Calls Try.prog 34 #[t.val, u.val] w _
  have b1 := (Below.refl w.heap.size w).alloc (Nat.le_refl _) (.cells #[.int .i64 t.m, .int .i64 t.b, .int .i64 t.s, .int .i64 t.c, .int .i64 t.l] 42)
  have b2 := b1.alloc b1.size (.cells #[.int .i64 u.m, .int .i64 u.b, .int .i64 u.s, .int .i64 u.c, .int .i64 u.l] 42)
  have hc := fun W => compare_any t.m u.m W
  go_enter Try.func34, Try.ntmps34
  go_wp2_with fail
  refine (hc _).mono ?_
  rintro e w' ⟨rfl, rfl⟩
  go_wp2
  go_ret
  exact ⟨rfl, b2⟩

/-- The program's result: rows of the call's own, and whether there are any. -/
def GivesRows (w : World) (R : List Row × Bool) (e : Ending) (w' : World) : Prop := ∃ A c, e = .returned (.tuple #[.slice A R.1.length c, .bool R.2]) ∧ w'.ownsRow w.heap.size 42 5 (.slice A R.1.length c) R.1.length (R.1.flatMap Row.enc) ∧ Below w.heap.size w w'
theorem GivesRows.no {w w' : World} {e : Ending} (he : e = .returned (.tuple #[.slice none 0 0, .bool false])) (hb : Below w.heap.size w w') : GivesRows w ([], false) e w' := ⟨none, 0, he, World.ownsRow_nil _ _ _ _, hb⟩

theorem flat_take5 : ∀ (l : List Row) (i : Nat), (l.take i).flatMap Row.enc = (l.flatMap Row.enc).take (i * 5)
  | [], i => by simp
  | x :: l, 0 => by simp
  | x :: l, i + 1 => by
    have e : (i + 1) * 5 = x.enc.length + i * 5 := by rw [Row.enc_len]; omega
    rw [List.take_succ_cons, List.flatMap_cons, List.flatMap_cons, flat_take5 l i, e, List.take_length_add_append]
theorem flat_drop5 : ∀ (l : List Row) (i : Nat), (l.drop i).flatMap Row.enc = (l.flatMap Row.enc).drop (i * 5)
  | [], i => by simp
  | x :: l, 0 => by simp
  | x :: l, i + 1 => by
    have e : (i + 1) * 5 = x.enc.length + i * 5 := by rw [Row.enc_len]; omega
    rw [List.drop_succ_cons, List.flatMap_cons, flat_drop5 l i, e, List.drop_length_add_append]
theorem flat_ins5 (l : List Row) (i : Nat) (r : Row) : (l.take i ++ r :: l.drop i).flatMap Row.enc = (l.flatMap Row.enc).take (i * 5) ++ Row.enc r ++ (l.flatMap Row.enc).drop (i * 5) := by
  rw [List.flatMap_append, List.flatMap_cons, flat_take5, flat_drop5, List.append_assoc]
theorem flat_set5 {i : Nat} {u0 u1 u2 u3 : Int} : ∀ {l : List Row} (h : i < l.length), ((((l.flatMap Row.enc).set (i * 5 + 1) (.int .i64 u0)).set (i * 5 + 2) (.int .i64 u1)).set (i * 5 + 3) (.int .i64 u2)).set (i * 5 + 4) (.int .i64 u3) = (l.set i ⟨l[i].m, u0, u1, u2, u3⟩).flatMap Row.enc := by
  induction i with
  | zero => intro l h; match l, h with
    | x :: l, _ => simp [Row.enc]
  | succ i ih => intro l h; match l, h with
    | x :: l, h =>
      simp only [List.flatMap_cons, List.getElem_cons_succ, List.set_cons_succ]
      rw [← ih (by simpa using h)]
      rw [List.set_append_right _ _ (by rw [Row.enc_len]; omega), List.set_append_right _ _ (by rw [Row.enc_len]; omega), List.set_append_right _ _ (by rw [Row.enc_len]; omega), List.set_append_right _ _ (by rw [Row.enc_len]; omega), Row.enc_len]
      have e1 : (i + 1) * 5 + 1 - 5 = i * 5 + 1 := by omega
      have e2 : (i + 1) * 5 + 2 - 5 = i * 5 + 2 := by omega
      have e3 : (i + 1) * 5 + 3 - 5 = i * 5 + 3 := by omega
      have e4 : (i + 1) * 5 + 4 - 5 = i * 5 + 4 := by omega
      rw [e1, e2, e3, e4]

set_option maxRecDepth 100000 in
set_option maxHeartbeats 4000000 in
theorem implJoin_any (A : Option Addr) (c : Nat) (l : List Row) (A' : Option Addr) (c' : Nat) (m : List Row) (w : World) (h : RowsR w w.heap.size A l) (h' : RowsR w w.heap.size A' m) :
    Calls Try.prog 8 #[.slice A l.length c, .slice A' m.length c'] w (GivesRows w (joinBoth l m)) := by
  have hl := h.big
  have hm := h'.big
  have ca := fun W hW => areOfficeRows_any A c l W hW
  have cb := fun W hW => areOfficeRows_any A' c' m W hW
  cases hg : goodRows l
  · have HN := Lib.hid (join_no (a := l) (b := m) (by rw [hg]; rfl))
    rw [hg] at ca
    clear hg
    go_enter Try.func8, Try.ntmps8
    go_wp2_with fail
    refine (ca _ h).mono ?_
    rintro e w1 ⟨rfl, hb1⟩
    go_wp2
    go_ret2
    rw [HN.out]
    exact GivesRows.no rfl hb1
  · cases hg' : goodRows m
    · have HN := Lib.hid (join_no (a := l) (b := m) (by rw [hg, hg']; rfl))
      rw [hg] at ca
      rw [hg'] at cb
      clear hg hg'
      go_enter Try.func8, Try.ntmps8
      go_wp2_with fail
      refine (ca _ h).mono ?_
      rintro e w1 ⟨rfl, hb1⟩
      go_wp2_with fail
      refine (cb _ (SlcR.then h' hb1)).mono ?_
      rintro e w2 ⟨rfl, hb2⟩
      go_wp2
      go_ret2
      rw [HN.out]
      exact GivesRows.no rfl (bthen hb1 hb2)
    · have hl12 := good_len hg
      have hm12 := good_len hg'
      have HJ0 : Hid (Joined l m 0 l) := Joined.start hg hg'
      have HST : Hid (∀ k out, Joined l m k out → (hk : k < m.length) → Joined l m (k + 1) (insR m[k] out)) := fun k out hj hk => hj.step hg' hk
      have HMB : Hid (∀ k (hk : k < m.length), (m[k]'hk).within 1000000) := fun k hk => within_ok (good_at hg' hk)
      have HY : Hid (goodRows (mergeR l m) = true → joinBoth l m = (mergeR l m, true)) := fun h2 => join_yes (by rw [hg, hg']; rfl) h2
      have HX : Hid (goodRows (mergeR l m) = false → joinBoth l m = ([], false)) := fun h2 => join_bad (by rw [hg, hg']; rfl) h2
      rw [hg] at ca
      rw [hg'] at cb
      clear hg hg'
      go_enter Try.func8, Try.ntmps8
      go_wp2_with fail
      refine (ca _ h).mono ?_
      rintro e w1 ⟨rfl, hb1⟩
      go_wp2_with fail
      refine (cb _ (SlcR.then h' hb1)).mono ?_
      rintro e w2 ⟨rfl, hb2⟩
      have k2 := bthen hb1 hb2
      go_wp2_with fail
      refine (cloneRow_any A c l w2 (SlcR.then h k2) (by omega)).mono ?_
      rintro e w3 ⟨A3, c3, rfl, ho3, hb3⟩
      have k3 := bthen k2 hb3
      have ho3' := ownsRow_lower ho3 k2.size
      have hrm := RowsR.row h'
      have HO3 := Lib.hid ho3'; clear ho3 ho3' ca cb h h' hb1 hb2 hb3
      go_wp2
      go_loopw [6, 23] (fun out i wr => ∃ (k : Nat) (o : List Row), k ≤ m.length ∧ i = .int .i64 k ∧ Hid (Joined l m k o) ∧ Hid (wr.ownsRow w.heap.size 42 5 out o.length (o.flatMap Row.enc)) ∧ Below w.heap.size w wr) (fun _ i _ => m.length - (intOf i).toNat)
      case atStart => exact ⟨0, l, Nat.zero_le _, rfl, HJ0, HO3, k3⟩
      case round =>
        clear HJ0 HO3 k3
        obtain ⟨k, o, hk, rfl, HJ, HO, hbr⟩ := hrel
        obtain ⟨q, rfl⟩ : ∃ q : Since w.heap.size w, wr = q.val := ⟨⟨wr, hbr⟩, rfl⟩
        obtain ⟨A5, c5, rfl⟩ := ownsRow_slice HO.out
        have hol : o.length ≤ 100 := by have := HJ.out.len; omega
        by_cases hlt : k < m.length
        · have HJ1 := Lib.hid (HST.out k o HJ.out hlt)
          obtain ⟨bb, off, rfl, hbb, hcell⟩ := hrm (by omega)
          have hcl := hcell k hlt
          have hwr := HMB.out k hlt
          obtain ⟨r, hre⟩ : ∃ r, r = m[k] := ⟨_, rfl⟩
          rw [← hre] at hcl HJ1 hwr
          obtain ⟨e0, e1, e2, e3, e4⟩ := hcl
          have bV := (Below.refl q.val.heap.size q.val).alloc (Nat.le_refl _) (.cells #[.int .i64 r.m, .int .i64 r.b, .int .i64 r.s, .int .i64 r.c, .int .i64 r.l] 42)
          have LV := Lies.new q.val 42 #[.int .i64 r.m, .int .i64 r.b, .int .i64 r.s, .int .i64 r.c, .int .i64 r.l]
          have hOV := ownsRow_below HO.out bV
          have bwV : Below w.heap.size w (q.val.alloc (.cells #[.int .i64 r.m, .int .i64 r.b, .int .i64 r.s, .int .i64 r.c, .int .i64 r.l] 42)) := q.below.trans (bV.mono q.size)
          have hlo : ∀ i (h : i < o.length), i < posR o r → cmpI o[i].m r.m < 0 := fun i h hi => cmpI_lt.2 (posR_lt o r i h hi)
          have hhi : ∀ i (h : i < o.length), posR o r ≤ i → ¬ cmpI o[i].m r.m < 0 := fun i h hi hc => posR_ge o r HJ.out.asc i h hi (cmpI_lt.1 hc)
          have hple := posR_le o r
          have cB := fun (fd : Bool) (h1 : ∀ h : posR o r < o.length, fd = decide (cmpI o[posR o r].m r.m = 0)) (h2 : posR o r = o.length → fd = false) => bsRow_any (fun t => cmpI t.m r.m) r 34 #[] Try.call34 A5 c5 o (q.val.alloc (.cells #[.int .i64 r.m, .int .i64 r.b, .int .i64 r.s, .int .i64 r.c, .int .i64 r.l] 42)) (fun t p => monthFn_any t r p.val) (ownsRow_reads hOV) (by omega) (posR o r) hple hlo hhi fd h1 h2
          have hgV : q.val.heap.size < (q.val.alloc (.cells #[.int .i64 r.m, .int .i64 r.b, .int .i64 r.s, .int .i64 r.c, .int .i64 r.l] 42)).heap.size := LV.lt
          by_cases hf : ∃ h : posR o r < o.length, o[posR o r].m = r.m
          · obtain ⟨hplt, hpm⟩ := hf
            have HI := Lib.hid (insR_old o r hplt hpm)
            have cB := cB true (fun _ => by rw [decide_eq_true (cmpI_zero.2 hpm)]) (fun e => by omega)
            have hwx := HJ.out.bd _ (List.getElem_mem hplt)
            obtain ⟨b, hb⟩ : ∃ b, b = posR o r := ⟨_, rfl⟩
            have hblt : b < o.length := by rw [hb]; exact hplt
            obtain ⟨x, hx⟩ : ∃ x, x = o[b] := ⟨_, rfl⟩
            have hxp : o[posR o r] = x := by rw [hx]; congr 1; exact hb.symm
            rw [hxp] at HI hwx
            rw [← hb] at cB HI
            have HSET := Lib.hid (flat_set5 (u0 := x.b + r.b) (u1 := x.s + r.s) (u2 := x.c + r.c) (u3 := x.l + r.l) hblt)
            have hel : ∀ i, i < 5 → (o.flatMap Row.enc)[b * 5 + i]? = (Row.enc x)[i]? := fun i hi => by rw [flat_at Row.enc 5 Row.enc_len o b hblt i hi, ← hx]
            rw [← hx] at HSET
            obtain ⟨gO, cap, _, hvO, hgO, _, _⟩ := ownsRow_at hOV (by omega)
            injection hvO with e1' e2' e3'
            subst e1'; subst e3'
            have hgOq : gO < q.val.heap.size := (HO.out.lt gO rfl).2
            obtain ⟨⟨hx1, hx2⟩, ⟨hx3, hx4⟩, ⟨hx5, hx6⟩, ⟨hx7, hx8⟩⟩ := hwx
            obtain ⟨⟨hr1, hr2⟩, ⟨hr3, hr4⟩, ⟨hr5, hr6⟩, ⟨hr7, hr8⟩⟩ := hwr
            clear hlo hhi hxp hplt hpm hb hcell hrm hre
            go_wp2_with fail
            generalize q.val.alloc (.cells #[.int .i64 r.m, .int .i64 r.b, .int .i64 r.s, .int .i64 r.c, .int .i64 r.l] 42) = V at bV LV hOV bwV cB hgV ⊢
            generalize q.val.heap.size = gB at LV hgV hgOq ⊢
            refine cB.mono ?_
            rintro e w5 ⟨rfl, hb5⟩
            have L5 := LV.below hb5 LV.lt
            have o5 := ownsRow_below hOV hb5
            have b5 := bwV.trans (hb5.mono bwV.size)
            have s1 := L5.cell 1
            have s2 := L5.cell 2
            have s3 := L5.cell 3
            have s4 := L5.cell 4
            simp only [List.getElem?_cons_zero, List.getElem?_cons_succ] at s1 s2 s3 s4
            have t1 : w5.cell? ⟨gO, b * 5 + 1, none⟩ = some (.int .i64 x.b) := (o5.cellAt _ (by omega)).trans (hel 1 (by omega))
            have t2 : w5.cell? ⟨gO, b * 5 + 2, none⟩ = some (.int .i64 x.s) := (o5.cellAt _ (by omega)).trans (hel 2 (by omega))
            have t3 : w5.cell? ⟨gO, b * 5 + 3, none⟩ = some (.int .i64 x.c) := (o5.cellAt _ (by omega)).trans (hel 3 (by omega))
            have t4 : w5.cell? ⟨gO, b * 5 + 4, none⟩ = some (.int .i64 x.l) := (o5.cellAt _ (by omega)).trans (hel 4 (by omega))
            have f1 := o5.frozenAt (b * 5 + 1)
            have f2 := o5.frozenAt (b * 5 + 2)
            have f3 := o5.frozenAt (b * 5 + 3)
            have f4 := o5.frozenAt (b * 5 + 4)
            have hne : ¬ gO = gB := by omega
            have hne' : ¬ gB = gO := by omega
            have O5 := Lib.hid o5
            have B5 := Lib.hid b5
            have hbz : (0 : Int) ≤ (b : Int) := by omega
            have hbi : (b : Int) < (o.length : Int) := by omega
            clear bV LV hOV bwV cB hgV hb5 o5 b5 hel L5 hx
            go_wp2
            go_still_tail 10, (by kernel_rfl)
            change wpList _ _ _ _ _ w5.drew
            have t1d := (show w5.drew.cell? _ = _ from t1)
            have t2d := (show w5.drew.cell? _ = _ from t2)
            have t3d := (show w5.drew.cell? _ = _ from t3)
            have t4d := (show w5.drew.cell? _ = _ from t4)
            have s1d := (show w5.drew.cell? _ = _ from s1)
            have s2d := (show w5.drew.cell? _ = _ from s2)
            have s3d := (show w5.drew.cell? _ = _ from s3)
            have s4d := (show w5.drew.cell? _ = _ from s4)
            have f1d := (show w5.drew.frozen? _ = _ from f1)
            have f2d := (show w5.drew.frozen? _ = _ from f2)
            have f3d := (show w5.drew.frozen? _ = _ from f3)
            have f4d := (show w5.drew.frozen? _ = _ from f4)
            have O5d := Lib.hid (ownsRow_drew O5.out)
            have B5d := Lib.hid (B5.out).drew
            clear t1 t2 t3 t4 f1 f2 f3 f4 s1 s2 s3 s4 O5 B5
            generalize w5.drew = D1 at t1d t2d t3d t4d f1d f2d f3d f4d s1d s2d s3d s4d O5d B5d ⊢
            have P1 := Lib.hid (ownsRow_set O5d.out (b * 5 + 1) (.int .i64 (x.b + r.b)) (by omega))
            have Q1 := Lib.hid ((B5d.out).grown (grown_set (g := gO) (i := b * 5 + 1) (u := (.int .i64 (x.b + r.b))) (World.grownBy.refl D1 (some gO))) (B5d.out).size (by rintro _ ⟨⟩; exact hgO))
            have t2 : (D1.setCell ⟨gO, b * 5 + 1, none⟩ (.int .i64 (x.b + r.b))).cell? ⟨gO, b * 5 + 2, none⟩ = _ := (World.cell?_setCell_other _ _ _ _ (by simp)).trans t2d
            have s2 : (D1.setCell ⟨gO, b * 5 + 1, none⟩ (.int .i64 (x.b + r.b))).cell? ⟨gB, 2, none⟩ = _ := (World.cell?_setCell_other _ _ _ _ (by simp [hne, hne'])).trans s2d
            have f2 : (D1.setCell ⟨gO, b * 5 + 1, none⟩ (.int .i64 (x.b + r.b))).frozen? ⟨gO, b * 5 + 2, none⟩ = false := (World.frozen?_setCell _ _ _ _).trans f2d
            have t3 : (D1.setCell ⟨gO, b * 5 + 1, none⟩ (.int .i64 (x.b + r.b))).cell? ⟨gO, b * 5 + 3, none⟩ = _ := (World.cell?_setCell_other _ _ _ _ (by simp)).trans t3d
            have s3 : (D1.setCell ⟨gO, b * 5 + 1, none⟩ (.int .i64 (x.b + r.b))).cell? ⟨gB, 3, none⟩ = _ := (World.cell?_setCell_other _ _ _ _ (by simp [hne, hne'])).trans s3d
            have f3 : (D1.setCell ⟨gO, b * 5 + 1, none⟩ (.int .i64 (x.b + r.b))).frozen? ⟨gO, b * 5 + 3, none⟩ = false := (World.frozen?_setCell _ _ _ _).trans f3d
            have t4 : (D1.setCell ⟨gO, b * 5 + 1, none⟩ (.int .i64 (x.b + r.b))).cell? ⟨gO, b * 5 + 4, none⟩ = _ := (World.cell?_setCell_other _ _ _ _ (by simp)).trans t4d
            have s4 : (D1.setCell ⟨gO, b * 5 + 1, none⟩ (.int .i64 (x.b + r.b))).cell? ⟨gB, 4, none⟩ = _ := (World.cell?_setCell_other _ _ _ _ (by simp [hne, hne'])).trans s4d
            have f4 : (D1.setCell ⟨gO, b * 5 + 1, none⟩ (.int .i64 (x.b + r.b))).frozen? ⟨gO, b * 5 + 4, none⟩ = false := (World.frozen?_setCell _ _ _ _).trans f4d
            go_wp2
            clear t1d t2d t3d t4d f1d f2d f3d f4d s1d s2d s3d s4d
            generalize D1.setCell ⟨gO, b * 5 + 1, none⟩ (.int .i64 (x.b + r.b)) = E1 at t2 s2 f2 t3 s3 f3 t4 s4 f4 P1 Q1 ⊢
            go_still_tail 10, (by kernel_rfl)
            change wpList _ _ _ _ _ E1.drew
            have t2d := (show E1.drew.cell? _ = _ from t2)
            have t3d := (show E1.drew.cell? _ = _ from t3)
            have t4d := (show E1.drew.cell? _ = _ from t4)
            have s2d := (show E1.drew.cell? _ = _ from s2)
            have s3d := (show E1.drew.cell? _ = _ from s3)
            have s4d := (show E1.drew.cell? _ = _ from s4)
            have f2d := (show E1.drew.frozen? _ = _ from f2)
            have f3d := (show E1.drew.frozen? _ = _ from f3)
            have f4d := (show E1.drew.frozen? _ = _ from f4)
            have P1d := Lib.hid (ownsRow_drew P1.out)
            have Q1d := Lib.hid (Q1.out).drew
            clear t2 t3 t4 f2 f3 f4 s2 s3 s4 P1 Q1
            generalize E1.drew = D2 at t2d t3d t4d f2d f3d f4d s2d s3d s4d P1d Q1d ⊢
            have P2 := Lib.hid (ownsRow_set P1d.out (b * 5 + 2) (.int .i64 (x.s + r.s)) (by omega))
            have Q2 := Lib.hid ((Q1d.out).grown (grown_set (g := gO) (i := b * 5 + 2) (u := (.int .i64 (x.s + r.s))) (World.grownBy.refl D2 (some gO))) (Q1d.out).size (by rintro _ ⟨⟩; exact hgO))
            have t3 : (D2.setCell ⟨gO, b * 5 + 2, none⟩ (.int .i64 (x.s + r.s))).cell? ⟨gO, b * 5 + 3, none⟩ = _ := (World.cell?_setCell_other _ _ _ _ (by simp)).trans t3d
            have s3 : (D2.setCell ⟨gO, b * 5 + 2, none⟩ (.int .i64 (x.s + r.s))).cell? ⟨gB, 3, none⟩ = _ := (World.cell?_setCell_other _ _ _ _ (by simp [hne, hne'])).trans s3d
            have f3 : (D2.setCell ⟨gO, b * 5 + 2, none⟩ (.int .i64 (x.s + r.s))).frozen? ⟨gO, b * 5 + 3, none⟩ = false := (World.frozen?_setCell _ _ _ _).trans f3d
            have t4 : (D2.setCell ⟨gO, b * 5 + 2, none⟩ (.int .i64 (x.s + r.s))).cell? ⟨gO, b * 5 + 4, none⟩ = _ := (World.cell?_setCell_other _ _ _ _ (by simp)).trans t4d
            have s4 : (D2.setCell ⟨gO, b * 5 + 2, none⟩ (.int .i64 (x.s + r.s))).cell? ⟨gB, 4, none⟩ = _ := (World.cell?_setCell_other _ _ _ _ (by simp [hne, hne'])).trans s4d
            have f4 : (D2.setCell ⟨gO, b * 5 + 2, none⟩ (.int .i64 (x.s + r.s))).frozen? ⟨gO, b * 5 + 4, none⟩ = false := (World.frozen?_setCell _ _ _ _).trans f4d
            go_wp2
            clear t2d t3d t4d f2d f3d f4d s2d s3d s4d
            generalize D2.setCell ⟨gO, b * 5 + 2, none⟩ (.int .i64 (x.s + r.s)) = E2 at t3 s3 f3 t4 s4 f4 P2 Q2 ⊢
            go_still_tail 10, (by kernel_rfl)
            change wpList _ _ _ _ _ E2.drew
            have t3d := (show E2.drew.cell? _ = _ from t3)
            have t4d := (show E2.drew.cell? _ = _ from t4)
            have s3d := (show E2.drew.cell? _ = _ from s3)
            have s4d := (show E2.drew.cell? _ = _ from s4)
            have f3d := (show E2.drew.frozen? _ = _ from f3)
            have f4d := (show E2.drew.frozen? _ = _ from f4)
            have P2d := Lib.hid (ownsRow_drew P2.out)
            have Q2d := Lib.hid (Q2.out).drew
            clear t3 t4 f3 f4 s3 s4 P2 Q2
            generalize E2.drew = D3 at t3d t4d f3d f4d s3d s4d P2d Q2d ⊢
            have P3 := Lib.hid (ownsRow_set P2d.out (b * 5 + 3) (.int .i64 (x.c + r.c)) (by omega))
            have Q3 := Lib.hid ((Q2d.out).grown (grown_set (g := gO) (i := b * 5 + 3) (u := (.int .i64 (x.c + r.c))) (World.grownBy.refl D3 (some gO))) (Q2d.out).size (by rintro _ ⟨⟩; exact hgO))
            have t4 : (D3.setCell ⟨gO, b * 5 + 3, none⟩ (.int .i64 (x.c + r.c))).cell? ⟨gO, b * 5 + 4, none⟩ = _ := (World.cell?_setCell_other _ _ _ _ (by simp)).trans t4d
            have s4 : (D3.setCell ⟨gO, b * 5 + 3, none⟩ (.int .i64 (x.c + r.c))).cell? ⟨gB, 4, none⟩ = _ := (World.cell?_setCell_other _ _ _ _ (by simp [hne, hne'])).trans s4d
            have f4 : (D3.setCell ⟨gO, b * 5 + 3, none⟩ (.int .i64 (x.c + r.c))).frozen? ⟨gO, b * 5 + 4, none⟩ = false := (World.frozen?_setCell _ _ _ _).trans f4d
            go_wp2
            clear t3d t4d f3d f4d s3d s4d
            generalize D3.setCell ⟨gO, b * 5 + 3, none⟩ (.int .i64 (x.c + r.c)) = E3 at t4 s4 f4 P3 Q3 ⊢
            go_still_tail 10, (by kernel_rfl)
            change wpList _ _ _ _ _ E3.drew
            have t4d := (show E3.drew.cell? _ = _ from t4)
            have s4d := (show E3.drew.cell? _ = _ from s4)
            have f4d := (show E3.drew.frozen? _ = _ from f4)
            have P3d := Lib.hid (ownsRow_drew P3.out)
            have Q3d := Lib.hid (Q3.out).drew
            clear t4 f4 s4 P3 Q3
            generalize E3.drew = D4 at t4d f4d s4d P3d Q3d ⊢
            have P4 := Lib.hid (ownsRow_set P3d.out (b * 5 + 4) (.int .i64 (x.l + r.l)) (by omega))
            have Q4 := Lib.hid ((Q3d.out).grown (grown_set (g := gO) (i := b * 5 + 4) (u := (.int .i64 (x.l + r.l))) (World.grownBy.refl D4 (some gO))) (Q3d.out).size (by rintro _ ⟨⟩; exact hgO))
            go_wp2
            clear t4d f4d s4d
            generalize D4.setCell ⟨gO, b * 5 + 4, none⟩ (.int .i64 (x.l + r.l)) = E4 at  P4 Q4 ⊢
            go_roundw
            case rel =>
              have h4 := P4.out
              rw [HSET.out] at h4
              refine ⟨k + 1, insR r o, by omega, by go_num, HJ1, ?_, Q4.out⟩
              rw [HI.out]
              have e : (o.set b (addR x r)).length = o.length := by simp
              unfold Hid
              rw [e]
              exact h4
            case measure => simp [intOf]; omega
          · have hnew : ∀ h : posR o r < o.length, o[posR o r].m ≠ r.m := fun h e => hf ⟨h, e⟩
            have HI := Lib.hid (insR_new o r hnew)
            have cB := cB false (fun h => by symm; rw [decide_eq_false_iff_not, cmpI_zero]; exact hnew h) (fun _ => rfl)
            generalize posR o r = b at cB HI hple
            clear hlo hhi hnew hf hcell hrm hre
            go_wp2_with fail
            generalize q.val.alloc (.cells #[.int .i64 r.m, .int .i64 r.b, .int .i64 r.s, .int .i64 r.c, .int .i64 r.l] 42) = V at bV LV hOV bwV cB hgV ⊢
            generalize q.val.heap.size = gB at LV hgV ⊢
            refine cB.mono ?_
            rintro e w5 ⟨rfl, hb5⟩
            have L5 := LV.below hb5 LV.lt
            have o5 := ownsRow_below hOV hb5
            have b5 := bwV.trans (hb5.mono bwV.size)
            have s0 := L5.cell 0
            have s1 := L5.cell 1
            have s2 := L5.cell 2
            have s3 := L5.cell 3
            have s4 := L5.cell 4
            simp only [List.getElem?_cons_zero, List.getElem?_cons_succ] at s0 s1 s2 s3 s4
            have al := (Below.refl w5.heap.size w5).alloc (Nat.le_refl _) (.cells #[.int .i64 r.m, .int .i64 r.b, .int .i64 r.s, .int .i64 r.c, .int .i64 r.l] 42)
            have o6 := ownsRow_below o5 al
            have b6 : Below w.heap.size w (w5.alloc (.cells #[.int .i64 r.m, .int .i64 r.b, .int .i64 r.s, .int .i64 r.c, .int .i64 r.l] 42)) := b5.trans (al.mono b5.size)
            have cI := insRow_any w.heap.size (.slice A5 o.length c5) o.length (o.flatMap Row.enc) (w5.alloc (.cells #[.int .i64 r.m, .int .i64 r.b, .int .i64 r.s, .int .i64 r.c, .int .i64 r.l] 42)) o6 (by omega) b hple r w5.heap.size 1 (Lies.new w5 42 #[.int .i64 r.m, .int .i64 r.b, .int .i64 r.s, .int .i64 r.c, .int .i64 r.l]) (fun e => by have := (o5.lt _ e).2; omega) b6.size row_cells
            rw [← flat_ins5, ← HI.out] at cI
            have hlen : o.length + 1 = (insR r o).length := by rw [HI.out]; simp; omega
            rw [hlen] at cI
            clear hlen bV LV hOV bwV cB hgV
            go_wp2_with fail
            clear s0 s1 s2 s3 s4
            generalize w5.alloc (.cells #[.int .i64 r.m, .int .i64 r.b, .int .i64 r.s, .int .i64 r.c, .int .i64 r.l] 42) = W6 at al o6 b6 cI ⊢
            refine cI.mono ?_
            rintro e w7 ⟨v', rfl, HO7, hg7⟩
            have B7 := b6.grown hg7 b6.size (fun j hj => (o6.lt j hj).1)
            have HO7 := Lib.hid HO7
            go_wp2
            go_roundw
            case rel => exact ⟨k + 1, insR r o, by omega, by go_num, HJ1, HO7, B7⟩
            case measure => simp [intOf]; omega
        · have HD : Hid (k = m.length) := by unfold Hid; omega
          have HE : Hid (o = mergeR l m) := by have := HJ.out; rw [HD.out] at this; exact this.done
          have hRO := ownsRow_reads HO.out
          have cF := areOfficeRows_any A5 c5 o q.val hRO
          clear hrm
          cases hgo : goodRows o
          · rw [hgo] at cF
            have HN := Lib.hid (HX.out (by rw [← HE.out]; exact hgo))
            clear hgo
            go_wp2_with fail
            refine cF.mono ?_
            rintro e w4 ⟨rfl, hb4⟩
            go_wp2
            go_ret2
            rw [HN.out]
            exact GivesRows.no rfl (q.below.trans (hb4.mono q.size))
          · rw [hgo] at cF
            have HN := Lib.hid (HY.out (by rw [← HE.out]; exact hgo))
            clear hgo
            go_wp2_with fail
            refine cF.mono ?_
            rintro e w4 ⟨rfl, hb4⟩
            go_wp2
            go_ret2
            rw [HN.out, ← HE.out]
            exact ⟨A5, c5, rfl, ownsRow_below HO.out hb4, q.below.trans (hb4.mono q.size)⟩
end Go.Proofs.Ytpjfidmapnnbkaa
