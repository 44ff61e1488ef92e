/- Of02: the texts QRow OwnR OwnRow JoinI JoinS, joined into one file. -/
import Derived.StillTailTactics
import Derived.Laws.OwnMore
import Derived.Test.YtpjfidmapnnbkaaGreatDoorOf01

set_option linter.unusedVariables false

/- slices.BinarySearchFunc, Insert at impl.OfficeRow (printed by gen_libq.py). -/
namespace Go.Proofs.YtpjfidmapnnbkaaGreatDoor
open Go.RowKit

theorem calls_sinceE {P : Program} {f : FuncId} {args : Array Value} {B : Nat} {w : World} {q : Since B w} {v v' : Value} (hv : Hid (v = v')) (hB : B ≤ w.heap.size)
    (h : Calls P f args q.val fun e w' => e = .returned v ∧ Below q.val.heap.size q.val w') : Calls P f args q.val fun e w' => e = .returned v' ∧ ∃ q' : Since B w, w' = q'.val := by
  have := hv.out; subst this; exact calls_since hB h

set_option maxRecDepth 100000 in
set_option maxHeartbeats 2000000 in
/-- slices.BinarySearchFunc: the first b of the list come before the target, the others do not. -/
theorem bsRow_any (cf : Row → Int) (tg : Row) (g : Nat) (lb : Array Value) (eg : ∀ args w, (callFunc g args).run Tryz.prog w = .ok (.enter g args) w) (A : Option Addr) (c : Nat) (l : List Row) (w : World)
    (hf : ∀ (t : Row) (p : Since w.heap.size w), Calls Tryz.prog g (#[t.val, tg.val] ++ lb) p.val fun e w' => e = .returned (.int .i64 (cf t)) ∧ Below p.val.heap.size p.val w') (h : RowsR w w.heap.size A l) (hl : l.length ≤ 1000000)
    (b : Nat) (hb : b ≤ l.length) (hlo : ∀ i (h : i < l.length), i < b → cf l[i] < 0) (hhi : ∀ i (h : i < l.length), b ≤ i → ¬ cf l[i] < 0) (fd : Bool) (hfd : ∀ h : b < l.length, fd = decide (cf l[b] = 0)) (hfd' : b = l.length → fd = false) :
    Calls Tryz.prog 43 #[.slice A l.length c, tg.val, .func (.func g) #[] lb] w fun e w' => e = .returned (.tuple #[.int .i64 b, .bool fd]) ∧ Below w.heap.size w w' := by
  have b0 := (Below.refl w.heap.size w).alloc (Nat.le_refl _) (.cells #[.int .i64 tg.m, .int .i64 tg.b, .int .i64 tg.s, .int .i64 tg.c, .int .i64 tg.l] 25)
  have hL0 := Lies.new w 25 #[.int .i64 tg.m, .int .i64 tg.b, .int .i64 tg.s, .int .i64 tg.c, .int .i64 tg.l]
  have HC := Lib.hid hf; clear hf
  have HLO := Lib.hid hlo; clear hlo
  have HHI := Lib.hid hhi; clear hhi
  have HFD := Lib.hid hfd; clear hfd
  have HFD' := Lib.hid hfd'; clear hfd'
  go_enter Tryz.func43, Tryz.ntmps43
  go_wp2
  have h0 := SlcR.up h b0 (Nat.le_refl _)
  generalize w.alloc (.cells #[.int .i64 tg.m, .int .i64 tg.b, .int .i64 tg.s, .int .i64 tg.c, .int .i64 tg.l] 25) = W at b0 hL0 h0 ⊢
  have hrd := (show RowsR W W.heap.size A l from h0).row
  obtain ⟨d0, d1, d2, d3, d4⟩ := RowS.of (r := tg) hL0
  go_loopw [9, 10] (fun s9 s10 wr => ∃ lo hi : Nat, s9 = .int .i64 lo ∧ s10 = .int .i64 hi ∧ lo ≤ b ∧ b ≤ hi ∧ hi ≤ l.length ∧ (∃ q : Since W.heap.size W, wr = q.val)) (fun s9 s10 _ => (intOf s10).toNat - (intOf s9).toNat)
  case atStart => exact ⟨0, l.length, rfl, rfl, Nat.zero_le _, hb, Nat.le_refl _, Since.start _ _, rfl⟩
  case round =>
    obtain ⟨lo, hi, rfl, rfl, h1, h2, h3, ⟨q, rfl⟩⟩ := hrel
    by_cases hlt : lo < hi
    · have hm : (lo + hi) / 2 < l.length := by omega
      obtain ⟨bb, off, rfl, hbb, hcell⟩ := hrd (by omega)
      obtain ⟨c0, c1, c2, c3, c4⟩ := hcell ((lo + hi) / 2) hm
      have k1 : cf l[(lo + hi) / 2] < 0 → (lo + hi) / 2 + 1 ≤ b := fun hv => by
        rcases Nat.lt_or_ge ((lo + hi) / 2) b with h | h
        · exact h
        · have := HHI.out _ hm h; omega
      have k2 : ¬ cf l[(lo + hi) / 2] < 0 → b ≤ (lo + hi) / 2 := fun hv => by
        rcases Nat.lt_or_ge ((lo + hi) / 2) b with h | h
        · have := HLO.out _ hm h; omega
        · exact h
      obtain ⟨x, hxe⟩ : ∃ x, x = l[(lo + hi) / 2] := ⟨_, rfl⟩
      rw [← hxe] at c0 c1 c2 c3 c4 k1 k2
      have hcx := fun p : Since W.heap.size W => HC.out x ⟨p.val, b0.trans (p.below.mono b0.size)⟩
      obtain ⟨V, hV⟩ : ∃ V, cf x = V := ⟨_, rfl⟩
      have HVV : Hid (Value.int .i64 (cf x) = .int .i64 V) := by rw [hV]; rfl
      rw [hV] at k1 k2
      have hX := Lib.hid hV; clear hV
      clear hxe hcell hrd
      by_cases hv : V < 0
      · have K := k1 hv
        clear k1 k2
        go_wp2
        refine wp_region_since _ (by kernel_rfl) (by kernel_rfl) ?_
        repeat (any_goals (first | go_big_quiet_step ((with_reducible refine calls_sinceE HVV (Nat.le_refl _) (hcx _))) | (refine wpQuiet_step (fun K hK => ?_); go_simp; split <;> (refine hK _ ?_; clear hK K))))
        all_goals (refine wpQuiet_nil ?_; rintro _ ⟨q1, rfl⟩)
        all_goals go_wp2
        go_roundw
        case rel => exact ⟨(lo + hi) / 2 + 1, hi, by go_num, rfl, K, h2, h3, ⟨q1, rfl⟩⟩
        case measure => simp [intOf]; omega
      · have K := k2 hv
        clear k1 k2
        go_wp2
        refine wp_region_since _ (by kernel_rfl) (by kernel_rfl) ?_
        repeat (any_goals (first | go_big_quiet_step ((with_reducible refine calls_sinceE HVV (Nat.le_refl _) (hcx _))) | (refine wpQuiet_step (fun K hK => ?_); go_simp; split <;> (refine hK _ ?_; clear hK K))))
        all_goals (refine wpQuiet_nil ?_; rintro _ ⟨q1, rfl⟩)
        all_goals go_wp2
        go_roundw
        case rel => exact ⟨lo, (lo + hi) / 2, rfl, by go_num, h1, K, by omega, ⟨q1, rfl⟩⟩
        case measure => simp [intOf]; omega
    · obtain rfl : hi = b := by omega
      obtain rfl : lo = hi := by omega
      by_cases hlb : lo < l.length
      · obtain ⟨bb, off, rfl, hbb, hcell⟩ := hrd (by omega)
        obtain ⟨c0, c1, c2, c3, c4⟩ := hcell lo hlb
        have HE := Lib.hid (HFD.out hlb)
        obtain ⟨x, hxe⟩ : ∃ x, x = l[lo] := ⟨_, rfl⟩
        rw [← hxe] at c0 c1 c2 c3 c4 HE
        have hcx := fun p : Since W.heap.size W => HC.out x ⟨p.val, b0.trans (p.below.mono b0.size)⟩
        obtain ⟨V, hV⟩ : ∃ V, cf x = V := ⟨_, rfl⟩
        have HVV : Hid (Value.int .i64 (cf x) = .int .i64 V) := by rw [hV]; rfl
        rw [hV] at HE
        have hX := Lib.hid hV; clear hV
        clear hxe hcell hrd
        by_cases hv : V = 0
        · have hv' : (V == 0) = true := by simp [hv]
          have HV : Hid (fd = true) := by unfold Hid; rw [HE.out, decide_eq_true hv]
          clear hv
          go_wp2
          refine wp_region_since _ (by kernel_rfl) (by kernel_rfl) ?_
          repeat (any_goals (first | go_big_quiet_step ((with_reducible refine calls_sinceE HVV (Nat.le_refl _) (hcx _))) | (refine wpQuiet_step (fun K hK => ?_); go_simp; split <;> (refine hK _ ?_; clear hK K))))
          all_goals (refine wpQuiet_nil ?_; rintro _ ⟨q1, rfl⟩)
          all_goals go_wp2
          go_ret2
          exact ⟨by rw [HV.out]; rfl, b0.trans (q1.below.mono b0.size)⟩
        · have hv' : (V == 0) = false := by simp [hv]
          have HV : Hid (fd = false) := by unfold Hid; rw [HE.out, decide_eq_false hv]
          clear hv
          go_wp2
          refine wp_region_since _ (by kernel_rfl) (by kernel_rfl) ?_
          repeat (any_goals (first | go_big_quiet_step ((with_reducible refine calls_sinceE HVV (Nat.le_refl _) (hcx _))) | (refine wpQuiet_step (fun K hK => ?_); go_simp; split <;> (refine hK _ ?_; clear hK K))))
          all_goals (refine wpQuiet_nil ?_; rintro _ ⟨q1, rfl⟩)
          all_goals go_wp2
          go_ret2
          exact ⟨by rw [HV.out]; rfl, b0.trans (q1.below.mono b0.size)⟩
      · have HV := Lib.hid (HFD'.out (by omega))
        clear hrd
        have hd : decide (lo < l.length) = false := decide_eq_false hlb
        go_wp2
        refine wp_region_since _ (by kernel_rfl) (by kernel_rfl) ?_
        repeat (any_goals (first | go_big_quiet_step ((fail)) | (refine wpQuiet_step (fun K hK => ?_); go_simp; split <;> (refine hK _ ?_; clear hK K))))
        all_goals (refine wpQuiet_nil ?_; rintro _ ⟨q1, rfl⟩)
        all_goals go_wp2
        go_ret2
        exact ⟨by rw [HV.out]; rfl, b0.trans (q1.below.mono b0.size)⟩

theorem row_cells {l : List Row} : ∀ u ∈ l.flatMap Row.enc, u.oneCell' = true := by
  intro u hu
  obtain ⟨r, _, hr⟩ := List.mem_flatMap.1 hu
  simp only [Row.enc, List.mem_cons, List.not_mem_nil, or_false] at hr
  rcases hr with rfl | rfl | rfl | rfl | rfl <;> rfl
/-- slices.Clone. -/
theorem cloneRow_any (A : Option Addr) (c : Nat) (l : List Row) (w : World) (h : RowsR w w.heap.size A l) (hn : l.length ≤ 1000000) :
    Calls Tryz.prog 42 #[.slice A l.length c] w fun e w' => ∃ A' c', e = .returned (.slice A' l.length c') ∧ w'.ownsRow w.heap.size 25 5 (.slice A' l.length c') l.length (l.flatMap Row.enc) ∧ Below w.heap.size w w' := by
  rcases A with _ | ad
  · have h0 : l.length = 0 := by
      rcases Nat.eq_zero_or_pos l.length with h0 | h0
      · exact h0
      · obtain ⟨_, _, h1, _⟩ := h.at_ h0; cases h1
    obtain rfl : l = [] := List.eq_nil_of_length_eq_zero h0
    have hq := fun W => Lib.run_eql_slice_nil (P := Tryz.prog) W 33 25 none 0 c 0 0 Tryz.underlying33
    go_enter Tryz.func42, Tryz.ntmps42
    go_wp2_with fail
    go_ret
    exact ⟨none, 0, rfl, ⟨by simp, .inl ⟨rfl, rfl⟩⟩, Below.refl _ _⟩
  · have HO : Hid ((w.alloc (.cells #[] 25)).ownsRow w.heap.size 25 5 (.slice (some ⟨w.heap.size, 0, none⟩) 0 0) 0 []) := owns_empty (Lies.new w 25 #[]) (Nat.le_refl _)
    have b1 := (Below.refl w.heap.size w).alloc (Nat.le_refl _) (.cells #[] 25)
    have HR := Lib.hid (SlcR.below h b1)
    have hq := fun W => Lib.run_eql_slice_nil (P := Tryz.prog) W 33 25 (some ad) l.length c 0 0 Tryz.underlying33
    go_enter Tryz.func42, Tryz.ntmps42
    go_wp2_with (at_builtin; refine wpList_cat rfl _ _ 33 rfl 25 _ 5 40 Tryz.underlying33 infoRow rfl (by omega) (by omega) w.heap.size _ 0 [] rfl HO w.heap.size (some ad) l.length c (l.flatMap Row.enc) rfl HR row_cells (by omega) b1.size ?_; intro v' w1 hown _ hb2 _)
    go_ret
    have ho := hown.out
    rw [Nat.zero_add, List.nil_append] at ho
    obtain ⟨A', c', rfl⟩ := ownsRow_slice ho
    exact ⟨A', c', rfl, ho, b1.trans hb2⟩

set_option maxRecDepth 100000 in
set_option maxHeartbeats 4000000 in
/-- slices.Insert of one element at the end. -/
theorem insRow_end (B : Nat) (v : Value) (n : Nat) (xs : List Value) (w : World) (hown : w.ownsRow B 25 5 v n xs) (hn : n ≤ 1000000) (r : Row) (gx cx : Nat) (hx : Lies w gx 25 r.enc) (hB : B ≤ w.heap.size) :
    Calls Tryz.prog 46 #[v, .int .i64 n, .slice (some ⟨gx, 0, none⟩) 1 cx] w fun e w' => ∃ v', e = .returned v' ∧ w'.ownsRow B 25 5 v' (n + 1) (xs ++ r.enc) ∧ w.grownBy w' v.ownBlock := by
  obtain ⟨i0, hi0, hz0, hzs, hzb⟩ := info_parts infoRow
  obtain ⟨v', w', hrun, h2, h3, _, _⟩ := run_append_own_at (P := Tryz.prog) w B 33 33 25 i0 _ 5 40 Tryz.underlying33 hi0 hz0 hzs hzb rfl (by omega) v n xs hown ⟨gx, 0, none⟩ 1 cx r.enc rfl (fun j u hj => by rw [addr_add, Nat.zero_add, hx.cell]; exact hj) (by simp [Row.enc, Value.oneCell']) (by unfold maxLen; omega) (by omega) hB
  have HO := Lib.hid h2; clear h2
  have HG := Lib.hid h3; clear h3
  have HR := Lib.hid hrun; clear hrun
  obtain ⟨_, ⟨rfl, rfl⟩ | ⟨g, cap, cur, rfl, hg, hh, hc, hc', _, _⟩⟩ := hown
  · go_enter Tryz.func46, Tryz.ntmps46
    go_wp2_with (at_builtin; refine Lib.wpList_append_run _ rfl _ _ 33 33 rfl _ _ rfl rfl v' w' HR.out ?_)
    go_ret
    exact ⟨v', rfl, HO.out, HG.out⟩
  · have hc2 : cap ≤ 9223372036854775807 := by unfold maxLen at hc'; omega
    clear hc'
    by_cases hcn : cap = n
    all_goals
      go_enter Tryz.func46, Tryz.ntmps46
      go_wp2_with (at_builtin; refine Lib.wpList_append_run _ rfl _ _ 33 33 rfl _ _ rfl rfl v' w' HR.out ?_)
      go_ret
      exact ⟨v', rfl, HO.out, HG.out⟩

set_option maxRecDepth 100000 in
set_option maxHeartbeats 4000000 in
/-- slices.Insert of one element, no room: a new row. -/
theorem insRow_grow (B g n : Nat) (cur : Array Value) (xs : List Value) (w : World) (hL : Lies w g 25 cur.toList) (hcs : cur.size = n * 5) (hcur : cur.toList.take (n * 5) = xs) (i : Nat) (hi : i < n) (hn : n ≤ 1000000) (r : Row) (gx cx : Nat) (hx : Lies w gx 25 r.enc) (hB : B ≤ w.heap.size) (h1 : ∀ u ∈ xs, u.oneCell' = true) :
    Calls Tryz.prog 46 #[.slice (some ⟨g, 0, none⟩) n n, .int .i64 i, .slice (some ⟨gx, 0, none⟩) 1 cx] w fun e w' => ∃ v', e = .returned v' ∧ w'.ownsRow B 25 5 v' (n + 1) (xs.take (i * 5) ++ r.enc ++ xs.drop (i * 5)) ∧ w.grownBy w' (some g) := by
  have mixed : Tryz.prog.follows .mixedOrders = true := by kernel_rfl
  obtain ⟨i0, hi0, hz0, hzs, hzb⟩ := info_parts infoRow
  have hxl : xs.length = n * 5 := by rw [← hcur, List.length_take, Array.length_toList, hcs, Nat.min_self]
  have hik : i * 5 ≤ n * 5 := Nat.mul_le_mul_right _ (by omega)
  have hsz : (Tryz.prog.info? 25).map (·.size) = some 5 := by rw [hi0]; simp [hzs]
  have hkk : (n : Int) + 1 - (i : Int) = ((n + 1 - i : Nat) : Int) := by omega
  have hik2 : i + (n + 1 - i) = n + 1 := by omega
  have hcell : ∀ j u, xs[j]? = some u → w.cell? ⟨g, j, none⟩ = some u := fun j u hu => by
    rw [hL.cell]
    rw [← hcur, List.getElem?_take] at hu
    split at hu
    · exact hu
    · cases hu
  have hold : (Builtin.firstCells i0.size i (.slice (some ⟨g, 0, none⟩) i n)).run Tryz.prog w.drew = .ok (xs.take (i * 5)).toArray w.drew := by
    rw [hzs]
    exact run_firstCells_some w.drew 5 i ⟨g, 0, none⟩ i n (xs.take (i * 5)) (by rw [List.length_take]; omega) (fun j u hj => by
      rw [addr_add, Nat.zero_add]
      rw [List.getElem?_take] at hj
      split at hj
      · exact hcell j u hj
      · cases hj)
  have hrz := Lib.run_append_grow_zeros (P := Tryz.prog) w 33 3 33 25 i0 _ .i64 .i64 Tryz.underlying33 Tryz.underlying3 hi0 hz0 (some ⟨g, 0, none⟩) i n (xs.take (i * 5)) hold (n + 1 - i) (by omega) (by omega) (by omega) (by omega) (by rw [hzb]; omega) (by rw [hzb, hik2]; exact growslice_fits (by omega) (by omega))
  rw [hik2, ← hkk] at hrz
  obtain ⟨G, hG⟩ : ∃ G, G = grownCap w (n + 1) n 25 := ⟨_, rfl⟩
  have hGn : n + 1 ≤ G := by rw [hG]; exact grownCap_ge w _ _ _
  have hG63 : G ≤ maxLen := by rw [hG]; exact grownCap_le_maxLen w (n + 1) n 25 (by unfold maxLen; omega)
  have hG64 : G ≤ 9223372036854775807 := by unfold maxLen at hG63; omega
  rw [← hG] at hrz
  obtain ⟨Z, hZ⟩ : ∃ Z : List Value, Z = (Builtin.zeroCells (Value.agg #[.int .i64 0, .int .i64 0, .int .i64 0, .int .i64 0, .int .i64 0]).cells (n + 1 - i) ++ Builtin.zeroCells (Value.agg #[.int .i64 0, .int .i64 0, .int .i64 0, .int .i64 0, .int .i64 0]).cells (G - (n + 1))).toList := ⟨_, rfl⟩
  have hZl : Z.length = (n + 1 - i) * 5 + (G - (n + 1)) * 5 := by rw [hZ, Array.length_toList, Array.size_append, size_zeroCells, size_zeroCells]; rfl
  obtain ⟨ROW, hROW⟩ : ∃ ROW : Array Value, ROW = (xs.take (i * 5)).toArray ++ Builtin.zeroCells (Value.agg #[.int .i64 0, .int .i64 0, .int .i64 0, .int .i64 0, .int .i64 0]).cells (n + 1 - i) ++ Builtin.zeroCells (Value.agg #[.int .i64 0, .int .i64 0, .int .i64 0, .int .i64 0, .int .i64 0]).cells (G - (n + 1)) := ⟨_, rfl⟩
  have hRl : ROW.toList = xs.take (i * 5) ++ Z := by rw [hROW, hZ]; simp
  rw [← hROW] at hrz
  clear hROW hZ hG hold hcs hcur
  obtain ⟨W1, hW1⟩ : ∃ W1, W1 = w.drew.alloc (.cells ROW 25) := ⟨_, rfl⟩
  rw [← hW1] at hrz
  have LN : Lies W1 w.heap.size 25 (xs.take (i * 5) ++ Z) := by rw [hW1, ← hRl]; exact Lies.new w.drew 25 ROW
  have hb1 : Below w.heap.size w W1 := by rw [hW1]; exact ((Below.refl w.heap.size w).drew).alloc (Nat.le_refl _) _
  have hLg : g < w.heap.size := hL.lt
  have hLx : gx < w.heap.size := hx.lt
  clear hW1 hRl ROW
  have hlen : (xs.take (i * 5) ++ Z).length = G * 5 := by
    rw [List.length_append, List.length_take, hZl, hxl, Nat.min_eq_left hik, ← Nat.add_mul, ← Nat.add_mul]; congr 1; omega
  have hGk : (n + 1) * 5 ≤ G * 5 := Nat.mul_le_mul_right _ hGn
  have hnk : (n + 1) * 5 = n * 5 + 5 := Nat.succ_mul n 5
  have HL0 := Lib.hid LN; clear LN
  have HF0 : Hid (i * 5 + r.enc.length ≤ (xs.take (i * 5) ++ Z).length) := by unfold Hid; rw [Row.enc_len, hlen]; omega
  have HX1 : Hid (∀ j v, r.enc[j]? = some v → W1.cell? ((⟨gx, 0, none⟩ : Addr).add j) = some v) := fun j u hj => by rw [addr_add, Nat.zero_add, (hx.below hb1 hLx).cell]; exact hj
  have HE1 : Hid (∀ v ∈ r.enc, v.oneCell' = true) := by unfold Hid; simp [Row.enc, Value.oneCell']
  have HE2 : Hid (∀ v ∈ xs.drop (i * 5), v.oneCell' = true) := fun v hv => h1 v (List.mem_of_mem_drop hv)
  have HC : Hid (∀ j u, xs[j]? = some u → W1.cell? ⟨g, j, none⟩ = some u) := fun j u hu => (hb1.cell hLg).trans (hcell j u hu)
  have HLn : Hid ((xs.take (i * 5) ++ Z).length = G * 5) := hlen
  have HXL := Lib.hid hxl
  have HDL : Hid ((xs.drop (i * 5)).length = (n - i) * 5) := by unfold Hid; rw [List.length_drop, hxl, Nat.sub_mul]
  have hGi : ¬ (G = i) := by omega
  have hGi1 : ¬ (G = i + 1) := by omega
  have hni : ¬ (n = i) := by omega
  have hz2 : ¬ ((i : Int) = (n : Int)) := by omega
  have hz3 : (n : Int) < (n : Int) + 1 := by omega
  have hmin1 : Nat.min 1 (n + 1 - i) = 1 := by simp only [Nat.min_def]; split <;> omega
  have hmin2 : Nat.min (n - i) (n - i) = n - i := Nat.min_self _
  have hw1 : IntKind.i64.wrap ((i : Int) + 1) = (i : Int) + 1 := by rw [IntKind.wrap_i64]; omega
  have hb1' : (0 : Int) ≤ (i : Int) + 1 := by omega
  have hin : i ≤ n := by omega
  have HR := hrz
  clear hrz hcell hL h1 hx hlen hxl hik2 hkk hsz
  go_enter Tryz.func46, Tryz.ntmps46
  go_wp2_with (first
    | (at_builtin; refine Lib.wpList_append_run _ rfl _ _ 33 3 rfl _ _ rfl rfl _ _ HR ?_)
    | (with_reducible show wpList _ _ _ (Oper.mk (some 45) _ _ _ _ _ :: _) _ _; refine wpList_copy_own rfl _ _ 33 rfl 25 25 5 w.heap.size (i * 5) (n + 1 - i) (G - i) ⟨gx, 0, none⟩ 1 cx 1 r.enc _ rfl rfl Tryz.underlying33 ?u1 ?u2 (by rw [Row.enc_len]) HL0 HF0 HX1 HE1 ?_; rotate_right; intro W2 HL2 hg2))
  case u1 => rw [hi0]; simp [hzs]
  case u2 => exact hmin1
  have hWs : w.heap.size ≤ W1.heap.size := hb1.size
  have hW1g : w.heap.size < W1.heap.size := HL0.out.lt
  have LG2 : ∀ j u, xs[j]? = some u → W2.cell? ⟨g, j, none⟩ = some u := fun j u hu => (grown_cell hg2 ⟨g, j, none⟩ (by simp only; omega) (by simp only; intro e; injection e with e; omega)).trans (HC.out j u hu)
  have HL2' : Hid (Lies W2.drew w.heap.size 25 (splice (xs.take (i * 5) ++ Z) (i * 5) r.enc)) := HL2.out.drew
  have HF2 : Hid ((i + 1) * 5 + (xs.drop (i * 5)).length ≤ (splice (xs.take (i * 5) ++ Z) (i * 5) r.enc).length) := by
    unfold Hid
    rw [splice_len _ _ _ HF0.out, HLn.out, HDL.out, ← Nat.add_mul]
    exact Nat.mul_le_mul_right _ (by omega)
  have HX2 : Hid (∀ j v, (xs.drop (i * 5))[j]? = some v → W2.drew.cell? ((⟨g, i * 5, none⟩ : Addr).add j) = some v) := fun j u hj => by
    rw [addr_add]; exact LG2 _ u (by rwa [List.getElem?_drop] at hj)
  clear LG2 HX1
  go_still_tail 8, (by kernel_rfl)
  change wpList _ _ _ _ _ W2.drew
  go_wp2_with (with_reducible show wpList _ _ _ (Oper.mk (some 54) _ _ _ _ _ :: _) _ _; refine wpList_copy_own rfl _ _ 33 rfl 25 25 5 w.heap.size ((i + 1) * 5) (n - i) (G - (i + 1)) ⟨g, i * 5, none⟩ (n - i) (n - i) (n - i) (xs.drop (i * 5)) _ rfl rfl Tryz.underlying33 ?v3 hmin2 HDL.out HL2' HF2 HX2 HE2 ?_; rotate_right; intro W3 HL3 hg3)
  case v3 => rw [hi0]; simp [hzs]
  go_ret
  have hw3 : Below w.heap.size w W3 := ((hb1.grown hg2 hWs (by rintro _ ⟨⟩; exact Nat.le_refl _)).drew).grown hg3 (by have := hg2.size; simp; omega) (by rintro _ ⟨⟩; exact Nat.le_refl _)
  refine ⟨_, rfl, ⟨?_, .inr ⟨w.heap.size, G, (splice (splice (xs.take (i * 5) ++ Z) (i * 5) r.enc) ((i + 1) * 5) (xs.drop (i * 5))).toArray, rfl, hB, HL3.out, hGn, hG63, ?_, ?_⟩⟩, ⟨hw3.os, hw3.tape, hw3.output, hw3.size, fun j hj _ => hw3.block j hj⟩⟩
  · rw [List.length_append, List.length_append, List.length_take, Row.enc_len, HDL.out, HXL.out, Nat.sub_mul]; omega
  · rw [List.size_toArray, splice_len _ _ _ HF2.out, splice_len _ _ _ HF0.out, HLn.out]
  · show List.take _ (splice _ _ _) = _
    exact splice_grow xs r.enc Z i 5 n (Row.enc_len r) HXL.out hin (by rw [hZl, ← Nat.add_mul, ← Nat.add_mul]; exact Nat.mul_le_mul_right _ (by omega))

set_option maxRecDepth 100000 in
set_option maxHeartbeats 4000000 in
/-- slices.Insert of one element, with room: in place. -/
theorem insRow_room (B g n cap : Nat) (cur : Array Value) (xs : List Value) (w : World) (hL : Lies w g 25 cur.toList) (hcs : cur.size = cap * 5) (hroom : n + 1 ≤ cap) (hcm : cap ≤ maxLen) (hcur : cur.toList.take (n * 5) = xs) (i : Nat) (hi : i < n) (hn : n ≤ 1000000) (r : Row) (gx cx : Nat) (hx : Lies w gx 25 r.enc) (hne : gx ≠ g) (hB : B ≤ g) (h1 : ∀ u ∈ xs, u.oneCell' = true) :
    Calls Tryz.prog 46 #[.slice (some ⟨g, 0, none⟩) n cap, .int .i64 i, .slice (some ⟨gx, 0, none⟩) 1 cx] w fun e w' => ∃ v', e = .returned v' ∧ w'.ownsRow B 25 5 v' (n + 1) (xs.take (i * 5) ++ r.enc ++ xs.drop (i * 5)) ∧ w.grownBy w' (some g) := by
  have mixed : Tryz.prog.follows .mixedOrders = true := by kernel_rfl
  obtain ⟨i0, hi0, hz0, hzs, hzb⟩ := info_parts infoRow
  have hnk : n * 5 ≤ cap * 5 := Nat.mul_le_mul_right _ (by omega)
  have hnk1 : (n + 1) * 5 ≤ cap * 5 := Nat.mul_le_mul_right _ hroom
  have hcl : cur.toList.length = cap * 5 := by rw [Array.length_toList, hcs]
  have hxl : xs.length = n * 5 := by rw [← hcur, List.length_take, hcl]; omega
  have hik : i * 5 ≤ n * 5 := Nat.mul_le_mul_right _ (by omega)
  have hcell : ∀ j u, xs[j]? = some u → w.cell? ⟨g, j, none⟩ = some u := fun j u hu => by
    rw [hL.cell]
    rw [← hcur, List.getElem?_take] at hu
    split at hu
    · exact hu
    · cases hu
  have hov : ∀ ob lb cb, (callFunc 68 #[.slice (some ⟨gx, 0, none⟩) 1 cx, .slice (some ⟨g, ob, none⟩) lb cb]).run Tryz.prog w = .ok (.value (.bool false)) w := fun ob lb cb =>
    run_overlaps_own w 68 Tryz.f68 33 4 25 (by kernel_rfl) (by kernel_rfl) (by kernel_rfl) (by kernel_rfl) (by kernel_rfl) Tryz.underlying33 5 Tryz.sizeOf25 gx g 0 ob 1 cx lb cb hne _ _ _ _ hx hL (by rw [hcl]; omega)
  have hc63 : cap ≤ 9223372036854775807 := by unfold maxLen at hcm; omega
  have HL0 := Lib.hid hL
  have HE1 : Hid (∀ v ∈ r.enc, v.oneCell' = true) := by unfold Hid; simp [Row.enc, Value.oneCell']
  have HE2 : Hid (∀ v ∈ xs.drop (i * 5), v.oneCell' = true) := fun v hv => h1 v (List.mem_of_mem_drop hv)
  have HXL := Lib.hid hxl
  have HCL := Lib.hid hcl
  have HCU := Lib.hid hcur
  have HCM := Lib.hid hcm
  have HDL : Hid ((xs.drop (i * 5)).length = (n - i) * 5) := by unfold Hid; rw [List.length_drop, hxl, Nat.sub_mul]
  have HFA : Hid ((i + 1) * 5 + (xs.drop (i * 5)).length ≤ cur.toList.length) := by
    unfold Hid; rw [HDL.out, hcl, ← Nat.add_mul]; exact Nat.mul_le_mul_right _ (by omega)
  have HXA : Hid (∀ j v, (xs.drop (i * 5))[j]? = some v → w.drew.cell? ((⟨g, i * 5, none⟩ : Addr).add j) = some v) := fun j u hj => by
    rw [addr_add]; exact hcell _ u (by rwa [List.getElem?_drop] at hj)
  have HLA : Hid (Lies w.drew g 25 cur.toList) := hL.drew
  have hxlt : gx < w.heap.size := hx.lt
  have HX := Lib.hid hx
  have hz1 : ¬ ((i : Int) = (n : Int)) := by omega
  have hz2 : ¬ ((cap : Int) < (n : Int) + 1) := by omega
  have hci : ¬ (cap = i) := by omega
  have hci1 : ¬ (cap = i + 1) := by omega
  have hin : i ≤ n := by omega
  have hin1 : i ≤ n + 1 := by omega
  have hint : (i : Int) ≤ (n : Int) + 1 := by omega
  have hw1 : IntKind.i64.wrap ((i : Int) + 1) = (i : Int) + 1 := by rw [IntKind.wrap_i64]; omega
  have hb1' : (0 : Int) ≤ (i : Int) + 1 := by omega
  have hmin2 : Nat.min (n + 1 - i) (n - i) = n - i := by simp only [Nat.min_def]; split <;> omega
  have hmin1 : Nat.min 1 (n + 1 - i) = 1 := by simp only [Nat.min_def]; split <;> omega
  clear hcl hcur hcs hxl hL hx hcell h1 hcm
  go_enter Tryz.func46, Tryz.ntmps46
  go_wp2_with (simp only [hov])
  go_still_tail 8, (by kernel_rfl)
  change wpList _ _ _ _ _ w.drew
  go_wp2_with (first
    | (with_reducible show wpList _ _ _ (Oper.mk (some 77) _ _ _ _ _ :: _) _ _; refine wpList_copy_own rfl _ _ 33 rfl 25 25 5 g ((i + 1) * 5) (n - i) (cap - (i + 1)) ⟨g, i * 5, none⟩ (n + 1 - i) (cap - i) (n - i) (xs.drop (i * 5)) _ rfl rfl Tryz.underlying33 ?v3 hmin2 HDL.out HLA HFA HXA HE2 ?_; rotate_right; intro W2 HL2 hg2)
    | (with_reducible show wpList _ _ _ (Oper.mk (some 82) _ _ _ _ _ :: _) _ _; refine wpList_copy_own rfl _ _ 33 rfl 25 25 5 g (i * 5) (n + 1 - i) (cap - i) ⟨gx, 0, none⟩ 1 cx 1 r.enc _ rfl rfl Tryz.underlying33 ?v4 hmin1 ?v5 HL2 ?v6 ?v7 HE1 ?_; rotate_right; intro W3 HL3 hg3))
  case v3 => rw [hi0]; simp [hzs]
  case v4 => rw [hi0]; simp [hzs]
  case v5 => rw [Row.enc_len]
  case v6 => unfold Hid; rw [splice_len _ _ _ HFA.out, HCL.out, Row.enc_len]; omega
  case v7 => exact fun j u hj => by rw [addr_add, Nat.zero_add, (grown_cell hg2 ⟨gx, j, none⟩ hxlt (by simp only; intro e; injection e with e; exact hne e)), HX.out.drew.cell]; exact hj
  have HF6 : Hid (i * 5 + r.enc.length ≤ (splice cur.toList ((i + 1) * 5) (xs.drop (i * 5))).length) := by unfold Hid; rw [splice_len _ _ _ HFA.out, HCL.out, Row.enc_len]; omega
  go_ret
  have e1 : (i + 1) * 5 = i * 5 + 5 := Nat.succ_mul i 5
  refine ⟨_, rfl, ⟨?_, .inr ⟨g, cap, (splice (splice cur.toList ((i + 1) * 5) (xs.drop (i * 5))) (i * 5) r.enc).toArray, rfl, hB, HL3.out, hroom, HCM.out, ?_, ?_⟩⟩, ?_⟩
  · rw [List.length_append, List.length_append, List.length_take, Row.enc_len, HDL.out, HXL.out, Nat.sub_mul]; omega
  · rw [List.size_toArray, splice_len _ _ _ HF6.out, splice_len _ _ _ HFA.out, HCL.out]
  · show List.take _ (splice _ _ _) = _
    rw [e1]
    exact splice_insert cur.toList xs r.enc i 5 n (Row.enc_len r) HXL.out hin HCU.out (by rw [HCL.out]; exact hnk1)
  · exact ⟨hg3.os.trans hg2.os, hg3.tape.trans hg2.tape, hg3.output.trans hg2.output, Nat.le_trans hg2.size hg3.size, fun j hj hq => (hg3.block j (Nat.lt_of_lt_of_le hj hg2.size) hq).trans (hg2.block j hj hq)⟩

/-- slices.Insert of one element, wherever. -/
theorem insRow_any (B : Nat) (v : Value) (n : Nat) (xs : List Value) (w : World) (hown : w.ownsRow B 25 5 v n xs) (hn : n ≤ 1000000) (i : Nat) (hi : i ≤ n) (r : Row) (gx cx : Nat) (hx : Lies w gx 25 r.enc) (hne : v.ownBlock ≠ some gx) (hB : B ≤ w.heap.size) (h1 : ∀ u ∈ xs, u.oneCell' = true) :
    Calls Tryz.prog 46 #[v, .int .i64 i, .slice (some ⟨gx, 0, none⟩) 1 cx] w fun e w' => ∃ v', e = .returned v' ∧ w'.ownsRow B 25 5 v' (n + 1) (xs.take (i * 5) ++ r.enc ++ xs.drop (i * 5)) ∧ w.grownBy w' v.ownBlock := by
  rcases Nat.lt_or_ge i n with hlt | hge
  · obtain ⟨hl, ⟨rfl, rfl⟩ | ⟨g, cap, cur, rfl, hg, hh, hc, hc', hcs, hct⟩⟩ := hown
    · omega
    · by_cases hcn : cap = n
      · subst hcn
        exact insRow_grow B g cap cur xs w hh hcs hct i hlt hn r gx cx hx hB h1
      · exact insRow_room B g n cap cur xs w hh hcs (by omega) hc' hct i hlt hn r gx cx hx (fun e => hne (by rw [e]; rfl)) hg h1
  · have e : i = n := by omega
    subst e
    have hl := hown.1
    rw [List.take_of_length_le (by omega), List.drop_eq_nil_of_le (by omega), List.append_nil]
    exact insRow_end B v i xs w hown hn r gx cx hx hB

end Go.Proofs.YtpjfidmapnnbkaaGreatDoor

/- Rows of the call's own, and slices that read (no program in sight). -/
namespace Go.Proofs.YtpjfidmapnnbkaaGreatDoor
open Go.RowKit

theorem ownsRow_below {w w' : World} {B : Nat} {e : TypeId} {k : Nat} {v : Value} {n : Nat} {xs : List Value} (h : w.ownsRow B e k v n xs) (hb : Below w.heap.size w w') : w'.ownsRow B e k v n xs := by
  obtain ⟨hl, h0 | ⟨g, cap, cur, hv, hg, hh, h1, h2, h3, h4⟩⟩ := h
  · exact ⟨hl, .inl h0⟩
  · have hlt : g < w.heap.size := by
      rcases Nat.lt_or_ge g w.heap.size with hlt | hge
      · exact hlt
      · rw [Array.getElem?_eq_none hge] at hh; cases hh
    exact ⟨hl, .inr ⟨g, cap, cur, hv, hg, (hb.block g hlt).trans hh, h1, h2, h3, h4⟩⟩
/-- Rows of other types lie elsewhere. -/
theorem ownsRow_far {w : World} {B : Nat} {e t : TypeId} {k : Nat} {v : Value} {n : Nat} {xs cs : List Value} (h : w.ownsRow B e k v n xs) {g : Nat} (hg : Lies w g t cs) (hne : e ≠ t) : some g ≠ v.ownBlock := by
  obtain ⟨_, ⟨rfl, _⟩ | ⟨g', cap, cur, rfl, _, hh, _⟩⟩ := h
  · simp [Value.ownBlock]
  · intro he
    simp only [Value.ownBlock, Option.some.injEq] at he
    subst he
    unfold Lies at hg
    rw [hg] at hh
    injection hh with hh; injection hh with _ h2; exact hne h2.symm
theorem ownsRow_lower {w : World} {B B' : Nat} {e : TypeId} {k : Nat} {v : Value} {n : Nat} {xs : List Value} (h : w.ownsRow B e k v n xs) (hB : B' ≤ B) : w.ownsRow B' e k v n xs := by
  obtain ⟨hl, h0 | ⟨g, cap, cur, hv, hg, hh⟩⟩ := h
  · exact ⟨hl, .inl h0⟩
  · exact ⟨hl, .inr ⟨g, cap, cur, hv, Nat.le_trans hB hg, hh⟩⟩
/-- Two rows of the call's own, of different types: one grows, the other stays. -/
theorem ownsRow_two {w w' : World} {B B' : Nat} {e e' : TypeId} {k k' : Nat} {v v' : Value} {n n' : Nat} {xs xs' : List Value} (h : w.ownsRow B e k v n xs) (h' : w.ownsRow B' e' k' v' n' xs') (hne : e' ≠ e) (hg : w.grownBy w' v'.ownBlock) : w'.ownsRow B e k v n xs := by
  refine h.kept hg ?_
  obtain ⟨_, ⟨h1, _⟩ | ⟨g, cap, cur, h1, _, hh, _⟩⟩ := h
  · left; rw [h1]; rfl
  · right
    rw [h1]
    exact ownsRow_far h' (g := g) (t := e) (cs := cur.toList) (Lies.of hh) hne
def lenOf : Value → Nat
  | .slice _ n _ => n
  | _ => 0
end Go.Proofs.YtpjfidmapnnbkaaGreatDoor

/- Rows of the call's own: what becomes of them (no program's function in sight). -/
namespace Go.Proofs.YtpjfidmapnnbkaaGreatDoor
open Go.RowKit

/-- A cell of a block of another type is written. -/
theorem ownsRow_setOther {w : World} {B : Nat} {e t : TypeId} {k : Nat} {v : Value} {n : Nat} {xs cs : List Value} (h : w.ownsRow B e k v n xs) {g : Nat} (hg : Lies w g t cs) (hne : e ≠ t) (i : Nat) (u : Value) : (w.setCell ⟨g, i, none⟩ u).ownsRow B e k v n xs := by
  have hf := ownsRow_far h hg hne
  obtain ⟨hl, h0 | ⟨g', cap, cur, hv, hg', hh, h1⟩⟩ := h
  · exact ⟨hl, .inl h0⟩
  · refine ⟨hl, .inr ⟨g', cap, cur, hv, hg', (Below.heap_setCell w _ u g' ?_).trans hh, h1⟩⟩
    intro e'
    subst hv
    exact hf (by simp only [Value.ownBlock]; rw [e'])
/-- The row lies in memory. -/
theorem ownsRow_at {w : World} {B : Nat} {e : TypeId} {k : Nat} {v : Value} {n : Nat} {xs : List Value} (h : w.ownsRow B e k v n xs) (hn : 0 < n) : ∃ g cap rest, v = .slice (some ⟨g, 0, none⟩) n cap ∧ B ≤ g ∧ Lies w g e (xs ++ rest) ∧ n ≤ cap := by
  obtain ⟨hl, h0 | ⟨g, cap, cur, hv, hg, hh, h1, h2, h3, h4⟩⟩ := h
  · omega
  · refine ⟨g, cap, cur.toList.drop (n * k), hv, hg, ?_, h1⟩
    have : xs ++ cur.toList.drop (n * k) = cur.toList := by rw [← h4]; exact List.take_append_drop _ _
    rw [this]; exact Lies.of hh
/-- One cell of the row is written. -/
theorem ownsRow_set {w : World} {B g cap : Nat} {e : TypeId} {k n : Nat} {xs : List Value} (h : w.ownsRow B e k (.slice (some ⟨g, 0, none⟩) n cap) n xs) (j : Nat) (u : Value) (hj : j < n * k) : (w.setCell ⟨g, j, none⟩ u).ownsRow B e k (.slice (some ⟨g, 0, none⟩) n cap) n (xs.set j u) := by
  obtain ⟨hl, h0 | ⟨g', cap', cur, hv, hg, hh, h1, h2, h3, h4⟩⟩ := h
  · cases h0.1
  · injection hv with e1 e2 e3
    injection e1 with e1; injection e1 with e1; subst e1; subst e3
    have hL := (Lies.of hh).set j u
    exact ⟨by rw [List.length_set]; exact hl, .inr ⟨g, cap, (cur.toList.set j u).toArray, rfl, hg, hL, h1, h2, by simp [h3], by show List.take _ (cur.toList.set j u) = _; rw [List.take_set, h4]⟩⟩
theorem ownsRow_drew {w : World} {B : Nat} {e : TypeId} {k : Nat} {v : Value} {n : Nat} {xs : List Value} (h : w.ownsRow B e k v n xs) : w.drew.ownsRow B e k v n xs := h
theorem ownsRow_reads {w : World} {B : Nat} {e : TypeId} {k : Nat} {A : Option Addr} {n c : Nat} {xs : List Value} (h : w.ownsRow B e k (.slice A n c) n xs) : SlcR w w.heap.size k A n xs := by
  obtain ⟨hl, h0 | ⟨g, cap, cur, hv, hg, hh, h1, h2, h3, h4⟩⟩ := h
  · exact ⟨hl, by omega, fun hn => by omega⟩
  · injection hv with e1 _ _
    refine ⟨hl, by unfold maxLen at h2; omega, fun hn => ⟨g, 0, e1, (Lies.of hh).lt, fun j u hu => ?_⟩⟩
    rw [Nat.zero_add, (Lies.of hh).cell]
    rw [← h4, List.getElem?_take] at hu
    split at hu
    · exact hu
    · cases hu
/-- A block of another type turns. -/
theorem ownsRow_keptG {w w' : World} {B : Nat} {e t : TypeId} {k : Nat} {v : Value} {n : Nat} {xs cs : List Value} (h : w.ownsRow B e k v n xs) {g : Nat} (hL : Lies w g t cs) (hne : e ≠ t) (hg : w.grownBy w' (some g)) : w'.ownsRow B e k v n xs :=
  h.kept hg (.inr fun e' => ownsRow_far h hL hne e'.symm)
end Go.Proofs.YtpjfidmapnnbkaaGreatDoor

/- Joined rows, in the program. -/
namespace Go.Proofs.YtpjfidmapnnbkaaGreatDoor
open Go.RowKit

def cmpI (a b : Int) : Int := if a < b then -1 else if b < a then 1 else 0
theorem cmpI_lt {a b : Int} : cmpI a b < 0 ↔ a < b := by
  unfold cmpI; split
  · simp [*]
  · split <;> simp [*]
theorem cmpI_zero {a b : Int} : cmpI a b = 0 ↔ a = b := by
  unfold cmpI; split
  · simp; omega
  · split
    · simp; omega
    · simp; omega
theorem isNaN_any (a : Int) (w : World) : Calls Tryz.prog 67 #[.int .i64 a] w fun e w' => e = .returned (.bool false) ∧ w = w' := by
  have hv : (a != a) = false := by simp
  go_enter Tryz.func67, Tryz.ntmps67
  go_wp2
  go_ret
  exact ⟨rfl, rfl⟩
theorem compare_any (a b : Int) (w : World) : Calls Tryz.prog 45 #[.int .i64 a, .int .i64 b] w fun e w' => e = .returned (.int .i64 (cmpI a b)) ∧ w = w' := by
  have ha := fun W => isNaN_any a W
  have hb := fun W => isNaN_any b W
  by_cases h1 : a < b
  · have HE : Hid (cmpI a b = -1) := by unfold Hid cmpI; rw [if_pos h1]
    go_enter Tryz.func45, Tryz.ntmps45
    go_wp2_with fail
    refine (ha _).mono ?_
    rintro e w' ⟨rfl, rfl⟩
    go_wp2_with fail
    refine (hb _).mono ?_
    rintro e w' ⟨rfl, rfl⟩
    go_wp2
    go_ret
    exact ⟨by rw [HE.out]; rfl, rfl⟩
  · by_cases h2 : b < a
    · have HE : Hid (cmpI a b = 1) := by unfold Hid cmpI; rw [if_neg h1, if_pos h2]
      go_enter Tryz.func45, Tryz.ntmps45
      go_wp2_with fail
      refine (ha _).mono ?_
      rintro e w' ⟨rfl, rfl⟩
      go_wp2_with fail
      refine (hb _).mono ?_
      rintro e w' ⟨rfl, rfl⟩
      go_wp2
      go_ret
      exact ⟨by rw [HE.out]; rfl, rfl⟩
    · have HE : Hid (cmpI a b = 0) := by unfold Hid cmpI; rw [if_neg h1, if_neg h2]
      go_enter Tryz.func45, Tryz.ntmps45
      go_wp2_with fail
      refine (ha _).mono ?_
      rintro e w' ⟨rfl, rfl⟩
      go_wp2_with fail
      refine (hb _).mono ?_
      rintro e w' ⟨rfl, rfl⟩
      go_wp2
      go_ret
      exact ⟨by rw [HE.out]; rfl, rfl⟩
theorem monthFn_any (t u : Row) (w : World) : Calls Tryz.prog 44 (#[t.val, u.val] ++ #[]) w fun e w' => e = .returned (.int .i64 (cmpI t.m u.m)) ∧ Below w.heap.size w w' := by
  show Calls Tryz.prog 44 #[t.val, u.val] w _
  have b1 := (Below.refl w.heap.size w).alloc (Nat.le_refl _) (.cells #[.int .i64 t.m, .int .i64 t.b, .int .i64 t.s, .int .i64 t.c, .int .i64 t.l] 25)
  have b2 := b1.alloc b1.size (.cells #[.int .i64 u.m, .int .i64 u.b, .int .i64 u.s, .int .i64 u.c, .int .i64 u.l] 25)
  have hc := fun W => compare_any t.m u.m W
  go_enter Tryz.func44, Tryz.ntmps44
  go_wp2_with fail
  refine (hc _).mono ?_
  rintro e w' ⟨rfl, rfl⟩
  go_wp2
  go_ret
  exact ⟨rfl, b2⟩

/-- The program's result: rows of the call's own, and whether there are any. -/
def GivesRows (w : World) (R : List Row × Bool) (e : Ending) (w' : World) : Prop := ∃ A c, e = .returned (.tuple #[.slice A R.1.length c, .bool R.2]) ∧ w'.ownsRow w.heap.size 25 5 (.slice A R.1.length c) R.1.length (R.1.flatMap Row.enc) ∧ Below w.heap.size w w'
theorem GivesRows.no {w w' : World} {e : Ending} (he : e = .returned (.tuple #[.slice none 0 0, .bool false])) (hb : Below w.heap.size w w') : GivesRows w ([], false) e w' := ⟨none, 0, he, World.ownsRow_nil _ _ _ _, hb⟩

theorem flat_take5 : ∀ (l : List Row) (i : Nat), (l.take i).flatMap Row.enc = (l.flatMap Row.enc).take (i * 5)
  | [], i => by simp
  | x :: l, 0 => by simp
  | x :: l, i + 1 => by
    have e : (i + 1) * 5 = x.enc.length + i * 5 := by rw [Row.enc_len]; omega
    rw [List.take_succ_cons, List.flatMap_cons, List.flatMap_cons, flat_take5 l i, e, List.take_length_add_append]
theorem flat_drop5 : ∀ (l : List Row) (i : Nat), (l.drop i).flatMap Row.enc = (l.flatMap Row.enc).drop (i * 5)
  | [], i => by simp
  | x :: l, 0 => by simp
  | x :: l, i + 1 => by
    have e : (i + 1) * 5 = x.enc.length + i * 5 := by rw [Row.enc_len]; omega
    rw [List.drop_succ_cons, List.flatMap_cons, flat_drop5 l i, e, List.drop_length_add_append]
theorem flat_ins5 (l : List Row) (i : Nat) (r : Row) : (l.take i ++ r :: l.drop i).flatMap Row.enc = (l.flatMap Row.enc).take (i * 5) ++ Row.enc r ++ (l.flatMap Row.enc).drop (i * 5) := by
  rw [List.flatMap_append, List.flatMap_cons, flat_take5, flat_drop5, List.append_assoc]
theorem flat_set5 {i : Nat} {u0 u1 u2 u3 : Int} : ∀ {l : List Row} (h : i < l.length), ((((l.flatMap Row.enc).set (i * 5 + 1) (.int .i64 u0)).set (i * 5 + 2) (.int .i64 u1)).set (i * 5 + 3) (.int .i64 u2)).set (i * 5 + 4) (.int .i64 u3) = (l.set i ⟨l[i].m, u0, u1, u2, u3⟩).flatMap Row.enc := by
  induction i with
  | zero => intro l h; match l, h with
    | x :: l, _ => simp [Row.enc]
  | succ i ih => intro l h; match l, h with
    | x :: l, h =>
      simp only [List.flatMap_cons, List.getElem_cons_succ, List.set_cons_succ]
      rw [← ih (by simpa using h)]
      rw [List.set_append_right _ _ (by rw [Row.enc_len]; omega), List.set_append_right _ _ (by rw [Row.enc_len]; omega), List.set_append_right _ _ (by rw [Row.enc_len]; omega), List.set_append_right _ _ (by rw [Row.enc_len]; omega), Row.enc_len]
      have e1 : (i + 1) * 5 + 1 - 5 = i * 5 + 1 := by omega
      have e2 : (i + 1) * 5 + 2 - 5 = i * 5 + 2 := by omega
      have e3 : (i + 1) * 5 + 3 - 5 = i * 5 + 3 := by omega
      have e4 : (i + 1) * 5 + 4 - 5 = i * 5 + 4 := by omega
      rw [e1, e2, e3, e4]

set_option maxRecDepth 100000 in
set_option maxHeartbeats 4000000 in
theorem implJoin_any (A : Option Addr) (c : Nat) (l : List Row) (A' : Option Addr) (c' : Nat) (m : List Row) (w : World) (h : RowsR w w.heap.size A l) (h' : RowsR w w.heap.size A' m) :
    Calls Tryz.prog 13 #[.slice A l.length c, .slice A' m.length c'] w (GivesRows w (joinBoth l m)) := by
  have hl := h.big
  have hm := h'.big
  have ca := fun W hW => areOfficeRows_any A c l W hW
  have cb := fun W hW => areOfficeRows_any A' c' m W hW
  cases hg : goodRows l
  · have HN := Lib.hid (join_no (a := l) (b := m) (by rw [hg]; rfl))
    rw [hg] at ca
    clear hg
    go_enter Tryz.func13, Tryz.ntmps13
    go_wp2_with fail
    refine (ca _ h).mono ?_
    rintro e w1 ⟨rfl, hb1⟩
    go_wp2
    go_ret2
    rw [HN.out]
    exact GivesRows.no rfl hb1
  · cases hg' : goodRows m
    · have HN := Lib.hid (join_no (a := l) (b := m) (by rw [hg, hg']; rfl))
      rw [hg] at ca
      rw [hg'] at cb
      clear hg hg'
      go_enter Tryz.func13, Tryz.ntmps13
      go_wp2_with fail
      refine (ca _ h).mono ?_
      rintro e w1 ⟨rfl, hb1⟩
      go_wp2_with fail
      refine (cb _ (SlcR.then h' hb1)).mono ?_
      rintro e w2 ⟨rfl, hb2⟩
      go_wp2
      go_ret2
      rw [HN.out]
      exact GivesRows.no rfl (bthen hb1 hb2)
    · have hl12 := good_len hg
      have hm12 := good_len hg'
      have HJ0 : Hid (Joined l m 0 l) := Joined.start hg hg'
      have HST : Hid (∀ k out, Joined l m k out → (hk : k < m.length) → Joined l m (k + 1) (insR m[k] out)) := fun k out hj hk => hj.step hg' hk
      have HMB : Hid (∀ k (hk : k < m.length), (m[k]'hk).within 1000000) := fun k hk => within_ok (good_at hg' hk)
      have HY : Hid (goodRows (mergeR l m) = true → joinBoth l m = (mergeR l m, true)) := fun h2 => join_yes (by rw [hg, hg']; rfl) h2
      have HX : Hid (goodRows (mergeR l m) = false → joinBoth l m = ([], false)) := fun h2 => join_bad (by rw [hg, hg']; rfl) h2
      rw [hg] at ca
      rw [hg'] at cb
      clear hg hg'
      go_enter Tryz.func13, Tryz.ntmps13
      go_wp2_with fail
      refine (ca _ h).mono ?_
      rintro e w1 ⟨rfl, hb1⟩
      go_wp2_with fail
      refine (cb _ (SlcR.then h' hb1)).mono ?_
      rintro e w2 ⟨rfl, hb2⟩
      have k2 := bthen hb1 hb2
      go_wp2_with fail
      refine (cloneRow_any A c l w2 (SlcR.then h k2) (by omega)).mono ?_
      rintro e w3 ⟨A3, c3, rfl, ho3, hb3⟩
      have k3 := bthen k2 hb3
      have ho3' := ownsRow_lower ho3 k2.size
      have hrm := RowsR.row h'
      have HO3 := Lib.hid ho3'; clear ho3 ho3' ca cb h h' hb1 hb2 hb3
      go_wp2
      go_loopw [6, 23] (fun out i wr => ∃ (k : Nat) (o : List Row), k ≤ m.length ∧ i = .int .i64 k ∧ Hid (Joined l m k o) ∧ Hid (wr.ownsRow w.heap.size 25 5 out o.length (o.flatMap Row.enc)) ∧ Below w.heap.size w wr) (fun _ i _ => m.length - (intOf i).toNat)
      case atStart => exact ⟨0, l, Nat.zero_le _, rfl, HJ0, HO3, k3⟩
      case round =>
        clear HJ0 HO3 k3
        obtain ⟨k, o, hk, rfl, HJ, HO, hbr⟩ := hrel
        obtain ⟨q, rfl⟩ : ∃ q : Since w.heap.size w, wr = q.val := ⟨⟨wr, hbr⟩, rfl⟩
        obtain ⟨A5, c5, rfl⟩ := ownsRow_slice HO.out
        have hol : o.length ≤ 100 := by have := HJ.out.len; omega
        by_cases hlt : k < m.length
        · have HJ1 := Lib.hid (HST.out k o HJ.out hlt)
          obtain ⟨bb, off, rfl, hbb, hcell⟩ := hrm (by omega)
          have hcl := hcell k hlt
          have hwr := HMB.out k hlt
          obtain ⟨r, hre⟩ : ∃ r, r = m[k] := ⟨_, rfl⟩
          rw [← hre] at hcl HJ1 hwr
          obtain ⟨e0, e1, e2, e3, e4⟩ := hcl
          have bV := (Below.refl q.val.heap.size q.val).alloc (Nat.le_refl _) (.cells #[.int .i64 r.m, .int .i64 r.b, .int .i64 r.s, .int .i64 r.c, .int .i64 r.l] 25)
          have LV := Lies.new q.val 25 #[.int .i64 r.m, .int .i64 r.b, .int .i64 r.s, .int .i64 r.c, .int .i64 r.l]
          have hOV := ownsRow_below HO.out bV
          have bwV : Below w.heap.size w (q.val.alloc (.cells #[.int .i64 r.m, .int .i64 r.b, .int .i64 r.s, .int .i64 r.c, .int .i64 r.l] 25)) := q.below.trans (bV.mono q.size)
          have hlo : ∀ i (h : i < o.length), i < posR o r → cmpI o[i].m r.m < 0 := fun i h hi => cmpI_lt.2 (posR_lt o r i h hi)
          have hhi : ∀ i (h : i < o.length), posR o r ≤ i → ¬ cmpI o[i].m r.m < 0 := fun i h hi hc => posR_ge o r HJ.out.asc i h hi (cmpI_lt.1 hc)
          have hple := posR_le o r
          have cB := fun (fd : Bool) (h1 : ∀ h : posR o r < o.length, fd = decide (cmpI o[posR o r].m r.m = 0)) (h2 : posR o r = o.length → fd = false) => bsRow_any (fun t => cmpI t.m r.m) r 44 #[] Tryz.call44 A5 c5 o (q.val.alloc (.cells #[.int .i64 r.m, .int .i64 r.b, .int .i64 r.s, .int .i64 r.c, .int .i64 r.l] 25)) (fun t p => monthFn_any t r p.val) (ownsRow_reads hOV) (by omega) (posR o r) hple hlo hhi fd h1 h2
          have hgV : q.val.heap.size < (q.val.alloc (.cells #[.int .i64 r.m, .int .i64 r.b, .int .i64 r.s, .int .i64 r.c, .int .i64 r.l] 25)).heap.size := LV.lt
          by_cases hf : ∃ h : posR o r < o.length, o[posR o r].m = r.m
          · obtain ⟨hplt, hpm⟩ := hf
            have HI := Lib.hid (insR_old o r hplt hpm)
            have cB := cB true (fun _ => by rw [decide_eq_true (cmpI_zero.2 hpm)]) (fun e => by omega)
            have hwx := HJ.out.bd _ (List.getElem_mem hplt)
            obtain ⟨b, hb⟩ : ∃ b, b = posR o r := ⟨_, rfl⟩
            have hblt : b < o.length := by rw [hb]; exact hplt
            obtain ⟨x, hx⟩ : ∃ x, x = o[b] := ⟨_, rfl⟩
            have hxp : o[posR o r] = x := by rw [hx]; congr 1; exact hb.symm
            rw [hxp] at HI hwx
            rw [← hb] at cB HI
            have HSET := Lib.hid (flat_set5 (u0 := x.b + r.b) (u1 := x.s + r.s) (u2 := x.c + r.c) (u3 := x.l + r.l) hblt)
            have hel : ∀ i, i < 5 → (o.flatMap Row.enc)[b * 5 + i]? = (Row.enc x)[i]? := fun i hi => by rw [flat_at Row.enc 5 Row.enc_len o b hblt i hi, ← hx]
            rw [← hx] at HSET
            obtain ⟨gO, cap, _, hvO, hgO, _, _⟩ := ownsRow_at hOV (by omega)
            injection hvO with e1' e2' e3'
            subst e1'; subst e3'
            have hgOq : gO < q.val.heap.size := (HO.out.lt gO rfl).2
            obtain ⟨⟨hx1, hx2⟩, ⟨hx3, hx4⟩, ⟨hx5, hx6⟩, ⟨hx7, hx8⟩⟩ := hwx
            obtain ⟨⟨hr1, hr2⟩, ⟨hr3, hr4⟩, ⟨hr5, hr6⟩, ⟨hr7, hr8⟩⟩ := hwr
            clear hlo hhi hxp hplt hpm hb hcell hrm hre
            go_wp2_with fail
            generalize q.val.alloc (.cells #[.int .i64 r.m, .int .i64 r.b, .int .i64 r.s, .int .i64 r.c, .int .i64 r.l] 25) = V at bV LV hOV bwV cB hgV ⊢
            generalize q.val.heap.size = gB at LV hgV hgOq ⊢
            refine cB.mono ?_
            rintro e w5 ⟨rfl, hb5⟩
            have L5 := LV.below hb5 LV.lt
            have o5 := ownsRow_below hOV hb5
            have b5 := bwV.trans (hb5.mono bwV.size)
            have s1 := L5.cell 1
            have s2 := L5.cell 2
            have s3 := L5.cell 3
            have s4 := L5.cell 4
            simp only [List.getElem?_cons_zero, List.getElem?_cons_succ] at s1 s2 s3 s4
            have t1 : w5.cell? ⟨gO, b * 5 + 1, none⟩ = some (.int .i64 x.b) := (o5.cellAt _ (by omega)).trans (hel 1 (by omega))
            have t2 : w5.cell? ⟨gO, b * 5 + 2, none⟩ = some (.int .i64 x.s) := (o5.cellAt _ (by omega)).trans (hel 2 (by omega))
            have t3 : w5.cell? ⟨gO, b * 5 + 3, none⟩ = some (.int .i64 x.c) := (o5.cellAt _ (by omega)).trans (hel 3 (by omega))
            have t4 : w5.cell? ⟨gO, b * 5 + 4, none⟩ = some (.int .i64 x.l) := (o5.cellAt _ (by omega)).trans (hel 4 (by omega))
            have f1 := o5.frozenAt (b * 5 + 1)
            have f2 := o5.frozenAt (b * 5 + 2)
            have f3 := o5.frozenAt (b * 5 + 3)
            have f4 := o5.frozenAt (b * 5 + 4)
            have hne : ¬ gO = gB := by omega
            have hne' : ¬ gB = gO := by omega
            have O5 := Lib.hid o5
            have B5 := Lib.hid b5
            have hbz : (0 : Int) ≤ (b : Int) := by omega
            have hbi : (b : Int) < (o.length : Int) := by omega
            clear bV LV hOV bwV cB hgV hb5 o5 b5 hel L5 hx
            go_wp2
            go_still_tail 10, (by kernel_rfl)
            change wpList _ _ _ _ _ w5.drew
            have t1d := (show w5.drew.cell? _ = _ from t1)
            have t2d := (show w5.drew.cell? _ = _ from t2)
            have t3d := (show w5.drew.cell? _ = _ from t3)
            have t4d := (show w5.drew.cell? _ = _ from t4)
            have s1d := (show w5.drew.cell? _ = _ from s1)
            have s2d := (show w5.drew.cell? _ = _ from s2)
            have s3d := (show w5.drew.cell? _ = _ from s3)
            have s4d := (show w5.drew.cell? _ = _ from s4)
            have f1d := (show w5.drew.frozen? _ = _ from f1)
            have f2d := (show w5.drew.frozen? _ = _ from f2)
            have f3d := (show w5.drew.frozen? _ = _ from f3)
            have f4d := (show w5.drew.frozen? _ = _ from f4)
            have O5d := Lib.hid (ownsRow_drew O5.out)
            have B5d := Lib.hid (B5.out).drew
            clear t1 t2 t3 t4 f1 f2 f3 f4 s1 s2 s3 s4 O5 B5
            generalize w5.drew = D1 at t1d t2d t3d t4d f1d f2d f3d f4d s1d s2d s3d s4d O5d B5d ⊢
            have P1 := Lib.hid (ownsRow_set O5d.out (b * 5 + 1) (.int .i64 (x.b + r.b)) (by omega))
            have Q1 := Lib.hid ((B5d.out).grown (grown_set (g := gO) (i := b * 5 + 1) (u := (.int .i64 (x.b + r.b))) (World.grownBy.refl D1 (some gO))) (B5d.out).size (by rintro _ ⟨⟩; exact hgO))
            have t2 : (D1.setCell ⟨gO, b * 5 + 1, none⟩ (.int .i64 (x.b + r.b))).cell? ⟨gO, b * 5 + 2, none⟩ = _ := (World.cell?_setCell_other _ _ _ _ (by simp)).trans t2d
            have s2 : (D1.setCell ⟨gO, b * 5 + 1, none⟩ (.int .i64 (x.b + r.b))).cell? ⟨gB, 2, none⟩ = _ := (World.cell?_setCell_other _ _ _ _ (by simp [hne, hne'])).trans s2d
            have f2 : (D1.setCell ⟨gO, b * 5 + 1, none⟩ (.int .i64 (x.b + r.b))).frozen? ⟨gO, b * 5 + 2, none⟩ = false := (World.frozen?_setCell _ _ _ _).trans f2d
            have t3 : (D1.setCell ⟨gO, b * 5 + 1, none⟩ (.int .i64 (x.b + r.b))).cell? ⟨gO, b * 5 + 3, none⟩ = _ := (World.cell?_setCell_other _ _ _ _ (by simp)).trans t3d
            have s3 : (D1.setCell ⟨gO, b * 5 + 1, none⟩ (.int .i64 (x.b + r.b))).cell? ⟨gB, 3, none⟩ = _ := (World.cell?_setCell_other _ _ _ _ (by simp [hne, hne'])).trans s3d
            have f3 : (D1.setCell ⟨gO, b * 5 + 1, none⟩ (.int .i64 (x.b + r.b))).frozen? ⟨gO, b * 5 + 3, none⟩ = false := (World.frozen?_setCell _ _ _ _).trans f3d
            have t4 : (D1.setCell ⟨gO, b * 5 + 1, none⟩ (.int .i64 (x.b + r.b))).cell? ⟨gO, b * 5 + 4, none⟩ = _ := (World.cell?_setCell_other _ _ _ _ (by simp)).trans t4d
            have s4 : (D1.setCell ⟨gO, b * 5 + 1, none⟩ (.int .i64 (x.b + r.b))).cell? ⟨gB, 4, none⟩ = _ := (World.cell?_setCell_other _ _ _ _ (by simp [hne, hne'])).trans s4d
            have f4 : (D1.setCell ⟨gO, b * 5 + 1, none⟩ (.int .i64 (x.b + r.b))).frozen? ⟨gO, b * 5 + 4, none⟩ = false := (World.frozen?_setCell _ _ _ _).trans f4d
            go_wp2
            clear t1d t2d t3d t4d f1d f2d f3d f4d s1d s2d s3d s4d
            generalize D1.setCell ⟨gO, b * 5 + 1, none⟩ (.int .i64 (x.b + r.b)) = E1 at t2 s2 f2 t3 s3 f3 t4 s4 f4 P1 Q1 ⊢
            go_still_tail 10, (by kernel_rfl)
            change wpList _ _ _ _ _ E1.drew
            have t2d := (show E1.drew.cell? _ = _ from t2)
            have t3d := (show E1.drew.cell? _ = _ from t3)
            have t4d := (show E1.drew.cell? _ = _ from t4)
            have s2d := (show E1.drew.cell? _ = _ from s2)
            have s3d := (show E1.drew.cell? _ = _ from s3)
            have s4d := (show E1.drew.cell? _ = _ from s4)
            have f2d := (show E1.drew.frozen? _ = _ from f2)
            have f3d := (show E1.drew.frozen? _ = _ from f3)
            have f4d := (show E1.drew.frozen? _ = _ from f4)
            have P1d := Lib.hid (ownsRow_drew P1.out)
            have Q1d := Lib.hid (Q1.out).drew
            clear t2 t3 t4 f2 f3 f4 s2 s3 s4 P1 Q1
            generalize E1.drew = D2 at t2d t3d t4d f2d f3d f4d s2d s3d s4d P1d Q1d ⊢
            have P2 := Lib.hid (ownsRow_set P1d.out (b * 5 + 2) (.int .i64 (x.s + r.s)) (by omega))
            have Q2 := Lib.hid ((Q1d.out).grown (grown_set (g := gO) (i := b * 5 + 2) (u := (.int .i64 (x.s + r.s))) (World.grownBy.refl D2 (some gO))) (Q1d.out).size (by rintro _ ⟨⟩; exact hgO))
            have t3 : (D2.setCell ⟨gO, b * 5 + 2, none⟩ (.int .i64 (x.s + r.s))).cell? ⟨gO, b * 5 + 3, none⟩ = _ := (World.cell?_setCell_other _ _ _ _ (by simp)).trans t3d
            have s3 : (D2.setCell ⟨gO, b * 5 + 2, none⟩ (.int .i64 (x.s + r.s))).cell? ⟨gB, 3, none⟩ = _ := (World.cell?_setCell_other _ _ _ _ (by simp [hne, hne'])).trans s3d
            have f3 : (D2.setCell ⟨gO, b * 5 + 2, none⟩ (.int .i64 (x.s + r.s))).frozen? ⟨gO, b * 5 + 3, none⟩ = false := (World.frozen?_setCell _ _ _ _).trans f3d
            have t4 : (D2.setCell ⟨gO, b * 5 + 2, none⟩ (.int .i64 (x.s + r.s))).cell? ⟨gO, b * 5 + 4, none⟩ = _ := (World.cell?_setCell_other _ _ _ _ (by simp)).trans t4d
            have s4 : (D2.setCell ⟨gO, b * 5 + 2, none⟩ (.int .i64 (x.s + r.s))).cell? ⟨gB, 4, none⟩ = _ := (World.cell?_setCell_other _ _ _ _ (by simp [hne, hne'])).trans s4d
            have f4 : (D2.setCell ⟨gO, b * 5 + 2, none⟩ (.int .i64 (x.s + r.s))).frozen? ⟨gO, b * 5 + 4, none⟩ = false := (World.frozen?_setCell _ _ _ _).trans f4d
            go_wp2
            clear t2d t3d t4d f2d f3d f4d s2d s3d s4d
            generalize D2.setCell ⟨gO, b * 5 + 2, none⟩ (.int .i64 (x.s + r.s)) = E2 at t3 s3 f3 t4 s4 f4 P2 Q2 ⊢
            go_still_tail 10, (by kernel_rfl)
            change wpList _ _ _ _ _ E2.drew
            have t3d := (show E2.drew.cell? _ = _ from t3)
            have t4d := (show E2.drew.cell? _ = _ from t4)
            have s3d := (show E2.drew.cell? _ = _ from s3)
            have s4d := (show E2.drew.cell? _ = _ from s4)
            have f3d := (show E2.drew.frozen? _ = _ from f3)
            have f4d := (show E2.drew.frozen? _ = _ from f4)
            have P2d := Lib.hid (ownsRow_drew P2.out)
            have Q2d := Lib.hid (Q2.out).drew
            clear t3 t4 f3 f4 s3 s4 P2 Q2
            generalize E2.drew = D3 at t3d t4d f3d f4d s3d s4d P2d Q2d ⊢
            have P3 := Lib.hid (ownsRow_set P2d.out (b * 5 + 3) (.int .i64 (x.c + r.c)) (by omega))
            have Q3 := Lib.hid ((Q2d.out).grown (grown_set (g := gO) (i := b * 5 + 3) (u := (.int .i64 (x.c + r.c))) (World.grownBy.refl D3 (some gO))) (Q2d.out).size (by rintro _ ⟨⟩; exact hgO))
            have t4 : (D3.setCell ⟨gO, b * 5 + 3, none⟩ (.int .i64 (x.c + r.c))).cell? ⟨gO, b * 5 + 4, none⟩ = _ := (World.cell?_setCell_other _ _ _ _ (by simp)).trans t4d
            have s4 : (D3.setCell ⟨gO, b * 5 + 3, none⟩ (.int .i64 (x.c + r.c))).cell? ⟨gB, 4, none⟩ = _ := (World.cell?_setCell_other _ _ _ _ (by simp [hne, hne'])).trans s4d
            have f4 : (D3.setCell ⟨gO, b * 5 + 3, none⟩ (.int .i64 (x.c + r.c))).frozen? ⟨gO, b * 5 + 4, none⟩ = false := (World.frozen?_setCell _ _ _ _).trans f4d
            go_wp2
            clear t3d t4d f3d f4d s3d s4d
            generalize D3.setCell ⟨gO, b * 5 + 3, none⟩ (.int .i64 (x.c + r.c)) = E3 at t4 s4 f4 P3 Q3 ⊢
            go_still_tail 10, (by kernel_rfl)
            change wpList _ _ _ _ _ E3.drew
            have t4d := (show E3.drew.cell? _ = _ from t4)
            have s4d := (show E3.drew.cell? _ = _ from s4)
            have f4d := (show E3.drew.frozen? _ = _ from f4)
            have P3d := Lib.hid (ownsRow_drew P3.out)
            have Q3d := Lib.hid (Q3.out).drew
            clear t4 f4 s4 P3 Q3
            generalize E3.drew = D4 at t4d f4d s4d P3d Q3d ⊢
            have P4 := Lib.hid (ownsRow_set P3d.out (b * 5 + 4) (.int .i64 (x.l + r.l)) (by omega))
            have Q4 := Lib.hid ((Q3d.out).grown (grown_set (g := gO) (i := b * 5 + 4) (u := (.int .i64 (x.l + r.l))) (World.grownBy.refl D4 (some gO))) (Q3d.out).size (by rintro _ ⟨⟩; exact hgO))
            go_wp2
            clear t4d f4d s4d
            generalize D4.setCell ⟨gO, b * 5 + 4, none⟩ (.int .i64 (x.l + r.l)) = E4 at  P4 Q4 ⊢
            go_roundw
            case rel =>
              have h4 := P4.out
              rw [HSET.out] at h4
              refine ⟨k + 1, insR r o, by omega, by go_num, HJ1, ?_, Q4.out⟩
              rw [HI.out]
              have e : (o.set b (addR x r)).length = o.length := by simp
              unfold Hid
              rw [e]
              exact h4
            case measure => simp [intOf]; omega
          · have hnew : ∀ h : posR o r < o.length, o[posR o r].m ≠ r.m := fun h e => hf ⟨h, e⟩
            have HI := Lib.hid (insR_new o r hnew)
            have cB := cB false (fun h => by symm; rw [decide_eq_false_iff_not, cmpI_zero]; exact hnew h) (fun _ => rfl)
            generalize posR o r = b at cB HI hple
            clear hlo hhi hnew hf hcell hrm hre
            go_wp2_with fail
            generalize q.val.alloc (.cells #[.int .i64 r.m, .int .i64 r.b, .int .i64 r.s, .int .i64 r.c, .int .i64 r.l] 25) = V at bV LV hOV bwV cB hgV ⊢
            generalize q.val.heap.size = gB at LV hgV ⊢
            refine cB.mono ?_
            rintro e w5 ⟨rfl, hb5⟩
            have L5 := LV.below hb5 LV.lt
            have o5 := ownsRow_below hOV hb5
            have b5 := bwV.trans (hb5.mono bwV.size)
            have s0 := L5.cell 0
            have s1 := L5.cell 1
            have s2 := L5.cell 2
            have s3 := L5.cell 3
            have s4 := L5.cell 4
            simp only [List.getElem?_cons_zero, List.getElem?_cons_succ] at s0 s1 s2 s3 s4
            have al := (Below.refl w5.heap.size w5).alloc (Nat.le_refl _) (.cells #[.int .i64 r.m, .int .i64 r.b, .int .i64 r.s, .int .i64 r.c, .int .i64 r.l] 25)
            have o6 := ownsRow_below o5 al
            have b6 : Below w.heap.size w (w5.alloc (.cells #[.int .i64 r.m, .int .i64 r.b, .int .i64 r.s, .int .i64 r.c, .int .i64 r.l] 25)) := b5.trans (al.mono b5.size)
            have cI := insRow_any w.heap.size (.slice A5 o.length c5) o.length (o.flatMap Row.enc) (w5.alloc (.cells #[.int .i64 r.m, .int .i64 r.b, .int .i64 r.s, .int .i64 r.c, .int .i64 r.l] 25)) o6 (by omega) b hple r w5.heap.size 1 (Lies.new w5 25 #[.int .i64 r.m, .int .i64 r.b, .int .i64 r.s, .int .i64 r.c, .int .i64 r.l]) (fun e => by have := (o5.lt _ e).2; omega) b6.size row_cells
            rw [← flat_ins5, ← HI.out] at cI
            have hlen : o.length + 1 = (insR r o).length := by rw [HI.out]; simp; omega
            rw [hlen] at cI
            clear hlen bV LV hOV bwV cB hgV
            go_wp2_with fail
            clear s0 s1 s2 s3 s4
            generalize w5.alloc (.cells #[.int .i64 r.m, .int .i64 r.b, .int .i64 r.s, .int .i64 r.c, .int .i64 r.l] 25) = W6 at al o6 b6 cI ⊢
            refine cI.mono ?_
            rintro e w7 ⟨v', rfl, HO7, hg7⟩
            have B7 := b6.grown hg7 b6.size (fun j hj => (o6.lt j hj).1)
            have HO7 := Lib.hid HO7
            go_wp2
            go_roundw
            case rel => exact ⟨k + 1, insR r o, by omega, by go_num, HJ1, HO7, B7⟩
            case measure => simp [intOf]; omega
        · have HD : Hid (k = m.length) := by unfold Hid; omega
          have HE : Hid (o = mergeR l m) := by have := HJ.out; rw [HD.out] at this; exact this.done
          have hRO := ownsRow_reads HO.out
          have cF := areOfficeRows_any A5 c5 o q.val hRO
          clear hrm
          cases hgo : goodRows o
          · rw [hgo] at cF
            have HN := Lib.hid (HX.out (by rw [← HE.out]; exact hgo))
            clear hgo
            go_wp2_with fail
            refine cF.mono ?_
            rintro e w4 ⟨rfl, hb4⟩
            go_wp2
            go_ret2
            rw [HN.out]
            exact GivesRows.no rfl (q.below.trans (hb4.mono q.size))
          · rw [hgo] at cF
            have HN := Lib.hid (HY.out (by rw [← HE.out]; exact hgo))
            clear hgo
            go_wp2_with fail
            refine cF.mono ?_
            rintro e w4 ⟨rfl, hb4⟩
            go_wp2
            go_ret2
            rw [HN.out, ← HE.out]
            exact ⟨A5, c5, rfl, ownsRow_below HO.out hb4, q.below.trans (hb4.mono q.size)⟩
end Go.Proofs.YtpjfidmapnnbkaaGreatDoor

/- Joined rows, in the reference. (Printed by gen_join2.py) -/
namespace Go.Proofs.YtpjfidmapnnbkaaGreatDoor
open Go.RowKit

theorem merge_end1 {l : List Row} {i : Nat} (h : i < l.length) : mergeR (l.drop i) [] = l[i] :: mergeR (l.drop (i + 1)) [] := by
  rw [mergeR_nil, mergeR_nil, List.drop_eq_getElem_cons h]
theorem merge_end2 {m : List Row} {k : Nat} (h : k < m.length) : mergeR [] (m.drop k) = m[k] :: mergeR [] (m.drop (k + 1)) := by
  rw [mergeR, mergeR, List.drop_eq_getElem_cons h]
theorem merge_step {l m : List Row} {i k : Nat} (h : i < l.length) (h' : k < m.length) : mergeR (l.drop i) (m.drop k) =
    if l[i].m < m[k].m then l[i] :: mergeR (l.drop (i + 1)) (m.drop k) else if m[k].m < l[i].m then m[k] :: mergeR (l.drop i) (m.drop (k + 1)) else addR l[i] m[k] :: mergeR (l.drop (i + 1)) (m.drop (k + 1)) := by
  rw [List.drop_eq_getElem_cons h, List.drop_eq_getElem_cons h', mergeR]

/-- The reference's result reads. -/
def ReadsRows (w : World) (R : List Row × Bool) (e : Ending) (w' : World) : Prop := ∃ A c, e = .returned (.tuple #[.slice A R.1.length c, .bool R.2]) ∧ RowsR w' w'.heap.size A R.1 ∧ Below w.heap.size w w'

set_option maxRecDepth 100000 in
set_option maxHeartbeats 4000000 in
theorem specJoin_any (A : Option Addr) (c : Nat) (l : List Row) (A' : Option Addr) (c' : Nat) (m : List Row) (w : World) (h : RowsR w w.heap.size A l) (h' : RowsR w w.heap.size A' m) :
    Calls Tryz.prog 14 #[.slice A l.length c, .slice A' m.length c'] w (ReadsRows w (joinBoth l m)) := by
  have hl := h.big
  have hm := h'.big
  have ca := fun W hW => l31Good_any A c l W hW
  have cb := fun W hW => l31Good_any A' c' m W hW
  cases hg : goodRows l
  · have HN := Lib.hid (join_no (a := l) (b := m) (by rw [hg]; rfl))
    rw [hg] at ca
    clear hg
    go_enter Tryz.func14, Tryz.ntmps14
    go_wp2_with fail
    refine (ca _ h).mono ?_
    rintro e w1 ⟨rfl, hb1⟩
    go_wp2
    go_ret2
    rw [HN.out]
    exact ⟨_, _, rfl, SlcR.nil _ _ _ _, hb1.trans ((Below.refl w1.heap.size w1).alloc (Nat.le_refl _) _ |>.mono hb1.size)⟩
  · cases hg' : goodRows m
    · have HN := Lib.hid (join_no (a := l) (b := m) (by rw [hg, hg']; rfl))
      rw [hg] at ca
      rw [hg'] at cb
      clear hg hg'
      go_enter Tryz.func14, Tryz.ntmps14
      go_wp2_with fail
      refine (ca _ h).mono ?_
      rintro e w1 ⟨rfl, hb1⟩
      go_wp2_with fail
      refine (cb _ (SlcR.then h' hb1)).mono ?_
      rintro e w2 ⟨rfl, hb2⟩
      have k2 := bthen hb1 hb2
      go_wp2
      go_ret2
      rw [HN.out]
      exact ⟨_, _, rfl, SlcR.nil _ _ _ _, k2.trans ((Below.refl w2.heap.size w2).alloc (Nat.le_refl _) _ |>.mono k2.size)⟩
    · have hl12 := good_len hg
      have hm12 := good_len hg'
      have HLB : Hid (∀ k (hk : k < l.length), (l[k]'hk).within 1000000) := fun k hk => within_ok (good_at hg hk)
      have HMB : Hid (∀ k (hk : k < m.length), (m[k]'hk).within 1000000) := fun k hk => within_ok (good_at hg' hk)
      have HY : Hid (goodRows (mergeR l m) = true → joinBoth l m = (mergeR l m, true)) := fun h2 => join_yes (by rw [hg, hg']; rfl) h2
      have HX : Hid (goodRows (mergeR l m) = false → joinBoth l m = ([], false)) := fun h2 => join_bad (by rw [hg, hg']; rfl) h2
      rw [hg] at ca
      rw [hg'] at cb
      clear hg hg'
      have hrl := RowsR.row h
      have hrm := RowsR.row h'
      go_enter Tryz.func14, Tryz.ntmps14
      go_wp2_with fail
      refine (ca _ h).mono ?_
      rintro e w1 ⟨rfl, hb1⟩
      go_wp2_with fail
      refine (cb _ (SlcR.then h' hb1)).mono ?_
      rintro e w2 ⟨rfl, hb2⟩
      have k2 := bthen hb1 hb2
      have HO2 : Hid ((w2.alloc (.cells #[] 25)).ownsRow w.heap.size 25 5 (.slice (some ⟨w2.heap.size, 0, none⟩) 0 0) 0 []) := owns_empty (Lies.new w2 25 #[]) k2.size
      have B2 := k2.alloc k2.size (.cells #[] 25)
      clear ca cb hb1 hb2 h h'
      go_wp2
      go_loopw [6, 7, 8] (fun out si sk wr => ∃ (i k : Nat) (o : List Row), i ≤ l.length ∧ k ≤ m.length ∧ si = .int .i64 i ∧ sk = .int .i64 k ∧ o.length ≤ i + k ∧ Hid (o ++ mergeR (l.drop i) (m.drop k) = mergeR l m) ∧ Hid (wr.ownsRow w.heap.size 25 5 out o.length (o.flatMap Row.enc)) ∧ Below w.heap.size w wr) (fun _ si sk _ => l.length + m.length - ((intOf si).toNat + (intOf sk).toNat))
      case atStart => exact ⟨0, 0, [], Nat.zero_le _, Nat.zero_le _, rfl, rfl, by simp, by unfold Hid; simp, HO2, B2⟩
      case round =>
        clear HO2 B2 k2
        obtain ⟨i, k, o, hi, hk, rfl, rfl, hol, HR, HO, hbr⟩ := hrel
        obtain ⟨q, rfl⟩ : ∃ q : Since w.heap.size w, wr = q.val := ⟨⟨wr, hbr⟩, rfl⟩
        obtain ⟨A5, c5, rfl⟩ := ownsRow_slice HO.out
        by_cases hil : i < l.length
        · by_cases hkm : k < m.length
          · obtain ⟨ba, offa, rfl, hba, hcella⟩ := hrl (by omega)
            obtain ⟨bb, offb, rfl, hbb, hcellb⟩ := hrm (by omega)
            have hca := (hcella i hil).up q.below q.size
            have hcb := (hcellb k hkm).up q.below q.size
            have hst := merge_step hil hkm
            have hwx := HLB.out i hil
            have hwy := HMB.out k hkm
            obtain ⟨x, hx⟩ : ∃ r, r = l[i] := ⟨_, rfl⟩
            obtain ⟨y, hy⟩ : ∃ r, r = m[k] := ⟨_, rfl⟩
            rw [← hx] at hca hst hwx
            rw [← hy] at hcb hst hwy
            clear hx hy hcella hcellb hrl hrm
            have hkm1 : ((k : Int) == (m.length : Int)) = false := by simp; omega
            have hil1 : ((i : Int) == (l.length : Int)) = false := by simp; omega
            have hil2 : (i : Int) < (l.length : Int) := by omega
            have hkm2 : (k : Int) < (m.length : Int) := by omega
            by_cases h1 : x.m < y.m
            · have HE : Hid ((o ++ [x]) ++ mergeR (l.drop (i + 1)) (m.drop k) = mergeR l m) := by
                have := HR.out; rw [hst, if_pos h1] at this; unfold Hid; rw [List.append_assoc]; exact this
              clear hst HR hwx hwy
              obtain ⟨e0, e1, e2, e3, e4⟩ := hca
              obtain ⟨d0, d1, d2, d3, d4⟩ := hcb
              go_wp2
              refine wp_region_since0 (by kernel_rfl) (by kernel_rfl) ?_
              repeat (any_goals (first | go_big_quiet_step ((fail)) | (refine wpQuiet_step (fun K hK => ?_); go_simp; split <;> (refine hK _ ?_; clear hK K))))
              all_goals (refine wpQuiet_nil ?_; rintro _ ⟨q1, rfl⟩)
              have B1 : Below w.heap.size w q1.val := q.below.trans (q1.below.mono q.size)
              have HO1 := Lib.hid (ownsRow_below HO.out q1.below)
              go_wp2_with (at_builtin; refine wpList_push (w0 := q1.val) rfl _ _ 33 rfl 25 _ 5 40 Tryz.underlying33 infoRow rfl (by decide) (by omega) w.heap.size _ _ _ rfl HO1 #[.int .i64 x.m, .int .i64 x.b, .int .i64 x.s, .int .i64 x.c, .int .i64 x.l] 1 _ rfl (by first | rfl | exact Array.size_push _) rfl (by simp [Value.oneCell']) (by omega) (B1).size rfl rfl rfl rfl ?_; intro v' w3 HO3 hg3 hb3)
              obtain ⟨A3, c3, rfl⟩ := ownsRow_slice HO3.out
              have B3 := (B1).grown hg3 (B1).size (fun j hj => (HO1.out.lt j hj).1)
              have HO4 : Hid (w3.ownsRow w.heap.size 25 5 (.slice A3 (o.length + 1) c3) (o ++ [x]).length ((o ++ [x]).flatMap Row.enc)) := by
                have h3 := HO3.out
                unfold Hid
                rw [List.flatMap_append, List.length_append]
                simpa [Row.enc, addR] using h3
              have hln : (o ++ [x]).length ≤ i + 1 + k := by rw [List.length_append]; simp; omega
              clear hg3 hb3 HO3
              go_wp2
              go_roundw
              case rel => exact ⟨i + 1, k, o ++ [x], by omega, by omega, by go_num, by go_num, hln, HE, HO4, B3⟩
              case measure => simp [intOf]; omega
            · by_cases h2 : y.m < x.m
              · have HE : Hid ((o ++ [y]) ++ mergeR (l.drop i) (m.drop (k + 1)) = mergeR l m) := by
                  have := HR.out; rw [hst, if_neg h1, if_pos h2] at this; unfold Hid; rw [List.append_assoc]; exact this
                clear hst HR hwx hwy
                have hcb' := hcb
                have hca' := hca
                obtain ⟨e0, e1, e2, e3, e4⟩ := hca
                obtain ⟨d0, d1, d2, d3, d4⟩ := hcb
                go_wp2
                refine wp_region_since0 (by kernel_rfl) (by kernel_rfl) ?_
                repeat (any_goals (first | go_big_quiet_step ((fail)) | (refine wpQuiet_step (fun K hK => ?_); go_simp; split <;> (refine hK _ ?_; clear hK K))))
                all_goals (refine wpQuiet_nil ?_; rintro _ ⟨q1, rfl⟩)
                have B1 : Below w.heap.size w q1.val := q.below.trans (q1.below.mono q.size)
                have HO1 := Lib.hid (ownsRow_below HO.out q1.below)
                clear e0 e1 e2 e3 e4 d0 d1 d2 d3 d4
                obtain ⟨e0, e1, e2, e3, e4⟩ := hca'.up q1.below q1.size
                obtain ⟨d0, d1, d2, d3, d4⟩ := hcb'.up q1.below q1.size
                obtain ⟨qa, rfl⟩ : ∃ qa, qa = q1 := ⟨_, rfl⟩
                go_wp2
                refine wp_region_since0 (by kernel_rfl) (by kernel_rfl) ?_
                repeat (any_goals (first | go_big_quiet_step ((fail)) | (refine wpQuiet_step (fun K hK => ?_); go_simp; split <;> (refine hK _ ?_; clear hK K))))
                all_goals (refine wpQuiet_nil ?_; rintro _ ⟨q1, rfl⟩)
                have B2 : Below w.heap.size w q1.val := B1.trans (q1.below.mono B1.size)
                have HO2 := Lib.hid (ownsRow_below HO1.out q1.below)
                go_wp2_with (at_builtin; refine wpList_push (w0 := q1.val) rfl _ _ 33 rfl 25 _ 5 40 Tryz.underlying33 infoRow rfl (by decide) (by omega) w.heap.size _ _ _ rfl HO2 #[.int .i64 y.m, .int .i64 y.b, .int .i64 y.s, .int .i64 y.c, .int .i64 y.l] 1 _ rfl (by first | rfl | exact Array.size_push _) rfl (by simp [Value.oneCell']) (by omega) (B2).size rfl rfl rfl rfl ?_; intro v' w3 HO3 hg3 hb3)
                obtain ⟨A3, c3, rfl⟩ := ownsRow_slice HO3.out
                have B3 := (B2).grown hg3 (B2).size (fun j hj => (HO2.out.lt j hj).1)
                have HO4 : Hid (w3.ownsRow w.heap.size 25 5 (.slice A3 (o.length + 1) c3) (o ++ [y]).length ((o ++ [y]).flatMap Row.enc)) := by
                  have h3 := HO3.out
                  unfold Hid
                  rw [List.flatMap_append, List.length_append]
                  simpa [Row.enc, addR] using h3
                have hln : (o ++ [y]).length ≤ i + k + 1 := by rw [List.length_append]; simp; omega
                clear hg3 hb3 HO3
                go_wp2
                go_roundw
                case rel => exact ⟨i, k + 1, o ++ [y], by omega, by omega, by go_num, by go_num, hln, HE, HO4, B3⟩
                case measure => simp [intOf]; omega
              · have HE : Hid ((o ++ [addR x y]) ++ mergeR (l.drop (i + 1)) (m.drop (k + 1)) = mergeR l m) := by
                  have := HR.out; rw [hst, if_neg h1, if_neg h2] at this; unfold Hid; rw [List.append_assoc]; exact this
                clear hst HR
                obtain ⟨⟨hx1, hx2⟩, ⟨hx3, hx4⟩, ⟨hx5, hx6⟩, ⟨hx7, hx8⟩⟩ := hwx
                obtain ⟨⟨hr1, hr2⟩, ⟨hr3, hr4⟩, ⟨hr5, hr6⟩, ⟨hr7, hr8⟩⟩ := hwy
                have hcb' := hcb
                have hca' := hca
                obtain ⟨e0, e1, e2, e3, e4⟩ := hca
                obtain ⟨d0, d1, d2, d3, d4⟩ := hcb
                go_wp2
                refine wp_region_since0 (by kernel_rfl) (by kernel_rfl) ?_
                repeat (any_goals (first | go_big_quiet_step ((fail)) | (refine wpQuiet_step (fun K hK => ?_); go_simp; split <;> (refine hK _ ?_; clear hK K))))
                all_goals (refine wpQuiet_nil ?_; rintro _ ⟨q1, rfl⟩)
                have B1 : Below w.heap.size w q1.val := q.below.trans (q1.below.mono q.size)
                have HO1 := Lib.hid (ownsRow_below HO.out q1.below)
                clear e0 e1 e2 e3 e4 d0 d1 d2 d3 d4
                have hca1 := hca'.up q1.below q1.size
                have hcb1 := hcb'.up q1.below q1.size
                obtain ⟨e0, e1, e2, e3, e4⟩ := hca1
                obtain ⟨d0, d1, d2, d3, d4⟩ := hcb1
                obtain ⟨qa, rfl⟩ : ∃ qa, qa = q1 := ⟨_, rfl⟩
                go_wp2
                refine wp_region_since0 (by kernel_rfl) (by kernel_rfl) ?_
                repeat (any_goals (first | go_big_quiet_step ((fail)) | (refine wpQuiet_step (fun K hK => ?_); go_simp; split <;> (refine hK _ ?_; clear hK K))))
                all_goals (refine wpQuiet_nil ?_; rintro _ ⟨q1, rfl⟩)
                have B2 : Below w.heap.size w q1.val := B1.trans (q1.below.mono B1.size)
                have HO2 := Lib.hid (ownsRow_below HO1.out q1.below)
                clear e0 e1 e2 e3 e4 d0 d1 d2 d3 d4
                have hca2 := (hca'.up qa.below qa.size).up q1.below q1.size
                have hcb2 := (hcb'.up qa.below qa.size).up q1.below q1.size
                have e0 := hca2.c0 (Since.start _ _)
                have e1 := hca2.c1 (Since.start _ _)
                have e2 := hca2.c2 (Since.start _ _)
                have e3 := hca2.c3 (Since.start _ _)
                have e4 := hca2.c4 (Since.start _ _)
                change q1.val.cell? _ = _ at e0 e1 e2 e3 e4
                have al := (Below.refl q1.val.heap.size q1.val).alloc (Nat.le_refl _) (.cells #[.int .i64 x.m, .int .i64 x.b, .int .i64 x.s, .int .i64 x.c, .int .i64 x.l] 25)
                have LA := Lies.new q1.val 25 #[.int .i64 x.m, .int .i64 x.b, .int .i64 x.s, .int .i64 x.c, .int .i64 x.l]
                have HO3 := Lib.hid (ownsRow_below HO2.out al)
                have B3 : Below w.heap.size w (q1.val.alloc (.cells #[.int .i64 x.m, .int .i64 x.b, .int .i64 x.s, .int .i64 x.c, .int .i64 x.l] 25)) := B2.trans (al.mono B2.size)
                have hcb3 := hcb2.up al al.size
                have hbq : bb < q1.val.heap.size := Nat.lt_of_lt_of_le hbb B2.size
                have hgw : w.heap.size ≤ q1.val.heap.size := B2.size
                have HNG : Hid (∀ j, (Value.slice A5 o.length c5).ownBlock = some j → j < q1.val.heap.size) := fun j hj => (HO2.out.lt j hj).2
                go_wp2
                generalize q1.val.alloc (.cells #[.int .i64 x.m, .int .i64 x.b, .int .i64 x.s, .int .i64 x.c, .int .i64 x.l] 25) = w5 at al LA HO3 B3 hcb3 ⊢
                generalize q1.val.heap.size = gR at LA hbq hgw HNG ⊢
                have t1 := LA.cell 1
                have t2 := LA.cell 2
                have t3 := LA.cell 3
                have t4 := LA.cell 4
                simp only [List.getElem?_cons_zero, List.getElem?_cons_succ] at t1 t2 t3 t4
                have f1 := LA.frozen 1
                have f2 := LA.frozen 2
                have f3 := LA.frozen 3
                have f4 := LA.frozen 4
                have s1 := hcb3.c1 (Since.start _ _)
                have s2 := hcb3.c2 (Since.start _ _)
                have s3 := hcb3.c3 (Since.start _ _)
                have s4 := hcb3.c4 (Since.start _ _)
                change w5.cell? _ = _ at s1 s2 s3 s4
                have hne : ¬ gR = bb := by omega
                have hne' : ¬ bb = gR := by omega
                have hkz : (0 : Int) ≤ (k : Int) := by omega
                have M0 := Lib.hid LA
                have O0 := HO3
                have Q0 := Lib.hid B3
                clear LA HO3 B3 hcb3 hca2 hcb2 e0 e1 e2 e3 e4 al hca' hcb' HO1 HO2 B1 B2
                go_still_tail 9, (by kernel_rfl)
                change wpList _ _ _ _ _ w5.drew
                have t1d := (show w5.drew.cell? _ = _ from t1)
                have t2d := (show w5.drew.cell? _ = _ from t2)
                have t3d := (show w5.drew.cell? _ = _ from t3)
                have t4d := (show w5.drew.cell? _ = _ from t4)
                have s1d := (show w5.drew.cell? _ = _ from s1)
                have s2d := (show w5.drew.cell? _ = _ from s2)
                have s3d := (show w5.drew.cell? _ = _ from s3)
                have s4d := (show w5.drew.cell? _ = _ from s4)
                have f1d := (show w5.drew.frozen? _ = _ from f1)
                have f2d := (show w5.drew.frozen? _ = _ from f2)
                have f3d := (show w5.drew.frozen? _ = _ from f3)
                have f4d := (show w5.drew.frozen? _ = _ from f4)
                have O0d := Lib.hid (ownsRow_drew O0.out)
                have Q0d := Lib.hid (Q0.out).drew
                have M0d := Lib.hid (M0.out).drew
                clear t1 t2 t3 t4 f1 f2 f3 f4 s1 s2 s3 s4 O0 Q0 M0
                generalize w5.drew = D1 at t1d t2d t3d t4d f1d f2d f3d f4d s1d s2d s3d s4d O0d Q0d M0d ⊢
                have O1 := Lib.hid ((O0d.out).kept (grown_set (g := gR) (i := 1) (u := (.int .i64 (x.b + y.b))) (World.grownBy.refl D1 (some gR))) (.inr (fun e => by have := HNG.out gR e; omega)))
                have Q1 := Lib.hid ((Q0d.out).grown (grown_set (g := gR) (i := 1) (u := (.int .i64 (x.b + y.b))) (World.grownBy.refl D1 (some gR))) (Q0d.out).size (by rintro _ ⟨⟩; exact hgw))
                have M1 := Lib.hid ((M0d.out).set 1 (.int .i64 (x.b + y.b)))
                have t2 : (D1.setCell ⟨gR, 1, none⟩ (.int .i64 (x.b + y.b))).cell? ⟨gR, 2, none⟩ = _ := (World.cell?_setCell_other _ _ _ _ (by simp)).trans t2d
                have s2 : (D1.setCell ⟨gR, 1, none⟩ (.int .i64 (x.b + y.b))).cell? ⟨bb, offb + k * 5 + 2, none⟩ = _ := (World.cell?_setCell_other _ _ _ _ (by simp [hne, hne'])).trans s2d
                have f2 : (D1.setCell ⟨gR, 1, none⟩ (.int .i64 (x.b + y.b))).frozen? ⟨gR, 2, none⟩ = false := (World.frozen?_setCell _ _ _ _).trans f2d
                have t3 : (D1.setCell ⟨gR, 1, none⟩ (.int .i64 (x.b + y.b))).cell? ⟨gR, 3, none⟩ = _ := (World.cell?_setCell_other _ _ _ _ (by simp)).trans t3d
                have s3 : (D1.setCell ⟨gR, 1, none⟩ (.int .i64 (x.b + y.b))).cell? ⟨bb, offb + k * 5 + 3, none⟩ = _ := (World.cell?_setCell_other _ _ _ _ (by simp [hne, hne'])).trans s3d
                have f3 : (D1.setCell ⟨gR, 1, none⟩ (.int .i64 (x.b + y.b))).frozen? ⟨gR, 3, none⟩ = false := (World.frozen?_setCell _ _ _ _).trans f3d
                have t4 : (D1.setCell ⟨gR, 1, none⟩ (.int .i64 (x.b + y.b))).cell? ⟨gR, 4, none⟩ = _ := (World.cell?_setCell_other _ _ _ _ (by simp)).trans t4d
                have s4 : (D1.setCell ⟨gR, 1, none⟩ (.int .i64 (x.b + y.b))).cell? ⟨bb, offb + k * 5 + 4, none⟩ = _ := (World.cell?_setCell_other _ _ _ _ (by simp [hne, hne'])).trans s4d
                have f4 : (D1.setCell ⟨gR, 1, none⟩ (.int .i64 (x.b + y.b))).frozen? ⟨gR, 4, none⟩ = false := (World.frozen?_setCell _ _ _ _).trans f4d
                go_wp2
                clear t1d t2d t3d t4d f1d f2d f3d f4d s1d s2d s3d s4d
                generalize D1.setCell ⟨gR, 1, none⟩ (.int .i64 (x.b + y.b)) = E1 at t2 s2 f2 t3 s3 f3 t4 s4 f4 O1 Q1 M1 ⊢
                go_still_tail 9, (by kernel_rfl)
                change wpList _ _ _ _ _ E1.drew
                have t2d := (show E1.drew.cell? _ = _ from t2)
                have t3d := (show E1.drew.cell? _ = _ from t3)
                have t4d := (show E1.drew.cell? _ = _ from t4)
                have s2d := (show E1.drew.cell? _ = _ from s2)
                have s3d := (show E1.drew.cell? _ = _ from s3)
                have s4d := (show E1.drew.cell? _ = _ from s4)
                have f2d := (show E1.drew.frozen? _ = _ from f2)
                have f3d := (show E1.drew.frozen? _ = _ from f3)
                have f4d := (show E1.drew.frozen? _ = _ from f4)
                have O1d := Lib.hid (ownsRow_drew O1.out)
                have Q1d := Lib.hid (Q1.out).drew
                have M1d := Lib.hid (M1.out).drew
                clear t2 t3 t4 f2 f3 f4 s2 s3 s4 O1 Q1 M1
                generalize E1.drew = D2 at t2d t3d t4d f2d f3d f4d s2d s3d s4d O1d Q1d M1d ⊢
                have O2 := Lib.hid ((O1d.out).kept (grown_set (g := gR) (i := 2) (u := (.int .i64 (x.s + y.s))) (World.grownBy.refl D2 (some gR))) (.inr (fun e => by have := HNG.out gR e; omega)))
                have Q2 := Lib.hid ((Q1d.out).grown (grown_set (g := gR) (i := 2) (u := (.int .i64 (x.s + y.s))) (World.grownBy.refl D2 (some gR))) (Q1d.out).size (by rintro _ ⟨⟩; exact hgw))
                have M2 := Lib.hid ((M1d.out).set 2 (.int .i64 (x.s + y.s)))
                have t3 : (D2.setCell ⟨gR, 2, none⟩ (.int .i64 (x.s + y.s))).cell? ⟨gR, 3, none⟩ = _ := (World.cell?_setCell_other _ _ _ _ (by simp)).trans t3d
                have s3 : (D2.setCell ⟨gR, 2, none⟩ (.int .i64 (x.s + y.s))).cell? ⟨bb, offb + k * 5 + 3, none⟩ = _ := (World.cell?_setCell_other _ _ _ _ (by simp [hne, hne'])).trans s3d
                have f3 : (D2.setCell ⟨gR, 2, none⟩ (.int .i64 (x.s + y.s))).frozen? ⟨gR, 3, none⟩ = false := (World.frozen?_setCell _ _ _ _).trans f3d
                have t4 : (D2.setCell ⟨gR, 2, none⟩ (.int .i64 (x.s + y.s))).cell? ⟨gR, 4, none⟩ = _ := (World.cell?_setCell_other _ _ _ _ (by simp)).trans t4d
                have s4 : (D2.setCell ⟨gR, 2, none⟩ (.int .i64 (x.s + y.s))).cell? ⟨bb, offb + k * 5 + 4, none⟩ = _ := (World.cell?_setCell_other _ _ _ _ (by simp [hne, hne'])).trans s4d
                have f4 : (D2.setCell ⟨gR, 2, none⟩ (.int .i64 (x.s + y.s))).frozen? ⟨gR, 4, none⟩ = false := (World.frozen?_setCell _ _ _ _).trans f4d
                go_wp2
                clear t2d t3d t4d f2d f3d f4d s2d s3d s4d
                generalize D2.setCell ⟨gR, 2, none⟩ (.int .i64 (x.s + y.s)) = E2 at t3 s3 f3 t4 s4 f4 O2 Q2 M2 ⊢
                go_still_tail 9, (by kernel_rfl)
                change wpList _ _ _ _ _ E2.drew
                have t3d := (show E2.drew.cell? _ = _ from t3)
                have t4d := (show E2.drew.cell? _ = _ from t4)
                have s3d := (show E2.drew.cell? _ = _ from s3)
                have s4d := (show E2.drew.cell? _ = _ from s4)
                have f3d := (show E2.drew.frozen? _ = _ from f3)
                have f4d := (show E2.drew.frozen? _ = _ from f4)
                have O2d := Lib.hid (ownsRow_drew O2.out)
                have Q2d := Lib.hid (Q2.out).drew
                have M2d := Lib.hid (M2.out).drew
                clear t3 t4 f3 f4 s3 s4 O2 Q2 M2
                generalize E2.drew = D3 at t3d t4d f3d f4d s3d s4d O2d Q2d M2d ⊢
                have O3 := Lib.hid ((O2d.out).kept (grown_set (g := gR) (i := 3) (u := (.int .i64 (x.c + y.c))) (World.grownBy.refl D3 (some gR))) (.inr (fun e => by have := HNG.out gR e; omega)))
                have Q3 := Lib.hid ((Q2d.out).grown (grown_set (g := gR) (i := 3) (u := (.int .i64 (x.c + y.c))) (World.grownBy.refl D3 (some gR))) (Q2d.out).size (by rintro _ ⟨⟩; exact hgw))
                have M3 := Lib.hid ((M2d.out).set 3 (.int .i64 (x.c + y.c)))
                have t4 : (D3.setCell ⟨gR, 3, none⟩ (.int .i64 (x.c + y.c))).cell? ⟨gR, 4, none⟩ = _ := (World.cell?_setCell_other _ _ _ _ (by simp)).trans t4d
                have s4 : (D3.setCell ⟨gR, 3, none⟩ (.int .i64 (x.c + y.c))).cell? ⟨bb, offb + k * 5 + 4, none⟩ = _ := (World.cell?_setCell_other _ _ _ _ (by simp [hne, hne'])).trans s4d
                have f4 : (D3.setCell ⟨gR, 3, none⟩ (.int .i64 (x.c + y.c))).frozen? ⟨gR, 4, none⟩ = false := (World.frozen?_setCell _ _ _ _).trans f4d
                go_wp2
                clear t3d t4d f3d f4d s3d s4d
                generalize D3.setCell ⟨gR, 3, none⟩ (.int .i64 (x.c + y.c)) = E3 at t4 s4 f4 O3 Q3 M3 ⊢
                go_still_tail 9, (by kernel_rfl)
                change wpList _ _ _ _ _ E3.drew
                have t4d := (show E3.drew.cell? _ = _ from t4)
                have s4d := (show E3.drew.cell? _ = _ from s4)
                have f4d := (show E3.drew.frozen? _ = _ from f4)
                have O3d := Lib.hid (ownsRow_drew O3.out)
                have Q3d := Lib.hid (Q3.out).drew
                have M3d := Lib.hid (M3.out).drew
                clear t4 f4 s4 O3 Q3 M3
                generalize E3.drew = D4 at t4d f4d s4d O3d Q3d M3d ⊢
                have O4 := Lib.hid ((O3d.out).kept (grown_set (g := gR) (i := 4) (u := (.int .i64 (x.l + y.l))) (World.grownBy.refl D4 (some gR))) (.inr (fun e => by have := HNG.out gR e; omega)))
                have Q4 := Lib.hid ((Q3d.out).grown (grown_set (g := gR) (i := 4) (u := (.int .i64 (x.l + y.l))) (World.grownBy.refl D4 (some gR))) (Q3d.out).size (by rintro _ ⟨⟩; exact hgw))
                have M4 := Lib.hid ((M3d.out).set 4 (.int .i64 (x.l + y.l)))
                have z0 : (D4.setCell ⟨gR, 4, none⟩ (.int .i64 (x.l + y.l))).cell? ⟨gR, 0, none⟩ = some (.int .i64 x.m) := (M4.out).cell 0
                have z1 : (D4.setCell ⟨gR, 4, none⟩ (.int .i64 (x.l + y.l))).cell? ⟨gR, 1, none⟩ = some (.int .i64 (x.b + y.b)) := (M4.out).cell 1
                have z2 : (D4.setCell ⟨gR, 4, none⟩ (.int .i64 (x.l + y.l))).cell? ⟨gR, 2, none⟩ = some (.int .i64 (x.s + y.s)) := (M4.out).cell 2
                have z3 : (D4.setCell ⟨gR, 4, none⟩ (.int .i64 (x.l + y.l))).cell? ⟨gR, 3, none⟩ = some (.int .i64 (x.c + y.c)) := (M4.out).cell 3
                have z4 : (D4.setCell ⟨gR, 4, none⟩ (.int .i64 (x.l + y.l))).cell? ⟨gR, 4, none⟩ = some (.int .i64 (x.l + y.l)) := (M4.out).cell 4
                have zz := M4.out.lt
                obtain ⟨QW, hQW⟩ : ∃ QW, D4.setCell ⟨gR, 4, none⟩ (.int .i64 (x.l + y.l)) = QW := ⟨_, rfl⟩
                rw [hQW] at z0 z1 z2 z3 z4 O4 Q4 M4
                go_wp2_with (first | (rw [hQW]; clear hQW) | (at_builtin; refine wpList_push (w0 := QW) rfl _ _ 33 rfl 25 _ 5 40 Tryz.underlying33 infoRow rfl (by decide) (by omega) w.heap.size _ _ _ rfl O4 #[.int .i64 x.m, .int .i64 (x.b + y.b), .int .i64 (x.s + y.s), .int .i64 (x.c + y.c), .int .i64 (x.l + y.l)] 1 _ rfl (by first | rfl | exact Array.size_push _) rfl (by simp [Value.oneCell']) (by omega) (Q4.out).size rfl rfl rfl rfl ?_; intro v' w3 HO3 hg3 hb3))
                obtain ⟨A3, c3, rfl⟩ := ownsRow_slice HO3.out
                have B3 := (Q4.out).grown hg3 (Q4.out).size (fun j hj => (O4.out.lt j hj).1)
                have HO4 : Hid (w3.ownsRow w.heap.size 25 5 (.slice A3 (o.length + 1) c3) (o ++ [addR x y]).length ((o ++ [addR x y]).flatMap Row.enc)) := by
                  have h3 := HO3.out
                  unfold Hid
                  rw [List.flatMap_append, List.length_append]
                  simpa [Row.enc, addR] using h3
                have hln : (o ++ [addR x y]).length ≤ i + 1 + k + 1 := by rw [List.length_append]; simp; omega
                clear hg3 hb3 HO3
                go_wp2
                go_roundw
                case rel => exact ⟨i + 1, k + 1, o ++ [addR x y], by omega, by omega, by go_num, by go_num, hln, HE, HO4, B3⟩
                case measure => simp [intOf]; omega
          · have hke : k = m.length := by omega
            obtain ⟨ba, offa, rfl, hba, hcella⟩ := hrl (by omega)
            have hca := (hcella i hil).up q.below q.size
            have hst : mergeR (l.drop i) (m.drop k) = l[i] :: mergeR (l.drop (i + 1)) (m.drop k) := by rw [List.drop_eq_nil_of_le (by omega : m.length ≤ k), merge_end1 hil]
            obtain ⟨x, hx⟩ : ∃ r, r = l[i] := ⟨_, rfl⟩
            rw [← hx] at hca hst
            have HE : Hid ((o ++ [x]) ++ mergeR (l.drop (i + 1)) (m.drop k) = mergeR l m) := by
              have := HR.out; rw [hst] at this; unfold Hid; rw [List.append_assoc]; exact this
            have hkm1 : ((k : Int) == (m.length : Int)) = true := by simp; omega
            have hil2 : (i : Int) < (l.length : Int) := by omega
            clear hx hcella hrl hrm hst HR hke
            obtain ⟨e0, e1, e2, e3, e4⟩ := hca
            go_wp2
            refine wp_region_since0 (by kernel_rfl) (by kernel_rfl) ?_
            repeat (any_goals (first | go_big_quiet_step ((fail)) | (refine wpQuiet_step (fun K hK => ?_); go_simp; split <;> (refine hK _ ?_; clear hK K))))
            all_goals (refine wpQuiet_nil ?_; rintro _ ⟨q1, rfl⟩)
            have B1 : Below w.heap.size w q1.val := q.below.trans (q1.below.mono q.size)
            have HO1 := Lib.hid (ownsRow_below HO.out q1.below)
            go_wp2_with (at_builtin; refine wpList_push (w0 := q1.val) rfl _ _ 33 rfl 25 _ 5 40 Tryz.underlying33 infoRow rfl (by decide) (by omega) w.heap.size _ _ _ rfl HO1 #[.int .i64 x.m, .int .i64 x.b, .int .i64 x.s, .int .i64 x.c, .int .i64 x.l] 1 _ rfl (by first | rfl | exact Array.size_push _) rfl (by simp [Value.oneCell']) (by omega) (B1).size rfl rfl rfl rfl ?_; intro v' w3 HO3 hg3 hb3)
            obtain ⟨A3, c3, rfl⟩ := ownsRow_slice HO3.out
            have B3 := (B1).grown hg3 (B1).size (fun j hj => (HO1.out.lt j hj).1)
            have HO4 : Hid (w3.ownsRow w.heap.size 25 5 (.slice A3 (o.length + 1) c3) (o ++ [x]).length ((o ++ [x]).flatMap Row.enc)) := by
              have h3 := HO3.out
              unfold Hid
              rw [List.flatMap_append, List.length_append]
              simpa [Row.enc, addR] using h3
            have hln : (o ++ [x]).length ≤ i + 1 + k := by rw [List.length_append]; simp; omega
            clear hg3 hb3 HO3
            go_wp2
            go_roundw
            case rel => exact ⟨i + 1, k, o ++ [x], by omega, by omega, by go_num, by go_num, hln, HE, HO4, B3⟩
            case measure => simp [intOf]; omega
        · by_cases hkm : k < m.length
          · obtain ⟨bb, offb, rfl, hbb, hcellb⟩ := hrm (by omega)
            have hcb := (hcellb k hkm).up q.below q.size
            have hst : mergeR (l.drop i) (m.drop k) = m[k] :: mergeR (l.drop i) (m.drop (k + 1)) := by rw [List.drop_eq_nil_of_le (by omega : l.length ≤ i), merge_end2 hkm]
            obtain ⟨y, hy⟩ : ∃ r, r = m[k] := ⟨_, rfl⟩
            rw [← hy] at hcb hst
            have HE : Hid ((o ++ [y]) ++ mergeR (l.drop i) (m.drop (k + 1)) = mergeR l m) := by
              have := HR.out; rw [hst] at this; unfold Hid; rw [List.append_assoc]; exact this
            have hkm1 : ((k : Int) == (m.length : Int)) = false := by simp; omega
            have hil1 : ((i : Int) == (l.length : Int)) = true := by simp; omega
            have hil2 : decide ((i : Int) < (l.length : Int)) = false := decide_eq_false (by omega)
            have hil3 : decide (i < l.length) = false := decide_eq_false (by omega)
            have hkm2 : (k : Int) < (m.length : Int) := by omega
            clear hy hcellb hrl hrm hst HR
            have hcb' := hcb
            obtain ⟨d0, d1, d2, d3, d4⟩ := hcb
            go_wp2
            refine wp_region_since0 (by kernel_rfl) (by kernel_rfl) ?_
            repeat (any_goals (first | go_big_quiet_step ((fail)) | (refine wpQuiet_step (fun K hK => ?_); go_simp; split <;> (refine hK _ ?_; clear hK K))))
            all_goals (refine wpQuiet_nil ?_; rintro _ ⟨q1, rfl⟩)
            have B1 : Below w.heap.size w q1.val := q.below.trans (q1.below.mono q.size)
            have HO1 := Lib.hid (ownsRow_below HO.out q1.below)
            clear d0 d1 d2 d3 d4
            obtain ⟨d0, d1, d2, d3, d4⟩ := hcb'.up q1.below q1.size
            obtain ⟨qa, rfl⟩ : ∃ qa, qa = q1 := ⟨_, rfl⟩
            go_wp2
            refine wp_region_since0 (by kernel_rfl) (by kernel_rfl) ?_
            repeat (any_goals (first | go_big_quiet_step ((fail)) | (refine wpQuiet_step (fun K hK => ?_); go_simp; split <;> (refine hK _ ?_; clear hK K))))
            all_goals (refine wpQuiet_nil ?_; rintro _ ⟨q1, rfl⟩)
            have B2 : Below w.heap.size w q1.val := B1.trans (q1.below.mono B1.size)
            have HO2 := Lib.hid (ownsRow_below HO1.out q1.below)
            go_wp2_with (at_builtin; refine wpList_push (w0 := q1.val) rfl _ _ 33 rfl 25 _ 5 40 Tryz.underlying33 infoRow rfl (by decide) (by omega) w.heap.size _ _ _ rfl HO2 #[.int .i64 y.m, .int .i64 y.b, .int .i64 y.s, .int .i64 y.c, .int .i64 y.l] 1 _ rfl (by first | rfl | exact Array.size_push _) rfl (by simp [Value.oneCell']) (by omega) (B2).size rfl rfl rfl rfl ?_; intro v' w3 HO3 hg3 hb3)
            obtain ⟨A3, c3, rfl⟩ := ownsRow_slice HO3.out
            have B3 := (B2).grown hg3 (B2).size (fun j hj => (HO2.out.lt j hj).1)
            have HO4 : Hid (w3.ownsRow w.heap.size 25 5 (.slice A3 (o.length + 1) c3) (o ++ [y]).length ((o ++ [y]).flatMap Row.enc)) := by
              have h3 := HO3.out
              unfold Hid
              rw [List.flatMap_append, List.length_append]
              simpa [Row.enc, addR] using h3
            have hln : (o ++ [y]).length ≤ i + k + 1 := by rw [List.length_append]; simp; omega
            clear hg3 hb3 HO3
            go_wp2
            go_roundw
            case rel => exact ⟨i, k + 1, o ++ [y], by omega, by omega, by go_num, by go_num, hln, HE, HO4, B3⟩
            case measure => simp [intOf]; omega
          · have HE : Hid (o = mergeR l m) := by
              have := HR.out
              rw [List.drop_eq_nil_of_le (by omega : l.length ≤ i), List.drop_eq_nil_of_le (by omega : m.length ≤ k), mergeR, List.append_nil] at this
              exact this
            have hRO := ownsRow_reads HO.out
            have cF := l31Good_any A5 c5 o q.val hRO
            clear hrl hrm
            cases hgo : goodRows o
            · rw [hgo] at cF
              have HN := Lib.hid (HX.out (by rw [← HE.out]; exact hgo))
              clear hgo
              go_wp2_with fail
              refine cF.mono ?_
              rintro e w4 ⟨rfl, hb4⟩
              have k4 := q.below.trans (hb4.mono q.size)
              go_wp2
              go_ret2
              rw [HN.out]
              exact ⟨_, _, rfl, SlcR.nil _ _ _ _, k4.trans ((Below.refl w4.heap.size w4).alloc (Nat.le_refl _) _ |>.mono k4.size)⟩
            · rw [hgo] at cF
              have HN := Lib.hid (HY.out (by rw [← HE.out]; exact hgo))
              clear hgo
              go_wp2_with fail
              refine cF.mono ?_
              rintro e w4 ⟨rfl, hb4⟩
              go_wp2
              go_ret2
              rw [HN.out, ← HE.out]
              exact ⟨A5, c5, rfl, SlcR.then hRO hb4, q.below.trans (hb4.mono q.size)⟩
end Go.Proofs.YtpjfidmapnnbkaaGreatDoor
