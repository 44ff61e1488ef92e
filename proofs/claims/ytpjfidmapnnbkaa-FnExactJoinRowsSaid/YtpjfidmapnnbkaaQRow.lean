/- slices.BinarySearchFunc, Insert at impl.OfficeRow (printed by gen_libq.py). -/
import Derived.Test.YtpjfidmapnnbkaaRowGood
import Derived.Test.YtpjfidmapnnbkaaInts
import Derived.Test.YtpjfidmapnnbkaaSplice
import Derived.StillTailTactics
namespace Go.Proofs.Ytpjfidmapnnbkaa
open Go.RowKit

theorem calls_sinceE {P : Program} {f : FuncId} {args : Array Value} {B : Nat} {w : World} {q : Since B w} {v v' : Value} (hv : Hid (v = v')) (hB : B ≤ w.heap.size)
    (h : Calls P f args q.val fun e w' => e = .returned v ∧ Below q.val.heap.size q.val w') : Calls P f args q.val fun e w' => e = .returned v' ∧ ∃ q' : Since B w, w' = q'.val := by
  have := hv.out; subst this; exact calls_since hB h

set_option maxRecDepth 100000 in
set_option maxHeartbeats 2000000 in
/-- slices.BinarySearchFunc: the first b of the list come before the target, the others do not. -/
theorem bsRow_any (cf : Row → Int) (tg : Row) (g : Nat) (lb : Array Value) (eg : ∀ args w, (callFunc g args).run Try.prog w = .ok (.enter g args) w) (A : Option Addr) (c : Nat) (l : List Row) (w : World)
    (hf : ∀ (t : Row) (p : Since w.heap.size w), Calls Try.prog g (#[t.val, tg.val] ++ lb) p.val fun e w' => e = .returned (.int .i64 (cf t)) ∧ Below p.val.heap.size p.val w') (h : RowsR w w.heap.size A l) (hl : l.length ≤ 1000000)
    (b : Nat) (hb : b ≤ l.length) (hlo : ∀ i (h : i < l.length), i < b → cf l[i] < 0) (hhi : ∀ i (h : i < l.length), b ≤ i → ¬ cf l[i] < 0) (fd : Bool) (hfd : ∀ h : b < l.length, fd = decide (cf l[b] = 0)) (hfd' : b = l.length → fd = false) :
    Calls Try.prog 33 #[.slice A l.length c, tg.val, .func (.func g) #[] lb] w fun e w' => e = .returned (.tuple #[.int .i64 b, .bool fd]) ∧ Below w.heap.size w w' := by
  have b0 := (Below.refl w.heap.size w).alloc (Nat.le_refl _) (.cells #[.int .i64 tg.m, .int .i64 tg.b, .int .i64 tg.s, .int .i64 tg.c, .int .i64 tg.l] 42)
  have hL0 := Lies.new w 42 #[.int .i64 tg.m, .int .i64 tg.b, .int .i64 tg.s, .int .i64 tg.c, .int .i64 tg.l]
  have HC := Lib.hid hf; clear hf
  have HLO := Lib.hid hlo; clear hlo
  have HHI := Lib.hid hhi; clear hhi
  have HFD := Lib.hid hfd; clear hfd
  have HFD' := Lib.hid hfd'; clear hfd'
  go_enter Try.func33, Try.ntmps33
  go_wp2
  have h0 := SlcR.up h b0 (Nat.le_refl _)
  generalize w.alloc (.cells #[.int .i64 tg.m, .int .i64 tg.b, .int .i64 tg.s, .int .i64 tg.c, .int .i64 tg.l] 42) = W at b0 hL0 h0 ⊢
  have hrd := (show RowsR W W.heap.size A l from h0).row
  obtain ⟨d0, d1, d2, d3, d4⟩ := RowS.of (r := tg) hL0
  go_loopw [9, 10] (fun s9 s10 wr => ∃ lo hi : Nat, s9 = .int .i64 lo ∧ s10 = .int .i64 hi ∧ lo ≤ b ∧ b ≤ hi ∧ hi ≤ l.length ∧ (∃ q : Since W.heap.size W, wr = q.val)) (fun s9 s10 _ => (intOf s10).toNat - (intOf s9).toNat)
  case atStart => exact ⟨0, l.length, rfl, rfl, Nat.zero_le _, hb, Nat.le_refl _, Since.start _ _, rfl⟩
  case round =>
    obtain ⟨lo, hi, rfl, rfl, h1, h2, h3, ⟨q, rfl⟩⟩ := hrel
    by_cases hlt : lo < hi
    · have hm : (lo + hi) / 2 < l.length := by omega
      obtain ⟨bb, off, rfl, hbb, hcell⟩ := hrd (by omega)
      obtain ⟨c0, c1, c2, c3, c4⟩ := hcell ((lo + hi) / 2) hm
      have k1 : cf l[(lo + hi) / 2] < 0 → (lo + hi) / 2 + 1 ≤ b := fun hv => by
        rcases Nat.lt_or_ge ((lo + hi) / 2) b with h | h
        · exact h
        · have := HHI.out _ hm h; omega
      have k2 : ¬ cf l[(lo + hi) / 2] < 0 → b ≤ (lo + hi) / 2 := fun hv => by
        rcases Nat.lt_or_ge ((lo + hi) / 2) b with h | h
        · have := HLO.out _ hm h; omega
        · exact h
      obtain ⟨x, hxe⟩ : ∃ x, x = l[(lo + hi) / 2] := ⟨_, rfl⟩
      rw [← hxe] at c0 c1 c2 c3 c4 k1 k2
      have hcx := fun p : Since W.heap.size W => HC.out x ⟨p.val, b0.trans (p.below.mono b0.size)⟩
      obtain ⟨V, hV⟩ : ∃ V, cf x = V := ⟨_, rfl⟩
      have HVV : Hid (Value.int .i64 (cf x) = .int .i64 V) := by rw [hV]; rfl
      rw [hV] at k1 k2
      have hX := Lib.hid hV; clear hV
      clear hxe hcell hrd
      by_cases hv : V < 0
      · have K := k1 hv
        clear k1 k2
        go_wp2
        refine wp_region_since _ (by kernel_rfl) (by kernel_rfl) ?_
        repeat (any_goals (first | go_big_quiet_step ((with_reducible refine calls_sinceE HVV (Nat.le_refl _) (hcx _))) | (refine wpQuiet_step (fun K hK => ?_); go_simp; split <;> (refine hK _ ?_; clear hK K))))
        all_goals (refine wpQuiet_nil ?_; rintro _ ⟨q1, rfl⟩)
        all_goals go_wp2
        go_roundw
        case rel => exact ⟨(lo + hi) / 2 + 1, hi, by go_num, rfl, K, h2, h3, ⟨q1, rfl⟩⟩
        case measure => simp [intOf]; omega
      · have K := k2 hv
        clear k1 k2
        go_wp2
        refine wp_region_since _ (by kernel_rfl) (by kernel_rfl) ?_
        repeat (any_goals (first | go_big_quiet_step ((with_reducible refine calls_sinceE HVV (Nat.le_refl _) (hcx _))) | (refine wpQuiet_step (fun K hK => ?_); go_simp; split <;> (refine hK _ ?_; clear hK K))))
        all_goals (refine wpQuiet_nil ?_; rintro _ ⟨q1, rfl⟩)
        all_goals go_wp2
        go_roundw
        case rel => exact ⟨lo, (lo + hi) / 2, rfl, by go_num, h1, K, by omega, ⟨q1, rfl⟩⟩
        case measure => simp [intOf]; omega
    · obtain rfl : hi = b := by omega
      obtain rfl : lo = hi := by omega
      by_cases hlb : lo < l.length
      · obtain ⟨bb, off, rfl, hbb, hcell⟩ := hrd (by omega)
        obtain ⟨c0, c1, c2, c3, c4⟩ := hcell lo hlb
        have HE := Lib.hid (HFD.out hlb)
        obtain ⟨x, hxe⟩ : ∃ x, x = l[lo] := ⟨_, rfl⟩
        rw [← hxe] at c0 c1 c2 c3 c4 HE
        have hcx := fun p : Since W.heap.size W => HC.out x ⟨p.val, b0.trans (p.below.mono b0.size)⟩
        obtain ⟨V, hV⟩ : ∃ V, cf x = V := ⟨_, rfl⟩
        have HVV : Hid (Value.int .i64 (cf x) = .int .i64 V) := by rw [hV]; rfl
        rw [hV] at HE
        have hX := Lib.hid hV; clear hV
        clear hxe hcell hrd
        by_cases hv : V = 0
        · have hv' : (V == 0) = true := by simp [hv]
          have HV : Hid (fd = true) := by unfold Hid; rw [HE.out, decide_eq_true hv]
          clear hv
          go_wp2
          refine wp_region_since _ (by kernel_rfl) (by kernel_rfl) ?_
          repeat (any_goals (first | go_big_quiet_step ((with_reducible refine calls_sinceE HVV (Nat.le_refl _) (hcx _))) | (refine wpQuiet_step (fun K hK => ?_); go_simp; split <;> (refine hK _ ?_; clear hK K))))
          all_goals (refine wpQuiet_nil ?_; rintro _ ⟨q1, rfl⟩)
          all_goals go_wp2
          go_ret2
          exact ⟨by rw [HV.out]; rfl, b0.trans (q1.below.mono b0.size)⟩
        · have hv' : (V == 0) = false := by simp [hv]
          have HV : Hid (fd = false) := by unfold Hid; rw [HE.out, decide_eq_false hv]
          clear hv
          go_wp2
          refine wp_region_since _ (by kernel_rfl) (by kernel_rfl) ?_
          repeat (any_goals (first | go_big_quiet_step ((with_reducible refine calls_sinceE HVV (Nat.le_refl _) (hcx _))) | (refine wpQuiet_step (fun K hK => ?_); go_simp; split <;> (refine hK _ ?_; clear hK K))))
          all_goals (refine wpQuiet_nil ?_; rintro _ ⟨q1, rfl⟩)
          all_goals go_wp2
          go_ret2
          exact ⟨by rw [HV.out]; rfl, b0.trans (q1.below.mono b0.size)⟩
      · have HV := Lib.hid (HFD'.out (by omega))
        clear hrd
        have hd : decide (lo < l.length) = false := decide_eq_false hlb
        go_wp2
        refine wp_region_since _ (by kernel_rfl) (by kernel_rfl) ?_
        repeat (any_goals (first | go_big_quiet_step ((fail)) | (refine wpQuiet_step (fun K hK => ?_); go_simp; split <;> (refine hK _ ?_; clear hK K))))
        all_goals (refine wpQuiet_nil ?_; rintro _ ⟨q1, rfl⟩)
        all_goals go_wp2
        go_ret2
        exact ⟨by rw [HV.out]; rfl, b0.trans (q1.below.mono b0.size)⟩

theorem row_cells {l : List Row} : ∀ u ∈ l.flatMap Row.enc, u.oneCell' = true := by
  intro u hu
  obtain ⟨r, _, hr⟩ := List.mem_flatMap.1 hu
  simp only [Row.enc, List.mem_cons, List.not_mem_nil, or_false] at hr
  rcases hr with rfl | rfl | rfl | rfl | rfl <;> rfl
/-- slices.Clone. -/
theorem cloneRow_any (A : Option Addr) (c : Nat) (l : List Row) (w : World) (h : RowsR w w.heap.size A l) (hn : l.length ≤ 1000000) :
    Calls Try.prog 32 #[.slice A l.length c] w fun e w' => ∃ A' c', e = .returned (.slice A' l.length c') ∧ w'.ownsRow w.heap.size 42 5 (.slice A' l.length c') l.length (l.flatMap Row.enc) ∧ Below w.heap.size w w' := by
  rcases A with _ | ad
  · have h0 : l.length = 0 := by
      rcases Nat.eq_zero_or_pos l.length with h0 | h0
      · exact h0
      · obtain ⟨_, _, h1, _⟩ := h.at_ h0; cases h1
    obtain rfl : l = [] := List.eq_nil_of_length_eq_zero h0
    have hq := fun W => Lib.run_eql_slice_nil (P := Try.prog) W 24 42 none 0 c 0 0 Try.underlying24
    go_enter Try.func32, Try.ntmps32
    go_wp2_with fail
    go_ret
    exact ⟨none, 0, rfl, ⟨by simp, .inl ⟨rfl, rfl⟩⟩, Below.refl _ _⟩
  · have HO : Hid ((w.alloc (.cells #[] 42)).ownsRow w.heap.size 42 5 (.slice (some ⟨w.heap.size, 0, none⟩) 0 0) 0 []) := owns_empty (Lies.new w 42 #[]) (Nat.le_refl _)
    have b1 := (Below.refl w.heap.size w).alloc (Nat.le_refl _) (.cells #[] 42)
    have HR := Lib.hid (SlcR.below h b1)
    have hq := fun W => Lib.run_eql_slice_nil (P := Try.prog) W 24 42 (some ad) l.length c 0 0 Try.underlying24
    go_enter Try.func32, Try.ntmps32
    go_wp2_with (at_builtin; refine wpList_cat rfl _ _ 24 rfl 42 _ 5 40 Try.underlying24 infoRow rfl (by omega) (by omega) w.heap.size _ 0 [] rfl HO w.heap.size (some ad) l.length c (l.flatMap Row.enc) rfl HR row_cells (by omega) b1.size ?_; intro v' w1 hown _ hb2 _)
    go_ret
    have ho := hown.out
    rw [Nat.zero_add, List.nil_append] at ho
    obtain ⟨A', c', rfl⟩ := ownsRow_slice ho
    exact ⟨A', c', rfl, ho, b1.trans hb2⟩

set_option maxRecDepth 100000 in
set_option maxHeartbeats 4000000 in
/-- slices.Insert of one element at the end. -/
theorem insRow_end (B : Nat) (v : Value) (n : Nat) (xs : List Value) (w : World) (hown : w.ownsRow B 42 5 v n xs) (hn : n ≤ 1000000) (r : Row) (gx cx : Nat) (hx : Lies w gx 42 r.enc) (hB : B ≤ w.heap.size) :
    Calls Try.prog 36 #[v, .int .i64 n, .slice (some ⟨gx, 0, none⟩) 1 cx] w fun e w' => ∃ v', e = .returned v' ∧ w'.ownsRow B 42 5 v' (n + 1) (xs ++ r.enc) ∧ w.grownBy w' v.ownBlock := by
  obtain ⟨i0, hi0, hz0, hzs, hzb⟩ := info_parts infoRow
  obtain ⟨v', w', hrun, h2, h3, _, _⟩ := run_append_own_at (P := Try.prog) w B 24 24 42 i0 _ 5 40 Try.underlying24 hi0 hz0 hzs hzb rfl (by omega) v n xs hown ⟨gx, 0, none⟩ 1 cx r.enc rfl (fun j u hj => by rw [addr_add, Nat.zero_add, hx.cell]; exact hj) (by simp [Row.enc, Value.oneCell']) (by unfold maxLen; omega) (by omega) hB
  have HO := Lib.hid h2; clear h2
  have HG := Lib.hid h3; clear h3
  have HR := Lib.hid hrun; clear hrun
  obtain ⟨_, ⟨rfl, rfl⟩ | ⟨g, cap, cur, rfl, hg, hh, hc, hc', _, _⟩⟩ := hown
  · go_enter Try.func36, Try.ntmps36
    go_wp2_with (at_builtin; refine Lib.wpList_append_run _ rfl _ _ 24 24 rfl _ _ rfl rfl v' w' HR.out ?_)
    go_ret
    exact ⟨v', rfl, HO.out, HG.out⟩
  · have hc2 : cap ≤ 9223372036854775807 := by unfold maxLen at hc'; omega
    clear hc'
    by_cases hcn : cap = n
    all_goals
      go_enter Try.func36, Try.ntmps36
      go_wp2_with (at_builtin; refine Lib.wpList_append_run _ rfl _ _ 24 24 rfl _ _ rfl rfl v' w' HR.out ?_)
      go_ret
      exact ⟨v', rfl, HO.out, HG.out⟩

set_option maxRecDepth 100000 in
set_option maxHeartbeats 4000000 in
/-- slices.Insert of one element, no room: a new row. -/
theorem insRow_grow (B g n : Nat) (cur : Array Value) (xs : List Value) (w : World) (hL : Lies w g 42 cur.toList) (hcs : cur.size = n * 5) (hcur : cur.toList.take (n * 5) = xs) (i : Nat) (hi : i < n) (hn : n ≤ 1000000) (r : Row) (gx cx : Nat) (hx : Lies w gx 42 r.enc) (hB : B ≤ w.heap.size) (h1 : ∀ u ∈ xs, u.oneCell' = true) :
    Calls Try.prog 36 #[.slice (some ⟨g, 0, none⟩) n n, .int .i64 i, .slice (some ⟨gx, 0, none⟩) 1 cx] w fun e w' => ∃ v', e = .returned v' ∧ w'.ownsRow B 42 5 v' (n + 1) (xs.take (i * 5) ++ r.enc ++ xs.drop (i * 5)) ∧ w.grownBy w' (some g) := by
  have mixed : Try.prog.follows .mixedOrders = true := by kernel_rfl
  obtain ⟨i0, hi0, hz0, hzs, hzb⟩ := info_parts infoRow
  have hxl : xs.length = n * 5 := by rw [← hcur, List.length_take, Array.length_toList, hcs, Nat.min_self]
  have hik : i * 5 ≤ n * 5 := Nat.mul_le_mul_right _ (by omega)
  have hsz : (Try.prog.info? 42).map (·.size) = some 5 := by rw [hi0]; simp [hzs]
  have hkk : (n : Int) + 1 - (i : Int) = ((n + 1 - i : Nat) : Int) := by omega
  have hik2 : i + (n + 1 - i) = n + 1 := by omega
  have hcell : ∀ j u, xs[j]? = some u → w.cell? ⟨g, j, none⟩ = some u := fun j u hu => by
    rw [hL.cell]
    rw [← hcur, List.getElem?_take] at hu
    split at hu
    · exact hu
    · cases hu
  have hold : (Builtin.firstCells i0.size i (.slice (some ⟨g, 0, none⟩) i n)).run Try.prog w.drew = .ok (xs.take (i * 5)).toArray w.drew := by
    rw [hzs]
    exact run_firstCells_some w.drew 5 i ⟨g, 0, none⟩ i n (xs.take (i * 5)) (by rw [List.length_take]; omega) (fun j u hj => by
      rw [addr_add, Nat.zero_add]
      rw [List.getElem?_take] at hj
      split at hj
      · exact hcell j u hj
      · cases hj)
  have hrz := Lib.run_append_grow_zeros (P := Try.prog) w 24 3 24 42 i0 _ .i64 .i64 Try.underlying24 Try.underlying3 hi0 hz0 (some ⟨g, 0, none⟩) i n (xs.take (i * 5)) hold (n + 1 - i) (by omega) (by omega) (by omega) (by omega) (by rw [hzb]; omega) (by rw [hzb, hik2]; exact growslice_fits (by omega) (by omega))
  rw [hik2, ← hkk] at hrz
  obtain ⟨G, hG⟩ : ∃ G, G = grownCap w (n + 1) n 42 := ⟨_, rfl⟩
  have hGn : n + 1 ≤ G := by rw [hG]; exact grownCap_ge w _ _ _
  have hG63 : G ≤ maxLen := by rw [hG]; exact grownCap_le_maxLen w (n + 1) n 42 (by unfold maxLen; omega)
  have hG64 : G ≤ 9223372036854775807 := by unfold maxLen at hG63; omega
  rw [← hG] at hrz
  obtain ⟨Z, hZ⟩ : ∃ Z : List Value, Z = (Builtin.zeroCells (Value.agg #[.int .i64 0, .int .i64 0, .int .i64 0, .int .i64 0, .int .i64 0]).cells (n + 1 - i) ++ Builtin.zeroCells (Value.agg #[.int .i64 0, .int .i64 0, .int .i64 0, .int .i64 0, .int .i64 0]).cells (G - (n + 1))).toList := ⟨_, rfl⟩
  have hZl : Z.length = (n + 1 - i) * 5 + (G - (n + 1)) * 5 := by rw [hZ, Array.length_toList, Array.size_append, size_zeroCells, size_zeroCells]; rfl
  obtain ⟨ROW, hROW⟩ : ∃ ROW : Array Value, ROW = (xs.take (i * 5)).toArray ++ Builtin.zeroCells (Value.agg #[.int .i64 0, .int .i64 0, .int .i64 0, .int .i64 0, .int .i64 0]).cells (n + 1 - i) ++ Builtin.zeroCells (Value.agg #[.int .i64 0, .int .i64 0, .int .i64 0, .int .i64 0, .int .i64 0]).cells (G - (n + 1)) := ⟨_, rfl⟩
  have hRl : ROW.toList = xs.take (i * 5) ++ Z := by rw [hROW, hZ]; simp
  rw [← hROW] at hrz
  clear hROW hZ hG hold hcs hcur
  obtain ⟨W1, hW1⟩ : ∃ W1, W1 = w.drew.alloc (.cells ROW 42) := ⟨_, rfl⟩
  rw [← hW1] at hrz
  have LN : Lies W1 w.heap.size 42 (xs.take (i * 5) ++ Z) := by rw [hW1, ← hRl]; exact Lies.new w.drew 42 ROW
  have hb1 : Below w.heap.size w W1 := by rw [hW1]; exact ((Below.refl w.heap.size w).drew).alloc (Nat.le_refl _) _
  have hLg : g < w.heap.size := hL.lt
  have hLx : gx < w.heap.size := hx.lt
  clear hW1 hRl ROW
  have hlen : (xs.take (i * 5) ++ Z).length = G * 5 := by
    rw [List.length_append, List.length_take, hZl, hxl, Nat.min_eq_left hik, ← Nat.add_mul, ← Nat.add_mul]; congr 1; omega
  have hGk : (n + 1) * 5 ≤ G * 5 := Nat.mul_le_mul_right _ hGn
  have hnk : (n + 1) * 5 = n * 5 + 5 := Nat.succ_mul n 5
  have HL0 := Lib.hid LN; clear LN
  have HF0 : Hid (i * 5 + r.enc.length ≤ (xs.take (i * 5) ++ Z).length) := by unfold Hid; rw [Row.enc_len, hlen]; omega
  have HX1 : Hid (∀ j v, r.enc[j]? = some v → W1.cell? ((⟨gx, 0, none⟩ : Addr).add j) = some v) := fun j u hj => by rw [addr_add, Nat.zero_add, (hx.below hb1 hLx).cell]; exact hj
  have HE1 : Hid (∀ v ∈ r.enc, v.oneCell' = true) := by unfold Hid; simp [Row.enc, Value.oneCell']
  have HE2 : Hid (∀ v ∈ xs.drop (i * 5), v.oneCell' = true) := fun v hv => h1 v (List.mem_of_mem_drop hv)
  have HC : Hid (∀ j u, xs[j]? = some u → W1.cell? ⟨g, j, none⟩ = some u) := fun j u hu => (hb1.cell hLg).trans (hcell j u hu)
  have HLn : Hid ((xs.take (i * 5) ++ Z).length = G * 5) := hlen
  have HXL := Lib.hid hxl
  have HDL : Hid ((xs.drop (i * 5)).length = (n - i) * 5) := by unfold Hid; rw [List.length_drop, hxl, Nat.sub_mul]
  have hGi : ¬ (G = i) := by omega
  have hGi1 : ¬ (G = i + 1) := by omega
  have hni : ¬ (n = i) := by omega
  have hz2 : ¬ ((i : Int) = (n : Int)) := by omega
  have hz3 : (n : Int) < (n : Int) + 1 := by omega
  have hmin1 : Nat.min 1 (n + 1 - i) = 1 := by simp only [Nat.min_def]; split <;> omega
  have hmin2 : Nat.min (n - i) (n - i) = n - i := Nat.min_self _
  have hw1 : IntKind.i64.wrap ((i : Int) + 1) = (i : Int) + 1 := by rw [IntKind.wrap_i64]; omega
  have hb1' : (0 : Int) ≤ (i : Int) + 1 := by omega
  have hin : i ≤ n := by omega
  have HR := hrz
  clear hrz hcell hL h1 hx hlen hxl hik2 hkk hsz
  go_enter Try.func36, Try.ntmps36
  go_wp2_with (first
    | (at_builtin; refine Lib.wpList_append_run _ rfl _ _ 24 3 rfl _ _ rfl rfl _ _ HR ?_)
    | (with_reducible show wpList _ _ _ (Oper.mk (some 45) _ _ _ _ _ :: _) _ _; refine wpList_copy_own rfl _ _ 24 rfl 42 42 5 w.heap.size (i * 5) (n + 1 - i) (G - i) ⟨gx, 0, none⟩ 1 cx 1 r.enc _ rfl rfl Try.underlying24 ?u1 ?u2 (by rw [Row.enc_len]) HL0 HF0 HX1 HE1 ?_; rotate_right; intro W2 HL2 hg2))
  case u1 => rw [hi0]; simp [hzs]
  case u2 => exact hmin1
  have hWs : w.heap.size ≤ W1.heap.size := hb1.size
  have hW1g : w.heap.size < W1.heap.size := HL0.out.lt
  have LG2 : ∀ j u, xs[j]? = some u → W2.cell? ⟨g, j, none⟩ = some u := fun j u hu => (grown_cell hg2 ⟨g, j, none⟩ (by simp only; omega) (by simp only; intro e; injection e with e; omega)).trans (HC.out j u hu)
  have HL2' : Hid (Lies W2.drew w.heap.size 42 (splice (xs.take (i * 5) ++ Z) (i * 5) r.enc)) := HL2.out.drew
  have HF2 : Hid ((i + 1) * 5 + (xs.drop (i * 5)).length ≤ (splice (xs.take (i * 5) ++ Z) (i * 5) r.enc).length) := by
    unfold Hid
    rw [splice_len _ _ _ HF0.out, HLn.out, HDL.out, ← Nat.add_mul]
    exact Nat.mul_le_mul_right _ (by omega)
  have HX2 : Hid (∀ j v, (xs.drop (i * 5))[j]? = some v → W2.drew.cell? ((⟨g, i * 5, none⟩ : Addr).add j) = some v) := fun j u hj => by
    rw [addr_add]; exact LG2 _ u (by rwa [List.getElem?_drop] at hj)
  clear LG2 HX1
  go_still_tail 8, (by kernel_rfl)
  change wpList _ _ _ _ _ W2.drew
  go_wp2_with (with_reducible show wpList _ _ _ (Oper.mk (some 54) _ _ _ _ _ :: _) _ _; refine wpList_copy_own rfl _ _ 24 rfl 42 42 5 w.heap.size ((i + 1) * 5) (n - i) (G - (i + 1)) ⟨g, i * 5, none⟩ (n - i) (n - i) (n - i) (xs.drop (i * 5)) _ rfl rfl Try.underlying24 ?v3 hmin2 HDL.out HL2' HF2 HX2 HE2 ?_; rotate_right; intro W3 HL3 hg3)
  case v3 => rw [hi0]; simp [hzs]
  go_ret
  have hw3 : Below w.heap.size w W3 := ((hb1.grown hg2 hWs (by rintro _ ⟨⟩; exact Nat.le_refl _)).drew).grown hg3 (by have := hg2.size; simp; omega) (by rintro _ ⟨⟩; exact Nat.le_refl _)
  refine ⟨_, rfl, ⟨?_, .inr ⟨w.heap.size, G, (splice (splice (xs.take (i * 5) ++ Z) (i * 5) r.enc) ((i + 1) * 5) (xs.drop (i * 5))).toArray, rfl, hB, HL3.out, hGn, hG63, ?_, ?_⟩⟩, ⟨hw3.os, hw3.tape, hw3.output, hw3.size, fun j hj _ => hw3.block j hj⟩⟩
  · rw [List.length_append, List.length_append, List.length_take, Row.enc_len, HDL.out, HXL.out, Nat.sub_mul]; omega
  · rw [List.size_toArray, splice_len _ _ _ HF2.out, splice_len _ _ _ HF0.out, HLn.out]
  · show List.take _ (splice _ _ _) = _
    exact splice_grow xs r.enc Z i 5 n (Row.enc_len r) HXL.out hin (by rw [hZl, ← Nat.add_mul, ← Nat.add_mul]; exact Nat.mul_le_mul_right _ (by omega))

set_option maxRecDepth 100000 in
set_option maxHeartbeats 4000000 in
/-- slices.Insert of one element, with room: in place. -/
theorem insRow_room (B g n cap : Nat) (cur : Array Value) (xs : List Value) (w : World) (hL : Lies w g 42 cur.toList) (hcs : cur.size = cap * 5) (hroom : n + 1 ≤ cap) (hcm : cap ≤ maxLen) (hcur : cur.toList.take (n * 5) = xs) (i : Nat) (hi : i < n) (hn : n ≤ 1000000) (r : Row) (gx cx : Nat) (hx : Lies w gx 42 r.enc) (hne : gx ≠ g) (hB : B ≤ g) (h1 : ∀ u ∈ xs, u.oneCell' = true) :
    Calls Try.prog 36 #[.slice (some ⟨g, 0, none⟩) n cap, .int .i64 i, .slice (some ⟨gx, 0, none⟩) 1 cx] w fun e w' => ∃ v', e = .returned v' ∧ w'.ownsRow B 42 5 v' (n + 1) (xs.take (i * 5) ++ r.enc ++ xs.drop (i * 5)) ∧ w.grownBy w' (some g) := by
  have mixed : Try.prog.follows .mixedOrders = true := by kernel_rfl
  obtain ⟨i0, hi0, hz0, hzs, hzb⟩ := info_parts infoRow
  have hnk : n * 5 ≤ cap * 5 := Nat.mul_le_mul_right _ (by omega)
  have hnk1 : (n + 1) * 5 ≤ cap * 5 := Nat.mul_le_mul_right _ hroom
  have hcl : cur.toList.length = cap * 5 := by rw [Array.length_toList, hcs]
  have hxl : xs.length = n * 5 := by rw [← hcur, List.length_take, hcl]; omega
  have hik : i * 5 ≤ n * 5 := Nat.mul_le_mul_right _ (by omega)
  have hcell : ∀ j u, xs[j]? = some u → w.cell? ⟨g, j, none⟩ = some u := fun j u hu => by
    rw [hL.cell]
    rw [← hcur, List.getElem?_take] at hu
    split at hu
    · exact hu
    · cases hu
  have hov : ∀ ob lb cb, (callFunc 51 #[.slice (some ⟨gx, 0, none⟩) 1 cx, .slice (some ⟨g, ob, none⟩) lb cb]).run Try.prog w = .ok (.value (.bool false)) w := fun ob lb cb =>
    run_overlaps_own w 51 Try.f51 24 4 42 (by kernel_rfl) (by kernel_rfl) (by kernel_rfl) (by kernel_rfl) (by kernel_rfl) Try.underlying24 5 Try.sizeOf42 gx g 0 ob 1 cx lb cb hne _ _ _ _ hx hL (by rw [hcl]; omega)
  have hc63 : cap ≤ 9223372036854775807 := by unfold maxLen at hcm; omega
  have HL0 := Lib.hid hL
  have HE1 : Hid (∀ v ∈ r.enc, v.oneCell' = true) := by unfold Hid; simp [Row.enc, Value.oneCell']
  have HE2 : Hid (∀ v ∈ xs.drop (i * 5), v.oneCell' = true) := fun v hv => h1 v (List.mem_of_mem_drop hv)
  have HXL := Lib.hid hxl
  have HCL := Lib.hid hcl
  have HCU := Lib.hid hcur
  have HCM := Lib.hid hcm
  have HDL : Hid ((xs.drop (i * 5)).length = (n - i) * 5) := by unfold Hid; rw [List.length_drop, hxl, Nat.sub_mul]
  have HFA : Hid ((i + 1) * 5 + (xs.drop (i * 5)).length ≤ cur.toList.length) := by
    unfold Hid; rw [HDL.out, hcl, ← Nat.add_mul]; exact Nat.mul_le_mul_right _ (by omega)
  have HXA : Hid (∀ j v, (xs.drop (i * 5))[j]? = some v → w.drew.cell? ((⟨g, i * 5, none⟩ : Addr).add j) = some v) := fun j u hj => by
    rw [addr_add]; exact hcell _ u (by rwa [List.getElem?_drop] at hj)
  have HLA : Hid (Lies w.drew g 42 cur.toList) := hL.drew
  have hxlt : gx < w.heap.size := hx.lt
  have HX := Lib.hid hx
  have hz1 : ¬ ((i : Int) = (n : Int)) := by omega
  have hz2 : ¬ ((cap : Int) < (n : Int) + 1) := by omega
  have hci : ¬ (cap = i) := by omega
  have hci1 : ¬ (cap = i + 1) := by omega
  have hin : i ≤ n := by omega
  have hin1 : i ≤ n + 1 := by omega
  have hint : (i : Int) ≤ (n : Int) + 1 := by omega
  have hw1 : IntKind.i64.wrap ((i : Int) + 1) = (i : Int) + 1 := by rw [IntKind.wrap_i64]; omega
  have hb1' : (0 : Int) ≤ (i : Int) + 1 := by omega
  have hmin2 : Nat.min (n + 1 - i) (n - i) = n - i := by simp only [Nat.min_def]; split <;> omega
  have hmin1 : Nat.min 1 (n + 1 - i) = 1 := by simp only [Nat.min_def]; split <;> omega
  clear hcl hcur hcs hxl hL hx hcell h1 hcm
  go_enter Try.func36, Try.ntmps36
  go_wp2_with (simp only [hov])
  go_still_tail 8, (by kernel_rfl)
  change wpList _ _ _ _ _ w.drew
  go_wp2_with (first
    | (with_reducible show wpList _ _ _ (Oper.mk (some 77) _ _ _ _ _ :: _) _ _; refine wpList_copy_own rfl _ _ 24 rfl 42 42 5 g ((i + 1) * 5) (n - i) (cap - (i + 1)) ⟨g, i * 5, none⟩ (n + 1 - i) (cap - i) (n - i) (xs.drop (i * 5)) _ rfl rfl Try.underlying24 ?v3 hmin2 HDL.out HLA HFA HXA HE2 ?_; rotate_right; intro W2 HL2 hg2)
    | (with_reducible show wpList _ _ _ (Oper.mk (some 82) _ _ _ _ _ :: _) _ _; refine wpList_copy_own rfl _ _ 24 rfl 42 42 5 g (i * 5) (n + 1 - i) (cap - i) ⟨gx, 0, none⟩ 1 cx 1 r.enc _ rfl rfl Try.underlying24 ?v4 hmin1 ?v5 HL2 ?v6 ?v7 HE1 ?_; rotate_right; intro W3 HL3 hg3))
  case v3 => rw [hi0]; simp [hzs]
  case v4 => rw [hi0]; simp [hzs]
  case v5 => rw [Row.enc_len]
  case v6 => unfold Hid; rw [splice_len _ _ _ HFA.out, HCL.out, Row.enc_len]; omega
  case v7 => exact fun j u hj => by rw [addr_add, Nat.zero_add, (grown_cell hg2 ⟨gx, j, none⟩ hxlt (by simp only; intro e; injection e with e; exact hne e)), HX.out.drew.cell]; exact hj
  have HF6 : Hid (i * 5 + r.enc.length ≤ (splice cur.toList ((i + 1) * 5) (xs.drop (i * 5))).length) := by unfold Hid; rw [splice_len _ _ _ HFA.out, HCL.out, Row.enc_len]; omega
  go_ret
  have e1 : (i + 1) * 5 = i * 5 + 5 := Nat.succ_mul i 5
  refine ⟨_, rfl, ⟨?_, .inr ⟨g, cap, (splice (splice cur.toList ((i + 1) * 5) (xs.drop (i * 5))) (i * 5) r.enc).toArray, rfl, hB, HL3.out, hroom, HCM.out, ?_, ?_⟩⟩, ?_⟩
  · rw [List.length_append, List.length_append, List.length_take, Row.enc_len, HDL.out, HXL.out, Nat.sub_mul]; omega
  · rw [List.size_toArray, splice_len _ _ _ HF6.out, splice_len _ _ _ HFA.out, HCL.out]
  · show List.take _ (splice _ _ _) = _
    rw [e1]
    exact splice_insert cur.toList xs r.enc i 5 n (Row.enc_len r) HXL.out hin HCU.out (by rw [HCL.out]; exact hnk1)
  · exact ⟨hg3.os.trans hg2.os, hg3.tape.trans hg2.tape, hg3.output.trans hg2.output, Nat.le_trans hg2.size hg3.size, fun j hj hq => (hg3.block j (Nat.lt_of_lt_of_le hj hg2.size) hq).trans (hg2.block j hj hq)⟩

/-- slices.Insert of one element, wherever. -/
theorem insRow_any (B : Nat) (v : Value) (n : Nat) (xs : List Value) (w : World) (hown : w.ownsRow B 42 5 v n xs) (hn : n ≤ 1000000) (i : Nat) (hi : i ≤ n) (r : Row) (gx cx : Nat) (hx : Lies w gx 42 r.enc) (hne : v.ownBlock ≠ some gx) (hB : B ≤ w.heap.size) (h1 : ∀ u ∈ xs, u.oneCell' = true) :
    Calls Try.prog 36 #[v, .int .i64 i, .slice (some ⟨gx, 0, none⟩) 1 cx] w fun e w' => ∃ v', e = .returned v' ∧ w'.ownsRow B 42 5 v' (n + 1) (xs.take (i * 5) ++ r.enc ++ xs.drop (i * 5)) ∧ w.grownBy w' v.ownBlock := by
  rcases Nat.lt_or_ge i n with hlt | hge
  · obtain ⟨hl, ⟨rfl, rfl⟩ | ⟨g, cap, cur, rfl, hg, hh, hc, hc', hcs, hct⟩⟩ := hown
    · omega
    · by_cases hcn : cap = n
      · subst hcn
        exact insRow_grow B g cap cur xs w hh hcs hct i hlt hn r gx cx hx hB h1
      · exact insRow_room B g n cap cur xs w hh hcs (by omega) hc' hct i hlt hn r gx cx hx (fun e => hne (by rw [e]; rfl)) hg h1
  · have e : i = n := by omega
    subst e
    have hl := hown.1
    rw [List.take_of_length_le (by omega), List.drop_eq_nil_of_le (by omega), List.append_nil]
    exact insRow_end B v i xs w hown hn r gx cx hx hB

end Go.Proofs.Ytpjfidmapnnbkaa
