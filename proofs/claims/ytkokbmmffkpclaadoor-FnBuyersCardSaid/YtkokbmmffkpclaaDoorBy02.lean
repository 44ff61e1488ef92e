/- By02: the texts QLot ASt LotOk LotOkS, joined into one file. -/
import Derived.StillTailTactics
import Derived.Test.YtkokbmmffkpclaaDoorBy01

set_option linter.unusedVariables false

/- slices.BinarySearchFunc, Insert, Delete at impl.SaleLot (printed by gen_libq.py). -/
namespace Go.Proofs.YtkokbmmffkpclaaDoor
open Go.RowKit

set_option maxRecDepth 100000 in
set_option maxHeartbeats 2000000 in
/-- slices.BinarySearchFunc: the first b of the list come before the target, the others do not. -/
theorem bsLot_any (cf : Lot → Int) (tv : Value) (g : Nat) (lb : Array Value) (eg : ∀ args w, (callFunc g args).run Tryd.prog w = .ok (.enter g args) w) (A : Option Addr) (c : Nat) (l : List Lot) (w : World)
    (hf : ∀ (t : Lot) (p : Since w.heap.size w), Calls Tryd.prog g (#[t.val, tv] ++ lb) p.val fun e w' => e = .returned (.int .i64 (cf t)) ∧ Below p.val.heap.size p.val w') (h : LotsR w w.heap.size A l) (hl : l.length ≤ 1000000)
    (b : Nat) (hb : b ≤ l.length) (hlo : ∀ i (h : i < l.length), i < b → cf l[i] < 0) (hhi : ∀ i (h : i < l.length), b ≤ i → ¬ cf l[i] < 0) (fd : Bool) (hfd : ∀ h : b < l.length, fd = decide (cf l[b] = 0)) (hfd' : b = l.length → fd = false) :
    Calls Tryd.prog 48 #[.slice A l.length c, tv, .func (.func g) #[] lb] w fun e w' => e = .returned (.tuple #[.int .i64 b, .bool fd]) ∧ Below w.heap.size w w' := by
  have hrd := h.el
  have HC := Lib.hid hf; clear hf
  have HLO := Lib.hid hlo; clear hlo
  have HHI := Lib.hid hhi; clear hhi
  have HFD := Lib.hid hfd; clear hfd
  have HFD' := Lib.hid hfd'; clear hfd'
  go_enter Tryd.func48, Tryd.ntmps48
  go_wp2
  go_loopw [9, 10] (fun s9 s10 wr => ∃ lo hi : Nat, s9 = .int .i64 lo ∧ s10 = .int .i64 hi ∧ lo ≤ b ∧ b ≤ hi ∧ hi ≤ l.length ∧ (∃ q : Since w.heap.size w, wr = q.val)) (fun s9 s10 _ => (intOf s10).toNat - (intOf s9).toNat)
  case atStart => exact ⟨0, l.length, rfl, rfl, Nat.zero_le _, hb, Nat.le_refl _, Since.start _ _, rfl⟩
  case round =>
    obtain ⟨lo, hi, rfl, rfl, h1, h2, h3, ⟨q, rfl⟩⟩ := hrel
    by_cases hlt : lo < hi
    · have hm : (lo + hi) / 2 < l.length := by omega
      obtain ⟨bb, off, rfl, hbb, hcell⟩ := hrd (by omega)
      obtain ⟨c0, c1, c2, c3, c4⟩ := hcell ((lo + hi) / 2) hm
      have k1 : cf l[(lo + hi) / 2] < 0 → (lo + hi) / 2 + 1 ≤ b := fun hv => by
        rcases Nat.lt_or_ge ((lo + hi) / 2) b with h | h
        · exact h
        · have := HHI.out _ hm h; omega
      have k2 : ¬ cf l[(lo + hi) / 2] < 0 → b ≤ (lo + hi) / 2 := fun hv => by
        rcases Nat.lt_or_ge ((lo + hi) / 2) b with h | h
        · have := HLO.out _ hm h; omega
        · exact h
      obtain ⟨x, hxe⟩ : ∃ x, x = l[(lo + hi) / 2] := ⟨_, rfl⟩
      rw [← hxe] at c0 c1 c2 c3 c4 k1 k2
      have hcx := fun p => HC.out x p
      clear hxe hcell hrd
      by_cases hv : cf x < 0
      · have K := k1 hv
        clear k1 k2
        go_wp2_with fail
        refine (calls_since (Nat.le_refl _) (hcx _)).mono ?_
        rintro e w1 ⟨rfl, q1, rfl⟩
        go_wp2
        go_roundw
        case rel => exact ⟨(lo + hi) / 2 + 1, hi, by go_num, rfl, K, h2, h3, ⟨q1, rfl⟩⟩
        case measure => simp [intOf]; omega
      · have K := k2 hv
        clear k1 k2
        go_wp2_with fail
        refine (calls_since (Nat.le_refl _) (hcx _)).mono ?_
        rintro e w1 ⟨rfl, q1, rfl⟩
        go_wp2
        go_roundw
        case rel => exact ⟨lo, (lo + hi) / 2, rfl, by go_num, h1, K, by omega, ⟨q1, rfl⟩⟩
        case measure => simp [intOf]; omega
    · obtain rfl : hi = b := by omega
      obtain rfl : lo = hi := by omega
      by_cases hlb : lo < l.length
      · obtain ⟨bb, off, rfl, hbb, hcell⟩ := hrd (by omega)
        obtain ⟨c0, c1, c2, c3, c4⟩ := hcell lo hlb
        have HE := Lib.hid (HFD.out hlb)
        obtain ⟨x, hxe⟩ : ∃ x, x = l[lo] := ⟨_, rfl⟩
        rw [← hxe] at c0 c1 c2 c3 c4 HE
        have hcx := fun p => HC.out x p
        clear hxe hcell hrd
        by_cases hv : cf x = 0
        · have hv' : (cf x == 0) = true := by simp [hv]
          have HV : Hid (fd = true) := by unfold Hid; rw [HE.out, decide_eq_true hv]
          clear hv
          go_wp2_with fail
          refine (calls_since (Nat.le_refl _) (hcx _)).mono ?_
          rintro e w1 ⟨rfl, q1, rfl⟩
          go_wp2
          go_ret2
          exact ⟨by rw [HV.out]; rfl, q1.below⟩
        · have hv' : (cf x == 0) = false := by simp [hv]
          have HV : Hid (fd = false) := by unfold Hid; rw [HE.out, decide_eq_false hv]
          clear hv
          go_wp2_with fail
          refine (calls_since (Nat.le_refl _) (hcx _)).mono ?_
          rintro e w1 ⟨rfl, q1, rfl⟩
          go_wp2
          go_ret2
          exact ⟨by rw [HV.out]; rfl, q1.below⟩
      · have HV := Lib.hid (HFD'.out (by omega))
        clear hrd
        go_wp2
        go_ret2
        exact ⟨by rw [HV.out]; rfl, q.below⟩

theorem lot_cells {l : List Lot} : ∀ u ∈ l.flatMap Lot.enc, u.oneCell' = true := by
  intro u hu
  obtain ⟨r, _, hr⟩ := List.mem_flatMap.1 hu
  simp only [Lot.enc, List.mem_cons, List.not_mem_nil, or_false] at hr
  rcases hr with rfl | rfl | rfl | rfl | rfl <;> rfl
/-- slices.Clone. -/
theorem cloneLot_any (A : Option Addr) (c : Nat) (l : List Lot) (w : World) (h : LotsR w w.heap.size A l) (hn : l.length ≤ 1000000) :
    Calls Tryd.prog 47 #[.slice A l.length c] w fun e w' => ∃ A' c', e = .returned (.slice A' l.length c') ∧ w'.ownsRow w.heap.size 41 5 (.slice A' l.length c') l.length (l.flatMap Lot.enc) ∧ Below w.heap.size w w' := by
  rcases A with _ | ad
  · have h0 : l.length = 0 := by
      rcases Nat.eq_zero_or_pos l.length with h0 | h0
      · exact h0
      · obtain ⟨_, _, h1, _⟩ := h.at_ h0; cases h1
    obtain rfl : l = [] := List.eq_nil_of_length_eq_zero h0
    have hq := fun W => Lib.run_eql_slice_nil (P := Tryd.prog) W 24 41 none 0 c 0 0 Tryd.underlying24
    go_enter Tryd.func47, Tryd.ntmps47
    go_wp2_with fail
    go_ret
    exact ⟨none, 0, rfl, ⟨by simp, .inl ⟨rfl, rfl⟩⟩, Below.refl _ _⟩
  · have HO : Hid ((w.alloc (.cells #[] 41)).ownsRow w.heap.size 41 5 (.slice (some ⟨w.heap.size, 0, none⟩) 0 0) 0 []) := owns_empty (Lies.new w 41 #[]) (Nat.le_refl _)
    have b1 := (Below.refl w.heap.size w).alloc (Nat.le_refl _) (.cells #[] 41)
    have HR := Lib.hid (SlcR.below h b1)
    have hq := fun W => Lib.run_eql_slice_nil (P := Tryd.prog) W 24 41 (some ad) l.length c 0 0 Tryd.underlying24
    go_enter Tryd.func47, Tryd.ntmps47
    go_wp2_with (at_builtin; refine wpList_cat rfl _ _ 24 rfl 41 _ 5 40 Tryd.underlying24 infoLot rfl (by omega) (by omega) w.heap.size _ 0 [] rfl HO w.heap.size (some ad) l.length c (l.flatMap Lot.enc) rfl HR lot_cells (by omega) b1.size ?_; intro v' w1 hown _ hb2 _)
    go_ret
    have ho := hown.out
    rw [Nat.zero_add, List.nil_append] at ho
    obtain ⟨A', c', rfl⟩ := ownsRow_slice ho
    exact ⟨A', c', rfl, ho, b1.trans hb2⟩

set_option maxRecDepth 100000 in
set_option maxHeartbeats 4000000 in
/-- slices.Insert of one element at the end. -/
theorem insLot_end (B : Nat) (v : Value) (n : Nat) (xs : List Value) (w : World) (hown : w.ownsRow B 41 5 v n xs) (hn : n ≤ 1000000) (r : Lot) (gx cx : Nat) (hx : Lies w gx 41 r.enc) (hB : B ≤ w.heap.size) :
    Calls Tryd.prog 51 #[v, .int .i64 n, .slice (some ⟨gx, 0, none⟩) 1 cx] w fun e w' => ∃ v', e = .returned v' ∧ w'.ownsRow B 41 5 v' (n + 1) (xs ++ r.enc) ∧ w.grownBy w' v.ownBlock := by
  obtain ⟨i0, hi0, hz0, hzs, hzb⟩ := info_parts infoLot
  obtain ⟨v', w', hrun, h2, h3, _, _⟩ := run_append_own_at (P := Tryd.prog) w B 24 24 41 i0 _ 5 40 Tryd.underlying24 hi0 hz0 hzs hzb rfl (by omega) v n xs hown ⟨gx, 0, none⟩ 1 cx r.enc rfl (fun j u hj => by rw [addr_add, Nat.zero_add, hx.cell]; exact hj) (by simp [Lot.enc, Value.oneCell']) (by unfold maxLen; omega) (by omega) hB
  have HO := Lib.hid h2; clear h2
  have HG := Lib.hid h3; clear h3
  have HR := Lib.hid hrun; clear hrun
  obtain ⟨_, ⟨rfl, rfl⟩ | ⟨g, cap, cur, rfl, hg, hh, hc, hc', _, _⟩⟩ := hown
  · go_enter Tryd.func51, Tryd.ntmps51
    go_wp2_with (at_builtin; refine Lib.wpList_append_run _ rfl _ _ 24 24 rfl _ _ rfl rfl v' w' HR.out ?_)
    go_ret
    exact ⟨v', rfl, HO.out, HG.out⟩
  · have hc2 : cap ≤ 9223372036854775807 := by unfold maxLen at hc'; omega
    clear hc'
    by_cases hcn : cap = n
    all_goals
      go_enter Tryd.func51, Tryd.ntmps51
      go_wp2_with (at_builtin; refine Lib.wpList_append_run _ rfl _ _ 24 24 rfl _ _ rfl rfl v' w' HR.out ?_)
      go_ret
      exact ⟨v', rfl, HO.out, HG.out⟩

set_option maxRecDepth 100000 in
set_option maxHeartbeats 4000000 in
/-- slices.Insert of one element, no room: a new row. -/
theorem insLot_grow (B g n : Nat) (cur : Array Value) (xs : List Value) (w : World) (hL : Lies w g 41 cur.toList) (hcs : cur.size = n * 5) (hcur : cur.toList.take (n * 5) = xs) (i : Nat) (hi : i < n) (hn : n ≤ 1000000) (r : Lot) (gx cx : Nat) (hx : Lies w gx 41 r.enc) (hB : B ≤ w.heap.size) (h1 : ∀ u ∈ xs, u.oneCell' = true) :
    Calls Tryd.prog 51 #[.slice (some ⟨g, 0, none⟩) n n, .int .i64 i, .slice (some ⟨gx, 0, none⟩) 1 cx] w fun e w' => ∃ v', e = .returned v' ∧ w'.ownsRow B 41 5 v' (n + 1) (xs.take (i * 5) ++ r.enc ++ xs.drop (i * 5)) ∧ w.grownBy w' (some g) := by
  have mixed : Tryd.prog.follows .mixedOrders = true := by kernel_rfl
  obtain ⟨i0, hi0, hz0, hzs, hzb⟩ := info_parts infoLot
  have hxl : xs.length = n * 5 := by rw [← hcur, List.length_take, Array.length_toList, hcs, Nat.min_self]
  have hik : i * 5 ≤ n * 5 := Nat.mul_le_mul_right _ (by omega)
  have hsz : (Tryd.prog.info? 41).map (·.size) = some 5 := by rw [hi0]; simp [hzs]
  have hkk : (n : Int) + 1 - (i : Int) = ((n + 1 - i : Nat) : Int) := by omega
  have hik2 : i + (n + 1 - i) = n + 1 := by omega
  have hcell : ∀ j u, xs[j]? = some u → w.cell? ⟨g, j, none⟩ = some u := fun j u hu => by
    rw [hL.cell]
    rw [← hcur, List.getElem?_take] at hu
    split at hu
    · exact hu
    · cases hu
  have hold : (Builtin.firstCells i0.size i (.slice (some ⟨g, 0, none⟩) i n)).run Tryd.prog w.drew = .ok (xs.take (i * 5)).toArray w.drew := by
    rw [hzs]
    exact run_firstCells_some w.drew 5 i ⟨g, 0, none⟩ i n (xs.take (i * 5)) (by rw [List.length_take]; omega) (fun j u hj => by
      rw [addr_add, Nat.zero_add]
      rw [List.getElem?_take] at hj
      split at hj
      · exact hcell j u hj
      · cases hj)
  have hrz := Lib.run_append_grow_zeros (P := Tryd.prog) w 24 3 24 41 i0 _ .i64 .i64 Tryd.underlying24 Tryd.underlying3 hi0 hz0 (some ⟨g, 0, none⟩) i n (xs.take (i * 5)) hold (n + 1 - i) (by omega) (by omega) (by omega) (by omega) (by rw [hzb]; omega) (by rw [hzb, hik2]; exact growslice_fits (by omega) (by omega))
  rw [hik2, ← hkk] at hrz
  obtain ⟨G, hG⟩ : ∃ G, G = grownCap w (n + 1) n 41 := ⟨_, rfl⟩
  have hGn : n + 1 ≤ G := by rw [hG]; exact grownCap_ge w _ _ _
  have hG63 : G ≤ maxLen := by rw [hG]; exact grownCap_le_maxLen w (n + 1) n 41 (by unfold maxLen; omega)
  have hG64 : G ≤ 9223372036854775807 := by unfold maxLen at hG63; omega
  rw [← hG] at hrz
  obtain ⟨Z, hZ⟩ : ∃ Z : List Value, Z = (Builtin.zeroCells (Value.agg #[.int .i64 0, .int .i64 0, .int .i64 0, .int .i64 0, .int .i64 0]).cells (n + 1 - i) ++ Builtin.zeroCells (Value.agg #[.int .i64 0, .int .i64 0, .int .i64 0, .int .i64 0, .int .i64 0]).cells (G - (n + 1))).toList := ⟨_, rfl⟩
  have hZl : Z.length = (n + 1 - i) * 5 + (G - (n + 1)) * 5 := by rw [hZ, Array.length_toList, Array.size_append, size_zeroCells, size_zeroCells]; rfl
  obtain ⟨ROW, hROW⟩ : ∃ ROW : Array Value, ROW = (xs.take (i * 5)).toArray ++ Builtin.zeroCells (Value.agg #[.int .i64 0, .int .i64 0, .int .i64 0, .int .i64 0, .int .i64 0]).cells (n + 1 - i) ++ Builtin.zeroCells (Value.agg #[.int .i64 0, .int .i64 0, .int .i64 0, .int .i64 0, .int .i64 0]).cells (G - (n + 1)) := ⟨_, rfl⟩
  have hRl : ROW.toList = xs.take (i * 5) ++ Z := by rw [hROW, hZ]; simp
  rw [← hROW] at hrz
  clear hROW hZ hG hold hcs hcur
  obtain ⟨W1, hW1⟩ : ∃ W1, W1 = w.drew.alloc (.cells ROW 41) := ⟨_, rfl⟩
  rw [← hW1] at hrz
  have LN : Lies W1 w.heap.size 41 (xs.take (i * 5) ++ Z) := by rw [hW1, ← hRl]; exact Lies.new w.drew 41 ROW
  have hb1 : Below w.heap.size w W1 := by rw [hW1]; exact ((Below.refl w.heap.size w).drew).alloc (Nat.le_refl _) _
  have hLg : g < w.heap.size := hL.lt
  have hLx : gx < w.heap.size := hx.lt
  clear hW1 hRl ROW
  have hlen : (xs.take (i * 5) ++ Z).length = G * 5 := by
    rw [List.length_append, List.length_take, hZl, hxl, Nat.min_eq_left hik, ← Nat.add_mul, ← Nat.add_mul]; congr 1; omega
  have hGk : (n + 1) * 5 ≤ G * 5 := Nat.mul_le_mul_right _ hGn
  have hnk : (n + 1) * 5 = n * 5 + 5 := Nat.succ_mul n 5
  have HL0 := Lib.hid LN; clear LN
  have HF0 : Hid (i * 5 + r.enc.length ≤ (xs.take (i * 5) ++ Z).length) := by unfold Hid; rw [Lot.enc_len, hlen]; omega
  have HX1 : Hid (∀ j v, r.enc[j]? = some v → W1.cell? ((⟨gx, 0, none⟩ : Addr).add j) = some v) := fun j u hj => by rw [addr_add, Nat.zero_add, (hx.below hb1 hLx).cell]; exact hj
  have HE1 : Hid (∀ v ∈ r.enc, v.oneCell' = true) := by unfold Hid; simp [Lot.enc, Value.oneCell']
  have HE2 : Hid (∀ v ∈ xs.drop (i * 5), v.oneCell' = true) := fun v hv => h1 v (List.mem_of_mem_drop hv)
  have HC : Hid (∀ j u, xs[j]? = some u → W1.cell? ⟨g, j, none⟩ = some u) := fun j u hu => (hb1.cell hLg).trans (hcell j u hu)
  have HLn : Hid ((xs.take (i * 5) ++ Z).length = G * 5) := hlen
  have HXL := Lib.hid hxl
  have HDL : Hid ((xs.drop (i * 5)).length = (n - i) * 5) := by unfold Hid; rw [List.length_drop, hxl, Nat.sub_mul]
  have hGi : ¬ (G = i) := by omega
  have hGi1 : ¬ (G = i + 1) := by omega
  have hni : ¬ (n = i) := by omega
  have hz2 : ¬ ((i : Int) = (n : Int)) := by omega
  have hz3 : (n : Int) < (n : Int) + 1 := by omega
  have hmin1 : Nat.min 1 (n + 1 - i) = 1 := by simp only [Nat.min_def]; split <;> omega
  have hmin2 : Nat.min (n - i) (n - i) = n - i := Nat.min_self _
  have hw1 : IntKind.i64.wrap ((i : Int) + 1) = (i : Int) + 1 := by rw [IntKind.wrap_i64]; omega
  have hb1' : (0 : Int) ≤ (i : Int) + 1 := by omega
  have hin : i ≤ n := by omega
  have HR := hrz
  clear hrz hcell hL h1 hx hlen hxl hik2 hkk hsz
  go_enter Tryd.func51, Tryd.ntmps51
  go_wp2_with (first
    | (at_builtin; refine Lib.wpList_append_run _ rfl _ _ 24 3 rfl _ _ rfl rfl _ _ HR ?_)
    | (with_reducible show wpList _ _ _ (Oper.mk (some 45) _ _ _ _ _ :: _) _ _; refine wpList_copy_own rfl _ _ 24 rfl 41 41 5 w.heap.size (i * 5) (n + 1 - i) (G - i) ⟨gx, 0, none⟩ 1 cx 1 r.enc _ rfl rfl Tryd.underlying24 ?u1 ?u2 (by rw [Lot.enc_len]) HL0 HF0 HX1 HE1 ?_; rotate_right; intro W2 HL2 hg2))
  case u1 => rw [hi0]; simp [hzs]
  case u2 => exact hmin1
  have hWs : w.heap.size ≤ W1.heap.size := hb1.size
  have hW1g : w.heap.size < W1.heap.size := HL0.out.lt
  have LG2 : ∀ j u, xs[j]? = some u → W2.cell? ⟨g, j, none⟩ = some u := fun j u hu => (grown_cell hg2 ⟨g, j, none⟩ (by simp only; omega) (by simp only; intro e; injection e with e; omega)).trans (HC.out j u hu)
  have HL2' : Hid (Lies W2.drew w.heap.size 41 (splice (xs.take (i * 5) ++ Z) (i * 5) r.enc)) := HL2.out.drew
  have HF2 : Hid ((i + 1) * 5 + (xs.drop (i * 5)).length ≤ (splice (xs.take (i * 5) ++ Z) (i * 5) r.enc).length) := by
    unfold Hid
    rw [splice_len _ _ _ HF0.out, HLn.out, HDL.out, ← Nat.add_mul]
    exact Nat.mul_le_mul_right _ (by omega)
  have HX2 : Hid (∀ j v, (xs.drop (i * 5))[j]? = some v → W2.drew.cell? ((⟨g, i * 5, none⟩ : Addr).add j) = some v) := fun j u hj => by
    rw [addr_add]; exact LG2 _ u (by rwa [List.getElem?_drop] at hj)
  clear LG2 HX1
  go_still_tail 8, (by kernel_rfl)
  change wpList _ _ _ _ _ W2.drew
  go_wp2_with (with_reducible show wpList _ _ _ (Oper.mk (some 54) _ _ _ _ _ :: _) _ _; refine wpList_copy_own rfl _ _ 24 rfl 41 41 5 w.heap.size ((i + 1) * 5) (n - i) (G - (i + 1)) ⟨g, i * 5, none⟩ (n - i) (n - i) (n - i) (xs.drop (i * 5)) _ rfl rfl Tryd.underlying24 ?v3 hmin2 HDL.out HL2' HF2 HX2 HE2 ?_; rotate_right; intro W3 HL3 hg3)
  case v3 => rw [hi0]; simp [hzs]
  go_ret
  have hw3 : Below w.heap.size w W3 := ((hb1.grown hg2 hWs (by rintro _ ⟨⟩; exact Nat.le_refl _)).drew).grown hg3 (by have := hg2.size; simp; omega) (by rintro _ ⟨⟩; exact Nat.le_refl _)
  refine ⟨_, rfl, ⟨?_, .inr ⟨w.heap.size, G, (splice (splice (xs.take (i * 5) ++ Z) (i * 5) r.enc) ((i + 1) * 5) (xs.drop (i * 5))).toArray, rfl, hB, HL3.out, hGn, hG63, ?_, ?_⟩⟩, ⟨hw3.os, hw3.tape, hw3.output, hw3.size, fun j hj _ => hw3.block j hj⟩⟩
  · rw [List.length_append, List.length_append, List.length_take, Lot.enc_len, HDL.out, HXL.out, Nat.sub_mul]; omega
  · rw [List.size_toArray, splice_len _ _ _ HF2.out, splice_len _ _ _ HF0.out, HLn.out]
  · show List.take _ (splice _ _ _) = _
    exact splice_grow xs r.enc Z i 5 n (Lot.enc_len r) HXL.out hin (by rw [hZl, ← Nat.add_mul, ← Nat.add_mul]; exact Nat.mul_le_mul_right _ (by omega))

set_option maxRecDepth 100000 in
set_option maxHeartbeats 4000000 in
/-- slices.Insert of one element, with room: in place. -/
theorem insLot_room (B g n cap : Nat) (cur : Array Value) (xs : List Value) (w : World) (hL : Lies w g 41 cur.toList) (hcs : cur.size = cap * 5) (hroom : n + 1 ≤ cap) (hcm : cap ≤ maxLen) (hcur : cur.toList.take (n * 5) = xs) (i : Nat) (hi : i < n) (hn : n ≤ 1000000) (r : Lot) (gx cx : Nat) (hx : Lies w gx 41 r.enc) (hne : gx ≠ g) (hB : B ≤ g) (h1 : ∀ u ∈ xs, u.oneCell' = true) :
    Calls Tryd.prog 51 #[.slice (some ⟨g, 0, none⟩) n cap, .int .i64 i, .slice (some ⟨gx, 0, none⟩) 1 cx] w fun e w' => ∃ v', e = .returned v' ∧ w'.ownsRow B 41 5 v' (n + 1) (xs.take (i * 5) ++ r.enc ++ xs.drop (i * 5)) ∧ w.grownBy w' (some g) := by
  have mixed : Tryd.prog.follows .mixedOrders = true := by kernel_rfl
  obtain ⟨i0, hi0, hz0, hzs, hzb⟩ := info_parts infoLot
  have hnk : n * 5 ≤ cap * 5 := Nat.mul_le_mul_right _ (by omega)
  have hnk1 : (n + 1) * 5 ≤ cap * 5 := Nat.mul_le_mul_right _ hroom
  have hcl : cur.toList.length = cap * 5 := by rw [Array.length_toList, hcs]
  have hxl : xs.length = n * 5 := by rw [← hcur, List.length_take, hcl]; omega
  have hik : i * 5 ≤ n * 5 := Nat.mul_le_mul_right _ (by omega)
  have hcell : ∀ j u, xs[j]? = some u → w.cell? ⟨g, j, none⟩ = some u := fun j u hu => by
    rw [hL.cell]
    rw [← hcur, List.getElem?_take] at hu
    split at hu
    · exact hu
    · cases hu
  have hov : ∀ ob lb cb, (callFunc 61 #[.slice (some ⟨gx, 0, none⟩) 1 cx, .slice (some ⟨g, ob, none⟩) lb cb]).run Tryd.prog w = .ok (.value (.bool false)) w := fun ob lb cb =>
    run_overlaps_own w 61 Tryd.f61 24 4 41 (by kernel_rfl) (by kernel_rfl) (by kernel_rfl) (by kernel_rfl) (by kernel_rfl) Tryd.underlying24 5 Tryd.sizeOf41 gx g 0 ob 1 cx lb cb hne _ _ _ _ hx hL (by rw [hcl]; omega)
  have hc63 : cap ≤ 9223372036854775807 := by unfold maxLen at hcm; omega
  have HL0 := Lib.hid hL
  have HE1 : Hid (∀ v ∈ r.enc, v.oneCell' = true) := by unfold Hid; simp [Lot.enc, Value.oneCell']
  have HE2 : Hid (∀ v ∈ xs.drop (i * 5), v.oneCell' = true) := fun v hv => h1 v (List.mem_of_mem_drop hv)
  have HXL := Lib.hid hxl
  have HCL := Lib.hid hcl
  have HCU := Lib.hid hcur
  have HCM := Lib.hid hcm
  have HDL : Hid ((xs.drop (i * 5)).length = (n - i) * 5) := by unfold Hid; rw [List.length_drop, hxl, Nat.sub_mul]
  have HFA : Hid ((i + 1) * 5 + (xs.drop (i * 5)).length ≤ cur.toList.length) := by
    unfold Hid; rw [HDL.out, hcl, ← Nat.add_mul]; exact Nat.mul_le_mul_right _ (by omega)
  have HXA : Hid (∀ j v, (xs.drop (i * 5))[j]? = some v → w.drew.cell? ((⟨g, i * 5, none⟩ : Addr).add j) = some v) := fun j u hj => by
    rw [addr_add]; exact hcell _ u (by rwa [List.getElem?_drop] at hj)
  have HLA : Hid (Lies w.drew g 41 cur.toList) := hL.drew
  have hxlt : gx < w.heap.size := hx.lt
  have HX := Lib.hid hx
  have hz1 : ¬ ((i : Int) = (n : Int)) := by omega
  have hz2 : ¬ ((cap : Int) < (n : Int) + 1) := by omega
  have hci : ¬ (cap = i) := by omega
  have hci1 : ¬ (cap = i + 1) := by omega
  have hin : i ≤ n := by omega
  have hin1 : i ≤ n + 1 := by omega
  have hint : (i : Int) ≤ (n : Int) + 1 := by omega
  have hw1 : IntKind.i64.wrap ((i : Int) + 1) = (i : Int) + 1 := by rw [IntKind.wrap_i64]; omega
  have hb1' : (0 : Int) ≤ (i : Int) + 1 := by omega
  have hmin2 : Nat.min (n + 1 - i) (n - i) = n - i := by simp only [Nat.min_def]; split <;> omega
  have hmin1 : Nat.min 1 (n + 1 - i) = 1 := by simp only [Nat.min_def]; split <;> omega
  clear hcl hcur hcs hxl hL hx hcell h1 hcm
  go_enter Tryd.func51, Tryd.ntmps51
  go_wp2_with (simp only [hov])
  go_still_tail 8, (by kernel_rfl)
  change wpList _ _ _ _ _ w.drew
  go_wp2_with (first
    | (with_reducible show wpList _ _ _ (Oper.mk (some 77) _ _ _ _ _ :: _) _ _; refine wpList_copy_own rfl _ _ 24 rfl 41 41 5 g ((i + 1) * 5) (n - i) (cap - (i + 1)) ⟨g, i * 5, none⟩ (n + 1 - i) (cap - i) (n - i) (xs.drop (i * 5)) _ rfl rfl Tryd.underlying24 ?v3 hmin2 HDL.out HLA HFA HXA HE2 ?_; rotate_right; intro W2 HL2 hg2)
    | (with_reducible show wpList _ _ _ (Oper.mk (some 82) _ _ _ _ _ :: _) _ _; refine wpList_copy_own rfl _ _ 24 rfl 41 41 5 g (i * 5) (n + 1 - i) (cap - i) ⟨gx, 0, none⟩ 1 cx 1 r.enc _ rfl rfl Tryd.underlying24 ?v4 hmin1 ?v5 HL2 ?v6 ?v7 HE1 ?_; rotate_right; intro W3 HL3 hg3))
  case v3 => rw [hi0]; simp [hzs]
  case v4 => rw [hi0]; simp [hzs]
  case v5 => rw [Lot.enc_len]
  case v6 => unfold Hid; rw [splice_len _ _ _ HFA.out, HCL.out, Lot.enc_len]; omega
  case v7 => exact fun j u hj => by rw [addr_add, Nat.zero_add, (grown_cell hg2 ⟨gx, j, none⟩ hxlt (by simp only; intro e; injection e with e; exact hne e)), HX.out.drew.cell]; exact hj
  have HF6 : Hid (i * 5 + r.enc.length ≤ (splice cur.toList ((i + 1) * 5) (xs.drop (i * 5))).length) := by unfold Hid; rw [splice_len _ _ _ HFA.out, HCL.out, Lot.enc_len]; omega
  go_ret
  have e1 : (i + 1) * 5 = i * 5 + 5 := Nat.succ_mul i 5
  refine ⟨_, rfl, ⟨?_, .inr ⟨g, cap, (splice (splice cur.toList ((i + 1) * 5) (xs.drop (i * 5))) (i * 5) r.enc).toArray, rfl, hB, HL3.out, hroom, HCM.out, ?_, ?_⟩⟩, ?_⟩
  · rw [List.length_append, List.length_append, List.length_take, Lot.enc_len, HDL.out, HXL.out, Nat.sub_mul]; omega
  · rw [List.size_toArray, splice_len _ _ _ HF6.out, splice_len _ _ _ HFA.out, HCL.out]
  · show List.take _ (splice _ _ _) = _
    rw [e1]
    exact splice_insert cur.toList xs r.enc i 5 n (Lot.enc_len r) HXL.out hin HCU.out (by rw [HCL.out]; exact hnk1)
  · exact ⟨hg3.os.trans hg2.os, hg3.tape.trans hg2.tape, hg3.output.trans hg2.output, Nat.le_trans hg2.size hg3.size, fun j hj hq => (hg3.block j (Nat.lt_of_lt_of_le hj hg2.size) hq).trans (hg2.block j hj hq)⟩

/-- slices.Insert of one element, wherever. -/
theorem insLot_any (B : Nat) (v : Value) (n : Nat) (xs : List Value) (w : World) (hown : w.ownsRow B 41 5 v n xs) (hn : n ≤ 1000000) (i : Nat) (hi : i ≤ n) (r : Lot) (gx cx : Nat) (hx : Lies w gx 41 r.enc) (hne : v.ownBlock ≠ some gx) (hB : B ≤ w.heap.size) (h1 : ∀ u ∈ xs, u.oneCell' = true) :
    Calls Tryd.prog 51 #[v, .int .i64 i, .slice (some ⟨gx, 0, none⟩) 1 cx] w fun e w' => ∃ v', e = .returned v' ∧ w'.ownsRow B 41 5 v' (n + 1) (xs.take (i * 5) ++ r.enc ++ xs.drop (i * 5)) ∧ w.grownBy w' v.ownBlock := by
  rcases Nat.lt_or_ge i n with hlt | hge
  · obtain ⟨hl, ⟨rfl, rfl⟩ | ⟨g, cap, cur, rfl, hg, hh, hc, hc', hcs, hct⟩⟩ := hown
    · omega
    · by_cases hcn : cap = n
      · subst hcn
        exact insLot_grow B g cap cur xs w hh hcs hct i hlt hn r gx cx hx hB h1
      · exact insLot_room B g n cap cur xs w hh hcs (by omega) hc' hct i hlt hn r gx cx hx (fun e => hne (by rw [e]; rfl)) hg h1
  · have e : i = n := by omega
    subst e
    have hl := hown.1
    rw [List.take_of_length_le (by omega), List.drop_eq_nil_of_le (by omega), List.append_nil]
    exact insLot_end B v i xs w hown hn r gx cx hx hB

set_option maxRecDepth 100000 in
set_option maxHeartbeats 4000000 in
/-- slices.Delete of one element. -/
theorem delLot_any (B : Nat) (v : Value) (n : Nat) (xs : List Value) (w : World) (hown : w.ownsRow B 41 5 v n xs) (hn : n ≤ 1000000) (i : Nat) (hi : i < n) (h1 : ∀ u ∈ xs, u.oneCell' = true) :
    Calls Tryd.prog 52 #[v, .int .i64 i, .int .i64 ((i : Int) + 1)] w fun e w' => ∃ v', e = .returned v' ∧ w'.ownsRow B 41 5 v' (n - 1) (xs.take (i * 5) ++ xs.drop (i * 5 + 5)) ∧ w.grownBy w' v.ownBlock ∧ v'.ownBlock = v.ownBlock := by
  have mixed : Tryd.prog.follows .mixedOrders = true := by kernel_rfl
  obtain ⟨i0, hi0, hz0, hzs, hzb⟩ := info_parts infoLot
  obtain ⟨hxl, ⟨rfl, rfl⟩ | ⟨g, cap, cur, rfl, hg, hh, hc, hcm, hcs, hcur⟩⟩ := hown
  · omega
  have hL : Lies w g 41 cur.toList := Lies.of hh
  have hcl : cur.toList.length = cap * 5 := by rw [Array.length_toList, hcs]
  have hnk : n * 5 ≤ cap * 5 := Nat.mul_le_mul_right _ hc
  have hi1 : (i + 1) * 5 = i * 5 + 5 := Nat.succ_mul i 5
  have hi2 : (i + 1) * 5 ≤ n * 5 := Nat.mul_le_mul_right _ (by omega)
  have hn1 : (n - 1) * 5 + 5 = n * 5 := by rw [← Nat.succ_mul]; congr 1; omega
  have hcell : ∀ j u, xs[j]? = some u → w.cell? ⟨g, j, none⟩ = some u := fun j u hu => by
    rw [hL.cell]
    rw [← hcur, List.getElem?_take] at hu
    split at hu
    · exact hu
    · cases hu
  have hdl : (xs.drop ((i + 1) * 5)).length = (n - (i + 1)) * 5 := by rw [List.length_drop, hxl, Nat.sub_mul]
  -- the source's address
  obtain ⟨A, hA, hsrc⟩ : ∃ A : Addr, (if cap = i + 1 then some (⟨g, 0, none⟩ : Addr) else some ⟨g, (i + 1) * 5, none⟩) = some A ∧ ∀ t u, (xs.drop ((i + 1) * 5))[t]? = some u → w.drew.cell? (A.add t) = some u := by
    by_cases h : cap = i + 1
    · refine ⟨⟨g, 0, none⟩, by simp [h], fun t u hu => ?_⟩
      have h0 : (xs.drop ((i + 1) * 5)) = [] := List.eq_nil_of_length_eq_zero (by rw [hdl, show n - (i + 1) = 0 by omega, Nat.zero_mul])
      rw [h0] at hu; cases hu
    · refine ⟨⟨g, (i + 1) * 5, none⟩, by simp [h], fun t u hu => ?_⟩
      rw [addr_add]; exact hcell _ u (by rwa [List.getElem?_drop] at hu)
  have hrun := run_append_room_cells (P := Tryd.prog) w.drew 24 24 41 i0 Tryd.underlying24 hi0 g 0 i cap A (n - (i + 1)) (cap - (i + 1)) (xs.drop ((i + 1) * 5)) (by rw [hzs]; exact hdl) hsrc (fun u hu => h1 u (List.mem_of_mem_drop hu)) (by omega)
    (fun j hj => by
      show (w.cell? _).isSome = true
      rw [hzs, Nat.zero_add, hL.cell, List.getElem?_eq_getElem (by rw [hcl]; rw [hdl, Nat.sub_mul] at hj; omega)]; rfl) (fun j hj => by show w.frozen? _ = false; exact hL.frozen _)
  rw [hzs, Nat.zero_add] at hrun
  have hF1 : i * 5 + (xs.drop ((i + 1) * 5)).length ≤ cur.toList.length := by rw [hdl, hcl, Nat.sub_mul]; omega
  have HL1 := Lib.hid (Lies.setCells (xs.drop ((i + 1) * 5)) (i * 5) w.drew cur.toList hL.drew hF1)
  have hg1 : w.grownBy (w.drew.setCells g (i * 5) (xs.drop ((i + 1) * 5))) (some g) := grown_setCells _ _ _ ⟨rfl, rfl, rfl, Nat.le_refl _, fun _ _ _ => rfl⟩
  obtain ⟨W1, hW1⟩ : ∃ W1, W1 = w.drew.setCells g (i * 5) (xs.drop ((i + 1) * 5)) := ⟨_, rfl⟩
  rw [← hW1] at hrun HL1 hg1
  have hlen' : i + (n - (i + 1)) = n - 1 := by omega
  rw [hlen'] at hrun
  have HR := hrun
  have hcm' : cap ≤ 9223372036854775807 := by unfold maxLen at hcm; omega
  have HCM := Lib.hid hcm
  have HCL := Lib.hid hcl
  have HCU := Lib.hid hcur
  have HXL := Lib.hid hxl
  have HDL := Lib.hid hdl
  have HF2 : Hid ((n - 1) * 5 + ([.int .i64 0, .int .i64 0, .int .i64 0, .int .i64 0, .int .i64 0] : List Value).length ≤ (splice cur.toList (i * 5) (xs.drop ((i + 1) * 5))).length) := by
    unfold Hid; rw [splice_len _ _ _ hF1, hcl]; simp; omega
  have HF1 := Lib.hid hF1
  have hz1 : ¬ ((i : Int) = (i : Int) + 1) := by omega
  have hbi : (i : Int) + 1 ≤ (n : Int) := by omega
  have hb0 : (0 : Int) ≤ (i : Int) + 1 := by omega
  have hin : i + 1 ≤ n := by omega
  have hcn1 : ¬ (cap = n - 1) := by omega
  have hnn : n - (n - 1) = 1 := by omega
  have hnle : n - 1 ≤ n := by omega
  have hnc : n ≤ cap := hc
  have hic : i ≤ cap := by omega
  have hic1 : i + 1 ≤ cap := by omega
  have hii : (i : Int) ≤ (cap : Int) := by omega
  have htn : ((i : Int) + 1).toNat = i + 1 := by omega
  have HA := Lib.hid hA
  clear hW1 hrun hcell hsrc hcs hcl hcur hxl hdl hF1 hh hL h1 hcm hi2 hn1 hA
  go_enter Tryd.func52, Tryd.ntmps52
  go_wp2
  go_still_tail 6, (by kernel_rfl)
  change wpList _ _ _ _ _ w.drew
  go_wp2_with (first
    | (at_builtin; refine Lib.wpList_append_run _ rfl _ _ 24 24 rfl _ _ rfl ?w1 _ _ HR ?_)
    | (with_reducible show wpList _ _ _ (Oper.mk none (Op.call _) _ _ _ _ :: _) _ _; refine wpList_clear_own rfl _ 24 rfl 41 41 _ [.int .i64 0, .int .i64 0, .int .i64 0, .int .i64 0, .int .i64 0] g ((n - 1) * 5) 1 (cap - (n - 1)) _ ?w2 Tryd.underlying24 Tryd.zeroValue41 (by omega) ?w3 ?w4 HL1 HF2 ?_; rotate_right; intro W2 HL2 hg2))
  case w1.inl =>
    have h := HA.out
    rw [if_pos (by assumption)] at h
    exact Option.some.inj h
  case w1.inr =>
    have h := HA.out
    rw [if_neg (by assumption)] at h
    rw [← Option.some.inj h, hi1]
  case w3 => kernel_rfl
  case w4 => simp [Value.oneCell']
  all_goals
    go_ret
    refine ⟨_, rfl, ⟨?_, .inr ⟨g, _, (splice (splice cur.toList (i * 5) (xs.drop ((i + 1) * 5))) ((n - 1) * 5) [.int .i64 0, .int .i64 0, .int .i64 0, .int .i64 0, .int .i64 0]).toArray, rfl, hg, HL2.out, by omega, by have := HCM.out; omega, ?_, ?_⟩⟩, ?_, rfl⟩
    · rw [List.length_append, List.length_take, List.length_drop, HXL.out, Nat.sub_mul]; omega
    · rw [List.size_toArray, splice_len _ _ _ HF2.out, splice_len _ _ _ HF1.out]; have := HCL.out; omega
    · show List.take _ (splice _ _ _) = _
      rw [hi1]
      exact splice_delete cur.toList xs [.int .i64 0, .int .i64 0, .int .i64 0, .int .i64 0, .int .i64 0] i 5 n rfl HXL.out hi HCU.out (by rw [HCL.out]; omega)
    · exact ⟨hg2.os.trans hg1.os, hg2.tape.trans hg1.tape, hg2.output.trans hg1.output, Nat.le_trans hg1.size hg2.size, fun j hj hq => (hg2.block j (Nat.lt_of_lt_of_le hj hg1.size) hq).trans (hg1.block j hj hq)⟩

end Go.Proofs.YtkokbmmffkpclaaDoor

/- Steps of an auction. (Printed by gen_struct.py ASt AuctionStep k,i,b,v base,to1,to,sz,eq,mark) -/
namespace Go.Proofs.YtkokbmmffkpclaaDoor
open Go.RowKit

structure ASt where
  k : Int
  i : Int
  b : Int
  v : Int
  deriving DecidableEq, Inhabited
def ASt.enc (r : ASt) : List Value := [.int .i64 r.k, .int .i64 r.i, .int .i64 r.b, .int .i64 r.v]
abbrev ASt.val (r : ASt) : Value := .agg #[.int .i64 r.k, .int .i64 r.i, .int .i64 r.b, .int .i64 r.v]
theorem ASt.enc_len (r : ASt) : r.enc.length = 4 := rfl
theorem ASt.of_ints_enc (ns : List Int) (h : ns.length = 4) : ∃ r : ASt, ns.map (Value.int .i64) = r.enc := by
  match ns, h with
  | [v0, v1, v2, v3], _ => exact ⟨⟨v0, v1, v2, v3⟩, rfl⟩
theorem ASt.of_ints (ns : List Int) (h : ns.length = 4) : ∃ r : ASt, Value.agg (ns.map (Value.int .i64)).toArray = r.val := by
  match ns, h with
  | [v0, v1, v2, v3], _ => exact ⟨⟨v0, v1, v2, v3⟩, rfl⟩
/-- It lies at a place, in every world since. -/
structure AStS (B : Nat) (w : World) (b o : Nat) (r : ASt) : Prop where
  c0 : ∀ p : Since B w, p.val.cell? ⟨b, o, none⟩ = some (.int .i64 r.k)
  c1 : ∀ p : Since B w, p.val.cell? ⟨b, o + 1, none⟩ = some (.int .i64 r.i)
  c2 : ∀ p : Since B w, p.val.cell? ⟨b, o + 2, none⟩ = some (.int .i64 r.b)
  c3 : ∀ p : Since B w, p.val.cell? ⟨b, o + 3, none⟩ = some (.int .i64 r.v)
theorem AStS.up {B B' : Nat} {w W : World} {b o : Nat} {r : ASt} (h : AStS B w b o r) (hb : Below B w W) (hB : B ≤ B') : AStS B' W b o r :=
  ⟨fun p => h.c0 ⟨p.val, hb.trans (p.below.mono hB)⟩, fun p => h.c1 ⟨p.val, hb.trans (p.below.mono hB)⟩, fun p => h.c2 ⟨p.val, hb.trans (p.below.mono hB)⟩, fun p => h.c3 ⟨p.val, hb.trans (p.below.mono hB)⟩⟩
theorem AStS.of {W : World} {g : Nat} {t : TypeId} {r : ASt} (h : Lies W g t r.enc) : AStS W.heap.size W g 0 r :=
  ⟨fun p => (p.cell h.lt).trans (h.cell 0), fun p => (p.cell h.lt).trans (h.cell 1), fun p => (p.cell h.lt).trans (h.cell 2), fun p => (p.cell h.lt).trans (h.cell 3)⟩
/-- A slice of them. -/
abbrev AStsR (w : World) (B : Nat) (A : Option Addr) (l : List ASt) : Prop := SlcR w B 4 A l.length (l.flatMap ASt.enc)
theorem AStsR.el {w : World} {B : Nat} {A : Option Addr} {l : List ASt} (h : AStsR w B A l) (hne : 0 < l.length) : ∃ b off, A = some ⟨b, off, none⟩ ∧ b < B ∧ ∀ i (hi : i < l.length), AStS B w b (off + i * 4) l[i] := by
  obtain ⟨b, off, e, hb, hc⟩ := h.at_ hne
  refine ⟨b, off, e, hb, fun i hi => ?_⟩
  have key : ∀ j, j < 4 → ∀ u, (l[i].enc)[j]? = some u → ∀ p : Since B w, p.val.cell? ⟨b, off + i * 4 + j, none⟩ = some u := fun j hj u hu p => by
    rw [p.cell hb, Nat.add_assoc]
    exact hc _ u (by rw [flat_at ASt.enc 4 ASt.enc_len l i hi j hj]; exact hu)
  exact ⟨key 0 (by omega) _ rfl, key 1 (by omega) _ rfl, key 2 (by omega) _ rfl, key 3 (by omega) _ rfl⟩
theorem lies_aSts {W : World} {g : Nat} {t : TypeId} {l : List ASt} (h : Lies W g t (l.flatMap ASt.enc)) (hn : l.length ≤ 9223372036854775807) : AStsR W W.heap.size (some ⟨g, 0, none⟩) l :=
  Lies.reads h (flat_len ASt.enc 4 ASt.enc_len l) hn
theorem infoASt : (Tryd.prog.info? 39).map (fun i => (i.zero, i.size, i.bytes)) = some (some (.agg #[.int .i64 0, .int .i64 0, .int .i64 0, .int .i64 0]), 4, 32) := by kernel_rfl

def sameASts (a b : List ASt) : Bool := decide (a = b)
def sameAStFrom : List ASt → List ASt → Bool
  | [], [] => true
  | x :: a, y :: b => decide (x = y) && sameAStFrom a b
  | _, _ => false
theorem sameAStFrom_eq : ∀ a b : List ASt, sameAStFrom a b = sameASts a b
  | [], [] => by simp [sameAStFrom, sameASts]
  | [], _ :: _ => by simp [sameAStFrom, sameASts]
  | _ :: _, [] => by simp [sameAStFrom, sameASts]
  | x :: a, y :: b => by simp [sameAStFrom, sameASts, sameAStFrom_eq a b, Bool.decide_and]

end Go.Proofs.YtkokbmmffkpclaaDoor

/- Lots and steps of an auction: which are valid. -/
namespace Go.Proofs.YtkokbmmffkpclaaDoor
open Go.RowKit

/-- Is the lot's state right? -/
def Lot.stOk (x : Lot) : Bool :=
  if x.s = 0 then decide (x.h = 0) else if x.s = 1 then true else if x.s = 2 then decide (1 ≤ x.h ∧ x.r ≤ x.h) else if x.s = 3 then decide (x.h = 0 ∨ x.h < x.r) else false
def Lot.ok (x : Lot) : Bool := inR x.i 1 99 && inR x.r 0 99999 && inR x.h 0 99999 && inR x.b 0 999 && ((x.h == 0) == (x.b == 0)) && x.stOk
def ASt.ok (s : ASt) : Bool :=
  if s.k = 1 then inR s.i 1 99 && (s.b == 0) && inR s.v 0 99999
  else if s.k = 2 ∨ s.k = 3 ∨ s.k = 6 then inR s.i 1 99 && (s.b == 0) && (s.v == 0)
  else if s.k = 4 then (s.i == 0) && inR s.b 1 999 && inR s.v 1 99999
  else if s.k = 5 then (s.i == 0) && (s.b == 0) && (s.v == 0)
  else false

theorem lot_no {x : Lot} (h : inR x.i 1 99 = false ∨ inR x.r 0 99999 = false ∨ inR x.h 0 99999 = false ∨ inR x.b 0 999 = false ∨ ((x.h == 0) == (x.b == 0)) = false) : x.ok = false := by
  unfold Lot.ok
  rcases h with h | h | h | h | h <;> simp [h]
theorem lot_yes {x : Lot} (h1 : inR x.i 1 99 = true) (h2 : inR x.r 0 99999 = true) (h3 : inR x.h 0 99999 = true) (h4 : inR x.b 0 999 = true) (h5 : ((x.h == 0) == (x.b == 0)) = true) : x.ok = x.stOk := by
  unfold Lot.ok; rw [h1, h2, h3, h4, h5]; rfl

set_option maxHeartbeats 2000000 in
theorem isSaleLot_any (x : Lot) (w : World) : Calls Tryd.prog 43 #[x.val] w fun e w' => e = .returned (.bool x.ok) ∧ Below w.heap.size w w' := by
  have r1 := fun W => inRange_any x.i 1 99 W
  have r2 := fun W => inRange_any x.r 0 99999 W
  have r3 := fun W => inRange_any x.h 0 99999 W
  have r4 := fun W => inRange_any x.b 0 999 W
  cases h1 : inR x.i 1 99
  · have HX := Lib.hid (lot_no (x := x) (.inl h1))
    rw [h1] at r1; clear h1
    go_enter Tryd.func43, Tryd.ntmps43
    go_wp2_with fail
    refine (r1 _).mono ?_
    rintro e w1 ⟨rfl, rfl⟩
    go_wp2_with fail
    go_ret; exact ⟨by rw [HX.out]; rfl, (Below.refl _ _).alloc (Nat.le_refl _) _⟩
  cases h2 : inR x.r 0 99999
  · have HX := Lib.hid (lot_no (x := x) (.inr (.inl h2)))
    rw [h1] at r1; rw [h2] at r2; clear h1 h2
    go_enter Tryd.func43, Tryd.ntmps43
    go_wp2_with fail
    refine (r1 _).mono ?_
    rintro e w1 ⟨rfl, rfl⟩
    go_wp2_with fail
    refine (r2 _).mono ?_
    rintro e w1 ⟨rfl, rfl⟩
    go_wp2_with fail
    go_ret; exact ⟨by rw [HX.out]; rfl, (Below.refl _ _).alloc (Nat.le_refl _) _⟩
  cases h3 : inR x.h 0 99999
  · have HX := Lib.hid (lot_no (x := x) (.inr (.inr (.inl h3))))
    rw [h1] at r1; rw [h2] at r2; rw [h3] at r3; clear h1 h2 h3
    go_enter Tryd.func43, Tryd.ntmps43
    go_wp2_with fail
    refine (r1 _).mono ?_
    rintro e w1 ⟨rfl, rfl⟩
    go_wp2_with fail
    refine (r2 _).mono ?_
    rintro e w1 ⟨rfl, rfl⟩
    go_wp2_with fail
    refine (r3 _).mono ?_
    rintro e w1 ⟨rfl, rfl⟩
    go_wp2_with fail
    go_ret; exact ⟨by rw [HX.out]; rfl, (Below.refl _ _).alloc (Nat.le_refl _) _⟩
  cases h4 : inR x.b 0 999
  · have HX := Lib.hid (lot_no (x := x) (.inr (.inr (.inr (.inl h4)))))
    rw [h1] at r1; rw [h2] at r2; rw [h3] at r3; rw [h4] at r4; clear h1 h2 h3 h4
    go_enter Tryd.func43, Tryd.ntmps43
    go_wp2_with fail
    refine (r1 _).mono ?_
    rintro e w1 ⟨rfl, rfl⟩
    go_wp2_with fail
    refine (r2 _).mono ?_
    rintro e w1 ⟨rfl, rfl⟩
    go_wp2_with fail
    refine (r3 _).mono ?_
    rintro e w1 ⟨rfl, rfl⟩
    go_wp2_with fail
    refine (r4 _).mono ?_
    rintro e w1 ⟨rfl, rfl⟩
    go_wp2_with fail
    go_ret; exact ⟨by rw [HX.out]; rfl, (Below.refl _ _).alloc (Nat.le_refl _) _⟩
  cases h5 : ((x.h == 0) == (x.b == 0))
  · have HX := Lib.hid (lot_no (x := x) (.inr (.inr (.inr (.inr h5)))))
    have e5 : ((x.h == 0) == (x.b == 0)) = false := h5
    rw [h1] at r1; rw [h2] at r2; rw [h3] at r3; rw [h4] at r4; clear h1 h2 h3 h4 h5
    go_enter Tryd.func43, Tryd.ntmps43
    go_wp2_with fail
    refine (r1 _).mono ?_
    rintro e w1 ⟨rfl, rfl⟩
    go_wp2_with fail
    refine (r2 _).mono ?_
    rintro e w1 ⟨rfl, rfl⟩
    go_wp2_with fail
    refine (r3 _).mono ?_
    rintro e w1 ⟨rfl, rfl⟩
    go_wp2_with fail
    refine (r4 _).mono ?_
    rintro e w1 ⟨rfl, rfl⟩
    go_wp2_with fail
    go_ret; exact ⟨by rw [HX.out]; rfl, (Below.refl _ _).alloc (Nat.le_refl _) _⟩
  have HX := Lib.hid (lot_yes h1 h2 h3 h4 h5)
  have e5 : ((x.h == 0) == (x.b == 0)) = true := h5
  rw [h1] at r1; rw [h2] at r2; rw [h3] at r3; rw [h4] at r4; clear h1 h2 h3 h4 h5
  by_cases hs0 : x.s = 0
  · have a0 : (x.s == 0) = true := by simp [hs0]
    have HS : Hid (x.stOk = (x.h == 0)) := by unfold Lot.stOk; rw [if_pos hs0, Hid]; by_cases hq : x.h = 0 <;> simp [hq]
    clear hs0
    go_enter Tryd.func43, Tryd.ntmps43
    go_wp2_with fail
    refine (r1 _).mono ?_
    rintro e w1 ⟨rfl, rfl⟩
    go_wp2_with fail
    refine (r2 _).mono ?_
    rintro e w1 ⟨rfl, rfl⟩
    go_wp2_with fail
    refine (r3 _).mono ?_
    rintro e w1 ⟨rfl, rfl⟩
    go_wp2_with fail
    refine (r4 _).mono ?_
    rintro e w1 ⟨rfl, rfl⟩
    go_wp2_with fail
    go_ret; exact ⟨by rw [HX.out, HS.out]; rfl, (Below.refl _ _).alloc (Nat.le_refl _) _⟩
  have a0 : (x.s == 0) = false := by simp [hs0]
  by_cases hs1 : x.s = 1
  · have a1 : (x.s == 1) = true := by simp [hs1]
    have HS : Hid (x.stOk = true) := by unfold Lot.stOk; rw [if_neg hs0, if_pos hs1]; rfl
    clear hs0 hs1
    go_enter Tryd.func43, Tryd.ntmps43
    go_wp2_with fail
    refine (r1 _).mono ?_
    rintro e w1 ⟨rfl, rfl⟩
    go_wp2_with fail
    refine (r2 _).mono ?_
    rintro e w1 ⟨rfl, rfl⟩
    go_wp2_with fail
    refine (r3 _).mono ?_
    rintro e w1 ⟨rfl, rfl⟩
    go_wp2_with fail
    refine (r4 _).mono ?_
    rintro e w1 ⟨rfl, rfl⟩
    go_wp2_with fail
    go_ret; exact ⟨by rw [HX.out, HS.out]; rfl, (Below.refl _ _).alloc (Nat.le_refl _) _⟩
  have a1 : (x.s == 1) = false := by simp [hs1]
  by_cases hs2 : x.s = 2
  · have a2 : (x.s == 2) = true := by simp [hs2]
    by_cases hh : 1 ≤ x.h
    · have HS : Hid (x.stOk = decide (x.r ≤ x.h)) := by unfold Lot.stOk; rw [if_neg hs0, if_neg hs1, if_pos hs2]; simp [Hid, hh]
      clear hs0 hs1 hs2
      go_enter Tryd.func43, Tryd.ntmps43
      go_wp2_with fail
      refine (r1 _).mono ?_
      rintro e w1 ⟨rfl, rfl⟩
      go_wp2_with fail
      refine (r2 _).mono ?_
      rintro e w1 ⟨rfl, rfl⟩
      go_wp2_with fail
      refine (r3 _).mono ?_
      rintro e w1 ⟨rfl, rfl⟩
      go_wp2_with fail
      refine (r4 _).mono ?_
      rintro e w1 ⟨rfl, rfl⟩
      go_wp2_with fail
      go_ret; exact ⟨by rw [HX.out, HS.out]; rfl, (Below.refl _ _).alloc (Nat.le_refl _) _⟩
    · have HS : Hid (x.stOk = false) := by unfold Lot.stOk; rw [if_neg hs0, if_neg hs1, if_pos hs2]; simp [Hid, hh]
      clear hs0 hs1 hs2
      go_enter Tryd.func43, Tryd.ntmps43
      go_wp2_with fail
      refine (r1 _).mono ?_
      rintro e w1 ⟨rfl, rfl⟩
      go_wp2_with fail
      refine (r2 _).mono ?_
      rintro e w1 ⟨rfl, rfl⟩
      go_wp2_with fail
      refine (r3 _).mono ?_
      rintro e w1 ⟨rfl, rfl⟩
      go_wp2_with fail
      refine (r4 _).mono ?_
      rintro e w1 ⟨rfl, rfl⟩
      go_wp2_with fail
      go_ret; exact ⟨by rw [HX.out, HS.out]; rfl, (Below.refl _ _).alloc (Nat.le_refl _) _⟩
  have a2 : (x.s == 2) = false := by simp [hs2]
  by_cases hs3 : x.s = 3
  · have a3 : (x.s == 3) = true := by simp [hs3]
    by_cases hh : x.h = 0
    · have a4 : (x.h == 0) = true := by simp [hh]
      have a5 : (x.b == 0) = true := by rw [a4] at e5; exact (beq_iff_eq.1 e5).symm
      have HS : Hid (x.stOk = true) := by unfold Lot.stOk; rw [if_neg hs0, if_neg hs1, if_neg hs2, if_pos hs3]; simp [Hid, hh]
      clear hs0 hs1 hs2 hs3 hh
      go_enter Tryd.func43, Tryd.ntmps43
      go_wp2_with fail
      refine (r1 _).mono ?_
      rintro e w1 ⟨rfl, rfl⟩
      go_wp2_with fail
      refine (r2 _).mono ?_
      rintro e w1 ⟨rfl, rfl⟩
      go_wp2_with fail
      refine (r3 _).mono ?_
      rintro e w1 ⟨rfl, rfl⟩
      go_wp2_with fail
      refine (r4 _).mono ?_
      rintro e w1 ⟨rfl, rfl⟩
      go_wp2_with fail
      go_ret; exact ⟨by rw [HX.out, HS.out]; rfl, (Below.refl _ _).alloc (Nat.le_refl _) _⟩
    · have a4 : (x.h == 0) = false := by simp [hh]
      have a5 : (x.b == 0) = false := by rw [a4] at e5; exact (beq_iff_eq.1 e5).symm
      have HS : Hid (x.stOk = decide (x.h < x.r)) := by unfold Lot.stOk; rw [if_neg hs0, if_neg hs1, if_neg hs2, if_pos hs3]; simp [Hid, hh]
      clear hs0 hs1 hs2 hs3 hh
      go_enter Tryd.func43, Tryd.ntmps43
      go_wp2_with fail
      refine (r1 _).mono ?_
      rintro e w1 ⟨rfl, rfl⟩
      go_wp2_with fail
      refine (r2 _).mono ?_
      rintro e w1 ⟨rfl, rfl⟩
      go_wp2_with fail
      refine (r3 _).mono ?_
      rintro e w1 ⟨rfl, rfl⟩
      go_wp2_with fail
      refine (r4 _).mono ?_
      rintro e w1 ⟨rfl, rfl⟩
      go_wp2_with fail
      go_ret; exact ⟨by rw [HX.out, HS.out]; rfl, (Below.refl _ _).alloc (Nat.le_refl _) _⟩
  · have a3 : (x.s == 3) = false := by simp [hs3]
    have HS : Hid (x.stOk = false) := by unfold Lot.stOk; rw [if_neg hs0, if_neg hs1, if_neg hs2, if_neg hs3]; rfl
    clear hs0 hs1 hs2 hs3
    go_enter Tryd.func43, Tryd.ntmps43
    go_wp2_with fail
    refine (r1 _).mono ?_
    rintro e w1 ⟨rfl, rfl⟩
    go_wp2_with fail
    refine (r2 _).mono ?_
    rintro e w1 ⟨rfl, rfl⟩
    go_wp2_with fail
    refine (r3 _).mono ?_
    rintro e w1 ⟨rfl, rfl⟩
    go_wp2_with fail
    refine (r4 _).mono ?_
    rintro e w1 ⟨rfl, rfl⟩
    go_wp2_with fail
    go_ret; exact ⟨by rw [HX.out, HS.out]; rfl, (Below.refl _ _).alloc (Nat.le_refl _) _⟩
end Go.Proofs.YtkokbmmffkpclaaDoor

/- A lot is valid, in the reference. (Printed by gen_lots.py) -/
namespace Go.Proofs.YtkokbmmffkpclaaDoor
open Go.RowKit

set_option maxHeartbeats 4000000 in
theorem l29One_any (x : Lot) (w : World) : Calls Tryd.prog 39 #[x.val] w fun e w' => e = .returned (.bool x.ok) ∧ Below w.heap.size w w' := by
  have r1 := fun W => l1In_any x.i 1 99 W
  have r2 := fun W => l1In_any x.r 0 99999 W
  have r3 := fun W => l1In_any x.h 0 99999 W
  have r4 := fun W => l1In_any x.b 0 999 W
  cases h1 : inR x.i 1 99
  · have HX := Lib.hid (lot_no (x := x) (.inl h1))
    rw [h1] at r1; clear h1
    go_enter Tryd.func39, Tryd.ntmps39
    go_wp2_with fail
    refine (r1 _).mono ?_
    rintro e w1 ⟨rfl, rfl⟩
    go_wp2_with fail
    all_goals (go_ret; exact ⟨by rw [HX.out]; rfl, (Below.refl _ _).alloc (Nat.le_refl _) _⟩)
  cases h2 : inR x.r 0 99999
  · have HX := Lib.hid (lot_no (x := x) (.inr (.inl h2)))
    rw [h1] at r1; rw [h2] at r2; clear h1 h2
    go_enter Tryd.func39, Tryd.ntmps39
    go_wp2_with fail
    refine (r1 _).mono ?_
    rintro e w1 ⟨rfl, rfl⟩
    go_wp2_with fail
    refine (r2 _).mono ?_
    rintro e w1 ⟨rfl, rfl⟩
    go_wp2_with fail
    all_goals (go_ret; exact ⟨by rw [HX.out]; rfl, (Below.refl _ _).alloc (Nat.le_refl _) _⟩)
  cases h3 : inR x.h 0 99999
  · have HX := Lib.hid (lot_no (x := x) (.inr (.inr (.inl h3))))
    rw [h1] at r1; rw [h2] at r2; rw [h3] at r3; clear h1 h2 h3
    go_enter Tryd.func39, Tryd.ntmps39
    go_wp2_with fail
    refine (r1 _).mono ?_
    rintro e w1 ⟨rfl, rfl⟩
    go_wp2_with fail
    refine (r2 _).mono ?_
    rintro e w1 ⟨rfl, rfl⟩
    go_wp2_with fail
    refine (r3 _).mono ?_
    rintro e w1 ⟨rfl, rfl⟩
    go_wp2_with fail
    all_goals (go_ret; exact ⟨by rw [HX.out]; rfl, (Below.refl _ _).alloc (Nat.le_refl _) _⟩)
  cases h4 : inR x.b 0 999
  · have HX := Lib.hid (lot_no (x := x) (.inr (.inr (.inr (.inl h4)))))
    rw [h1] at r1; rw [h2] at r2; rw [h3] at r3; rw [h4] at r4; clear h1 h2 h3 h4
    go_enter Tryd.func39, Tryd.ntmps39
    go_wp2_with fail
    refine (r1 _).mono ?_
    rintro e w1 ⟨rfl, rfl⟩
    go_wp2_with fail
    refine (r2 _).mono ?_
    rintro e w1 ⟨rfl, rfl⟩
    go_wp2_with fail
    refine (r3 _).mono ?_
    rintro e w1 ⟨rfl, rfl⟩
    go_wp2_with fail
    refine (r4 _).mono ?_
    rintro e w1 ⟨rfl, rfl⟩
    go_wp2_with fail
    all_goals (go_ret; exact ⟨by rw [HX.out]; rfl, (Below.refl _ _).alloc (Nat.le_refl _) _⟩)
  cases h5 : ((x.h == 0) == (x.b == 0))
  · have HX := Lib.hid (lot_no (x := x) (.inr (.inr (.inr (.inr h5)))))
    have e5 : ((x.h == 0) == (x.b == 0)) = false := h5
    rw [h1] at r1; rw [h2] at r2; rw [h3] at r3; rw [h4] at r4; clear h1 h2 h3 h4 h5
    go_enter Tryd.func39, Tryd.ntmps39
    go_wp2_with fail
    refine (r1 _).mono ?_
    rintro e w1 ⟨rfl, rfl⟩
    go_wp2_with fail
    refine (r2 _).mono ?_
    rintro e w1 ⟨rfl, rfl⟩
    go_wp2_with fail
    refine (r3 _).mono ?_
    rintro e w1 ⟨rfl, rfl⟩
    go_wp2_with fail
    refine (r4 _).mono ?_
    rintro e w1 ⟨rfl, rfl⟩
    go_wp2_with fail
    all_goals (go_ret; exact ⟨by rw [HX.out]; rfl, (Below.refl _ _).alloc (Nat.le_refl _) _⟩)
  have HX := Lib.hid (lot_yes h1 h2 h3 h4 h5)
  have hge := (inR_iff.1 h3).1
  rw [h1] at r1; rw [h2] at r2; rw [h3] at r3; rw [h4] at r4; clear h1 h2 h3 h4
  have hh : x.h = 0 ∨ 1 ≤ x.h := by omega
  rcases hh with hh | hh
  · have hn : ¬ 1 ≤ x.h := by omega
    have a4 : (x.h == 0) = true := by simp [hh]
    have a5 : (x.b == 0) = true := by rw [a4] at h5; exact (beq_iff_eq.1 h5).symm
    clear h5
    by_cases hs0 : x.s = 0
    · have b0 : (x.s == 0) = true := by simp [hs0]
      have HS : Hid (x.stOk = true) := by unfold Lot.stOk; rw [if_pos hs0]; simp [Hid, hh]
      clear hs0 hh hge
      go_enter Tryd.func39, Tryd.ntmps39
      go_wp2_with fail
      refine (r1 _).mono ?_
      rintro e w1 ⟨rfl, rfl⟩
      go_wp2_with fail
      refine (r2 _).mono ?_
      rintro e w1 ⟨rfl, rfl⟩
      go_wp2_with fail
      refine (r3 _).mono ?_
      rintro e w1 ⟨rfl, rfl⟩
      go_wp2_with fail
      refine (r4 _).mono ?_
      rintro e w1 ⟨rfl, rfl⟩
      go_wp2_with fail
      all_goals (go_ret; exact ⟨by rw [HX.out, HS.out]; rfl, (Below.refl _ _).alloc (Nat.le_refl _) _⟩)
    have b0 : (x.s == 0) = false := by simp [hs0]
    by_cases hs1 : x.s = 1
    · have b1 : (x.s == 1) = true := by simp [hs1]
      have HS : Hid (x.stOk = true) := by unfold Lot.stOk; rw [if_neg hs0, if_pos hs1]; rfl
      clear hs0 hs1 hh hge
      go_enter Tryd.func39, Tryd.ntmps39
      go_wp2_with fail
      refine (r1 _).mono ?_
      rintro e w1 ⟨rfl, rfl⟩
      go_wp2_with fail
      refine (r2 _).mono ?_
      rintro e w1 ⟨rfl, rfl⟩
      go_wp2_with fail
      refine (r3 _).mono ?_
      rintro e w1 ⟨rfl, rfl⟩
      go_wp2_with fail
      refine (r4 _).mono ?_
      rintro e w1 ⟨rfl, rfl⟩
      go_wp2_with fail
      all_goals (go_ret; exact ⟨by rw [HX.out, HS.out]; rfl, (Below.refl _ _).alloc (Nat.le_refl _) _⟩)
    have b1 : (x.s == 1) = false := by simp [hs1]
    by_cases hs2 : x.s = 2
    · have b2 : (x.s == 2) = true := by simp [hs2]
      have HS : Hid (x.stOk = false) := by unfold Lot.stOk; rw [if_neg hs0, if_neg hs1, if_pos hs2]; simp [Hid, hn]
      clear hs0 hs1 hs2 hh hge
      go_enter Tryd.func39, Tryd.ntmps39
      go_wp2_with fail
      refine (r1 _).mono ?_
      rintro e w1 ⟨rfl, rfl⟩
      go_wp2_with fail
      refine (r2 _).mono ?_
      rintro e w1 ⟨rfl, rfl⟩
      go_wp2_with fail
      refine (r3 _).mono ?_
      rintro e w1 ⟨rfl, rfl⟩
      go_wp2_with fail
      refine (r4 _).mono ?_
      rintro e w1 ⟨rfl, rfl⟩
      go_wp2_with fail
      all_goals (go_ret; exact ⟨by rw [HX.out, HS.out]; rfl, (Below.refl _ _).alloc (Nat.le_refl _) _⟩)
    have b2 : (x.s == 2) = false := by simp [hs2]
    by_cases hs3 : x.s = 3
    · have b3 : (x.s == 3) = true := by simp [hs3]
      have HS : Hid (x.stOk = true) := by unfold Lot.stOk; rw [if_neg hs0, if_neg hs1, if_neg hs2, if_pos hs3]; simp [Hid, hh]
      clear hs0 hs1 hs2 hs3 hh hge
      go_enter Tryd.func39, Tryd.ntmps39
      go_wp2_with fail
      refine (r1 _).mono ?_
      rintro e w1 ⟨rfl, rfl⟩
      go_wp2_with fail
      refine (r2 _).mono ?_
      rintro e w1 ⟨rfl, rfl⟩
      go_wp2_with fail
      refine (r3 _).mono ?_
      rintro e w1 ⟨rfl, rfl⟩
      go_wp2_with fail
      refine (r4 _).mono ?_
      rintro e w1 ⟨rfl, rfl⟩
      go_wp2_with fail
      all_goals (go_ret; exact ⟨by rw [HX.out, HS.out]; rfl, (Below.refl _ _).alloc (Nat.le_refl _) _⟩)
    have b3 : (x.s == 3) = false := by simp [hs3]
    have HS : Hid (x.stOk = false) := by unfold Lot.stOk; rw [if_neg hs0, if_neg hs1, if_neg hs2, if_neg hs3]; rfl
    clear hs0 hs1 hs2 hs3 hge hh
    go_enter Tryd.func39, Tryd.ntmps39
    go_wp2_with fail
    refine (r1 _).mono ?_
    rintro e w1 ⟨rfl, rfl⟩
    go_wp2_with fail
    refine (r2 _).mono ?_
    rintro e w1 ⟨rfl, rfl⟩
    go_wp2_with fail
    refine (r3 _).mono ?_
    rintro e w1 ⟨rfl, rfl⟩
    go_wp2_with fail
    refine (r4 _).mono ?_
    rintro e w1 ⟨rfl, rfl⟩
    go_wp2_with fail
    all_goals (go_ret; exact ⟨by rw [HX.out, HS.out]; rfl, (Below.refl _ _).alloc (Nat.le_refl _) _⟩)
  · have hn : x.h ≠ 0 := by omega
    have a4 : (x.h == 0) = false := by simp [hn]
    have a5 : (x.b == 0) = false := by rw [a4] at h5; exact (beq_iff_eq.1 h5).symm
    clear h5
    by_cases hs0 : x.s = 0
    · have b0 : (x.s == 0) = true := by simp [hs0]
      have HS : Hid (x.stOk = false) := by unfold Lot.stOk; rw [if_pos hs0]; simp [Hid, hn]
      clear hs0 hge
      go_enter Tryd.func39, Tryd.ntmps39
      go_wp2_with fail
      refine (r1 _).mono ?_
      rintro e w1 ⟨rfl, rfl⟩
      go_wp2_with fail
      refine (r2 _).mono ?_
      rintro e w1 ⟨rfl, rfl⟩
      go_wp2_with fail
      refine (r3 _).mono ?_
      rintro e w1 ⟨rfl, rfl⟩
      go_wp2_with fail
      refine (r4 _).mono ?_
      rintro e w1 ⟨rfl, rfl⟩
      go_wp2_with fail
      all_goals (go_ret; exact ⟨by rw [HX.out, HS.out]; rfl, (Below.refl _ _).alloc (Nat.le_refl _) _⟩)
    have b0 : (x.s == 0) = false := by simp [hs0]
    by_cases hs1 : x.s = 1
    · have b1 : (x.s == 1) = true := by simp [hs1]
      have HS : Hid (x.stOk = true) := by unfold Lot.stOk; rw [if_neg hs0, if_pos hs1]; rfl
      clear hs0 hs1 hge
      go_enter Tryd.func39, Tryd.ntmps39
      go_wp2_with fail
      refine (r1 _).mono ?_
      rintro e w1 ⟨rfl, rfl⟩
      go_wp2_with fail
      refine (r2 _).mono ?_
      rintro e w1 ⟨rfl, rfl⟩
      go_wp2_with fail
      refine (r3 _).mono ?_
      rintro e w1 ⟨rfl, rfl⟩
      go_wp2_with fail
      refine (r4 _).mono ?_
      rintro e w1 ⟨rfl, rfl⟩
      go_wp2_with fail
      all_goals (go_ret; exact ⟨by rw [HX.out, HS.out]; rfl, (Below.refl _ _).alloc (Nat.le_refl _) _⟩)
    have b1 : (x.s == 1) = false := by simp [hs1]
    by_cases hs2 : x.s = 2
    · have b2 : (x.s == 2) = true := by simp [hs2]
      have HS : Hid (x.stOk = decide (x.r ≤ x.h)) := by unfold Lot.stOk; rw [if_neg hs0, if_neg hs1, if_pos hs2]; simp [Hid, hh]
      clear hs0 hs1 hs2 hge
      go_enter Tryd.func39, Tryd.ntmps39
      go_wp2_with fail
      refine (r1 _).mono ?_
      rintro e w1 ⟨rfl, rfl⟩
      go_wp2_with fail
      refine (r2 _).mono ?_
      rintro e w1 ⟨rfl, rfl⟩
      go_wp2_with fail
      refine (r3 _).mono ?_
      rintro e w1 ⟨rfl, rfl⟩
      go_wp2_with fail
      refine (r4 _).mono ?_
      rintro e w1 ⟨rfl, rfl⟩
      go_wp2_with fail
      all_goals (go_ret; exact ⟨by rw [HX.out, HS.out]; rfl, (Below.refl _ _).alloc (Nat.le_refl _) _⟩)
    have b2 : (x.s == 2) = false := by simp [hs2]
    by_cases hs3 : x.s = 3
    · have b3 : (x.s == 3) = true := by simp [hs3]
      have HS : Hid (x.stOk = (!decide (x.r ≤ x.h))) := by unfold Lot.stOk; rw [if_neg hs0, if_neg hs1, if_neg hs2, if_pos hs3]; rw [Hid, Bool.eq_iff_iff]; simp only [decide_eq_true_eq, Bool.not_eq_true', decide_eq_false_iff_not]; omega
      clear hs0 hs1 hs2 hs3 hge
      go_enter Tryd.func39, Tryd.ntmps39
      go_wp2_with fail
      refine (r1 _).mono ?_
      rintro e w1 ⟨rfl, rfl⟩
      go_wp2_with fail
      refine (r2 _).mono ?_
      rintro e w1 ⟨rfl, rfl⟩
      go_wp2_with fail
      refine (r3 _).mono ?_
      rintro e w1 ⟨rfl, rfl⟩
      go_wp2_with fail
      refine (r4 _).mono ?_
      rintro e w1 ⟨rfl, rfl⟩
      go_wp2_with fail
      all_goals (go_ret; exact ⟨by rw [HX.out, HS.out]; rfl, (Below.refl _ _).alloc (Nat.le_refl _) _⟩)
    have b3 : (x.s == 3) = false := by simp [hs3]
    have HS : Hid (x.stOk = false) := by unfold Lot.stOk; rw [if_neg hs0, if_neg hs1, if_neg hs2, if_neg hs3]; rfl
    clear hs0 hs1 hs2 hs3 hge
    go_enter Tryd.func39, Tryd.ntmps39
    go_wp2_with fail
    refine (r1 _).mono ?_
    rintro e w1 ⟨rfl, rfl⟩
    go_wp2_with fail
    refine (r2 _).mono ?_
    rintro e w1 ⟨rfl, rfl⟩
    go_wp2_with fail
    refine (r3 _).mono ?_
    rintro e w1 ⟨rfl, rfl⟩
    go_wp2_with fail
    refine (r4 _).mono ?_
    rintro e w1 ⟨rfl, rfl⟩
    go_wp2_with fail
    all_goals (go_ret; exact ⟨by rw [HX.out, HS.out]; rfl, (Below.refl _ _).alloc (Nat.le_refl _) _⟩)
end Go.Proofs.YtkokbmmffkpclaaDoor
