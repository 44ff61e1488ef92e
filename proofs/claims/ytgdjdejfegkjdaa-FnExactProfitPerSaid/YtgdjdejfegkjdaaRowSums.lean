/- Rows of the office: marks on a copy; the sums, in the reference and in the program. -/
import Derived.Test.YtgdjdejfegkjdaaRowLeast
import Derived.Test.YtgdjdejfegkjdaaInts
namespace Go.Proofs.Ytgdjdejfegkjdaa
open Go.RowKit

set_option maxHeartbeats 1000000 in
theorem markRows_any (g n c : Nat) (k0 : Int) (cs : List Value) (w : World) (hk : -1000000000 ≤ k0) (hk' : k0 ≤ 1000000000) (hn : n ≤ 1000000000) (h : Lies w g 25 cs) (hl : cs.length = n * 5) :
    Calls Try.prog 32 #[.slice (some ⟨g, 0, none⟩) n c, .int .i64 k0] w fun e w' => e = .returned (.int .i64 (k0 + 5 * n)) ∧ w.grownBy w' (some g) := by
  have HL : Hid (cs.length = n * 5) := hl
  clear hl
  go_enter Try.func32, Try.ntmps32
  go_wp2
  go_loopw [1, 5] (fun kk i wr => ∃ (j : Nat) (cs : List Value), j ≤ n ∧ i = .int .i64 j ∧ kk = .int .i64 (k0 + 5 * j) ∧ Hid (Lies wr g 25 cs ∧ cs.length = n * 5) ∧ w.grownBy wr (some g)) (fun _ i _ => n - (intOf i).toNat)
  case atStart => exact ⟨0, cs, Nat.zero_le _, rfl, congrArg _ (by simp), ⟨h, HL.out⟩, World.grownBy.refl w _⟩
  case round =>
    obtain ⟨j, cs', hj, rfl, rfl, HR, hgr⟩ := hrel
    by_cases hlt : j < n
    · have key : ∀ i, i < 5 → ∃ u, wr.cell? ⟨g, j * 5 + i, none⟩ = some u := fun i hi => by
        rw [HR.out.1.cell]
        have : j * 5 + i < cs'.length := by rw [HR.out.2]; omega
        exact ⟨_, List.getElem?_eq_getElem this⟩
      obtain ⟨u0, c0⟩ := key 0 (by omega)
      obtain ⟨u1, c1⟩ := key 1 (by omega)
      obtain ⟨u2, c2⟩ := key 2 (by omega)
      obtain ⟨u3, c3⟩ := key 3 (by omega)
      obtain ⟨u4, c4⟩ := key 4 (by omega)
      rw [Nat.add_zero] at c0
      have f0 : wr.frozen? ⟨g, j * 5, none⟩ = false := HR.out.1.frozen _
      have f1 : wr.frozen? ⟨g, j * 5 + 1, none⟩ = false := HR.out.1.frozen _
      have f2 : wr.frozen? ⟨g, j * 5 + 2, none⟩ = false := HR.out.1.frozen _
      have f3 : wr.frozen? ⟨g, j * 5 + 3, none⟩ = false := HR.out.1.frozen _
      have f4 : wr.frozen? ⟨g, j * 5 + 4, none⟩ = false := HR.out.1.frozen _
      clear key h
      go_wp2
      go_roundw
      case rel => exact ⟨j + 1, _, by omega, by go_num, congrArg _ (by omega), ⟨((((HR.out.1.set (j * 5) _).set (j * 5 + 1) _).set (j * 5 + 2) _).set (j * 5 + 3) _).set (j * 5 + 4) _, by simpa using HR.out.2⟩, grown_set (grown_set (grown_set (grown_set (grown_set hgr))))⟩
      case measure => simp [intOf]; omega
    · have HJ : Hid (j = n) := by unfold Hid; omega
      go_wp2
      go_ret
      exact ⟨by rw [← HJ.out]; rfl, hgr⟩

def sumsFrom : Int → Int → Int → Int → List Row → List Int
  | b, s, c, l, [] => [b, s, c, l]
  | b, s, c, l, r :: rest => sumsFrom (b + r.b) (s + r.s) (c + r.c) (l + r.l) rest
theorem sums_step {l : List Row} {k : Nat} (h : k < l.length) (b s c m : Int) : sumsFrom b s c m (l.drop k) = sumsFrom (b + l[k].b) (s + l[k].s) (c + l[k].c) (m + l[k].l) (l.drop (k + 1)) := by
  rw [List.drop_eq_getElem_cons h]; rfl
def sumsR (l : List Row) : List Int := if goodRows l then sumsFrom 0 0 0 0 l else []

set_option maxHeartbeats 1000000 in
theorem specSums_any (A : Option Addr) (c : Nat) (l : List Row) (w : World) (h : RowsR w w.heap.size A l) :
    Calls Try.prog 29 #[.slice A l.length c] w fun e w' => ∃ A' c', e = .returned (.tuple #[.slice A' (sumsR l).length c', .bool (goodRows l)]) ∧ OwnS w' w.heap.size 3 1 A' (sumsR l).length (encIs (sumsR l)) ∧ Below w.heap.size w w' := by
  have hl := h.big
  have hrd := h.row
  cases hg : goodRows l
  · have HG := Lib.hid hg; clear hg hrd
    have HF : Hid (sumsR l = []) := by unfold sumsR; rw [HG.out]; rfl
    go_enter Try.func29, Try.ntmps29
    go_wp2_with (go_at_call 47; refine (l31Good_any A c l _ h).mono ?_; rw [HG.out]; rintro e w1 ⟨rfl, hb1⟩)
    go_ret2
    rw [HF.out]
    exact ⟨_, _, rfl, ⟨rfl, by simp, .inr ⟨_, [], rfl, hb1.size, by simpa using Lies.new w1 3 #[]⟩⟩, hb1.alloc hb1.size _⟩
  · have h12 := good_len hg
    have HA : Hid (∀ i (hi : i < l.length), l[i].ok = true) := fun i hi => good_at hg hi
    have HF : Hid (sumsFrom 0 0 0 0 (l.drop 0) = sumsR l) := by unfold sumsR; rw [hg]; rfl
    have HG := Lib.hid hg; clear hg
    go_enter Try.func29, Try.ntmps29
    go_wp2_with (go_at_call 47; refine (l31Good_any A c l _ h).mono ?_; rw [HG.out]; rintro e w1 ⟨rfl, hb1⟩)
    go_loopw [4, 5, 6, 7, 8] (fun b s m ln i wr => ∃ (k : Nat) (tb ts tc tl : Int), k ≤ l.length ∧ i = .int .i64 k ∧ b = .int .i64 tb ∧ s = .int .i64 ts ∧ m = .int .i64 tc ∧ ln = .int .i64 tl ∧ (0 ≤ tb ∧ tb ≤ 9999 * (k : Int)) ∧ (0 ≤ ts ∧ ts ≤ 9999 * (k : Int)) ∧ (-(1000000 * (k : Int)) ≤ tc ∧ tc ≤ 1000000 * (k : Int)) ∧ (0 ≤ tl ∧ tl ≤ 999 * (k : Int)) ∧ Below w.heap.size w wr ∧ Hid (sumsFrom tb ts tc tl (l.drop k) = sumsR l)) (fun _ _ _ _ i _ => l.length - (intOf i).toNat)
    case atStart => exact ⟨0, 0, 0, 0, 0, Nat.zero_le _, rfl, rfl, rfl, rfl, rfl, by omega, by omega, by omega, by omega, hb1, HF⟩
    case round =>
      clear hb1
      obtain ⟨k, tb, ts, tc, tl, hk, rfl, rfl, rfl, rfl, rfl, ⟨b1, b2⟩, ⟨s1, s2⟩, ⟨m1, m2⟩, ⟨n1, n2⟩, hbr, HR⟩ := hrel
      by_cases hlt : k < l.length
      · obtain ⟨b, off, rfl, hb, hcell⟩ := hrd (by omega)
        obtain ⟨c0, c1, c2, c3, c4⟩ := hcell k hlt
        obtain ⟨_, hxb, hxs, hxc, hxl⟩ := Row.bounds (HA.out k hlt)
        have HS : Hid (sumsFrom tb ts tc tl (l.drop k) = sumsFrom (tb + l[k].b) (ts + l[k].s) (tc + l[k].c) (tl + l[k].l) (l.drop (k + 1))) := sums_step hlt _ _ _ _
        obtain ⟨x, hxe⟩ : ∃ x, x = l[k] := ⟨_, rfl⟩
        rw [← hxe] at c0 c1 c2 c3 c4 hxb hxs hxc hxl HS
        clear hxe hcell hrd
        obtain ⟨xb1, xb2⟩ := hxb
        obtain ⟨xs1, xs2⟩ := hxs
        obtain ⟨xc1, xc2⟩ := hxc
        obtain ⟨xl1, xl2⟩ := hxl
        obtain ⟨q, rfl⟩ : ∃ q : Since w.heap.size w, wr = q.val := ⟨⟨wr, hbr⟩, rfl⟩
        go_wp2
        go_roundw
        case rel => exact ⟨k + 1, tb + x.b, ts + x.s, tc + x.c, tl + x.l, by omega, by go_num, rfl, rfl, rfl, rfl, by omega, by omega, by omega, by omega, q.below, Lib.hid (by rw [← HS.out]; exact HR.out)⟩
        case measure => simp [intOf]; omega
      · have HE : Hid ([tb, ts, tc, tl] = sumsR l) := by
          have h1 := HR.out; rw [List.drop_eq_nil_of_le (by omega)] at h1; exact h1
        clear hrd
        go_wp2
        go_ret2
        rw [← HE.out]
        exact ⟨_, _, rfl, ⟨rfl, by simp, .inr ⟨_, [], rfl, hbr.size, by simpa using Lies.new wr 3 #[.int .i64 tb, .int .i64 ts, .int .i64 tc, .int .i64 tl]⟩⟩, hbr.alloc hbr.size _⟩

set_option maxHeartbeats 1000000 in
theorem implSums_any (A : Option Addr) (c : Nat) (l : List Row) (w : World) (h : RowsR w w.heap.size A l) :
    Calls Try.prog 30 #[.slice A l.length c] w fun e w' => ∃ A' c', e = .returned (.tuple #[.slice A' (sumsR l).length c', .bool (goodRows l)]) ∧ OwnS w' w.heap.size 3 1 A' (sumsR l).length (encIs (sumsR l)) ∧ Below w.heap.size w w' := by
  have hl := h.big
  have hrd := h.row
  cases hg : goodRows l
  · have HG := Lib.hid hg; clear hg hrd
    have HF : Hid (sumsR l = []) := by unfold sumsR; rw [HG.out]; rfl
    go_enter Try.func30, Try.ntmps30
    go_wp2_with (go_at_call 48; refine (areOfficeRows_any A c l _ h).mono ?_; rw [HG.out]; rintro e w1 ⟨rfl, hb1⟩)
    go_ret2
    rw [HF.out]
    exact ⟨_, _, rfl, ⟨rfl, by simp, .inl ⟨rfl, rfl⟩⟩, hb1⟩
  · have h12 := good_len hg
    have HA : Hid (∀ i (hi : i < l.length), l[i].ok = true) := fun i hi => good_at hg hi
    have HF : Hid (sumsFrom 0 0 0 0 (l.drop 0) = sumsR l) := by unfold sumsR; rw [hg]; rfl
    have HG := Lib.hid hg; clear hg
    have hmk : ∀ W : World, (Instr.makeSlice 41 (.int .i64 4) (.int .i64 4)).run Try.prog W = .ok (.slice (some ⟨W.heap.size, 0, none⟩) 4 4) (W.alloc (.cells #[.int .i64 0, .int .i64 0, .int .i64 0, .int .i64 0] 3)) := fun _ => by kernel_rfl
    go_enter Try.func30, Try.ntmps30
    go_wp2_with (go_at_call 48; refine (areOfficeRows_any A c l _ h).mono ?_; rw [HG.out]; rintro e w1 ⟨rfl, hb1⟩)
    have hbW := hb1.alloc hb1.size (.cells #[.int .i64 0, .int .i64 0, .int .i64 0, .int .i64 0] 3)
    have hlW := Lies.new w1 3 #[.int .i64 0, .int .i64 0, .int .i64 0, .int .i64 0]
    have hgW := hb1.size
    generalize w1.alloc (.cells #[.int .i64 0, .int .i64 0, .int .i64 0, .int .i64 0] 3) = W at hbW hlW ⊢
    generalize w1.heap.size = g at hlW hgW ⊢
    go_loopw [13] (fun i wr => ∃ (k : Nat) (tb ts tc tl : Int), k ≤ l.length ∧ i = .int .i64 k ∧ (0 ≤ tb ∧ tb ≤ 9999 * (k : Int)) ∧ (0 ≤ ts ∧ ts ≤ 9999 * (k : Int)) ∧ (-(1000000 * (k : Int)) ≤ tc ∧ tc ≤ 1000000 * (k : Int)) ∧ (0 ≤ tl ∧ tl ≤ 999 * (k : Int)) ∧ Below w.heap.size w wr ∧ Hid (Lies wr g 3 (encIs [tb, ts, tc, tl])) ∧ Hid (sumsFrom tb ts tc tl (l.drop k) = sumsR l)) (fun i _ => l.length - (intOf i).toNat)
    case atStart => exact ⟨0, 0, 0, 0, 0, Nat.zero_le _, rfl, by omega, by omega, by omega, by omega, hbW, hlW, HF⟩
    case round =>
      clear hb1 hbW hlW
      obtain ⟨k, tb, ts, tc, tl, hk, rfl, ⟨b1, b2⟩, ⟨s1, s2⟩, ⟨m1, m2⟩, ⟨n1, n2⟩, hbr, HL, HR⟩ := hrel
      by_cases hlt : k < l.length
      · obtain ⟨b, off, rfl, hb, hcell⟩ := hrd (by omega)
        obtain ⟨c0, c1, c2, c3, c4⟩ := hcell k hlt
        obtain ⟨_, hxb, hxs, hxc, hxl⟩ := Row.bounds (HA.out k hlt)
        have HS : Hid (sumsFrom tb ts tc tl (l.drop k) = sumsFrom (tb + l[k].b) (ts + l[k].s) (tc + l[k].c) (tl + l[k].l) (l.drop (k + 1))) := sums_step hlt _ _ _ _
        obtain ⟨x, hxe⟩ : ∃ x, x = l[k] := ⟨_, rfl⟩
        rw [← hxe] at c0 c1 c2 c3 c4 hxb hxs hxc hxl HS
        clear hxe hcell hrd
        obtain ⟨xb1, xb2⟩ := hxb
        obtain ⟨xs1, xs2⟩ := hxs
        obtain ⟨xc1, xc2⟩ := hxc
        obtain ⟨xl1, xl2⟩ := hxl
        obtain ⟨q, rfl⟩ : ∃ q : Since w.heap.size w, wr = q.val := ⟨⟨wr, hbr⟩, rfl⟩
        go_wp2
        have hbW := q.below.alloc q.size (.cells #[.int .i64 x.m, .int .i64 x.b, .int .i64 x.s, .int .i64 x.c, .int .i64 x.l] 25)
        have hlW := Lies.new q.val 25 #[.int .i64 x.m, .int .i64 x.b, .int .i64 x.s, .int .i64 x.c, .int .i64 x.l]
        have hlG := HL.out.alloc (.cells #[.int .i64 x.m, .int .i64 x.b, .int .i64 x.s, .int .i64 x.c, .int .i64 x.l] 25)
        have hgl := HL.out.lt
        generalize q.val.alloc (.cells #[.int .i64 x.m, .int .i64 x.b, .int .i64 x.s, .int .i64 x.c, .int .i64 x.l] 25) = V at hbW hlW hlG ⊢
        generalize q.val.heap.size = gx at hlW hgl ⊢
        clear c0 c1 c2 c3 c4 HL
        have d1 := hlW.cell 1
        have d2 := hlW.cell 2
        have d3 := hlW.cell 3
        have d4 := hlW.cell 4
        have e0 := hlG.cell 0
        have e1 := hlG.cell 1
        have e2 := hlG.cell 2
        have e3 := hlG.cell 3
        have f0 := hlG.frozen 0
        have f1 := hlG.frozen 1
        have f2 := hlG.frozen 2
        have f3 := hlG.frozen 3
        simp only [List.getElem?_cons_zero, List.getElem?_cons_succ, List.map_cons] at d1 d2 d3 d4 e0 e1 e2 e3
        go_region
        go_wp2
        go_region
        go_wp2
        go_region
        go_wp2
        go_region
        go_wp2
        go_roundw
        case rel => exact ⟨k + 1, tb + x.b, ts + x.s, tc + x.c, tl + x.l, by omega, by go_num, by omega, by omega, by omega, by omega, by go_grown, (((hlG.set 0 _).set 1 _).set 2 _).set 3 _, Lib.hid (by rw [← HS.out]; exact HR.out)⟩
        case measure => simp [intOf]; omega
      · have HE : Hid ([tb, ts, tc, tl] = sumsR l) := by
          have h1 := HR.out; rw [List.drop_eq_nil_of_le (by omega)] at h1; exact h1
        clear hrd
        go_wp2
        go_ret2
        rw [← HE.out]
        exact ⟨_, _, rfl, ⟨rfl, by simp, .inr ⟨_, [], rfl, hgW, by simpa using HL.out⟩⟩, hbr⟩
end Go.Proofs.Ytgdjdejfegkjdaa
