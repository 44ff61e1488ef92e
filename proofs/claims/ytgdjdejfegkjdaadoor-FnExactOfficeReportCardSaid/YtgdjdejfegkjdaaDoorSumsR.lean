/- The sums of office rows, in the reference (cut out of XRowSums for a seat that has this side alone). -/
import Derived.Test.YtgdjdejfegkjdaaDoorRowGoodR
import Derived.Test.YtgdjdejfegkjdaaDoorOwnR
namespace Go.Proofs.YtgdjdejfegkjdaaDoor
open Go.RowKit

theorem inR_iff {n lo hi : Int} : inR n lo hi = true ↔ lo ≤ n ∧ n ≤ hi := by simp [inR]
theorem Row.bounds {r : Row} (h : r.ok = true) : (1 ≤ r.m ∧ r.m ≤ 1200) ∧ (0 ≤ r.b ∧ r.b ≤ 9999) ∧ (0 ≤ r.s ∧ r.s ≤ 9999) ∧ (-1000000 ≤ r.c ∧ r.c ≤ 1000000) ∧ (0 ≤ r.l ∧ r.l ≤ 999) := by
  simp only [Row.ok, Bool.and_eq_true, inR_iff] at h
  exact ⟨h.1.1.1.1, h.1.1.1.2, h.1.1.2, h.1.2, h.2⟩
theorem goodFrom_all : ∀ (l : List Row) (n : Nat) (p : Int), goodFrom n p l = true → n + l.length ≤ 12 ∧ ∀ x ∈ l, x.ok = true
  | [], n, p, h => by simp [goodFrom] at h; simpa using h
  | r :: l, n, p, h => by
    simp only [goodFrom, Bool.and_eq_true] at h
    obtain ⟨h1, h2⟩ := goodFrom_all l _ _ h.2
    refine ⟨by simp; omega, fun x hx => ?_⟩
    rcases List.mem_cons.1 hx with rfl | hx
    · exact h.1.1
    · exact h2 x hx
theorem good_len {l : List Row} (h : goodRows l = true) : l.length ≤ 12 := by have := (goodFrom_all l 0 0 h).1; omega
theorem good_at {l : List Row} (h : goodRows l = true) {i : Nat} (hi : i < l.length) : l[i].ok = true := (goodFrom_all l 0 0 h).2 _ (List.getElem_mem hi)

theorem lies_rows {W : World} {g : Nat} {t : TypeId} {l : List Row} (h : Lies W g t (l.flatMap Row.enc)) (hn : l.length ≤ 9223372036854775807) : RowsR W W.heap.size (some ⟨g, 0, none⟩) l :=
  Lies.reads h (flat_len Row.enc 5 Row.enc_len l) hn
def sumsFrom : Int → Int → Int → Int → List Row → List Int
  | b, s, c, l, [] => [b, s, c, l]
  | b, s, c, l, r :: rest => sumsFrom (b + r.b) (s + r.s) (c + r.c) (l + r.l) rest
theorem sums_step {l : List Row} {k : Nat} (h : k < l.length) (b s c m : Int) : sumsFrom b s c m (l.drop k) = sumsFrom (b + l[k].b) (s + l[k].s) (c + l[k].c) (m + l[k].l) (l.drop (k + 1)) := by
  rw [List.drop_eq_getElem_cons h]; rfl
def sumsR (l : List Row) : List Int := if goodRows l then sumsFrom 0 0 0 0 l else []

set_option maxHeartbeats 1000000 in
theorem specSums_any (A : Option Addr) (c : Nat) (l : List Row) (w : World) (h : RowsR w w.heap.size A l) :
    Calls Tryd.prog 21 #[.slice A l.length c] w fun e w' => ∃ A' c', e = .returned (.tuple #[.slice A' (sumsR l).length c', .bool (goodRows l)]) ∧ OwnS w' w.heap.size 3 1 A' (sumsR l).length (encIs (sumsR l)) ∧ Below w.heap.size w w' := by
  have hl := h.big
  have hrd := h.row
  cases hg : goodRows l
  · have HG := Lib.hid hg; clear hg hrd
    have HF : Hid (sumsR l = []) := by unfold sumsR; rw [HG.out]; rfl
    go_enter Tryd.func21, Tryd.ntmps21
    go_wp2_with (go_at_call 37; refine (l31Good_any A c l _ h).mono ?_; rw [HG.out]; rintro e w1 ⟨rfl, hb1⟩)
    go_ret2
    rw [HF.out]
    exact ⟨_, _, rfl, ⟨rfl, by simp, .inr ⟨_, [], rfl, hb1.size, by simpa using Lies.new w1 3 #[]⟩⟩, hb1.alloc hb1.size _⟩
  · have h12 := good_len hg
    have HA : Hid (∀ i (hi : i < l.length), l[i].ok = true) := fun i hi => good_at hg hi
    have HF : Hid (sumsFrom 0 0 0 0 (l.drop 0) = sumsR l) := by unfold sumsR; rw [hg]; rfl
    have HG := Lib.hid hg; clear hg
    go_enter Tryd.func21, Tryd.ntmps21
    go_wp2_with (go_at_call 37; refine (l31Good_any A c l _ h).mono ?_; rw [HG.out]; rintro e w1 ⟨rfl, hb1⟩)
    go_loopw [4, 5, 6, 7, 8] (fun b s m ln i wr => ∃ (k : Nat) (tb ts tc tl : Int), k ≤ l.length ∧ i = .int .i64 k ∧ b = .int .i64 tb ∧ s = .int .i64 ts ∧ m = .int .i64 tc ∧ ln = .int .i64 tl ∧ (0 ≤ tb ∧ tb ≤ 9999 * (k : Int)) ∧ (0 ≤ ts ∧ ts ≤ 9999 * (k : Int)) ∧ (-(1000000 * (k : Int)) ≤ tc ∧ tc ≤ 1000000 * (k : Int)) ∧ (0 ≤ tl ∧ tl ≤ 999 * (k : Int)) ∧ Below w.heap.size w wr ∧ Hid (sumsFrom tb ts tc tl (l.drop k) = sumsR l)) (fun _ _ _ _ i _ => l.length - (intOf i).toNat)
    case atStart => exact ⟨0, 0, 0, 0, 0, Nat.zero_le _, rfl, rfl, rfl, rfl, rfl, by omega, by omega, by omega, by omega, hb1, HF⟩
    case round =>
      clear hb1
      obtain ⟨k, tb, ts, tc, tl, hk, rfl, rfl, rfl, rfl, rfl, ⟨b1, b2⟩, ⟨s1, s2⟩, ⟨m1, m2⟩, ⟨n1, n2⟩, hbr, HR⟩ := hrel
      by_cases hlt : k < l.length
      · obtain ⟨b, off, rfl, hb, hcell⟩ := hrd (by omega)
        obtain ⟨c0, c1, c2, c3, c4⟩ := hcell k hlt
        obtain ⟨_, hxb, hxs, hxc, hxl⟩ := Row.bounds (HA.out k hlt)
        have HS : Hid (sumsFrom tb ts tc tl (l.drop k) = sumsFrom (tb + l[k].b) (ts + l[k].s) (tc + l[k].c) (tl + l[k].l) (l.drop (k + 1))) := sums_step hlt _ _ _ _
        obtain ⟨x, hxe⟩ : ∃ x, x = l[k] := ⟨_, rfl⟩
        rw [← hxe] at c0 c1 c2 c3 c4 hxb hxs hxc hxl HS
        clear hxe hcell hrd
        obtain ⟨xb1, xb2⟩ := hxb
        obtain ⟨xs1, xs2⟩ := hxs
        obtain ⟨xc1, xc2⟩ := hxc
        obtain ⟨xl1, xl2⟩ := hxl
        obtain ⟨q, rfl⟩ : ∃ q : Since w.heap.size w, wr = q.val := ⟨⟨wr, hbr⟩, rfl⟩
        go_wp2
        go_roundw
        case rel => exact ⟨k + 1, tb + x.b, ts + x.s, tc + x.c, tl + x.l, by omega, by go_num, rfl, rfl, rfl, rfl, by omega, by omega, by omega, by omega, q.below, Lib.hid (by rw [← HS.out]; exact HR.out)⟩
        case measure => simp [intOf]; omega
      · have HE : Hid ([tb, ts, tc, tl] = sumsR l) := by
          have h1 := HR.out; rw [List.drop_eq_nil_of_le (by omega)] at h1; exact h1
        clear hrd
        go_wp2
        go_ret2
        rw [← HE.out]
        exact ⟨_, _, rfl, ⟨rfl, by simp, .inr ⟨_, [], rfl, hbr.size, by simpa using Lies.new wr 3 #[.int .i64 tb, .int .i64 ts, .int .i64 tc, .int .i64 tl]⟩⟩, hbr.alloc hbr.size _⟩

theorem sumsFrom_len : ∀ (l : List Row) (b s c m : Int), (sumsFrom b s c m l).length = 4
  | [], _, _, _, _ => rfl
  | _ :: l, _, _, _, _ => sumsFrom_len l _ _ _ _
end Go.Proofs.YtgdjdejfegkjdaaDoor
