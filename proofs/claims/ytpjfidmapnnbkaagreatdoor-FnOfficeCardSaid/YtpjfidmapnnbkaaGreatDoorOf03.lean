/- Of03: the texts RowSums SumsR OfficeP Grown Cur CurEnv Facts FactsN FactsR Draw NewB RowStock, joined into one file. -/
import Derived.Laws.BitsAllLaws
import Derived.WalkKit
import Derived.Orders
import Derived.Deep.Draws
import Derived.Deep.DeepCutAuto
import Derived.Test.YtpjfidmapnnbkaaGreatDoorOf01
import Derived.Test.YtpjfidmapnnbkaaGreatDoorOf02

set_option linter.unusedVariables false

/- Rows of the office: marks on a copy; the sums, in the reference and in the program. -/
namespace Go.Proofs.YtpjfidmapnnbkaaGreatDoor
open Go.RowKit

def sumsFrom : Int → Int → Int → Int → List Row → List Int
  | b, s, c, l, [] => [b, s, c, l]
  | b, s, c, l, r :: rest => sumsFrom (b + r.b) (s + r.s) (c + r.c) (l + r.l) rest
theorem sums_step {l : List Row} {k : Nat} (h : k < l.length) (b s c m : Int) : sumsFrom b s c m (l.drop k) = sumsFrom (b + l[k].b) (s + l[k].s) (c + l[k].c) (m + l[k].l) (l.drop (k + 1)) := by
  rw [List.drop_eq_getElem_cons h]; rfl
def sumsR (l : List Row) : List Int := if goodRows l then sumsFrom 0 0 0 0 l else []

set_option maxHeartbeats 1000000 in
theorem specSums_any (A : Option Addr) (c : Nat) (l : List Row) (w : World) (h : RowsR w w.heap.size A l) :
    Calls Tryz.prog 50 #[.slice A l.length c] w fun e w' => ∃ A' c', e = .returned (.tuple #[.slice A' (sumsR l).length c', .bool (goodRows l)]) ∧ OwnS w' w.heap.size 3 1 A' (sumsR l).length (encIs (sumsR l)) ∧ Below w.heap.size w w' := by
  have hl := h.big
  have hrd := h.row
  cases hg : goodRows l
  · have HG := Lib.hid hg; clear hg hrd
    have HF : Hid (sumsR l = []) := by unfold sumsR; rw [HG.out]; rfl
    go_enter Tryz.func50, Tryz.ntmps50
    go_wp2_with (go_at_call 47; refine (l31Good_any A c l _ h).mono ?_; rw [HG.out]; rintro e w1 ⟨rfl, hb1⟩)
    go_ret2
    rw [HF.out]
    exact ⟨_, _, rfl, ⟨rfl, by simp, .inr ⟨_, [], rfl, hb1.size, by simpa using Lies.new w1 3 #[]⟩⟩, hb1.alloc hb1.size _⟩
  · have h12 := good_len hg
    have HA : Hid (∀ i (hi : i < l.length), l[i].ok = true) := fun i hi => good_at hg hi
    have HF : Hid (sumsFrom 0 0 0 0 (l.drop 0) = sumsR l) := by unfold sumsR; rw [hg]; rfl
    have HG := Lib.hid hg; clear hg
    go_enter Tryz.func50, Tryz.ntmps50
    go_wp2_with (go_at_call 47; refine (l31Good_any A c l _ h).mono ?_; rw [HG.out]; rintro e w1 ⟨rfl, hb1⟩)
    go_loopw [4, 5, 6, 7, 8] (fun b s m ln i wr => ∃ (k : Nat) (tb ts tc tl : Int), k ≤ l.length ∧ i = .int .i64 k ∧ b = .int .i64 tb ∧ s = .int .i64 ts ∧ m = .int .i64 tc ∧ ln = .int .i64 tl ∧ (0 ≤ tb ∧ tb ≤ 9999 * (k : Int)) ∧ (0 ≤ ts ∧ ts ≤ 9999 * (k : Int)) ∧ (-(1000000 * (k : Int)) ≤ tc ∧ tc ≤ 1000000 * (k : Int)) ∧ (0 ≤ tl ∧ tl ≤ 999 * (k : Int)) ∧ Below w.heap.size w wr ∧ Hid (sumsFrom tb ts tc tl (l.drop k) = sumsR l)) (fun _ _ _ _ i _ => l.length - (intOf i).toNat)
    case atStart => exact ⟨0, 0, 0, 0, 0, Nat.zero_le _, rfl, rfl, rfl, rfl, rfl, by omega, by omega, by omega, by omega, hb1, HF⟩
    case round =>
      clear hb1
      obtain ⟨k, tb, ts, tc, tl, hk, rfl, rfl, rfl, rfl, rfl, ⟨b1, b2⟩, ⟨s1, s2⟩, ⟨m1, m2⟩, ⟨n1, n2⟩, hbr, HR⟩ := hrel
      by_cases hlt : k < l.length
      · obtain ⟨b, off, rfl, hb, hcell⟩ := hrd (by omega)
        obtain ⟨c0, c1, c2, c3, c4⟩ := hcell k hlt
        obtain ⟨_, hxb, hxs, hxc, hxl⟩ := Row.bounds (HA.out k hlt)
        have HS : Hid (sumsFrom tb ts tc tl (l.drop k) = sumsFrom (tb + l[k].b) (ts + l[k].s) (tc + l[k].c) (tl + l[k].l) (l.drop (k + 1))) := sums_step hlt _ _ _ _
        obtain ⟨x, hxe⟩ : ∃ x, x = l[k] := ⟨_, rfl⟩
        rw [← hxe] at c0 c1 c2 c3 c4 hxb hxs hxc hxl HS
        clear hxe hcell hrd
        obtain ⟨xb1, xb2⟩ := hxb
        obtain ⟨xs1, xs2⟩ := hxs
        obtain ⟨xc1, xc2⟩ := hxc
        obtain ⟨xl1, xl2⟩ := hxl
        obtain ⟨q, rfl⟩ : ∃ q : Since w.heap.size w, wr = q.val := ⟨⟨wr, hbr⟩, rfl⟩
        go_wp2
        go_roundw
        case rel => exact ⟨k + 1, tb + x.b, ts + x.s, tc + x.c, tl + x.l, by omega, by go_num, rfl, rfl, rfl, rfl, by omega, by omega, by omega, by omega, q.below, Lib.hid (by rw [← HS.out]; exact HR.out)⟩
        case measure => simp [intOf]; omega
      · have HE : Hid ([tb, ts, tc, tl] = sumsR l) := by
          have h1 := HR.out; rw [List.drop_eq_nil_of_le (by omega)] at h1; exact h1
        clear hrd
        go_wp2
        go_ret2
        rw [← HE.out]
        exact ⟨_, _, rfl, ⟨rfl, by simp, .inr ⟨_, [], rfl, hbr.size, by simpa using Lies.new wr 3 #[.int .i64 tb, .int .i64 ts, .int .i64 tc, .int .i64 tl]⟩⟩, hbr.alloc hbr.size _⟩

set_option maxHeartbeats 1000000 in
theorem implSums_any (A : Option Addr) (c : Nat) (l : List Row) (w : World) (h : RowsR w w.heap.size A l) :
    Calls Tryz.prog 16 #[.slice A l.length c] w fun e w' => ∃ A' c', e = .returned (.tuple #[.slice A' (sumsR l).length c', .bool (goodRows l)]) ∧ OwnS w' w.heap.size 3 1 A' (sumsR l).length (encIs (sumsR l)) ∧ Below w.heap.size w w' := by
  have hl := h.big
  have hrd := h.row
  cases hg : goodRows l
  · have HG := Lib.hid hg; clear hg hrd
    have HF : Hid (sumsR l = []) := by unfold sumsR; rw [HG.out]; rfl
    go_enter Tryz.func16, Tryz.ntmps16
    go_wp2_with (go_at_call 41; refine (areOfficeRows_any A c l _ h).mono ?_; rw [HG.out]; rintro e w1 ⟨rfl, hb1⟩)
    go_ret2
    rw [HF.out]
    exact ⟨_, _, rfl, ⟨rfl, by simp, .inl ⟨rfl, rfl⟩⟩, hb1⟩
  · have h12 := good_len hg
    have HA : Hid (∀ i (hi : i < l.length), l[i].ok = true) := fun i hi => good_at hg hi
    have HF : Hid (sumsFrom 0 0 0 0 (l.drop 0) = sumsR l) := by unfold sumsR; rw [hg]; rfl
    have HG := Lib.hid hg; clear hg
    have hmk : ∀ W : World, (Instr.makeSlice 39 (.int .i64 4) (.int .i64 4)).run Tryz.prog W = .ok (.slice (some ⟨W.heap.size, 0, none⟩) 4 4) (W.alloc (.cells #[.int .i64 0, .int .i64 0, .int .i64 0, .int .i64 0] 3)) := fun _ => by kernel_rfl
    go_enter Tryz.func16, Tryz.ntmps16
    go_wp2_with (go_at_call 41; refine (areOfficeRows_any A c l _ h).mono ?_; rw [HG.out]; rintro e w1 ⟨rfl, hb1⟩)
    have hbW := hb1.alloc hb1.size (.cells #[.int .i64 0, .int .i64 0, .int .i64 0, .int .i64 0] 3)
    have hlW := Lies.new w1 3 #[.int .i64 0, .int .i64 0, .int .i64 0, .int .i64 0]
    have hgW := hb1.size
    generalize w1.alloc (.cells #[.int .i64 0, .int .i64 0, .int .i64 0, .int .i64 0] 3) = W at hbW hlW ⊢
    generalize w1.heap.size = g at hlW hgW ⊢
    go_loopw [13] (fun i wr => ∃ (k : Nat) (tb ts tc tl : Int), k ≤ l.length ∧ i = .int .i64 k ∧ (0 ≤ tb ∧ tb ≤ 9999 * (k : Int)) ∧ (0 ≤ ts ∧ ts ≤ 9999 * (k : Int)) ∧ (-(1000000 * (k : Int)) ≤ tc ∧ tc ≤ 1000000 * (k : Int)) ∧ (0 ≤ tl ∧ tl ≤ 999 * (k : Int)) ∧ Below w.heap.size w wr ∧ Hid (Lies wr g 3 (encIs [tb, ts, tc, tl])) ∧ Hid (sumsFrom tb ts tc tl (l.drop k) = sumsR l)) (fun i _ => l.length - (intOf i).toNat)
    case atStart => exact ⟨0, 0, 0, 0, 0, Nat.zero_le _, rfl, by omega, by omega, by omega, by omega, hbW, hlW, HF⟩
    case round =>
      clear hb1 hbW hlW
      obtain ⟨k, tb, ts, tc, tl, hk, rfl, ⟨b1, b2⟩, ⟨s1, s2⟩, ⟨m1, m2⟩, ⟨n1, n2⟩, hbr, HL, HR⟩ := hrel
      by_cases hlt : k < l.length
      · obtain ⟨b, off, rfl, hb, hcell⟩ := hrd (by omega)
        obtain ⟨c0, c1, c2, c3, c4⟩ := hcell k hlt
        obtain ⟨_, hxb, hxs, hxc, hxl⟩ := Row.bounds (HA.out k hlt)
        have HS : Hid (sumsFrom tb ts tc tl (l.drop k) = sumsFrom (tb + l[k].b) (ts + l[k].s) (tc + l[k].c) (tl + l[k].l) (l.drop (k + 1))) := sums_step hlt _ _ _ _
        obtain ⟨x, hxe⟩ : ∃ x, x = l[k] := ⟨_, rfl⟩
        rw [← hxe] at c0 c1 c2 c3 c4 hxb hxs hxc hxl HS
        clear hxe hcell hrd
        obtain ⟨xb1, xb2⟩ := hxb
        obtain ⟨xs1, xs2⟩ := hxs
        obtain ⟨xc1, xc2⟩ := hxc
        obtain ⟨xl1, xl2⟩ := hxl
        obtain ⟨q, rfl⟩ : ∃ q : Since w.heap.size w, wr = q.val := ⟨⟨wr, hbr⟩, rfl⟩
        go_wp2
        have hbW := q.below.alloc q.size (.cells #[.int .i64 x.m, .int .i64 x.b, .int .i64 x.s, .int .i64 x.c, .int .i64 x.l] 25)
        have hlW := Lies.new q.val 25 #[.int .i64 x.m, .int .i64 x.b, .int .i64 x.s, .int .i64 x.c, .int .i64 x.l]
        have hlG := HL.out.alloc (.cells #[.int .i64 x.m, .int .i64 x.b, .int .i64 x.s, .int .i64 x.c, .int .i64 x.l] 25)
        have hgl := HL.out.lt
        generalize q.val.alloc (.cells #[.int .i64 x.m, .int .i64 x.b, .int .i64 x.s, .int .i64 x.c, .int .i64 x.l] 25) = V at hbW hlW hlG ⊢
        generalize q.val.heap.size = gx at hlW hgl ⊢
        clear c0 c1 c2 c3 c4 HL
        have d1 := hlW.cell 1
        have d2 := hlW.cell 2
        have d3 := hlW.cell 3
        have d4 := hlW.cell 4
        have e0 := hlG.cell 0
        have e1 := hlG.cell 1
        have e2 := hlG.cell 2
        have e3 := hlG.cell 3
        have f0 := hlG.frozen 0
        have f1 := hlG.frozen 1
        have f2 := hlG.frozen 2
        have f3 := hlG.frozen 3
        simp only [List.getElem?_cons_zero, List.getElem?_cons_succ, List.map_cons] at d1 d2 d3 d4 e0 e1 e2 e3
        go_region
        go_wp2
        go_region
        go_wp2
        go_region
        go_wp2
        go_region
        go_wp2
        go_roundw
        case rel => exact ⟨k + 1, tb + x.b, ts + x.s, tc + x.c, tl + x.l, by omega, by go_num, by omega, by omega, by omega, by omega, by go_grown, (((hlG.set 0 _).set 1 _).set 2 _).set 3 _, Lib.hid (by rw [← HS.out]; exact HR.out)⟩
        case measure => simp [intOf]; omega
      · have HE : Hid ([tb, ts, tc, tl] = sumsR l) := by
          have h1 := HR.out; rw [List.drop_eq_nil_of_le (by omega)] at h1; exact h1
        clear hrd
        go_wp2
        go_ret2
        rw [← HE.out]
        exact ⟨_, _, rfl, ⟨rfl, by simp, .inr ⟨_, [], rfl, hgW, by simpa using HL.out⟩⟩, hbr⟩
end Go.Proofs.YtpjfidmapnnbkaaGreatDoor

/- The sums of office rows: what XRowSums lacks. -/
namespace Go.Proofs.YtpjfidmapnnbkaaGreatDoor
open Go.RowKit

theorem lies_rows {W : World} {g : Nat} {t : TypeId} {l : List Row} (h : Lies W g t (l.flatMap Row.enc)) (hn : l.length ≤ 9223372036854775807) : RowsR W W.heap.size (some ⟨g, 0, none⟩) l :=
  Lies.reads h (flat_len Row.enc 5 Row.enc_len l) hn
theorem sumsFrom_len : ∀ (l : List Row) (b s c m : Int), (sumsFrom b s c m l).length = 4
  | [], _, _, _, _ => rfl
  | _ :: l, _, _, _, _ => sumsFrom_len l _ _ _ _
end Go.Proofs.YtpjfidmapnnbkaaGreatDoor

/- Joined rows: their sums add up, and the order of the two lists is no matter (plain). -/
namespace Go.Proofs.YtpjfidmapnnbkaaGreatDoor
open Go.RowKit

theorem mergeR_comm : ∀ (n : Nat) (a b : List Row), a.length + b.length ≤ n → mergeR a b = mergeR b a
  | _, [], b, _ => by rw [mergeR_nil, mergeR]
  | _, a, [], _ => by rw [mergeR_nil, mergeR]
  | 0, x :: a, y :: b, h => by simp at h
  | n + 1, x :: a, y :: b, h => by
    simp only [List.length_cons] at h
    by_cases h1 : x.m < y.m
    · rw [mergeR, if_pos h1, mergeR_comm n a (y :: b) (by simp only [List.length_cons]; omega)]
      conv => rhs; rw [mergeR]
      rw [if_neg (by omega), if_pos h1]
    · by_cases h2 : y.m < x.m
      · conv => lhs; rw [mergeR]
        conv => rhs; rw [mergeR]
        rw [if_neg h1, if_pos h2, if_pos h2, mergeR_comm n (x :: a) b (by simp only [List.length_cons]; omega)]
      · conv => lhs; rw [mergeR]
        conv => rhs; rw [mergeR]
        rw [if_neg h1, if_neg h2, if_neg h2, if_neg h1, mergeR_comm n a b (by omega)]
        congr 1
        unfold addR
        congr 1 <;> omega
/-- One column, summed. -/
def tot (f : Row → Int) : List Row → Int
  | [] => 0
  | r :: l => f r + tot f l
theorem sumsFrom_tot : ∀ (l : List Row) (b s c m : Int), sumsFrom b s c m l = [b + tot Row.b l, s + tot Row.s l, c + tot Row.c l, m + tot Row.l l]
  | [], b, s, c, m => by simp [sumsFrom, tot]
  | r :: l, b, s, c, m => by
    rw [sumsFrom, sumsFrom_tot l]
    simp only [tot, List.cons.injEq, and_true]
    refine ⟨?_, ?_, ?_, ?_⟩ <;> omega
theorem tot_merge (f : Row → Int) (hf : ∀ x y, f (addR x y) = f x + f y) : ∀ (n : Nat) (a b : List Row), a.length + b.length ≤ n → tot f (mergeR a b) = tot f a + tot f b
  | _, [], b, _ => by rw [mergeR]; simp [tot]
  | _, a, [], _ => by rw [mergeR_nil]; simp [tot]
  | 0, x :: a, y :: b, h => by simp at h
  | n + 1, x :: a, y :: b, h => by
    simp only [List.length_cons] at h
    rw [mergeR]
    split
    · rw [tot, tot_merge f hf n a (y :: b) (by simp only [List.length_cons]; omega)]; simp only [tot]; omega
    · split
      · rw [tot, tot_merge f hf n (x :: a) b (by simp only [List.length_cons]; omega)]; simp only [tot]; omega
      · rw [tot, tot_merge f hf n a b (by omega), hf]; simp only [tot]; omega
theorem tot_bound (f : Row → Int) (M : Int) (hM : 0 ≤ M) : ∀ (l : List Row), (∀ r ∈ l, -M ≤ f r ∧ f r ≤ M) → -(M * l.length) ≤ tot f l ∧ tot f l ≤ M * l.length
  | [], _ => by simp [tot]
  | r :: l, h => by
    have h1 := h r (by simp)
    have h2 := tot_bound f M hM l fun x hx => h x (by simp [hx])
    have e : M * ((r :: l).length : Int) = M * l.length + M := by simp only [List.length_cons]; rw [Int.natCast_succ, Int.mul_add, Int.mul_one]
    rw [e]
    simp only [tot]; omega
theorem sums_bound {l : List Row} (h : goodRows l = true) {k : Nat} (hk : k < (sumsR l).length) : -12000000 ≤ (sumsR l)[k] ∧ (sumsR l)[k] ≤ 12000000 := by
  have hl := good_len h
  have hb : ∀ f : Row → Int, (∀ r : Row, r.ok = true → -1000000 ≤ f r ∧ f r ≤ 1000000) → -12000000 ≤ tot f l ∧ tot f l ≤ 12000000 := fun f hf => by
    have := tot_bound f 1000000 (by omega) l fun r hr => by
      obtain ⟨i, hi, rfl⟩ := List.getElem_of_mem hr
      exact hf _ (good_at h hi)
    omega
  have e : sumsR l = [0 + tot Row.b l, 0 + tot Row.s l, 0 + tot Row.c l, 0 + tot Row.l l] := by unfold sumsR; rw [h, if_pos rfl, sumsFrom_tot]
  have h1 := hb Row.b fun r hr => by obtain ⟨_, h1, _⟩ := Row.bounds hr; omega
  have h2 := hb Row.s fun r hr => by obtain ⟨_, _, h1, _⟩ := Row.bounds hr; omega
  have h3 := hb Row.c fun r hr => by obtain ⟨_, _, _, h1, _⟩ := Row.bounds hr; omega
  have h4 := hb Row.l fun r hr => by obtain ⟨_, _, _, _, h1⟩ := Row.bounds hr; omega
  have hk4 : k < 4 := by rw [e] at hk; simpa using hk
  have key : ∀ (L : List Int) (hL : L = [0 + tot Row.b l, 0 + tot Row.s l, 0 + tot Row.c l, 0 + tot Row.l l]) (hk : k < L.length), -12000000 ≤ L[k] ∧ L[k] ≤ 12000000 := by
    rintro L rfl hk
    match k, hk4 with
    | 0, _ => simp only [List.getElem_cons_zero]; omega
    | 1, _ => simp only [List.getElem_cons_zero, List.getElem_cons_succ]; omega
    | 2, _ => simp only [List.getElem_cons_zero, List.getElem_cons_succ]; omega
    | 3, _ => simp only [List.getElem_cons_zero, List.getElem_cons_succ]; omega
  exact key _ e hk
theorem sums_good {l : List Row} (h : goodRows l = true) : (sumsR l).length = 4 := by unfold sumsR; rw [h, if_pos rfl, sumsFrom_len]
/-- What the law asks of the joined rows. -/
theorem join_law {a b out : List Row} (h : joinBoth a b = (out, true)) : joinBoth b a = (out, true) ∧ goodRows a = true ∧ goodRows b = true ∧ goodRows out = true ∧
    (sumsR out).length = 4 ∧ (sumsR a).length = 4 ∧ (sumsR b).length = 4 ∧
    ∀ k (h0 : k < (sumsR out).length) (h1 : k < (sumsR a).length) (h2 : k < (sumsR b).length), (sumsR out)[k] = (sumsR a)[k] + (sumsR b)[k] := by
  unfold joinBoth at h
  split at h
  · next hg =>
    split at h
    · next hm =>
      injection h with h1 _
      simp only [Bool.and_eq_true] at hg
      have hc := mergeR_comm _ a b (Nat.le_refl _)
      subst h1
      refine ⟨?_, hg.1, hg.2, hm, sums_good hm, sums_good hg.1, sums_good hg.2, ?_⟩
      · unfold joinBoth; rw [hg.1, hg.2, ← hc, hm]; rfl
      · have ea : sumsR a = [0 + tot Row.b a, 0 + tot Row.s a, 0 + tot Row.c a, 0 + tot Row.l a] := by unfold sumsR; rw [hg.1, if_pos rfl, sumsFrom_tot]
        have eb : sumsR b = [0 + tot Row.b b, 0 + tot Row.s b, 0 + tot Row.c b, 0 + tot Row.l b] := by unfold sumsR; rw [hg.2, if_pos rfl, sumsFrom_tot]
        have eo : sumsR (mergeR a b) = [0 + tot Row.b (mergeR a b), 0 + tot Row.s (mergeR a b), 0 + tot Row.c (mergeR a b), 0 + tot Row.l (mergeR a b)] := by unfold sumsR; rw [hm, if_pos rfl, sumsFrom_tot]
        have t := fun f hf => tot_merge f hf _ a b (Nat.le_refl _)
        have t1 := t Row.b fun _ _ => rfl
        have t2 := t Row.s fun _ _ => rfl
        have t3 := t Row.c fun _ _ => rfl
        have t4 := t Row.l fun _ _ => rfl
        have key : ∀ (L M N : List Int), L = [0 + tot Row.b (mergeR a b), 0 + tot Row.s (mergeR a b), 0 + tot Row.c (mergeR a b), 0 + tot Row.l (mergeR a b)] → M = [0 + tot Row.b a, 0 + tot Row.s a, 0 + tot Row.c a, 0 + tot Row.l a] → N = [0 + tot Row.b b, 0 + tot Row.s b, 0 + tot Row.c b, 0 + tot Row.l b] →
            ∀ k (h0 : k < L.length) (h1 : k < M.length) (h2 : k < N.length), L[k] = M[k] + N[k] := by
          rintro L M N rfl rfl rfl k h0 h1 h2
          have hk4 : k < 4 := by simpa using h0
          match k, hk4 with
          | 0, _ => simp only [List.getElem_cons_zero]; omega
          | 1, _ => simp only [List.getElem_cons_zero, List.getElem_cons_succ]; omega
          | 2, _ => simp only [List.getElem_cons_zero, List.getElem_cons_succ]; omega
          | 3, _ => simp only [List.getElem_cons_zero, List.getElem_cons_succ]; omega
        exact key _ _ _ eo ea eb
    · cases h
  · cases h
end Go.Proofs.YtpjfidmapnnbkaaGreatDoor

/- Worlds that grow (no program in sight). -/
namespace Go.Proofs.YtpjfidmapnnbkaaGreatDoor
open Go.RowKit

theorem grown_trans {a b c : World} {row : Option Nat} (h : a.grownBy b row) (k : b.grownBy c row) : a.grownBy c row :=
  ⟨k.os.trans h.os, k.tape.trans h.tape, k.output.trans h.output, Nat.le_trans h.size k.size, fun j hj hne => (k.block j (Nat.lt_of_lt_of_le hj h.size) hne).trans (h.block j hj hne)⟩
end Go.Proofs.YtpjfidmapnnbkaaGreatDoor

/- The drawing cursor of the reference: next, pick, one, among. -/
namespace Go.Proofs.YtpjfidmapnnbkaaGreatDoor
open Go.RowKit

abbrev encBs (l : List UInt8) : List Value := l.map fun b => Value.int .u8 (b.toNat : Int)
theorem encBs_len (l : List UInt8) : (encBs l).length = l.length * 1 := by simp
/-- A slice of bytes reads. -/
abbrev BytesR (w : World) (B : Nat) (A : Option Addr) (l : List UInt8) : Prop := SlcR w B 1 A l.length (encBs l)

theorem grown_drew {a w : World} {row : Option Nat} (h : a.grownBy w row) : a.grownBy w.drew row := ⟨h.os, h.tape, h.output, h.size, h.block⟩
theorem wrap_u64 (n : Int) : 0 ≤ IntKind.u64.wrap n ∧ IntKind.u64.wrap n < 18446744073709551616 := by
  simp [IntKind.wrap, IntKind.signed, IntKind.bits]; omega

theorem and255 (E : Int) (h0 : 0 ≤ E) (h1 : E < 18446744073709551616) : ∃ b : Nat, b ≤ 255 ∧ wrap64 (bits .and .u64 E 255) = (b : Int) := by
  refine ⟨E.toNat &&& 255, Nat.and_le_right, ?_⟩
  rw [u64_and E 255 h0 h1 (by omega) (by omega)]
  have he : (255 : Int).toNat = 255 := rfl
  rw [he]
  have : E.toNat &&& 255 ≤ 255 := Nat.and_le_right
  unfold wrap64; omega

/-- A cursor at block g, over code; at most m steps made. -/
def CurS (w : World) (g : Nat) (A : Option Addr) (n cap m : Nat) : Prop :=
  ∃ (p : Nat) (seed : Int), Lies w g 59 [.slice A n cap, .int .i64 p, .int .u64 seed] ∧ p ≤ m ∧ 0 ≤ seed ∧ seed < 18446744073709551616

set_option maxHeartbeats 1000000 in
theorem next_any (g : Nat) (A : Option Addr) (cap m : Nat) (bs : List UInt8) (w : World) (hm : m ≤ 1000000000) (hc : CurS w g A bs.length cap m) (hr : BytesR w g A bs) :
    Calls Tryz.prog 85 #[.pointer (some ⟨g, 0, none⟩)] w fun e w' => ∃ b : Nat, e = .returned (.int .i64 b) ∧ b ≤ 255 ∧ CurS w' g A bs.length cap (m + 1) ∧ w.grownBy w' (some g) := by
  obtain ⟨p, seed, hL, hp, hs0, hs1⟩ := hc
  have hl := hr.big
  have k0 := hL.cell 0
  have k1 := hL.cell 1
  have k2 := hL.cell 2
  have f1 := hL.frozen 1
  have f2 := hL.frozen 2
  simp only [List.getElem?_cons_zero, List.getElem?_cons_succ] at k0 k1 k2
  by_cases hlt : p < bs.length
  · obtain ⟨b, off, rfl, hb, hcell⟩ := hr.at_ (by omega)
    have kc := hcell p (.int .u8 (bs[p].toNat : Int)) (by simp [hlt])
    have hx : bs[p].toNat < 256 := bs[p].toNat_lt
    generalize bs[p].toNat = x at kc hx
    clear hcell hr
    go_enter Tryz.func85, Tryz.ntmps85
    go_wp2
    go_region
    go_wp2
    go_region
    go_wp2
    go_region
    go_wp2
    · go_ret
      exact ⟨x, rfl, by omega, ⟨p + 1, _, (hL.set 1 _).set 2 _, by omega, (wrap_u64 _).1, (wrap_u64 _).2⟩, grown_drew (grown_drew (grown_drew (grown_set (grown_set (World.grownBy.refl w _)))))⟩
  · clear hr
    go_enter Tryz.func85, Tryz.ntmps85
    go_wp2
    go_region
    go_wp2
    go_region
    go_wp2
    · have hw := wrap_u64 (IntKind.u64.wrap (IntKind.u64.wrap (seed * 6364136223846793005)) + 381907)
      obtain ⟨y, hy, he⟩ := and255 (IntKind.u64.wrap (IntKind.u64.wrap (IntKind.u64.wrap (seed * 6364136223846793005)) + 381907) / 1099511627776) (Int.ediv_nonneg hw.1 (by omega)) (by omega)
      rw [he]
      go_ret
      exact ⟨y, rfl, hy, ⟨p + 1, _, (hL.set 1 _).set 2 _, by omega, hw.1, hw.2⟩, grown_drew (grown_drew (grown_set (grown_set (World.grownBy.refl w _))))⟩

theorem CurS.mono {w : World} {g : Nat} {A : Option Addr} {n cap m m' : Nat} (h : CurS w g A n cap m) (hm : m ≤ m') : CurS w g A n cap m' := by
  obtain ⟨p, s, h1, h2, h3⟩ := h
  exact ⟨p, s, h1, by omega, h3⟩
theorem CurS.lt {w : World} {g : Nat} {A : Option Addr} {n cap m : Nat} (h : CurS w g A n cap m) : g < w.heap.size := by
  obtain ⟨p, s, h1, _⟩ := h
  exact h1.lt
/-- Others than the cursor's own block read as before. -/
theorem SlcR.grown {w w' : World} {B k n g : Nat} {A : Option Addr} {cs : List Value} (h : SlcR w B k A n cs) (hg : w.grownBy w' (some g)) (hB : B ≤ g) (hgw : g < w.heap.size) : SlcR w' B k A n cs :=
  h.keep fun p hp => grown_cell hg p (by omega) (by intro e; injection e; omega)

set_option maxHeartbeats 1000000 in
theorem pick_any (g : Nat) (A : Option Addr) (cap m n : Nat) (bs : List UInt8) (w : World) (hn : n ≤ 100000) (hm : m ≤ 900000000) (hc : CurS w g A bs.length cap m) (hr : BytesR w g A bs) :
    Calls Tryz.prog 66 #[.pointer (some ⟨g, 0, none⟩), .int .i64 n] w fun e w' => ∃ x : Nat, e = .returned (.int .i64 x) ∧ x ≤ n - 1 ∧ CurS w' g A bs.length cap (m + 2) ∧ w.grownBy w' (some g) := by
  by_cases h1 : n ≤ 1
  · have h1' : (n : Int) ≤ 1 := by omega
    go_enter Tryz.func66, Tryz.ntmps66
    go_wp2
    go_ret
    exact ⟨0, rfl, by omega, hc.mono (by omega), World.grownBy.refl w _⟩
  · have h1' : ¬ (n : Int) ≤ 1 := by omega
    have hz : ((n : Int) == 0) = false := by rw [beq_eq_false_iff_ne]; omega
    have hz2 : (n : Int) ≠ 0 := by omega
    by_cases h2 : n ≤ 200
    · go_enter Tryz.func66, Tryz.ntmps66
      go_wp2_with fail
      refine (next_any g A cap m bs _ (by omega) hc hr).mono ?_
      rintro e w1 ⟨b, rfl, hb, hc1, hg1⟩
      go_wp2
      go_ret
      refine ⟨b % n, by rw [Int.natCast_emod]; rfl, ?_, hc1.mono (by omega), hg1⟩
      have := Nat.mod_lt b (show 0 < n by omega)
      omega
    · go_enter Tryz.func66, Tryz.ntmps66
      go_wp2_with fail
      refine (next_any g A cap m bs _ (by omega) hc hr).mono ?_
      rintro e w1 ⟨b, rfl, hb, hc1, hg1⟩
      go_wp2_with fail
      refine (next_any g A cap (m + 1) bs _ (by omega) hc1 (hr.grown hg1 (Nat.le_refl _) hc.lt)).mono ?_
      rintro e w2 ⟨b2, rfl, hb2, hc2, hg2⟩
      go_wp2
      go_ret
      refine ⟨(b * 256 + b2) % n, by rw [Int.natCast_emod]; rfl, ?_, hc2, grown_trans hg1 hg2⟩
      have := Nat.mod_lt (b * 256 + b2) (show 0 < n by omega)
      omega

theorem one_any (g : Nat) (A : Option Addr) (cap m n : Nat) (bs : List UInt8) (w : World) (hn : n ≤ 100000) (hm : m ≤ 900000000) (hc : CurS w g A bs.length cap m) (hr : BytesR w g A bs) :
    Calls Tryz.prog 35 #[.pointer (some ⟨g, 0, none⟩), .int .i64 n] w fun e w' => ∃ x : Bool, e = .returned (.bool x) ∧ CurS w' g A bs.length cap (m + 2) ∧ w.grownBy w' (some g) := by
  go_enter Tryz.func35, Tryz.ntmps35
  go_wp2_with fail
  refine (pick_any g A cap m n bs _ hn hm hc hr).mono ?_
  rintro e w1 ⟨b, rfl, hb, hc1, hg1⟩
  go_wp2
  go_ret
  exact ⟨_, rfl, hc1, hg1⟩

theorem among_any (g : Nat) (A A' : Option Addr) (cap c' m : Nat) (bs : List UInt8) (l : List Int) (w : World) (hl : 0 < l.length) (hl' : l.length ≤ 100000) (hm : m ≤ 900000000) (hc : CurS w g A bs.length cap m) (hr : BytesR w g A bs) (hi : IntsR w w.heap.size A' l) (hne : A'.map (·.block) ≠ some g) :
    Calls Tryz.prog 34 #[.pointer (some ⟨g, 0, none⟩), .slice A' l.length c'] w fun e w' => ∃ x : Int, e = .returned (.int .i64 x) ∧ x ∈ l ∧ CurS w' g A bs.length cap (m + 2) ∧ w.grownBy w' (some g) := by
  obtain ⟨b, off, rfl, hb, hcell⟩ := hi.at_ hl
  go_enter Tryz.func34, Tryz.ntmps34
  go_wp2_with fail
  refine (pick_any g A cap m l.length bs _ hl' hm hc hr).mono ?_
  rintro e w1 ⟨x, rfl, hx, hc1, hg1⟩
  have hlt : x < l.length := by omega
  have kc : w1.cell? ⟨b, off + x, none⟩ = some (.int .i64 l[x]) := by
    rw [grown_cell hg1 _ hb (by simpa using hne)]; exact hcell x _ (by simp [hlt])
  have hmem : l[x] ∈ l := List.getElem_mem hlt
  generalize l[x] = y at kc hmem
  go_wp2
  go_ret
  exact ⟨y, rfl, hmem, hc1, hg1⟩
end Go.Proofs.YtpjfidmapnnbkaaGreatDoor

/- The drawing cursor, as drawing functions carry it. -/
namespace Go.Proofs.YtpjfidmapnnbkaaGreatDoor
open Go.RowKit

/-- The cursor at block g, in a world W that came from w. -/
structure Env (w W : World) (g : Nat) (A : Option Addr) (bs : List UInt8) (cap m : Nat) : Prop where
  cur : CurS W g A bs.length cap m
  rd : BytesR W g A bs
  gr : w.grownBy W (some g)
section
variable {w W : World} {g : Nat} {A : Option Addr} {bs : List UInt8} {cap m : Nat}
theorem grown_alloc {a w : World} {row : Option Nat} (h : a.grownBy w row) (o : Obj) : a.grownBy (w.alloc o) row := grown_trans h (World.grownBy_alloc w o row)
theorem CurS.alloc {n : Nat} (h : CurS W g A n cap m) (o : Obj) : CurS (W.alloc o) g A n cap m := by
  obtain ⟨p, s, h1, h2⟩ := h
  exact ⟨p, s, h1.alloc o, h2⟩
theorem CurS.kept {W' : World} {n : Nat} {row : Option Nat} (h : CurS W g A n cap m) (hb : W.grownBy W' row) (hne : some g ≠ row) : CurS W' g A n cap m := by
  obtain ⟨p, s, h1, h2⟩ := h
  exact ⟨p, s, h1.kept hb hne, h2⟩
theorem Env.alloc (E : Env w W g A bs cap m) (o : Obj) : Env w (W.alloc o) g A bs cap m :=
  ⟨E.cur.alloc o, E.rd.grown (World.grownBy_alloc W o (some g)) (Nat.le_refl _) E.cur.lt, grown_alloc E.gr o⟩
theorem Env.lt (E : Env w W g A bs cap m) : g < W.heap.size := E.cur.lt
/-- A block of the call's own is written. -/
theorem Env.wrote {W' : World} {h : Nat} (E : Env w W g A bs cap m) (hb : W.grownBy W' (some h)) (hw : w.heap.size ≤ h) (hgh : g < h) : Env w W' g A bs cap m :=
  ⟨E.cur.kept hb (by intro e; injection e; omega), E.rd.keep fun p hp => grown_cell hb p (by have := E.lt; omega) (by intro e; injection e; omega),
   ⟨hb.os.trans E.gr.os, hb.tape.trans E.gr.tape, hb.output.trans E.gr.output, Nat.le_trans E.gr.size hb.size, fun j hj hn => (hb.block j (Nat.lt_of_lt_of_le hj E.gr.size) (by intro e; injection e; omega)).trans (E.gr.block j hj hn)⟩⟩
theorem Env.mono {m' : Nat} (E : Env w W g A bs cap m) (hm : m ≤ m') : Env w W g A bs cap m' := ⟨E.cur.mono hm, E.rd, E.gr⟩
theorem Env.next {W' : World} {m' : Nat} (E : Env w W g A bs cap m) (hc : CurS W' g A bs.length cap m') (hg : W.grownBy W' (some g)) : Env w W' g A bs cap m' :=
  ⟨hc, E.rd.grown hg (Nat.le_refl _) E.lt, grown_trans E.gr hg⟩
theorem Env.start (hc : CurS w g A bs.length cap m) (hr : BytesR w g A bs) : Env w w g A bs cap m := ⟨hc, hr, World.grownBy.refl w _⟩

theorem pick_env (E : Env w W g A bs cap m) (n : Nat) (hn : n ≤ 100000) (hm : m ≤ 900000000) :
    Calls Tryz.prog 66 #[.pointer (some ⟨g, 0, none⟩), .int .i64 n] W fun e w' => ∃ x : Nat, e = .returned (.int .i64 x) ∧ x ≤ n - 1 ∧ Env w w' g A bs cap (m + 2) ∧ W.grownBy w' (some g) :=
  (pick_any g A cap m n bs W hn hm E.cur E.rd).mono fun _ _ ⟨x, he, hx, hc, hg⟩ => ⟨x, he, hx, E.next hc hg, hg⟩
theorem one_env (E : Env w W g A bs cap m) (n : Nat) (hn : n ≤ 100000) (hm : m ≤ 900000000) :
    Calls Tryz.prog 35 #[.pointer (some ⟨g, 0, none⟩), .int .i64 n] W fun e w' => ∃ x : Bool, e = .returned (.bool x) ∧ Env w w' g A bs cap (m + 2) ∧ W.grownBy w' (some g) :=
  (one_any g A cap m n bs W hn hm E.cur E.rd).mono fun _ _ ⟨x, he, hc, hg⟩ => ⟨x, he, E.next hc hg, hg⟩
/-- One of a list that was built for the call. -/
theorem among_env (E : Env w W g A bs cap m) (l : List Int) (k : Nat) (hk : l.length = k) (vs : Array Value) (hv : vs.toList = encIs l) (hl : 0 < k) (hl' : k ≤ 100000) (hm : m ≤ 900000000) :
    Calls Tryz.prog 34 #[.pointer (some ⟨g, 0, none⟩), .slice (some ⟨W.heap.size, 0, none⟩) k k] (W.alloc (.cells vs 3)) fun e w' => ∃ x : Int, e = .returned (.int .i64 x) ∧ x ∈ l ∧ Env w w' g A bs cap (m + 2) ∧ W.grownBy w' (some g) := by
  subst hk
  have E1 := E.alloc (.cells vs 3)
  have hL := Lies.new W 3 vs
  rw [hv] at hL
  have hi : IntsR (W.alloc (.cells vs 3)) (W.alloc (.cells vs 3)).heap.size (some ⟨W.heap.size, 0, none⟩) l := hL.reads (encIs_len l) (by omega)
  refine (among_any g A _ cap _ m bs l _ hl hl' hm E1.cur E1.rd hi (by have := E.lt; intro e; injection e with e; simp only at e; omega)).mono ?_
  rintro e w' ⟨x, he, hx, hc, hg⟩
  exact ⟨x, he, hx, E1.next hc hg, grown_trans (World.grownBy_alloc W _ _) hg⟩
end
end Go.Proofs.YtpjfidmapnnbkaaGreatDoor

/- A region whose order is drawn, by one fact on each operation: no orders are walked. -/
namespace Go.Proofs.YtpjfidmapnnbkaaGreatDoor
open Go.RowKit

section
variable {P : Program} {ops : Array Oper} {Q : Exit → Act → World → Prop} {md : Region.Mode}

/-- The values vs in the temporaries of the operations. -/
def fillOps (vs : Nat → Value) : List Oper → Nat → Act → Act
  | [], _, a => a
  | o :: l, k, a => fillOps vs l (k + 1) (a.put o.dst (vs k))
def dstsApart : List Oper → Bool
  | [] => true
  | o :: l => l.all (fun p => match o.dst with | none => true | some d => p.dst != some d) && dstsApart l
def upd (vs : Nat → Value) (i : Nat) (v : Value) : Nat → Value := fun j => if j = i then v else vs j

theorem fillOps_put (vs : Nat → Value) {d : Option Tmp} {v : Value} : ∀ (l : List Oper) (k : Nat) (a : Act), (∀ p ∈ l, ∀ t, d = some t → p.dst ≠ some t) → (fillOps vs l k a).put d v = fillOps vs l k (a.put d v)
  | [], _, _, _ => rfl
  | o :: l, k, a, h => by
    unfold fillOps
    rw [fillOps_put vs l (k + 1) _ (fun p hp => h p (List.mem_cons_of_mem _ hp))]
    rw [Act.put_comm a (vs k) v (x := o.dst) (y := d) (fun t ht hd => h o (by simp) t hd ht)]
theorem fillOps_congr {vs vs' : Nat → Value} : ∀ (l : List Oper) (k : Nat) (a : Act), (∀ j, k ≤ j → vs j = vs' j) → fillOps vs l k a = fillOps vs' l k a
  | [], _, _, _ => rfl
  | o :: l, k, a, h => by
    unfold fillOps
    rw [h k (Nat.le_refl _), fillOps_congr l (k + 1) _ (fun j hj => h j (by omega))]
theorem Act.put_put (a : Act) (d : Option Tmp) (u v : Value) : (a.put d u).put d v = a.put d v := by
  cases d with
  | none => rfl
  | some d =>
    simp only [Act.put]
    congr 1
    apply Array.ext (by simp)
    intro i h1 h2
    simp
theorem fillOps_upd : ∀ (l : List Oper) (k : Nat) (a : Act) (vs : Nat → Value) (i : Nat) (o : Oper) (v : Value), dstsApart l = true → l[i]? = some o →
    (fillOps vs l k a).put o.dst v = fillOps (upd vs (k + i) v) l k a
  | [], _, _, _, _, _, _, _, h => by simp at h
  | p :: l, k, a, vs, 0, o, v, hd, h => by
    simp only [List.getElem?_cons_zero, Option.some.injEq] at h; subst h
    simp only [dstsApart, Bool.and_eq_true, List.all_eq_true] at hd
    unfold fillOps
    rw [fillOps_put vs l (k + 1) _ (fun q hq t ht => by
      have := hd.1 q hq; rw [ht] at this; simpa using this), Act.put_put]
    rw [fillOps_congr (vs := vs) (vs' := upd vs (k + 0) v) l (k + 1) _ (fun j hj => by unfold upd; rw [if_neg (by omega)])]
    congr 2
    simp [upd]
  | p :: l, k, a, vs, i + 1, o, v, hd, h => by
    simp only [dstsApart, Bool.and_eq_true] at hd
    unfold fillOps
    rw [fillOps_upd l (k + 1) _ vs i o v hd.2 (by simpa using h)]
    have : k + 1 + i = k + (i + 1) := by omega
    rw [this]
    congr 2
    unfold upd; rw [if_neg (by omega)]
theorem Act.put_self (a : Act) (t : Tmp) (u : Value) : a.put (some t) (a.tmps.getD t u) = a := by
  simp only [Act.put]
  obtain ⟨tmps, defers⟩ := a
  congr 1
  apply Array.ext_getElem?
  intro i
  by_cases e : t = i
  · subst e
    by_cases h2 : t < tmps.size
    · simp [h2]
    · simp [h2]
  · rw [Array.getElem?_setIfInBounds_ne e]
theorem fillOps_self (vs : Nat → Value) : ∀ (l : List Oper) (k : Nat) (a : Act), (∀ i o t, l[i]? = some o → o.dst = some t → vs (k + i) = a.tmps.getD t undef) → fillOps vs l k a = a
  | [], _, _, _ => rfl
  | o :: l, k, a, h => by
    unfold fillOps
    have e : a.put o.dst (vs k) = a := by
      cases hd : o.dst with
      | none => rfl
      | some t =>
        have h0 := h 0 o t (by simp) hd
        rw [Nat.add_zero] at h0
        rw [h0, Act.put_self]
    rw [e]
    exact fillOps_self vs l (k + 1) a (fun i o' t h1 h2 => by
      have := h (i + 1) o' t (by simpa using h1) h2
      rwa [show k + (i + 1) = k + 1 + i by omega] at this)

/-- j comes ahead of k, whatever order is drawn. -/
def ahead (md : Region.Mode) (ops : Array Oper) : Nat → Nat → Nat → Bool
  | 0, _, _ => false
  | fuel + 1, k, j => match ops[k]? with
    | none => false
    | some o => o.after.any fun e => Region.binds md e && (e.on == j || ahead md ops fuel e.on j)
def edgesDown (md : Region.Mode) (ops : Array Oper) : Bool :=
  (List.range ops.size).all fun k => match ops[k]? with
    | none => true
    | some o => o.after.all fun e => !Region.binds md e || decide (e.on < k)

def Closed (md : Region.Mode) (ops : Array Oper) (listed : Array Bool) : Prop :=
  ∀ j o, ops[j]? = some o → listed.getD j false = true → ∀ e ∈ o.after, Region.binds md e = true → listed.getD e.on false = true

theorem ahead_listed {listed : Array Bool} (hc : Closed md ops listed) : ∀ (fuel k j : Nat), (∀ o, ops[k]? = some o → ∀ e ∈ o.after, Region.binds md e = true → listed.getD e.on false = true) → ahead md ops fuel k j = true → listed.getD j false = true
  | 0, _, _, _, h => by simp [ahead] at h
  | fuel + 1, k, j, hk, h => by
    unfold ahead at h
    cases ho : ops[k]? with
    | none => simp [ho] at h
    | some o =>
      simp only [ho] at h
      obtain ⟨e, he, hb⟩ := Array.any_eq_true'.1 h
      simp only [Bool.and_eq_true, Bool.or_eq_true, beq_iff_eq] at hb
      have h1 := hk o ho e he hb.1
      rcases hb.2 with h2 | h2
      · rw [← h2]; exact h1
      · exact ahead_listed hc fuel e.on j (fun o' ho' => hc e.on o' ho' h1) h2

/-- The walk: a fact R on each operation's value; the facts of those that come ahead are at hand. -/
def wpFacts (P : Program) (ops : Array Oper) (Q : Exit → Act → World → Prop) (C : World → Prop) (T : World → World → Prop) (fr : (Nat → Value) → Act) : Nat → List Oper → List (Value → World → Prop) → Prop
  | _, [], Rs => ∀ vs w, C w → (∀ (j : Nat) (R : Value → World → Prop), Rs[j]? = some R → R (vs j) w) → Q .normal (fr vs) w
  | k, o :: l, Rs => ∃ R : Value → World → Prop, (∀ v w w', R v w → T w w' → R v w') ∧
    (∀ vs w, C w → (∀ (j : Nat) (R' : Value → World → Prop), ahead .any ops ops.size k j = true → Rs[j]? = some R' → R' (vs j) w) → ∀ K : Act → World → Prop, (∀ a' v w', a' = (fr vs).put o.dst v → R v w' → C w' → T w w' → K a' w') →
      if Region.wanted o (yielded ops (fr vs).tmps) = true then o.wp P (fr vs) w K Q else K ((fr vs).put o.dst undef) w) ∧
    wpFacts P ops Q C T fr (k + 1) l (Rs ++ [R])

/-- What the walk gives: the facts, one for each operation. -/
theorem wpFacts_all {C : World → Prop} {T : World → World → Prop} {fr : (Nat → Value) → Act} : ∀ (l : List Oper) (k : Nat) (Rs : List (Value → World → Prop)), (∀ i, l[i]? = ops[k + i]?) → Rs.length = k →
    (∀ (j : Nat) (R : Value → World → Prop), Rs[j]? = some R → ∀ v w w', R v w → T w w' → R v w') →
    (∀ (j : Nat) (o : Oper) (R : Value → World → Prop), j < k → ops[j]? = some o → Rs[j]? = some R → ∀ vs w, C w → (∀ (j' : Nat) (R' : Value → World → Prop), ahead .any ops ops.size j j' = true → j' < j → Rs[j']? = some R' → R' (vs j') w) → ∀ K : Act → World → Prop, (∀ a' v w', a' = (fr vs).put o.dst v → R v w' → C w' → T w w' → K a' w') →
      if Region.wanted o (yielded ops (fr vs).tmps) = true then o.wp P (fr vs) w K Q else K ((fr vs).put o.dst undef) w) →
    wpFacts P ops Q C T fr k l Rs →
    ∃ Rs' : List (Value → World → Prop), Rs'.length = k + l.length ∧ (∀ (j : Nat) (R : Value → World → Prop), Rs'[j]? = some R → ∀ v w w', R v w → T w w' → R v w') ∧
    (∀ (j : Nat) (o : Oper) (R : Value → World → Prop), ops[j]? = some o → Rs'[j]? = some R → ∀ vs w, C w → (∀ (j' : Nat) (R' : Value → World → Prop), ahead .any ops ops.size j j' = true → j' < j → Rs'[j']? = some R' → R' (vs j') w) → ∀ K : Act → World → Prop, (∀ a' v w', a' = (fr vs).put o.dst v → R v w' → C w' → T w w' → K a' w') →
      if Region.wanted o (yielded ops (fr vs).tmps) = true then o.wp P (fr vs) w K Q else K ((fr vs).put o.dst undef) w) ∧
    (∀ vs w, C w → (∀ (j : Nat) (R : Value → World → Prop), Rs'[j]? = some R → R (vs j) w) → Q .normal (fr vs) w)
  | [], k, Rs, hl, hlen, hst, hop, h => by
    refine ⟨Rs, by simpa using hlen, hst, fun j o R ho hR => hop j o R ?_ ho hR, h⟩
    rw [← hlen]; exact (List.getElem?_eq_some_iff.1 hR).1
  | o :: l, k, Rs, hl, hlen, hst, hop, h => by
    obtain ⟨R, hRs, hRo, hrest⟩ := h
    have ho : ops[k]? = some o := by simpa using (hl 0).symm
    have hold : ∀ j, j < k → (Rs ++ [R])[j]? = Rs[j]? := fun j hj => List.getElem?_append_left (by omega)
    have hnew : (Rs ++ [R])[k]? = some R := by rw [List.getElem?_append_right (by omega), hlen]; simp
    obtain ⟨Rs', h1, h2, h3, h4⟩ := wpFacts_all l (k + 1) (Rs ++ [R]) (fun i => by have := hl (i + 1); simpa [Nat.add_assoc, Nat.add_comm 1 i] using this) (by simp [hlen])
      (fun j R' hR' => by
        rcases Nat.lt_trichotomy j k with hj | hj | hj
        · rw [hold j hj] at hR'; exact hst j R' hR'
        · subst hj; rw [hnew] at hR'; cases hR'; exact hRs
        · rw [List.getElem?_eq_none (by simp [hlen]; omega)] at hR'; cases hR')
      (fun j o' R' hj ho' hR' vs w hC hB K hK => by
        rcases Nat.lt_or_ge j k with hjk | hjk
        · rw [hold j hjk] at hR'
          exact hop j o' R' hjk ho' hR' vs w hC (fun j' R'' ha hlt h'' => hB j' R'' ha hlt (by rw [hold j' (by omega)]; exact h'')) K hK
        · obtain rfl : j = k := by omega
          rw [ho] at ho'; cases ho'
          rw [hnew] at hR'; cases hR'
          refine hRo vs w hC (fun j' R'' ha h'' => ?_) K hK
          have hlt : j' < Rs.length := (List.getElem?_eq_some_iff.1 h'').1
          exact hB j' R'' ha (by omega) (by rw [hold j' (by omega)]; exact h''))
      hrest
    exact ⟨Rs', by rw [h1]; simp; omega, h2, h3, h4⟩

theorem listed_ready {listed : Array Bool} (hdn : edgesDown .any ops = true) (hsz : listed.size = ops.size) (hr : Region.ready .any ops listed = []) : ∀ j, j < ops.size → listed.getD j false = true := by
  intro j
  induction j using Nat.strongRecOn with
  | ind j ih =>
    intro hj
    rcases hb : listed.getD j false with _ | _
    · exfalso
      have hmem : j ∈ Region.ready .any ops listed := by
        rw [mem_ready]
        refine ⟨?_, ops[j], Array.getElem?_eq_getElem hj, fun e he hbd => ?_⟩
        · have : j < listed.size := by omega
          simp only [Array.getD, this, ↓reduceDIte] at hb ⊢
          exact hb
        · have h1 := List.all_eq_true.1 hdn j (List.mem_range.2 hj)
          rw [Array.getElem?_eq_getElem hj] at h1
          have h2 := Array.all_eq_true_iff_forall_mem.1 h1 e he
          simp only [hbd, Bool.not_true, Bool.false_or, decide_eq_true_eq] at h2
          exact ih e.on h2 (by omega)
      rw [hr] at hmem; cases hmem
    · rfl

/-- How many have not come up. -/
def unlisted (n : Nat) (listed : Array Bool) : Nat := ((List.range n).filter fun j => !listed.getD j false).length
theorem unlisted_set {n i : Nat} {listed : Array Bool} (hi : i < n) (hs : listed.size = n) (h : listed.getD i false = false) : unlisted n (listed.setIfInBounds i true) < unlisted n listed := by
  unfold unlisted
  have e : ∀ l : List Nat, (l.filter fun j => !(listed.setIfInBounds i true).getD j false) = (l.filter fun j => !listed.getD j false).filter (fun j => j != i) := by
    intro l
    rw [List.filter_filter]
    apply List.filter_congr
    intro j _
    by_cases hji : j = i
    · subst hji; have : j < listed.size := by omega
      simp [this]
    · rw [getD_set_ne false (Ne.symm hji)]; simp [hji]
  rw [e]
  have hm : i ∈ (List.range n).filter fun j => !listed.getD j false := List.mem_filter.2 ⟨List.mem_range.2 hi, by rw [h]; rfl⟩
  generalize (List.range n).filter (fun j => !listed.getD j false) = l at hm
  clear e
  induction l with
  | nil => cases hm
  | cons x l ih =>
    rw [List.filter_cons]
    split
    · rename_i hx
      rcases List.mem_cons.1 hm with h' | h'
      · simp [h'] at hx
      · simpa using ih h'
    · exact Nat.lt_succ_of_le (List.length_filter_le _ _)

theorem wpAny_facts {C : World → Prop} {T : World → World → Prop} {a₀ : Act} (hap : dstsApart ops.toList = true) (hdn : edgesDown .any ops = true) (Rs : List (Value → World → Prop)) (hlen : Rs.length = ops.size)
    (hst : ∀ (j : Nat) (R : Value → World → Prop), Rs[j]? = some R → ∀ v w w', R v w → T w w' → R v w')
    (hop : ∀ (j : Nat) (o : Oper) (R : Value → World → Prop), ops[j]? = some o → Rs[j]? = some R → ∀ vs w, C w → (∀ (j' : Nat) (R' : Value → World → Prop), ahead .any ops ops.size j j' = true → j' < j → Rs[j']? = some R' → R' (vs j') w) → ∀ K : Act → World → Prop, (∀ a' v w', a' = (fillOps vs ops.toList 0 a₀).put o.dst v → R v w' → C w' → T w w' → K a' w') →
      if Region.wanted o (yielded ops (fillOps vs ops.toList 0 a₀).tmps) = true then o.wp P (fillOps vs ops.toList 0 a₀) w K Q else K ((fillOps vs ops.toList 0 a₀).put o.dst undef) w)
    (hend : ∀ vs w, C w → (∀ (j : Nat) (R : Value → World → Prop), Rs[j]? = some R → R (vs j) w) → Q .normal (fillOps vs ops.toList 0 a₀) w) :
    ∀ (fuel : Nat) (listed : Array Bool) (vs : Nat → Value) (w : World), listed.size = ops.size → unlisted ops.size listed ≤ fuel → Closed .any ops listed → C w → (∀ (j : Nat) (R : Value → World → Prop), listed.getD j false = true → Rs[j]? = some R → R (vs j) w) →
      wpAny P .any ops Q fuel listed (fillOps vs ops.toList 0 a₀) w := by
  have hfin : ∀ (listed : Array Bool) (vs : Nat → Value) (w : World), listed.size = ops.size → C w → (∀ (j : Nat) (R : Value → World → Prop), listed.getD j false = true → Rs[j]? = some R → R (vs j) w) → Region.ready .any ops listed = [] → Q .normal (fillOps vs ops.toList 0 a₀) w :=
    fun listed vs w hs hC hR hr => hend vs w hC fun j R hj => hR j R (listed_ready hdn hs hr j (by rw [← hlen]; exact (List.getElem?_eq_some_iff.1 hj).1)) hj
  intro fuel
  induction fuel with
  | zero =>
    intro listed vs w hs hu hcl hC hR
    have hr : Region.ready .any ops listed = [] := by
      rw [List.eq_nil_iff_forall_not_mem]
      intro j hj
      obtain ⟨h0, o, ho, _⟩ := mem_ready.1 hj
      have hjs : j < ops.size := (Array.getElem?_eq_some_iff.1 ho).1
      have : unlisted ops.size (listed.setIfInBounds j true) < unlisted ops.size listed := unlisted_set hjs hs (by
        have : j < listed.size := by omega
        simp only [Array.getD, this, ↓reduceDIte] at h0 ⊢; exact h0)
      omega
    exact ⟨hr, hfin listed vs w hs hC hR hr⟩
  | succ fuel ih =>
    intro listed vs w hs hu hcl hC hR
    refine ⟨hfin listed vs w hs hC hR, fun i hi => ?_⟩
    obtain ⟨h0, o, ho, hall⟩ := mem_ready.1 hi
    have hisz : i < ops.size := (Array.getElem?_eq_some_iff.1 ho).1
    have hil : i < listed.size := by omega
    have h0' : listed.getD i false = false := by simp only [Array.getD, hil, ↓reduceDIte] at h0 ⊢; exact h0
    obtain ⟨R, hRi⟩ : ∃ R, Rs[i]? = some R := ⟨Rs[i]'(by omega), List.getElem?_eq_getElem (by omega)⟩
    have hstep := hop i o R ho hRi vs w hC (fun j' R' ha _ hR' => hR j' R' (ahead_listed hcl ops.size i j' (fun o' ho' => by rw [ho] at ho'; cases ho'; exact hall) ha) hR')
      (wpAny P .any ops Q fuel (listed.setIfInBounds i true)) (fun a' v w' ha hRv hC' hT => by
        rw [ha, fillOps_upd ops.toList 0 a₀ vs i o v hap (by simpa using ho), Nat.zero_add]
        refine ih _ _ _ (by simpa using hs) ?_ ?_ hC' ?_
        · have := unlisted_set hisz hs h0'; omega
        · intro j oj hoj hj e he hb
          by_cases hji : j = i
          · subst hji; rw [ho] at hoj; cases hoj; exact getD_set_true (hall e he hb)
          · rw [getD_set_ne false (Ne.symm hji)] at hj; exact getD_set_true (hcl j oj hoj hj e he hb)
        · intro j R' hj hR'
          by_cases hji : j = i
          · subst hji; rw [hRi] at hR'; cases hR'; simpa [upd] using hRv
          · rw [getD_set_ne false (Ne.symm hji)] at hj
            have := hst j R' hR' _ _ _ (hR j R' hj hR') hT
            simpa [upd, hji] using this)
    unfold wpOp
    simp only [ho]
    split
    · rename_i hw; rw [if_pos hw] at hstep; exact .inl hstep
    · rename_i hw; rw [if_neg hw] at hstep; exact hstep

/-- The region. -/
theorem wp_region_facts {id : Nat} {a : Act} {w : World} {l : List Oper} (C : World → Prop) (T : World → World → Prop) (hm : P.follows .mixedOrders = true) (hap : dstsApart l = true) (hdn : edgesDown .any l.toArray = true)
    (hC : C w.drew) (h : wpFacts P l.toArray Q C T (fun vs => fillOps vs l 0 a) 0 l []) : (Code.region id l.toArray true).wp P Q a w := by
  refine wp_region_any hm ?_
  obtain ⟨Rs, h1, h2, h3, h4⟩ := wpFacts_all (ops := l.toArray) l 0 [] (by simp) rfl (by simp) (by simp) h
  obtain ⟨vs, hvs⟩ : ∃ vs : Nat → Value, ∀ i o t, l[i]? = some o → o.dst = some t → vs (0 + i) = a.tmps.getD t undef :=
    ⟨fun i => match (l[i]?).bind (·.dst) with | some t => a.tmps.getD t undef | none => undef, fun i o t hi ht => by simp [hi, ht]⟩
  have := wpAny_facts (P := P) (Q := Q) (ops := l.toArray) (C := C) (T := T) (a₀ := a) hap hdn Rs (by simpa using h1) h2 h3 h4 l.toArray.size (Array.replicate l.toArray.size false) vs w.drew (by simp)
    (Nat.le_trans (List.length_filter_le _ _) (by simp)) (fun j o hj hl => by simp [Array.getD] at hl) hC (fun j R hl => by simp [Array.getD] at hl)
  rwa [fillOps_self vs _ 0 a (by simpa using hvs)] at this

theorem wpFacts_nil {C : World → Prop} {T : World → World → Prop} {fr : (Nat → Value) → Act} {k : Nat} {Rs : List (Value → World → Prop)} (h : ∀ vs w, C w → (∀ (j : Nat) (R : Value → World → Prop), Rs[j]? = some R → R (vs j) w) → Q .normal (fr vs) w) : wpFacts P ops Q C T fr k [] Rs := h
/-- An operation with one value. -/
theorem wpFacts_val {C : World → Prop} {T : World → World → Prop} {fr : (Nat → Value) → Act} {k : Nat} {o : Oper} {l : List Oper} {Rs : List (Value → World → Prop)} (V : Value)
    (h1 : ∀ vs w, C w → (∀ (j : Nat) (R' : Value → World → Prop), ahead .any ops ops.size k j = true → Rs[j]? = some R' → R' (vs j) w) → ∀ K : Act → World → Prop, (∀ a' w', a' = (fr vs).put o.dst V → C w' → T w w' → K a' w') →
      if Region.wanted o (yielded ops (fr vs).tmps) = true then o.wp P (fr vs) w K Q else K ((fr vs).put o.dst undef) w)
    (h2 : wpFacts P ops Q C T fr (k + 1) l (Rs ++ [fun v _ => v = V])) : wpFacts P ops Q C T fr k (o :: l) Rs :=
  ⟨fun v _ => v = V, fun _ _ _ h _ => h, fun vs w hC hB K hK => h1 vs w hC hB K fun a' w' ha hC' hT => hK a' V w' ha rfl hC' hT, h2⟩
/-- An operation whose value has a property. -/
theorem wpFacts_some {C : World → Prop} {T : World → World → Prop} {fr : (Nat → Value) → Act} {k : Nat} {o : Oper} {l : List Oper} {Rs : List (Value → World → Prop)} (R : Value → World → Prop) (hR : ∀ v w w', R v w → T w w' → R v w')
    (h1 : ∀ vs w, C w → (∀ (j : Nat) (R' : Value → World → Prop), ahead .any ops ops.size k j = true → Rs[j]? = some R' → R' (vs j) w) → ∀ K : Act → World → Prop, (∀ a' v w', a' = (fr vs).put o.dst v → R v w' → C w' → T w w' → K a' w') →
      if Region.wanted o (yielded ops (fr vs).tmps) = true then o.wp P (fr vs) w K Q else K ((fr vs).put o.dst undef) w)
    (h2 : wpFacts P ops Q C T fr (k + 1) l (Rs ++ [R])) : wpFacts P ops Q C T fr k (o :: l) Rs :=
  ⟨R, hR, h1, h2⟩
end
end Go.Proofs.YtpjfidmapnnbkaaGreatDoor

/- A region whose order is drawn: one fact on each operation, which may also speak of one operation that comes ahead; each operation has its own way to turn the world (T k). -/
namespace Go.Proofs.YtpjfidmapnnbkaaGreatDoor
open Go.RowKit

/-- A fact on an operation's value, and on the value of one that comes ahead of it. -/
structure FactN where
  D : Nat
  R : Value → Value → World → Prop
  Br : List Nat := []
def FactN.at (f : FactN) (vs : Nat → Value) (j : Nat) (w : World) : Prop := f.R (vs f.D) (vs j) w
/-- No other operation that may come behind it turns the fact. -/
def FactN.firm (ops : Array Oper) (T : Nat → World → World → Prop) (j : Nat) (f : FactN) : Prop := ∀ i, i ≠ j → i ∉ f.Br → ahead .any ops ops.size j i = false → ∀ u v w w', f.R u v w → T i w w' → f.R u v w'
/-- The fact still stands when operation k comes. -/
def FactN.live (ops : Array Oper) (k : Nat) (f : FactN) : Bool := f.Br.all fun i => i == k || ahead .any ops ops.size i k
def FactN.fine (ops : Array Oper) (j : Nat) (f : FactN) : Prop := (∀ u u' v w, f.R u v w → f.R u' v w) ∨ ahead .any ops ops.size j f.D = true
theorem FactN.eq {V : Value} {vs : Nat → Value} {j : Nat} {w : World} (h : FactN.at ⟨0, fun _ v _ => v = V, []⟩ vs j w) : vs j = V := h
/-- What has come up when operation k comes. -/
structure Gone (ops : Array Oper) (L : Nat → Bool) (k : Nat) : Prop where
  self : L k = false
  done : ∀ j, ahead .any ops ops.size k j = true → L j = true
  open_ : ∀ j, ahead .any ops ops.size j k = true → L j = false
def Listed.but (L : Nat → Bool) (k : Nat) : Nat → Bool := fun j => if j = k then true else L j
section
variable {P : Program} {ops : Array Oper} {Q : Exit → Act → World → Prop}

/-- The walk: a fact R on each operation's value; the facts of those that come ahead are at hand. -/
def wpFactsN (P : Program) (ops : Array Oper) (Q : Exit → Act → World → Prop) (C : (Nat → Bool) → World → Prop) (T : Nat → World → World → Prop) (fr : (Nat → Value) → Act) : Nat → List Oper → List FactN → Prop
  | _, [], Rs => ∀ vs L w, (∀ j, j < ops.size → L j = true) → C L w → (∀ (j : Nat) (R : FactN), R.Br = [] → Rs[j]? = some R → R.at vs j w) → Q .normal (fr vs) w
  | k, o :: l, Rs => ∃ R : FactN, R.fine ops k ∧ R.firm ops T k ∧
    (∀ vs L w, Gone ops L k → C L w → (∀ (j : Nat) (R' : FactN), ahead .any ops ops.size k j = true → R'.live ops k = true → Rs[j]? = some R' → R'.at vs j w) → ∀ K : Act → World → Prop, (∀ a' v w', a' = (fr vs).put o.dst v → R.R (vs R.D) v w' → C (Listed.but L k) w' → T k w w' → K a' w') →
      if Region.wanted o (yielded ops (fr vs).tmps) = true then o.wp P (fr vs) w K Q else K ((fr vs).put o.dst undef) w) ∧
    wpFactsN P ops Q C T fr (k + 1) l (Rs ++ [R])

/-- What the walk gives: the facts, one for each operation. -/
theorem wpFactsN_all {C : (Nat → Bool) → World → Prop} {T : Nat → World → World → Prop} {fr : (Nat → Value) → Act} : ∀ (l : List Oper) (k : Nat) (Rs : List FactN), (∀ i, l[i]? = ops[k + i]?) → Rs.length = k →
    (∀ (j : Nat) (R : FactN), Rs[j]? = some R → R.fine ops j ∧ R.firm ops T j) →
    (∀ (j : Nat) (o : Oper) (R : FactN), j < k → ops[j]? = some o → Rs[j]? = some R → ∀ vs L w, Gone ops L j → C L w → (∀ (j' : Nat) (R' : FactN), ahead .any ops ops.size j j' = true → R'.live ops j = true → j' < j → Rs[j']? = some R' → R'.at vs j' w) → ∀ K : Act → World → Prop, (∀ a' v w', a' = (fr vs).put o.dst v → R.R (vs R.D) v w' → C (Listed.but L j) w' → T j w w' → K a' w') →
      if Region.wanted o (yielded ops (fr vs).tmps) = true then o.wp P (fr vs) w K Q else K ((fr vs).put o.dst undef) w) →
    wpFactsN P ops Q C T fr k l Rs →
    ∃ Rs' : List FactN, Rs'.length = k + l.length ∧ (∀ (j : Nat) (R : FactN), Rs'[j]? = some R → R.fine ops j ∧ R.firm ops T j) ∧
    (∀ (j : Nat) (o : Oper) (R : FactN), ops[j]? = some o → Rs'[j]? = some R → ∀ vs L w, Gone ops L j → C L w → (∀ (j' : Nat) (R' : FactN), ahead .any ops ops.size j j' = true → R'.live ops j = true → j' < j → Rs'[j']? = some R' → R'.at vs j' w) → ∀ K : Act → World → Prop, (∀ a' v w', a' = (fr vs).put o.dst v → R.R (vs R.D) v w' → C (Listed.but L j) w' → T j w w' → K a' w') →
      if Region.wanted o (yielded ops (fr vs).tmps) = true then o.wp P (fr vs) w K Q else K ((fr vs).put o.dst undef) w) ∧
    (∀ vs L w, (∀ j, j < ops.size → L j = true) → C L w → (∀ (j : Nat) (R : FactN), R.Br = [] → Rs'[j]? = some R → R.at vs j w) → Q .normal (fr vs) w)
  | [], k, Rs, hl, hlen, hst, hop, h => by
    refine ⟨Rs, by simpa using hlen, hst, fun j o R ho hR => hop j o R ?_ ho hR, h⟩
    rw [← hlen]; exact (List.getElem?_eq_some_iff.1 hR).1
  | o :: l, k, Rs, hl, hlen, hst, hop, h => by
    obtain ⟨R, hRf, hRs, hRo, hrest⟩ := h
    have ho : ops[k]? = some o := by simpa using (hl 0).symm
    have hold : ∀ j, j < k → (Rs ++ [R])[j]? = Rs[j]? := fun j hj => List.getElem?_append_left (by omega)
    have hnew : (Rs ++ [R])[k]? = some R := by rw [List.getElem?_append_right (by omega), hlen]; simp
    obtain ⟨Rs', h1, h2, h3, h4⟩ := wpFactsN_all l (k + 1) (Rs ++ [R]) (fun i => by have := hl (i + 1); simpa [Nat.add_assoc, Nat.add_comm 1 i] using this) (by simp [hlen])
      (fun j R' hR' => by
        rcases Nat.lt_trichotomy j k with hj | hj | hj
        · rw [hold j hj] at hR'; exact hst j R' hR'
        · subst hj; rw [hnew] at hR'; cases hR'; exact ⟨hRf, hRs⟩
        · rw [List.getElem?_eq_none (by simp [hlen]; omega)] at hR'; cases hR')
      (fun j o' R' hj ho' hR' vs L w hG hC hB K hK => by
        rcases Nat.lt_or_ge j k with hjk | hjk
        · rw [hold j hjk] at hR'
          exact hop j o' R' hjk ho' hR' vs L w hG hC (fun j' R'' ha hv hlt h'' => hB j' R'' ha hv hlt (by rw [hold j' (by omega)]; exact h'')) K hK
        · obtain rfl : j = k := by omega
          rw [ho] at ho'; cases ho'
          rw [hnew] at hR'; cases hR'
          refine hRo vs L w hG hC (fun j' R'' ha hv h'' => ?_) K hK
          have hlt : j' < Rs.length := (List.getElem?_eq_some_iff.1 h'').1
          exact hB j' R'' ha hv (by omega) (by rw [hold j' (by omega)]; exact h''))
      hrest
    exact ⟨Rs', by rw [h1]; simp; omega, h2, h3, h4⟩

theorem getD_set_self {i : Nat} {listed : Array Bool} (h : i < listed.size) : (listed.setIfInBounds i true).getD i false = true := by simp [h]
theorem wpAny_factsN {C : (Nat → Bool) → World → Prop} {T : Nat → World → World → Prop} {a₀ : Act} (hap : dstsApart ops.toList = true) (hdn : edgesDown .any ops = true) (Rs : List FactN) (hlen : Rs.length = ops.size)
    (hst : ∀ (j : Nat) (R : FactN), Rs[j]? = some R → R.fine ops j ∧ R.firm ops T j)
    (hop : ∀ (j : Nat) (o : Oper) (R : FactN), ops[j]? = some o → Rs[j]? = some R → ∀ vs L w, Gone ops L j → C L w → (∀ (j' : Nat) (R' : FactN), ahead .any ops ops.size j j' = true → R'.live ops j = true → j' < j → Rs[j']? = some R' → R'.at vs j' w) → ∀ K : Act → World → Prop, (∀ a' v w', a' = (fillOps vs ops.toList 0 a₀).put o.dst v → R.R (vs R.D) v w' → C (Listed.but L j) w' → T j w w' → K a' w') →
      if Region.wanted o (yielded ops (fillOps vs ops.toList 0 a₀).tmps) = true then o.wp P (fillOps vs ops.toList 0 a₀) w K Q else K ((fillOps vs ops.toList 0 a₀).put o.dst undef) w)
    (hend : ∀ vs L w, (∀ j, j < ops.size → L j = true) → C L w → (∀ (j : Nat) (R : FactN), R.Br = [] → Rs[j]? = some R → R.at vs j w) → Q .normal (fillOps vs ops.toList 0 a₀) w) :
    ∀ (fuel : Nat) (listed : Array Bool) (vs : Nat → Value) (w : World), listed.size = ops.size → unlisted ops.size listed ≤ fuel → Closed .any ops listed → C (fun j => listed.getD j false) w → (∀ (j : Nat) (R : FactN), listed.getD j false = true → (∀ i ∈ R.Br, listed.getD i false = false) → Rs[j]? = some R → R.at vs j w) →
      wpAny P .any ops Q fuel listed (fillOps vs ops.toList 0 a₀) w := by
  have hfin : ∀ (listed : Array Bool) (vs : Nat → Value) (w : World), listed.size = ops.size → C (fun j => listed.getD j false) w → (∀ (j : Nat) (R : FactN), listed.getD j false = true → (∀ i ∈ R.Br, listed.getD i false = false) → Rs[j]? = some R → R.at vs j w) → Region.ready .any ops listed = [] → Q .normal (fillOps vs ops.toList 0 a₀) w :=
    fun listed vs w hs hC hR hr => hend vs _ w (fun j hj => listed_ready hdn hs hr j hj) hC fun j R hbr hj => hR j R (listed_ready hdn hs hr j (by rw [← hlen]; exact (List.getElem?_eq_some_iff.1 hj).1)) (by rw [hbr]; intro i hi; cases hi) hj
  intro fuel
  induction fuel with
  | zero =>
    intro listed vs w hs hu hcl hC hR
    have hr : Region.ready .any ops listed = [] := by
      rw [List.eq_nil_iff_forall_not_mem]
      intro j hj
      obtain ⟨h0, o, ho, _⟩ := mem_ready.1 hj
      have hjs : j < ops.size := (Array.getElem?_eq_some_iff.1 ho).1
      have : unlisted ops.size (listed.setIfInBounds j true) < unlisted ops.size listed := unlisted_set hjs hs (by
        have : j < listed.size := by omega
        simp only [Array.getD, this, ↓reduceDIte] at h0 ⊢; exact h0)
      omega
    exact ⟨hr, hfin listed vs w hs hC hR hr⟩
  | succ fuel ih =>
    intro listed vs w hs hu hcl hC hR
    refine ⟨hfin listed vs w hs hC hR, fun i hi => ?_⟩
    obtain ⟨h0, o, ho, hall⟩ := mem_ready.1 hi
    have hisz : i < ops.size := (Array.getElem?_eq_some_iff.1 ho).1
    have hil : i < listed.size := by omega
    have h0' : listed.getD i false = false := by simp only [Array.getD, hil, ↓reduceDIte] at h0 ⊢; exact h0
    obtain ⟨R, hRi⟩ : ∃ R, Rs[i]? = some R := ⟨Rs[i]'(by omega), List.getElem?_eq_getElem (by omega)⟩
    have hclo : ∀ j, ahead .any ops ops.size i j = true → listed.getD j false = true := fun j ha => ahead_listed hcl ops.size i j (fun o' ho' => by rw [ho] at ho'; cases ho'; exact hall) ha
    have hopn : ∀ j, ahead .any ops ops.size j i = true → listed.getD j false = false := fun j ha => by
      rcases hq : listed.getD j false with _ | _
      · rfl
      · have hl := ahead_listed hcl ops.size j i (fun o' ho' => hcl j o' ho' hq) ha
        rw [h0'] at hl; cases hl
    have hstep := hop i o R ho hRi vs (fun j => listed.getD j false) w ⟨h0', hclo, hopn⟩ hC (fun j' R' ha hv _ hR' => hR j' R' (ahead_listed hcl ops.size i j' (fun o' ho' => by rw [ho] at ho'; cases ho'; exact hall) ha) (fun i' hi' => by
        have hv' := List.all_eq_true.1 hv i' hi'
        simp only [Bool.or_eq_true, beq_iff_eq] at hv'
        rcases hv' with rfl | hv'
        · exact h0'
        · rcases hq : listed.getD i' false with _ | _
          · rfl
          · have hl := ahead_listed hcl ops.size i' i (fun o' ho' => hcl i' o' ho' hq) hv'
            rw [h0'] at hl; cases hl) hR')
      (wpAny P .any ops Q fuel (listed.setIfInBounds i true)) (fun a' v w' ha hRv hC' hT => by
        rw [ha, fillOps_upd ops.toList 0 a₀ vs i o v hap (by simpa using ho), Nat.zero_add]
        have hC9 : C (fun j => (listed.setIfInBounds i true).getD j false) w' := by
          have e : (fun j => (listed.setIfInBounds i true).getD j false) = Listed.but (fun j => listed.getD j false) i := by
            funext j
            unfold Listed.but
            by_cases e : j = i
            · subst e; rw [if_pos rfl]; exact getD_set_self hil
            · rw [if_neg e]; exact getD_set_ne false (Ne.symm e)
          rw [e]; exact hC'
        refine ih _ _ _ (by simpa using hs) ?_ ?_ hC9 ?_
        · have := unlisted_set hisz hs h0'; omega
        · intro j oj hoj hj e he hb
          by_cases hji : j = i
          · subst hji; rw [ho] at hoj; cases hoj; exact getD_set_true (hall e he hb)
          · rw [getD_set_ne false (Ne.symm hji)] at hj; exact getD_set_true (hcl j oj hoj hj e he hb)
        · intro j R' hj hbr hR'
          have key : ∀ (u' : Value), R'.R (vs R'.D) u' w' → R'.R (upd vs i v R'.D) u' w' := fun u' h => by
            by_cases hDi : R'.D = i
            · rcases (hst j R' hR').1 with hf | ha
              · exact hf _ _ _ _ h
              · exfalso
                have hl : listed.getD R'.D false = true := by
                  by_cases hji : j = i
                  · subst hji; exact ahead_listed hcl ops.size j _ (fun o' ho' => by rw [ho] at ho'; cases ho'; exact hall) ha
                  · rw [getD_set_ne false (Ne.symm hji)] at hj
                    exact ahead_listed hcl ops.size j _ (fun o' ho' => hcl j o' ho' hj) ha
                rw [hDi, h0'] at hl; cases hl
            · have : upd vs i v R'.D = vs R'.D := by unfold upd; rw [if_neg hDi]
              rw [this]; exact h
          unfold FactN.at
          by_cases hji : j = i
          · subst hji; rw [hRi] at hR'; cases hR'
            have : upd vs j v j = v := by unfold upd; rw [if_pos rfl]
            rw [this]
            exact key v hRv
          · rw [getD_set_ne false (Ne.symm hji)] at hj
            have hai : ahead .any ops ops.size j i = false := by
              rcases hq : ahead .any ops ops.size j i with _ | _
              · rfl
              · have hl := ahead_listed hcl ops.size j i (fun o' ho' => hcl j o' ho' hj) hq
                rw [h0'] at hl; cases hl
            have hib : i ∉ R'.Br := fun hm => by have h1 := hbr i hm; rw [getD_set_self hil] at h1; cases h1
            have hbr' : ∀ i' ∈ R'.Br, listed.getD i' false = false := fun i' hm => by
              have h1 := hbr i' hm
              by_cases e : i' = i
              · subst e; exact absurd hm hib
              · rwa [getD_set_ne false (Ne.symm e)] at h1
            have h3 := (hst j R' hR').2 i (Ne.symm hji) hib hai _ _ _ _ (hR j R' hj hbr' hR') hT
            have : upd vs i v j = vs j := by unfold upd; rw [if_neg hji]
            rw [this]
            refine key _ ?_
            exact h3)
    unfold wpOp
    simp only [ho]
    split
    · rename_i hw; rw [if_pos hw] at hstep; exact .inl hstep
    · rename_i hw; rw [if_neg hw] at hstep; exact hstep

/-- The region. -/
theorem wp_region_factsN {id : Nat} {a : Act} {w : World} {l : List Oper} (C : (Nat → Bool) → World → Prop) (T : Nat → World → World → Prop) (hm : P.follows .mixedOrders = true) (hap : dstsApart l = true) (hdn : edgesDown .any l.toArray = true)
    (hC : C (fun _ => false) w.drew) (h : wpFactsN P l.toArray Q C T (fun vs => fillOps vs l 0 a) 0 l []) : (Code.region id l.toArray true).wp P Q a w := by
  refine wp_region_any hm ?_
  obtain ⟨Rs, h1, h2, h3, h4⟩ := wpFactsN_all (ops := l.toArray) l 0 [] (by simp) rfl (by simp) (by simp) h
  obtain ⟨vs, hvs⟩ : ∃ vs : Nat → Value, ∀ i o t, l[i]? = some o → o.dst = some t → vs (0 + i) = a.tmps.getD t undef :=
    ⟨fun i => match (l[i]?).bind (·.dst) with | some t => a.tmps.getD t undef | none => undef, fun i o t hi ht => by simp [hi, ht]⟩
  have := wpAny_factsN (P := P) (Q := Q) (ops := l.toArray) (C := C) (T := T) (a₀ := a) hap hdn Rs (by simpa using h1) h2 h3 h4 l.toArray.size (Array.replicate l.toArray.size false) vs w.drew (by simp)
    (Nat.le_trans (List.length_filter_le _ _) (by simp)) (fun j o hj hl => by simp [Array.getD] at hl) (by
      have e : (fun j => (Array.replicate l.toArray.size false).getD j false) = fun _ => false := by funext j; simp [Array.getD]
      rw [e]; exact hC) (fun j R hl => by simp [Array.getD] at hl)
  rwa [fillOps_self vs _ 0 a (by simpa using hvs)] at this

theorem wpFactsN_nil {C : (Nat → Bool) → World → Prop} {T : Nat → World → World → Prop} {fr : (Nat → Value) → Act} {k : Nat} {Rs : List FactN} (h : ∀ vs L w, (∀ j, j < ops.size → L j = true) → C L w → (∀ (j : Nat) (R : FactN), R.Br = [] → Rs[j]? = some R → R.at vs j w) → Q .normal (fr vs) w) : wpFactsN P ops Q C T fr k [] Rs := h
/-- An operation with one value. -/
theorem wpFactsN_val {C : (Nat → Bool) → World → Prop} {T : Nat → World → World → Prop} {fr : (Nat → Value) → Act} {k : Nat} {o : Oper} {l : List Oper} {Rs : List FactN} (V : Value)
    (h1 : ∀ vs L w, Gone ops L k → C L w → (∀ (j : Nat) (R' : FactN), ahead .any ops ops.size k j = true → R'.live ops k = true → Rs[j]? = some R' → R'.at vs j w) → ∀ K : Act → World → Prop, (∀ a' w', a' = (fr vs).put o.dst V → C (Listed.but L k) w' → T k w w' → K a' w') →
      if Region.wanted o (yielded ops (fr vs).tmps) = true then o.wp P (fr vs) w K Q else K ((fr vs).put o.dst undef) w)
    (h2 : wpFactsN P ops Q C T fr (k + 1) l (Rs ++ [⟨0, fun _ v _ => v = V, []⟩])) : wpFactsN P ops Q C T fr k (o :: l) Rs :=
  ⟨⟨0, fun _ v _ => v = V, []⟩, .inl (fun _ _ _ _ h => h), fun _ _ _ _ _ _ _ _ h _ => h, fun vs L w hG hC hB K hK => h1 vs L w hG hC hB K fun a' w' ha hC' hT => hK a' V w' ha rfl hC' hT, h2⟩
/-- An operation whose value has a property. -/
theorem wpFactsN_some {C : (Nat → Bool) → World → Prop} {T : Nat → World → World → Prop} {fr : (Nat → Value) → Act} {k : Nat} {o : Oper} {l : List Oper} {Rs : List FactN} (Br : List Nat) (R : Value → World → Prop) (hR : ∀ i, i ≠ k → i ∉ Br → ahead .any ops ops.size k i = false → ∀ v w w', R v w → T i w w' → R v w')
    (h1 : ∀ vs L w, Gone ops L k → C L w → (∀ (j : Nat) (R' : FactN), ahead .any ops ops.size k j = true → R'.live ops k = true → Rs[j]? = some R' → R'.at vs j w) → ∀ K : Act → World → Prop, (∀ a' v w', a' = (fr vs).put o.dst v → R v w' → C (Listed.but L k) w' → T k w w' → K a' w') →
      if Region.wanted o (yielded ops (fr vs).tmps) = true then o.wp P (fr vs) w K Q else K ((fr vs).put o.dst undef) w)
    (h2 : wpFactsN P ops Q C T fr (k + 1) l (Rs ++ [⟨0, fun _ v w => R v w, Br⟩])) : wpFactsN P ops Q C T fr k (o :: l) Rs :=
  ⟨⟨0, fun _ v w => R v w, Br⟩, .inl (fun _ _ _ _ h => h), fun i hi hb ha _ v w w' h t => hR i hi hb ha v w w' h t, h1, h2⟩
/-- An operation whose value has a property that speaks of an operation ahead. -/
theorem wpFactsN_pair {C : (Nat → Bool) → World → Prop} {T : Nat → World → World → Prop} {fr : (Nat → Value) → Act} {k : Nat} {o : Oper} {l : List Oper} {Rs : List FactN} (Br : List Nat) (D : Nat) (R : Value → Value → World → Prop) (hD : ahead .any ops ops.size k D = true) (hR : ∀ i, i ≠ k → i ∉ Br → ahead .any ops ops.size k i = false → ∀ u v w w', R u v w → T i w w' → R u v w')
    (h1 : ∀ vs L w, Gone ops L k → C L w → (∀ (j : Nat) (R' : FactN), ahead .any ops ops.size k j = true → R'.live ops k = true → Rs[j]? = some R' → R'.at vs j w) → ∀ K : Act → World → Prop, (∀ a' v w', a' = (fr vs).put o.dst v → R (vs D) v w' → C (Listed.but L k) w' → T k w w' → K a' w') →
      if Region.wanted o (yielded ops (fr vs).tmps) = true then o.wp P (fr vs) w K Q else K ((fr vs).put o.dst undef) w)
    (h2 : wpFactsN P ops Q C T fr (k + 1) l (Rs ++ [⟨D, R, Br⟩])) : wpFactsN P ops Q C T fr k (o :: l) Rs :=
  ⟨⟨D, R, Br⟩, .inr hD, hR, h1, h2⟩
end
/-- One thing holds until operation s has been, another from then on. -/
def Sw (s : Nat) (C0 C1 : World → Prop) (L : Nat → Bool) (w : World) : Prop := if L s = true then C1 w else C0 w
section
variable {ops : Array Oper} {s k : Nat} {C0 C1 : World → Prop} {L : Nat → Bool} {w w' : World}
theorem Sw.start (h : C0 w) : Sw s C0 C1 (fun _ => false) w := by unfold Sw; rw [if_neg (by simp)]; exact h
theorem Sw.before (hG : Gone ops L k) (ha : ahead .any ops ops.size s k = true) (h : Sw s C0 C1 L w) : C0 w := by
  unfold Sw at h; rwa [if_neg (by rw [hG.open_ s ha]; simp)] at h
theorem Sw.stay (hG : Gone ops L k) (ha : ahead .any ops ops.size s k = true) (hne : s ≠ k) (h : C0 w) : Sw s C0 C1 (Listed.but L k) w := by
  unfold Sw Listed.but; rw [if_neg (by rw [if_neg hne, hG.open_ s ha]; simp)]; exact h
theorem Sw.here (hG : Gone ops L s) (h : Sw s C0 C1 L w) : C0 w := by unfold Sw at h; rwa [if_neg (by rw [hG.self]; simp)] at h
theorem Sw.turn (h : C1 w) : Sw s C0 C1 (Listed.but L s) w := by unfold Sw Listed.but; rw [if_pos (if_pos rfl)]; exact h
theorem Sw.after (hG : Gone ops L k) (ha : ahead .any ops ops.size k s = true) (h : Sw s C0 C1 L w) : C1 w := by unfold Sw at h; rwa [if_pos (hG.done s ha)] at h
theorem Sw.on (hG : Gone ops L k) (ha : ahead .any ops ops.size k s = true) (h : C1 w) : Sw s C0 C1 (Listed.but L k) w := by
  unfold Sw Listed.but; rw [if_pos (by rw [hG.done s ha]; simp)]; exact h
theorem Sw.both (hne : s ≠ k) (h0 : C0 w → C0 w') (h1 : C1 w → C1 w') (h : Sw s C0 C1 L w) : Sw s C0 C1 (Listed.but L k) w' := by
  unfold Sw Listed.but at *
  rw [if_neg hne]
  split at h
  · rename_i e; rw [if_pos e]; exact h1 h
  · rename_i e; rw [if_neg e]; exact h0 h
theorem Sw.done (hL : ∀ j, j < ops.size → L j = true) (hs : s < ops.size) (h : Sw s C0 C1 L w) : C1 w := by unfold Sw at h; rwa [if_pos (hL s hs)] at h
end
end Go.Proofs.YtpjfidmapnnbkaaGreatDoor

/- The facts law with its facts the other way round: cheap look-ups. -/
namespace Go.Proofs.YtpjfidmapnnbkaaGreatDoor
open Go.RowKit

section
variable {P : Program} {ops : Array Oper} {Q : Exit → Act → World → Prop}
/-- The same walk, the facts' list the other way round (its look-ups stay cheap). -/
def wpFactsR (P : Program) (ops : Array Oper) (Q : Exit → Act → World → Prop) (C : (Nat → Bool) → World → Prop) (T : Nat → World → World → Prop) (fr : (Nat → Value) → Act) : Nat → List Oper → List FactN → Prop
  | k, [], Rs => ∀ vs L w, (∀ j, j < ops.size → L j = true) → C L w → (∀ (j : Nat) (R : FactN), R.Br = [] → Rs[k - 1 - j]? = some R → j < k → R.at vs j w) → Q .normal (fr vs) w
  | k, o :: l, Rs => ∃ R : FactN, R.fine ops k ∧ R.firm ops T k ∧
    (∀ vs L w, Gone ops L k → C L w → (∀ (j : Nat) (R' : FactN), ahead .any ops ops.size k j = true → R'.live ops k = true → Rs[k - 1 - j]? = some R' → j < k → R'.at vs j w) → ∀ K : Act → World → Prop, (∀ a' v w', a' = (fr vs).put o.dst v → R.R (vs R.D) v w' → C (Listed.but L k) w' → T k w w' → K a' w') →
      if Region.wanted o (yielded ops (fr vs).tmps) = true then o.wp P (fr vs) w K Q else K ((fr vs).put o.dst undef) w) ∧
    wpFactsR P ops Q C T fr (k + 1) l (R :: Rs)
theorem rev_look {Rs : List FactN} {k j : Nat} {R : FactN} (hk : Rs.length = k) (h : Rs[k - 1 - j]? = some R) (hj : j < k) : Rs.reverse[j]? = some R := by
  rw [List.getElem?_reverse (by omega), hk]; exact h
theorem wpFactsR_N {C : (Nat → Bool) → World → Prop} {T : Nat → World → World → Prop} {fr : (Nat → Value) → Act} : ∀ (l : List Oper) (k : Nat) (Rs : List FactN), Rs.length = k → wpFactsR P ops Q C T fr k l Rs → wpFactsN P ops Q C T fr k l Rs.reverse
  | [], _, _, hk, h => fun vs L w hL hC hB => h vs L w hL hC fun j R hb hR hj => hB j R hb (rev_look hk hR hj)
  | _ :: l, k, Rs, hk, ⟨R, h1, h2, h3, h4⟩ => ⟨R, h1, h2, fun vs L w hG hC hB K hK => h3 vs L w hG hC (fun j R' ha hv hR hj => hB j R' ha hv (rev_look hk hR hj)) K hK, by
      have := wpFactsR_N l (k + 1) (R :: Rs) (by simp [hk]) h4
      rwa [List.reverse_cons] at this⟩
theorem wp_region_factsR {id : Nat} {a : Act} {w : World} {l : List Oper} (C : (Nat → Bool) → World → Prop) (T : Nat → World → World → Prop) (hm : P.follows .mixedOrders = true) (hap : dstsApart l = true) (hdn : edgesDown .any l.toArray = true)
    (hC : C (fun _ => false) w.drew) (h : wpFactsR P l.toArray Q C T (fun vs => fillOps vs l 0 a) 0 l []) : (Code.region id l.toArray true).wp P Q a w :=
  wp_region_factsN C T hm hap hdn hC (wpFactsR_N l 0 [] rfl h)
theorem wpFactsR_nil {C : (Nat → Bool) → World → Prop} {T : Nat → World → World → Prop} {fr : (Nat → Value) → Act} {k : Nat} {Rs : List FactN} (h : ∀ vs L w, (∀ j, j < ops.size → L j = true) → C L w → (∀ (j : Nat) (R : FactN), R.Br = [] → Rs[k - 1 - j]? = some R → j < k → R.at vs j w) → Q .normal (fr vs) w) : wpFactsR P ops Q C T fr k [] Rs := h
theorem wpFactsR_val {C : (Nat → Bool) → World → Prop} {T : Nat → World → World → Prop} {fr : (Nat → Value) → Act} {k : Nat} {o : Oper} {l : List Oper} {Rs : List FactN} (V : Value)
    (h1 : ∀ vs L w, Gone ops L k → C L w → (∀ (j : Nat) (R' : FactN), ahead .any ops ops.size k j = true → R'.live ops k = true → Rs[k - 1 - j]? = some R' → j < k → R'.at vs j w) → ∀ K : Act → World → Prop, (∀ a' w', a' = (fr vs).put o.dst V → C (Listed.but L k) w' → T k w w' → K a' w') →
      if Region.wanted o (yielded ops (fr vs).tmps) = true then o.wp P (fr vs) w K Q else K ((fr vs).put o.dst undef) w)
    (h2 : wpFactsR P ops Q C T fr (k + 1) l (⟨0, fun _ v _ => v = V, []⟩ :: Rs)) : wpFactsR P ops Q C T fr k (o :: l) Rs :=
  ⟨⟨0, fun _ v _ => v = V, []⟩, .inl (fun _ _ _ _ h => h), fun _ _ _ _ _ _ _ _ h _ => h, fun vs L w hG hC hB K hK => h1 vs L w hG hC hB K fun a' w' ha hC' hT => hK a' V w' ha rfl hC' hT, h2⟩
theorem wpFactsR_some {C : (Nat → Bool) → World → Prop} {T : Nat → World → World → Prop} {fr : (Nat → Value) → Act} {k : Nat} {o : Oper} {l : List Oper} {Rs : List FactN} (Br : List Nat) (R : Value → World → Prop) (hR : ∀ i, i ≠ k → i ∉ Br → ahead .any ops ops.size k i = false → ∀ v w w', R v w → T i w w' → R v w')
    (h1 : ∀ vs L w, Gone ops L k → C L w → (∀ (j : Nat) (R' : FactN), ahead .any ops ops.size k j = true → R'.live ops k = true → Rs[k - 1 - j]? = some R' → j < k → R'.at vs j w) → ∀ K : Act → World → Prop, (∀ a' v w', a' = (fr vs).put o.dst v → R v w' → C (Listed.but L k) w' → T k w w' → K a' w') →
      if Region.wanted o (yielded ops (fr vs).tmps) = true then o.wp P (fr vs) w K Q else K ((fr vs).put o.dst undef) w)
    (h2 : wpFactsR P ops Q C T fr (k + 1) l (⟨0, fun _ v w => R v w, Br⟩ :: Rs)) : wpFactsR P ops Q C T fr k (o :: l) Rs :=
  ⟨⟨0, fun _ v w => R v w, Br⟩, .inl (fun _ _ _ _ h => h), fun i hi hb ha _ v w w' h t => hR i hi hb ha v w w' h t, h1, h2⟩
theorem wpFactsR_pair {C : (Nat → Bool) → World → Prop} {T : Nat → World → World → Prop} {fr : (Nat → Value) → Act} {k : Nat} {o : Oper} {l : List Oper} {Rs : List FactN} (Br : List Nat) (D : Nat) (R : Value → Value → World → Prop) (hD : ahead .any ops ops.size k D = true) (hR : ∀ i, i ≠ k → i ∉ Br → ahead .any ops ops.size k i = false → ∀ u v w w', R u v w → T i w w' → R u v w')
    (h1 : ∀ vs L w, Gone ops L k → C L w → (∀ (j : Nat) (R' : FactN), ahead .any ops ops.size k j = true → R'.live ops k = true → Rs[k - 1 - j]? = some R' → j < k → R'.at vs j w) → ∀ K : Act → World → Prop, (∀ a' v w', a' = (fr vs).put o.dst v → R (vs D) v w' → C (Listed.but L k) w' → T k w w' → K a' w') →
      if Region.wanted o (yielded ops (fr vs).tmps) = true then o.wp P (fr vs) w K Q else K ((fr vs).put o.dst undef) w)
    (h2 : wpFactsR P ops Q C T fr (k + 1) l (⟨D, R, Br⟩ :: Rs)) : wpFactsR P ops Q C T fr k (o :: l) Rs :=
  ⟨⟨D, R, Br⟩, .inr hD, hR, h1, h2⟩
end
end Go.Proofs.YtpjfidmapnnbkaaGreatDoor

/- Regions of drawing functions, on the facts law: a cursor that goes on, blocks that stay. -/
namespace Go.Proofs.YtpjfidmapnnbkaaGreatDoor
open Go.RowKit

/-- How many of the first n operations have been. -/
def cntB (L : Nat → Bool) : Nat → Nat
  | 0 => 0
  | n + 1 => cntB L n + (if L n = true then 1 else 0)
theorem cntB_le (L : Nat → Bool) : ∀ n, cntB L n ≤ n
  | 0 => Nat.le_refl _
  | n + 1 => by have := cntB_le L n; rw [cntB]; split <;> omega
theorem cntB_same {L : Nat → Bool} {k : Nat} : ∀ n, n ≤ k → cntB (Listed.but L k) n = cntB L n
  | 0, _ => rfl
  | n + 1, h => by
    rw [cntB, cntB, cntB_same n (by omega)]
    have : Listed.but L k n = L n := by unfold Listed.but; rw [if_neg (by omega)]
    rw [this]
theorem cntB_but {L : Nat → Bool} {k : Nat} (hL : L k = false) : ∀ n, k < n → cntB (Listed.but L k) n = cntB L n + 1
  | 0, h => absurd h (by omega)
  | n + 1, h => by
    rw [cntB, cntB]
    by_cases e : n = k
    · subst e
      rw [cntB_same n (Nat.le_refl _), hL]
      have : Listed.but L n n = true := by unfold Listed.but; rw [if_pos rfl]
      rw [this]; simp
    · rw [cntB_but hL n (by omega)]
      have : Listed.but L k n = L n := by unfold Listed.but; rw [if_neg e]
      rw [this]; omega
theorem grownAny {w w' : World} (h : Below w.heap.size w w') (row : Option Nat) : w.grownBy w' row := ⟨h.os, h.tape, h.output, h.size, fun k hk _ => h.block k hk⟩
section
variable {w W : World} {g : Nat} {A : Option Addr} {bs : List UInt8} {cap m : Nat}
theorem Env.below {W' : World} (E : Env w W g A bs cap m) (h : Below W.heap.size W W') : Env w W' g A bs cap m :=
  ⟨E.cur.kept (row := none) (grownAny h _) (by simp), E.rd.keep fun p hp => h.cell (by have := E.lt; omega), grown_trans E.gr (grownAny h _)⟩
theorem Env.drew (E : Env w W g A bs cap m) : Env w W.drew g A bs cap m := ⟨E.cur, E.rd.keep fun _ _ => rfl, grown_drew E.gr⟩
/-- What holds of a block until an operation of the region has been. -/
structure Room where
  op : Nat
  blk : Option Nat
  P : World → Prop
  st : ∀ w w' row, w.grownBy w' row → (blk = none ∨ blk ≠ row) → P w → P w'
def Room.lies (k h : Nat) (t : TypeId) (cs : List Value) : Room := ⟨k, some h, fun w => Lies w h t cs, fun _ _ _ hg hb hL => hL.kept hg (hb.resolve_left (by simp))⟩
def Room.row (k B : Nat) (t : TypeId) (sz : Nat) (v : Value) (n : Nat) (xs : List Value) : Room := ⟨k, v.ownBlock, fun w => w.ownsRow B t sz v n xs, fun _ _ _ hg hb hL => hL.kept hg hb⟩
/-- The world in a drawing region: the cursor's, with all blocks as they lay, but those of X. -/
structure Dr (w W : World) (g : Nat) (A : Option Addr) (bs : List UInt8) (cap m K n : Nat) (X : List Nat) (R : List Room) (L : Nat → Bool) (W9 : World) : Prop where
  env : Env w W9 g A bs cap (m + K * cntB L n)
  size : W.heap.size ≤ W9.heap.size
  keep : ∀ k, k < W.heap.size → k ∉ X → W9.heap[k]? = W.heap[k]?
  room : ∀ p ∈ R, p.blk ≠ some g ∧ (L p.op = false → p.P W9)
variable {K n k : Nat} {X : List Nat} {R : List Room} {L : Nat → Bool} {W9 : World}
theorem Dr.start (E : Env w W g A bs cap m) (hr : ∀ p ∈ R, p.blk ≠ some g ∧ p.P W) : Dr w W g A bs cap m K n X R (fun _ => false) W.drew := by
  refine ⟨?_, Nat.le_refl _, fun _ _ _ => rfl, fun p hp => ⟨(hr p hp).1, fun _ => p.st W W.drew none (grown_drew (World.grownBy.refl W none)) (by cases p.blk <;> simp) (hr p hp).2⟩⟩
  have : cntB (fun _ => false) n = 0 := by
    induction n with
    | zero => rfl
    | succ n ih => rw [cntB, ih]; simp
  rw [this]; exact E.drew
theorem Listed.was {L : Nat → Bool} {k j : Nat} (h : Listed.but L k j = false) : L j = false ∧ j ≠ k := by
  unfold Listed.but at h
  split at h
  · cases h
  · exact ⟨h, by assumption⟩
theorem Dr.stay (h : Dr w W g A bs cap m K n X R L W9) (hL : L k = false) (hk : k < n) : Dr w W g A bs cap m K n X R (Listed.but L k) W9 :=
  ⟨h.env.mono (by rw [cntB_but hL n hk, Nat.mul_add]; omega), h.size, h.keep, fun p hp => ⟨(h.room p hp).1, fun hl => (h.room p hp).2 (Listed.was hl).1⟩⟩
theorem Dr.alloc (h : Dr w W g A bs cap m K n X R L W9) (hL : L k = false) (hk : k < n) (o : Obj) : Dr w W g A bs cap m K n X R (Listed.but L k) (W9.alloc o) :=
  ⟨(h.env.alloc o).mono (by rw [cntB_but hL n hk, Nat.mul_add]; omega), Nat.le_trans h.size (by simp), fun k hk' hX => (Below.heap_alloc W9 o k (Nat.lt_of_lt_of_le hk' h.size)).trans (h.keep k hk' hX), fun p hp => ⟨(h.room p hp).1, fun hl => p.st _ _ none (World.grownBy_alloc W9 o none) (by cases p.blk <;> simp) ((h.room p hp).2 (Listed.was hl).1)⟩⟩
theorem Dr.call {W8 : World} {m' : Nat} (h : Dr w W g A bs cap m K n X R L W9) (hL : L k = false) (hk : k < n) (E : Env w W8 g A bs cap m') (hm : m' ≤ m + K * cntB L n + K) (gr : W9.grownBy W8 (some g)) (hX : g ∈ X) : Dr w W g A bs cap m K n X R (Listed.but L k) W8 :=
  ⟨E.mono (by rw [cntB_but hL n hk, Nat.mul_add]; omega), Nat.le_trans h.size gr.size, fun k hk' hX' => (gr.block k (Nat.lt_of_lt_of_le hk' h.size) (by intro e; injection e with e; subst e; exact hX' hX)).trans (h.keep k hk' hX'), fun p hp => ⟨(h.room p hp).1, fun hl => p.st _ _ _ gr (.inr (h.room p hp).1) ((h.room p hp).2 (Listed.was hl).1)⟩⟩
theorem Dr.below {W8 : World} (h : Dr w W g A bs cap m K n X R L W9) (hL : L k = false) (hk : k < n) (hb : Below W9.heap.size W9 W8) : Dr w W g A bs cap m K n X R (Listed.but L k) W8 :=
  ⟨(h.env.below hb).mono (by rw [cntB_but hL n hk, Nat.mul_add]; omega), Nat.le_trans h.size hb.size, fun k hk' hX' => (hb.block k (Nat.lt_of_lt_of_le hk' h.size)).trans (h.keep k hk' hX'), fun p hp => ⟨(h.room p hp).1, fun hl => p.st _ _ none (grownAny hb none) (by cases p.blk <;> simp) ((h.room p hp).2 (Listed.was hl).1)⟩⟩
theorem Dr.wrote {W8 : World} {row : Option Nat} (h : Dr w W g A bs cap m K n X R L W9) (hL : L k = false) (hk : k < n) (gr : W9.grownBy W8 row) (hw : ∀ b, row = some b → w.heap.size ≤ b ∧ g < b ∧ (b ∈ X ∨ W.heap.size ≤ b)) (hr : ∀ p ∈ R, p.blk = row → p.op = k ∨ row = none) : Dr w W g A bs cap m K n X R (Listed.but L k) W8 := by
  have hE : Env w W8 g A bs cap (m + K * cntB L n) := by
    cases row with
    | none => exact ⟨h.env.cur.kept gr (by simp), h.env.rd.keep fun p hp => grown_cell gr p (by have := h.env.lt; omega) (by simp), grown_trans h.env.gr ⟨gr.os, gr.tape, gr.output, gr.size, fun j hj _ => gr.block j hj (by simp)⟩⟩
    | some b => exact h.env.wrote gr (hw b rfl).1 (hw b rfl).2.1
  refine ⟨hE.mono (by rw [cntB_but hL n hk, Nat.mul_add]; omega), Nat.le_trans h.size gr.size, fun k hk' hX' => (gr.block k (Nat.lt_of_lt_of_le hk' h.size) (by intro e; rcases (hw k e.symm).2.2 with h1 | h1; exact hX' h1; omega)).trans (h.keep k hk' hX'), fun p hp => ⟨(h.room p hp).1, fun hl => ?_⟩⟩
  obtain ⟨h1, h2⟩ := Listed.was hl
  refine p.st _ _ row gr ?_ ((h.room p hp).2 h1)
  by_cases e : p.blk = row
  · rcases hr p hp e with h3 | h3
    · exact absurd h3 h2
    · exact .inl (e.trans h3)
  · exact .inr e
theorem Dr.lies {b : Nat} {t : TypeId} {cs : List Value} (h : Dr w W g A bs cap m K n X R L W9) (hL : Lies W b t cs) (hX : b ∉ X) : Lies W9 b t cs := (h.keep b hL.lt hX).trans hL
theorem Dr.le (h : Dr w W g A bs cap m K n X R L W9) : Env w W9 g A bs cap (m + K * n) := h.env.mono (by have := Nat.mul_le_mul_left K (cntB_le L n); omega)
theorem Dr.cnt (_h : Dr w W g A bs cap m K n X R L W9) : m + K * cntB L n ≤ m + K * n := by have := Nat.mul_le_mul_left K (cntB_le L n); omega
theorem Dr.owns {B : Nat} {e : TypeId} {sz n' : Nat} {v : Value} {xs : List Value} (h : Dr w W g A bs cap m K n X R L W9) (ho : W.ownsRow B e sz v n' xs) (hX : ∀ b, v.ownBlock = some b → b ∉ X) : W9.ownsRow B e sz v n' xs := by
  obtain ⟨h1, h2 | ⟨b, c, cur, hv, hB, hh, hr⟩⟩ := ho
  · exact ⟨h1, .inl h2⟩
  · refine ⟨h1, .inr ⟨b, c, cur, hv, hB, ?_, hr⟩⟩
    have hb : b < W.heap.size := by
      rcases Nat.lt_or_ge b W.heap.size with h3 | h3
      · exact h3
      · rw [Array.getElem?_eq_none h3] at hh; cases hh
    rw [h.keep b hb (hX b (by rw [hv]; rfl))]
    exact hh
/-- A row that reads, away from the blocks of X. -/
theorem Dr.reads {k' n' : Nat} {A' : Option Addr} {cs : List Value} (h : Dr w W g A bs cap m K n X R L W9) (hr : SlcR W W.heap.size k' A' n' cs) (hX : 0 < n' → ∀ b, A'.map (·.block) = some b → b ∉ X) : SlcR W9 W9.heap.size k' A' n' cs :=
  ⟨hr.len, hr.big, fun hn => by
    obtain ⟨b, off, e, hb, hc⟩ := hr.at_ hn
    refine ⟨b, off, e, Nat.lt_of_lt_of_le hb h.size, fun j u hu => ?_⟩
    rw [World.cell?_of_block (a := ⟨b, off + j, none⟩) (h.keep b hb (hX hn b (by rw [e]; rfl)))]
    exact hc j u hu⟩
end
/-- What lay below W's end lies as it lay, but for the cursor's block. -/
theorem drawn_gr {w W W2 wx : World} {g : Nat} {A : Option Addr} {bs : List UInt8} {cap m m' K n : Nat} {X : List Nat} {R : List Room} {L : Nat → Bool} (G : W.grownBy W2 (some g)) (h : Dr w W2 g A bs cap m K n X R L wx) (hX : ∀ k ∈ X, k ≠ g → W.heap.size ≤ k) (E0 : Env w W2 g A bs cap m') : W.grownBy wx (some g) :=
  ⟨h.env.gr.os.trans (E0.gr.os.symm.trans G.os), h.env.gr.tape.trans (E0.gr.tape.symm.trans G.tape), h.env.gr.output.trans (E0.gr.output.symm.trans G.output), Nat.le_trans G.size h.size,
   fun k hk hne => (h.keep k (Nat.lt_of_lt_of_le hk G.size) (fun hm => by have := hX k hm (by intro e; subst e; exact hne rfl); omega)).trans (G.block k hk hne)⟩
theorem grown_own {W W' W'' : World} {g b : Nat} (G : W.grownBy W' (some g)) (hg : W'.grownBy W'' (some b)) (hb : W.heap.size ≤ b) : W.grownBy W'' (some g) :=
  ⟨hg.os.trans G.os, hg.tape.trans G.tape, hg.output.trans G.output, Nat.le_trans G.size hg.size, fun k hk hne => (hg.block k (Nat.lt_of_lt_of_le hk G.size) (by intro e; injection e; omega)).trans (G.block k hk hne)⟩
/-- A row that came in stands apart from the cursor and from what was made since. -/
theorem rowsX {W : World} {k n g : Nat} {A : Option Addr} {cs : List Value} {X : List Nat} (hr : SlcR W W.heap.size k A n cs) (hne : ∀ b, A.map (·.block) = some b → b ≠ g) (hX : ∀ k ∈ X, k ≠ g → W.heap.size ≤ k) : 0 < n → ∀ b, A.map (·.block) = some b → b ∉ X := fun hn b hb hm => by
  obtain ⟨b', off, e, hb', _⟩ := hr.at_ hn
  rw [e] at hb
  injection hb with hb
  simp only at hb
  subst hb
  have := hX _ hm (hne _ (by rw [e]; rfl))
  omega
theorem SlcR.gr {W W' : World} {k n g : Nat} {A : Option Addr} {cs : List Value} (hr : SlcR W W.heap.size k A n cs) (hne : ∀ b, A.map (·.block) = some b → b ≠ g) (hg : W.grownBy W' (some g)) : SlcR W' W'.heap.size k A n cs :=
  ⟨hr.len, hr.big, fun hn => by
    obtain ⟨b, off, e, hb, hc⟩ := hr.at_ hn
    refine ⟨b, off, e, Nat.lt_of_lt_of_le hb hg.size, fun j u hu => ?_⟩
    rw [World.cell?_of_block (a := ⟨b, off + j, none⟩) (hg.block b hb (by intro e'; injection e' with e'; exact hne b (by rw [e]; rfl) e'))]
    exact hc j u hu⟩
theorem len2 {l : List Value} (h : l.length = 2) : ∃ a b, l = [a, b] := by match l, h with | [a, b], _ => exact ⟨a, b, rfl⟩
theorem len3 {l : List Value} (h : l.length = 3) : ∃ a b c, l = [a, b, c] := by match l, h with | [a, b, c], _ => exact ⟨a, b, c, rfl⟩
theorem len4 {l : List Value} (h : l.length = 4) : ∃ a b c d, l = [a, b, c, d] := by match l, h with | [a, b, c, d], _ => exact ⟨a, b, c, d, rfl⟩
theorem len5 {l : List Value} (h : l.length = 5) : ∃ a b c d e, l = [a, b, c, d, e] := by match l, h with | [a, b, c, d, e], _ => exact ⟨a, b, c, d, e, rfl⟩
/-- One of a list that lies in a block. -/
theorem among_lies {w W : World} {g : Nat} {A : Option Addr} {bs : List UInt8} {cap m : Nat} (E : Env w W g A bs cap m) (b n : Nat) (l : List Int) (hl : l.length = n) (hL : Lies W b 3 (encIs l)) (hne : b ≠ g) (h0 : 0 < n) (hn : n ≤ 100000) (hm : m ≤ 900000000) :
    Calls Tryz.prog 34 #[.pointer (some ⟨g, 0, none⟩), .slice (some ⟨b, 0, none⟩) n n] W fun e w' => ∃ x : Int, e = .returned (.int .i64 x) ∧ Env w w' g A bs cap (m + 2) ∧ W.grownBy w' (some g) := by
  subst hl
  have hi : IntsR W W.heap.size (some ⟨b, 0, none⟩) l := hL.reads (encIs_len l) (by omega)
  exact (among_any g A _ cap _ m bs l _ h0 hn hm E.cur E.rd hi (by intro e; injection e with e; exact hne e)).mono fun _ _ ⟨x, he, _, hc, hg⟩ => ⟨x, he, E.next hc hg, hg⟩
end Go.Proofs.YtpjfidmapnnbkaaGreatDoor

/- A block laid behind another. -/
namespace Go.Proofs.YtpjfidmapnnbkaaGreatDoor
open Go.RowKit

theorem Lies.newB (w : World) (o : Obj) (t : TypeId) (cs : Array Value) : Lies ((w.alloc o).alloc (.cells cs t)) (w.heap.size + 1) t cs.toList := by
  have h := Lies.new (w.alloc o) t cs
  rwa [show (w.alloc o).heap.size = w.heap.size + 1 from Array.size_push _] at h
end Go.Proofs.YtpjfidmapnnbkaaGreatDoor

/- Rows of the office: the stock month by month, in the reference and in the program. -/
namespace Go.Proofs.YtpjfidmapnnbkaaGreatDoor
open Go.RowKit

def stockGo : List Int → Int → List Row → List Int × Bool
  | acc, _, [] => (acc, true)
  | acc, now, r :: rest => if now + r.b - r.s < 0 then ([], false) else stockGo (acc ++ [now + r.b - r.s]) (now + r.b - r.s) rest
theorem stock_neg {l : List Row} {k : Nat} (h : k < l.length) (acc : List Int) (now : Int) (hn : now + l[k].b - l[k].s < 0) : stockGo acc now (l.drop k) = ([], false) := by
  rw [List.drop_eq_getElem_cons h, stockGo, if_pos hn]
theorem stock_pos {l : List Row} {k : Nat} (h : k < l.length) (acc : List Int) (now : Int) (hn : ¬ now + l[k].b - l[k].s < 0) : stockGo acc now (l.drop k) = stockGo (acc ++ [now + l[k].b - l[k].s]) (now + l[k].b - l[k].s) (l.drop (k + 1)) := by
  rw [List.drop_eq_getElem_cons h, stockGo, if_neg hn]
theorem stock_len : ∀ (l : List Row) (acc : List Int) (now : Int), (stockGo acc now l).1.length ≤ acc.length + l.length
  | [], acc, _ => by simp [stockGo]
  | r :: l, acc, now => by
    rw [stockGo]; split
    · simp
    · have := stock_len l (acc ++ [now + r.b - r.s]) (now + r.b - r.s)
      simp only [List.length_append, List.length_cons, List.length_nil] at this ⊢; omega
def stockBoth (l : List Row) (x : Int) : List Int × Bool := if goodRows l && inR x 0 1000000 then stockGo [] x l else ([], false)
def stockR (l : List Row) (x : Int) : List Int := (stockBoth l x).1
def stockOk (l : List Row) (x : Int) : Bool := (stockBoth l x).2
theorem stockR_len (l : List Row) (x : Int) (h : l.length ≤ 1048576) : (stockR l x).length ≤ 1048577 := by
  unfold stockR stockBoth; split
  · have := stock_len l [] x
    simp only [List.length_nil] at this; omega
  · simp
theorem stock_no {l : List Row} {x : Int} (h : (goodRows l && inR x 0 1000000) = false) : stockR l x = [] ∧ stockOk l x = false := by
  unfold stockR stockOk stockBoth; rw [h]; exact ⟨rfl, rfl⟩
theorem stock_yes {l : List Row} {x : Int} (h : (goodRows l && inR x 0 1000000) = true) : stockGo [] x (l.drop 0) = (stockR l x, stockOk l x) := by
  unfold stockR stockOk stockBoth; rw [h]; rfl
theorem infoInt : (Tryz.prog.info? 3).map (fun i => (i.zero, i.size, i.bytes)) = some (some (.int .i64 0), 1, 8) := by kernel_rfl

end Go.Proofs.YtpjfidmapnnbkaaGreatDoor
