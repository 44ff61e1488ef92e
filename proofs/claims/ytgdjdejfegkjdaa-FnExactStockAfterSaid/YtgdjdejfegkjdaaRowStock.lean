/- Rows of the office: the stock month by month, in the reference and in the program. -/
import Derived.Test.YtgdjdejfegkjdaaRowSums
import Derived.Test.YtgdjdejfegkjdaaOwn
namespace Go.Proofs.Ytgdjdejfegkjdaa
open Go.RowKit

def stockGo : List Int → Int → List Row → List Int × Bool
  | acc, _, [] => (acc, true)
  | acc, now, r :: rest => if now + r.b - r.s < 0 then ([], false) else stockGo (acc ++ [now + r.b - r.s]) (now + r.b - r.s) rest
theorem stock_neg {l : List Row} {k : Nat} (h : k < l.length) (acc : List Int) (now : Int) (hn : now + l[k].b - l[k].s < 0) : stockGo acc now (l.drop k) = ([], false) := by
  rw [List.drop_eq_getElem_cons h, stockGo, if_pos hn]
theorem stock_pos {l : List Row} {k : Nat} (h : k < l.length) (acc : List Int) (now : Int) (hn : ¬ now + l[k].b - l[k].s < 0) : stockGo acc now (l.drop k) = stockGo (acc ++ [now + l[k].b - l[k].s]) (now + l[k].b - l[k].s) (l.drop (k + 1)) := by
  rw [List.drop_eq_getElem_cons h, stockGo, if_neg hn]
theorem stock_len : ∀ (l : List Row) (acc : List Int) (now : Int), (stockGo acc now l).1.length ≤ acc.length + l.length
  | [], acc, _ => by simp [stockGo]
  | r :: l, acc, now => by
    rw [stockGo]; split
    · simp
    · have := stock_len l (acc ++ [now + r.b - r.s]) (now + r.b - r.s)
      simp only [List.length_append, List.length_cons, List.length_nil] at this ⊢; omega
def stockBoth (l : List Row) (x : Int) : List Int × Bool := if goodRows l && inR x 0 1000000 then stockGo [] x l else ([], false)
def stockR (l : List Row) (x : Int) : List Int := (stockBoth l x).1
def stockOk (l : List Row) (x : Int) : Bool := (stockBoth l x).2
theorem stockR_len (l : List Row) (x : Int) (h : l.length ≤ 1048576) : (stockR l x).length ≤ 1048577 := by
  unfold stockR stockBoth; split
  · have := stock_len l [] x
    simp only [List.length_nil] at this; omega
  · simp
theorem stock_no {l : List Row} {x : Int} (h : (goodRows l && inR x 0 1000000) = false) : stockR l x = [] ∧ stockOk l x = false := by
  unfold stockR stockOk stockBoth; rw [h]; exact ⟨rfl, rfl⟩
theorem stock_yes {l : List Row} {x : Int} (h : (goodRows l && inR x 0 1000000) = true) : stockGo [] x (l.drop 0) = (stockR l x, stockOk l x) := by
  unfold stockR stockOk stockBoth; rw [h]; rfl
theorem infoInt : (Try.prog.info? 3).map (fun i => (i.zero, i.size, i.bytes)) = some (some (.int .i64 0), 1, 8) := by kernel_rfl

set_option maxHeartbeats 2000000 in
theorem specStock_any (A : Option Addr) (c : Nat) (l : List Row) (s : Int) (w : World) (_ : -9223372036854775808 ≤ s) (_ : s ≤ 9223372036854775807) (h : RowsR w w.heap.size A l) :
    Calls Try.prog 35 #[.slice A l.length c, .int .i64 s] w fun e w' => ∃ A' c', e = .returned (.tuple #[.slice A' (stockR l s).length c', .bool (stockOk l s)]) ∧ OwnS w' w.heap.size 3 1 A' (stockR l s).length (encIs (stockR l s)) ∧ Below w.heap.size w w' := by
  have hl := h.big
  cases hy : (goodRows l && inR s 0 1000000)
  · have HF := Lib.hid (stock_no hy)
    have hb0 := (Below.refl w.heap.size w).alloc (Nat.le_refl _) (.cells #[] 3)
    have hl0 := Lies.new w 3 #[]
    have hc := fun W => l31Good_any A c l W
    have hz : w.heap.size ≤ (w.alloc (.cells #[] 3)).heap.size := hb0.size
    have h1 : RowsR (w.alloc (.cells #[] 3)) (w.alloc (.cells #[] 3)).heap.size A l := h.up hb0 (Nat.le_refl _)
    cases hg : goodRows l
    · rw [hg] at hc
      clear hg hy
      go_enter Try.func35, Try.ntmps35
      go_wp2_with fail
      generalize w.alloc (.cells #[] 3) = W at hb0 hl0 h1 hz ⊢
      refine (hc W h1).mono ?_
      rintro e w1 ⟨rfl, hb1⟩
      go_wp2
      go_ret2
      rw [HF.out.1, HF.out.2]
      exact ⟨_, _, rfl, ⟨rfl, by simp, .inr ⟨_, [], rfl, Nat.le_refl _, by simpa using hl0.below hb1 hl0.lt⟩⟩, bthen hb0 hb1⟩
    · have hi : inR s 0 1000000 = false := by rw [hg] at hy; simpa using hy
      rw [hg] at hc
      clear hg hy
      go_enter Try.func35, Try.ntmps35
      go_wp2_with fail
      generalize w.alloc (.cells #[] 3) = W at hb0 hl0 h1 hz ⊢
      refine (hc W h1).mono ?_
      rintro e w1 ⟨rfl, hb1⟩
      go_wp2_with fail
      refine (l1In_any _ _ _ _).mono ?_
      rw [hi]
      rintro e w1 ⟨rfl, rfl⟩
      go_wp2
      go_ret2
      rw [HF.out.1, HF.out.2]
      exact ⟨_, _, rfl, ⟨rfl, by simp, .inr ⟨_, [], rfl, Nat.le_refl _, by simpa using hl0.below hb1 hl0.lt⟩⟩, bthen hb0 hb1⟩
  · have hg : goodRows l = true := by simp at hy; exact hy.1
    have hi : inR s 0 1000000 = true := by simp at hy; exact hy.2
    have hrd := h.row
    obtain ⟨hs0, hs1⟩ := inR_iff.1 hi
    have h12 := good_len hg
    have HA : Hid (∀ i (hi : i < l.length), l[i].ok = true) := fun i hi => good_at hg hi
    have HF := Lib.hid (stock_yes hy)
    have hb0 := (Below.refl w.heap.size w).alloc (Nat.le_refl _) (.cells #[] 3)
    have hl0 := Lies.new w 3 #[]
    have hc := fun W => l31Good_any A c l W
    have hz : w.heap.size ≤ (w.alloc (.cells #[] 3)).heap.size := hb0.size
    have h1 : RowsR (w.alloc (.cells #[] 3)) (w.alloc (.cells #[] 3)).heap.size A l := h.up hb0 (Nat.le_refl _)
    rw [hg] at hc
    have HI := Lib.hid hi; clear hi hg hy
    go_enter Try.func35, Try.ntmps35
    go_wp2_with fail
    generalize w.alloc (.cells #[] 3) = W at hb0 hl0 h1 hz ⊢
    refine (hc W h1).mono ?_
    rintro e w1 ⟨rfl, hb1⟩
    have hl1 := hl0.below hb1 hl0.lt
    have hk1 := bthen hb0 hb1
    clear hb0 hb1 hl0 hc h1 hz W
    go_wp2_with fail
    refine (l1In_any _ _ _ _).mono ?_
    rw [HI.out]
    rintro e w1 ⟨rfl, rfl⟩
    go_wp2
    go_loopw [6, 7, 8] (fun out now i wr => ∃ (k : Nat) (n : Int) (acc : List Int), k ≤ l.length ∧ i = .int .i64 k ∧ now = .int .i64 n ∧ (0 ≤ n ∧ n ≤ 1000000 + 9999 * (k : Int)) ∧ acc.length = k ∧ Hid (wr.ownsRow w.heap.size 3 1 out acc.length (encIs acc)) ∧ Below w.heap.size w wr ∧ Hid (stockGo acc n (l.drop k) = (stockR l s, stockOk l s))) (fun _ _ i _ => l.length - (intOf i).toNat)
    case atStart => exact ⟨0, s, [], Nat.zero_le _, rfl, rfl, by omega, rfl, ⟨by simp, .inr ⟨_, 0, _, rfl, Nat.le_refl _, hl1, by simp, by decide, rfl, rfl⟩⟩, hk1, HF⟩
    case round =>
      clear hl1 hk1
      obtain ⟨k, n, acc, hk, rfl, rfl, ⟨n1, n2⟩, hacc, HO, hbr, HR⟩ := hrel
      by_cases hlt : k < l.length
      · obtain ⟨b, off, rfl, hb, hcell⟩ := hrd (by omega)
        obtain ⟨c0, c1, c2, c3, c4⟩ := hcell k hlt
        obtain ⟨_, hxb, hxs, _, _⟩ := Row.bounds (HA.out k hlt)
        have hN := fun hn => stock_neg hlt acc n hn
        have hP := fun hn => stock_pos hlt acc n hn
        obtain ⟨x, hxe⟩ : ∃ x, x = l[k] := ⟨_, rfl⟩
        rw [← hxe] at c0 c1 c2 c3 c4 hxb hxs hN hP
        clear hxe hcell hrd c0 c3 c4
        obtain ⟨xb1, xb2⟩ := hxb
        obtain ⟨xs1, xs2⟩ := hxs
        obtain ⟨q, rfl⟩ : ∃ q : Since w.heap.size w, wr = q.val := ⟨⟨wr, hbr⟩, rfl⟩
        by_cases hneg : n + x.b - x.s < 0
        · have HE : Hid (stockR l s = [] ∧ stockOk l s = false) := by
            have h1 := HR.out; rw [hN hneg] at h1; injection h1 with e1 e2; exact ⟨e1.symm, e2.symm⟩
          clear hN hP
          go_wp2
          refine wp_region_since _ (by kernel_rfl) (by kernel_rfl) ?_
          repeat (any_goals (first | go_big_quiet_step ((fail)) | (refine wpQuiet_step (fun K hK => ?_); go_simp; split <;> (refine hK _ ?_; clear hK K))))
          all_goals (refine wpQuiet_nil ?_; rintro _ ⟨q1, rfl⟩)
          go_wp2
          go_ret2
          rw [HE.out.1, HE.out.2]
          exact ⟨_, _, rfl, ⟨rfl, by simp, .inr ⟨_, [], rfl, q1.size, by simpa using Lies.new q1.val 3 #[]⟩⟩, q1.below.alloc q1.size _⟩
        · have HE : Hid (stockGo (acc ++ [n + x.b - x.s]) (n + x.b - x.s) (l.drop (k + 1)) = (stockR l s, stockOk l s)) := by rw [← hP hneg]; exact HR.out
          clear hN hP HR
          go_wp2
          go_region
          go_wp2_with (at_builtin; refine wpList_push rfl _ _ 41 rfl 3 (.int .i64 0) 1 8 Try.underlying41 infoInt rfl (by decide) (by omega) w.heap.size _ _ _ rfl HO #[.int .i64 (n + x.b - x.s)] 1 _ rfl (by first | rfl | exact Array.size_push _) rfl (by simp [Value.oneCell']) (by omega) q.size rfl rfl rfl rfl ?_; intro v' w3 HO3 hg3 hb3)
          go_wp2
          go_roundw
          case rel => exact ⟨k + 1, n + x.b - x.s, acc ++ [n + x.b - x.s], by omega, by go_num, rfl, by omega, by simp [hacc], Lib.hid (by have := HO3.out; simpa using this), q.below.trans hb3, HE⟩
          case measure => simp [intOf]; omega
      · have HE : Hid (acc = stockR l s ∧ true = stockOk l s) := by
          have h1 := HR.out; rw [List.drop_eq_nil_of_le (by omega)] at h1; injection h1 with e1 e2; exact ⟨e1, e2⟩
        clear hrd
        obtain ⟨A', c', rfl⟩ := ownsRow_slice HO.out
        have HW := Lib.hid (OwnS.of HO.out)
        go_wp2
        go_ret2
        rw [← HE.out.1, ← HE.out.2]
        exact ⟨_, _, rfl, HW.out, hbr⟩

set_option maxHeartbeats 2000000 in
theorem implStock_any (A : Option Addr) (c : Nat) (l : List Row) (s : Int) (w : World) (_ : -9223372036854775808 ≤ s) (_ : s ≤ 9223372036854775807) (h : RowsR w w.heap.size A l) :
    Calls Try.prog 36 #[.slice A l.length c, .int .i64 s] w fun e w' => ∃ A' c', e = .returned (.tuple #[.slice A' (stockR l s).length c', .bool (stockOk l s)]) ∧ OwnS w' w.heap.size 3 1 A' (stockR l s).length (encIs (stockR l s)) ∧ Below w.heap.size w w' := by
  have hl := h.big
  cases hy : (goodRows l && inR s 0 1000000)
  · have HF := Lib.hid (stock_no hy)
    have hc := areOfficeRows_any A c l w h
    cases hg : goodRows l
    · rw [hg] at hc
      clear hg hy
      go_enter Try.func36, Try.ntmps36
      go_wp2_with fail
      refine hc.mono ?_
      rintro e w1 ⟨rfl, hb1⟩
      go_wp2
      go_ret2
      rw [HF.out.1, HF.out.2]
      exact ⟨_, _, rfl, ⟨rfl, by simp, .inl ⟨rfl, rfl⟩⟩, hb1⟩
    · have hi : inR s 0 1000000 = false := by rw [hg] at hy; simpa using hy
      rw [hg] at hc
      clear hg hy
      go_enter Try.func36, Try.ntmps36
      go_wp2_with fail
      refine hc.mono ?_
      rintro e w1 ⟨rfl, hb1⟩
      go_wp2_with fail
      refine (inRange_any _ _ _ _).mono ?_
      rw [hi]
      rintro e w1 ⟨rfl, rfl⟩
      go_wp2
      go_ret2
      rw [HF.out.1, HF.out.2]
      exact ⟨_, _, rfl, ⟨rfl, by simp, .inl ⟨rfl, rfl⟩⟩, hb1⟩
  · have hg : goodRows l = true := by simp at hy; exact hy.1
    have hi : inR s 0 1000000 = true := by simp at hy; exact hy.2
    have hrd := h.row
    obtain ⟨hs0, hs1⟩ := inR_iff.1 hi
    have h12 := good_len hg
    have HA : Hid (∀ i (hi : i < l.length), l[i].ok = true) := fun i hi => good_at hg hi
    have HF := Lib.hid (stock_yes hy)
    have hc := areOfficeRows_any A c l w h
    rw [hg] at hc
    have HI := Lib.hid hi; clear hi hg hy
    go_enter Try.func36, Try.ntmps36
    go_wp2_with fail
    refine hc.mono ?_
    rintro e w1 ⟨rfl, hk1⟩
    clear hc
    go_wp2_with fail
    refine (inRange_any _ _ _ _).mono ?_
    rw [HI.out]
    rintro e w1 ⟨rfl, rfl⟩
    go_wp2
    go_loopw [1, 6, 19] (fun now out i wr => ∃ (k : Nat) (n : Int) (acc : List Int), k ≤ l.length ∧ i = .int .i64 k ∧ now = .int .i64 n ∧ (0 ≤ n ∧ n ≤ 1000000 + 9999 * (k : Int)) ∧ acc.length = k ∧ Hid (wr.ownsRow w.heap.size 3 1 out acc.length (encIs acc)) ∧ Below w.heap.size w wr ∧ Hid (stockGo acc n (l.drop k) = (stockR l s, stockOk l s))) (fun _ _ i _ => l.length - (intOf i).toNat)
    case atStart => exact ⟨0, s, [], Nat.zero_le _, rfl, rfl, by simp; omega, rfl, World.ownsRow_nil _ _ _ _, hk1, HF⟩
    case round =>
      clear hk1
      obtain ⟨k, n, acc, hk, rfl, rfl, ⟨n1, n2⟩, hacc, HO, hbr, HR⟩ := hrel
      by_cases hlt : k < l.length
      · obtain ⟨b, off, rfl, hb, hcell⟩ := hrd (by omega)
        obtain ⟨c0, c1, c2, c3, c4⟩ := hcell k hlt
        obtain ⟨_, hxb, hxs, _, _⟩ := Row.bounds (HA.out k hlt)
        have hN := fun hn => stock_neg hlt acc n hn
        have hP := fun hn => stock_pos hlt acc n hn
        obtain ⟨x, hxe⟩ : ∃ x, x = l[k] := ⟨_, rfl⟩
        rw [← hxe] at c0 c1 c2 c3 c4 hxb hxs hN hP
        clear hxe hcell hrd
        obtain ⟨xb1, xb2⟩ := hxb
        obtain ⟨xs1, xs2⟩ := hxs
        have hsp : n + x.b - x.s = n + (x.b - x.s) := by omega
        rw [hsp] at hN hP
        have HSP := Lib.hid hsp; clear hsp
        obtain ⟨q, rfl⟩ : ∃ q : Since w.heap.size w, wr = q.val := ⟨⟨wr, hbr⟩, rfl⟩
        by_cases hneg : n + (x.b - x.s) < 0
        · have HE : Hid (stockR l s = [] ∧ stockOk l s = false) := by
            have h1 := HR.out; rw [hN hneg] at h1; injection h1 with e1 e2; exact ⟨e1.symm, e2.symm⟩
          clear hN hP
          have hbW := q.below.alloc q.size (.cells #[.int .i64 x.m, .int .i64 x.b, .int .i64 x.s, .int .i64 x.c, .int .i64 x.l] 25)
          go_wp2
          go_ret2
          rw [HE.out.1, HE.out.2]
          exact ⟨_, _, rfl, ⟨rfl, by simp, .inl ⟨rfl, rfl⟩⟩, hbW⟩
        · have HE : Hid (stockGo (acc ++ [n + (x.b - x.s)]) (n + (x.b - x.s)) (l.drop (k + 1)) = (stockR l s, stockOk l s)) := by rw [← hP (by omega)]; exact HR.out
          clear hN hP HR
          have hbW := q.below.alloc q.size (.cells #[.int .i64 x.m, .int .i64 x.b, .int .i64 x.s, .int .i64 x.c, .int .i64 x.l] 25)
          have HOW := Lib.hid (HO.out.alloc (.cells #[.int .i64 x.m, .int .i64 x.b, .int .i64 x.s, .int .i64 x.c, .int .i64 x.l] 25))
          have hsz := hbW.size
          clear HO
          go_wp2_with (at_builtin; refine wpList_push (w0 := q.val.alloc (.cells #[.int .i64 x.m, .int .i64 x.b, .int .i64 x.s, .int .i64 x.c, .int .i64 x.l] 25)) rfl _ _ 41 rfl 3 (.int .i64 0) 1 8 Try.underlying41 infoInt rfl (by decide) (by omega) w.heap.size _ _ _ rfl HOW #[.int .i64 (n + (x.b - x.s))] 1 _ rfl (by first | rfl | exact Array.size_push _) rfl (by simp [Value.oneCell']) (by omega) hsz rfl rfl rfl rfl ?_; intro v' w3 HO3 hg3 hb3)
          go_wp2
          go_roundw
          case rel => exact ⟨k + 1, n + (x.b - x.s), acc ++ [n + (x.b - x.s)], by omega, by go_num, rfl, by omega, by simp [hacc], Lib.hid (by have := HO3.out; simpa using this), hbW.trans hb3, HE⟩
          case measure => simp [intOf]; omega
      · have HE : Hid (acc = stockR l s ∧ true = stockOk l s) := by
          have h1 := HR.out; rw [List.drop_eq_nil_of_le (by omega)] at h1; injection h1 with e1 e2; exact ⟨e1, e2⟩
        clear hrd
        obtain ⟨A', c', rfl⟩ := ownsRow_slice HO.out
        have HW := Lib.hid (OwnS.of HO.out)
        go_wp2
        go_ret2
        rw [← HE.out.1, ← HE.out.2]
        exact ⟨_, _, rfl, HW.out, hbr⟩
end Go.Proofs.Ytgdjdejfegkjdaa
