/- Are two phrases alike? In the reference and in the program (slices.Equal). -/
import Derived.Test.YtjdedcalbcnkmaaPhrCopy
namespace Go.Proofs.Ytjdedcalbcnkmaa
open Go.RowKit

set_option maxHeartbeats 1000000 in
theorem equalInts_any (A B : Option Addr) (c d : Nat) (l m : List Int) (w : World) (hA : IntsR w w.heap.size A l) (hB : IntsR w w.heap.size B m) :
    Calls Try.prog 71 #[.slice A l.length c, .slice B m.length d] w fun e w' => e = .returned (.bool (sameInts l m)) ∧ Below w.heap.size w w' := by
  have hlA := hA.big
  have hlB := hB.big
  have hrA := hA.ints
  have hrB := hB.ints
  by_cases hne : l.length = m.length
  · have hF : Hid (sameIntsFrom l m = sameInts l m) := sameIntsFrom_eq l m
    have hbn : ((l.length : Int) != (m.length : Int)) = false := by simp [hne]
    have HE := Lib.hid hne; clear hne
    go_enter Try.func71, Try.ntmps71
    go_wp2
    go_loopw [5, 13] (fun _ i wr => ∃ k : Nat, k ≤ l.length ∧ i = .int .i64 k ∧ Below w.heap.size w wr ∧ Hid (sameIntsFrom (l.drop k) (m.drop k) = sameInts l m)) (fun _ i _ => l.length - (intOf i).toNat)
    case atStart => exact ⟨0, Nat.zero_le _, rfl, Below.refl _ _, hF⟩
    case round =>
      obtain ⟨k, hk, rfl, hbr, HR⟩ := hrel
      by_cases hlt : k < l.length
      · have hlt' : k < m.length := by have := HE.out; omega
        obtain ⟨b, off, rfl, hb, hcell⟩ := hrA (by omega)
        obtain ⟨b', off', rfl, hb', hcell'⟩ := hrB (by omega)
        have c0 := hcell k hlt
        have d0 := hcell' k hlt'
        have hstep : Hid (sameIntsFrom (l.drop k) (m.drop k) = (decide (l[k] = m[k]) && sameIntsFrom (l.drop (k + 1)) (m.drop (k + 1)))) := by
          rw [List.drop_eq_getElem_cons hlt, List.drop_eq_getElem_cons hlt']; rfl
        obtain ⟨x, hxe⟩ : ∃ x, x = l[k] := ⟨_, rfl⟩
        obtain ⟨y, hye⟩ : ∃ x, x = m[k] := ⟨_, rfl⟩
        rw [← hxe] at c0 hstep
        rw [← hye] at d0 hstep
        clear hxe hye
        clear hcell hcell' hrA hrB
        obtain ⟨q, rfl⟩ : ∃ q : Since w.heap.size w, wr = q.val := ⟨⟨wr, hbr⟩, rfl⟩
        by_cases hxy : x = y
        · have hv : (x != y) = false := by simp [hxy]
          have HV : Hid (decide (x = y) = true) := decide_eq_true hxy
          clear hxy
          go_wp2
          refine wp_region_since _ (by kernel_rfl) (by kernel_rfl) ?_
          repeat (any_goals (first | go_big_quiet_step ((fail)) | (refine wpQuiet_step (fun K hK => ?_); go_simp; split <;> (refine hK _ ?_; clear hK K))))
          all_goals (refine wpQuiet_nil ?_; rintro _ ⟨q1, rfl⟩)
          go_wp2
          go_roundw
          case rel => exact ⟨k + 1, by omega, by go_num, q1.below, by have h1 := HR.out; rw [hstep.out, HV.out] at h1; exact h1⟩
          case measure => simp [intOf]; omega
        · have hv : (x != y) = true := by simp [hxy]
          have HV : Hid (decide (x = y) = false) := decide_eq_false hxy
          clear hxy
          go_wp2
          refine wp_region_since _ (by kernel_rfl) (by kernel_rfl) ?_
          repeat (any_goals (first | go_big_quiet_step ((fail)) | (refine wpQuiet_step (fun K hK => ?_); go_simp; split <;> (refine hK _ ?_; clear hK K))))
          all_goals (refine wpQuiet_nil ?_; rintro _ ⟨q1, rfl⟩)
          go_wp2
          go_ret
          refine ⟨?_, q1.below⟩
          rw [← HR.out, hstep.out, HV.out]; rfl
      · have HK : Hid (sameInts l m = true) := by
          have h1 := HR.out
          rw [List.drop_eq_nil_of_le (by omega), List.drop_eq_nil_of_le (by have := HE.out; omega)] at h1; exact h1.symm
        clear hrA hrB
        go_wp2
        go_ret
        exact ⟨by rw [HK.out]; rfl, hbr⟩
  · have hbn : ((l.length : Int) != (m.length : Int)) = true := by rw [bne_iff_ne]; omega
    have hF : Hid (sameInts l m = false) := by
      unfold sameInts; show decide (l = m) = false; rw [decide_eq_false_iff_not]; intro h; exact hne (by rw [h])
    go_enter Try.func71, Try.ntmps71
    go_wp2
    go_ret
    exact ⟨by rw [hF.out]; rfl, Below.refl _ _⟩

/-- The same state, faults and price. -/
def Ph.alike (x y : Ph) : Bool := decide (x.s = y.s) && sameInts x.f y.f && decide (x.p = y.p)

set_option maxHeartbeats 2000000 in
theorem alike_any (x y : Ph) (w : World) (hx : IntsR w w.heap.size x.A x.f) (hy : IntsR w w.heap.size y.A y.f) :
    Calls Try.prog 53 #[x.val, y.val] w fun e w' => e = .returned (.bool (Ph.alike x y)) ∧ Below w.heap.size w w' := by
  have L1 := (Lies.new w 27 #[.int .i64 x.s, .int .i64 x.c, .slice x.A x.f.length x.cap, .int .i64 x.p]).alloc (.cells #[.int .i64 y.s, .int .i64 y.c, .slice y.A y.f.length y.cap, .int .i64 y.p] 27)
  have L2 := Lies.new1 w (.cells #[.int .i64 x.s, .int .i64 x.c, .slice x.A x.f.length x.cap, .int .i64 x.p] 27) 27 #[.int .i64 y.s, .int .i64 y.c, .slice y.A y.f.length y.cap, .int .i64 y.p]
  have b1 := (Below.refl w.heap.size w).alloc (Nat.le_refl _) (.cells #[.int .i64 x.s, .int .i64 x.c, .slice x.A x.f.length x.cap, .int .i64 x.p] 27)
  have b2 := b1.alloc b1.size (.cells #[.int .i64 y.s, .int .i64 y.c, .slice y.A y.f.length y.cap, .int .i64 y.p] 27)
  clear b1
  have hRx := SlcR.up hx b2 (Nat.le_refl _)
  have hRy := SlcR.up hy b2 (Nat.le_refl _)
  have HA : Hid (Ph.alike x y = (decide (x.s = y.s) && sameInts x.f y.f && decide (x.p = y.p))) := rfl
  by_cases h1 : x.s = y.s
  · have n1 : (x.s == y.s) = true := by simp [h1]
    have n1' : decide (x.s = y.s) = true := decide_eq_true h1
    have D1 := Lib.hid h1; clear h1
    cases hv : sameInts x.f y.f
    · rw [hv] at HA
      have HV := Lib.hid hv; clear hv
      go_enter Try.func53, Try.ntmps53
      go_wp2_with (go_at_call 71; refine (equalInts_any x.A y.A x.cap y.cap x.f y.f _ hRx hRy).mono ?_; rw [HV.out]; rintro e w1 ⟨rfl, hb1⟩)
      go_ret
      exact ⟨by rw [HA.out, n1']; rfl, bthen b2 hb1⟩
    · rw [hv] at HA
      have HV := Lib.hid hv; clear hv
      go_enter Try.func53, Try.ntmps53
      go_wp2_with fail
      generalize ((w.alloc (.cells #[.int .i64 x.s, .int .i64 x.c, .slice x.A x.f.length x.cap, .int .i64 x.p] 27)).alloc (.cells #[.int .i64 y.s, .int .i64 y.c, .slice y.A y.f.length y.cap, .int .i64 y.p] 27)) = W at L1 L2 b2 hRx hRy ⊢
      refine (equalInts_any x.A y.A x.cap y.cap x.f y.f _ hRx hRy).mono ?_
      rw [HV.out]; rintro e w1 ⟨rfl, hb1⟩
      have d3 := (L1.below hb1 L1.lt).cell 3
      have e3 := (L2.below hb1 L2.lt).cell 3
      simp only [List.getElem?_cons_zero, List.getElem?_cons_succ] at d3 e3
      by_cases h2 : x.p = y.p
      · have n2 : (x.p == y.p) = true := by simp [h2]
        have n2' : decide (x.p = y.p) = true := decide_eq_true h2
        clear h2
        go_wp2
        go_ret
        exact ⟨by rw [HA.out, n1', n2']; rfl, bthen b2 hb1⟩
      · have n2 : (x.p == y.p) = false := by simp [h2]
        have n2' : decide (x.p = y.p) = false := decide_eq_false h2
        clear h2
        go_wp2
        go_ret
        exact ⟨by rw [HA.out, n1', n2']; rfl, bthen b2 hb1⟩
  · have n1 : (x.s == y.s) = false := by simp [h1]
    have n1' : decide (x.s = y.s) = false := decide_eq_false h1
    clear h1
    go_enter Try.func53, Try.ntmps53
    go_wp2
    go_ret
    exact ⟨by rw [HA.out, n1']; rfl, b2⟩

set_option maxHeartbeats 2000000 in
theorem l30Alike_any (x y : Ph) (w : World) (hx : IntsR w w.heap.size x.A x.f) (hy : IntsR w w.heap.size y.A y.f) :
    Calls Try.prog 50 #[x.val, y.val] w fun e w' => e = .returned (.bool (Ph.alike x y)) ∧ Below w.heap.size w w' := by
  have L1 := (Lies.new w 27 #[.int .i64 x.s, .int .i64 x.c, .slice x.A x.f.length x.cap, .int .i64 x.p]).alloc (.cells #[.int .i64 y.s, .int .i64 y.c, .slice y.A y.f.length y.cap, .int .i64 y.p] 27)
  have L2 := Lies.new1 w (.cells #[.int .i64 x.s, .int .i64 x.c, .slice x.A x.f.length x.cap, .int .i64 x.p] 27) 27 #[.int .i64 y.s, .int .i64 y.c, .slice y.A y.f.length y.cap, .int .i64 y.p]
  have b1 := (Below.refl w.heap.size w).alloc (Nat.le_refl _) (.cells #[.int .i64 x.s, .int .i64 x.c, .slice x.A x.f.length x.cap, .int .i64 x.p] 27)
  have b2 := b1.alloc b1.size (.cells #[.int .i64 y.s, .int .i64 y.c, .slice y.A y.f.length y.cap, .int .i64 y.p] 27)
  clear b1
  have hRx := SlcR.up hx b2 (Nat.le_refl _)
  have hRy := SlcR.up hy b2 (Nat.le_refl _)
  have HA : Hid (Ph.alike x y = (decide (x.s = y.s) && sameInts x.f y.f && decide (x.p = y.p))) := rfl
  have hlA := hx.big
  have hlB := hy.big
  by_cases h1 : x.s = y.s
  · have n1 : (x.s != y.s) = false := by simp [h1]
    have n1' : decide (x.s = y.s) = true := decide_eq_true h1
    have D1 := Lib.hid h1; clear h1
    by_cases h2 : x.p = y.p
    · have n2 : (x.p != y.p) = false := by simp [h2]
      have n2' : decide (x.p = y.p) = true := decide_eq_true h2
      have D2 := Lib.hid h2; clear h2
      by_cases h3 : x.f.length = y.f.length
      · have n3 : ((x.f.length : Int) != (y.f.length : Int)) = false := by simp [h3]
        have HE := Lib.hid h3; clear h3
        have hF : Hid (sameIntsFrom x.f y.f = sameInts x.f y.f) := sameIntsFrom_eq x.f y.f
        go_enter Try.func50, Try.ntmps50
        go_wp2
        generalize ((w.alloc (.cells #[.int .i64 x.s, .int .i64 x.c, .slice x.A x.f.length x.cap, .int .i64 x.p] 27)).alloc (.cells #[.int .i64 y.s, .int .i64 y.c, .slice y.A y.f.length y.cap, .int .i64 y.p] 27)) = W at L1 L2 b2 hRx hRy ⊢
        generalize w.heap.size = g at L1 L2 ⊢
        have k2 : ∀ p : Since W.heap.size W, p.val.cell? ⟨g, 2, none⟩ = some (.slice x.A x.f.length x.cap) := fun p => (p.cell L1.lt).trans (L1.cell 2)
        have j2 : ∀ p : Since W.heap.size W, p.val.cell? ⟨g + 1, 2, none⟩ = some (.slice y.A y.f.length y.cap) := fun p => (p.cell L2.lt).trans (L2.cell 2)
        have hrA := IntsR.ints hRx
        have hrB := IntsR.ints hRy
        clear L1 L2 hx hy hRx hRy
        go_loopw [5] (fun i wr => ∃ k : Nat, k ≤ x.f.length ∧ i = .int .i64 k ∧ (∃ q : Since W.heap.size W, wr = q.val) ∧ Hid (sameIntsFrom (x.f.drop k) (y.f.drop k) = sameInts x.f y.f)) (fun i _ => x.f.length - (intOf i).toNat)
        case atStart => exact ⟨0, Nat.zero_le _, rfl, ⟨Since.start _ _, rfl⟩, hF⟩
        case round =>
          obtain ⟨k, hk, rfl, ⟨q, rfl⟩, HR⟩ := hrel
          by_cases hlt : k < x.f.length
          · have hlt' : k < y.f.length := by have := HE.out; omega
            obtain ⟨b, off, hAx, hb, hcell⟩ := hrA (by omega)
            obtain ⟨b', off', hAy, hb', hcell'⟩ := hrB (by omega)
            have c0 := hcell k hlt
            have d0 := hcell' k hlt'
            have hstep : Hid (sameIntsFrom (x.f.drop k) (y.f.drop k) = (decide (x.f[k] = y.f[k]) && sameIntsFrom (x.f.drop (k + 1)) (y.f.drop (k + 1)))) := by
              rw [List.drop_eq_getElem_cons hlt, List.drop_eq_getElem_cons hlt']; rfl
            obtain ⟨u, hxe⟩ : ∃ u, u = x.f[k] := ⟨_, rfl⟩
            obtain ⟨v, hye⟩ : ∃ v, v = y.f[k] := ⟨_, rfl⟩
            rw [← hxe] at c0 hstep
            rw [← hye] at d0 hstep
            rw [hAx] at k2
            rw [hAy] at j2
            clear hxe hye hAx hAy
            clear hcell hcell' hrA hrB
            by_cases hxy : u = v
            · have hv : (u != v) = false := by simp [hxy]
              have HV : Hid (decide (u = v) = true) := decide_eq_true hxy
              clear hxy
              go_wp2
              refine wp_region_since _ (by kernel_rfl) (by kernel_rfl) ?_
              repeat (any_goals (first | go_big_quiet_step ((fail)) | (refine wpQuiet_step (fun K hK => ?_); go_simp; split <;> (refine hK _ ?_; clear hK K))))
              all_goals (refine wpQuiet_nil ?_; rintro _ ⟨q1, rfl⟩)
              go_wp2
              go_roundw
              case rel => exact ⟨k + 1, by omega, by go_num, ⟨q1, rfl⟩, by have h1 := HR.out; rw [hstep.out, HV.out] at h1; exact h1⟩
              case measure => simp [intOf]; omega
            · have hv : (u != v) = true := by simp [hxy]
              have HV : Hid (decide (u = v) = false) := decide_eq_false hxy
              clear hxy
              go_wp2
              refine wp_region_since _ (by kernel_rfl) (by kernel_rfl) ?_
              repeat (any_goals (first | go_big_quiet_step ((fail)) | (refine wpQuiet_step (fun K hK => ?_); go_simp; split <;> (refine hK _ ?_; clear hK K))))
              all_goals (refine wpQuiet_nil ?_; rintro _ ⟨q1, rfl⟩)
              go_wp2
              go_ret
              refine ⟨?_, b2.trans (q1.below.mono b2.size)⟩
              have hz : sameInts x.f y.f = false := by rw [← HR.out, hstep.out, HV.out]; rfl
              rw [HA.out, hz]; simp
          · have HK : Hid (sameInts x.f y.f = true) := by
              have h1 := HR.out
              rw [List.drop_eq_nil_of_le (by omega), List.drop_eq_nil_of_le (by have := HE.out; omega)] at h1; exact h1.symm
            clear hrA hrB
            go_wp2
            go_ret
            exact ⟨by rw [HA.out, HK.out, n1', n2']; rfl, b2.trans (q.below.mono b2.size)⟩
      · have n3 : ((x.f.length : Int) != (y.f.length : Int)) = true := by rw [bne_iff_ne]; omega
        have hF : Hid (sameInts x.f y.f = false) := by
          unfold sameInts; show decide (x.f = y.f) = false; rw [decide_eq_false_iff_not]; intro h; exact h3 (by rw [h])
        clear h3
        go_enter Try.func50, Try.ntmps50
        go_wp2
        go_ret
        exact ⟨by rw [HA.out, hF.out, n1']; rfl, b2⟩
    · have n2 : (x.p != y.p) = true := by simp [h2]
      have n2' : decide (x.p = y.p) = false := decide_eq_false h2
      clear h2
      go_enter Try.func50, Try.ntmps50
      go_wp2
      go_ret
      exact ⟨by rw [HA.out, n2']; simp, b2⟩
  · have n1 : (x.s != y.s) = true := by simp [h1]
    have n1' : decide (x.s = y.s) = false := decide_eq_false h1
    clear h1
    go_enter Try.func50, Try.ntmps50
    go_wp2
    go_ret
    exact ⟨by rw [HA.out, n1']; rfl, b2⟩
end Go.Proofs.Ytjdedcalbcnkmaa
