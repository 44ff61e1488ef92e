/- Phrases: size, copy, equality; the law FnExactIsPhrase. -/
import Derived.Test.YtjdedcalbcnkmaaPhr
namespace Go.Proofs.Ytjdedcalbcnkmaa
open Go.RowKit

theorem szPhrase_any (x : Ph) (k : Int) (w : World) (hn : x.f.length ≤ 9223372036854775807) (hk : 0 ≤ k) (hk' : k ≤ 1048576) :
    Calls Try.prog 11 #[x.val, .int .i64 k] w fun e w' => e = .returned (.int .i64 (lessen k x.f.length)) ∧ Below w.heap.size w w' := by
  have hc := fun W => szIntS_any x.A x.f.length x.cap k W hn hk hk'
  have hb0 := (Below.refl w.heap.size w).alloc (Nat.le_refl _) (.cells #[.int .i64 x.s, .int .i64 x.c, .slice x.A x.f.length x.cap, .int .i64 x.p] 24)
  by_cases hle : (x.f.length : Int) ≤ k
  · have he : lessen k x.f.length = k - x.f.length := by unfold lessen; rw [if_pos hle]
    rw [he] at hc ⊢
    go_enter Try.func11, Try.ntmps11
    go_wp2_with fail
    refine (hc _).mono ?_
    rintro e w1 ⟨rfl, rfl⟩
    go_wp2
    go_ret
    exact ⟨rfl, hb0⟩
  · have he : lessen k x.f.length = -1 := by unfold lessen; rw [if_neg hle]
    rw [he] at hc ⊢
    go_enter Try.func11, Try.ntmps11
    go_wp2_with fail
    refine (hc _).mono ?_
    rintro e w1 ⟨rfl, rfl⟩
    go_wp2
    go_ret
    exact ⟨rfl, hb0⟩

theorem Lies.new1 (w : World) (o : Obj) (t : TypeId) (cs : Array Value) : Lies ((w.alloc o).alloc (.cells cs t)) (w.heap.size + 1) t cs.toList := by
  have h := Lies.new (w.alloc o) t cs
  rwa [show (w.alloc o).heap.size = w.heap.size + 1 from Array.size_push _] at h
theorem Lies.new2 (w : World) (o o' : Obj) (t : TypeId) (cs : Array Value) : Lies (((w.alloc o).alloc o').alloc (.cells cs t)) (w.heap.size + 1 + 1) t cs.toList := by
  have h := Lies.new1 (w.alloc o) o' t cs
  rwa [show (w.alloc o).heap.size = w.heap.size + 1 from Array.size_push _] at h

set_option maxHeartbeats 1000000 in
theorem toPhrase_any (x : Ph) (w : World) (h : IntsR w w.heap.size x.A x.f) (hn : x.f.length ≤ 1048576) :
    Calls Try.prog 13 #[x.val] w fun e w' => ∃ g, e = .returned (Ph.val { x with A := some ⟨g, 0, none⟩, cap := x.f.length }) ∧ w.heap.size ≤ g ∧ Lies w' g 3 (encIs x.f) ∧ Below w.heap.size w w' := by
  have L1 := ((Lies.new w 24 #[.int .i64 x.s, .int .i64 x.c, .slice x.A x.f.length x.cap, .int .i64 x.p]).alloc (.cells #[.int .i64 0, .int .i64 0, .slice none 0 0, .int .i64 0] 27)).alloc (.cells #[.int .i64 x.s, .int .i64 x.c, .slice none 0 0, .int .i64 0] 27)
  have L2 := (Lies.new1 w (.cells #[.int .i64 x.s, .int .i64 x.c, .slice x.A x.f.length x.cap, .int .i64 x.p] 24) 27 #[.int .i64 0, .int .i64 0, .slice none 0 0, .int .i64 0]).alloc (.cells #[.int .i64 x.s, .int .i64 x.c, .slice none 0 0, .int .i64 0] 27)
  have L3 := Lies.new2 w (.cells #[.int .i64 x.s, .int .i64 x.c, .slice x.A x.f.length x.cap, .int .i64 x.p] 24) (.cells #[.int .i64 0, .int .i64 0, .slice none 0 0, .int .i64 0] 27) 27 #[.int .i64 x.s, .int .i64 x.c, .slice none 0 0, .int .i64 0]
  have b1 := (Below.refl w.heap.size w).alloc (Nat.le_refl _) (.cells #[.int .i64 x.s, .int .i64 x.c, .slice x.A x.f.length x.cap, .int .i64 x.p] 24)
  have b2 := b1.alloc b1.size (.cells #[.int .i64 0, .int .i64 0, .slice none 0 0, .int .i64 0] 27)
  have b3 := b2.alloc b2.size (.cells #[.int .i64 x.s, .int .i64 x.c, .slice none 0 0, .int .i64 0] 27)
  clear b1 b2
  go_enter Try.func13, Try.ntmps13
  go_wp2_with fail
  generalize (((w.alloc (.cells #[.int .i64 x.s, .int .i64 x.c, .slice x.A x.f.length x.cap, .int .i64 x.p] 24)).alloc (.cells #[.int .i64 0, .int .i64 0, .slice none 0 0, .int .i64 0] 27)).alloc (.cells #[.int .i64 x.s, .int .i64 x.c, .slice none 0 0, .int .i64 0] 27)) = W3 at L1 L2 L3 b3 ⊢
  refine (toIntS_any x.A x.cap x.f W3 (SlcR.up h b3 (Nat.le_refl _)) hn).mono ?_
  rintro e W4 ⟨g, rfl, hg, hL4, hb4⟩
  have hg1 := L1.lt
  have hg2 := L2.lt
  have hg3 := L3.lt
  have b4 := b3.trans (hb4.mono b3.size)
  have c3 := (L1.below hb4 L1.lt).cell 3
  have M2 := L2.below hb4 L2.lt
  have M3 := L3.below hb4 L3.lt
  have d0 := M3.cell 0
  have d1 := M3.cell 1
  have d2 := M3.cell 2
  have d3 := M3.cell 3
  have e0 := M2.cell 0
  have e1 := M2.cell 1
  have e2 := M2.cell 2
  have e3 := M2.cell 3
  have f2 := M3.frozen 2
  have f3 := M3.frozen 3
  have g0 := M2.frozen 0
  have g1 := M2.frozen 1
  have g2 := M2.frozen 2
  have g3 := M2.frozen 3
  simp only [List.getElem?_cons_zero, List.getElem?_cons_succ] at c3 d0 d1 d2 d3 e0 e1 e2 e3
  clear L1 L2 L3 h
  go_wp2
  refine bodyPost_ret (v := Ph.val { x with A := some ⟨g, 0, none⟩, cap := x.f.length }) (by simp [results, Try.results13, go_sem, *]) rfl ⟨g, rfl, Nat.le_trans b3.size hg, ?_, ?_⟩
  · exact (((((hL4.other (by simp only; omega) _).other (by simp only; omega) _).other (by simp only; omega) _).other (by simp only; omega) _).other (by simp only; omega) _).other (by simp only; omega) _
  · exact (b4.grown (grown_set (grown_set (World.grownBy.refl W4 (some (w.heap.size + 1 + 1))))) b4.size (by rintro _ ⟨⟩; omega)).grown (grown_set (grown_set (grown_set (grown_set (World.grownBy.refl _ (some (w.heap.size + 1))))))) (by simpa using b4.size) (by rintro _ ⟨⟩; omega)

def Ph.same (x y : Ph) : Bool := decide (x.s = y.s) && decide (x.c = y.c) && sameInts x.f y.f && decide (x.p = y.p)
theorem Ph.same_self (x : Ph) (A : Option Addr) (c : Nat) : Ph.same x { x with A := A, cap := c } = true := by simp [Ph.same, sameInts]

set_option maxHeartbeats 1000000 in
theorem eqPhrase_any (x y : Ph) (w : World) (hx : IntsR w w.heap.size x.A x.f) (hy : IntsR w w.heap.size y.A y.f) :
    Calls Try.prog 15 #[x.val, y.val] w fun e w' => e = .returned (.bool (Ph.same x y)) ∧ Below w.heap.size w w' := by
  have L1 := (Lies.new w 27 #[.int .i64 x.s, .int .i64 x.c, .slice x.A x.f.length x.cap, .int .i64 x.p]).alloc (.cells #[.int .i64 y.s, .int .i64 y.c, .slice y.A y.f.length y.cap, .int .i64 y.p] 27)
  have L2 := Lies.new1 w (.cells #[.int .i64 x.s, .int .i64 x.c, .slice x.A x.f.length x.cap, .int .i64 x.p] 27) 27 #[.int .i64 y.s, .int .i64 y.c, .slice y.A y.f.length y.cap, .int .i64 y.p]
  have b1 := (Below.refl w.heap.size w).alloc (Nat.le_refl _) (.cells #[.int .i64 x.s, .int .i64 x.c, .slice x.A x.f.length x.cap, .int .i64 x.p] 27)
  have b2 := b1.alloc b1.size (.cells #[.int .i64 y.s, .int .i64 y.c, .slice y.A y.f.length y.cap, .int .i64 y.p] 27)
  clear b1
  have HS : Hid (Ph.same x y = (decide (x.s = y.s) && decide (x.c = y.c) && sameInts x.f y.f && decide (x.p = y.p))) := rfl
  have hc := fun W hA hB => eqIntS_any x.A y.A x.cap y.cap x.f y.f W hA hB
  generalize sameInts x.f y.f = v at HS hc
  cases v
  all_goals
    by_cases h1 : x.s = y.s
    · have n1 : (x.s != y.s) = false := by simp [h1]
      have D1 := Lib.hid (decide_eq_true h1); clear h1
      by_cases h2 : x.c = y.c
      · have n2 : (x.c != y.c) = false := by simp [h2]
        have D2 := Lib.hid (decide_eq_true h2); clear h2
        by_cases h3 : x.p = y.p
        · have n3 : (x.p != y.p) = false := by simp [h3]
          have D3 := Lib.hid (decide_eq_true h3); clear h3
          go_enter Try.func15, Try.ntmps15
          go_wp2_with fail
          refine (hc _ (SlcR.up hx b2 (Nat.le_refl _)) (SlcR.up hy b2 (Nat.le_refl _))).mono ?_
          rintro e w1 ⟨rfl, hb⟩
          have k1 := (L1.below hb L1.lt).cell 3
          have k2 := (L2.below hb L2.lt).cell 3
          simp only [List.getElem?_cons_zero, List.getElem?_cons_succ] at k1 k2
          go_wp2
          go_ret
          exact ⟨by rw [HS.out, D1.out, D2.out, D3.out]; rfl, bthen b2 hb⟩
        · have n3 : (x.p != y.p) = true := by simp [h3]
          have D3 := Lib.hid (decide_eq_false h3); clear h3
          go_enter Try.func15, Try.ntmps15
          go_wp2_with fail
          refine (hc _ (SlcR.up hx b2 (Nat.le_refl _)) (SlcR.up hy b2 (Nat.le_refl _))).mono ?_
          rintro e w1 ⟨rfl, hb⟩
          have k1 := (L1.below hb L1.lt).cell 3
          have k2 := (L2.below hb L2.lt).cell 3
          simp only [List.getElem?_cons_zero, List.getElem?_cons_succ] at k1 k2
          go_wp2
          go_ret
          exact ⟨by rw [HS.out, D1.out, D2.out, D3.out]; rfl, bthen b2 hb⟩
      · have n2 : (x.c != y.c) = true := by simp [h2]
        have D2 := Lib.hid (decide_eq_false h2); clear h2
        go_enter Try.func15, Try.ntmps15
        go_wp2
        go_ret
        exact ⟨by rw [HS.out, D1.out, D2.out]; rfl, b2⟩
    · have n1 : (x.s != y.s) = true := by simp [h1]
      have D1 := Lib.hid (decide_eq_false h1); clear h1
      go_enter Try.func15, Try.ntmps15
      go_wp2
      go_ret
      exact ⟨by rw [HS.out, D1.out]; rfl, b2⟩
end Go.Proofs.Ytjdedcalbcnkmaa
