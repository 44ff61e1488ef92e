/- Whether a log is valid, in the reference. -/
import Derived.Test.YtojceibamgodbaaDoorOpenS
import Derived.Test.YtojceibamgodbaaDoorLogI
namespace Go.Proofs.YtojceibamgodbaaDoor
open Go.RowKit

set_option maxRecDepth 100000 in
set_option maxHeartbeats 4000000 in
theorem l33Log_any (l : Lg) (w : World) (hs : l.D.size + l.P.size ≤ 2000000) :
    Calls Tryd.prog 47 #[l.val] w fun e w' => e = .returned (.bool l.ok) ∧ Below w.heap.size w w' := by
  have b1 := (Below.refl w.heap.size w).alloc (Nat.le_refl _) (.cells #[.string l.D, .string l.P, .int .i64 l.n] 36)
  have L1 := Lies.new w 36 #[.string l.D, .string l.P, .int .i64 l.n]
  have hbl : bl (l.D ++ l.P) = bl l.D ++ bl l.P := bl_app _ _
  have hz : (l.D ++ l.P).size = l.D.size + l.P.size := size_app _ _
  have hok := @logOk_iff (bl l.D) (bl l.P) l.n
  rw [← hbl] at hok
  rw [bl_size, bl_size] at hok
  by_cases hbig : 30000 < l.D.size + l.P.size
  · have HOK : Hid (l.ok = false) := by
      unfold Hid Lg.ok
      rw [Bool.eq_false_iff]
      intro h
      have h1 := logOk_small (by rw [← hbl, bl_size, bl_size]; exact (hok.1 h).1)
      rw [bl_size, bl_size] at h1; omega
    have d0 : decide (30000 < (l.D.size : Int) + (l.P.size : Int)) = true := decide_eq_true (by omega)
    clear hok hbig
    go_enter Tryd.func47, Tryd.ntmps47
    go_wp2_with fail
    go_ret
    exact ⟨by rw [HOK.out]; rfl, b1⟩
  · have d0 : decide (30000 < (l.D.size : Int) + (l.P.size : Int)) = false := decide_eq_false (by omega)
    have hs3 : l.D.size + l.P.size ≤ 30000 := by omega
    have HA := Lib.hid (fun W => l33Open_any (l.D ++ l.P) W (by omega))
    have HB := Lib.hid (fun W => l33Open_any l.D W (by omega))
    have hlen := openF_length 60 0 (bl (l.D ++ l.P))
    have hroom := openF_room 60 0 (bl (l.D ++ l.P))
    have hroomD := openF_room 60 0 (bl l.D)
    rw [bl_size] at hroom hroomD
    obtain ⟨k0, hk0⟩ : ∃ k0, k0 = (openF 60 0 (bl (l.D ++ l.P))).length := ⟨_, rfl⟩
    obtain ⟨z, hzz⟩ : ∃ z, z = lens (openF 60 0 (bl (l.D ++ l.P))) := ⟨_, rfl⟩
    obtain ⟨y, hyy⟩ : ∃ y, y = lens (openF 60 0 (bl l.D)) := ⟨_, rfl⟩
    have HA2 : Hid (∀ W, Calls Tryd.prog 53 #[.string (l.D ++ l.P)] W fun e w' => ∃ A c k, k = k0 ∧ e = .returned (.tuple #[.slice A k c, .int .i64 (z : Nat)]) ∧ Below W.heap.size W w') := fun W => by
      refine (HA.out W).mono ?_
      rintro e w' ⟨A, c, m, rfl, hm, _, hb⟩
      exact ⟨A, c, m.length, by rw [recsOf_len hm, hk0], by rw [hzz], hb⟩
    have HB2 : Hid (∀ W, Calls Tryd.prog 53 #[.string l.D] W fun e w' => ∃ A c k, e = .returned (.tuple #[.slice A k c, .int .i64 (y : Nat)]) ∧ Below W.heap.size W w') := fun W => by
      refine (HB.out W).mono ?_
      rintro e w' ⟨A, c, m, rfl, hm, _, hb⟩
      exact ⟨A, c, m.length, by rw [hyy], hb⟩
    rw [← hk0, ← hzz, ← hyy] at hok
    rw [← hk0] at hlen
    rw [← hzz] at hroom
    rw [← hyy] at hroomD
    have HOK : Hid (l.ok = (decide (z = l.D.size + l.P.size) && decide (y = l.D.size) && decide ((k0 : Int) = l.n))) := by
      unfold Hid Lg.ok
      rw [Bool.eq_iff_iff, hok]
      simp [and_assoc]
    clear hok hbl hk0 hzz hyy HA HB hbig
    go_enter Tryd.func47, Tryd.ntmps47
    go_wp2_with fail
    generalize w.alloc (.cells #[.string l.D, .string l.P, .int .i64 l.n] 36) = W at b1 L1 ⊢
    generalize hg : w.heap.size = g at L1 ⊢
    refine (HA2.out _).mono ?_
    rintro e w2 ⟨A, c, k, rfl, rfl, hb2⟩
    have L2 := L1.below hb2 L1.lt
    have c0 := L2.cell 0
    have c1 := L2.cell 1
    have c2 := L2.cell 2
    simp only [List.getElem?_cons_zero, List.getElem?_cons_succ] at c0 c1 c2
    clear L1
    go_wp2_with fail
    refine (HB2.out _).mono ?_
    rintro e w3 ⟨A', c', k', rfl, hb3⟩
    have L3 := L2.below hb3 L2.lt
    clear c0 c1 c2
    have c0 := L3.cell 0
    have c1 := L3.cell 1
    have c2 := L3.cell 2
    simp only [List.getElem?_cons_zero, List.getElem?_cons_succ] at c0 c1 c2
    have hbb : Below w.heap.size w w3 := by rw [← hg] at *; exact bthen b1 (bthen hb2 hb3)
    clear L2 L3
    by_cases e1 : z = l.D.size + l.P.size
    · rw [decide_eq_true e1] at HOK
      have d1 : ((z : Int) == (l.D.size : Int) + (l.P.size : Int)) = true := by rw [e1]; simp
      by_cases e2 : y = l.D.size
      · rw [decide_eq_true e2] at HOK
        have d2 : ((y : Int) == (l.D.size : Int)) = true := by rw [e2]; simp
        by_cases e3 : (k : Int) = l.n
        · rw [decide_eq_true e3] at HOK
          have d3 : ((k : Int) == l.n) = true := by rw [e3]; simp
          clear e1 e2 e3
          go_wp2_with fail
          go_ret
          exact ⟨by rw [HOK.out]; rfl, hbb⟩
        · rw [decide_eq_false e3] at HOK
          have d3 : ((k : Int) == l.n) = false := by simp [e3]
          clear e1 e2 e3
          go_wp2_with fail
          go_ret
          exact ⟨by rw [HOK.out]; rfl, hbb⟩
      · rw [decide_eq_false e2] at HOK
        have d2 : ((y : Int) == (l.D.size : Int)) = false := by simp; omega
        clear e1 e2
        go_wp2_with fail
        go_ret
        exact ⟨by rw [HOK.out]; rfl, hbb⟩
    · rw [decide_eq_false e1] at HOK
      have d1 : ((z : Int) == (l.D.size : Int) + (l.P.size : Int)) = false := by simp; omega
      clear e1
      go_wp2_with fail
      go_ret
      exact ⟨by rw [HOK.out]; rfl, hbb⟩
end Go.Proofs.YtojceibamgodbaaDoor
