/- Offices in the program: the order of outings. -/
import Derived.Test.YtojceibamgodbaaDoorOffImpl1
namespace Go.Proofs.YtojceibamgodbaaDoor
open Go.RowKit

def orI (a b : Int) : Int := if a = 0 then b else a
theorem or2_any (a b : Int) (g c : Nat) (w : World) (h0 : w.cell? ⟨g, 0, none⟩ = some (.int .i64 a)) (h1 : w.cell? ⟨g, 1, none⟩ = some (.int .i64 b)) :
    Calls Tryd.prog 94 #[.slice (some ⟨g, 0, none⟩) 2 c] w fun e w' => e = .returned (.int .i64 (orI a b)) ∧ w = w' := by
  by_cases ha : a = 0
  · have va : (a != 0) = false := by simp [ha]
    have HE : Hid (orI a b = b) := by unfold Hid orI; rw [if_pos ha]
    clear ha
    by_cases hb : b = 0
    · have vb : (b != 0) = false := by simp [hb]
      have HB := Lib.hid hb; clear hb
      go_enter Tryd.func94, Tryd.ntmps94
      go_wp2
      refine wp_loop_rounds 3 ?_
      rw [rounds_succ]
      go_wp2
      rw [rounds_succ]
      go_wp2
      rw [rounds_succ]
      go_wp2
      go_ret
      exact ⟨by rw [HE.out, HB.out]; rfl, rfl⟩
    · have vb : (b != 0) = true := by simp [hb]
      clear hb
      go_enter Tryd.func94, Tryd.ntmps94
      go_wp2
      refine wp_loop_rounds 2 ?_
      rw [rounds_succ]
      go_wp2
      rw [rounds_succ]
      go_wp2
      go_ret
      exact ⟨by rw [HE.out]; rfl, rfl⟩
  · have va : (a != 0) = true := by simp [ha]
    have HE : Hid (orI a b = a) := by unfold Hid orI; rw [if_neg ha]
    clear ha
    go_enter Tryd.func94, Tryd.ntmps94
    go_wp2
    refine wp_loop_rounds 1 ?_
    rw [rounds_succ]
    go_wp2
    go_ret
    exact ⟨by rw [HE.out]; rfl, rfl⟩

def cmpO (a b : Outing) : Int := orI (cmpI a.k b.k) (cmpI a.p b.p)
theorem cmpO_before (a b : Outing) : decide (0 ≤ cmpO a b) = !(before a b) := by
  unfold cmpO orI cmpI before
  by_cases h1 : a.k < b.k
  · simp [h1]
  · by_cases h2 : b.k < a.k
    · have h3 : a.k ≠ b.k := by omega
      simp [h1, h2, h3]
    · have h3 : a.k = b.k := by omega
      by_cases h4 : a.p < b.p
      · simp [h3, h4]
      · by_cases h5 : b.p < a.p
        · simp [h3, h4, h5]
        · simp [h3, h4, h5]

set_option maxHeartbeats 1000000 in
theorem compareOutings_any (a b : Outing) (w : World) : Calls Tryd.prog 64 #[a.val, b.val] w fun e w' => e = .returned (.int .i64 (cmpO a b)) ∧ Below w.heap.size w w' := by
  have b1 := (Below.refl w.heap.size w).alloc (Nat.le_refl _) (.cells #[.int .i64 a.k, .int .i64 a.p, .int .i64 a.c] 99)
  have b2 := b1.alloc b1.size (.cells #[.int .i64 b.k, .int .i64 b.p, .int .i64 b.c] 99)
  have L1 := (Lies.new w 99 #[.int .i64 a.k, .int .i64 a.p, .int .i64 a.c]).alloc (.cells #[.int .i64 b.k, .int .i64 b.p, .int .i64 b.c] 99)
  have L2 := Lies.new1 w (.cells #[.int .i64 a.k, .int .i64 a.p, .int .i64 a.c] 99) 99 #[.int .i64 b.k, .int .i64 b.p, .int .i64 b.c]
  clear b1
  obtain ⟨X, hX⟩ : ∃ X, cmpI a.k b.k = X := ⟨_, rfl⟩
  obtain ⟨Y, hY⟩ : ∃ Y, cmpI a.p b.p = Y := ⟨_, rfl⟩
  have HO : Hid (cmpO a b = orI X Y) := by rw [← hX, ← hY]; rfl
  have cX := fun W => compare_any a.k b.k W
  have cY := fun W => compare_any a.p b.p W
  rw [hX] at cX
  rw [hY] at cY
  clear hX hY
  go_enter Tryd.func64, Tryd.ntmps64
  go_wp2
  generalize ((w.alloc (.cells #[.int .i64 a.k, .int .i64 a.p, .int .i64 a.c] 99)).alloc (.cells #[.int .i64 b.k, .int .i64 b.p, .int .i64 b.c] 99)) = W at b2 L1 L2 ⊢
  have c0 := L1.cell 0
  have c1 := L1.cell 1
  have d0 := L2.cell 0
  have d1 := L2.cell 1
  simp only [List.getElem?_cons_zero, List.getElem?_cons_succ] at c0 c1 d0 d1
  have HK : ∀ W', Below W.heap.size W W' → (Below W.heap.size W W' ∧ W'.cell? ⟨w.heap.size, 0, none⟩ = some (.int .i64 a.k) ∧ W'.cell? ⟨w.heap.size, 1, none⟩ = some (.int .i64 a.p) ∧ W'.cell? ⟨w.heap.size + 1, 0, none⟩ = some (.int .i64 b.k) ∧ W'.cell? ⟨w.heap.size + 1, 1, none⟩ = some (.int .i64 b.p)) := fun W' hb =>
    ⟨hb, (hb.cell L1.lt).trans c0, (hb.cell L1.lt).trans c1, (hb.cell L2.lt).trans d0, (hb.cell L2.lt).trans d1⟩
  have HL0 : (W.alloc (.cells #[.int .i64 X, .int .i64 Y] 3)).drew.cell? ⟨W.heap.size, 0, none⟩ = some (.int .i64 X) := (Lies.new W 3 #[.int .i64 X, .int .i64 Y]).cell 0
  have HL1 : (W.alloc (.cells #[.int .i64 X, .int .i64 Y] 3)).drew.cell? ⟨W.heap.size, 1, none⟩ = some (.int .i64 Y) := (Lies.new W 3 #[.int .i64 X, .int .i64 Y]).cell 1
  go_region_held3 (fun W' => Below W.heap.size W W' ∧ W'.cell? ⟨w.heap.size, 0, none⟩ = some (.int .i64 a.k) ∧ W'.cell? ⟨w.heap.size, 1, none⟩ = some (.int .i64 a.p) ∧ W'.cell? ⟨w.heap.size + 1, 0, none⟩ = some (.int .i64 b.k) ∧ W'.cell? ⟨w.heap.size + 1, 1, none⟩ = some (.int .i64 b.p)) (first | exact HK _ (Below.refl _ _).drew | exact HK _ (((Below.refl _ _).drew).alloc (by first | exact Nat.le_refl _ | simp) _) | (exact HK _ (by assumption))) (first | (go_at_call 95; with_reducible refine (cX _).mono ?_; rintro e w8 ⟨rfl, rfl⟩) | (go_at_call 95; with_reducible refine (cY _).mono ?_; rintro e w8 ⟨rfl, rfl⟩) | (go_at_call 94; refine (or2_any X Y W.heap.size 2 (W.alloc (.cells #[.int .i64 X, .int .i64 Y] 3)).drew HL0 HL1).mono ?_; rintro e w9 ⟨rfl, rfl⟩))
  all_goals
    go_wp2
    go_ret
    exact ⟨by rw [HO.out]; rfl, bthen b2 ((Below.refl W.heap.size W).alloc (Nat.le_refl _) _).drew⟩
end Go.Proofs.YtojceibamgodbaaDoor
