/- Slices of ints: copies and sizes. -/
import Derived.Test.YtjdedcalbcnkmaaInts
namespace Go.Proofs.Ytjdedcalbcnkmaa
open Go.RowKit

def lessen (k : Int) (n : Nat) : Int := if (n : Int) ≤ k then k - n else -1
theorem szIntS_any (A : Option Addr) (n c : Nat) (k : Int) (w : World) (hn : n ≤ 9223372036854775807) (_hk : 0 ≤ k) (_hk' : k ≤ 1048576) :
    Calls Try.prog 41 #[.slice A n c, .int .i64 k] w fun e w' => e = .returned (.int .i64 (lessen k n)) ∧ w = w' := by
  go_enter Try.func41, Try.ntmps41
  go_wp2
  all_goals (go_ret; refine ⟨?_, rfl⟩; unfold lessen; first | (rw [if_neg (by omega)]; rfl) | (rw [if_pos (by omega)]; rfl))

theorem infoInt : (Try.prog.info? 3).map (fun i => (i.zero, i.size, i.bytes)) = some (some (.int .i64 0), 1, 8) := by kernel_rfl

set_option maxHeartbeats 1000000 in
theorem toIntS_any (A : Option Addr) (c : Nat) (l : List Int) (w : World) (h : IntsR w w.heap.size A l) (hn : l.length ≤ 1048576) :
    Calls Try.prog 43 #[.slice A l.length c] w fun e w' => ∃ g, e = .returned (.slice (some ⟨g, 0, none⟩) l.length l.length) ∧ w.heap.size ≤ g ∧ Lies w' g 3 (encIs l) ∧ Below w.heap.size w w' := by
  have hmk := fun W => run_make_all (P := Try.prog) 22 3 _ 1 8 Try.underlying22 infoInt l.length (by omega) (by omega) W
  have hrd := h.ints
  go_enter Try.func43, Try.ntmps43
  go_wp2
  go_loopw [4] (fun i wr => ∃ (k : Nat) (rest : List Value), k ≤ l.length ∧ i = .int .i64 k ∧ Below w.heap.size w wr ∧ Hid (Lies wr w.heap.size 3 (encIs (l.take k) ++ rest) ∧ rest.length = l.length - k)) (fun i _ => l.length - (intOf i).toNat)
  case atStart =>
    refine ⟨0, _, Nat.zero_le _, rfl, (Below.refl _ _).alloc (Nat.le_refl _) _, ⟨by simpa using Lies.new w _ _, by simp [size_madeCells]⟩⟩
  case round =>
    obtain ⟨k, rest, hk, rfl, hbel, HR⟩ := hrel
    obtain ⟨q, rfl⟩ : ∃ q : Since w.heap.size w, wr = q.val := ⟨⟨wr, hbel⟩, rfl⟩
    by_cases hlt : k < l.length
    · obtain ⟨b, off, rfl, hb, hcell⟩ := hrd (by omega)
      obtain ⟨u, rest', rfl⟩ : ∃ u r, rest = u :: r := by
        cases rest with
        | nil => have := HR.out.2; simp at this; omega
        | cons u m => exact ⟨u, m, rfl⟩
      have c0 := hcell k hlt
      have HS : Hid (encIs (l.take (k + 1)) = encIs (l.take k) ++ [.int .i64 l[k]]) := by
        unfold Hid encIs; rw [List.take_succ_eq_append_getElem hlt, List.map_append]; rfl
      obtain ⟨x, hxe⟩ : ∃ x, x = l[k] := ⟨_, rfl⟩
      rw [← hxe] at c0 HS
      clear hxe hcell hrd
      have f0 : q.val.cell? ⟨w.heap.size, k, none⟩ = some u := by
        rw [HR.out.1.cell, List.getElem?_append_right (by simp [Nat.min_eq_left hk])]; simp [Nat.min_eq_left hk]
      have f1 : q.val.frozen? ⟨w.heap.size, k, none⟩ = false := HR.out.1.frozen k
      go_wp2
      go_roundw
      case rel =>
        refine ⟨k + 1, rest', by omega, by go_num, q.below.grown (grown_set (World.grownBy.refl _ _)) q.size (by rintro _ ⟨⟩; exact Nat.le_refl _), ?_, by have := HR.out.2; simp at this; omega⟩
        have h1 := HR.out.1.set k (.int .i64 x)
        have h2 := set_mid (encIs (l.take k)) rest' u (.int .i64 x)
        rw [encIs_len, List.length_take, Nat.min_eq_left hk, Nat.mul_one] at h2
        rw [h2] at h1
        rw [HS.out]; simpa using h1
      case measure => simp [intOf]; omega
    · have HK : Hid (k = l.length) := by unfold Hid; omega
      go_wp2
      go_ret
      refine ⟨w.heap.size, rfl, Nat.le_refl _, ?_, q.below⟩
      have h0 : rest = [] := List.eq_nil_of_length_eq_zero (by have := HR.out.2; have := HK.out; omega)
      have h1 := HR.out.1
      rw [h0, List.take_of_length_le (by have := HK.out; omega), List.append_nil] at h1
      exact h1
end Go.Proofs.Ytjdedcalbcnkmaa
