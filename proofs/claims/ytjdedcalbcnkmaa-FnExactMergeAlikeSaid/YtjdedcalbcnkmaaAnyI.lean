/- slices.ContainsFunc over ints. -/
import Derived.Test.YtjdedcalbcnkmaaRise
import Derived.Test.YtjdedcalbcnkmaaMore
namespace Go.Proofs.Ytjdedcalbcnkmaa
open Go.RowKit

set_option maxHeartbeats 1000000 in
theorem idxI_any (f : Int → Bool) (hf : ∀ x W, Calls Try.prog 68 #[.int .i64 x] W fun e w' => e = .returned (.bool (f x)) ∧ Below W.heap.size W w') (A : Option Addr) (c : Nat) (l : List Int) (w : World) (h : IntsR w w.heap.size A l) :
    Calls Try.prog 78 #[.slice A l.length c, .func (.func 68) #[] #[]] w fun e w' => e = .returned (.int .i64 (idxFrom f 0 l)) ∧ Below w.heap.size w w' := by
  have hl := h.big
  have hrd := h.ints
  have HF : Hid (idxFrom f 0 (l.drop 0) = idxFrom f 0 l) := rfl
  go_enter Try.func78, Try.ntmps78
  go_wp2
  go_loopw [8] (fun i wr => ∃ (k : Nat), k ≤ l.length ∧ i = .int .i64 k ∧ (∃ q : Since w.heap.size w, wr = q.val) ∧ Hid (idxFrom f k (l.drop k) = idxFrom f 0 l)) (fun i _ => l.length - (intOf i).toNat)
  case atStart => exact ⟨0, Nat.zero_le _, rfl, ⟨Since.start _ _, rfl⟩, HF⟩
  case round =>
    obtain ⟨k, hk, rfl, ⟨q, rfl⟩, HR⟩ := hrel
    by_cases hlt : k < l.length
    · obtain ⟨b, off, rfl, hb, hcell⟩ := hrd (by omega)
      have c0 := hcell k hlt
      have hy := fun hv => idx_yes (f := f) hlt hv
      have hn := fun hv => idx_no (f := f) hlt hv
      obtain ⟨x, hxe⟩ : ∃ x, x = l[k] := ⟨_, rfl⟩
      rw [← hxe] at c0 hy hn
      clear hxe hcell hrd
      have hfx := fun W => hf x W
      cases hv : f x
      · have HE : Hid (idxFrom f (k + 1) (l.drop (k + 1)) = idxFrom f 0 l) := by rw [← hn hv]; exact HR.out
        rw [hv] at hfx
        clear hy hn hv hf
        go_wp2_with (go_at_call 68; refine (hfx _).mono ?_; rintro e w1 ⟨rfl, hb1⟩)
        go_roundw
        case rel => exact ⟨k + 1, by omega, by go_num, ⟨q.go (Nat.le_refl _) hb1, rfl⟩, HE⟩
        case measure => simp [intOf]; omega
      · have HE : Hid ((k : Int) = idxFrom f 0 l) := by rw [← hy hv]; exact HR.out
        rw [hv] at hfx
        clear hy hn hv hf
        go_wp2_with (go_at_call 68; refine (hfx _).mono ?_; rintro e w1 ⟨rfl, hb1⟩)
        go_ret
        exact ⟨by rw [← HE.out]; rfl, (q.go (Nat.le_refl _) hb1).below⟩
    · have HE : Hid (-1 = idxFrom f 0 l) := by
        have h1 := HR.out; rw [List.drop_eq_nil_of_le (by omega)] at h1; exact h1
      clear hrd
      go_wp2
      go_ret
      exact ⟨by rw [← HE.out]; rfl, q.below⟩

theorem anyI_any (f : Int → Bool) (hf : ∀ x W, Calls Try.prog 68 #[.int .i64 x] W fun e w' => e = .returned (.bool (f x)) ∧ Below W.heap.size W w') (A : Option Addr) (c : Nat) (l : List Int) (w : World) (h : IntsR w w.heap.size A l) :
    Calls Try.prog 67 #[.slice A l.length c, .func (.func 68) #[] #[]] w fun e w' => e = .returned (.bool (l.any f)) ∧ Below w.heap.size w w' := by
  have hi := idxI_any f hf A c l w h
  have HA : Hid (decide (0 ≤ idxFrom f 0 l) = l.any f) := idxFrom_any f l 0
  generalize idxFrom f 0 l = v at hi HA
  go_enter Try.func67, Try.ntmps67
  go_wp2_with fail
  refine hi.mono ?_
  rintro e w1 ⟨rfl, hb1⟩
  go_wp2
  go_ret
  exact ⟨by rw [← HA.out]; rfl, hb1⟩
end Go.Proofs.Ytjdedcalbcnkmaa
