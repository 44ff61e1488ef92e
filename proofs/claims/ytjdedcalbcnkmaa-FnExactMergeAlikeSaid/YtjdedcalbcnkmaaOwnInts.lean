/- Copies of slices of ints: the reference's l1Own, the library's slices.Clone. -/
import Derived.Test.YtjdedcalbcnkmaaCat
import Derived.Test.YtjdedcalbcnkmaaInts
namespace Go.Proofs.Ytjdedcalbcnkmaa
open Go.RowKit

theorem infoI : (Try.prog.info? 3).map (fun i => (i.zero, i.size, i.bytes)) = some (some (.int .i64 0), 1, 8) := by kernel_rfl

/-- The result: a slice of the call's own that holds l. -/
def GivesInts (w : World) (l : List Int) (e : Ending) (w' : World) : Prop := ∃ A c, e = .returned (.slice A l.length c) ∧ OwnS w' w.heap.size 3 1 A l.length (encIs l) ∧ Below w.heap.size w w'
theorem GivesInts.mk {w w' : World} {l : List Int} {v : Value} (h : w'.ownsRow w.heap.size 3 1 v l.length (encIs l)) (hb : Below w.heap.size w w') : GivesInts w l (.returned v) w' := by
  obtain ⟨A, c, rfl⟩ := ownsRow_slice h
  exact ⟨A, c, rfl, OwnS.of h, hb⟩

theorem l1Own_any (A : Option Addr) (c : Nat) (l : List Int) (w : World) (h : IntsR w w.heap.size A l) (hn : l.length ≤ 1000000) :
    Calls Try.prog 49 #[.slice A l.length c] w (GivesInts w l) := by
  have HO : Hid ((w.alloc (.cells #[] 3)).ownsRow w.heap.size 3 1 (.slice (some ⟨w.heap.size, 0, none⟩) 0 0) 0 []) := owns_empty (Lies.new w 3 #[]) (Nat.le_refl _)
  have b1 := (Below.refl w.heap.size w).alloc (Nat.le_refl _) (.cells #[] 3)
  have HR := Lib.hid (SlcR.below h b1)
  go_enter Try.func49, Try.ntmps49
  go_wp2_with (at_builtin; refine wpList_cat rfl _ _ 22 rfl 3 (.int .i64 0) 1 8 Try.underlying22 infoI rfl (by omega) (by omega) w.heap.size _ 0 [] rfl HO w.heap.size A l.length c (encIs l) rfl HR ints_one (by omega) b1.size ?_; intro v' w1 hown _ hb2 _)
  go_ret
  exact GivesInts.mk (by simpa using hown.out) (b1.trans hb2)

theorem clone_any (A : Option Addr) (c : Nat) (l : List Int) (w : World) (h : IntsR w w.heap.size A l) (hn : l.length ≤ 1000000) :
    Calls Try.prog 72 #[.slice A l.length c] w (GivesInts w l) := by
  rcases A with _ | ad
  · have h0 : l.length = 0 := by
      rcases Nat.eq_zero_or_pos l.length with h0 | h0
      · exact h0
      · obtain ⟨_, _, h1, _⟩ := h.at_ h0; cases h1
    obtain rfl : l = [] := List.eq_nil_of_length_eq_zero h0
    have hq := fun W => Lib.run_eql_slice_nil (P := Try.prog) W 22 3 none 0 c 0 0 Try.underlying22
    go_enter Try.func72, Try.ntmps72
    go_wp2_with fail
    go_ret
    exact ⟨none, 0, rfl, ⟨by simp, by simp, .inl ⟨rfl, rfl⟩⟩, Below.refl _ _⟩
  · have HO : Hid ((w.alloc (.cells #[] 3)).ownsRow w.heap.size 3 1 (.slice (some ⟨w.heap.size, 0, none⟩) 0 0) 0 []) := owns_empty (Lies.new w 3 #[]) (Nat.le_refl _)
    have b1 := (Below.refl w.heap.size w).alloc (Nat.le_refl _) (.cells #[] 3)
    have HR := Lib.hid (SlcR.below h b1)
    have hq := fun W => Lib.run_eql_slice_nil (P := Try.prog) W 22 3 (some ad) l.length c 0 0 Try.underlying22
    go_enter Try.func72, Try.ntmps72
    go_wp2_with (at_builtin; refine wpList_cat rfl _ _ 22 rfl 3 (.int .i64 0) 1 8 Try.underlying22 infoI rfl (by omega) (by omega) w.heap.size _ 0 [] rfl HO w.heap.size (some ad) l.length c (encIs l) rfl HR ints_one (by omega) b1.size ?_; intro v' w1 hown _ hb2 _)
    go_ret
    exact GivesInts.mk (by simpa using hown.out) (b1.trans hb2)
end Go.Proofs.Ytjdedcalbcnkmaa
