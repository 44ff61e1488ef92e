/- The laws FnExactIsOfficeRow and FnExactAreOfficeRows: the walks. -/
import Derived.Test.YtgdjdejfegkjdaaRowGood
namespace Go.Proofs.Ytgdjdejfegkjdaa
open Go.RowKit

theorem lawIsOfficeRow_any (r : Row) (w : World) : Calls Try.prog 3 #[r.val] w fun e w' => e = .returned (.bool true) ∧ Below w.heap.size w w' := by
  go_enter Try.func3, Try.ntmps3
  go_wp2_with fail
  have hbW := ((Below.refl w.heap.size w).alloc (Nat.le_refl _) (.cells #[.int .i64 r.m, .int .i64 r.b, .int .i64 r.s, .int .i64 r.c, .int .i64 r.l] 23))
  have hlW := Lies.new w 23 #[.int .i64 r.m, .int .i64 r.b, .int .i64 r.s, .int .i64 r.c, .int .i64 r.l]
  generalize w.alloc (.cells #[.int .i64 r.m, .int .i64 r.b, .int .i64 r.s, .int .i64 r.c, .int .i64 r.l] 23) = W at hbW hlW ⊢
  obtain ⟨d0, d1, d2, d3, d4⟩ := RowS.of (r := r) hlW
  refine (calls_since0 (toRow_any r _)).mono ?_
  rintro e _ ⟨rfl, q1, rfl⟩
  go_wp2_with fail
  refine (calls_since (Nat.le_refl _) (specIsOfficeRow_any r _)).mono ?_
  rintro e _ ⟨rfl, q2, rfl⟩
  go_wp2_with fail
  refine (calls_since (Nat.le_refl _) (toRow_any r _)).mono ?_
  rintro e _ ⟨rfl, q3, rfl⟩
  go_wp2_with fail
  refine (calls_since (Nat.le_refl _) (implIsOfficeRow_any r _)).mono ?_
  rintro e _ ⟨rfl, q4, rfl⟩
  go_wp2_with fail
  go_ret
  exact ⟨rfl, hbW.trans (q4.below.mono hbW.size)⟩

/-- What the copy of an argument gives to whoever reads it. -/
theorem lies_rows {W : World} {g : Nat} {t : TypeId} {l : List Row} (h : Lies W g t (l.flatMap Row.enc)) (hn : l.length ≤ 9223372036854775807) : RowsR W W.heap.size (some ⟨g, 0, none⟩) l :=
  Lies.reads h (flat_len Row.enc 5 Row.enc_len l) hn

set_option maxHeartbeats 1000000 in
theorem lawAreOfficeRows_any (A : Option Addr) (c : Nat) (l : List Row) (w : World) (h : RowsR w w.heap.size A l) :
    Calls Try.prog 4 #[.slice A l.length c] w fun e w' => e = .returned (.bool true) ∧ Below w.heap.size w w' := by
  have hl := h.big
  by_cases hbig : (l.length : Int) ≤ 1048576
  · have HS : lessen 1048576 l.length = 1048576 - l.length := by unfold lessen; rw [if_pos (by omega)]
    have HZ := Lib.hid HS; clear HS
    go_enter Try.func4, Try.ntmps4
    go_wp2_with fail
    refine (szRows_any A _ c _ _ hl (by omega) (by omega)).mono ?_
    rintro e w0 ⟨rfl, rfl⟩
    rw [HZ.out]
    go_wp2_with fail
    refine (toRows_any A c l _ h (by omega)).mono ?_
    rintro e w1 ⟨g1, rfl, hg1, hl1, hb1⟩
    go_wp2_with fail
    refine (specAreOfficeRows_any _ _ l _ (lies_rows hl1 hl)).mono ?_
    rintro e w2 ⟨rfl, hb2⟩
    have k2 := bthen hb1 hb2
    go_wp2_with fail
    refine (toRows_any A c l _ (h.then k2) (by omega)).mono ?_
    rintro e w3 ⟨g3, rfl, hg3, hl3, hb3⟩
    have k3 := bthen k2 hb3
    go_wp2_with fail
    refine (implAreOfficeRows_any _ _ l _ (lies_rows hl3 hl)).mono ?_
    rintro e w4 ⟨rfl, hb4⟩
    have k4 := bthen k3 hb4
    go_wp2_with fail
    refine (toRows_any A c l _ (h.then k4) (by omega)).mono ?_
    rintro e w5 ⟨g5, rfl, hg5, hl5, hb5⟩
    have k5 := bthen k4 hb5
    go_wp2_with fail
    refine (eqRows_any _ _ _ _ l l _ ((lies_rows hl3 hl).then (bthen hb4 hb5)) (lies_rows hl5 hl)).mono ?_
    rintro e w6 ⟨rfl, hb6⟩
    have k6 := bthen k5 hb6
    have hs : sameRows l l = true := by simp [sameRows]
    rw [hs]
    go_wp2_with fail
    go_ret
    exact ⟨rfl, k6⟩
  · have HS : lessen 1048576 l.length = -1 := by unfold lessen; rw [if_neg (by omega)]
    have HZ := Lib.hid HS; clear HS
    go_enter Try.func4, Try.ntmps4
    go_wp2_with fail
    refine (szRows_any A _ c _ _ hl (by omega) (by omega)).mono ?_
    rintro e w0 ⟨rfl, rfl⟩
    rw [HZ.out]
    go_wp2_with fail
    go_ret
    exact ⟨rfl, Below.refl _ _⟩
end Go.Proofs.Ytgdjdejfegkjdaa
