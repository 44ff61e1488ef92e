/- copyPhrase: a phrase with its own faults. -/
import Derived.Test.YtjdedcalbcnkmaaPhrTo
import Derived.Test.YtjdedcalbcnkmaaOwnInts
namespace Go.Proofs.Ytjdedcalbcnkmaa
open Go.RowKit

theorem OwnS.lower {w : World} {B B' : Nat} {t : TypeId} {k : Nat} {A : Option Addr} {n : Nat} {cs : List Value} (h : OwnS w B t k A n cs) (hB : B' ≤ B) : OwnS w B' t k A n cs := by
  obtain ⟨hl, hn, h0 | ⟨g, rest, hA, hg, hh⟩⟩ := h
  · exact ⟨hl, hn, .inl h0⟩
  · exact ⟨hl, hn, .inr ⟨g, rest, hA, Nat.le_trans hB hg, hh⟩⟩

/-- A phrase like x whose faults are the call's own. -/
def GivesPh (w : World) (x : Ph) (e : Ending) (w' : World) : Prop := ∃ A c, e = .returned (Ph.val { x with A := A, cap := c }) ∧ OwnS w' w.heap.size 3 1 A x.f.length (encIs x.f) ∧ Below w.heap.size w w'

set_option maxHeartbeats 1000000 in
theorem copyPhrase_any (x : Ph) (w : World) (h : IntsR w w.heap.size x.A x.f) (hn : x.f.length ≤ 1000000) :
    Calls Try.prog 54 #[x.val] w (GivesPh w x) := by
  have L1 := (Lies.new w 27 #[.int .i64 x.s, .int .i64 x.c, .slice x.A x.f.length x.cap, .int .i64 x.p]).alloc (.cells #[.int .i64 0, .int .i64 0, .slice none 0 0, .int .i64 0] 27)
  have L2 := Lies.new1 w (.cells #[.int .i64 x.s, .int .i64 x.c, .slice x.A x.f.length x.cap, .int .i64 x.p] 27) 27 #[.int .i64 0, .int .i64 0, .slice none 0 0, .int .i64 0]
  have b1 := (Below.refl w.heap.size w).alloc (Nat.le_refl _) (.cells #[.int .i64 x.s, .int .i64 x.c, .slice x.A x.f.length x.cap, .int .i64 x.p] 27)
  have b2 := b1.alloc b1.size (.cells #[.int .i64 0, .int .i64 0, .slice none 0 0, .int .i64 0] 27)
  clear b1
  go_enter Try.func54, Try.ntmps54
  go_wp2_with fail
  generalize ((w.alloc (.cells #[.int .i64 x.s, .int .i64 x.c, .slice x.A x.f.length x.cap, .int .i64 x.p] 27)).alloc (.cells #[.int .i64 0, .int .i64 0, .slice none 0 0, .int .i64 0] 27)) = W3 at L1 L2 b2 ⊢
  refine (clone_any x.A x.cap x.f W3 (SlcR.up h b2 (Nat.le_refl _)) hn).mono ?_
  rintro e W4 ⟨A', c', rfl, hO, hb4⟩
  have b4 := b2.trans (hb4.mono b2.size)
  have M1 := L1.below hb4 L1.lt
  have M2 := L2.below hb4 L2.lt
  have hne1 := M1.lt
  have hne2 := M2.lt
  have d0 := M1.cell 0
  have d1 := M1.cell 1
  have d2 := M1.cell 2
  have d3 := M1.cell 3
  have e0 := M2.cell 0
  have e1 := M2.cell 1
  have e2 := M2.cell 2
  have e3 := M2.cell 3
  have f2 := M1.frozen 2
  have g0 := M2.frozen 0
  have g1 := M2.frozen 1
  have g2 := M2.frozen 2
  have g3 := M2.frozen 3
  have hg1 := L1.lt
  have hg2 := L2.lt
  have HO := Lib.hid hO; clear hO
  simp only [List.getElem?_cons_zero, List.getElem?_cons_succ] at d0 d1 d2 d3 e0 e1 e2 e3
  clear L1 L2 h M1 M2
  go_wp2
  refine bodyPost_ret (v := Ph.val { x with A := A', cap := c' }) (by simp [results, Try.results54, go_sem, *]) rfl ⟨A', c', rfl, ?_, ?_⟩
  · exact (((HO.out.kept (grown_set (World.grownBy.refl W4 (some w.heap.size))) (by omega)).kept (grown_set (grown_set (grown_set (grown_set (World.grownBy.refl _ (some (w.heap.size + 1))))))) (by omega)).lower b2.size)
  · exact (b4.grown (grown_set (World.grownBy.refl W4 (some w.heap.size))) b4.size (by rintro _ ⟨⟩; omega)).grown (grown_set (grown_set (grown_set (grown_set (World.grownBy.refl _ (some (w.heap.size + 1))))))) (by simpa using b4.size) (by rintro _ ⟨⟩; omega)
end Go.Proofs.Ytjdedcalbcnkmaa
