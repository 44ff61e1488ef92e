/- Marks on a copy of an office. -/
import Derived.Test.YtegkmjifphcojaaLawOffA
namespace Go.Proofs.Ytegkmjifphcojaa
open Go.RowKit

set_option maxHeartbeats 1000000 in
theorem markOffice_any (x : Off) (g1 g2 lo hi : Nat) (w : World) (hn : x.t.length ≤ 1048576) (hm : x.o.length ≤ 1048576) (l1 : lo ≤ g1) (l2 : g1 < g2) (l3 : g2 < hi) (l4 : hi ≤ w.heap.size)
    (h1 : Lies w g1 111 (x.t.flatMap Tray.enc)) (h2 : Lies w g2 104 (x.o.flatMap Outing.enc)) :
    Calls Try.prog 28 #[(x.copy g1 g2).val, .int .i64 1] w fun e w' => (∃ k1 : Int, e = .returned (.int .i64 k1) ∧ 0 ≤ k1) ∧ Mid lo hi w w' := by
  have b0 : Mid lo hi w (w.alloc (.cells #[.slice (some ⟨g1, 0, none⟩) x.t.length x.t.length, .slice (some ⟨g2, 0, none⟩) x.o.length x.o.length, .int .i64 x.got, .int .i64 x.sold, .int .i64 x.missed] 31)) :=
    ⟨rfl, rfl, rfl, by simp, fun k hk _ => Below.heap_alloc w _ k hk⟩
  have L0 := Lies.new w 31 #[.slice (some ⟨g1, 0, none⟩) x.t.length x.t.length, .slice (some ⟨g2, 0, none⟩) x.o.length x.o.length, .int .i64 x.got, .int .i64 x.sold, .int .i64 x.missed]
  have k1 := h1.alloc (.cells #[.slice (some ⟨g1, 0, none⟩) x.t.length x.t.length, .slice (some ⟨g2, 0, none⟩) x.o.length x.o.length, .int .i64 x.got, .int .i64 x.sold, .int .i64 x.missed] 31)
  have k2 := h2.alloc (.cells #[.slice (some ⟨g1, 0, none⟩) x.t.length x.t.length, .slice (some ⟨g2, 0, none⟩) x.o.length x.o.length, .int .i64 x.got, .int .i64 x.sold, .int .i64 x.missed] 31)
  go_enter Try.func28, Try.ntmps28
  go_wp2_with fail
  generalize w.alloc (.cells #[.slice (some ⟨g1, 0, none⟩) x.t.length x.t.length, .slice (some ⟨g2, 0, none⟩) x.o.length x.o.length, .int .i64 x.got, .int .i64 x.sold, .int .i64 x.missed] 31) = W at b0 L0 k1 k2 ⊢
  refine (markTrays_any (some ⟨g1, 0, none⟩) x.t.length x.t.length lo 1 (x.t.flatMap Tray.enc) W (by omega) (by omega) (by omega) ⟨flat_len Tray.enc 2 Tray.enc_len x.t, by omega, .inr ⟨g1, [], rfl, l1, by simpa using k1⟩⟩).mono ?_
  rintro e w1 ⟨rfl, o1, gr0⟩
  have gr1 : W.grownBy w1 (some g1) := gr0
  clear gr0 o1
  have m1 := b0.trans (Mid.of gr1 (by rintro _ ⟨⟩; exact ⟨l1, by omega⟩))
  have L1 := L0.kept gr1 (by intro e; injection e; omega)
  have j2 := k2.kept gr1 (by intro e; injection e; omega)
  have c1 := L1.cell 1
  simp only [List.getElem?_cons_zero, List.getElem?_cons_succ] at c1
  go_wp2_with fail
  refine (markOutings_any (some ⟨g2, 0, none⟩) x.o.length x.o.length lo _ (x.o.flatMap Outing.enc) w1 (by omega) (by omega) (by omega) ⟨flat_len Outing.enc 3 Outing.enc_len x.o, by omega, .inr ⟨g2, [], rfl, by omega, by simpa using j2⟩⟩).mono ?_
  rintro e w2 ⟨rfl, o2, gr0⟩
  have gr2 : w1.grownBy w2 (some g2) := gr0
  clear gr0 o2
  have m2 := m1.trans (Mid.of gr2 (by rintro _ ⟨⟩; exact ⟨by omega, l3⟩))
  go_wp2
  go_ret
  exact ⟨⟨_, rfl, by omega⟩, m2⟩
end Go.Proofs.Ytegkmjifphcojaa
