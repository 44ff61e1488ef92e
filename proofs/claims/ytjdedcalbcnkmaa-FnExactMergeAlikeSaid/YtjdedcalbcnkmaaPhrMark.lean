/- Marks on a list of phrases of the call's own. -/
import Derived.Test.YtjdedcalbcnkmaaPhrs
import Derived.Test.YtjdedcalbcnkmaaMore
namespace Go.Proofs.Ytjdedcalbcnkmaa
open Go.RowKit

theorem fsum_take {l : List Ph} {k : Nat} (h : k < l.length) : fsum (l.take (k + 1)) = fsum (l.take k) + l[k].f.length := by
  induction l generalizing k with
  | nil => simp at h
  | cons x l ih =>
    cases k with
    | zero => simp [fsum]
    | succ k =>
      have := ih (k := k) (by simpa using h)
      simp only [List.take_succ_cons, fsum, this, List.getElem_cons_succ]; omega
theorem fsum_take_le (l : List Ph) (k : Nat) : fsum (l.take k) ≤ fsum l := by
  induction l generalizing k with
  | nil => simp
  | cons x l ih =>
    cases k with
    | zero => simp [fsum]
    | succ k => have := ih k; simp only [List.take_succ_cons, fsum]; omega

/-- What still lies unmarked. -/
structure Left (w : World) (lo hi G : Nat) (n : Nat) (l : List Ph) : Prop where
  lies : ∃ done rest, done.length = n * 4 ∧ Lies w G 27 (done ++ (l.flatMap Ph.enc ++ rest))
  at_ : lo ≤ G ∧ G < hi
  fs : ∀ x ∈ l, ∃ g, x.A = some ⟨g, 0, none⟩ ∧ G < g ∧ g < hi ∧ Lies w g 3 (encIs x.f)
  nd : l.Pairwise fun x y => x.A ≠ y.A

set_option maxHeartbeats 2000000 in
theorem markPhraseS_any (lo hi G c : Nat) (k0 : Int) (l : List Ph) (w : World) (hk : 0 ≤ k0) (hk' : k0 ≤ 1000) (hn : need l ≤ 1048576) (h : Left w lo hi G 0 l) :
    Calls Try.prog 28 #[.slice (some ⟨G, 0, none⟩) l.length c, .int .i64 k0] w fun e w' => (∃ k1 : Int, e = .returned (.int .i64 k1) ∧ 0 ≤ k1) ∧ Mid lo hi w w' := by
  have hlen : l.length ≤ 1048576 := by unfold need at hn; omega
  have hft : Hid (∀ k, fsum (l.take k) ≤ 1048576) := fun k => by have := fsum_take_le l k; unfold need at hn; omega
  go_enter Try.func28, Try.ntmps28
  go_wp2
  go_loopw [1, 5] (fun kk i wr => ∃ (j s : Nat), j ≤ l.length ∧ i = .int .i64 j ∧ kk = .int .i64 (k0 + (3 * j + s : Nat)) ∧ s ≤ 1048576 ∧ Hid (s = fsum (l.take j)) ∧ Hid (Left wr lo hi G j (l.drop j)) ∧ Mid lo hi w wr) (fun _ i _ => l.length - (intOf i).toNat)
  case atStart => exact ⟨0, 0, Nat.zero_le _, rfl, congrArg _ (by simp), Nat.zero_le _, rfl, h, Mid.refl _ _ _⟩
  case round =>
    obtain ⟨j, s, hj, rfl, rfl, hs, HS, HR, hgr⟩ := hrel
    by_cases hlt : j < l.length
    · have HN : Hid (s + l[j].f.length = fsum (l.take (j + 1))) := by unfold Hid; rw [fsum_take hlt, HS.out]
      have hs1 : s + l[j].f.length ≤ 1048576 := by have := hft.out (j + 1); rw [← HN.out] at this; exact this
      have HD : Hid (l.drop j = l[j] :: l.drop (j + 1)) := List.drop_eq_getElem_cons hlt
      obtain ⟨x, hxe⟩ : ∃ x, x = l[j] := ⟨_, rfl⟩
      rw [← hxe] at HN hs1 HD
      clear hxe h
      have hR := HR.out
      rw [HD.out] at hR
      obtain ⟨⟨done, rest, hdl, hL⟩, ⟨hG1, hG2⟩, hfs, hnd⟩ := hR
      have HL := Lib.hid hL; clear hL
      have HDL := Lib.hid hdl; clear hdl
      obtain ⟨g, hA, hGg, hgh, hLg⟩ := hfs x (List.mem_cons_self ..)
      have HF : Hid (∀ y ∈ l.drop (j + 1), ∃ g', y.A = some ⟨g', 0, none⟩ ∧ G < g' ∧ g' < hi ∧ g' ≠ g ∧ Lies wr g' 3 (encIs y.f)) := fun y hy => by
        obtain ⟨g', hA', h1, h2, h3⟩ := hfs y (List.mem_cons_of_mem _ hy)
        refine ⟨g', hA', h1, h2, fun e => (List.pairwise_cons.1 hnd).1 y hy ?_, h3⟩
        rw [hA, hA', e]
      have HND := Lib.hid (List.pairwise_cons.1 hnd).2
      clear hfs hnd
      have hL' : Lies wr G 27 (done ++ (.int .i64 x.s :: .int .i64 x.c :: .slice x.A x.f.length x.cap :: .int .i64 x.p :: ((l.drop (j + 1)).flatMap Ph.enc ++ rest))) := by
        have := HL.out; simpa [Ph.enc] using this
      clear HL
      have HL := Lib.hid hL'; clear hL'
      have c0 : wr.cell? ⟨G, j * 4, none⟩ = some (.int .i64 x.s) := (HL.out.cell _).trans (at_behind HDL.out 0)
      have c1 : wr.cell? ⟨G, j * 4 + 1, none⟩ = some (.int .i64 x.c) := (HL.out.cell _).trans (at_behind HDL.out 1)
      have c2 : wr.cell? ⟨G, j * 4 + 2, none⟩ = some (.slice x.A x.f.length x.cap) := (HL.out.cell _).trans (at_behind HDL.out 2)
      have c3 : wr.cell? ⟨G, j * 4 + 3, none⟩ = some (.int .i64 x.p) := (HL.out.cell _).trans (at_behind HDL.out 3)
      rw [hA] at c2
      have HA := Lib.hid hA; clear hA
      have f0 : wr.frozen? ⟨G, j * 4, none⟩ = false := HL.out.frozen _
      have f1 : wr.frozen? ⟨G, j * 4 + 1, none⟩ = false := HL.out.frozen _
      have f2 : wr.frozen? ⟨G, j * 4 + 2, none⟩ = false := HL.out.frozen _
      have f3 : wr.frozen? ⟨G, j * 4 + 3, none⟩ = false := HL.out.frozen _
      have hm0 : Mid lo hi w ((wr.setCell ⟨G, j * 4, none⟩ (.int .i64 (k0 + (3 * (j : Int) + (s : Int))))).setCell ⟨G, j * 4 + 1, none⟩ (.int .i64 (k0 + (3 * (j : Int) + (s : Int)) + 1))) :=
        hgr.trans (Mid.of (grown_set (grown_set (World.grownBy.refl wr (some G)))) (by rintro _ ⟨⟩; exact ⟨hG1, hG2⟩))
      have hL0 : Hid (Lies ((wr.setCell ⟨G, j * 4, none⟩ (.int .i64 (k0 + (3 * (j : Int) + (s : Int))))).setCell ⟨G, j * 4 + 1, none⟩ (.int .i64 (k0 + (3 * (j : Int) + (s : Int)) + 1))) G 27 (done ++ (.int .i64 (k0 + (3 * (j : Int) + (s : Int))) :: .int .i64 (k0 + (3 * (j : Int) + (s : Int)) + 1) :: .slice x.A x.f.length x.cap :: .int .i64 x.p :: ((l.drop (j + 1)).flatMap Ph.enc ++ rest)))) := by
        have h1 := HL.out.set (j * 4) (.int .i64 (k0 + (3 * (j : Int) + (s : Int))))
        have e0 := fun r u => set_behind (r := r) HDL.out 0 (u : Value)
        rw [Nat.add_zero] at e0
        rw [e0] at h1
        have h2 := h1.set (j * 4 + 1) (.int .i64 (k0 + (3 * (j : Int) + (s : Int)) + 1))
        rw [set_behind HDL.out 1] at h2
        exact h2
      have hg0 := (hLg.other (p := ⟨G, j * 4, none⟩) (by simp only; omega) (.int .i64 (k0 + (3 * (j : Int) + (s : Int))))).other (p := ⟨G, j * 4 + 1, none⟩) (by simp only; omega) (.int .i64 (k0 + (3 * (j : Int) + (s : Int)) + 1))
      have HF0 : Hid (∀ y ∈ l.drop (j + 1), ∃ g', y.A = some ⟨g', 0, none⟩ ∧ G < g' ∧ g' < hi ∧ g' ≠ g ∧ Lies ((wr.setCell ⟨G, j * 4, none⟩ (.int .i64 (k0 + (3 * (j : Int) + (s : Int))))).setCell ⟨G, j * 4 + 1, none⟩ (.int .i64 (k0 + (3 * (j : Int) + (s : Int)) + 1))) g' 3 (encIs y.f)) := fun y hy => by
        obtain ⟨g', hA', h1, h2, h3, h4⟩ := HF.out y hy
        exact ⟨g', hA', h1, h2, h3, (h4.other (by simp only; omega) _).other (by simp only; omega) _⟩
      clear HL hLg HF hgr
      go_wp2_with fail
      clear c0 c1 c2 c3 f0 f1 f2 f3
      generalize ((wr.setCell ⟨G, j * 4, none⟩ (.int .i64 (k0 + (3 * (j : Int) + (s : Int))))).setCell ⟨G, j * 4 + 1, none⟩ (.int .i64 (k0 + (3 * (j : Int) + (s : Int)) + 1))) = W at hm0 hL0 hg0 HF0 ⊢
      refine (markIntS_any (some ⟨g, 0, none⟩) x.cap x.f.length lo _ (encIs x.f) W (by omega) (by omega) (by omega) ⟨by simp, by omega, .inr ⟨g, [], rfl, by omega, by simpa using hg0⟩⟩).mono ?_
      rintro e w1 ⟨rfl, hO1, hgr0⟩
      have hgr1 : W.grownBy w1 (some g) := hgr0
      clear hgr0
      have hL1 := Lib.hid (hL0.out.kept hgr1 (by intro e; injection e with e; omega))
      have c3 : w1.cell? ⟨G, j * 4 + 3, none⟩ = some (.int .i64 x.p) := (hL1.out.cell _).trans (at_behind HDL.out 3)
      have f3 : w1.frozen? ⟨G, j * 4 + 3, none⟩ = false := hL1.out.frozen _
      have hm1 := hm0.trans (Mid.of hgr1 (by rintro _ ⟨⟩; exact ⟨by omega, hgh⟩))
      have HF1 : Hid (∀ y ∈ l.drop (j + 1), ∃ g', y.A = some ⟨g', 0, none⟩ ∧ G < g' ∧ g' < hi ∧ Lies w1 g' 3 (encIs y.f)) := fun y hy => by
        obtain ⟨g', hA', h1, h2, h3, h4⟩ := HF0.out y hy
        exact ⟨g', hA', h1, h2, h4.kept hgr1 (by intro e; injection e with e; exact h3 e)⟩
      clear hL0 HF0 hO1 hm0 hg0
      go_wp2
      go_roundw
      case rel =>
        refine ⟨j + 1, s + x.f.length, by omega, by go_num, congrArg _ (by omega), by omega, HN.out, ⟨⟨done ++ [.int .i64 (k0 + (3 * (j : Int) + (s : Int))), .int .i64 (k0 + (3 * (j : Int) + (s : Int)) + 1), .slice x.A x.f.length x.cap, .int .i64 (k0 + (3 * (j : Int) + (s : Int)) + 1 + 1 + x.f.length)], rest, by simp [HDL.out]; omega, ?_⟩, ⟨hG1, hG2⟩, ?_, HND.out⟩, hm1.trans (Mid.of (grown_set (World.grownBy.refl _ (some G))) (by rintro _ ⟨⟩; exact ⟨hG1, hG2⟩))⟩
        · have h1 := hL1.out.set (j * 4 + 3) (.int .i64 (k0 + (3 * (j : Int) + (s : Int)) + 1 + 1 + x.f.length))
          rw [set_behind HDL.out 3] at h1
          rw [List.append_assoc]
          exact h1
        · intro y hy
          obtain ⟨g', hA', h1, h2, h3⟩ := HF1.out y hy
          exact ⟨g', hA', h1, h2, h3.other (by simp only; omega) _⟩
      case measure => simp [intOf]; omega
    · go_wp2
      go_ret
      exact ⟨⟨_, rfl, by omega⟩, hgr⟩
end Go.Proofs.Ytjdedcalbcnkmaa
