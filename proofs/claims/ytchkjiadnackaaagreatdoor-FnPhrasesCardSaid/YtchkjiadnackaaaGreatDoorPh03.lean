/- Ph03: the texts DrawPhr DrawV PhrGood Alike MergeM, joined into one file. -/
import Derived.Test.YtchkjiadnackaaaGreatDoorPh01
import Derived.Test.YtchkjiadnackaaaGreatDoorPh02

set_option linter.unusedVariables false

/- The reference draws a phrase. (Printed by gen_dphr.py) -/
namespace Go.Proofs.YtchkjiadnackaaaGreatDoor
open Go.RowKit

theorem Dr.ownS {w W W9 : World} {g : Nat} {A : Option Addr} {bs : List UInt8} {cap m K n : Nat} {X : List Nat} {R : List Room} {L : Nat → Bool} {B : Nat} {t : TypeId} {k : Nat} {A' : Option Addr} {n' : Nat} {cs : List Value} (h : Dr w W g A bs cap m K n X R L W9) (ho : OwnS W B t k A' n' cs) (hX : ∀ b, A'.map (·.block) = some b → b ∉ X) : OwnS W9 B t k A' n' cs := by
  obtain ⟨hl, hn, h0 | ⟨q, rest, hA, hq, hh⟩⟩ := ho
  · exact ⟨hl, hn, .inl h0⟩
  · exact ⟨hl, hn, .inr ⟨q, rest, hA, hq, h.lies hh (hX q (by rw [hA]; rfl))⟩⟩
theorem OwnS.lit (W : World) (B : Nat) (l : List Int) (hB : B ≤ W.heap.size) (hn : l.length ≤ 1000000) : OwnS (W.alloc (.cells (encIs l).toArray 3)) B 3 1 (some ⟨W.heap.size, 0, none⟩) l.length (encIs l) :=
  ⟨by rw [encIs_len], by omega, .inr ⟨_, [], rfl, hB, by have := Lies.new W 3 (encIs l).toArray; simpa using this⟩⟩
/-- A phrase while it is drawn: block h holds it; g4 waits for the result. -/
structure PSt (w W wx : World) (g : Nat) (A : Option Addr) (bs : List UInt8) (cap m g4 h : Nat) (x : Ph) : Prop where
  env : Env w wx g A bs cap m
  out : Lies wx g4 26 [.int .i64 0, .int .i64 0, .slice none 0 0, .int .i64 0]
  now : Lies wx h 26 x.enc
  own : OwnS wx W.heap.size 3 1 x.A x.f.length (encIs x.f)
  cp : x.f.length ≤ x.cap
  gr : W.grownBy wx (some g)
section
variable {w W wx wy : World} {g : Nat} {A : Option Addr} {bs : List UInt8} {cap m m' g4 h : Nat} {x : Ph}
theorem PSt.mono (S : PSt w W wx g A bs cap m g4 h x) (hm : m ≤ m') : PSt w W wx g A bs cap m' g4 h x := { S with env := S.env.mono hm }
theorem PSt.next (S : PSt w W wx g A bs cap m g4 h x) (E : Env w wy g A bs cap m') (hg : wx.grownBy wy (some g)) (h1 : g < W.heap.size) (h4 : g ≠ g4) (h5 : g ≠ h) : PSt w W wy g A bs cap m' g4 h x :=
  ⟨E, S.out.kept hg (by intro e; injection e with e; exact h4 e.symm), S.now.kept hg (by intro e; injection e with e; exact h5 e.symm), S.own.gr hg h1, S.cp, grown_trans S.gr hg⟩
theorem PSt.alloc (S : PSt w W wx g A bs cap m g4 h x) (o : Obj) : PSt w W (wx.alloc o) g A bs cap m g4 h x :=
  ⟨S.env.alloc o, S.out.alloc o, S.now.alloc o, S.own.ne (g := wx.heap.size) (World.grownBy_alloc wx o _) (fun b e => by
    obtain ⟨_, _, ⟨h0, _⟩ | ⟨q, rest, hA, hq, hh⟩⟩ := S.own
    · rw [h0] at e; cases e
    · rw [hA] at e; injection e with e; have h9 := hh.lt; simp only at e; omega), S.cp, grown_trans S.gr (World.grownBy_alloc wx o _)⟩
/-- The phrase's block holds another one. -/
theorem PSt.put {y : Ph} (S : PSt w W wx g A bs cap m g4 h x) (hg : wx.grownBy wy (some h)) (hL : Lies wy h 26 y.enc) (ho : OwnS wx W.heap.size 3 1 y.A y.f.length (encIs y.f)) (hc : y.f.length ≤ y.cap) (hw : w.heap.size ≤ h) (hW : W.heap.size ≤ h) (hgh : g < h) (h4 : g4 ≠ h) : PSt w W wy g A bs cap m g4 h y :=
  ⟨S.env.wrote hg hw hgh, S.out.kept hg (by intro e; injection e with e; exact h4 e), hL, ho.ne hg (ho.off S.now ne_int_ph), hc, grown_own S.gr hg hW⟩
end

set_option maxRecDepth 100000 in
set_option maxHeartbeats 8000000 in
set_option linter.unusedVariables false in
theorem phrase30_any (g : Nat) (A : Option Addr) (bs : List UInt8) (cap m : Nat) (w W : World) (hm : m ≤ 800000000) (E0 : Env w W g A bs cap m) :
    Calls Tryz.prog 29 #[.pointer (some ⟨g, 0, none⟩)] W fun e w' => ∃ x : Ph, e = .returned x.val ∧ x.f.length ≤ 9 ∧ OwnS w' W.heap.size 3 1 x.A x.f.length (encIs x.f) ∧ Env w w' g A bs cap (m + 100) ∧ W.grownBy w' (some g) := by
  have hgW := E0.lt
  have hwW := E0.gr.size
  go_enter Tryz.func29, Tryz.ntmps29
  go_wp2_with fail
  have E1 := E0.alloc (.cells #[.int .i64 0, .int .i64 0, .slice none 0 0, .int .i64 0] 26)
  have L4 := Lies.new W 26 #[.int .i64 0, .int .i64 0, .slice none 0 0, .int .i64 0]
  have G1 := World.grownBy_alloc W (.cells #[.int .i64 0, .int .i64 0, .slice none 0 0, .int .i64 0] 26) (some g)
  generalize W.alloc (.cells #[.int .i64 0, .int .i64 0, .slice none 0 0, .int .i64 0] 26) = W1 at E1 L4 G1 ⊢
  have HG := Lib.hid G1; clear G1 E0
  obtain ⟨g4, hg4⟩ : ∃ g4, W.heap.size = g4 := ⟨_, rfl⟩
  have h4 : g < g4 ∧ w.heap.size ≤ g4 := by omega
  rw [hg4] at L4
  rw [hg4]
  have HQ := Lib.hid hg4
  clear hg4 hgW hwW
  refine (pick_env E1 3 (by omega) (by omega)).mono ?_
  rintro e W2 ⟨x0, rfl, hx0, E2, gr⟩
  replace L4 := L4.kept gr (by intro e; injection e; omega)
  replace HG := Lib.hid (grown_trans HG.out gr)
  clear gr E1
  have hw0 : IntKind.i64.wrap (1 + (x0 : Int)) = 1 + (x0 : Int) := IntWalk.i64_in _ (by omega)
  go_wp2_with fail
  have Li := Lies.new W2 3 #[.int .i64 1, .int .i64 1, .int .i64 2, .int .i64 12, .int .i64 60, .int .i64 99]
  have Ei := E2.alloc (.cells #[.int .i64 1, .int .i64 1, .int .i64 2, .int .i64 12, .int .i64 60, .int .i64 99] 3)
  replace L4 := L4.alloc (.cells #[.int .i64 1, .int .i64 1, .int .i64 2, .int .i64 12, .int .i64 60, .int .i64 99] 3)
  replace HG := Lib.hid (grown_trans HG.out (World.grownBy_alloc W2 (.cells #[.int .i64 1, .int .i64 1, .int .i64 2, .int .i64 12, .int .i64 60, .int .i64 99] 3) (some g)))
  have hl := E2.lt
  generalize W2.alloc (.cells #[.int .i64 1, .int .i64 1, .int .i64 2, .int .i64 12, .int .i64 60, .int .i64 99] 3) = Wi at Li Ei HG L4 ⊢
  generalize W2.heap.size = gi at Li hl ⊢
  refine (among_lies Ei gi 6 [1, 1, 2, 12, 60, 99] rfl Li (by omega) (by omega) (by omega) (by omega)).mono ?_
  rintro e W3 ⟨x1, rfl, E3, gr⟩
  replace L4 := L4.kept gr (by intro e; injection e; omega)
  replace HG := Lib.hid (grown_trans HG.out gr)
  clear gr Ei Li hl E2
  go_wp2_with fail
  have Li := Lies.new W3 3 #[.int .i64 0, .int .i64 0, .int .i64 5, .int .i64 120, .int .i64 999999]
  have Ei := E3.alloc (.cells #[.int .i64 0, .int .i64 0, .int .i64 5, .int .i64 120, .int .i64 999999] 3)
  replace L4 := L4.alloc (.cells #[.int .i64 0, .int .i64 0, .int .i64 5, .int .i64 120, .int .i64 999999] 3)
  replace HG := Lib.hid (grown_trans HG.out (World.grownBy_alloc W3 (.cells #[.int .i64 0, .int .i64 0, .int .i64 5, .int .i64 120, .int .i64 999999] 3) (some g)))
  have hl := E3.lt
  generalize W3.alloc (.cells #[.int .i64 0, .int .i64 0, .int .i64 5, .int .i64 120, .int .i64 999999] 3) = Wi at Li Ei HG L4 ⊢
  generalize W3.heap.size = gi at Li hl ⊢
  refine (among_lies Ei gi 5 [0, 0, 5, 120, 999999] rfl Li (by omega) (by omega) (by omega) (by omega)).mono ?_
  rintro e W4 ⟨x2, rfl, E4, gr⟩
  replace L4 := L4.kept gr (by intro e; injection e; omega)
  replace HG := Lib.hid (grown_trans HG.out gr)
  clear gr Ei Li hl E3
  go_wp2_with fail
  have L5 := Lies.new W4 26 #[.int .i64 (1 + (x0 : Int)), .int .i64 x1, .slice none 0 0, .int .i64 x2]
  have E5 := E4.alloc (.cells #[.int .i64 (1 + (x0 : Int)), .int .i64 x1, .slice none 0 0, .int .i64 x2] 26)
  have h45 := L4.lt
  replace L4 := L4.alloc (.cells #[.int .i64 (1 + (x0 : Int)), .int .i64 x1, .slice none 0 0, .int .i64 x2] 26)
  replace HG := Lib.hid (grown_trans HG.out (World.grownBy_alloc W4 (.cells #[.int .i64 (1 + (x0 : Int)), .int .i64 x1, .slice none 0 0, .int .i64 x2] 26) (some g)))
  have h55 := L5.lt
  generalize W4.alloc (.cells #[.int .i64 (1 + (x0 : Int)), .int .i64 x1, .slice none 0 0, .int .i64 x2] 26) = W5 at E5 L5 L4 HG h55 ⊢
  generalize W4.heap.size = g5 at L5 h45 h55 ⊢
  have S5 : PSt w W W5 g A bs cap (m + 2 + 2 + 2) g4 g5 { s := 1 + (x0 : Int), c := x1, f := [], p := x2, A := none, cap := 0 } := ⟨E5, L4, L5, ⟨rfl, by simp, .inl ⟨rfl, rfl⟩⟩, Nat.le_refl _, HG.out⟩
  clear E4 E5 L5 L4 HG hw0
  have hgg : g < W.heap.size := by have := HQ.out; omega
  have hgg4 : g ≠ g4 := by omega
  have hgg5 : g ≠ g5 := by omega
  have hW5 : W.heap.size ≤ g5 := by have := HQ.out; omega
  have hne45 : g4 ≠ g5 := by omega
  refine (pick_env S5.env 4 (by omega) (by omega)).mono ?_
  rintro e W6 ⟨n, rfl, hn, E6, gr⟩
  have HS := Lib.hid ((S5.next E6 gr hgg hgg4 hgg5).mono (show _ ≤ m + 10 + 20 * (3 - n) by omega))
  clear gr E6 S5
  go_wp2_with fail
  go_loopw [4] (fun i wr => ∃ (k : Nat) (x : Ph), k ≤ 3 ∧ i = .int .i64 k ∧ x.f.length + k ≤ 3 ∧ Hid (PSt w W wr g A bs cap (m + 10 + 20 * (3 - k)) g4 g5 x)) (fun i _ => (intOf i).toNat)
  case atStart => exact ⟨n, _, by omega, rfl, by simp; omega, HS⟩
  case round =>
    clear HS hn
    obtain ⟨k, x, hk, rfl, hl, HS⟩ := hrel
    by_cases hlt : 0 < k
    · obtain ⟨k, rfl⟩ : ∃ q, k = q + 1 := ⟨k - 1, by omega⟩
      clear hlt
      have hi0 : (0 : Int) < ((k + 1 : Nat) : Int) := by omega
      have K5 := HS.out.now
      have HX : Hid (∀ b, x.A.map (·.block) = some b → b ∉ [g, g5]) := fun b e hm => by
        have h1 := HS.out.own.ge b e
        have h2 := HS.out.own.off K5 ne_int_ph b e
        simp only [List.mem_cons, List.not_mem_nil, or_false] at hm
        omega
      go_upto_region 5 with fail
      refine wp_region_factsR (Dr w wr g A bs cap (m + 10 + 20 * (3 - (k + 1))) 2 8 [g, g5] [Room.lies 7 g5 26 [.int .i64 x.s, .int .i64 x.c, .slice x.A x.f.length x.cap, .int .i64 x.p]]) (fun i w1 w2 => i ∉ [7] → w1.grownBy w2 (some g)) (by kernel_rfl) (by kernel_rfl) (by kernel_rfl) (Dr.start HS.out.env (fun p hp => by simp only [List.mem_singleton] at hp; subst hp; exact ⟨by intro e; injection e; omega, K5⟩)) ?_
      simp only [fillOps, Act.put, List.setIfInBounds_toArray, List.set_cons_zero, List.set_cons_succ, Nat.zero_add, Nat.reduceAdd]
      apply wpFactsR_val
      case h1 =>
        intro vs L9 w9 hG9 hC9 hB K9 hK9
        simp only [Act.put, List.setIfInBounds_toArray, List.set_cons_zero, List.set_cons_succ] at hK9
        go_simp
        exact hK9 _ _ rfl (hC9.stay hG9.self (by decide)) (fun _ => World.grownBy.refl _ _)
      apply wpFactsR_val
      case h1 =>
        intro vs L9 w9 hG9 hC9 hB K9 hK9
        have d0 := FactN.eq (hB 0 _ (by kernel_rfl) (by kernel_rfl) rfl (by decide))
        simp only [d0] at hK9 ⊢
        have q0 : w9.cell? ⟨g5, 2, none⟩ = some (.slice x.A x.f.length x.cap) := ((hC9.room (Room.lies 7 g5 26 [.int .i64 x.s, .int .i64 x.c, .slice x.A x.f.length x.cap, .int .i64 x.p]) (by simp)).2 (hG9.open_ 7 (by kernel_rfl))).cell 2
        simp only [Act.put, List.setIfInBounds_toArray, List.set_cons_zero, List.set_cons_succ] at hK9
        go_simp
        exact hK9 _ _ rfl (hC9.stay hG9.self (by decide)) (fun _ => World.grownBy.refl _ _)
      apply wpFactsR_val
      case h1 =>
        intro vs L9 w9 hG9 hC9 hB K9 hK9
        simp only [Act.put, List.setIfInBounds_toArray, List.set_cons_zero, List.set_cons_succ] at hK9
        go_simp
        exact hK9 _ _ rfl (hC9.stay hG9.self (by decide)) (fun _ => World.grownBy.refl _ _)
      refine wpFactsR_some [7] (fun v w9 => ∃ (b : Nat) (l : List Int), v = .slice (some ⟨b, 0, none⟩) 4 4 ∧ l.length = 4 ∧ Lies w9 b 3 (encIs l) ∧ b ≠ g) ?_ (fun vs L9 w9 hG9 hC9 hB K9 hK9 => ?_) ?_
      next =>
        intro i9 hi9 hb9 ha9 v w1 w2 hv hT9
        have hb := hT9 (fun hm => by
          simp only [List.mem_cons, List.not_mem_nil, or_false] at hm hb9
          subst hm
          · exact hb9 (by simp))
        obtain ⟨b, l, q1, q2, q3, q4⟩ := hv
        exact ⟨b, l, q1, q2, q3.kept hb (by intro e; injection e with e; exact q4 e), q4⟩
      next =>
        simp only [Act.put, List.setIfInBounds_toArray, List.set_cons_zero, List.set_cons_succ] at hK9
        go_simp
        exact hK9 _ _ _ rfl ⟨w9.heap.size, [1, 2, 5, 9], rfl, rfl, Lies.new w9 3 _, by have := hC9.env.lt; omega⟩ (hC9.alloc hG9.self (by decide) _) (fun _ => World.grownBy_alloc _ _ _)
      refine wpFactsR_some [] (fun v _ => ∃ z : Int, v = .int .i64 z) ?_ (fun vs L9 w9 hG9 hC9 hB K9 hK9 => ?_) ?_
      next =>
        intro i9 hi9 hb9 ha9 v w1 w2 hv hT9
        exact hv
      next =>
        have d2 := FactN.eq (hB 2 _ (by kernel_rfl) (by kernel_rfl) rfl (by decide))
        simp only [d2] at hK9 ⊢
        simp only [Act.put, List.setIfInBounds_toArray, List.set_cons_zero, List.set_cons_succ] at hK9
        obtain ⟨b3, l3, e3, el3, eL3, en3⟩ := hB 3 _ (by kernel_rfl) (by kernel_rfl) rfl (by decide)
        simp only [e3] at hK9 ⊢
        go_simp
        refine (among_lies hC9.env b3 4 l3 el3 eL3 en3 (by omega) (by omega) (by have := hC9.cnt; omega)).mono ?_
        rintro en w8 ⟨x8, rfl, hE8, hg8⟩
        exact hK9 _ _ _ rfl ⟨_, rfl⟩ (hC9.call hG9.self (by decide) hE8 (by have := hC9.cnt; omega) hg8 (by simp)) (fun _ => hg8)
      refine wpFactsR_some [7] (fun v w9 => ∃ (A5 : Option Addr) (c5 : Nat) (l5 : List Int), v = .slice A5 l5.length c5 ∧ l5.length ≤ x.f.length + 1 ∧ l5.length ≤ c5 ∧ OwnS w9 W.heap.size 3 1 A5 l5.length (encIs l5) ∧ (∀ b, A5.map (·.block) = some b → b ≠ g5)) ?_ (fun vs L9 w9 hG9 hC9 hB K9 hK9 => ?_) ?_
      next =>
        intro i9 hi9 hb9 ha9 v w1 w2 hv hT9
        have hb := hT9 (fun hm => by
          simp only [List.mem_cons, List.not_mem_nil, or_false] at hm hb9
          subst hm
          · exact hb9 (by simp))
        obtain ⟨A5, c5, l5, q1, q2, q3, q4, q5⟩ := hv
        exact ⟨A5, c5, l5, q1, q2, q3, q4.gr hb (by omega), q5⟩
      next =>
        have d1 := FactN.eq (hB 1 _ (by kernel_rfl) (by kernel_rfl) rfl (by decide))
        simp only [d1] at hK9 ⊢
        simp only [Act.put, List.setIfInBounds_toArray, List.set_cons_zero, List.set_cons_succ] at hK9
        obtain ⟨z4, e4⟩ := hB 4 _ (by kernel_rfl) (by kernel_rfl) rfl (by decide)
        simp only [e4] at hK9 ⊢
        go_simp
        have HO9 := Lib.hid (hC9.ownS HS.out.own HX.out)
        have hwS : W.heap.size ≤ w9.heap.size := Nat.le_trans HS.out.gr.size hC9.size
        have h5S : g5 < w9.heap.size := Nat.lt_of_lt_of_le K5.lt hC9.size
        refine (l1Put_any x.A x.cap x.f z4 w9 (by omega) HS.out.cp HO9.out.reads).mono ?_
        rintro en w8 ⟨A8, c8, l8, rfl, hl8, hc8, hb8, hor⟩
        have o8 : OwnS w8 W.heap.size 3 1 A8 l8.length (encIs l8) := by
          rcases hor with ⟨e1, e2⟩ | h8
          · subst e1; subst e2; exact HO9.out.then hb8
          · exact h8.lower hwS
        have n8 : ∀ b, A8.map (·.block) = some b → b ≠ g5 := by
          rcases hor with ⟨e1, e2⟩ | h8
          · subst e1; intro b e h; exact HX.out b e (by simp [h])
          · intro b e; have := h8.ge b e; omega
        exact hK9 _ _ _ rfl ⟨A8, c8, l8, rfl, hl8, hc8, o8, n8⟩ (hC9.below hG9.self (by decide) hb8) (fun _ => grownAny hb8 _)
      apply wpFactsR_val
      case h1 =>
        intro vs L9 w9 hG9 hC9 hB K9 hK9
        simp only [Act.put, List.setIfInBounds_toArray, List.set_cons_zero, List.set_cons_succ] at hK9
        go_simp
        exact hK9 _ _ rfl (hC9.stay hG9.self (by decide)) (fun _ => World.grownBy.refl _ _)
      refine wpFactsR_some [] (fun _ w9 => ∃ (A5 : Option Addr) (c5 : Nat) (l5 : List Int), l5.length ≤ x.f.length + 1 ∧ l5.length ≤ c5 ∧ OwnS w9 W.heap.size 3 1 A5 l5.length (encIs l5) ∧ Lies w9 g5 26 [.int .i64 x.s, .int .i64 x.c, .slice A5 l5.length c5, .int .i64 x.p]) ?_ (fun vs L9 w9 hG9 hC9 hB K9 hK9 => ?_) ?_
      next =>
        intro i9 hi9 hb9 ha9 v w1 w2 hv hT9
        have hb := hT9 (fun hm => by
          simp only [List.mem_cons, List.not_mem_nil, or_false] at hm hb9
          subst hm
          · exact hi9 rfl)
        obtain ⟨A5, c5, l5, q1, q2, q3, q4⟩ := hv
        exact ⟨A5, c5, l5, q1, q2, q3.gr hb (by omega), q4.kept hb (by intro e; injection e; omega)⟩
      next =>
        have d6 := FactN.eq (hB 6 _ (by kernel_rfl) (by kernel_rfl) rfl (by decide))
        simp only [d6] at hK9 ⊢
        simp only [Act.put, List.setIfInBounds_toArray, List.set_cons_zero, List.set_cons_succ] at hK9
        obtain ⟨A5, c5, l5, e5, h51, h52, o5, n5⟩ := hB 5 _ (by kernel_rfl) (by kernel_rfl) rfl (by decide)
        simp only [e5] at hK9 ⊢
        have hL9 : Lies w9 g5 26 [.int .i64 x.s, .int .i64 x.c, .slice x.A x.f.length x.cap, .int .i64 x.p] := (hC9.room (Room.lies 7 g5 26 [.int .i64 x.s, .int .i64 x.c, .slice x.A x.f.length x.cap, .int .i64 x.p]) (by simp)).2 hG9.self
        have y0 := hL9.cell 0
        have y1 := hL9.cell 1
        have y2 := hL9.cell 2
        have y3 := hL9.cell 3
        simp only [List.getElem?_cons_zero, List.getElem?_cons_succ] at y0 y1 y2 y3
        have f0 := hL9.frozen 0
        have f1 := hL9.frozen 1
        have f2 := hL9.frozen 2
        have f3 := hL9.frozen 3
        have hN9 : Lies _ g5 26 [.int .i64 x.s, .int .i64 x.c, .slice A5 l5.length c5, .int .i64 x.p] := (hL9.set 2 (.slice A5 l5.length c5))
        have hG8 := Lib.hid (grown_set (g := g5) (i := 2) (u := .slice A5 l5.length c5) (World.grownBy.refl w9 (some g5)))
        have hN8 := Lib.hid hN9
        clear hN9 hL9
        go_simp
        exact hK9 _ undef _ rfl ⟨A5, c5, l5, h51, h52, o5.ne hG8.out n5, hN8.out⟩ (hC9.wrote hG9.self (by decide) hG8.out (fun b e => by injection e with e; subst e; exact ⟨(by omega), (by omega), .inl (by simp)⟩) (by intro p hp e; simp only [List.mem_cons, List.not_mem_nil, or_false] at hp; first | (subst hp; exact .inl rfl) | (rcases hp with rfl | rfl <;> first | exact .inl rfl | exact absurd (Option.some.inj e) (by omega)))) (fun hq => (hq (by decide)).elim)
      refine wpFactsR_nil fun vs Lq W7 hL9 hC7 hB => ?_
      obtain ⟨A5, c5, l5, h51, h52, o5, K7⟩ := hB 7 _ rfl rfl (by decide)
      clear hB hL9
      have S7 : PSt w W W7 g A bs cap (m + 10 + 20 * (3 - (k + 1)) + 2 * 8) g4 g5 { s := x.s, c := x.c, f := l5, p := x.p, A := A5, cap := c5 } :=
        ⟨hC7.le, hC7.lies HS.out.out (by simp only [List.mem_cons, List.not_mem_nil, or_false]; omega), K7, o5, h52, drawn_gr HS.out.gr hC7 (by intro k hk hne; simp only [List.mem_cons, List.not_mem_nil, or_false] at hk; omega) HS.out.env⟩
      have HS7 := Lib.hid (S7.mono (show _ ≤ m + 10 + 20 * (3 - k) by omega))
      clear S7 hC7 K7 o5 HS K5 HX
      go_wp2_with fail
      go_roundw
      case rel => exact ⟨k, _, by omega, by go_num, by simp only; omega, HS7⟩
      case measure => simp [intOf] <;> omega
    · obtain rfl : k = 0 := by omega
      clear hlt
      have hi0 : ¬ (0 : Int) < ((0 : Nat) : Int) := by omega
      go_wp2_with fail
      refine (one_env HS.out.env 2 (by omega) (by omega)).mono ?_
      rintro e W7 ⟨q, rfl, E7, gr⟩
      have S7 := (HS.out.next E7 gr hgg hgg4 hgg5).mono (show _ ≤ m + 80 by omega)
      have hl3 : x.f.length ≤ 3 := by omega
      clear gr E7 HS hi0 hl
      cases q
      · have S8 := S7
        clear S7
        go_wp2_with fail
        refine (pick_env S8.env 100 (by omega) (by omega)).mono ?_
        rintro e W9 ⟨n, rfl, hn, E9, gr⟩
        have S9 := S8.next E9 gr hgg hgg4 hgg5
        clear gr E9 S8
        have hc : n = 0 ∨ n = 1 ∨ n = 2 ∨ n = 3 ∨ n = 4 ∨ 5 ≤ n := by omega
        clear hn
        rcases hc with rfl | rfl | rfl | rfl | rfl | h5
        · -- case 0
          go_wp2_with fail
          have hl := S9.env.lt
          have Li := Lies.new W9 3 #[.int .i64 0, .int .i64 4]
          have Si := S9.alloc (.cells #[.int .i64 0, .int .i64 4] 3)
          generalize W9.alloc (.cells #[.int .i64 0, .int .i64 4] 3) = Wi at Li Si ⊢
          generalize W9.heap.size = gi at Li hl ⊢
          refine (among_lies Si.env gi 2 [0, 4] rfl Li (by omega) (by omega) (by omega) (by omega)).mono ?_
          rintro e W10 ⟨y, rfl, E10, gr⟩
          have S10 := Si.next E10 gr hgg hgg4 hgg5
          clear gr Li hl Si S9 E10
          have K10 := S10.now
          simp only [Ph.enc] at K10
          have k0 := K10.cell 0
          have k1 := K10.cell 1
          have k2 := K10.cell 2
          have k3 := K10.cell 3
          simp only [List.getElem?_cons_zero, List.getElem?_cons_succ] at k0 k1 k2 k3
          have fk0 := K10.frozen 0
          have fk1 := K10.frozen 1
          have fk2 := K10.frozen 2
          have fk3 := K10.frozen 3
          have gw : W10.grownBy (W10.setCell ⟨g5, 0, none⟩ (.int .i64 y)) (some g5) := grown_set (World.grownBy.refl _ _)
          have kw : Lies (W10.setCell ⟨g5, 0, none⟩ (.int .i64 y)) g5 26 (Ph.enc { x with s := y }) := K10.set 0 (.int .i64 y)
          have HS11 := Lib.hid (S10.put gw kw S10.own S10.cp (by omega) hW5 (by omega) hne45)
          clear gw kw K10
          have HS10 := Lib.hid S10
          clear S10
          go_upto_region 19 with fail
          obtain ⟨W11, hW11⟩ : ∃ W11, W10.setCell ⟨g5, 0, none⟩ (.int .i64 y) = W11 := ⟨_, rfl⟩
          rw [hW11] at HS11 ⊢
          have S11 := HS11.out
          clear hW11 HS10 HS11 k0 k1 k2 k3 fk0 fk1 fk2 fk3
          have D5 := S11.now
          simp only [Ph.enc] at D5
          have D4 := S11.out
          have d0 := D5.cell 0
          have d1 := D5.cell 1
          have d2 := D5.cell 2
          have d3 := D5.cell 3
          simp only [List.getElem?_cons_zero, List.getElem?_cons_succ] at d0 d1 d2 d3
          have e0 := D4.cell 0
          have e1 := D4.cell 1
          have e2 := D4.cell 2
          have e3 := D4.cell 3
          simp only [List.getElem?_cons_zero, List.getElem?_cons_succ] at e0 e1 e2 e3
          have f0 := D4.frozen 0
          have f1 := D4.frozen 1
          have f2 := D4.frozen 2
          have f3 := D4.frozen 3
          have HT := Lib.hid S11
          clear D5 D4 S11
          repeat (first | go_values | go_skip | go_guarded | go_step | go_upon | simp only [])
          refine bodyPost_ret (v := (({ x with s := y } : Ph) : Ph).val) (by simp [results, Tryz.results29, go_sem, *]) rfl ⟨({ x with s := y } : Ph), rfl, by first | omega | (simp only; omega) | simp, ?_, ?_, ?_⟩
          · exact HT.out.own.ne (g := g4) (grown_set (grown_set (grown_set (grown_set (World.grownBy.refl _ _))))) (HT.out.own.off HT.out.out ne_int_ph)
          · exact (HT.out.env.wrote (h := g4) (grown_set (grown_set (grown_set (grown_set (World.grownBy.refl _ _))))) h4.2 h4.1).mono (by omega)
          · exact grown_own HT.out.gr (b := g4) (grown_set (grown_set (grown_set (grown_set (World.grownBy.refl _ _))))) (by have := HQ.out; omega)
        · -- case 1
          go_wp2_with fail
          have hl := S9.env.lt
          have Li := Lies.new W9 3 #[.int .i64 0, .int .i64 100]
          have Si := S9.alloc (.cells #[.int .i64 0, .int .i64 100] 3)
          generalize W9.alloc (.cells #[.int .i64 0, .int .i64 100] 3) = Wi at Li Si ⊢
          generalize W9.heap.size = gi at Li hl ⊢
          refine (among_lies Si.env gi 2 [0, 100] rfl Li (by omega) (by omega) (by omega) (by omega)).mono ?_
          rintro e W10 ⟨y, rfl, E10, gr⟩
          have S10 := Si.next E10 gr hgg hgg4 hgg5
          clear gr Li hl Si S9 E10
          have K10 := S10.now
          simp only [Ph.enc] at K10
          have k0 := K10.cell 0
          have k1 := K10.cell 1
          have k2 := K10.cell 2
          have k3 := K10.cell 3
          simp only [List.getElem?_cons_zero, List.getElem?_cons_succ] at k0 k1 k2 k3
          have fk0 := K10.frozen 0
          have fk1 := K10.frozen 1
          have fk2 := K10.frozen 2
          have fk3 := K10.frozen 3
          have gw : W10.grownBy (W10.setCell ⟨g5, 1, none⟩ (.int .i64 y)) (some g5) := grown_set (World.grownBy.refl _ _)
          have kw : Lies (W10.setCell ⟨g5, 1, none⟩ (.int .i64 y)) g5 26 (Ph.enc { x with c := y }) := K10.set 1 (.int .i64 y)
          have HS11 := Lib.hid (S10.put gw kw S10.own S10.cp (by omega) hW5 (by omega) hne45)
          clear gw kw K10
          have HS10 := Lib.hid S10
          clear S10
          go_upto_region 19 with fail
          obtain ⟨W11, hW11⟩ : ∃ W11, W10.setCell ⟨g5, 1, none⟩ (.int .i64 y) = W11 := ⟨_, rfl⟩
          rw [hW11] at HS11 ⊢
          have S11 := HS11.out
          clear hW11 HS10 HS11 k0 k1 k2 k3 fk0 fk1 fk2 fk3
          have D5 := S11.now
          simp only [Ph.enc] at D5
          have D4 := S11.out
          have d0 := D5.cell 0
          have d1 := D5.cell 1
          have d2 := D5.cell 2
          have d3 := D5.cell 3
          simp only [List.getElem?_cons_zero, List.getElem?_cons_succ] at d0 d1 d2 d3
          have e0 := D4.cell 0
          have e1 := D4.cell 1
          have e2 := D4.cell 2
          have e3 := D4.cell 3
          simp only [List.getElem?_cons_zero, List.getElem?_cons_succ] at e0 e1 e2 e3
          have f0 := D4.frozen 0
          have f1 := D4.frozen 1
          have f2 := D4.frozen 2
          have f3 := D4.frozen 3
          have HT := Lib.hid S11
          clear D5 D4 S11
          repeat (first | go_values | go_skip | go_guarded | go_step | go_upon | simp only [])
          refine bodyPost_ret (v := (({ x with c := y } : Ph) : Ph).val) (by simp [results, Tryz.results29, go_sem, *]) rfl ⟨({ x with c := y } : Ph), rfl, by first | omega | (simp only; omega) | simp, ?_, ?_, ?_⟩
          · exact HT.out.own.ne (g := g4) (grown_set (grown_set (grown_set (grown_set (World.grownBy.refl _ _))))) (HT.out.own.off HT.out.out ne_int_ph)
          · exact (HT.out.env.wrote (h := g4) (grown_set (grown_set (grown_set (grown_set (World.grownBy.refl _ _))))) h4.2 h4.1).mono (by omega)
          · exact grown_own HT.out.gr (b := g4) (grown_set (grown_set (grown_set (grown_set (World.grownBy.refl _ _))))) (by have := HQ.out; omega)
        · -- case 2
          go_wp2_with fail
          have hl := S9.env.lt
          have Li := Lies.new W9 3 #[.int .i64 0, .int .i64 10, .int .i64 5]
          have Si := S9.alloc (.cells #[.int .i64 0, .int .i64 10, .int .i64 5] 3)
          generalize W9.alloc (.cells #[.int .i64 0, .int .i64 10, .int .i64 5] 3) = Wi at Li Si ⊢
          generalize W9.heap.size = gi at Li hl ⊢
          refine (among_lies Si.env gi 3 [0, 10, 5] rfl Li (by omega) (by omega) (by omega) (by omega)).mono ?_
          rintro e W10 ⟨y, rfl, E10, gr⟩
          have S10 := Si.next E10 gr hgg hgg4 hgg5
          clear gr Li hl Si S9 E10
          have Sa := S10.alloc (.cells #[.int .i64 y, .int .i64 5] 3)
          have Oa : OwnS (W10.alloc (.cells #[.int .i64 y, .int .i64 5] 3)) W.heap.size 3 1 (some ⟨W10.heap.size, 0, none⟩) 2 (encIs [y, 5]) := OwnS.lit W10 W.heap.size [y, 5] (Nat.le_trans S10.gr.size (Nat.le_refl _)) (by simp)
          have K10 := Sa.now
          simp only [Ph.enc] at K10
          have k0 := K10.cell 0
          have k1 := K10.cell 1
          have k2 := K10.cell 2
          have k3 := K10.cell 3
          simp only [List.getElem?_cons_zero, List.getElem?_cons_succ] at k0 k1 k2 k3
          have fk0 := K10.frozen 0
          have fk1 := K10.frozen 1
          have fk2 := K10.frozen 2
          have fk3 := K10.frozen 3
          have HSa := Lib.hid Sa
          have HOa := Lib.hid Oa
          have HKa := Lib.hid K10
          clear Sa Oa S10 K10
          go_upto_region 19 with fail
          have gw : (W10.alloc (.cells #[.int .i64 y, .int .i64 5] 3)).grownBy ((W10.alloc (.cells #[.int .i64 y, .int .i64 5] 3)).setCell ⟨g5, 2, none⟩ (.slice (some ⟨W10.heap.size, 0, none⟩) 2 2)) (some g5) := grown_set (World.grownBy.refl _ _)
          have kw : Lies ((W10.alloc (.cells #[.int .i64 y, .int .i64 5] 3)).setCell ⟨g5, 2, none⟩ (.slice (some ⟨W10.heap.size, 0, none⟩) 2 2)) g5 26 (Ph.enc { x with f := [y, 5], A := some ⟨W10.heap.size, 0, none⟩, cap := 2 }) := HKa.out.set 2 (.slice (some ⟨W10.heap.size, 0, none⟩) 2 2)
          have HS11 := Lib.hid (HSa.out.put gw kw HOa.out (by simp) (by omega) hW5 (by omega) hne45)
          clear gw kw
          obtain ⟨W11, hW11⟩ : ∃ W11, (W10.alloc (.cells #[.int .i64 y, .int .i64 5] 3)).setCell ⟨g5, 2, none⟩ (.slice (some ⟨W10.heap.size, 0, none⟩) 2 2) = W11 := ⟨_, rfl⟩
          rw [hW11] at HS11 ⊢
          have S11 := HS11.out
          clear hW11 HS11 HSa HOa HKa k0 k1 k2 k3 fk0 fk1 fk2 fk3
          have D5 := S11.now
          simp only [Ph.enc] at D5
          have D4 := S11.out
          have d0 := D5.cell 0
          have d1 := D5.cell 1
          have d2 := D5.cell 2
          have d3 := D5.cell 3
          simp only [List.getElem?_cons_zero, List.getElem?_cons_succ] at d0 d1 d2 d3
          have e0 := D4.cell 0
          have e1 := D4.cell 1
          have e2 := D4.cell 2
          have e3 := D4.cell 3
          simp only [List.getElem?_cons_zero, List.getElem?_cons_succ] at e0 e1 e2 e3
          have f0 := D4.frozen 0
          have f1 := D4.frozen 1
          have f2 := D4.frozen 2
          have f3 := D4.frozen 3
          have HT := Lib.hid S11
          clear D5 D4 S11
          repeat (first | go_values | go_skip | go_guarded | go_step | go_upon | simp only [])
          refine bodyPost_ret (v := (({ x with f := [y, 5], A := some ⟨W10.heap.size, 0, none⟩, cap := 2 } : Ph) : Ph).val) (by simp [results, Tryz.results29, go_sem, *]) rfl ⟨({ x with f := [y, 5], A := some ⟨W10.heap.size, 0, none⟩, cap := 2 } : Ph), rfl, by first | omega | (simp only; omega) | simp, ?_, ?_, ?_⟩
          · exact HT.out.own.ne (g := g4) (grown_set (grown_set (grown_set (grown_set (World.grownBy.refl _ _))))) (HT.out.own.off HT.out.out ne_int_ph)
          · exact (HT.out.env.wrote (h := g4) (grown_set (grown_set (grown_set (grown_set (World.grownBy.refl _ _))))) h4.2 h4.1).mono (by omega)
          · exact grown_own HT.out.gr (b := g4) (grown_set (grown_set (grown_set (grown_set (World.grownBy.refl _ _))))) (by have := HQ.out; omega)
        · -- case 3
          go_wp2_with fail
          have hl := S9.env.lt
          have Li := Lies.new W9 3 #[.int .i64 (-1), .int .i64 1000000]
          have Si := S9.alloc (.cells #[.int .i64 (-1), .int .i64 1000000] 3)
          generalize W9.alloc (.cells #[.int .i64 (-1), .int .i64 1000000] 3) = Wi at Li Si ⊢
          generalize W9.heap.size = gi at Li hl ⊢
          refine (among_lies Si.env gi 2 [-1, 1000000] rfl Li (by omega) (by omega) (by omega) (by omega)).mono ?_
          rintro e W10 ⟨y, rfl, E10, gr⟩
          have S10 := Si.next E10 gr hgg hgg4 hgg5
          clear gr Li hl Si S9 E10
          have K10 := S10.now
          simp only [Ph.enc] at K10
          have k0 := K10.cell 0
          have k1 := K10.cell 1
          have k2 := K10.cell 2
          have k3 := K10.cell 3
          simp only [List.getElem?_cons_zero, List.getElem?_cons_succ] at k0 k1 k2 k3
          have fk0 := K10.frozen 0
          have fk1 := K10.frozen 1
          have fk2 := K10.frozen 2
          have fk3 := K10.frozen 3
          have gw : W10.grownBy (W10.setCell ⟨g5, 3, none⟩ (.int .i64 y)) (some g5) := grown_set (World.grownBy.refl _ _)
          have kw : Lies (W10.setCell ⟨g5, 3, none⟩ (.int .i64 y)) g5 26 (Ph.enc { x with p := y }) := K10.set 3 (.int .i64 y)
          have HS11 := Lib.hid (S10.put gw kw S10.own S10.cp (by omega) hW5 (by omega) hne45)
          clear gw kw K10
          have HS10 := Lib.hid S10
          clear S10
          go_upto_region 19 with fail
          obtain ⟨W11, hW11⟩ : ∃ W11, W10.setCell ⟨g5, 3, none⟩ (.int .i64 y) = W11 := ⟨_, rfl⟩
          rw [hW11] at HS11 ⊢
          have S11 := HS11.out
          clear hW11 HS10 HS11 k0 k1 k2 k3 fk0 fk1 fk2 fk3
          have D5 := S11.now
          simp only [Ph.enc] at D5
          have D4 := S11.out
          have d0 := D5.cell 0
          have d1 := D5.cell 1
          have d2 := D5.cell 2
          have d3 := D5.cell 3
          simp only [List.getElem?_cons_zero, List.getElem?_cons_succ] at d0 d1 d2 d3
          have e0 := D4.cell 0
          have e1 := D4.cell 1
          have e2 := D4.cell 2
          have e3 := D4.cell 3
          simp only [List.getElem?_cons_zero, List.getElem?_cons_succ] at e0 e1 e2 e3
          have f0 := D4.frozen 0
          have f1 := D4.frozen 1
          have f2 := D4.frozen 2
          have f3 := D4.frozen 3
          have HT := Lib.hid S11
          clear D5 D4 S11
          repeat (first | go_values | go_skip | go_guarded | go_step | go_upon | simp only [])
          refine bodyPost_ret (v := (({ x with p := y } : Ph) : Ph).val) (by simp [results, Tryz.results29, go_sem, *]) rfl ⟨({ x with p := y } : Ph), rfl, by first | omega | (simp only; omega) | simp, ?_, ?_, ?_⟩
          · exact HT.out.own.ne (g := g4) (grown_set (grown_set (grown_set (grown_set (World.grownBy.refl _ _))))) (HT.out.own.off HT.out.out ne_int_ph)
          · exact (HT.out.env.wrote (h := g4) (grown_set (grown_set (grown_set (grown_set (World.grownBy.refl _ _))))) h4.2 h4.1).mono (by omega)
          · exact grown_own HT.out.gr (b := g4) (grown_set (grown_set (grown_set (grown_set (World.grownBy.refl _ _))))) (by have := HQ.out; omega)
        · -- case 4
          have S10 := S9
          clear S9
          have Sa := S10.alloc (.cells #[.int .i64 1, .int .i64 2, .int .i64 3, .int .i64 4, .int .i64 5, .int .i64 6, .int .i64 7, .int .i64 8, .int .i64 9] 3)
          have Oa : OwnS (W9.alloc (.cells #[.int .i64 1, .int .i64 2, .int .i64 3, .int .i64 4, .int .i64 5, .int .i64 6, .int .i64 7, .int .i64 8, .int .i64 9] 3)) W.heap.size 3 1 (some ⟨W9.heap.size, 0, none⟩) 9 (encIs [1, 2, 3, 4, 5, 6, 7, 8, 9]) := OwnS.lit W9 W.heap.size [1, 2, 3, 4, 5, 6, 7, 8, 9] (Nat.le_trans S10.gr.size (Nat.le_refl _)) (by simp)
          have K10 := Sa.now
          simp only [Ph.enc] at K10
          have k0 := K10.cell 0
          have k1 := K10.cell 1
          have k2 := K10.cell 2
          have k3 := K10.cell 3
          simp only [List.getElem?_cons_zero, List.getElem?_cons_succ] at k0 k1 k2 k3
          have fk0 := K10.frozen 0
          have fk1 := K10.frozen 1
          have fk2 := K10.frozen 2
          have fk3 := K10.frozen 3
          have HSa := Lib.hid Sa
          have HOa := Lib.hid Oa
          have HKa := Lib.hid K10
          clear Sa Oa S10 K10
          go_upto_region 19 with fail
          have gw : (W9.alloc (.cells #[.int .i64 1, .int .i64 2, .int .i64 3, .int .i64 4, .int .i64 5, .int .i64 6, .int .i64 7, .int .i64 8, .int .i64 9] 3)).grownBy ((W9.alloc (.cells #[.int .i64 1, .int .i64 2, .int .i64 3, .int .i64 4, .int .i64 5, .int .i64 6, .int .i64 7, .int .i64 8, .int .i64 9] 3)).setCell ⟨g5, 2, none⟩ (.slice (some ⟨W9.heap.size, 0, none⟩) 9 9)) (some g5) := grown_set (World.grownBy.refl _ _)
          have kw : Lies ((W9.alloc (.cells #[.int .i64 1, .int .i64 2, .int .i64 3, .int .i64 4, .int .i64 5, .int .i64 6, .int .i64 7, .int .i64 8, .int .i64 9] 3)).setCell ⟨g5, 2, none⟩ (.slice (some ⟨W9.heap.size, 0, none⟩) 9 9)) g5 26 (Ph.enc { x with f := [1, 2, 3, 4, 5, 6, 7, 8, 9], A := some ⟨W9.heap.size, 0, none⟩, cap := 9 }) := HKa.out.set 2 (.slice (some ⟨W9.heap.size, 0, none⟩) 9 9)
          have HS11 := Lib.hid (HSa.out.put gw kw HOa.out (by simp) (by omega) hW5 (by omega) hne45)
          clear gw kw
          obtain ⟨W11, hW11⟩ : ∃ W11, (W9.alloc (.cells #[.int .i64 1, .int .i64 2, .int .i64 3, .int .i64 4, .int .i64 5, .int .i64 6, .int .i64 7, .int .i64 8, .int .i64 9] 3)).setCell ⟨g5, 2, none⟩ (.slice (some ⟨W9.heap.size, 0, none⟩) 9 9) = W11 := ⟨_, rfl⟩
          rw [hW11] at HS11 ⊢
          have S11 := HS11.out
          clear hW11 HS11 HSa HOa HKa k0 k1 k2 k3 fk0 fk1 fk2 fk3
          have D5 := S11.now
          simp only [Ph.enc] at D5
          have D4 := S11.out
          have d0 := D5.cell 0
          have d1 := D5.cell 1
          have d2 := D5.cell 2
          have d3 := D5.cell 3
          simp only [List.getElem?_cons_zero, List.getElem?_cons_succ] at d0 d1 d2 d3
          have e0 := D4.cell 0
          have e1 := D4.cell 1
          have e2 := D4.cell 2
          have e3 := D4.cell 3
          simp only [List.getElem?_cons_zero, List.getElem?_cons_succ] at e0 e1 e2 e3
          have f0 := D4.frozen 0
          have f1 := D4.frozen 1
          have f2 := D4.frozen 2
          have f3 := D4.frozen 3
          have HT := Lib.hid S11
          clear D5 D4 S11
          repeat (first | go_values | go_skip | go_guarded | go_step | go_upon | simp only [])
          refine bodyPost_ret (v := (({ x with f := [1, 2, 3, 4, 5, 6, 7, 8, 9], A := some ⟨W9.heap.size, 0, none⟩, cap := 9 } : Ph) : Ph).val) (by simp [results, Tryz.results29, go_sem, *]) rfl ⟨({ x with f := [1, 2, 3, 4, 5, 6, 7, 8, 9], A := some ⟨W9.heap.size, 0, none⟩, cap := 9 } : Ph), rfl, by first | omega | (simp only; omega) | simp, ?_, ?_, ?_⟩
          · exact HT.out.own.ne (g := g4) (grown_set (grown_set (grown_set (grown_set (World.grownBy.refl _ _))))) (HT.out.own.off HT.out.out ne_int_ph)
          · exact (HT.out.env.wrote (h := g4) (grown_set (grown_set (grown_set (grown_set (World.grownBy.refl _ _))))) h4.2 h4.1).mono (by omega)
          · exact grown_own HT.out.gr (b := g4) (grown_set (grown_set (grown_set (grown_set (World.grownBy.refl _ _))))) (by have := HQ.out; omega)
        · -- case 5
          have b0 : ((n : Int) == 0) = false := by rw [beq_eq_false_iff_ne]; omega
          have b1 : ((n : Int) == 1) = false := by rw [beq_eq_false_iff_ne]; omega
          have b2 : ((n : Int) == 2) = false := by rw [beq_eq_false_iff_ne]; omega
          have b3 : ((n : Int) == 3) = false := by rw [beq_eq_false_iff_ne]; omega
          have b4 : ((n : Int) == 4) = false := by rw [beq_eq_false_iff_ne]; omega
          have HS9 := Lib.hid S9
          clear S9 h5
          go_upto_region 19 with fail
          have S11 := HS9.out
          clear HS9 b0 b1 b2 b3 b4
          have D5 := S11.now
          simp only [Ph.enc] at D5
          have D4 := S11.out
          have d0 := D5.cell 0
          have d1 := D5.cell 1
          have d2 := D5.cell 2
          have d3 := D5.cell 3
          simp only [List.getElem?_cons_zero, List.getElem?_cons_succ] at d0 d1 d2 d3
          have e0 := D4.cell 0
          have e1 := D4.cell 1
          have e2 := D4.cell 2
          have e3 := D4.cell 3
          simp only [List.getElem?_cons_zero, List.getElem?_cons_succ] at e0 e1 e2 e3
          have f0 := D4.frozen 0
          have f1 := D4.frozen 1
          have f2 := D4.frozen 2
          have f3 := D4.frozen 3
          have HT := Lib.hid S11
          clear D5 D4 S11
          repeat (first | go_values | go_skip | go_guarded | go_step | go_upon | simp only [])
          refine bodyPost_ret (v := (x : Ph).val) (by simp [results, Tryz.results29, go_sem, *]) rfl ⟨x, rfl, by first | omega | (simp only; omega) | simp, ?_, ?_, ?_⟩
          · exact HT.out.own.ne (g := g4) (grown_set (grown_set (grown_set (grown_set (World.grownBy.refl _ _))))) (HT.out.own.off HT.out.out ne_int_ph)
          · exact (HT.out.env.wrote (h := g4) (grown_set (grown_set (grown_set (grown_set (World.grownBy.refl _ _))))) h4.2 h4.1).mono (by omega)
          · exact grown_own HT.out.gr (b := g4) (grown_set (grown_set (grown_set (grown_set (World.grownBy.refl _ _))))) (by have := HQ.out; omega)
      · have S10 := S7
        clear S7
        have Sa := S10.alloc (.cells #[] 3)
        have Oa : OwnS (W7.alloc (.cells #[] 3)) W.heap.size 3 1 (some ⟨W7.heap.size, 0, none⟩) 0 (encIs []) := OwnS.lit W7 W.heap.size [] (Nat.le_trans S10.gr.size (Nat.le_refl _)) (by simp)
        have K10 := Sa.now
        simp only [Ph.enc] at K10
        have k0 := K10.cell 0
        have k1 := K10.cell 1
        have k2 := K10.cell 2
        have k3 := K10.cell 3
        simp only [List.getElem?_cons_zero, List.getElem?_cons_succ] at k0 k1 k2 k3
        have fk0 := K10.frozen 0
        have fk1 := K10.frozen 1
        have fk2 := K10.frozen 2
        have fk3 := K10.frozen 3
        have HSa := Lib.hid Sa
        have HOa := Lib.hid Oa
        have HKa := Lib.hid K10
        clear Sa Oa S10 K10
        go_upto_region 8 with fail
        have gw : (W7.alloc (.cells #[] 3)).grownBy ((W7.alloc (.cells #[] 3)).setCell ⟨g5, 2, none⟩ (.slice (some ⟨W7.heap.size, 0, none⟩) 0 0)) (some g5) := grown_set (World.grownBy.refl _ _)
        have kw : Lies ((W7.alloc (.cells #[] 3)).setCell ⟨g5, 2, none⟩ (.slice (some ⟨W7.heap.size, 0, none⟩) 0 0)) g5 26 (Ph.enc { x with f := [], A := some ⟨W7.heap.size, 0, none⟩, cap := 0 }) := HKa.out.set 2 (.slice (some ⟨W7.heap.size, 0, none⟩) 0 0)
        have HS11 := Lib.hid (HSa.out.put gw kw HOa.out (by simp) (by omega) hW5 (by omega) hne45)
        clear gw kw
        obtain ⟨W11, hW11⟩ : ∃ W11, (W7.alloc (.cells #[] 3)).setCell ⟨g5, 2, none⟩ (.slice (some ⟨W7.heap.size, 0, none⟩) 0 0) = W11 := ⟨_, rfl⟩
        rw [hW11] at HS11 ⊢
        have S11 := HS11.out
        clear hW11 HS11 HSa HOa HKa k0 k1 k2 k3 fk0 fk1 fk2 fk3
        have S8 := S11
        clear S11
        go_wp2_with fail
        have hl0 : ([] : List Int).length ≤ 3 := by simp
        obtain ⟨x, hx⟩ : ∃ y : Ph, ({ x with f := [], A := some ⟨W7.heap.size, 0, none⟩, cap := 0 } : Ph) = y := ⟨_, rfl⟩
        have hl3 : x.f.length ≤ 3 := by rw [← hx]; simp
        rw [hx] at S8
        clear hx hl0
        refine (pick_env S8.env 100 (by omega) (by omega)).mono ?_
        rintro e W9 ⟨n, rfl, hn, E9, gr⟩
        have S9 := S8.next E9 gr hgg hgg4 hgg5
        clear gr E9 S8
        have hc : n = 0 ∨ n = 1 ∨ n = 2 ∨ n = 3 ∨ n = 4 ∨ 5 ≤ n := by omega
        clear hn
        rcases hc with rfl | rfl | rfl | rfl | rfl | h5
        · -- case 0
          go_wp2_with fail
          have hl := S9.env.lt
          have Li := Lies.new W9 3 #[.int .i64 0, .int .i64 4]
          have Si := S9.alloc (.cells #[.int .i64 0, .int .i64 4] 3)
          generalize W9.alloc (.cells #[.int .i64 0, .int .i64 4] 3) = Wi at Li Si ⊢
          generalize W9.heap.size = gi at Li hl ⊢
          refine (among_lies Si.env gi 2 [0, 4] rfl Li (by omega) (by omega) (by omega) (by omega)).mono ?_
          rintro e W10 ⟨y, rfl, E10, gr⟩
          have S10 := Si.next E10 gr hgg hgg4 hgg5
          clear gr Li hl Si S9 E10
          have K10 := S10.now
          simp only [Ph.enc] at K10
          have k0 := K10.cell 0
          have k1 := K10.cell 1
          have k2 := K10.cell 2
          have k3 := K10.cell 3
          simp only [List.getElem?_cons_zero, List.getElem?_cons_succ] at k0 k1 k2 k3
          have fk0 := K10.frozen 0
          have fk1 := K10.frozen 1
          have fk2 := K10.frozen 2
          have fk3 := K10.frozen 3
          have gw : W10.grownBy (W10.setCell ⟨g5, 0, none⟩ (.int .i64 y)) (some g5) := grown_set (World.grownBy.refl _ _)
          have kw : Lies (W10.setCell ⟨g5, 0, none⟩ (.int .i64 y)) g5 26 (Ph.enc { x with s := y }) := K10.set 0 (.int .i64 y)
          have HS11 := Lib.hid (S10.put gw kw S10.own S10.cp (by omega) hW5 (by omega) hne45)
          clear gw kw K10
          have HS10 := Lib.hid S10
          clear S10
          go_upto_region 19 with fail
          obtain ⟨W11, hW11⟩ : ∃ W11, W10.setCell ⟨g5, 0, none⟩ (.int .i64 y) = W11 := ⟨_, rfl⟩
          rw [hW11] at HS11 ⊢
          have S11 := HS11.out
          clear hW11 HS10 HS11 k0 k1 k2 k3 fk0 fk1 fk2 fk3
          have D5 := S11.now
          simp only [Ph.enc] at D5
          have D4 := S11.out
          have d0 := D5.cell 0
          have d1 := D5.cell 1
          have d2 := D5.cell 2
          have d3 := D5.cell 3
          simp only [List.getElem?_cons_zero, List.getElem?_cons_succ] at d0 d1 d2 d3
          have e0 := D4.cell 0
          have e1 := D4.cell 1
          have e2 := D4.cell 2
          have e3 := D4.cell 3
          simp only [List.getElem?_cons_zero, List.getElem?_cons_succ] at e0 e1 e2 e3
          have f0 := D4.frozen 0
          have f1 := D4.frozen 1
          have f2 := D4.frozen 2
          have f3 := D4.frozen 3
          have HT := Lib.hid S11
          clear D5 D4 S11
          repeat (first | go_values | go_skip | go_guarded | go_step | go_upon | simp only [])
          refine bodyPost_ret (v := (({ x with s := y } : Ph) : Ph).val) (by simp [results, Tryz.results29, go_sem, *]) rfl ⟨({ x with s := y } : Ph), rfl, by first | omega | (simp only; omega) | simp, ?_, ?_, ?_⟩
          · exact HT.out.own.ne (g := g4) (grown_set (grown_set (grown_set (grown_set (World.grownBy.refl _ _))))) (HT.out.own.off HT.out.out ne_int_ph)
          · exact (HT.out.env.wrote (h := g4) (grown_set (grown_set (grown_set (grown_set (World.grownBy.refl _ _))))) h4.2 h4.1).mono (by omega)
          · exact grown_own HT.out.gr (b := g4) (grown_set (grown_set (grown_set (grown_set (World.grownBy.refl _ _))))) (by have := HQ.out; omega)
        · -- case 1
          go_wp2_with fail
          have hl := S9.env.lt
          have Li := Lies.new W9 3 #[.int .i64 0, .int .i64 100]
          have Si := S9.alloc (.cells #[.int .i64 0, .int .i64 100] 3)
          generalize W9.alloc (.cells #[.int .i64 0, .int .i64 100] 3) = Wi at Li Si ⊢
          generalize W9.heap.size = gi at Li hl ⊢
          refine (among_lies Si.env gi 2 [0, 100] rfl Li (by omega) (by omega) (by omega) (by omega)).mono ?_
          rintro e W10 ⟨y, rfl, E10, gr⟩
          have S10 := Si.next E10 gr hgg hgg4 hgg5
          clear gr Li hl Si S9 E10
          have K10 := S10.now
          simp only [Ph.enc] at K10
          have k0 := K10.cell 0
          have k1 := K10.cell 1
          have k2 := K10.cell 2
          have k3 := K10.cell 3
          simp only [List.getElem?_cons_zero, List.getElem?_cons_succ] at k0 k1 k2 k3
          have fk0 := K10.frozen 0
          have fk1 := K10.frozen 1
          have fk2 := K10.frozen 2
          have fk3 := K10.frozen 3
          have gw : W10.grownBy (W10.setCell ⟨g5, 1, none⟩ (.int .i64 y)) (some g5) := grown_set (World.grownBy.refl _ _)
          have kw : Lies (W10.setCell ⟨g5, 1, none⟩ (.int .i64 y)) g5 26 (Ph.enc { x with c := y }) := K10.set 1 (.int .i64 y)
          have HS11 := Lib.hid (S10.put gw kw S10.own S10.cp (by omega) hW5 (by omega) hne45)
          clear gw kw K10
          have HS10 := Lib.hid S10
          clear S10
          go_upto_region 19 with fail
          obtain ⟨W11, hW11⟩ : ∃ W11, W10.setCell ⟨g5, 1, none⟩ (.int .i64 y) = W11 := ⟨_, rfl⟩
          rw [hW11] at HS11 ⊢
          have S11 := HS11.out
          clear hW11 HS10 HS11 k0 k1 k2 k3 fk0 fk1 fk2 fk3
          have D5 := S11.now
          simp only [Ph.enc] at D5
          have D4 := S11.out
          have d0 := D5.cell 0
          have d1 := D5.cell 1
          have d2 := D5.cell 2
          have d3 := D5.cell 3
          simp only [List.getElem?_cons_zero, List.getElem?_cons_succ] at d0 d1 d2 d3
          have e0 := D4.cell 0
          have e1 := D4.cell 1
          have e2 := D4.cell 2
          have e3 := D4.cell 3
          simp only [List.getElem?_cons_zero, List.getElem?_cons_succ] at e0 e1 e2 e3
          have f0 := D4.frozen 0
          have f1 := D4.frozen 1
          have f2 := D4.frozen 2
          have f3 := D4.frozen 3
          have HT := Lib.hid S11
          clear D5 D4 S11
          repeat (first | go_values | go_skip | go_guarded | go_step | go_upon | simp only [])
          refine bodyPost_ret (v := (({ x with c := y } : Ph) : Ph).val) (by simp [results, Tryz.results29, go_sem, *]) rfl ⟨({ x with c := y } : Ph), rfl, by first | omega | (simp only; omega) | simp, ?_, ?_, ?_⟩
          · exact HT.out.own.ne (g := g4) (grown_set (grown_set (grown_set (grown_set (World.grownBy.refl _ _))))) (HT.out.own.off HT.out.out ne_int_ph)
          · exact (HT.out.env.wrote (h := g4) (grown_set (grown_set (grown_set (grown_set (World.grownBy.refl _ _))))) h4.2 h4.1).mono (by omega)
          · exact grown_own HT.out.gr (b := g4) (grown_set (grown_set (grown_set (grown_set (World.grownBy.refl _ _))))) (by have := HQ.out; omega)
        · -- case 2
          go_wp2_with fail
          have hl := S9.env.lt
          have Li := Lies.new W9 3 #[.int .i64 0, .int .i64 10, .int .i64 5]
          have Si := S9.alloc (.cells #[.int .i64 0, .int .i64 10, .int .i64 5] 3)
          generalize W9.alloc (.cells #[.int .i64 0, .int .i64 10, .int .i64 5] 3) = Wi at Li Si ⊢
          generalize W9.heap.size = gi at Li hl ⊢
          refine (among_lies Si.env gi 3 [0, 10, 5] rfl Li (by omega) (by omega) (by omega) (by omega)).mono ?_
          rintro e W10 ⟨y, rfl, E10, gr⟩
          have S10 := Si.next E10 gr hgg hgg4 hgg5
          clear gr Li hl Si S9 E10
          have Sa := S10.alloc (.cells #[.int .i64 y, .int .i64 5] 3)
          have Oa : OwnS (W10.alloc (.cells #[.int .i64 y, .int .i64 5] 3)) W.heap.size 3 1 (some ⟨W10.heap.size, 0, none⟩) 2 (encIs [y, 5]) := OwnS.lit W10 W.heap.size [y, 5] (Nat.le_trans S10.gr.size (Nat.le_refl _)) (by simp)
          have K10 := Sa.now
          simp only [Ph.enc] at K10
          have k0 := K10.cell 0
          have k1 := K10.cell 1
          have k2 := K10.cell 2
          have k3 := K10.cell 3
          simp only [List.getElem?_cons_zero, List.getElem?_cons_succ] at k0 k1 k2 k3
          have fk0 := K10.frozen 0
          have fk1 := K10.frozen 1
          have fk2 := K10.frozen 2
          have fk3 := K10.frozen 3
          have HSa := Lib.hid Sa
          have HOa := Lib.hid Oa
          have HKa := Lib.hid K10
          clear Sa Oa S10 K10
          go_upto_region 19 with fail
          have gw : (W10.alloc (.cells #[.int .i64 y, .int .i64 5] 3)).grownBy ((W10.alloc (.cells #[.int .i64 y, .int .i64 5] 3)).setCell ⟨g5, 2, none⟩ (.slice (some ⟨W10.heap.size, 0, none⟩) 2 2)) (some g5) := grown_set (World.grownBy.refl _ _)
          have kw : Lies ((W10.alloc (.cells #[.int .i64 y, .int .i64 5] 3)).setCell ⟨g5, 2, none⟩ (.slice (some ⟨W10.heap.size, 0, none⟩) 2 2)) g5 26 (Ph.enc { x with f := [y, 5], A := some ⟨W10.heap.size, 0, none⟩, cap := 2 }) := HKa.out.set 2 (.slice (some ⟨W10.heap.size, 0, none⟩) 2 2)
          have HS11 := Lib.hid (HSa.out.put gw kw HOa.out (by simp) (by omega) hW5 (by omega) hne45)
          clear gw kw
          obtain ⟨W11, hW11⟩ : ∃ W11, (W10.alloc (.cells #[.int .i64 y, .int .i64 5] 3)).setCell ⟨g5, 2, none⟩ (.slice (some ⟨W10.heap.size, 0, none⟩) 2 2) = W11 := ⟨_, rfl⟩
          rw [hW11] at HS11 ⊢
          have S11 := HS11.out
          clear hW11 HS11 HSa HOa HKa k0 k1 k2 k3 fk0 fk1 fk2 fk3
          have D5 := S11.now
          simp only [Ph.enc] at D5
          have D4 := S11.out
          have d0 := D5.cell 0
          have d1 := D5.cell 1
          have d2 := D5.cell 2
          have d3 := D5.cell 3
          simp only [List.getElem?_cons_zero, List.getElem?_cons_succ] at d0 d1 d2 d3
          have e0 := D4.cell 0
          have e1 := D4.cell 1
          have e2 := D4.cell 2
          have e3 := D4.cell 3
          simp only [List.getElem?_cons_zero, List.getElem?_cons_succ] at e0 e1 e2 e3
          have f0 := D4.frozen 0
          have f1 := D4.frozen 1
          have f2 := D4.frozen 2
          have f3 := D4.frozen 3
          have HT := Lib.hid S11
          clear D5 D4 S11
          repeat (first | go_values | go_skip | go_guarded | go_step | go_upon | simp only [])
          refine bodyPost_ret (v := (({ x with f := [y, 5], A := some ⟨W10.heap.size, 0, none⟩, cap := 2 } : Ph) : Ph).val) (by simp [results, Tryz.results29, go_sem, *]) rfl ⟨({ x with f := [y, 5], A := some ⟨W10.heap.size, 0, none⟩, cap := 2 } : Ph), rfl, by first | omega | (simp only; omega) | simp, ?_, ?_, ?_⟩
          · exact HT.out.own.ne (g := g4) (grown_set (grown_set (grown_set (grown_set (World.grownBy.refl _ _))))) (HT.out.own.off HT.out.out ne_int_ph)
          · exact (HT.out.env.wrote (h := g4) (grown_set (grown_set (grown_set (grown_set (World.grownBy.refl _ _))))) h4.2 h4.1).mono (by omega)
          · exact grown_own HT.out.gr (b := g4) (grown_set (grown_set (grown_set (grown_set (World.grownBy.refl _ _))))) (by have := HQ.out; omega)
        · -- case 3
          go_wp2_with fail
          have hl := S9.env.lt
          have Li := Lies.new W9 3 #[.int .i64 (-1), .int .i64 1000000]
          have Si := S9.alloc (.cells #[.int .i64 (-1), .int .i64 1000000] 3)
          generalize W9.alloc (.cells #[.int .i64 (-1), .int .i64 1000000] 3) = Wi at Li Si ⊢
          generalize W9.heap.size = gi at Li hl ⊢
          refine (among_lies Si.env gi 2 [-1, 1000000] rfl Li (by omega) (by omega) (by omega) (by omega)).mono ?_
          rintro e W10 ⟨y, rfl, E10, gr⟩
          have S10 := Si.next E10 gr hgg hgg4 hgg5
          clear gr Li hl Si S9 E10
          have K10 := S10.now
          simp only [Ph.enc] at K10
          have k0 := K10.cell 0
          have k1 := K10.cell 1
          have k2 := K10.cell 2
          have k3 := K10.cell 3
          simp only [List.getElem?_cons_zero, List.getElem?_cons_succ] at k0 k1 k2 k3
          have fk0 := K10.frozen 0
          have fk1 := K10.frozen 1
          have fk2 := K10.frozen 2
          have fk3 := K10.frozen 3
          have gw : W10.grownBy (W10.setCell ⟨g5, 3, none⟩ (.int .i64 y)) (some g5) := grown_set (World.grownBy.refl _ _)
          have kw : Lies (W10.setCell ⟨g5, 3, none⟩ (.int .i64 y)) g5 26 (Ph.enc { x with p := y }) := K10.set 3 (.int .i64 y)
          have HS11 := Lib.hid (S10.put gw kw S10.own S10.cp (by omega) hW5 (by omega) hne45)
          clear gw kw K10
          have HS10 := Lib.hid S10
          clear S10
          go_upto_region 19 with fail
          obtain ⟨W11, hW11⟩ : ∃ W11, W10.setCell ⟨g5, 3, none⟩ (.int .i64 y) = W11 := ⟨_, rfl⟩
          rw [hW11] at HS11 ⊢
          have S11 := HS11.out
          clear hW11 HS10 HS11 k0 k1 k2 k3 fk0 fk1 fk2 fk3
          have D5 := S11.now
          simp only [Ph.enc] at D5
          have D4 := S11.out
          have d0 := D5.cell 0
          have d1 := D5.cell 1
          have d2 := D5.cell 2
          have d3 := D5.cell 3
          simp only [List.getElem?_cons_zero, List.getElem?_cons_succ] at d0 d1 d2 d3
          have e0 := D4.cell 0
          have e1 := D4.cell 1
          have e2 := D4.cell 2
          have e3 := D4.cell 3
          simp only [List.getElem?_cons_zero, List.getElem?_cons_succ] at e0 e1 e2 e3
          have f0 := D4.frozen 0
          have f1 := D4.frozen 1
          have f2 := D4.frozen 2
          have f3 := D4.frozen 3
          have HT := Lib.hid S11
          clear D5 D4 S11
          repeat (first | go_values | go_skip | go_guarded | go_step | go_upon | simp only [])
          refine bodyPost_ret (v := (({ x with p := y } : Ph) : Ph).val) (by simp [results, Tryz.results29, go_sem, *]) rfl ⟨({ x with p := y } : Ph), rfl, by first | omega | (simp only; omega) | simp, ?_, ?_, ?_⟩
          · exact HT.out.own.ne (g := g4) (grown_set (grown_set (grown_set (grown_set (World.grownBy.refl _ _))))) (HT.out.own.off HT.out.out ne_int_ph)
          · exact (HT.out.env.wrote (h := g4) (grown_set (grown_set (grown_set (grown_set (World.grownBy.refl _ _))))) h4.2 h4.1).mono (by omega)
          · exact grown_own HT.out.gr (b := g4) (grown_set (grown_set (grown_set (grown_set (World.grownBy.refl _ _))))) (by have := HQ.out; omega)
        · -- case 4
          have S10 := S9
          clear S9
          have Sa := S10.alloc (.cells #[.int .i64 1, .int .i64 2, .int .i64 3, .int .i64 4, .int .i64 5, .int .i64 6, .int .i64 7, .int .i64 8, .int .i64 9] 3)
          have Oa : OwnS (W9.alloc (.cells #[.int .i64 1, .int .i64 2, .int .i64 3, .int .i64 4, .int .i64 5, .int .i64 6, .int .i64 7, .int .i64 8, .int .i64 9] 3)) W.heap.size 3 1 (some ⟨W9.heap.size, 0, none⟩) 9 (encIs [1, 2, 3, 4, 5, 6, 7, 8, 9]) := OwnS.lit W9 W.heap.size [1, 2, 3, 4, 5, 6, 7, 8, 9] (Nat.le_trans S10.gr.size (Nat.le_refl _)) (by simp)
          have K10 := Sa.now
          simp only [Ph.enc] at K10
          have k0 := K10.cell 0
          have k1 := K10.cell 1
          have k2 := K10.cell 2
          have k3 := K10.cell 3
          simp only [List.getElem?_cons_zero, List.getElem?_cons_succ] at k0 k1 k2 k3
          have fk0 := K10.frozen 0
          have fk1 := K10.frozen 1
          have fk2 := K10.frozen 2
          have fk3 := K10.frozen 3
          have HSa := Lib.hid Sa
          have HOa := Lib.hid Oa
          have HKa := Lib.hid K10
          clear Sa Oa S10 K10
          go_upto_region 19 with fail
          have gw : (W9.alloc (.cells #[.int .i64 1, .int .i64 2, .int .i64 3, .int .i64 4, .int .i64 5, .int .i64 6, .int .i64 7, .int .i64 8, .int .i64 9] 3)).grownBy ((W9.alloc (.cells #[.int .i64 1, .int .i64 2, .int .i64 3, .int .i64 4, .int .i64 5, .int .i64 6, .int .i64 7, .int .i64 8, .int .i64 9] 3)).setCell ⟨g5, 2, none⟩ (.slice (some ⟨W9.heap.size, 0, none⟩) 9 9)) (some g5) := grown_set (World.grownBy.refl _ _)
          have kw : Lies ((W9.alloc (.cells #[.int .i64 1, .int .i64 2, .int .i64 3, .int .i64 4, .int .i64 5, .int .i64 6, .int .i64 7, .int .i64 8, .int .i64 9] 3)).setCell ⟨g5, 2, none⟩ (.slice (some ⟨W9.heap.size, 0, none⟩) 9 9)) g5 26 (Ph.enc { x with f := [1, 2, 3, 4, 5, 6, 7, 8, 9], A := some ⟨W9.heap.size, 0, none⟩, cap := 9 }) := HKa.out.set 2 (.slice (some ⟨W9.heap.size, 0, none⟩) 9 9)
          have HS11 := Lib.hid (HSa.out.put gw kw HOa.out (by simp) (by omega) hW5 (by omega) hne45)
          clear gw kw
          obtain ⟨W11, hW11⟩ : ∃ W11, (W9.alloc (.cells #[.int .i64 1, .int .i64 2, .int .i64 3, .int .i64 4, .int .i64 5, .int .i64 6, .int .i64 7, .int .i64 8, .int .i64 9] 3)).setCell ⟨g5, 2, none⟩ (.slice (some ⟨W9.heap.size, 0, none⟩) 9 9) = W11 := ⟨_, rfl⟩
          rw [hW11] at HS11 ⊢
          have S11 := HS11.out
          clear hW11 HS11 HSa HOa HKa k0 k1 k2 k3 fk0 fk1 fk2 fk3
          have D5 := S11.now
          simp only [Ph.enc] at D5
          have D4 := S11.out
          have d0 := D5.cell 0
          have d1 := D5.cell 1
          have d2 := D5.cell 2
          have d3 := D5.cell 3
          simp only [List.getElem?_cons_zero, List.getElem?_cons_succ] at d0 d1 d2 d3
          have e0 := D4.cell 0
          have e1 := D4.cell 1
          have e2 := D4.cell 2
          have e3 := D4.cell 3
          simp only [List.getElem?_cons_zero, List.getElem?_cons_succ] at e0 e1 e2 e3
          have f0 := D4.frozen 0
          have f1 := D4.frozen 1
          have f2 := D4.frozen 2
          have f3 := D4.frozen 3
          have HT := Lib.hid S11
          clear D5 D4 S11
          repeat (first | go_values | go_skip | go_guarded | go_step | go_upon | simp only [])
          refine bodyPost_ret (v := (({ x with f := [1, 2, 3, 4, 5, 6, 7, 8, 9], A := some ⟨W9.heap.size, 0, none⟩, cap := 9 } : Ph) : Ph).val) (by simp [results, Tryz.results29, go_sem, *]) rfl ⟨({ x with f := [1, 2, 3, 4, 5, 6, 7, 8, 9], A := some ⟨W9.heap.size, 0, none⟩, cap := 9 } : Ph), rfl, by first | omega | (simp only; omega) | simp, ?_, ?_, ?_⟩
          · exact HT.out.own.ne (g := g4) (grown_set (grown_set (grown_set (grown_set (World.grownBy.refl _ _))))) (HT.out.own.off HT.out.out ne_int_ph)
          · exact (HT.out.env.wrote (h := g4) (grown_set (grown_set (grown_set (grown_set (World.grownBy.refl _ _))))) h4.2 h4.1).mono (by omega)
          · exact grown_own HT.out.gr (b := g4) (grown_set (grown_set (grown_set (grown_set (World.grownBy.refl _ _))))) (by have := HQ.out; omega)
        · -- case 5
          have b0 : ((n : Int) == 0) = false := by rw [beq_eq_false_iff_ne]; omega
          have b1 : ((n : Int) == 1) = false := by rw [beq_eq_false_iff_ne]; omega
          have b2 : ((n : Int) == 2) = false := by rw [beq_eq_false_iff_ne]; omega
          have b3 : ((n : Int) == 3) = false := by rw [beq_eq_false_iff_ne]; omega
          have b4 : ((n : Int) == 4) = false := by rw [beq_eq_false_iff_ne]; omega
          have HS9 := Lib.hid S9
          clear S9 h5
          go_upto_region 19 with fail
          have S11 := HS9.out
          clear HS9 b0 b1 b2 b3 b4
          have D5 := S11.now
          simp only [Ph.enc] at D5
          have D4 := S11.out
          have d0 := D5.cell 0
          have d1 := D5.cell 1
          have d2 := D5.cell 2
          have d3 := D5.cell 3
          simp only [List.getElem?_cons_zero, List.getElem?_cons_succ] at d0 d1 d2 d3
          have e0 := D4.cell 0
          have e1 := D4.cell 1
          have e2 := D4.cell 2
          have e3 := D4.cell 3
          simp only [List.getElem?_cons_zero, List.getElem?_cons_succ] at e0 e1 e2 e3
          have f0 := D4.frozen 0
          have f1 := D4.frozen 1
          have f2 := D4.frozen 2
          have f3 := D4.frozen 3
          have HT := Lib.hid S11
          clear D5 D4 S11
          repeat (first | go_values | go_skip | go_guarded | go_step | go_upon | simp only [])
          refine bodyPost_ret (v := (x : Ph).val) (by simp [results, Tryz.results29, go_sem, *]) rfl ⟨x, rfl, by first | omega | (simp only; omega) | simp, ?_, ?_, ?_⟩
          · exact HT.out.own.ne (g := g4) (grown_set (grown_set (grown_set (grown_set (World.grownBy.refl _ _))))) (HT.out.own.off HT.out.out ne_int_ph)
          · exact (HT.out.env.wrote (h := g4) (grown_set (grown_set (grown_set (grown_set (World.grownBy.refl _ _))))) h4.2 h4.1).mono (by omega)
          · exact grown_own HT.out.gr (b := g4) (grown_set (grown_set (grown_set (grown_set (World.grownBy.refl _ _))))) (by have := HQ.out; omega)
end Go.Proofs.YtchkjiadnackaaaGreatDoor

/- A drawing starts and ends. -/
namespace Go.Proofs.YtchkjiadnackaaaGreatDoor
open Go.RowKit

theorem grown_belowR {w w' : World} {g : Nat} (hg : w.grownBy w' (some g)) (h : w.heap.size ≤ g) : Below w.heap.size w w' :=
  ⟨hg.os, hg.tape, hg.output, hg.size, fun k hk => hg.block k hk (by intro e; injection e; omega)⟩
theorem cur_start {w : World} {A : Option Addr} {cap : Nat} {bs : List UInt8} (hr : BytesR w w.heap.size A bs) : Env (w.alloc (.cells #[.slice A bs.length cap, .int .i64 0, .int .u64 0] 46)) (w.alloc (.cells #[.slice A bs.length cap, .int .i64 0, .int .u64 0] 46)) w.heap.size A bs cap 0 :=
  have b1 : Below w.heap.size w (w.alloc (.cells #[.slice A bs.length cap, .int .i64 0, .int .u64 0] 46)) := (Below.refl w.heap.size w).alloc (Nat.le_refl _) (.cells #[.slice A bs.length cap, .int .i64 0, .int .u64 0] 46)
  ⟨⟨0, 0, Lies.new w 46 #[.slice A bs.length cap, .int .i64 0, .int .u64 0], Nat.le_refl _, by omega, by omega⟩, SlcR.below hr b1, World.grownBy.refl _ _⟩
end Go.Proofs.YtchkjiadnackaaaGreatDoor

/- Lists of phrases: validity, in the reference and in the program. -/
namespace Go.Proofs.YtchkjiadnackaaaGreatDoor
open Go.RowKit

def goodPhs (l : List Ph) : Bool := decide (l.length ≤ 10) && l.all Ph.ok
theorem ok_ph {x y : Ph} (h : x.ph = y.ph) : x.ok = y.ok := by
  unfold Ph.ph at h; injection h with h1 h2; injection h2 with h2 h3; injection h3 with h3 h4
  unfold Ph.ok; rw [h1, h2, h3, h4]
theorem good_ph : ∀ {a b : List Ph}, a.map Ph.ph = b.map Ph.ph → goodPhs a = goodPhs b := by
  intro a b h
  unfold goodPhs
  rw [len_of_ph h]
  have : a.all Ph.ok = b.all Ph.ok := by
    induction a generalizing b with
    | nil => cases b with
      | nil => rfl
      | cons y b => simp at h
    | cons x a ih => cases b with
      | nil => simp at h
      | cons y b =>
        simp only [List.map_cons, List.cons.injEq] at h
        rw [List.all_cons, List.all_cons, ok_ph h.1, ih h.2]
  rw [this]
theorem good_len {l : List Ph} (h : goodPhs l = true) : l.length ≤ 10 := by
  unfold goodPhs at h; rw [Bool.and_eq_true] at h; exact of_decide_eq_true h.1
theorem good_at {l : List Ph} (h : goodPhs l = true) {i : Nat} (hi : i < l.length) : l[i].ok = true := by
  unfold goodPhs at h; rw [Bool.and_eq_true] at h; exact List.all_eq_true.1 h.2 _ (List.getElem_mem hi)
theorem bad_at {l : List Ph} {i : Nat} (hi : i < l.length) (h : l[i].ok = false) : goodPhs l = false := by
  cases hg : goodPhs l with
  | false => rfl
  | true => rw [good_at hg hi] at h; cases h
theorem bad_len {l : List Ph} (h : 10 < l.length) : goodPhs l = false := by
  cases hg : goodPhs l with
  | false => rfl
  | true => have := good_len hg; omega
theorem good_of {l : List Ph} (h : l.length ≤ 10) (ha : ∀ i (hi : i < l.length), l[i].ok = true) : goodPhs l = true := by
  unfold goodPhs
  rw [Bool.and_eq_true]
  refine ⟨decide_eq_true h, List.all_eq_true.2 fun x hx => ?_⟩
  obtain ⟨i, hi, rfl⟩ := List.getElem_of_mem hx
  exact ha i hi

/-- What a valid phrase keeps to. -/
theorem Ph.bounds {x : Ph} (h : x.ok = true) : (1 ≤ x.s ∧ x.s ≤ 3) ∧ (1 ≤ x.c ∧ x.c ≤ 99) ∧ rises 1 9 x.f = true ∧ (0 ≤ x.p ∧ x.p ≤ 999999) := by
  unfold Ph.ok at h
  simp only [Bool.and_eq_true, inR_iff] at h
  exact ⟨h.1.1.1, h.1.1.2, h.1.2, h.2⟩

set_option maxHeartbeats 1000000 in
theorem l30Good_any (A : Option Addr) (c : Nat) (l : List Ph) (w : World) (h : PhsR w w.heap.size A l) :
    Calls Tryz.prog 36 #[.slice A l.length c] w fun e w' => e = .returned (.bool (goodPhs l)) ∧ Below w.heap.size w w' := by
  have hl := h.slc.big
  have hrd := h.ph
  have hf : Hid (∀ i (hi : i < l.length), IntsR w w.heap.size l[i].A l[i].f) := fun i hi => h.f hi
  go_enter Tryz.func36, Tryz.ntmps36
  go_wp2
  go_loopw [3] (fun i wr => ∃ (k : Nat), k ≤ l.length ∧ k ≤ 11 ∧ i = .int .i64 k ∧ (∃ q : Since w.heap.size w, wr = q.val) ∧ Hid (∀ i (hi : i < l.length), i < k → l[i].ok = true)) (fun i _ => l.length - (intOf i).toNat)
  case atStart => exact ⟨0, Nat.zero_le _, by omega, rfl, ⟨Since.start _ _, rfl⟩, fun i _ h => absurd h (by omega)⟩
  case round =>
    obtain ⟨k, hk, hk11, rfl, ⟨q, rfl⟩, HR⟩ := hrel
    by_cases hlt : k < l.length
    · by_cases h10 : k ≤ 10
      · obtain ⟨b, off, rfl, hb, hcell⟩ := hrd (by omega)
        obtain ⟨c0, c1, c2, c3⟩ := hcell k hlt
        have hx : ∀ p : Since w.heap.size w, IntsR p.val p.val.heap.size l[k].A l[k].f := fun p => SlcR.up (hf.out k hlt) p.below (Nat.le_refl _)
        have hbad : l[k].ok = false → goodPhs l = false := bad_at hlt
        have hgd : Hid (l[k].ok = true → ∀ i (hi : i < l.length), i < k + 1 → l[i].ok = true) := fun ho i hi hik => by
          rcases Nat.lt_or_ge i k with h | h
          · exact HR.out i hi h
          · obtain rfl : i = k := by omega
            exact ho
        have HB := Lib.hid hbad; clear hbad
        obtain ⟨x, hxe⟩ : ∃ x, x = l[k] := ⟨_, rfl⟩
        rw [← hxe] at c0 c1 c2 c3 hx HB hgd
        clear hxe hcell hrd
        obtain ⟨v, hv⟩ : ∃ v, x.ok = v := ⟨_, rfl⟩
        have HV := Lib.hid hv; clear hv
        cases v
        all_goals
          go_wp2_with (go_at_call 25; refine (calls_sinceB HV (Nat.le_refl _) (l30One_any x _ (hx _))).mono ?_; rintro e w1 ⟨rfl, q1, rfl⟩)
        · go_ret
          exact ⟨by rw [HB.out HV.out]; rfl, q1.below⟩
        · go_roundw
          case rel => exact ⟨k + 1, by omega, by omega, by go_num, ⟨q1, rfl⟩, hgd.out HV.out⟩
          case measure => simp [intOf]; omega
      · have HB : Hid (goodPhs l = false) := bad_len (by omega)
        clear hrd
        go_wp2
        go_ret
        exact ⟨by rw [HB.out]; exact congrArg (fun b => Ending.returned (.bool b)) (decide_eq_false (by omega)), q.below⟩
    · have HK : Hid (∀ i (hi : i < l.length), l[i].ok = true) := fun i hi => HR.out i hi (by omega)
      clear hrd
      by_cases h10 : l.length ≤ 10
      · have HB : Hid (goodPhs l = true) := good_of h10 HK.out
        go_wp2
        all_goals
          go_ret
          exact ⟨by rw [HB.out]; exact congrArg (fun b => Ending.returned (.bool b)) (decide_eq_true (by omega)), q.below⟩
      · have HB : Hid (goodPhs l = false) := bad_len (by omega)
        go_wp2
        all_goals
          go_ret
          exact ⟨by rw [HB.out]; exact congrArg (fun b => Ending.returned (.bool b)) (decide_eq_false (by omega)), q.below⟩

theorem notOk_any (x : Ph) (w : World) (h : IntsR w w.heap.size x.A x.f) : Calls Tryz.prog 57 #[x.val] w fun e w' => e = .returned (.bool (!x.ok)) ∧ Below w.heap.size w w' := by
  have b1 := (Below.refl w.heap.size w).alloc (Nat.le_refl _) (.cells #[.int .i64 x.s, .int .i64 x.c, .slice x.A x.f.length x.cap, .int .i64 x.p] 26)
  have hc := fun W hW => isPhrase_any x W hW
  cases hv : x.ok
  all_goals
    rw [hv] at hc
    clear hv
    go_enter Tryz.func57, Tryz.ntmps57
    go_wp2_with fail
    refine (hc _ (SlcR.up h b1 (Nat.le_refl _))).mono ?_
    rintro e w' ⟨rfl, hb⟩
    go_wp2
    go_ret
    exact ⟨rfl, bthen b1 hb⟩

set_option maxHeartbeats 1000000 in
theorem idxBad_any (A : Option Addr) (c : Nat) (l : List Ph) (w : World) (h : PhsR w w.heap.size A l) :
    Calls Tryz.prog 68 #[.slice A l.length c, .func (.func 57) #[] #[]] w fun e w' => e = .returned (.int .i64 (idxFrom (fun x : Ph => !x.ok) 0 l)) ∧ Below w.heap.size w w' := by
  have hl := h.slc.big
  have hrd := h.ph
  have hf : Hid (∀ i (hi : i < l.length), IntsR w w.heap.size l[i].A l[i].f) := fun i hi => h.f hi
  have HF : Hid (idxFrom (fun x : Ph => !x.ok) 0 (l.drop 0) = idxFrom (fun x : Ph => !x.ok) 0 l) := rfl
  go_enter Tryz.func68, Tryz.ntmps68
  go_wp2
  go_loopw [8] (fun i wr => ∃ (k : Nat), k ≤ l.length ∧ i = .int .i64 k ∧ (∃ q : Since w.heap.size w, wr = q.val) ∧ Hid (idxFrom (fun x : Ph => !x.ok) k (l.drop k) = idxFrom (fun x : Ph => !x.ok) 0 l)) (fun i _ => l.length - (intOf i).toNat)
  case atStart => exact ⟨0, Nat.zero_le _, rfl, ⟨Since.start _ _, rfl⟩, HF⟩
  case round =>
    obtain ⟨k, hk, rfl, ⟨q, rfl⟩, HR⟩ := hrel
    by_cases hlt : k < l.length
    · obtain ⟨b, off, rfl, hb, hcell⟩ := hrd (by omega)
      obtain ⟨c0, c1, c2, c3⟩ := hcell k hlt
      have hx : ∀ p : Since w.heap.size w, IntsR p.val p.val.heap.size l[k].A l[k].f := fun p => SlcR.up (hf.out k hlt) p.below (Nat.le_refl _)
      have hy := fun hv => idx_yes (f := fun x : Ph => !x.ok) hlt hv
      have hn := fun hv => idx_no (f := fun x : Ph => !x.ok) hlt hv
      obtain ⟨x, hxe⟩ : ∃ x, x = l[k] := ⟨_, rfl⟩
      rw [← hxe] at c0 c1 c2 c3 hx hy hn
      clear hxe hcell hrd
      have hfx := fun W hW => notOk_any x W hW
      cases hv : !x.ok
      · have HE : Hid (idxFrom (fun x : Ph => !x.ok) (k + 1) (l.drop (k + 1)) = idxFrom (fun x : Ph => !x.ok) 0 l) := by rw [← hn hv]; exact HR.out
        rw [hv] at hfx
        clear hy hn hv
        go_wp2_with (go_at_call 57; refine (hfx _ (hx _)).mono ?_; rintro e w1 ⟨rfl, hb1⟩)
        go_roundw
        case rel => exact ⟨k + 1, by omega, by go_num, ⟨q.go (Nat.le_refl _) hb1, rfl⟩, HE⟩
        case measure => simp [intOf]; omega
      · have HE : Hid ((k : Int) = idxFrom (fun x : Ph => !x.ok) 0 l) := by rw [← hy hv]; exact HR.out
        rw [hv] at hfx
        clear hy hn hv
        go_wp2_with (go_at_call 57; refine (hfx _ (hx _)).mono ?_; rintro e w1 ⟨rfl, hb1⟩)
        go_ret
        exact ⟨by rw [← HE.out]; rfl, (q.go (Nat.le_refl _) hb1).below⟩
    · have HE : Hid (-1 = idxFrom (fun x : Ph => !x.ok) 0 l) := by
        have h1 := HR.out; rw [List.drop_eq_nil_of_le (by omega)] at h1; exact h1
      clear hrd
      go_wp2
      go_ret
      exact ⟨by rw [← HE.out]; rfl, q.below⟩

theorem anyBad_any (A : Option Addr) (c : Nat) (l : List Ph) (w : World) (h : PhsR w w.heap.size A l) :
    Calls Tryz.prog 56 #[.slice A l.length c, .func (.func 57) #[] #[]] w fun e w' => e = .returned (.bool (l.any fun x => !x.ok)) ∧ Below w.heap.size w w' := by
  have hi := idxBad_any A c l w h
  have HA : Hid (decide (0 ≤ idxFrom (fun x : Ph => !x.ok) 0 l) = l.any fun x => !x.ok) := idxFrom_any _ l 0
  generalize idxFrom (fun x : Ph => !x.ok) 0 l = v at hi HA
  go_enter Tryz.func56, Tryz.ntmps56
  go_wp2_with fail
  refine hi.mono ?_
  rintro e w1 ⟨rfl, hb1⟩
  go_wp2
  go_ret
  exact ⟨by rw [← HA.out]; rfl, hb1⟩

theorem any_bad (l : List Ph) : (l.any fun x => !x.ok) = !(l.all Ph.ok) := by
  induction l with
  | nil => rfl
  | cons x l ih => rw [List.any_cons, List.all_cons, ih]; cases x.ok <;> simp

theorem arePhrases_any (A : Option Addr) (c : Nat) (l : List Ph) (w : World) (h : PhsR w w.heap.size A l) :
    Calls Tryz.prog 34 #[.slice A l.length c] w fun e w' => e = .returned (.bool (goodPhs l)) ∧ Below w.heap.size w w' := by
  have hl := h.slc.big
  by_cases h10 : l.length ≤ 10
  · have hc := anyBad_any A c l w h
    have HR : Hid (goodPhs l = !(l.any fun x => !x.ok)) := by unfold Hid goodPhs; rw [decide_eq_true h10, any_bad]; simp
    generalize (l.any fun x => !x.ok) = v at hc HR
    cases v
    all_goals
      go_enter Tryz.func34, Tryz.ntmps34
      go_wp2_with fail
      refine hc.mono ?_
      rintro e w1 ⟨rfl, hb1⟩
      go_wp2
      go_ret
      exact ⟨by rw [HR.out]; rfl, hb1⟩
  · have HR : Hid (goodPhs l = false) := bad_len (by omega)
    go_enter Tryz.func34, Tryz.ntmps34
    go_wp2
    go_ret
    exact ⟨by rw [HR.out]; rfl, Below.refl _ _⟩
end Go.Proofs.YtchkjiadnackaaaGreatDoor

/- Are two phrases alike? In the reference and in the program (slices.Equal). -/
namespace Go.Proofs.YtchkjiadnackaaaGreatDoor
open Go.RowKit

/-- The same state, faults and price. -/
def Ph.alike (x y : Ph) : Bool := decide (x.s = y.s) && sameInts x.f y.f && decide (x.p = y.p)

end Go.Proofs.YtchkjiadnackaaaGreatDoor

/- Merging phrases that are alike: the plain law. -/
namespace Go.Proofs.YtchkjiadnackaaaGreatDoor
open Go.RowKit

abbrev PhD := Int × Int × List Int × Int
def alikeD (a b : PhD) : Bool := decide (a.1 = b.1) && decide (a.2.2.1 = b.2.2.1) && decide (a.2.2.2 = b.2.2.2)
theorem Ph.alike_ph (x y : Ph) : Ph.alike x y = alikeD x.ph y.ph := by unfold Ph.alike alikeD Ph.ph sameInts; rfl
theorem alikeD_iff {a b : PhD} : alikeD a b = true ↔ a.1 = b.1 ∧ a.2.2.1 = b.2.2.1 ∧ a.2.2.2 = b.2.2.2 := by unfold alikeD; simp [Bool.and_eq_true, and_assoc]
theorem alikeD_symm (a b : PhD) : alikeD a b = alikeD b a := by
  rw [Bool.eq_iff_iff, alikeD_iff, alikeD_iff]
  constructor <;> (rintro ⟨h1, h2, h3⟩; exact ⟨h1.symm, h2.symm, h3.symm⟩)
theorem alikeD_trans {a b c : PhD} (h : alikeD a b = true) (h' : alikeD a c = true) : alikeD b c = true := by
  rw [alikeD_iff] at *
  exact ⟨h.1.symm.trans h'.1, h.2.1.symm.trans h'.2.1, h.2.2.symm.trans h'.2.2⟩

/-- The copies of the one at place i grow by c. -/
def addAt (c : Int) : Nat → List PhD → List PhD
  | _, [] => []
  | 0, q :: l => (q.1, q.2.1 + c, q.2.2) :: l
  | i + 1, q :: l => q :: addAt c i l
theorem addAt_len (c : Int) : ∀ (i : Nat) (l : List PhD), (addAt c i l).length = l.length
  | _, [] => by cases ‹Nat› <;> rfl
  | 0, _ :: _ => rfl
  | i + 1, _ :: l => by simp [addAt, addAt_len c i l]
/-- Step: p is put to the first one alike, or behind. -/
def putD (out : List PhD) (p : PhD) : List PhD := if idxFrom (alikeD p) 0 out < 0 then out ++ [p] else addAt p.2.1 (idxFrom (alikeD p) 0 out).toNat out
def mergeD (l : List PhD) : List PhD := l.foldl putD []

/-- No two are alike. -/
def Apart (l : List PhD) : Prop := l.Pairwise fun a b => alikeD a b = false
theorem addAt_keys {p : PhD → Prop} (hp : ∀ a b : PhD, alikeD a b = true → (p a ↔ p b)) (c : Int) : ∀ (i : Nat) (l : List PhD), (∀ x ∈ addAt c i l, p x) ↔ ∀ x ∈ l, p x
  | _, [] => by cases ‹Nat› <;> simp [addAt]
  | 0, q :: l => by
    have := hp q (q.1, q.2.1 + c, q.2.2) (alikeD_iff.2 ⟨rfl, rfl, rfl⟩)
    simp [addAt, this]
  | i + 1, q :: l => by
    simp only [addAt, List.mem_cons, forall_eq_or_imp]
    rw [addAt_keys hp c i l]
theorem alikeD_same {a b x : PhD} (h : alikeD a b = true) : alikeD x a = alikeD x b := by
  rw [Bool.eq_iff_iff]
  constructor
  · intro h'; exact alikeD_trans (alikeD_symm x a ▸ h') h
  · intro h'; exact alikeD_trans (alikeD_symm x b ▸ h') (alikeD_symm a b ▸ h)
theorem Apart.add {l : List PhD} (h : Apart l) (c : Int) : ∀ i, Apart (addAt c i l) := by
  induction l with
  | nil => intro i; cases i <;> exact h
  | cons q l ih =>
    unfold Apart at h
    rw [List.pairwise_cons] at h
    intro i
    cases i with
    | zero =>
      unfold Apart addAt
      rw [List.pairwise_cons]
      refine ⟨fun b hb => ?_, h.2⟩
      have := h.1 b hb
      rw [alikeD_symm] at this ⊢
      rw [← this]
      exact (alikeD_same (alikeD_iff.2 ⟨rfl, rfl, rfl⟩)).symm
    | succ i =>
      unfold Apart addAt
      rw [List.pairwise_cons]
      refine ⟨?_, ih h.2 i⟩
      exact (addAt_keys (p := fun b => alikeD q b = false) (fun a b hab => by rw [alikeD_same hab]) c i l).2 h.1
theorem idx_neg {α : Type} {f : α → Bool} : ∀ (l : List α) (k : Nat), idxFrom f k l < 0 → ∀ x ∈ l, f x = false
  | [], _, _, _, hx => by cases hx
  | y :: l, k, h, x, hx => by
    unfold idxFrom at h
    split at h
    · omega
    · rename_i hy
      rcases List.mem_cons.1 hx with rfl | hx'
      · simpa using hy
      · exact idx_neg l (k + 1) h x hx'
theorem Apart.put {l : List PhD} (h : Apart l) (p : PhD) : Apart (putD l p) := by
  unfold putD
  split
  · rename_i hn
    unfold Apart
    rw [List.pairwise_append]
    refine ⟨h, List.pairwise_singleton _ _, fun a ha b hb => ?_⟩
    rw [List.mem_singleton] at hb; subst hb
    rw [alikeD_symm]; exact idx_neg l 0 hn a ha
  · exact h.add _ _

/-- The last one alike among the first k. -/
def lastTo (p : PhD) (out : List PhD) : Nat → Int
  | 0 => -1
  | k + 1 => if h : k < out.length then (if alikeD out[k] p = true then (k : Int) else lastTo p out k) else lastTo p out k
theorem lastTo_bounds (p : PhD) (out : List PhD) : ∀ k, -1 ≤ lastTo p out k ∧ lastTo p out k < k ∧ lastTo p out k < (out.length : Int)
  | 0 => by simp [lastTo]; omega
  | k + 1 => by
    have := lastTo_bounds p out k
    unfold lastTo
    split
    · split <;> omega
    · omega
theorem lastTo_none {p : PhD} {out : List PhD} : ∀ k, (∀ x ∈ out, alikeD p x = false) → lastTo p out k = -1
  | 0, _ => rfl
  | k + 1, h => by
    unfold lastTo
    split
    · rename_i hk
      rw [alikeD_symm, h _ (List.getElem_mem hk)]
      simpa using lastTo_none k h
    · exact lastTo_none k h
theorem idx_spec {α : Type} {f : α → Bool} : ∀ (l : List α) (k : Nat), (idxFrom f k l = -1 ∧ ∀ x ∈ l, f x = false) ∨ ∃ i, ∃ h : i < l.length, idxFrom f k l = ((k + i : Nat) : Int) ∧ f l[i] = true
  | [], k => .inl ⟨rfl, by simp⟩
  | y :: l, k => by
    unfold idxFrom
    split
    · rename_i hy; exact .inr ⟨0, by simp, by simp, by simpa using hy⟩
    · rename_i hy
      rcases idx_spec (f := f) l (k + 1) with ⟨h1, h2⟩ | ⟨i, hi, h1, h2⟩
      · refine .inl ⟨h1, fun x hx => ?_⟩
        rcases List.mem_cons.1 hx with rfl | hx'
        · simpa using hy
        · exact h2 x hx'
      · exact .inr ⟨i + 1, by simpa using hi, by rw [h1]; congr 1; omega, by simpa using h2⟩
theorem lastTo_only {p : PhD} {out : List PhD} (h : Apart out) {i : Nat} (hi : i < out.length) (ha : alikeD p out[i] = true) : ∀ k, i < k → lastTo p out k = i
  | 0, hk => absurd hk (by omega)
  | k + 1, hk => by
    unfold lastTo
    by_cases hki : k = i
    · subst hki; rw [dif_pos hi, alikeD_symm, ha]; simp
    · have ih := lastTo_only h hi ha k (by omega)
      split
      · rename_i hkl
        have hne : alikeD out[k] p = false := by
          rcases hb : alikeD out[k] p with _ | _
          · rfl
          · exfalso
            rw [alikeD_symm] at hb
            have h1 := alikeD_trans ha hb
            have h2 := List.pairwise_iff_getElem.1 h i k hi hkl (by omega)
            rw [h1] at h2; cases h2
        rw [hne]; simpa using ih
      · exact ih
theorem lastTo_idx {p : PhD} {out : List PhD} (h : Apart out) : lastTo p out out.length = idxFrom (alikeD p) 0 out := by
  rcases idx_spec (f := alikeD p) out 0 with ⟨h1, h2⟩ | ⟨i, hi, h1, h2⟩
  · rw [h1]; exact lastTo_none _ h2
  · rw [h1, Nat.zero_add]; exact lastTo_only h hi h2 _ hi

/-- The phrases, and whether they are valid. -/
def okD (a : PhD) : Bool := inR a.1 1 3 && inR a.2.1 1 99 && rises 1 9 a.2.2.1 && inR a.2.2.2 0 999999
theorem ok_okD (x : Ph) : x.ok = okD x.ph := rfl
def goodD (l : List PhD) : Bool := decide (l.length ≤ 10) && l.all okD
theorem good_goodD (l : List Ph) : goodPhs l = goodD (l.map Ph.ph) := by
  unfold goodPhs goodD
  rw [List.length_map, List.all_map]; rfl
/-- What MergeAlike answers. -/
def mergeA (l : List PhD) : List PhD × Bool := if goodD l = true then (if goodD (mergeD l) = true then (mergeD l, true) else ([], false)) else ([], false)

theorem rises_len9 {lo hi : Int} : ∀ {l : List Int} {n : Nat} {p : Int}, riseFrom lo hi (n + 1) p l = true → lo ≤ p → (l.length : Int) ≤ hi - p ∨ l = []
  | [], _, _, _, _ => .inr rfl
  | x :: l, n, p, h, hp => by
    simp only [riseFrom, Bool.and_eq_true, inR_iff, Bool.or_eq_true, decide_eq_true_eq] at h
    obtain ⟨⟨⟨h1, h2⟩, h3⟩, h4⟩ := h
    have h5 : p < x := by omega
    left
    rcases rises_len9 h4 (by omega) with h6 | h6
    · simp only [List.length_cons]; omega
    · rw [h6]; simp; omega
theorem faults9 {l : List Int} (h : rises 1 9 l = true) : l.length ≤ 9 := by
  cases l with
  | nil => simp
  | cons x l =>
    unfold rises at h
    simp only [riseFrom, Bool.and_eq_true, inR_iff] at h
    rcases rises_len9 h.2 (by omega) with h1 | h1
    · simp only [List.length_cons]; omega
    · rw [h1]; simp
/-- Bounds while merging. -/
def Slim (n : Nat) (l : List PhD) : Prop := l.length ≤ n ∧ ∀ q ∈ l, 0 ≤ q.2.1 ∧ q.2.1 ≤ 99 * (n : Int) ∧ q.2.2.1.length ≤ 9
theorem slim_add {c : Int} {b : Int} (hc : 0 ≤ c ∧ c ≤ 99) : ∀ (i : Nat) (l : List PhD), (∀ q ∈ l, 0 ≤ q.2.1 ∧ q.2.1 ≤ b ∧ q.2.2.1.length ≤ 9) → ∀ q ∈ addAt c i l, 0 ≤ q.2.1 ∧ q.2.1 ≤ b + 99 ∧ q.2.2.1.length ≤ 9
  | i, [], _, q, hq => by cases i <;> simp [addAt] at hq
  | 0, x :: l, h, q, hq => by
    simp only [addAt, List.mem_cons] at hq
    rcases hq with rfl | hq
    · have := h x (List.mem_cons_self ..); simp only; omega
    · have := h q (List.mem_cons_of_mem _ hq); omega
  | i + 1, x :: l, h, q, hq => by
    simp only [addAt, List.mem_cons] at hq
    rcases hq with rfl | hq
    · have := h q (List.mem_cons_self ..); omega
    · exact slim_add hc i l (fun y hy => h y (List.mem_cons_of_mem _ hy)) q hq
theorem Slim.put {n : Nat} {l : List PhD} (h : Slim n l) {p : PhD} (hc : 0 ≤ p.2.1 ∧ p.2.1 ≤ 99) (hf : p.2.2.1.length ≤ 9) : Slim (n + 1) (putD l p) := by
  obtain ⟨h1, h2⟩ := h
  unfold putD
  split
  · refine ⟨by simp; omega, fun q hq => ?_⟩
    rcases List.mem_append.1 hq with hq | hq
    · have := h2 q hq; omega
    · rw [List.mem_singleton] at hq; subst hq; omega
  · refine ⟨by rw [addAt_len]; omega, fun q hq => ?_⟩
    have := slim_add hc _ l h2 q hq
    omega
theorem putD_new {out : List PhD} {p : PhD} (h : idxFrom (alikeD p) 0 out < 0) : putD out p = out ++ [p] := by unfold putD; rw [if_pos h]
theorem putD_old {out : List PhD} {p : PhD} {i : Nat} (h : idxFrom (alikeD p) 0 out = i) : putD out p = addAt p.2.1 i out := by unfold putD; rw [if_neg (by omega), h, Int.toNat_natCast]
theorem addAt_split {c : Int} : ∀ (i : Nat) (l : List PhD) (h : i < l.length), addAt c i l = l.take i ++ (l[i].1, l[i].2.1 + c, l[i].2.2) :: l.drop (i + 1)
  | 0, q :: l, _ => by simp [addAt]
  | i + 1, q :: l, h => by simp only [addAt, List.take_succ_cons, List.cons_append, List.getElem_cons_succ, List.drop_succ_cons]; rw [addAt_split i l (by simpa using h)]
theorem fsum_le9 : ∀ m : List Ph, (∀ x ∈ m, x.f.length ≤ 9) → fsum m ≤ 9 * m.length
  | [], _ => by simp [fsum]
  | x :: m, h => by
    have h1 := h x (List.mem_cons_self ..)
    have h2 := fsum_le9 m fun y hy => h y (List.mem_cons_of_mem _ hy)
    simp only [fsum, List.length_cons]; omega
theorem need_goodD {m : List Ph} {R : List PhD} (hm : m.map Ph.ph = R) (h : goodD R = true) : need m ≤ 1048576 := by
  subst hm
  unfold goodD at h
  simp only [Bool.and_eq_true, List.length_map] at h
  have h1 := of_decide_eq_true h.1
  have h2 := fsum_le9 m fun x hx => by
    have := List.all_eq_true.1 h.2 x.ph (List.mem_map.2 ⟨x, hx, rfl⟩)
    unfold okD at this
    simp only [Bool.and_eq_true] at this
    exact faults9 this.1.2
  unfold need; omega
theorem mergeA_good (l : List PhD) : goodD (mergeA l).1 = true := by
  unfold mergeA
  split
  · split
    · assumption
    · rfl
  · rfl
end Go.Proofs.YtchkjiadnackaaaGreatDoor
