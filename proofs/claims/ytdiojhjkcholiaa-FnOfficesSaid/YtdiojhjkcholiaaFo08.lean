/- Fo08: the texts DrawStep, joined into one file. -/
import Derived.Test.YtdiojhjkcholiaaFo05
import Derived.Test.YtdiojhjkcholiaaFo07

/- The reference draws a step of an office. (Printed by gen_ostep.py) -/
namespace Go.Proofs.Ytdiojhjkcholiaa
open Go.RowKit

/-- What stands while a step of the office x is drawn, from the world W of the call. -/
structure OSt (w W wx : World) (g : Nat) (A : Option Addr) (bs : List UInt8) (cap m : Nat) (x : Off) (h5 h6 : Nat) : Prop where
  env : Env w wx g A bs cap m
  bx : Lies wx W.heap.size 25 [.slice x.TA x.t.length x.tc, .slice x.OA x.o.length x.oc, .int .i64 x.got, .int .i64 x.sold, .int .i64 x.missed]
  out : Lies wx (W.heap.size + 1) 45 [.int .i64 0, .int .i64 0, .int .i64 0, .int .i64 0]
  tr : ∃ a b : Int, Lies wx h5 74 [.int .i64 a, .int .i64 b]
  ou : ∃ a b c : Int, Lies wx h6 100 [.int .i64 a, .int .i64 b, .int .i64 c]
  rx : OffR wx wx.heap.size x
  gr : W.grownBy wx (some g)
  l1 : W.heap.size + 1 < h5
  l2 : h5 < h6
  lt : g < W.heap.size
theorem OSt.mono {w W wx : World} {g : Nat} {A : Option Addr} {bs : List UInt8} {cap m m' : Nat} {x : Off} {h5 h6 : Nat} (h : OSt w W wx g A bs cap m x h5 h6) (hm : m ≤ m') : OSt w W wx g A bs cap m' x h5 h6 := { h with env := h.env.mono hm }

set_option maxRecDepth 100000 in
set_option maxHeartbeats 8000000 in
set_option linter.unusedVariables false in
theorem officeStep_any (x : Off) (g : Nat) (A : Option Addr) (bs : List UInt8) (cap m : Nat) (w W : World) (hm : m ≤ 800000000) (ht : x.t.length ≤ 100000) (ho : x.o.length ≤ 100000) (E0 : Env w W g A bs cap m) (hR : OffR W W.heap.size x) (hxt : ∀ b, x.TA.map (·.block) = some b → b ≠ g) (hxo : ∀ b, x.OA.map (·.block) = some b → b ≠ g) :
    Calls Try.prog 58 #[.pointer (some ⟨g, 0, none⟩), x.val] W fun e w' => ∃ s : Stp, e = .returned s.val ∧ Env w w' g A bs cap (m + 100) ∧ W.grownBy w' (some g) := by
  have hl1 := hR.ts.big
  have hl2 := hR.os.big
  have hB := E0.lt
  have hwW := E0.gr.size
  have L3 := (Lies.new W 25 #[.slice x.TA x.t.length x.tc, .slice x.OA x.o.length x.oc, .int .i64 x.got, .int .i64 x.sold, .int .i64 x.missed]).alloc (.cells #[.int .i64 0, .int .i64 0, .int .i64 0, .int .i64 0] 45)
  have L4 := Lies.new1 W (.cells #[.slice x.TA x.t.length x.tc, .slice x.OA x.o.length x.oc, .int .i64 x.got, .int .i64 x.sold, .int .i64 x.missed] 25) 45 #[.int .i64 0, .int .i64 0, .int .i64 0, .int .i64 0]
  have E2 := (E0.alloc (.cells #[.slice x.TA x.t.length x.tc, .slice x.OA x.o.length x.oc, .int .i64 x.got, .int .i64 x.sold, .int .i64 x.missed] 25)).alloc (.cells #[.int .i64 0, .int .i64 0, .int .i64 0, .int .i64 0] 45)
  have hal : Below W.heap.size W ((W.alloc (.cells #[.slice x.TA x.t.length x.tc, .slice x.OA x.o.length x.oc, .int .i64 x.got, .int .i64 x.sold, .int .i64 x.missed] 25)).alloc (.cells #[.int .i64 0, .int .i64 0, .int .i64 0, .int .i64 0] 45)) := ((Below.refl W.heap.size W).alloc (Nat.le_refl _) (.cells #[.slice x.TA x.t.length x.tc, .slice x.OA x.o.length x.oc, .int .i64 x.got, .int .i64 x.sold, .int .i64 x.missed] 25)).alloc (by simp) (.cells #[.int .i64 0, .int .i64 0, .int .i64 0, .int .i64 0] 45)
  have G2 : W.grownBy ((W.alloc (.cells #[.slice x.TA x.t.length x.tc, .slice x.OA x.o.length x.oc, .int .i64 x.got, .int .i64 x.sold, .int .i64 x.missed] 25)).alloc (.cells #[.int .i64 0, .int .i64 0, .int .i64 0, .int .i64 0] 45)) (some g) := grownAny hal _
  have R2 := hR.up hal (Nat.le_refl _)
  have hsz : ((W.alloc (.cells #[.slice x.TA x.t.length x.tc, .slice x.OA x.o.length x.oc, .int .i64 x.got, .int .i64 x.sold, .int .i64 x.missed] 25)).alloc (.cells #[.int .i64 0, .int .i64 0, .int .i64 0, .int .i64 0] 45)).heap.size = W.heap.size + 1 + 1 := by simp
  clear hal
  go_enter Try.func58, Try.ntmps58
  go_upto_region 1 with fail
  generalize ((W.alloc (.cells #[.slice x.TA x.t.length x.tc, .slice x.OA x.o.length x.oc, .int .i64 x.got, .int .i64 x.sold, .int .i64 x.missed] 25)).alloc (.cells #[.int .i64 0, .int .i64 0, .int .i64 0, .int .i64 0] 45)) = W2 at L3 L4 E2 G2 R2 hsz ⊢
  have HS := Lib.hid hsz
  have HXT := Lib.hid hxt
  have HXO := Lib.hid hxo
  have HE0 := Lib.hid E0
  have HR := Lib.hid hR
  clear hsz hxt hxo E0 hR
  go_cut [5, 6] (fun s5 s6 wx => ∃ h5 h6 : Nat, s5 = .pointer (some ⟨h5, 0, none⟩) ∧ s6 = .pointer (some ⟨h6, 0, none⟩) ∧ OSt w W wx g A bs cap (m + 2) x h5 h6)
  case first =>
    go_wp2_with fail
    refine (among_env E2 [1, 7] 2 rfl _ rfl (by omega) (by omega) (by omega)).mono ?_
    rintro e W3 ⟨z, rfl, hz, E3, gr⟩
    have M3 := L3.kept gr (by intro e; injection e; omega)
    have M4 := L4.kept gr (by intro e; injection e; omega)
    have g3 := gr.size
    go_wp2_with fail
    go_meet
    case rel =>
      have HL := (Lies.new W3 74 #[.int .i64 z, .int .i64 3]).alloc (.cells #[.int .i64 1, .int .i64 5, .int .i64 1] 100)
      refine ⟨_, _, rfl, rfl, (E3.alloc _).alloc _, (M3.alloc _).alloc _, (M4.alloc _).alloc _, ⟨_, _, HL⟩, ⟨_, _, _, Lies.new1 W3 _ 100 #[.int .i64 1, .int .i64 5, .int .i64 1]⟩, ?_, grown_alloc (grown_alloc (grown_trans G2 gr) _) _, by have := HS.out; omega, by omega, by omega⟩
      have hal2 : Below W3.heap.size W3 ((W3.alloc (.cells #[.int .i64 z, .int .i64 3] 74)).alloc (.cells #[.int .i64 1, .int .i64 5, .int .i64 1] 100)) := ((Below.refl _ _).alloc (Nat.le_refl _) _).alloc (by simp) _
      exact ⟨SlcR.up (SlcR.gr R2.ts HXT.out gr) hal2 (Nat.le_refl _), SlcR.up (SlcR.gr R2.os HXO.out gr) hal2 (Nat.le_refl _)⟩
  case rest =>
    clear L3 L4 E2 G2 R2 HS
    obtain ⟨h5, h6, rfl, rfl, St⟩ := hcut
    have l1 := St.l1
    have l2 := St.l2
    have nx3 : W.heap.size ∉ [g, h5] := by simp only [List.mem_cons, List.not_mem_nil, or_false]; omega
    have nx4 : W.heap.size + 1 ∉ [g, h5] := by simp only [List.mem_cons, List.not_mem_nil, or_false]; omega
    have nx6 : h6 ∉ [g, h5] := by simp only [List.mem_cons, List.not_mem_nil, or_false]; omega
    have c0 := St.bx.cell 0
    have c1 := St.bx.cell 1
    have c2 := St.bx.cell 2
    have c3 := St.bx.cell 3
    have c4 := St.bx.cell 4
    simp only [List.getElem?_cons_zero, List.getElem?_cons_succ] at c0 c1 c2 c3 c4
    go_upto_if 15 with fail
    go_cut [] (fun wx => OSt w W wx g A bs cap (m + 22) x h5 h6)
    case first =>
      have hXt := rowsX HR.out.ts HXT.out (X := [g, h5]) (by intro k hk hne; simp only [List.mem_cons, List.not_mem_nil, or_false] at hk; omega)
      have hXo := rowsX HR.out.os HXO.out (X := [g, h5]) (by intro k hk hne; simp only [List.mem_cons, List.not_mem_nil, or_false] at hk; omega)
      have HXt := Lib.hid hXt
      have HXo := Lib.hid hXo
      clear hXt hXo
      by_cases h0 : 0 < x.t.length
      · have h0' : (0 : Int) < x.t.length := by omega
        obtain ⟨b, off, hA, hb, _⟩ := HR.out.ts.at_ h0
        have HA := Lib.hid hA
        clear hA
        obtain ⟨t1, t2, LV⟩ := St.tr
        go_wp2_with fail
        have H0 := Lib.hid h0
        clear h0 h0'
        generalize decide (0 < x.t.length) = d15
        refine wp_region_factsR (Dr w wc g A bs cap (m + 2) 2 10 [g, h5] [Room.lies 9 h5 74 [.int .i64 t1, .int .i64 t2]]) (fun i w1 w2 => i ∉ [9] → w1.grownBy w2 (some g)) (by kernel_rfl) (by kernel_rfl) (by kernel_rfl) (Dr.start St.env (fun p hp => by simp only [List.mem_singleton] at hp; subst hp; exact ⟨(by intro e; injection e; omega), LV⟩)) ?_
        simp only [fillOps, Act.put, List.setIfInBounds_toArray, List.set_cons_zero, List.set_cons_succ, Nat.zero_add, Nat.reduceAdd]
        apply wpFactsR_val
        case h1 =>
          intro vs L9 w9 hG9 hC9 hB K9 hK9
          simp only [Act.put, List.setIfInBounds_toArray, List.set_cons_zero, List.set_cons_succ] at hK9
          go_simp
          exact hK9 _ _ rfl (hC9.stay hG9.self (by decide)) (fun _ => World.grownBy.refl _ _)
        apply wpFactsR_val
        case h1 =>
          intro vs L9 w9 hG9 hC9 hB K9 hK9
          have d0 := FactN.eq (hB 0 _ (by kernel_rfl) (by kernel_rfl) rfl (by decide))
          simp only [d0] at hK9 ⊢
          have q0 : w9.cell? ⟨W.heap.size, 0, none⟩ = some (.slice (some ⟨b, off, none⟩) x.t.length x.tc) := by rw [← HA.out]; exact (hC9.lies St.bx nx3).cell 0
          simp only [Act.put, List.setIfInBounds_toArray, List.set_cons_zero, List.set_cons_succ] at hK9
          go_simp
          exact hK9 _ _ rfl (hC9.stay hG9.self (by decide)) (fun _ => World.grownBy.refl _ _)
        apply wpFactsR_val
        case h1 =>
          intro vs L9 w9 hG9 hC9 hB K9 hK9
          simp only [Act.put, List.setIfInBounds_toArray, List.set_cons_zero, List.set_cons_succ] at hK9
          go_simp
          exact hK9 _ _ rfl (hC9.stay hG9.self (by decide)) (fun _ => World.grownBy.refl _ _)
        apply wpFactsR_val
        case h1 =>
          intro vs L9 w9 hG9 hC9 hB K9 hK9
          simp only [Act.put, List.setIfInBounds_toArray, List.set_cons_zero, List.set_cons_succ] at hK9
          go_simp
          exact hK9 _ _ rfl (hC9.stay hG9.self (by decide)) (fun _ => World.grownBy.refl _ _)
        apply wpFactsR_val
        case h1 =>
          intro vs L9 w9 hG9 hC9 hB K9 hK9
          have d3 := FactN.eq (hB 3 _ (by kernel_rfl) (by kernel_rfl) rfl (by decide))
          simp only [d3] at hK9 ⊢
          have q0 : w9.cell? ⟨W.heap.size, 0, none⟩ = some (.slice (some ⟨b, off, none⟩) x.t.length x.tc) := by rw [← HA.out]; exact (hC9.lies St.bx nx3).cell 0
          simp only [Act.put, List.setIfInBounds_toArray, List.set_cons_zero, List.set_cons_succ] at hK9
          go_simp
          exact hK9 _ _ rfl (hC9.stay hG9.self (by decide)) (fun _ => World.grownBy.refl _ _)
        apply wpFactsR_val
        case h1 =>
          intro vs L9 w9 hG9 hC9 hB K9 hK9
          have d4 := FactN.eq (hB 4 _ (by kernel_rfl) (by kernel_rfl) rfl (by decide))
          simp only [d4] at hK9 ⊢
          simp only [Act.put, List.setIfInBounds_toArray, List.set_cons_zero, List.set_cons_succ] at hK9
          go_simp
          exact hK9 _ _ rfl (hC9.stay hG9.self (by decide)) (fun _ => World.grownBy.refl _ _)
        refine wpFactsR_some [] (fun v _ => ∃ i : Nat, v = .int .i64 i ∧ i ≤ x.t.length - 1) ?_ (fun vs L9 w9 hG9 hC9 hB K9 hK9 => ?_) ?_
        next =>
          intro i9 hi9 hb9 ha9 v w1 w2 hv hT9
          exact hv
        next =>
          have d2 := FactN.eq (hB 2 _ (by kernel_rfl) (by kernel_rfl) rfl (by decide))
          have d5 := FactN.eq (hB 5 _ (by kernel_rfl) (by kernel_rfl) rfl (by decide))
          simp only [d2, d5] at hK9 ⊢
          simp only [Act.put, List.setIfInBounds_toArray, List.set_cons_zero, List.set_cons_succ] at hK9
          go_simp
          refine (pick_env hC9.env x.t.length (by omega) (by have := hC9.cnt; omega)).mono ?_
          rintro en w8 ⟨x8, rfl, hx8, hE8, hg8⟩
          exact hK9 _ _ _ rfl ⟨_, rfl, hx8⟩ (hC9.call hG9.self (by decide) hE8 (by have := hC9.cnt; omega) hg8 (by simp)) (fun _ => hg8)
        refine wpFactsR_some [] (fun v _ => ∃ i : Nat, v = .pointer (some ⟨b, off + i * 2, none⟩) ∧ i < x.t.length) ?_ (fun vs L9 w9 hG9 hC9 hB K9 hK9 => ?_) ?_
        next =>
          intro i9 hi9 hb9 ha9 v w1 w2 hv hT9
          exact hv
        next =>
          have d1 := FactN.eq (hB 1 _ (by kernel_rfl) (by kernel_rfl) rfl (by decide))
          simp only [d1] at hK9 ⊢
          simp only [Act.put, List.setIfInBounds_toArray, List.set_cons_zero, List.set_cons_succ] at hK9
          obtain ⟨x6, e6, ex6⟩ := hB 6 _ (by kernel_rfl) (by kernel_rfl) rfl (by decide)
          simp only [e6] at hK9 ⊢
          have hx6 : x6 < x.t.length := by have := H0.out; omega
          go_simp
          exact hK9 _ _ _ rfl ⟨x6, rfl, hx6⟩ (hC9.stay hG9.self (by decide)) (fun _ => World.grownBy.refl _ _)
        refine wpFactsR_some [] (fun v _ => ∃ k c : Int, v = .agg #[.int .i64 k, .int .i64 c]) ?_ (fun vs L9 w9 hG9 hC9 hB K9 hK9 => ?_) ?_
        next =>
          intro i9 hi9 hb9 ha9 v w1 w2 hv hT9
          exact hv
        next =>
          simp only [Act.put, List.setIfInBounds_toArray, List.set_cons_zero, List.set_cons_succ] at hK9
          obtain ⟨i7, e7, ei7⟩ := hB 7 _ (by kernel_rfl) (by kernel_rfl) rfl (by decide)
          simp only [e7] at hK9 ⊢
          have hr9 := hC9.reads St.rx.ts HXt.out
          obtain ⟨b9, off9, e0, hb9, hc9⟩ := hr9.at_ H0.out
          have e9 : b9 = b ∧ off9 = off := by rw [HA.out] at e0; injection e0 with e0; injection e0 with q1 q2; exact ⟨q1.symm, q2.symm⟩
          clear e0 hr9
          obtain ⟨rfl, rfl⟩ := e9
          have q0 : w9.cell? ⟨b9, off9 + i7 * 2, none⟩ = some (.int .i64 (x.t[i7]).k) := by have h := hc9 (i7 * 2 + 0) (.int .i64 (x.t[i7]).k) (by rw [flat_at Tray.enc 2 Tray.enc_len x.t i7 ei7 0 (by omega)]; rfl); simpa [Nat.add_assoc] using h
          have q1 : w9.cell? ⟨b9, off9 + i7 * 2 + 1, none⟩ = some (.int .i64 (x.t[i7]).c) := by have h := hc9 (i7 * 2 + 1) (.int .i64 (x.t[i7]).c) (by rw [flat_at Tray.enc 2 Tray.enc_len x.t i7 ei7 1 (by omega)]; rfl); simpa [Nat.add_assoc] using h
          go_simp
          exact hK9 _ _ _ rfl ⟨_, _, rfl⟩ (hC9.stay hG9.self (by decide)) (fun _ => World.grownBy.refl _ _)
        refine wpFactsR_some [] (fun _ w9 => ∃ k8 c8 : Int, Lies w9 h5 74 [.int .i64 k8, .int .i64 c8]) ?_ (fun vs L9 w9 hG9 hC9 hB K9 hK9 => ?_) ?_
        next =>
          intro i9 hi9 hb9 ha9 v w1 w2 hv hT9
          have hb := hT9 (fun hm => by
            simp only [List.mem_cons, List.not_mem_nil, or_false] at hm hb9
            subst hm
            · exact hi9 rfl)
          obtain ⟨k8, c8, q⟩ := hv
          exact ⟨k8, c8, q.kept hb (by intro e; injection e; omega)⟩
        next =>
          simp only [Act.put, List.setIfInBounds_toArray, List.set_cons_zero, List.set_cons_succ] at hK9
          obtain ⟨k8, c8, e8⟩ := hB 8 _ (by kernel_rfl) (by kernel_rfl) rfl (by decide)
          simp only [e8] at hK9 ⊢
          have hL9 : Lies w9 h5 74 [.int .i64 t1, .int .i64 t2] := (hC9.room (Room.lies 9 h5 74 [.int .i64 t1, .int .i64 t2]) (by simp)).2 hG9.self
          have y0 := hL9.cell 0
          have y1 := hL9.cell 1
          simp only [List.getElem?_cons_zero, List.getElem?_cons_succ] at y0 y1
          have f0 := hL9.frozen 0
          have f1 := hL9.frozen 1
          have hN9 : Lies _ h5 74 [.int .i64 k8, .int .i64 c8] := ((hL9.set 0 (.int .i64 k8)).set 1 (.int .i64 c8))
          have hG8 := Lib.hid (grown_set (g := h5) (i := 1) (u := .int .i64 c8) (grown_set (g := h5) (i := 0) (u := .int .i64 k8) (World.grownBy.refl w9 (some h5))))
          have hN8 := Lib.hid hN9
          clear hN9 hL9
          go_simp
          exact hK9 _ undef _ rfl ⟨k8, c8, hN8.out⟩ (hC9.wrote hG9.self (by decide) hG8.out (fun b e => by injection e with e; subst e; exact ⟨(by omega), (by omega), by simp⟩) (by intro p hp e; simp only [List.mem_cons, List.not_mem_nil, or_false] at hp; first | (subst hp; exact .inl rfl) | (rcases hp with rfl | rfl; first | exact .inl rfl | (exfalso; revert e; first | exact HNE.out | simp [Room.lies, Room.row]; first | exact .inl rfl)))) (fun hq => (hq (by decide)).elim)
        refine wpFactsR_nil fun vs Lq w9 hL9 hC9 hB => ?_
        have hS := hB 9 _ rfl rfl (by decide)
        clear hB hL9
        obtain ⟨k8, c8, hS⟩ := hS
        have hSt : OSt w W w9 g A bs cap (m + 22) x h5 h6 := ⟨hC9.le, hC9.lies St.bx nx3, hC9.lies St.out nx4, ⟨_, _, hS⟩, by obtain ⟨a, b, c, h⟩ := St.ou; exact ⟨a, b, c, hC9.lies h nx6⟩, ⟨hC9.reads St.rx.ts HXt.out, hC9.reads St.rx.os HXo.out⟩, drawn_gr St.gr hC9 (by intro k hk hne; simp only [List.mem_cons, List.not_mem_nil, or_false] at hk; omega) St.env, l1, l2, St.lt⟩
        clear hC9 hS
        go_wp2_with fail
        go_meet
        case rel => exact hSt
      · have h0' : ¬ (0 : Int) < x.t.length := by omega
        go_wp2_with fail
        go_meet
        case rel => exact St.mono (by omega)
    case rest =>
      clear c0 c1 c2 c3 c4 St nx3 nx4 nx6
      have St := hcut
      clear hcut
      have nx3 : W.heap.size ∉ [g, h6] := by simp only [List.mem_cons, List.not_mem_nil, or_false]; omega
      have nx4 : W.heap.size + 1 ∉ [g, h6] := by simp only [List.mem_cons, List.not_mem_nil, or_false]; omega
      have nx6 : h5 ∉ [g, h6] := by simp only [List.mem_cons, List.not_mem_nil, or_false]; omega
      have c0 := St.bx.cell 0
      have c1 := St.bx.cell 1
      have c2 := St.bx.cell 2
      have c3 := St.bx.cell 3
      have c4 := St.bx.cell 4
      simp only [List.getElem?_cons_zero, List.getElem?_cons_succ] at c0 c1 c2 c3 c4
      go_upto_if 28 with fail
      go_cut [] (fun wx => OSt w W wx g A bs cap (m + 42) x h5 h6)
      case first =>
        have hXt := rowsX HR.out.ts HXT.out (X := [g, h6]) (by intro k hk hne; simp only [List.mem_cons, List.not_mem_nil, or_false] at hk; omega)
        have hXo := rowsX HR.out.os HXO.out (X := [g, h6]) (by intro k hk hne; simp only [List.mem_cons, List.not_mem_nil, or_false] at hk; omega)
        have HXt := Lib.hid hXt
        have HXo := Lib.hid hXo
        clear hXt hXo
        by_cases h0 : 0 < x.o.length
        · have h0' : (0 : Int) < x.o.length := by omega
          obtain ⟨b, off, hA, hb, _⟩ := HR.out.os.at_ h0
          have HA := Lib.hid hA
          clear hA
          obtain ⟨t1, t2, t3, LV⟩ := St.ou
          go_wp2_with fail
          have H0 := Lib.hid h0
          clear h0 h0'
          generalize decide (0 < x.o.length) = d15
          refine wp_region_factsR (Dr w wc g A bs cap (m + 22) 2 10 [g, h6] [Room.lies 9 h6 100 [.int .i64 t1, .int .i64 t2, .int .i64 t3]]) (fun i w1 w2 => i ∉ [9] → w1.grownBy w2 (some g)) (by kernel_rfl) (by kernel_rfl) (by kernel_rfl) (Dr.start St.env (fun p hp => by simp only [List.mem_singleton] at hp; subst hp; exact ⟨(by intro e; injection e; omega), LV⟩)) ?_
          simp only [fillOps, Act.put, List.setIfInBounds_toArray, List.set_cons_zero, List.set_cons_succ, Nat.zero_add, Nat.reduceAdd]
          apply wpFactsR_val
          case h1 =>
            intro vs L9 w9 hG9 hC9 hB K9 hK9
            simp only [Act.put, List.setIfInBounds_toArray, List.set_cons_zero, List.set_cons_succ] at hK9
            go_simp
            exact hK9 _ _ rfl (hC9.stay hG9.self (by decide)) (fun _ => World.grownBy.refl _ _)
          apply wpFactsR_val
          case h1 =>
            intro vs L9 w9 hG9 hC9 hB K9 hK9
            have d0 := FactN.eq (hB 0 _ (by kernel_rfl) (by kernel_rfl) rfl (by decide))
            simp only [d0] at hK9 ⊢
            have q0 : w9.cell? ⟨W.heap.size, 1, none⟩ = some (.slice (some ⟨b, off, none⟩) x.o.length x.oc) := by rw [← HA.out]; exact (hC9.lies St.bx nx3).cell 1
            simp only [Act.put, List.setIfInBounds_toArray, List.set_cons_zero, List.set_cons_succ] at hK9
            go_simp
            exact hK9 _ _ rfl (hC9.stay hG9.self (by decide)) (fun _ => World.grownBy.refl _ _)
          apply wpFactsR_val
          case h1 =>
            intro vs L9 w9 hG9 hC9 hB K9 hK9
            simp only [Act.put, List.setIfInBounds_toArray, List.set_cons_zero, List.set_cons_succ] at hK9
            go_simp
            exact hK9 _ _ rfl (hC9.stay hG9.self (by decide)) (fun _ => World.grownBy.refl _ _)
          apply wpFactsR_val
          case h1 =>
            intro vs L9 w9 hG9 hC9 hB K9 hK9
            simp only [Act.put, List.setIfInBounds_toArray, List.set_cons_zero, List.set_cons_succ] at hK9
            go_simp
            exact hK9 _ _ rfl (hC9.stay hG9.self (by decide)) (fun _ => World.grownBy.refl _ _)
          apply wpFactsR_val
          case h1 =>
            intro vs L9 w9 hG9 hC9 hB K9 hK9
            have d3 := FactN.eq (hB 3 _ (by kernel_rfl) (by kernel_rfl) rfl (by decide))
            simp only [d3] at hK9 ⊢
            have q0 : w9.cell? ⟨W.heap.size, 1, none⟩ = some (.slice (some ⟨b, off, none⟩) x.o.length x.oc) := by rw [← HA.out]; exact (hC9.lies St.bx nx3).cell 1
            simp only [Act.put, List.setIfInBounds_toArray, List.set_cons_zero, List.set_cons_succ] at hK9
            go_simp
            exact hK9 _ _ rfl (hC9.stay hG9.self (by decide)) (fun _ => World.grownBy.refl _ _)
          apply wpFactsR_val
          case h1 =>
            intro vs L9 w9 hG9 hC9 hB K9 hK9
            have d4 := FactN.eq (hB 4 _ (by kernel_rfl) (by kernel_rfl) rfl (by decide))
            simp only [d4] at hK9 ⊢
            simp only [Act.put, List.setIfInBounds_toArray, List.set_cons_zero, List.set_cons_succ] at hK9
            go_simp
            exact hK9 _ _ rfl (hC9.stay hG9.self (by decide)) (fun _ => World.grownBy.refl _ _)
          refine wpFactsR_some [] (fun v _ => ∃ i : Nat, v = .int .i64 i ∧ i ≤ x.o.length - 1) ?_ (fun vs L9 w9 hG9 hC9 hB K9 hK9 => ?_) ?_
          next =>
            intro i9 hi9 hb9 ha9 v w1 w2 hv hT9
            exact hv
          next =>
            have d2 := FactN.eq (hB 2 _ (by kernel_rfl) (by kernel_rfl) rfl (by decide))
            have d5 := FactN.eq (hB 5 _ (by kernel_rfl) (by kernel_rfl) rfl (by decide))
            simp only [d2, d5] at hK9 ⊢
            simp only [Act.put, List.setIfInBounds_toArray, List.set_cons_zero, List.set_cons_succ] at hK9
            go_simp
            refine (pick_env hC9.env x.o.length (by omega) (by have := hC9.cnt; omega)).mono ?_
            rintro en w8 ⟨x8, rfl, hx8, hE8, hg8⟩
            exact hK9 _ _ _ rfl ⟨_, rfl, hx8⟩ (hC9.call hG9.self (by decide) hE8 (by have := hC9.cnt; omega) hg8 (by simp)) (fun _ => hg8)
          refine wpFactsR_some [] (fun v _ => ∃ i : Nat, v = .pointer (some ⟨b, off + i * 3, none⟩) ∧ i < x.o.length) ?_ (fun vs L9 w9 hG9 hC9 hB K9 hK9 => ?_) ?_
          next =>
            intro i9 hi9 hb9 ha9 v w1 w2 hv hT9
            exact hv
          next =>
            have d1 := FactN.eq (hB 1 _ (by kernel_rfl) (by kernel_rfl) rfl (by decide))
            simp only [d1] at hK9 ⊢
            simp only [Act.put, List.setIfInBounds_toArray, List.set_cons_zero, List.set_cons_succ] at hK9
            obtain ⟨x6, e6, ex6⟩ := hB 6 _ (by kernel_rfl) (by kernel_rfl) rfl (by decide)
            simp only [e6] at hK9 ⊢
            have hx6 : x6 < x.o.length := by have := H0.out; omega
            go_simp
            exact hK9 _ _ _ rfl ⟨x6, rfl, hx6⟩ (hC9.stay hG9.self (by decide)) (fun _ => World.grownBy.refl _ _)
          refine wpFactsR_some [] (fun v _ => ∃ k p c : Int, v = .agg #[.int .i64 k, .int .i64 p, .int .i64 c]) ?_ (fun vs L9 w9 hG9 hC9 hB K9 hK9 => ?_) ?_
          next =>
            intro i9 hi9 hb9 ha9 v w1 w2 hv hT9
            exact hv
          next =>
            simp only [Act.put, List.setIfInBounds_toArray, List.set_cons_zero, List.set_cons_succ] at hK9
            obtain ⟨i7, e7, ei7⟩ := hB 7 _ (by kernel_rfl) (by kernel_rfl) rfl (by decide)
            simp only [e7] at hK9 ⊢
            have hr9 := hC9.reads St.rx.os HXo.out
            obtain ⟨b9, off9, e0, hb9, hc9⟩ := hr9.at_ H0.out
            have e9 : b9 = b ∧ off9 = off := by rw [HA.out] at e0; injection e0 with e0; injection e0 with q1 q2; exact ⟨q1.symm, q2.symm⟩
            clear e0 hr9
            obtain ⟨rfl, rfl⟩ := e9
            have q0 : w9.cell? ⟨b9, off9 + i7 * 3, none⟩ = some (.int .i64 (x.o[i7]).k) := by have h := hc9 (i7 * 3 + 0) (.int .i64 (x.o[i7]).k) (by rw [flat_at Outing.enc 3 Outing.enc_len x.o i7 ei7 0 (by omega)]; rfl); simpa [Nat.add_assoc] using h
            have q1 : w9.cell? ⟨b9, off9 + i7 * 3 + 1, none⟩ = some (.int .i64 (x.o[i7]).p) := by have h := hc9 (i7 * 3 + 1) (.int .i64 (x.o[i7]).p) (by rw [flat_at Outing.enc 3 Outing.enc_len x.o i7 ei7 1 (by omega)]; rfl); simpa [Nat.add_assoc] using h
            have q2 : w9.cell? ⟨b9, off9 + i7 * 3 + 2, none⟩ = some (.int .i64 (x.o[i7]).c) := by have h := hc9 (i7 * 3 + 2) (.int .i64 (x.o[i7]).c) (by rw [flat_at Outing.enc 3 Outing.enc_len x.o i7 ei7 2 (by omega)]; rfl); simpa [Nat.add_assoc] using h
            go_simp
            exact hK9 _ _ _ rfl ⟨_, _, _, rfl⟩ (hC9.stay hG9.self (by decide)) (fun _ => World.grownBy.refl _ _)
          refine wpFactsR_some [] (fun _ w9 => ∃ k8 p8 c8 : Int, Lies w9 h6 100 [.int .i64 k8, .int .i64 p8, .int .i64 c8]) ?_ (fun vs L9 w9 hG9 hC9 hB K9 hK9 => ?_) ?_
          next =>
            intro i9 hi9 hb9 ha9 v w1 w2 hv hT9
            have hb := hT9 (fun hm => by
              simp only [List.mem_cons, List.not_mem_nil, or_false] at hm hb9
              subst hm
              · exact hi9 rfl)
            obtain ⟨k8, p8, c8, q⟩ := hv
            exact ⟨k8, p8, c8, q.kept hb (by intro e; injection e; omega)⟩
          next =>
            simp only [Act.put, List.setIfInBounds_toArray, List.set_cons_zero, List.set_cons_succ] at hK9
            obtain ⟨k8, p8, c8, e8⟩ := hB 8 _ (by kernel_rfl) (by kernel_rfl) rfl (by decide)
            simp only [e8] at hK9 ⊢
            have hL9 : Lies w9 h6 100 [.int .i64 t1, .int .i64 t2, .int .i64 t3] := (hC9.room (Room.lies 9 h6 100 [.int .i64 t1, .int .i64 t2, .int .i64 t3]) (by simp)).2 hG9.self
            have y0 := hL9.cell 0
            have y1 := hL9.cell 1
            have y2 := hL9.cell 2
            simp only [List.getElem?_cons_zero, List.getElem?_cons_succ] at y0 y1 y2
            have f0 := hL9.frozen 0
            have f1 := hL9.frozen 1
            have f2 := hL9.frozen 2
            have hN9 : Lies _ h6 100 [.int .i64 k8, .int .i64 p8, .int .i64 c8] := (((hL9.set 0 (.int .i64 k8)).set 1 (.int .i64 p8)).set 2 (.int .i64 c8))
            have hG8 := Lib.hid (grown_set (g := h6) (i := 2) (u := .int .i64 c8) (grown_set (g := h6) (i := 1) (u := .int .i64 p8) (grown_set (g := h6) (i := 0) (u := .int .i64 k8) (World.grownBy.refl w9 (some h6)))))
            have hN8 := Lib.hid hN9
            clear hN9 hL9
            go_simp
            exact hK9 _ undef _ rfl ⟨k8, p8, c8, hN8.out⟩ (hC9.wrote hG9.self (by decide) hG8.out (fun b e => by injection e with e; subst e; exact ⟨(by omega), (by omega), by simp⟩) (by intro p hp e; simp only [List.mem_cons, List.not_mem_nil, or_false] at hp; first | (subst hp; exact .inl rfl) | (rcases hp with rfl | rfl; first | exact .inl rfl | (exfalso; revert e; first | exact HNE.out | simp [Room.lies, Room.row]; first | exact .inl rfl)))) (fun hq => (hq (by decide)).elim)
          refine wpFactsR_nil fun vs Lq w9 hL9 hC9 hB => ?_
          have hS := hB 9 _ rfl rfl (by decide)
          clear hB hL9
          obtain ⟨k8, p8, c8, hS⟩ := hS
          have hSt : OSt w W w9 g A bs cap (m + 42) x h5 h6 := ⟨hC9.le, hC9.lies St.bx nx3, hC9.lies St.out nx4, by obtain ⟨a, b, h⟩ := St.tr; exact ⟨a, b, hC9.lies h nx6⟩, ⟨_, _, _, hS⟩, ⟨hC9.reads St.rx.ts HXt.out, hC9.reads St.rx.os HXo.out⟩, drawn_gr St.gr hC9 (by intro k hk hne; simp only [List.mem_cons, List.not_mem_nil, or_false] at hk; omega) St.env, l1, l2, St.lt⟩
          clear hC9 hS
          go_wp2_with fail
          go_meet
          case rel => exact hSt
        · have h0' : ¬ (0 : Int) < x.o.length := by omega
          go_wp2_with fail
          go_meet
          case rel => exact St.mono (by omega)
      case rest =>
        clear c0 c1 c2 c3 c4 St nx3 nx4 nx6
        have St := hcut
        clear hcut
        have nx3 : W.heap.size ∉ [g, W.heap.size + 1] := by simp only [List.mem_cons, List.not_mem_nil, or_false]; omega
        have nx5 : h5 ∉ [g, W.heap.size + 1] := by simp only [List.mem_cons, List.not_mem_nil, or_false]; omega
        have nx6 : h6 ∉ [g, W.heap.size + 1] := by simp only [List.mem_cons, List.not_mem_nil, or_false]; omega
        go_wp2_with fail
        refine (one_env St.env 40 (by omega) (by omega)).mono ?_
        rintro e W3 ⟨yes, rfl, E3, gr3⟩
        have ng : Hid (∀ k, k ≠ g → some k ≠ some g) := fun k hk e => by injection e with e; exact hk e
        have L3 := St.bx.kept gr3 (ng.out _ (by omega))
        have L4 := St.out.kept gr3 (ng.out _ (by omega))
        obtain ⟨ta, tb, L5⟩ := St.tr
        obtain ⟨oa, ob, oc', L6⟩ := St.ou
        have L5 := L5.kept gr3 (ng.out _ (by omega))
        have L6 := L6.kept gr3 (ng.out _ (by omega))
        have G := grown_trans St.gr gr3
        clear St gr3
        cases yes
        · go_wp2_with fail
          refine (pick_env E3 14 (by omega) (by omega)).mono ?_
          rintro e W4 ⟨i, rfl, hi, E4, gr4⟩
          have L3 := L3.kept gr4 (ng.out _ (by omega))
          have L4 := L4.kept gr4 (ng.out _ (by omega))
          have L5 := L5.kept gr4 (ng.out _ (by omega))
          have L6 := L6.kept gr4 (ng.out _ (by omega))
          have G := grown_trans G gr4
          clear gr4 E3
          have hi' : (i = 0 ∨ i = 1 ∨ i = 2) ∨ (i = 3 ∨ i = 4 ∨ i = 5 ∨ i = 6) ∨ (i = 7 ∨ i = 8) ∨ i = 9 ∨ i = 10 ∨ i = 11 ∨ (i = 12 ∨ i = 13) := by omega
          clear hi
          rcases hi' with hi | hi | hi | hi | hi | hi | hi
          · rcases hi with rfl | rfl | rfl
            all_goals
              go_wp2_with fail
              refine (among_env E4 [1, 7, 20, 33, 98, 99, 100] 7 rfl _ rfl (by omega) (by omega) (by omega)).mono ?_
              rintro e W5 ⟨z1, rfl, hz, E5, gr⟩
              have L4 := L4.kept gr (ng.out _ (by omega))
              have G := grown_trans G gr
              clear gr hz E4
              go_wp2_with fail
              refine (among_env E5 [1, 5, 20, 9999, 10000] 5 rfl _ rfl (by omega) (by omega) (by omega)).mono ?_
              rintro e W6 ⟨z2, rfl, hz, E6, gr⟩
              have L4 := L4.kept gr (ng.out _ (by omega))
              have G := grown_trans G gr
              clear gr hz E5
              have y0 := L4.cell 0
              have y1 := L4.cell 1
              have y2 := L4.cell 2
              have y3 := L4.cell 3
              simp only [List.getElem?_cons_zero, List.getElem?_cons_succ] at y0 y1 y2 y3
              have f0 := L4.frozen 0
              have f1 := L4.frozen 1
              have f2 := L4.frozen 2
              have f3 := L4.frozen 3
              have hG8 := (grown_set (g := (W.heap.size + 1)) (i := 3) (u := .int .i64 z2) (grown_set (g := (W.heap.size + 1)) (i := 2) (u := .int .i64 0) (grown_set (g := (W.heap.size + 1)) (i := 1) (u := .int .i64 z1) (grown_set (g := (W.heap.size + 1)) (i := 0) (u := .int .i64 1) (World.grownBy.refl W6 (some (W.heap.size + 1)))))))
              have hEE := E6.wrote hG8 (by omega) (by omega)
              have hGG := grown_own G hG8 (by omega)
              have hLS := ((((L4.set 0 (.int .i64 1)).set 1 (.int .i64 z1)).set 2 (.int .i64 0)).set 3 (.int .i64 z2))
              simp only [List.set_cons_zero, List.set_cons_succ] at hLS
              obtain ⟨W8, hW8⟩ : ∃ W8, ((((W6.setCell ⟨(W.heap.size + 1), 0, none⟩ (.int .i64 1)).setCell ⟨(W.heap.size + 1), 1, none⟩ (.int .i64 z1)).setCell ⟨(W.heap.size + 1), 2, none⟩ (.int .i64 0)).setCell ⟨(W.heap.size + 1), 3, none⟩ (.int .i64 z2)) = W8 := ⟨_, rfl⟩
              rw [hW8] at hEE hGG hLS
              have HW8 := Lib.hid hW8
              have HLS := Lib.hid hLS
              clear hG8 L4 G hW8 hLS
              repeat (first | go_values | go_skip | go_guarded | go_step | go_upon | simp only [])
              rw [HW8.out]
              have hLS := HLS.out
              have x0 := hLS.cell 0
              have x1 := hLS.cell 1
              have x2 := hLS.cell 2
              have x3 := hLS.cell 3
              simp only [List.getElem?_cons_zero, List.getElem?_cons_succ] at x0 x1 x2 x3
              refine bodyPost_ret (v := .agg #[.int .i64 1, .int .i64 z1, .int .i64 0, .int .i64 z2]) (by simp [results, Try.results58, go_sem, x0, x1, x2, x3]) rfl ?_
              exact ⟨⟨1, z1, 0, z2⟩, rfl, hEE.mono (by omega), hGG⟩
          · rcases hi with rfl | rfl | rfl | rfl
            all_goals
              go_wp2_with fail
              refine wp_region_factsR (Dr w W4 g A bs cap (m + 42 + 2 + 2) 2 16 [g, (W.heap.size + 1)] [Room.lies 15 (W.heap.size + 1) 45 [.int .i64 0, .int .i64 0, .int .i64 0, .int .i64 0]]) (fun i w1 w2 => i ∉ [15] → w1.grownBy w2 (some g)) (by kernel_rfl) (by kernel_rfl) (by kernel_rfl) (Dr.start E4 (fun p hp => by simp only [List.mem_singleton] at hp; subst hp; exact ⟨ng.out _ (by omega), L4⟩)) ?_
              simp only [fillOps, Act.put, List.setIfInBounds_toArray, List.set_cons_zero, List.set_cons_succ, Nat.zero_add, Nat.reduceAdd]
              apply wpFactsR_val
              case h1 =>
                intro vs L9 w9 hG9 hC9 hB K9 hK9
                simp only [Act.put, List.setIfInBounds_toArray, List.set_cons_zero, List.set_cons_succ] at hK9
                go_simp
                exact hK9 _ _ rfl (hC9.stay hG9.self (by decide)) (fun _ => World.grownBy.refl _ _)
              apply wpFactsR_val
              case h1 =>
                intro vs L9 w9 hG9 hC9 hB K9 hK9
                have d0 := FactN.eq (hB 0 _ (by kernel_rfl) (by kernel_rfl) rfl (by decide))
                simp only [d0] at hK9 ⊢
                have q0 : w9.cell? ⟨h5, 0, none⟩ = some (.int .i64 ta) := (hC9.lies L5 nx5).cell 0
                simp only [Act.put, List.setIfInBounds_toArray, List.set_cons_zero, List.set_cons_succ] at hK9
                go_simp
                exact hK9 _ _ rfl (hC9.stay hG9.self (by decide)) (fun _ => World.grownBy.refl _ _)
              apply wpFactsR_val
              case h1 =>
                intro vs L9 w9 hG9 hC9 hB K9 hK9
                simp only [Act.put, List.setIfInBounds_toArray, List.set_cons_zero, List.set_cons_succ] at hK9
                go_simp
                exact hK9 _ _ rfl (hC9.stay hG9.self (by decide)) (fun _ => World.grownBy.refl _ _)
              refine wpFactsR_some [15] (fun v w9 => ∃ (b : Nat) (l : List Int), v = .slice (some ⟨b, 0, none⟩) 5 5 ∧ l.length = 5 ∧ Lies w9 b 3 (encIs l) ∧ b ≠ g) ?_ (fun vs L9 w9 hG9 hC9 hB K9 hK9 => ?_) ?_
              next =>
                intro i9 hi9 hb9 ha9 v w1 w2 hv hT9
                have hb := hT9 (fun hm => by
                  simp only [List.mem_cons, List.not_mem_nil, or_false] at hm hb9
                  subst hm
                  · exact hb9 (by simp))
                obtain ⟨b, l, q1, q2, q3, q4⟩ := hv
                exact ⟨b, l, q1, q2, q3.kept hb (by intro e; injection e with e; exact q4 e), q4⟩
              next =>
                simp only [Act.put, List.setIfInBounds_toArray, List.set_cons_zero, List.set_cons_succ] at hK9
                go_simp
                exact hK9 _ _ _ rfl ⟨w9.heap.size, [5, 17, 40, 999, 1000], rfl, rfl, Lies.new w9 3 _, by have := hC9.env.lt; omega⟩ (hC9.alloc hG9.self (by decide) _) (fun _ => World.grownBy_alloc _ _ _)
              refine wpFactsR_some [] (fun v _ => ∃ z : Int, v = .int .i64 z) ?_ (fun vs L9 w9 hG9 hC9 hB K9 hK9 => ?_) ?_
              next =>
                intro i9 hi9 hb9 ha9 v w1 w2 hv hT9
                exact hv
              next =>
                have d2 := FactN.eq (hB 2 _ (by kernel_rfl) (by kernel_rfl) rfl (by decide))
                simp only [d2] at hK9 ⊢
                simp only [Act.put, List.setIfInBounds_toArray, List.set_cons_zero, List.set_cons_succ] at hK9
                obtain ⟨b3, l3, e3, el3, eL3, en3⟩ := hB 3 _ (by kernel_rfl) (by kernel_rfl) rfl (by decide)
                simp only [e3] at hK9 ⊢
                go_simp
                refine (among_lies hC9.env b3 5 l3 el3 eL3 en3 (by omega) (by omega) (by have := hC9.cnt; omega)).mono ?_
                rintro en w8 ⟨x8, rfl, hE8, hg8⟩
                exact hK9 _ _ _ rfl ⟨_, rfl⟩ (hC9.call hG9.self (by decide) hE8 (by have := hC9.cnt; omega) hg8 (by simp)) (fun _ => hg8)
              apply wpFactsR_val
              case h1 =>
                intro vs L9 w9 hG9 hC9 hB K9 hK9
                simp only [Act.put, List.setIfInBounds_toArray, List.set_cons_zero, List.set_cons_succ] at hK9
                go_simp
                exact hK9 _ _ rfl (hC9.stay hG9.self (by decide)) (fun _ => World.grownBy.refl _ _)
              apply wpFactsR_val
              case h1 =>
                intro vs L9 w9 hG9 hC9 hB K9 hK9
                simp only [Act.put, List.setIfInBounds_toArray, List.set_cons_zero, List.set_cons_succ] at hK9
                go_simp
                exact hK9 _ _ rfl (hC9.stay hG9.self (by decide)) (fun _ => World.grownBy.refl _ _)
              apply wpFactsR_val
              case h1 =>
                intro vs L9 w9 hG9 hC9 hB K9 hK9
                have d6 := FactN.eq (hB 6 _ (by kernel_rfl) (by kernel_rfl) rfl (by decide))
                simp only [d6] at hK9 ⊢
                have q0 : w9.cell? ⟨h5, 1, none⟩ = some (.int .i64 tb) := (hC9.lies L5 nx5).cell 1
                simp only [Act.put, List.setIfInBounds_toArray, List.set_cons_zero, List.set_cons_succ] at hK9
                go_simp
                exact hK9 _ _ rfl (hC9.stay hG9.self (by decide)) (fun _ => World.grownBy.refl _ _)
              refine wpFactsR_some [] (fun v _ => ∃ z : Int, v = .int .i64 z) ?_ (fun vs L9 w9 hG9 hC9 hB K9 hK9 => ?_) ?_
              next =>
                intro i9 hi9 hb9 ha9 v w1 w2 hv hT9
                exact hv
              next =>
                have d7 := FactN.eq (hB 7 _ (by kernel_rfl) (by kernel_rfl) rfl (by decide))
                simp only [d7] at hK9 ⊢
                simp only [Act.put, List.setIfInBounds_toArray, List.set_cons_zero, List.set_cons_succ] at hK9
                go_simp
                refine (l1Most_any _ _ _).mono ?_
                rintro en w8 ⟨⟨x8, rfl⟩, hb8⟩
                exact hK9 _ _ _ rfl ⟨_, rfl⟩ (hC9.below hG9.self (by decide) hb8) (fun _ => grownAny hb8 _)
              apply wpFactsR_val
              case h1 =>
                intro vs L9 w9 hG9 hC9 hB K9 hK9
                simp only [Act.put, List.setIfInBounds_toArray, List.set_cons_zero, List.set_cons_succ] at hK9
                go_simp
                exact hK9 _ _ rfl (hC9.stay hG9.self (by decide)) (fun _ => World.grownBy.refl _ _)
              apply wpFactsR_val
              case h1 =>
                intro vs L9 w9 hG9 hC9 hB K9 hK9
                have d9 := FactN.eq (hB 9 _ (by kernel_rfl) (by kernel_rfl) rfl (by decide))
                simp only [d9] at hK9 ⊢
                have q0 : w9.cell? ⟨h5, 1, none⟩ = some (.int .i64 tb) := (hC9.lies L5 nx5).cell 1
                simp only [Act.put, List.setIfInBounds_toArray, List.set_cons_zero, List.set_cons_succ] at hK9
                go_simp
                exact hK9 _ _ rfl (hC9.stay hG9.self (by decide)) (fun _ => World.grownBy.refl _ _)
              refine wpFactsR_some [] (fun v _ => ∃ z : Int, v = .int .i64 z) ?_ (fun vs L9 w9 hG9 hC9 hB K9 hK9 => ?_) ?_
              next =>
                intro i9 hi9 hb9 ha9 v w1 w2 hv hT9
                exact hv
              next =>
                have d10 := FactN.eq (hB 10 _ (by kernel_rfl) (by kernel_rfl) rfl (by decide))
                simp only [d10] at hK9 ⊢
                simp only [Act.put, List.setIfInBounds_toArray, List.set_cons_zero, List.set_cons_succ] at hK9
                go_simp
                exact hK9 _ _ _ rfl ⟨_, rfl⟩ (hC9.stay hG9.self (by decide)) (fun _ => World.grownBy.refl _ _)
              refine wpFactsR_some [15] (fun v w9 => ∃ (b : Nat) (l : List Int), v = .slice (some ⟨b, 0, none⟩) 4 4 ∧ l.length = 4 ∧ Lies w9 b 3 (encIs l) ∧ b ≠ g) ?_ (fun vs L9 w9 hG9 hC9 hB K9 hK9 => ?_) ?_
              next =>
                intro i9 hi9 hb9 ha9 v w1 w2 hv hT9
                have hb := hT9 (fun hm => by
                  simp only [List.mem_cons, List.not_mem_nil, or_false] at hm hb9
                  subst hm
                  · exact hb9 (by simp))
                obtain ⟨b, l, q1, q2, q3, q4⟩ := hv
                exact ⟨b, l, q1, q2, q3.kept hb (by intro e; injection e with e; exact q4 e), q4⟩
              next =>
                simp only [Act.put, List.setIfInBounds_toArray, List.set_cons_zero, List.set_cons_succ] at hK9
                obtain ⟨z8, e8⟩ := hB 8 _ (by kernel_rfl) (by kernel_rfl) rfl (by decide)
                obtain ⟨z11, e11⟩ := hB 11 _ (by kernel_rfl) (by kernel_rfl) rfl (by decide)
                simp only [e8, e11] at hK9 ⊢
                go_simp
                exact hK9 _ _ _ rfl ⟨w9.heap.size, [1, 2, _, _], rfl, rfl, Lies.new w9 3 _, by have := hC9.env.lt; omega⟩ (hC9.alloc hG9.self (by decide) _) (fun _ => World.grownBy_alloc _ _ _)
              refine wpFactsR_some [] (fun v _ => ∃ z : Int, v = .int .i64 z) ?_ (fun vs L9 w9 hG9 hC9 hB K9 hK9 => ?_) ?_
              next =>
                intro i9 hi9 hb9 ha9 v w1 w2 hv hT9
                exact hv
              next =>
                have d5 := FactN.eq (hB 5 _ (by kernel_rfl) (by kernel_rfl) rfl (by decide))
                simp only [d5] at hK9 ⊢
                simp only [Act.put, List.setIfInBounds_toArray, List.set_cons_zero, List.set_cons_succ] at hK9
                obtain ⟨b12, l12, e12, el12, eL12, en12⟩ := hB 12 _ (by kernel_rfl) (by kernel_rfl) rfl (by decide)
                simp only [e12] at hK9 ⊢
                go_simp
                refine (among_lies hC9.env b12 4 l12 el12 eL12 en12 (by omega) (by omega) (by have := hC9.cnt; omega)).mono ?_
                rintro en w8 ⟨x8, rfl, hE8, hg8⟩
                exact hK9 _ _ _ rfl ⟨_, rfl⟩ (hC9.call hG9.self (by decide) hE8 (by have := hC9.cnt; omega) hg8 (by simp)) (fun _ => hg8)
              refine wpFactsR_some [] (fun v _ => ∃ s : Stp, v = .agg #[.int .i64 s.kind, .int .i64 s.stamp, .int .i64 s.person, .int .i64 s.value]) ?_ (fun vs L9 w9 hG9 hC9 hB K9 hK9 => ?_) ?_
              next =>
                intro i9 hi9 hb9 ha9 v w1 w2 hv hT9
                exact hv
              next =>
                have d1 := FactN.eq (hB 1 _ (by kernel_rfl) (by kernel_rfl) rfl (by decide))
                simp only [d1] at hK9 ⊢
                simp only [Act.put, List.setIfInBounds_toArray, List.set_cons_zero, List.set_cons_succ] at hK9
                obtain ⟨z4, e4⟩ := hB 4 _ (by kernel_rfl) (by kernel_rfl) rfl (by decide)
                obtain ⟨z13, e13⟩ := hB 13 _ (by kernel_rfl) (by kernel_rfl) rfl (by decide)
                simp only [e4, e13] at hK9 ⊢
                go_simp
                exact hK9 _ _ _ rfl ⟨⟨_, _, _, _⟩, rfl⟩ (hC9.stay hG9.self (by decide)) (fun _ => World.grownBy.refl _ _)
              refine wpFactsR_some [] (fun _ w9 => ∃ s : Stp, Lies w9 (W.heap.size + 1) 45 s.enc) ?_ (fun vs L9 w9 hG9 hC9 hB K9 hK9 => ?_) ?_
              next =>
                intro i9 hi9 hb9 ha9 v w1 w2 hv hT9
                have hb := hT9 (fun hm => by
                  simp only [List.mem_cons, List.not_mem_nil, or_false] at hm hb9
                  subst hm
                  · exact hi9 rfl)
                obtain ⟨s, q⟩ := hv
                exact ⟨s, q.kept hb (by intro e; injection e; omega)⟩
              next =>
                simp only [Act.put, List.setIfInBounds_toArray, List.set_cons_zero, List.set_cons_succ] at hK9
                obtain ⟨s14, e14⟩ := hB 14 _ (by kernel_rfl) (by kernel_rfl) rfl (by decide)
                simp only [e14] at hK9 ⊢
                have hL9 : Lies w9 (W.heap.size + 1) 45 [.int .i64 0, .int .i64 0, .int .i64 0, .int .i64 0] := (hC9.room (Room.lies 15 (W.heap.size + 1) 45 [.int .i64 0, .int .i64 0, .int .i64 0, .int .i64 0]) (by simp)).2 hG9.self
                have y0 := hL9.cell 0
                have y1 := hL9.cell 1
                have y2 := hL9.cell 2
                have y3 := hL9.cell 3
                simp only [List.getElem?_cons_zero, List.getElem?_cons_succ] at y0 y1 y2 y3
                have f0 := hL9.frozen 0
                have f1 := hL9.frozen 1
                have f2 := hL9.frozen 2
                have f3 := hL9.frozen 3
                have hN9 : Lies _ (W.heap.size + 1) 45 [.int .i64 s14.kind, .int .i64 s14.stamp, .int .i64 s14.person, .int .i64 s14.value] := ((((hL9.set 0 (.int .i64 s14.kind)).set 1 (.int .i64 s14.stamp)).set 2 (.int .i64 s14.person)).set 3 (.int .i64 s14.value))
                have hG8 := Lib.hid (grown_set (g := (W.heap.size + 1)) (i := 3) (u := .int .i64 s14.value) (grown_set (g := (W.heap.size + 1)) (i := 2) (u := .int .i64 s14.person) (grown_set (g := (W.heap.size + 1)) (i := 1) (u := .int .i64 s14.stamp) (grown_set (g := (W.heap.size + 1)) (i := 0) (u := .int .i64 s14.kind) (World.grownBy.refl w9 (some (W.heap.size + 1)))))))
                have hN8 := Lib.hid hN9
                clear hN9 hL9
                go_simp
                exact hK9 _ undef _ rfl ⟨s14, hN8.out⟩ (hC9.wrote hG9.self (by decide) hG8.out (fun b e => by injection e with e; subst e; exact ⟨(by omega), (by omega), by simp⟩) (by intro p hp e; simp only [List.mem_cons, List.not_mem_nil, or_false] at hp; first | (subst hp; exact .inl rfl) | (rcases hp with rfl | rfl; first | exact .inl rfl | (exfalso; revert e; first | exact HNE.out | simp [Room.lies, Room.row]; first | exact .inl rfl)))) (fun hq => (hq (by decide)).elim)
              refine wpFactsR_nil fun vs Lq w9 hL9 hC9 hB => ?_
              obtain ⟨s, hS⟩ := hB 15 _ rfl rfl (by decide)
              have hEE := hC9.le
              have hGG := drawn_gr G hC9 (by intro k hk hne; simp only [List.mem_cons, List.not_mem_nil, or_false] at hk; omega) E4
              clear hB hL9 hC9
              have hS : Lies w9 (W.heap.size + 1) 45 [.int .i64 s.kind, .int .i64 s.stamp, .int .i64 s.person, .int .i64 s.value] := hS
              have y0 := hS.cell 0
              have y1 := hS.cell 1
              have y2 := hS.cell 2
              have y3 := hS.cell 3
              simp only [List.getElem?_cons_zero, List.getElem?_cons_succ] at y0 y1 y2 y3
              clear hS
              repeat (first | go_step)
              refine bodyPost_ret (v := .agg #[.int .i64 s.kind, .int .i64 s.stamp, .int .i64 s.person, .int .i64 s.value]) (by simp [results, Try.results58, go_sem, y0, y1, y2, y3]) rfl ?_
              exact ⟨s, rfl, hEE.mono (by omega), hGG⟩
          · rcases hi with rfl | rfl
            all_goals
              go_wp2_with fail
              refine wp_region_factsR (Dr w W4 g A bs cap (m + 42 + 2 + 2) 2 14 [g, (W.heap.size + 1)] [Room.lies 13 (W.heap.size + 1) 45 [.int .i64 0, .int .i64 0, .int .i64 0, .int .i64 0]]) (fun i w1 w2 => i ∉ [13] → w1.grownBy w2 (some g)) (by kernel_rfl) (by kernel_rfl) (by kernel_rfl) (Dr.start E4 (fun p hp => by simp only [List.mem_singleton] at hp; subst hp; exact ⟨ng.out _ (by omega), L4⟩)) ?_
              simp only [fillOps, Act.put, List.setIfInBounds_toArray, List.set_cons_zero, List.set_cons_succ, Nat.zero_add, Nat.reduceAdd]
              apply wpFactsR_val
              case h1 =>
                intro vs L9 w9 hG9 hC9 hB K9 hK9
                simp only [Act.put, List.setIfInBounds_toArray, List.set_cons_zero, List.set_cons_succ] at hK9
                go_simp
                exact hK9 _ _ rfl (hC9.stay hG9.self (by decide)) (fun _ => World.grownBy.refl _ _)
              apply wpFactsR_val
              case h1 =>
                intro vs L9 w9 hG9 hC9 hB K9 hK9
                have d0 := FactN.eq (hB 0 _ (by kernel_rfl) (by kernel_rfl) rfl (by decide))
                simp only [d0] at hK9 ⊢
                have q0 : w9.cell? ⟨h6, 0, none⟩ = some (.int .i64 oa) := (hC9.lies L6 nx6).cell 0
                simp only [Act.put, List.setIfInBounds_toArray, List.set_cons_zero, List.set_cons_succ] at hK9
                go_simp
                exact hK9 _ _ rfl (hC9.stay hG9.self (by decide)) (fun _ => World.grownBy.refl _ _)
              apply wpFactsR_val
              case h1 =>
                intro vs L9 w9 hG9 hC9 hB K9 hK9
                simp only [Act.put, List.setIfInBounds_toArray, List.set_cons_zero, List.set_cons_succ] at hK9
                go_simp
                exact hK9 _ _ rfl (hC9.stay hG9.self (by decide)) (fun _ => World.grownBy.refl _ _)
              apply wpFactsR_val
              case h1 =>
                intro vs L9 w9 hG9 hC9 hB K9 hK9
                have d2 := FactN.eq (hB 2 _ (by kernel_rfl) (by kernel_rfl) rfl (by decide))
                simp only [d2] at hK9 ⊢
                have q0 : w9.cell? ⟨h6, 1, none⟩ = some (.int .i64 ob) := (hC9.lies L6 nx6).cell 1
                simp only [Act.put, List.setIfInBounds_toArray, List.set_cons_zero, List.set_cons_succ] at hK9
                go_simp
                exact hK9 _ _ rfl (hC9.stay hG9.self (by decide)) (fun _ => World.grownBy.refl _ _)
              apply wpFactsR_val
              case h1 =>
                intro vs L9 w9 hG9 hC9 hB K9 hK9
                simp only [Act.put, List.setIfInBounds_toArray, List.set_cons_zero, List.set_cons_succ] at hK9
                go_simp
                exact hK9 _ _ rfl (hC9.stay hG9.self (by decide)) (fun _ => World.grownBy.refl _ _)
              apply wpFactsR_val
              case h1 =>
                intro vs L9 w9 hG9 hC9 hB K9 hK9
                simp only [Act.put, List.setIfInBounds_toArray, List.set_cons_zero, List.set_cons_succ] at hK9
                go_simp
                exact hK9 _ _ rfl (hC9.stay hG9.self (by decide)) (fun _ => World.grownBy.refl _ _)
              apply wpFactsR_val
              case h1 =>
                intro vs L9 w9 hG9 hC9 hB K9 hK9
                have d5 := FactN.eq (hB 5 _ (by kernel_rfl) (by kernel_rfl) rfl (by decide))
                simp only [d5] at hK9 ⊢
                have q0 : w9.cell? ⟨h6, 2, none⟩ = some (.int .i64 oc') := (hC9.lies L6 nx6).cell 2
                simp only [Act.put, List.setIfInBounds_toArray, List.set_cons_zero, List.set_cons_succ] at hK9
                go_simp
                exact hK9 _ _ rfl (hC9.stay hG9.self (by decide)) (fun _ => World.grownBy.refl _ _)
              apply wpFactsR_val
              case h1 =>
                intro vs L9 w9 hG9 hC9 hB K9 hK9
                simp only [Act.put, List.setIfInBounds_toArray, List.set_cons_zero, List.set_cons_succ] at hK9
                go_simp
                exact hK9 _ _ rfl (hC9.stay hG9.self (by decide)) (fun _ => World.grownBy.refl _ _)
              apply wpFactsR_val
              case h1 =>
                intro vs L9 w9 hG9 hC9 hB K9 hK9
                have d7 := FactN.eq (hB 7 _ (by kernel_rfl) (by kernel_rfl) rfl (by decide))
                simp only [d7] at hK9 ⊢
                have q0 : w9.cell? ⟨h6, 2, none⟩ = some (.int .i64 oc') := (hC9.lies L6 nx6).cell 2
                simp only [Act.put, List.setIfInBounds_toArray, List.set_cons_zero, List.set_cons_succ] at hK9
                go_simp
                exact hK9 _ _ rfl (hC9.stay hG9.self (by decide)) (fun _ => World.grownBy.refl _ _)
              refine wpFactsR_some [] (fun v _ => ∃ z : Int, v = .int .i64 z) ?_ (fun vs L9 w9 hG9 hC9 hB K9 hK9 => ?_) ?_
              next =>
                intro i9 hi9 hb9 ha9 v w1 w2 hv hT9
                exact hv
              next =>
                have d8 := FactN.eq (hB 8 _ (by kernel_rfl) (by kernel_rfl) rfl (by decide))
                simp only [d8] at hK9 ⊢
                simp only [Act.put, List.setIfInBounds_toArray, List.set_cons_zero, List.set_cons_succ] at hK9
                go_simp
                exact hK9 _ _ _ rfl ⟨_, rfl⟩ (hC9.stay hG9.self (by decide)) (fun _ => World.grownBy.refl _ _)
              refine wpFactsR_some [13] (fun v w9 => ∃ (b : Nat) (l : List Int), v = .slice (some ⟨b, 0, none⟩) 3 3 ∧ l.length = 3 ∧ Lies w9 b 3 (encIs l) ∧ b ≠ g) ?_ (fun vs L9 w9 hG9 hC9 hB K9 hK9 => ?_) ?_
              next =>
                intro i9 hi9 hb9 ha9 v w1 w2 hv hT9
                have hb := hT9 (fun hm => by
                  simp only [List.mem_cons, List.not_mem_nil, or_false] at hm hb9
                  subst hm
                  · exact hb9 (by simp))
                obtain ⟨b, l, q1, q2, q3, q4⟩ := hv
                exact ⟨b, l, q1, q2, q3.kept hb (by intro e; injection e with e; exact q4 e), q4⟩
              next =>
                have d6 := FactN.eq (hB 6 _ (by kernel_rfl) (by kernel_rfl) rfl (by decide))
                simp only [d6] at hK9 ⊢
                simp only [Act.put, List.setIfInBounds_toArray, List.set_cons_zero, List.set_cons_succ] at hK9
                obtain ⟨z9, e9⟩ := hB 9 _ (by kernel_rfl) (by kernel_rfl) rfl (by decide)
                simp only [e9] at hK9 ⊢
                go_simp
                exact hK9 _ _ _ rfl ⟨w9.heap.size, [1, _, _], rfl, rfl, Lies.new w9 3 _, by have := hC9.env.lt; omega⟩ (hC9.alloc hG9.self (by decide) _) (fun _ => World.grownBy_alloc _ _ _)
              refine wpFactsR_some [] (fun v _ => ∃ z : Int, v = .int .i64 z) ?_ (fun vs L9 w9 hG9 hC9 hB K9 hK9 => ?_) ?_
              next =>
                intro i9 hi9 hb9 ha9 v w1 w2 hv hT9
                exact hv
              next =>
                have d4 := FactN.eq (hB 4 _ (by kernel_rfl) (by kernel_rfl) rfl (by decide))
                simp only [d4] at hK9 ⊢
                simp only [Act.put, List.setIfInBounds_toArray, List.set_cons_zero, List.set_cons_succ] at hK9
                obtain ⟨b10, l10, e10, el10, eL10, en10⟩ := hB 10 _ (by kernel_rfl) (by kernel_rfl) rfl (by decide)
                simp only [e10] at hK9 ⊢
                go_simp
                refine (among_lies hC9.env b10 3 l10 el10 eL10 en10 (by omega) (by omega) (by have := hC9.cnt; omega)).mono ?_
                rintro en w8 ⟨x8, rfl, hE8, hg8⟩
                exact hK9 _ _ _ rfl ⟨_, rfl⟩ (hC9.call hG9.self (by decide) hE8 (by have := hC9.cnt; omega) hg8 (by simp)) (fun _ => hg8)
              refine wpFactsR_some [] (fun v _ => ∃ s : Stp, v = .agg #[.int .i64 s.kind, .int .i64 s.stamp, .int .i64 s.person, .int .i64 s.value]) ?_ (fun vs L9 w9 hG9 hC9 hB K9 hK9 => ?_) ?_
              next =>
                intro i9 hi9 hb9 ha9 v w1 w2 hv hT9
                exact hv
              next =>
                have d1 := FactN.eq (hB 1 _ (by kernel_rfl) (by kernel_rfl) rfl (by decide))
                have d3 := FactN.eq (hB 3 _ (by kernel_rfl) (by kernel_rfl) rfl (by decide))
                simp only [d1, d3] at hK9 ⊢
                simp only [Act.put, List.setIfInBounds_toArray, List.set_cons_zero, List.set_cons_succ] at hK9
                obtain ⟨z11, e11⟩ := hB 11 _ (by kernel_rfl) (by kernel_rfl) rfl (by decide)
                simp only [e11] at hK9 ⊢
                go_simp
                exact hK9 _ _ _ rfl ⟨⟨_, _, _, _⟩, rfl⟩ (hC9.stay hG9.self (by decide)) (fun _ => World.grownBy.refl _ _)
              refine wpFactsR_some [] (fun _ w9 => ∃ s : Stp, Lies w9 (W.heap.size + 1) 45 s.enc) ?_ (fun vs L9 w9 hG9 hC9 hB K9 hK9 => ?_) ?_
              next =>
                intro i9 hi9 hb9 ha9 v w1 w2 hv hT9
                have hb := hT9 (fun hm => by
                  simp only [List.mem_cons, List.not_mem_nil, or_false] at hm hb9
                  subst hm
                  · exact hi9 rfl)
                obtain ⟨s, q⟩ := hv
                exact ⟨s, q.kept hb (by intro e; injection e; omega)⟩
              next =>
                simp only [Act.put, List.setIfInBounds_toArray, List.set_cons_zero, List.set_cons_succ] at hK9
                obtain ⟨s12, e12⟩ := hB 12 _ (by kernel_rfl) (by kernel_rfl) rfl (by decide)
                simp only [e12] at hK9 ⊢
                have hL9 : Lies w9 (W.heap.size + 1) 45 [.int .i64 0, .int .i64 0, .int .i64 0, .int .i64 0] := (hC9.room (Room.lies 13 (W.heap.size + 1) 45 [.int .i64 0, .int .i64 0, .int .i64 0, .int .i64 0]) (by simp)).2 hG9.self
                have y0 := hL9.cell 0
                have y1 := hL9.cell 1
                have y2 := hL9.cell 2
                have y3 := hL9.cell 3
                simp only [List.getElem?_cons_zero, List.getElem?_cons_succ] at y0 y1 y2 y3
                have f0 := hL9.frozen 0
                have f1 := hL9.frozen 1
                have f2 := hL9.frozen 2
                have f3 := hL9.frozen 3
                have hN9 : Lies _ (W.heap.size + 1) 45 [.int .i64 s12.kind, .int .i64 s12.stamp, .int .i64 s12.person, .int .i64 s12.value] := ((((hL9.set 0 (.int .i64 s12.kind)).set 1 (.int .i64 s12.stamp)).set 2 (.int .i64 s12.person)).set 3 (.int .i64 s12.value))
                have hG8 := Lib.hid (grown_set (g := (W.heap.size + 1)) (i := 3) (u := .int .i64 s12.value) (grown_set (g := (W.heap.size + 1)) (i := 2) (u := .int .i64 s12.person) (grown_set (g := (W.heap.size + 1)) (i := 1) (u := .int .i64 s12.stamp) (grown_set (g := (W.heap.size + 1)) (i := 0) (u := .int .i64 s12.kind) (World.grownBy.refl w9 (some (W.heap.size + 1)))))))
                have hN8 := Lib.hid hN9
                clear hN9 hL9
                go_simp
                exact hK9 _ undef _ rfl ⟨s12, hN8.out⟩ (hC9.wrote hG9.self (by decide) hG8.out (fun b e => by injection e with e; subst e; exact ⟨(by omega), (by omega), by simp⟩) (by intro p hp e; simp only [List.mem_cons, List.not_mem_nil, or_false] at hp; first | (subst hp; exact .inl rfl) | (rcases hp with rfl | rfl; first | exact .inl rfl | (exfalso; revert e; first | exact HNE.out | simp [Room.lies, Room.row]; first | exact .inl rfl)))) (fun hq => (hq (by decide)).elim)
              refine wpFactsR_nil fun vs Lq w9 hL9 hC9 hB => ?_
              obtain ⟨s, hS⟩ := hB 13 _ rfl rfl (by decide)
              have hEE := hC9.le
              have hGG := drawn_gr G hC9 (by intro k hk hne; simp only [List.mem_cons, List.not_mem_nil, or_false] at hk; omega) E4
              clear hB hL9 hC9
              have hS : Lies w9 (W.heap.size + 1) 45 [.int .i64 s.kind, .int .i64 s.stamp, .int .i64 s.person, .int .i64 s.value] := hS
              have y0 := hS.cell 0
              have y1 := hS.cell 1
              have y2 := hS.cell 2
              have y3 := hS.cell 3
              simp only [List.getElem?_cons_zero, List.getElem?_cons_succ] at y0 y1 y2 y3
              clear hS
              repeat (first | go_step)
              refine bodyPost_ret (v := .agg #[.int .i64 s.kind, .int .i64 s.stamp, .int .i64 s.person, .int .i64 s.value]) (by simp [results, Try.results58, go_sem, y0, y1, y2, y3]) rfl ?_
              exact ⟨s, rfl, hEE.mono (by omega), hGG⟩
          · subst hi
            go_wp2_with fail
            refine wp_region_factsR (Dr w W4 g A bs cap (m + 42 + 2 + 2) 2 14 [g, (W.heap.size + 1)] [Room.lies 13 (W.heap.size + 1) 45 [.int .i64 0, .int .i64 0, .int .i64 0, .int .i64 0]]) (fun i w1 w2 => i ∉ [13] → w1.grownBy w2 (some g)) (by kernel_rfl) (by kernel_rfl) (by kernel_rfl) (Dr.start E4 (fun p hp => by simp only [List.mem_singleton] at hp; subst hp; exact ⟨ng.out _ (by omega), L4⟩)) ?_
            simp only [fillOps, Act.put, List.setIfInBounds_toArray, List.set_cons_zero, List.set_cons_succ, Nat.zero_add, Nat.reduceAdd]
            apply wpFactsR_val
            case h1 =>
              intro vs L9 w9 hG9 hC9 hB K9 hK9
              simp only [Act.put, List.setIfInBounds_toArray, List.set_cons_zero, List.set_cons_succ] at hK9
              go_simp
              exact hK9 _ _ rfl (hC9.stay hG9.self (by decide)) (fun _ => World.grownBy.refl _ _)
            apply wpFactsR_val
            case h1 =>
              intro vs L9 w9 hG9 hC9 hB K9 hK9
              have d0 := FactN.eq (hB 0 _ (by kernel_rfl) (by kernel_rfl) rfl (by decide))
              simp only [d0] at hK9 ⊢
              have q0 : w9.cell? ⟨h6, 0, none⟩ = some (.int .i64 oa) := (hC9.lies L6 nx6).cell 0
              simp only [Act.put, List.setIfInBounds_toArray, List.set_cons_zero, List.set_cons_succ] at hK9
              go_simp
              exact hK9 _ _ rfl (hC9.stay hG9.self (by decide)) (fun _ => World.grownBy.refl _ _)
            apply wpFactsR_val
            case h1 =>
              intro vs L9 w9 hG9 hC9 hB K9 hK9
              simp only [Act.put, List.setIfInBounds_toArray, List.set_cons_zero, List.set_cons_succ] at hK9
              go_simp
              exact hK9 _ _ rfl (hC9.stay hG9.self (by decide)) (fun _ => World.grownBy.refl _ _)
            apply wpFactsR_val
            case h1 =>
              intro vs L9 w9 hG9 hC9 hB K9 hK9
              have d2 := FactN.eq (hB 2 _ (by kernel_rfl) (by kernel_rfl) rfl (by decide))
              simp only [d2] at hK9 ⊢
              have q0 : w9.cell? ⟨h6, 1, none⟩ = some (.int .i64 ob) := (hC9.lies L6 nx6).cell 1
              simp only [Act.put, List.setIfInBounds_toArray, List.set_cons_zero, List.set_cons_succ] at hK9
              go_simp
              exact hK9 _ _ rfl (hC9.stay hG9.self (by decide)) (fun _ => World.grownBy.refl _ _)
            apply wpFactsR_val
            case h1 =>
              intro vs L9 w9 hG9 hC9 hB K9 hK9
              simp only [Act.put, List.setIfInBounds_toArray, List.set_cons_zero, List.set_cons_succ] at hK9
              go_simp
              exact hK9 _ _ rfl (hC9.stay hG9.self (by decide)) (fun _ => World.grownBy.refl _ _)
            apply wpFactsR_val
            case h1 =>
              intro vs L9 w9 hG9 hC9 hB K9 hK9
              simp only [Act.put, List.setIfInBounds_toArray, List.set_cons_zero, List.set_cons_succ] at hK9
              go_simp
              exact hK9 _ _ rfl (hC9.stay hG9.self (by decide)) (fun _ => World.grownBy.refl _ _)
            apply wpFactsR_val
            case h1 =>
              intro vs L9 w9 hG9 hC9 hB K9 hK9
              have d5 := FactN.eq (hB 5 _ (by kernel_rfl) (by kernel_rfl) rfl (by decide))
              simp only [d5] at hK9 ⊢
              have q0 : w9.cell? ⟨h6, 2, none⟩ = some (.int .i64 oc') := (hC9.lies L6 nx6).cell 2
              simp only [Act.put, List.setIfInBounds_toArray, List.set_cons_zero, List.set_cons_succ] at hK9
              go_simp
              exact hK9 _ _ rfl (hC9.stay hG9.self (by decide)) (fun _ => World.grownBy.refl _ _)
            apply wpFactsR_val
            case h1 =>
              intro vs L9 w9 hG9 hC9 hB K9 hK9
              simp only [Act.put, List.setIfInBounds_toArray, List.set_cons_zero, List.set_cons_succ] at hK9
              go_simp
              exact hK9 _ _ rfl (hC9.stay hG9.self (by decide)) (fun _ => World.grownBy.refl _ _)
            apply wpFactsR_val
            case h1 =>
              intro vs L9 w9 hG9 hC9 hB K9 hK9
              have d7 := FactN.eq (hB 7 _ (by kernel_rfl) (by kernel_rfl) rfl (by decide))
              simp only [d7] at hK9 ⊢
              have q0 : w9.cell? ⟨h6, 2, none⟩ = some (.int .i64 oc') := (hC9.lies L6 nx6).cell 2
              simp only [Act.put, List.setIfInBounds_toArray, List.set_cons_zero, List.set_cons_succ] at hK9
              go_simp
              exact hK9 _ _ rfl (hC9.stay hG9.self (by decide)) (fun _ => World.grownBy.refl _ _)
            refine wpFactsR_some [] (fun v _ => ∃ z : Int, v = .int .i64 z) ?_ (fun vs L9 w9 hG9 hC9 hB K9 hK9 => ?_) ?_
            next =>
              intro i9 hi9 hb9 ha9 v w1 w2 hv hT9
              exact hv
            next =>
              have d8 := FactN.eq (hB 8 _ (by kernel_rfl) (by kernel_rfl) rfl (by decide))
              simp only [d8] at hK9 ⊢
              simp only [Act.put, List.setIfInBounds_toArray, List.set_cons_zero, List.set_cons_succ] at hK9
              go_simp
              exact hK9 _ _ _ rfl ⟨_, rfl⟩ (hC9.stay hG9.self (by decide)) (fun _ => World.grownBy.refl _ _)
            refine wpFactsR_some [13] (fun v w9 => ∃ (b : Nat) (l : List Int), v = .slice (some ⟨b, 0, none⟩) 3 3 ∧ l.length = 3 ∧ Lies w9 b 3 (encIs l) ∧ b ≠ g) ?_ (fun vs L9 w9 hG9 hC9 hB K9 hK9 => ?_) ?_
            next =>
              intro i9 hi9 hb9 ha9 v w1 w2 hv hT9
              have hb := hT9 (fun hm => by
                simp only [List.mem_cons, List.not_mem_nil, or_false] at hm hb9
                subst hm
                · exact hb9 (by simp))
              obtain ⟨b, l, q1, q2, q3, q4⟩ := hv
              exact ⟨b, l, q1, q2, q3.kept hb (by intro e; injection e with e; exact q4 e), q4⟩
            next =>
              have d6 := FactN.eq (hB 6 _ (by kernel_rfl) (by kernel_rfl) rfl (by decide))
              simp only [d6] at hK9 ⊢
              simp only [Act.put, List.setIfInBounds_toArray, List.set_cons_zero, List.set_cons_succ] at hK9
              obtain ⟨z9, e9⟩ := hB 9 _ (by kernel_rfl) (by kernel_rfl) rfl (by decide)
              simp only [e9] at hK9 ⊢
              go_simp
              exact hK9 _ _ _ rfl ⟨w9.heap.size, [1, _, _], rfl, rfl, Lies.new w9 3 _, by have := hC9.env.lt; omega⟩ (hC9.alloc hG9.self (by decide) _) (fun _ => World.grownBy_alloc _ _ _)
            refine wpFactsR_some [] (fun v _ => ∃ z : Int, v = .int .i64 z) ?_ (fun vs L9 w9 hG9 hC9 hB K9 hK9 => ?_) ?_
            next =>
              intro i9 hi9 hb9 ha9 v w1 w2 hv hT9
              exact hv
            next =>
              have d4 := FactN.eq (hB 4 _ (by kernel_rfl) (by kernel_rfl) rfl (by decide))
              simp only [d4] at hK9 ⊢
              simp only [Act.put, List.setIfInBounds_toArray, List.set_cons_zero, List.set_cons_succ] at hK9
              obtain ⟨b10, l10, e10, el10, eL10, en10⟩ := hB 10 _ (by kernel_rfl) (by kernel_rfl) rfl (by decide)
              simp only [e10] at hK9 ⊢
              go_simp
              refine (among_lies hC9.env b10 3 l10 el10 eL10 en10 (by omega) (by omega) (by have := hC9.cnt; omega)).mono ?_
              rintro en w8 ⟨x8, rfl, hE8, hg8⟩
              exact hK9 _ _ _ rfl ⟨_, rfl⟩ (hC9.call hG9.self (by decide) hE8 (by have := hC9.cnt; omega) hg8 (by simp)) (fun _ => hg8)
            refine wpFactsR_some [] (fun v _ => ∃ s : Stp, v = .agg #[.int .i64 s.kind, .int .i64 s.stamp, .int .i64 s.person, .int .i64 s.value]) ?_ (fun vs L9 w9 hG9 hC9 hB K9 hK9 => ?_) ?_
            next =>
              intro i9 hi9 hb9 ha9 v w1 w2 hv hT9
              exact hv
            next =>
              have d1 := FactN.eq (hB 1 _ (by kernel_rfl) (by kernel_rfl) rfl (by decide))
              have d3 := FactN.eq (hB 3 _ (by kernel_rfl) (by kernel_rfl) rfl (by decide))
              simp only [d1, d3] at hK9 ⊢
              simp only [Act.put, List.setIfInBounds_toArray, List.set_cons_zero, List.set_cons_succ] at hK9
              obtain ⟨z11, e11⟩ := hB 11 _ (by kernel_rfl) (by kernel_rfl) rfl (by decide)
              simp only [e11] at hK9 ⊢
              go_simp
              exact hK9 _ _ _ rfl ⟨⟨_, _, _, _⟩, rfl⟩ (hC9.stay hG9.self (by decide)) (fun _ => World.grownBy.refl _ _)
            refine wpFactsR_some [] (fun _ w9 => ∃ s : Stp, Lies w9 (W.heap.size + 1) 45 s.enc) ?_ (fun vs L9 w9 hG9 hC9 hB K9 hK9 => ?_) ?_
            next =>
              intro i9 hi9 hb9 ha9 v w1 w2 hv hT9
              have hb := hT9 (fun hm => by
                simp only [List.mem_cons, List.not_mem_nil, or_false] at hm hb9
                subst hm
                · exact hi9 rfl)
              obtain ⟨s, q⟩ := hv
              exact ⟨s, q.kept hb (by intro e; injection e; omega)⟩
            next =>
              simp only [Act.put, List.setIfInBounds_toArray, List.set_cons_zero, List.set_cons_succ] at hK9
              obtain ⟨s12, e12⟩ := hB 12 _ (by kernel_rfl) (by kernel_rfl) rfl (by decide)
              simp only [e12] at hK9 ⊢
              have hL9 : Lies w9 (W.heap.size + 1) 45 [.int .i64 0, .int .i64 0, .int .i64 0, .int .i64 0] := (hC9.room (Room.lies 13 (W.heap.size + 1) 45 [.int .i64 0, .int .i64 0, .int .i64 0, .int .i64 0]) (by simp)).2 hG9.self
              have y0 := hL9.cell 0
              have y1 := hL9.cell 1
              have y2 := hL9.cell 2
              have y3 := hL9.cell 3
              simp only [List.getElem?_cons_zero, List.getElem?_cons_succ] at y0 y1 y2 y3
              have f0 := hL9.frozen 0
              have f1 := hL9.frozen 1
              have f2 := hL9.frozen 2
              have f3 := hL9.frozen 3
              have hN9 : Lies _ (W.heap.size + 1) 45 [.int .i64 s12.kind, .int .i64 s12.stamp, .int .i64 s12.person, .int .i64 s12.value] := ((((hL9.set 0 (.int .i64 s12.kind)).set 1 (.int .i64 s12.stamp)).set 2 (.int .i64 s12.person)).set 3 (.int .i64 s12.value))
              have hG8 := Lib.hid (grown_set (g := (W.heap.size + 1)) (i := 3) (u := .int .i64 s12.value) (grown_set (g := (W.heap.size + 1)) (i := 2) (u := .int .i64 s12.person) (grown_set (g := (W.heap.size + 1)) (i := 1) (u := .int .i64 s12.stamp) (grown_set (g := (W.heap.size + 1)) (i := 0) (u := .int .i64 s12.kind) (World.grownBy.refl w9 (some (W.heap.size + 1)))))))
              have hN8 := Lib.hid hN9
              clear hN9 hL9
              go_simp
              exact hK9 _ undef _ rfl ⟨s12, hN8.out⟩ (hC9.wrote hG9.self (by decide) hG8.out (fun b e => by injection e with e; subst e; exact ⟨(by omega), (by omega), by simp⟩) (by intro p hp e; simp only [List.mem_cons, List.not_mem_nil, or_false] at hp; first | (subst hp; exact .inl rfl) | (rcases hp with rfl | rfl; first | exact .inl rfl | (exfalso; revert e; first | exact HNE.out | simp [Room.lies, Room.row]; first | exact .inl rfl)))) (fun hq => (hq (by decide)).elim)
            refine wpFactsR_nil fun vs Lq w9 hL9 hC9 hB => ?_
            obtain ⟨s, hS⟩ := hB 13 _ rfl rfl (by decide)
            have hEE := hC9.le
            have hGG := drawn_gr G hC9 (by intro k hk hne; simp only [List.mem_cons, List.not_mem_nil, or_false] at hk; omega) E4
            clear hB hL9 hC9
            have hS : Lies w9 (W.heap.size + 1) 45 [.int .i64 s.kind, .int .i64 s.stamp, .int .i64 s.person, .int .i64 s.value] := hS
            have y0 := hS.cell 0
            have y1 := hS.cell 1
            have y2 := hS.cell 2
            have y3 := hS.cell 3
            simp only [List.getElem?_cons_zero, List.getElem?_cons_succ] at y0 y1 y2 y3
            clear hS
            repeat (first | go_step)
            refine bodyPost_ret (v := .agg #[.int .i64 s.kind, .int .i64 s.stamp, .int .i64 s.person, .int .i64 s.value]) (by simp [results, Try.results58, go_sem, y0, y1, y2, y3]) rfl ?_
            exact ⟨s, rfl, hEE.mono (by omega), hGG⟩
          · subst hi
            go_wp2_with fail
            refine wp_region_factsR (Dr w W4 g A bs cap (m + 42 + 2 + 2) 2 13 [g, (W.heap.size + 1)] [Room.lies 12 (W.heap.size + 1) 45 [.int .i64 0, .int .i64 0, .int .i64 0, .int .i64 0]]) (fun i w1 w2 => i ∉ [12] → w1.grownBy w2 (some g)) (by kernel_rfl) (by kernel_rfl) (by kernel_rfl) (Dr.start E4 (fun p hp => by simp only [List.mem_singleton] at hp; subst hp; exact ⟨ng.out _ (by omega), L4⟩)) ?_
            simp only [fillOps, Act.put, List.setIfInBounds_toArray, List.set_cons_zero, List.set_cons_succ, Nat.zero_add, Nat.reduceAdd]
            apply wpFactsR_val
            case h1 =>
              intro vs L9 w9 hG9 hC9 hB K9 hK9
              simp only [Act.put, List.setIfInBounds_toArray, List.set_cons_zero, List.set_cons_succ] at hK9
              go_simp
              exact hK9 _ _ rfl (hC9.stay hG9.self (by decide)) (fun _ => World.grownBy.refl _ _)
            apply wpFactsR_val
            case h1 =>
              intro vs L9 w9 hG9 hC9 hB K9 hK9
              have d0 := FactN.eq (hB 0 _ (by kernel_rfl) (by kernel_rfl) rfl (by decide))
              simp only [d0] at hK9 ⊢
              have q0 : w9.cell? ⟨h5, 0, none⟩ = some (.int .i64 ta) := (hC9.lies L5 nx5).cell 0
              simp only [Act.put, List.setIfInBounds_toArray, List.set_cons_zero, List.set_cons_succ] at hK9
              go_simp
              exact hK9 _ _ rfl (hC9.stay hG9.self (by decide)) (fun _ => World.grownBy.refl _ _)
            apply wpFactsR_val
            case h1 =>
              intro vs L9 w9 hG9 hC9 hB K9 hK9
              simp only [Act.put, List.setIfInBounds_toArray, List.set_cons_zero, List.set_cons_succ] at hK9
              go_simp
              exact hK9 _ _ rfl (hC9.stay hG9.self (by decide)) (fun _ => World.grownBy.refl _ _)
            apply wpFactsR_val
            case h1 =>
              intro vs L9 w9 hG9 hC9 hB K9 hK9
              simp only [Act.put, List.setIfInBounds_toArray, List.set_cons_zero, List.set_cons_succ] at hK9
              go_simp
              exact hK9 _ _ rfl (hC9.stay hG9.self (by decide)) (fun _ => World.grownBy.refl _ _)
            apply wpFactsR_val
            case h1 =>
              intro vs L9 w9 hG9 hC9 hB K9 hK9
              have d3 := FactN.eq (hB 3 _ (by kernel_rfl) (by kernel_rfl) rfl (by decide))
              simp only [d3] at hK9 ⊢
              have q0 : w9.cell? ⟨h5, 1, none⟩ = some (.int .i64 tb) := (hC9.lies L5 nx5).cell 1
              simp only [Act.put, List.setIfInBounds_toArray, List.set_cons_zero, List.set_cons_succ] at hK9
              go_simp
              exact hK9 _ _ rfl (hC9.stay hG9.self (by decide)) (fun _ => World.grownBy.refl _ _)
            refine wpFactsR_some [] (fun v _ => ∃ z : Int, v = .int .i64 z) ?_ (fun vs L9 w9 hG9 hC9 hB K9 hK9 => ?_) ?_
            next =>
              intro i9 hi9 hb9 ha9 v w1 w2 hv hT9
              exact hv
            next =>
              have d4 := FactN.eq (hB 4 _ (by kernel_rfl) (by kernel_rfl) rfl (by decide))
              simp only [d4] at hK9 ⊢
              simp only [Act.put, List.setIfInBounds_toArray, List.set_cons_zero, List.set_cons_succ] at hK9
              go_simp
              refine (l1Most_any _ _ _).mono ?_
              rintro en w8 ⟨⟨x8, rfl⟩, hb8⟩
              exact hK9 _ _ _ rfl ⟨_, rfl⟩ (hC9.below hG9.self (by decide) hb8) (fun _ => grownAny hb8 _)
            apply wpFactsR_val
            case h1 =>
              intro vs L9 w9 hG9 hC9 hB K9 hK9
              simp only [Act.put, List.setIfInBounds_toArray, List.set_cons_zero, List.set_cons_succ] at hK9
              go_simp
              exact hK9 _ _ rfl (hC9.stay hG9.self (by decide)) (fun _ => World.grownBy.refl _ _)
            apply wpFactsR_val
            case h1 =>
              intro vs L9 w9 hG9 hC9 hB K9 hK9
              have d6 := FactN.eq (hB 6 _ (by kernel_rfl) (by kernel_rfl) rfl (by decide))
              simp only [d6] at hK9 ⊢
              have q0 : w9.cell? ⟨h5, 1, none⟩ = some (.int .i64 tb) := (hC9.lies L5 nx5).cell 1
              simp only [Act.put, List.setIfInBounds_toArray, List.set_cons_zero, List.set_cons_succ] at hK9
              go_simp
              exact hK9 _ _ rfl (hC9.stay hG9.self (by decide)) (fun _ => World.grownBy.refl _ _)
            refine wpFactsR_some [] (fun v _ => ∃ z : Int, v = .int .i64 z) ?_ (fun vs L9 w9 hG9 hC9 hB K9 hK9 => ?_) ?_
            next =>
              intro i9 hi9 hb9 ha9 v w1 w2 hv hT9
              exact hv
            next =>
              have d7 := FactN.eq (hB 7 _ (by kernel_rfl) (by kernel_rfl) rfl (by decide))
              simp only [d7] at hK9 ⊢
              simp only [Act.put, List.setIfInBounds_toArray, List.set_cons_zero, List.set_cons_succ] at hK9
              go_simp
              exact hK9 _ _ _ rfl ⟨_, rfl⟩ (hC9.stay hG9.self (by decide)) (fun _ => World.grownBy.refl _ _)
            refine wpFactsR_some [12] (fun v w9 => ∃ (b : Nat) (l : List Int), v = .slice (some ⟨b, 0, none⟩) 3 3 ∧ l.length = 3 ∧ Lies w9 b 3 (encIs l) ∧ b ≠ g) ?_ (fun vs L9 w9 hG9 hC9 hB K9 hK9 => ?_) ?_
            next =>
              intro i9 hi9 hb9 ha9 v w1 w2 hv hT9
              have hb := hT9 (fun hm => by
                simp only [List.mem_cons, List.not_mem_nil, or_false] at hm hb9
                subst hm
                · exact hb9 (by simp))
              obtain ⟨b, l, q1, q2, q3, q4⟩ := hv
              exact ⟨b, l, q1, q2, q3.kept hb (by intro e; injection e with e; exact q4 e), q4⟩
            next =>
              simp only [Act.put, List.setIfInBounds_toArray, List.set_cons_zero, List.set_cons_succ] at hK9
              obtain ⟨z5, e5⟩ := hB 5 _ (by kernel_rfl) (by kernel_rfl) rfl (by decide)
              obtain ⟨z8, e8⟩ := hB 8 _ (by kernel_rfl) (by kernel_rfl) rfl (by decide)
              simp only [e5, e8] at hK9 ⊢
              go_simp
              exact hK9 _ _ _ rfl ⟨w9.heap.size, [1, _, _], rfl, rfl, Lies.new w9 3 _, by have := hC9.env.lt; omega⟩ (hC9.alloc hG9.self (by decide) _) (fun _ => World.grownBy_alloc _ _ _)
            refine wpFactsR_some [] (fun v _ => ∃ z : Int, v = .int .i64 z) ?_ (fun vs L9 w9 hG9 hC9 hB K9 hK9 => ?_) ?_
            next =>
              intro i9 hi9 hb9 ha9 v w1 w2 hv hT9
              exact hv
            next =>
              have d2 := FactN.eq (hB 2 _ (by kernel_rfl) (by kernel_rfl) rfl (by decide))
              simp only [d2] at hK9 ⊢
              simp only [Act.put, List.setIfInBounds_toArray, List.set_cons_zero, List.set_cons_succ] at hK9
              obtain ⟨b9, l9, e9, el9, eL9, en9⟩ := hB 9 _ (by kernel_rfl) (by kernel_rfl) rfl (by decide)
              simp only [e9] at hK9 ⊢
              go_simp
              refine (among_lies hC9.env b9 3 l9 el9 eL9 en9 (by omega) (by omega) (by have := hC9.cnt; omega)).mono ?_
              rintro en w8 ⟨x8, rfl, hE8, hg8⟩
              exact hK9 _ _ _ rfl ⟨_, rfl⟩ (hC9.call hG9.self (by decide) hE8 (by have := hC9.cnt; omega) hg8 (by simp)) (fun _ => hg8)
            refine wpFactsR_some [] (fun v _ => ∃ s : Stp, v = .agg #[.int .i64 s.kind, .int .i64 s.stamp, .int .i64 s.person, .int .i64 s.value]) ?_ (fun vs L9 w9 hG9 hC9 hB K9 hK9 => ?_) ?_
            next =>
              intro i9 hi9 hb9 ha9 v w1 w2 hv hT9
              exact hv
            next =>
              have d1 := FactN.eq (hB 1 _ (by kernel_rfl) (by kernel_rfl) rfl (by decide))
              simp only [d1] at hK9 ⊢
              simp only [Act.put, List.setIfInBounds_toArray, List.set_cons_zero, List.set_cons_succ] at hK9
              obtain ⟨z10, e10⟩ := hB 10 _ (by kernel_rfl) (by kernel_rfl) rfl (by decide)
              simp only [e10] at hK9 ⊢
              go_simp
              exact hK9 _ _ _ rfl ⟨⟨_, _, _, _⟩, rfl⟩ (hC9.stay hG9.self (by decide)) (fun _ => World.grownBy.refl _ _)
            refine wpFactsR_some [] (fun _ w9 => ∃ s : Stp, Lies w9 (W.heap.size + 1) 45 s.enc) ?_ (fun vs L9 w9 hG9 hC9 hB K9 hK9 => ?_) ?_
            next =>
              intro i9 hi9 hb9 ha9 v w1 w2 hv hT9
              have hb := hT9 (fun hm => by
                simp only [List.mem_cons, List.not_mem_nil, or_false] at hm hb9
                subst hm
                · exact hi9 rfl)
              obtain ⟨s, q⟩ := hv
              exact ⟨s, q.kept hb (by intro e; injection e; omega)⟩
            next =>
              simp only [Act.put, List.setIfInBounds_toArray, List.set_cons_zero, List.set_cons_succ] at hK9
              obtain ⟨s11, e11⟩ := hB 11 _ (by kernel_rfl) (by kernel_rfl) rfl (by decide)
              simp only [e11] at hK9 ⊢
              have hL9 : Lies w9 (W.heap.size + 1) 45 [.int .i64 0, .int .i64 0, .int .i64 0, .int .i64 0] := (hC9.room (Room.lies 12 (W.heap.size + 1) 45 [.int .i64 0, .int .i64 0, .int .i64 0, .int .i64 0]) (by simp)).2 hG9.self
              have y0 := hL9.cell 0
              have y1 := hL9.cell 1
              have y2 := hL9.cell 2
              have y3 := hL9.cell 3
              simp only [List.getElem?_cons_zero, List.getElem?_cons_succ] at y0 y1 y2 y3
              have f0 := hL9.frozen 0
              have f1 := hL9.frozen 1
              have f2 := hL9.frozen 2
              have f3 := hL9.frozen 3
              have hN9 : Lies _ (W.heap.size + 1) 45 [.int .i64 s11.kind, .int .i64 s11.stamp, .int .i64 s11.person, .int .i64 s11.value] := ((((hL9.set 0 (.int .i64 s11.kind)).set 1 (.int .i64 s11.stamp)).set 2 (.int .i64 s11.person)).set 3 (.int .i64 s11.value))
              have hG8 := Lib.hid (grown_set (g := (W.heap.size + 1)) (i := 3) (u := .int .i64 s11.value) (grown_set (g := (W.heap.size + 1)) (i := 2) (u := .int .i64 s11.person) (grown_set (g := (W.heap.size + 1)) (i := 1) (u := .int .i64 s11.stamp) (grown_set (g := (W.heap.size + 1)) (i := 0) (u := .int .i64 s11.kind) (World.grownBy.refl w9 (some (W.heap.size + 1)))))))
              have hN8 := Lib.hid hN9
              clear hN9 hL9
              go_simp
              exact hK9 _ undef _ rfl ⟨s11, hN8.out⟩ (hC9.wrote hG9.self (by decide) hG8.out (fun b e => by injection e with e; subst e; exact ⟨(by omega), (by omega), by simp⟩) (by intro p hp e; simp only [List.mem_cons, List.not_mem_nil, or_false] at hp; first | (subst hp; exact .inl rfl) | (rcases hp with rfl | rfl; first | exact .inl rfl | (exfalso; revert e; first | exact HNE.out | simp [Room.lies, Room.row]; first | exact .inl rfl)))) (fun hq => (hq (by decide)).elim)
            refine wpFactsR_nil fun vs Lq w9 hL9 hC9 hB => ?_
            obtain ⟨s, hS⟩ := hB 12 _ rfl rfl (by decide)
            have hEE := hC9.le
            have hGG := drawn_gr G hC9 (by intro k hk hne; simp only [List.mem_cons, List.not_mem_nil, or_false] at hk; omega) E4
            clear hB hL9 hC9
            have hS : Lies w9 (W.heap.size + 1) 45 [.int .i64 s.kind, .int .i64 s.stamp, .int .i64 s.person, .int .i64 s.value] := hS
            have y0 := hS.cell 0
            have y1 := hS.cell 1
            have y2 := hS.cell 2
            have y3 := hS.cell 3
            simp only [List.getElem?_cons_zero, List.getElem?_cons_succ] at y0 y1 y2 y3
            clear hS
            repeat (first | go_step)
            refine bodyPost_ret (v := .agg #[.int .i64 s.kind, .int .i64 s.stamp, .int .i64 s.person, .int .i64 s.value]) (by simp [results, Try.results58, go_sem, y0, y1, y2, y3]) rfl ?_
            exact ⟨s, rfl, hEE.mono (by omega), hGG⟩
          · subst hi
            have u0 := L6.cell 0
            have u1 := L6.cell 1
            have u2 := L6.cell 2
            simp only [List.getElem?_cons_zero, List.getElem?_cons_succ] at u0 u1 u2
            have y0 := L4.cell 0
            have y1 := L4.cell 1
            have y2 := L4.cell 2
            have y3 := L4.cell 3
            simp only [List.getElem?_cons_zero, List.getElem?_cons_succ] at y0 y1 y2 y3
            have f0 := L4.frozen 0
            have f1 := L4.frozen 1
            have f2 := L4.frozen 2
            have f3 := L4.frozen 3
            have hG8 := (grown_set (g := (W.heap.size + 1)) (i := 3) (u := .int .i64 0) (grown_set (g := (W.heap.size + 1)) (i := 2) (u := .int .i64 ob) (grown_set (g := (W.heap.size + 1)) (i := 1) (u := .int .i64 oa) (grown_set (g := (W.heap.size + 1)) (i := 0) (u := .int .i64 5) (World.grownBy.refl W4 (some (W.heap.size + 1)))))))
            have hEE := E4.wrote hG8 (by omega) (by omega)
            have hGG := grown_own G hG8 (by omega)
            have hLS := ((((L4.set 0 (.int .i64 5)).set 1 (.int .i64 oa)).set 2 (.int .i64 ob)).set 3 (.int .i64 0))
            simp only [List.set_cons_zero, List.set_cons_succ] at hLS
            obtain ⟨W8, hW8⟩ : ∃ W8, ((((W4.setCell ⟨(W.heap.size + 1), 0, none⟩ (.int .i64 5)).setCell ⟨(W.heap.size + 1), 1, none⟩ (.int .i64 oa)).setCell ⟨(W.heap.size + 1), 2, none⟩ (.int .i64 ob)).setCell ⟨(W.heap.size + 1), 3, none⟩ (.int .i64 0)) = W8 := ⟨_, rfl⟩
            rw [hW8] at hEE hGG hLS
            have HW8 := Lib.hid hW8
            have HLS := Lib.hid hLS
            clear hG8 L4 G hW8 hLS
            repeat (first | go_values | go_skip | go_guarded | go_step | go_upon | simp only [])
            rw [HW8.out]
            have hLS := HLS.out
            have x0 := hLS.cell 0
            have x1 := hLS.cell 1
            have x2 := hLS.cell 2
            have x3 := hLS.cell 3
            simp only [List.getElem?_cons_zero, List.getElem?_cons_succ] at x0 x1 x2 x3
            refine bodyPost_ret (v := .agg #[.int .i64 5, .int .i64 oa, .int .i64 ob, .int .i64 0]) (by simp [results, Try.results58, go_sem, x0, x1, x2, x3]) rfl ?_
            exact ⟨⟨5, oa, ob, 0⟩, rfl, hEE.mono (by omega), hGG⟩
          · rcases hi with rfl | rfl
            all_goals
              go_wp2_with fail
              refine wp_region_factsR (Dr w W4 g A bs cap (m + 42 + 2 + 2) 2 9 [g, (W.heap.size + 1)] [Room.lies 8 (W.heap.size + 1) 45 [.int .i64 0, .int .i64 0, .int .i64 0, .int .i64 0]]) (fun i w1 w2 => i ∉ [8] → w1.grownBy w2 (some g)) (by kernel_rfl) (by kernel_rfl) (by kernel_rfl) (Dr.start E4 (fun p hp => by simp only [List.mem_singleton] at hp; subst hp; exact ⟨ng.out _ (by omega), L4⟩)) ?_
              simp only [fillOps, Act.put, List.setIfInBounds_toArray, List.set_cons_zero, List.set_cons_succ, Nat.zero_add, Nat.reduceAdd]
              apply wpFactsR_val
              case h1 =>
                intro vs L9 w9 hG9 hC9 hB K9 hK9
                simp only [Act.put, List.setIfInBounds_toArray, List.set_cons_zero, List.set_cons_succ] at hK9
                go_simp
                exact hK9 _ _ rfl (hC9.stay hG9.self (by decide)) (fun _ => World.grownBy.refl _ _)
              apply wpFactsR_val
              case h1 =>
                intro vs L9 w9 hG9 hC9 hB K9 hK9
                have d0 := FactN.eq (hB 0 _ (by kernel_rfl) (by kernel_rfl) rfl (by decide))
                simp only [d0] at hK9 ⊢
                have q0 : w9.cell? ⟨h6, 0, none⟩ = some (.int .i64 oa) := (hC9.lies L6 nx6).cell 0
                simp only [Act.put, List.setIfInBounds_toArray, List.set_cons_zero, List.set_cons_succ] at hK9
                go_simp
                exact hK9 _ _ rfl (hC9.stay hG9.self (by decide)) (fun _ => World.grownBy.refl _ _)
              apply wpFactsR_val
              case h1 =>
                intro vs L9 w9 hG9 hC9 hB K9 hK9
                simp only [Act.put, List.setIfInBounds_toArray, List.set_cons_zero, List.set_cons_succ] at hK9
                go_simp
                exact hK9 _ _ rfl (hC9.stay hG9.self (by decide)) (fun _ => World.grownBy.refl _ _)
              apply wpFactsR_val
              case h1 =>
                intro vs L9 w9 hG9 hC9 hB K9 hK9
                have d2 := FactN.eq (hB 2 _ (by kernel_rfl) (by kernel_rfl) rfl (by decide))
                simp only [d2] at hK9 ⊢
                have q0 : w9.cell? ⟨h6, 1, none⟩ = some (.int .i64 ob) := (hC9.lies L6 nx6).cell 1
                simp only [Act.put, List.setIfInBounds_toArray, List.set_cons_zero, List.set_cons_succ] at hK9
                go_simp
                exact hK9 _ _ rfl (hC9.stay hG9.self (by decide)) (fun _ => World.grownBy.refl _ _)
              apply wpFactsR_val
              case h1 =>
                intro vs L9 w9 hG9 hC9 hB K9 hK9
                simp only [Act.put, List.setIfInBounds_toArray, List.set_cons_zero, List.set_cons_succ] at hK9
                go_simp
                exact hK9 _ _ rfl (hC9.stay hG9.self (by decide)) (fun _ => World.grownBy.refl _ _)
              refine wpFactsR_some [8] (fun v w9 => ∃ (b : Nat) (l : List Int), v = .slice (some ⟨b, 0, none⟩) 4 4 ∧ l.length = 4 ∧ Lies w9 b 3 (encIs l) ∧ b ≠ g) ?_ (fun vs L9 w9 hG9 hC9 hB K9 hK9 => ?_) ?_
              next =>
                intro i9 hi9 hb9 ha9 v w1 w2 hv hT9
                have hb := hT9 (fun hm => by
                  simp only [List.mem_cons, List.not_mem_nil, or_false] at hm hb9
                  subst hm
                  · exact hb9 (by simp))
                obtain ⟨b, l, q1, q2, q3, q4⟩ := hv
                exact ⟨b, l, q1, q2, q3.kept hb (by intro e; injection e with e; exact q4 e), q4⟩
              next =>
                simp only [Act.put, List.setIfInBounds_toArray, List.set_cons_zero, List.set_cons_succ] at hK9
                go_simp
                exact hK9 _ _ _ rfl ⟨w9.heap.size, [5, 17, 18, 999], rfl, rfl, Lies.new w9 3 _, by have := hC9.env.lt; omega⟩ (hC9.alloc hG9.self (by decide) _) (fun _ => World.grownBy_alloc _ _ _)
              refine wpFactsR_some [] (fun v _ => ∃ z : Int, v = .int .i64 z) ?_ (fun vs L9 w9 hG9 hC9 hB K9 hK9 => ?_) ?_
              next =>
                intro i9 hi9 hb9 ha9 v w1 w2 hv hT9
                exact hv
              next =>
                have d4 := FactN.eq (hB 4 _ (by kernel_rfl) (by kernel_rfl) rfl (by decide))
                simp only [d4] at hK9 ⊢
                simp only [Act.put, List.setIfInBounds_toArray, List.set_cons_zero, List.set_cons_succ] at hK9
                obtain ⟨b5, l5, e5, el5, eL5, en5⟩ := hB 5 _ (by kernel_rfl) (by kernel_rfl) rfl (by decide)
                simp only [e5] at hK9 ⊢
                go_simp
                refine (among_lies hC9.env b5 4 l5 el5 eL5 en5 (by omega) (by omega) (by have := hC9.cnt; omega)).mono ?_
                rintro en w8 ⟨x8, rfl, hE8, hg8⟩
                exact hK9 _ _ _ rfl ⟨_, rfl⟩ (hC9.call hG9.self (by decide) hE8 (by have := hC9.cnt; omega) hg8 (by simp)) (fun _ => hg8)
              refine wpFactsR_some [] (fun v _ => ∃ s : Stp, v = .agg #[.int .i64 s.kind, .int .i64 s.stamp, .int .i64 s.person, .int .i64 s.value]) ?_ (fun vs L9 w9 hG9 hC9 hB K9 hK9 => ?_) ?_
              next =>
                intro i9 hi9 hb9 ha9 v w1 w2 hv hT9
                exact hv
              next =>
                have d1 := FactN.eq (hB 1 _ (by kernel_rfl) (by kernel_rfl) rfl (by decide))
                have d3 := FactN.eq (hB 3 _ (by kernel_rfl) (by kernel_rfl) rfl (by decide))
                simp only [d1, d3] at hK9 ⊢
                simp only [Act.put, List.setIfInBounds_toArray, List.set_cons_zero, List.set_cons_succ] at hK9
                obtain ⟨z6, e6⟩ := hB 6 _ (by kernel_rfl) (by kernel_rfl) rfl (by decide)
                simp only [e6] at hK9 ⊢
                go_simp
                exact hK9 _ _ _ rfl ⟨⟨_, _, _, _⟩, rfl⟩ (hC9.stay hG9.self (by decide)) (fun _ => World.grownBy.refl _ _)
              refine wpFactsR_some [] (fun _ w9 => ∃ s : Stp, Lies w9 (W.heap.size + 1) 45 s.enc) ?_ (fun vs L9 w9 hG9 hC9 hB K9 hK9 => ?_) ?_
              next =>
                intro i9 hi9 hb9 ha9 v w1 w2 hv hT9
                have hb := hT9 (fun hm => by
                  simp only [List.mem_cons, List.not_mem_nil, or_false] at hm hb9
                  subst hm
                  · exact hi9 rfl)
                obtain ⟨s, q⟩ := hv
                exact ⟨s, q.kept hb (by intro e; injection e; omega)⟩
              next =>
                simp only [Act.put, List.setIfInBounds_toArray, List.set_cons_zero, List.set_cons_succ] at hK9
                obtain ⟨s7, e7⟩ := hB 7 _ (by kernel_rfl) (by kernel_rfl) rfl (by decide)
                simp only [e7] at hK9 ⊢
                have hL9 : Lies w9 (W.heap.size + 1) 45 [.int .i64 0, .int .i64 0, .int .i64 0, .int .i64 0] := (hC9.room (Room.lies 8 (W.heap.size + 1) 45 [.int .i64 0, .int .i64 0, .int .i64 0, .int .i64 0]) (by simp)).2 hG9.self
                have y0 := hL9.cell 0
                have y1 := hL9.cell 1
                have y2 := hL9.cell 2
                have y3 := hL9.cell 3
                simp only [List.getElem?_cons_zero, List.getElem?_cons_succ] at y0 y1 y2 y3
                have f0 := hL9.frozen 0
                have f1 := hL9.frozen 1
                have f2 := hL9.frozen 2
                have f3 := hL9.frozen 3
                have hN9 : Lies _ (W.heap.size + 1) 45 [.int .i64 s7.kind, .int .i64 s7.stamp, .int .i64 s7.person, .int .i64 s7.value] := ((((hL9.set 0 (.int .i64 s7.kind)).set 1 (.int .i64 s7.stamp)).set 2 (.int .i64 s7.person)).set 3 (.int .i64 s7.value))
                have hG8 := Lib.hid (grown_set (g := (W.heap.size + 1)) (i := 3) (u := .int .i64 s7.value) (grown_set (g := (W.heap.size + 1)) (i := 2) (u := .int .i64 s7.person) (grown_set (g := (W.heap.size + 1)) (i := 1) (u := .int .i64 s7.stamp) (grown_set (g := (W.heap.size + 1)) (i := 0) (u := .int .i64 s7.kind) (World.grownBy.refl w9 (some (W.heap.size + 1)))))))
                have hN8 := Lib.hid hN9
                clear hN9 hL9
                go_simp
                exact hK9 _ undef _ rfl ⟨s7, hN8.out⟩ (hC9.wrote hG9.self (by decide) hG8.out (fun b e => by injection e with e; subst e; exact ⟨(by omega), (by omega), by simp⟩) (by intro p hp e; simp only [List.mem_cons, List.not_mem_nil, or_false] at hp; first | (subst hp; exact .inl rfl) | (rcases hp with rfl | rfl; first | exact .inl rfl | (exfalso; revert e; first | exact HNE.out | simp [Room.lies, Room.row]; first | exact .inl rfl)))) (fun hq => (hq (by decide)).elim)
              refine wpFactsR_nil fun vs Lq w9 hL9 hC9 hB => ?_
              obtain ⟨s, hS⟩ := hB 8 _ rfl rfl (by decide)
              have hEE := hC9.le
              have hGG := drawn_gr G hC9 (by intro k hk hne; simp only [List.mem_cons, List.not_mem_nil, or_false] at hk; omega) E4
              clear hB hL9 hC9
              have hS : Lies w9 (W.heap.size + 1) 45 [.int .i64 s.kind, .int .i64 s.stamp, .int .i64 s.person, .int .i64 s.value] := hS
              have y0 := hS.cell 0
              have y1 := hS.cell 1
              have y2 := hS.cell 2
              have y3 := hS.cell 3
              simp only [List.getElem?_cons_zero, List.getElem?_cons_succ] at y0 y1 y2 y3
              clear hS
              repeat (first | go_step)
              refine bodyPost_ret (v := .agg #[.int .i64 s.kind, .int .i64 s.stamp, .int .i64 s.person, .int .i64 s.value]) (by simp [results, Try.results58, go_sem, y0, y1, y2, y3]) rfl ?_
              exact ⟨s, rfl, hEE.mono (by omega), hGG⟩
        · go_wp2_with fail
          refine wp_region_factsR (Dr w W3 g A bs cap (m + 42 + 2) 2 16 [g, (W.heap.size + 1)] [Room.lies 15 (W.heap.size + 1) 45 [.int .i64 0, .int .i64 0, .int .i64 0, .int .i64 0]]) (fun i w1 w2 => i ∉ [15] → w1.grownBy w2 (some g)) (by kernel_rfl) (by kernel_rfl) (by kernel_rfl) (Dr.start E3 (fun p hp => by simp only [List.mem_singleton] at hp; subst hp; exact ⟨ng.out _ (by omega), L4⟩)) ?_
          simp only [fillOps, Act.put, List.setIfInBounds_toArray, List.set_cons_zero, List.set_cons_succ, Nat.zero_add, Nat.reduceAdd]
          apply wpFactsR_val
          case h1 =>
            intro vs L9 w9 hG9 hC9 hB K9 hK9
            simp only [Act.put, List.setIfInBounds_toArray, List.set_cons_zero, List.set_cons_succ] at hK9
            go_simp
            exact hK9 _ _ rfl (hC9.stay hG9.self (by decide)) (fun _ => World.grownBy.refl _ _)
          refine wpFactsR_some [15] (fun v w9 => ∃ (b : Nat) (l : List Int), v = .slice (some ⟨b, 0, none⟩) 3 3 ∧ l.length = 3 ∧ Lies w9 b 3 (encIs l) ∧ b ≠ g) ?_ (fun vs L9 w9 hG9 hC9 hB K9 hK9 => ?_) ?_
          next =>
            intro i9 hi9 hb9 ha9 v w1 w2 hv hT9
            have hb := hT9 (fun hm => by
              simp only [List.mem_cons, List.not_mem_nil, or_false] at hm hb9
              subst hm
              · exact hb9 (by simp))
            obtain ⟨b, l, q1, q2, q3, q4⟩ := hv
            exact ⟨b, l, q1, q2, q3.kept hb (by intro e; injection e with e; exact q4 e), q4⟩
          next =>
            simp only [Act.put, List.setIfInBounds_toArray, List.set_cons_zero, List.set_cons_succ] at hK9
            go_simp
            exact hK9 _ _ _ rfl ⟨w9.heap.size, [0, 7, 2], rfl, rfl, Lies.new w9 3 _, by have := hC9.env.lt; omega⟩ (hC9.alloc hG9.self (by decide) _) (fun _ => World.grownBy_alloc _ _ _)
          refine wpFactsR_some [] (fun v _ => ∃ z : Int, v = .int .i64 z) ?_ (fun vs L9 w9 hG9 hC9 hB K9 hK9 => ?_) ?_
          next =>
            intro i9 hi9 hb9 ha9 v w1 w2 hv hT9
            exact hv
          next =>
            have d0 := FactN.eq (hB 0 _ (by kernel_rfl) (by kernel_rfl) rfl (by decide))
            simp only [d0] at hK9 ⊢
            simp only [Act.put, List.setIfInBounds_toArray, List.set_cons_zero, List.set_cons_succ] at hK9
            obtain ⟨b1, l1, e1, el1, eL1, en1⟩ := hB 1 _ (by kernel_rfl) (by kernel_rfl) rfl (by decide)
            simp only [e1] at hK9 ⊢
            go_simp
            refine (among_lies hC9.env b1 3 l1 el1 eL1 en1 (by omega) (by omega) (by have := hC9.cnt; omega)).mono ?_
            rintro en w8 ⟨x8, rfl, hE8, hg8⟩
            exact hK9 _ _ _ rfl ⟨_, rfl⟩ (hC9.call hG9.self (by decide) hE8 (by have := hC9.cnt; omega) hg8 (by simp)) (fun _ => hg8)
          apply wpFactsR_val
          case h1 =>
            intro vs L9 w9 hG9 hC9 hB K9 hK9
            simp only [Act.put, List.setIfInBounds_toArray, List.set_cons_zero, List.set_cons_succ] at hK9
            go_simp
            exact hK9 _ _ rfl (hC9.stay hG9.self (by decide)) (fun _ => World.grownBy.refl _ _)
          apply wpFactsR_val
          case h1 =>
            intro vs L9 w9 hG9 hC9 hB K9 hK9
            simp only [Act.put, List.setIfInBounds_toArray, List.set_cons_zero, List.set_cons_succ] at hK9
            go_simp
            exact hK9 _ _ rfl (hC9.stay hG9.self (by decide)) (fun _ => World.grownBy.refl _ _)
          apply wpFactsR_val
          case h1 =>
            intro vs L9 w9 hG9 hC9 hB K9 hK9
            have d4 := FactN.eq (hB 4 _ (by kernel_rfl) (by kernel_rfl) rfl (by decide))
            simp only [d4] at hK9 ⊢
            have q0 : w9.cell? ⟨h5, 0, none⟩ = some (.int .i64 ta) := (hC9.lies L5 nx5).cell 0
            simp only [Act.put, List.setIfInBounds_toArray, List.set_cons_zero, List.set_cons_succ] at hK9
            go_simp
            exact hK9 _ _ rfl (hC9.stay hG9.self (by decide)) (fun _ => World.grownBy.refl _ _)
          refine wpFactsR_some [15] (fun v w9 => ∃ (b : Nat) (l : List Int), v = .slice (some ⟨b, 0, none⟩) 3 3 ∧ l.length = 3 ∧ Lies w9 b 3 (encIs l) ∧ b ≠ g) ?_ (fun vs L9 w9 hG9 hC9 hB K9 hK9 => ?_) ?_
          next =>
            intro i9 hi9 hb9 ha9 v w1 w2 hv hT9
            have hb := hT9 (fun hm => by
              simp only [List.mem_cons, List.not_mem_nil, or_false] at hm hb9
              subst hm
              · exact hb9 (by simp))
            obtain ⟨b, l, q1, q2, q3, q4⟩ := hv
            exact ⟨b, l, q1, q2, q3.kept hb (by intro e; injection e with e; exact q4 e), q4⟩
          next =>
            have d5 := FactN.eq (hB 5 _ (by kernel_rfl) (by kernel_rfl) rfl (by decide))
            simp only [d5] at hK9 ⊢
            simp only [Act.put, List.setIfInBounds_toArray, List.set_cons_zero, List.set_cons_succ] at hK9
            go_simp
            exact hK9 _ _ _ rfl ⟨w9.heap.size, [0, _, 100], rfl, rfl, Lies.new w9 3 _, by have := hC9.env.lt; omega⟩ (hC9.alloc hG9.self (by decide) _) (fun _ => World.grownBy_alloc _ _ _)
          refine wpFactsR_some [] (fun v _ => ∃ z : Int, v = .int .i64 z) ?_ (fun vs L9 w9 hG9 hC9 hB K9 hK9 => ?_) ?_
          next =>
            intro i9 hi9 hb9 ha9 v w1 w2 hv hT9
            exact hv
          next =>
            have d3 := FactN.eq (hB 3 _ (by kernel_rfl) (by kernel_rfl) rfl (by decide))
            simp only [d3] at hK9 ⊢
            simp only [Act.put, List.setIfInBounds_toArray, List.set_cons_zero, List.set_cons_succ] at hK9
            obtain ⟨b6, l6, e6, el6, eL6, en6⟩ := hB 6 _ (by kernel_rfl) (by kernel_rfl) rfl (by decide)
            simp only [e6] at hK9 ⊢
            go_simp
            refine (among_lies hC9.env b6 3 l6 el6 eL6 en6 (by omega) (by omega) (by have := hC9.cnt; omega)).mono ?_
            rintro en w8 ⟨x8, rfl, hE8, hg8⟩
            exact hK9 _ _ _ rfl ⟨_, rfl⟩ (hC9.call hG9.self (by decide) hE8 (by have := hC9.cnt; omega) hg8 (by simp)) (fun _ => hg8)
          apply wpFactsR_val
          case h1 =>
            intro vs L9 w9 hG9 hC9 hB K9 hK9
            simp only [Act.put, List.setIfInBounds_toArray, List.set_cons_zero, List.set_cons_succ] at hK9
            go_simp
            exact hK9 _ _ rfl (hC9.stay hG9.self (by decide)) (fun _ => World.grownBy.refl _ _)
          refine wpFactsR_some [15] (fun v w9 => ∃ (b : Nat) (l : List Int), v = .slice (some ⟨b, 0, none⟩) 2 2 ∧ l.length = 2 ∧ Lies w9 b 3 (encIs l) ∧ b ≠ g) ?_ (fun vs L9 w9 hG9 hC9 hB K9 hK9 => ?_) ?_
          next =>
            intro i9 hi9 hb9 ha9 v w1 w2 hv hT9
            have hb := hT9 (fun hm => by
              simp only [List.mem_cons, List.not_mem_nil, or_false] at hm hb9
              subst hm
              · exact hb9 (by simp))
            obtain ⟨b, l, q1, q2, q3, q4⟩ := hv
            exact ⟨b, l, q1, q2, q3.kept hb (by intro e; injection e with e; exact q4 e), q4⟩
          next =>
            simp only [Act.put, List.setIfInBounds_toArray, List.set_cons_zero, List.set_cons_succ] at hK9
            go_simp
            exact hK9 _ _ _ rfl ⟨w9.heap.size, [0, 5], rfl, rfl, Lies.new w9 3 _, by have := hC9.env.lt; omega⟩ (hC9.alloc hG9.self (by decide) _) (fun _ => World.grownBy_alloc _ _ _)
          refine wpFactsR_some [] (fun v _ => ∃ z : Int, v = .int .i64 z) ?_ (fun vs L9 w9 hG9 hC9 hB K9 hK9 => ?_) ?_
          next =>
            intro i9 hi9 hb9 ha9 v w1 w2 hv hT9
            exact hv
          next =>
            have d8 := FactN.eq (hB 8 _ (by kernel_rfl) (by kernel_rfl) rfl (by decide))
            simp only [d8] at hK9 ⊢
            simp only [Act.put, List.setIfInBounds_toArray, List.set_cons_zero, List.set_cons_succ] at hK9
            obtain ⟨b9, l9, e9, el9, eL9, en9⟩ := hB 9 _ (by kernel_rfl) (by kernel_rfl) rfl (by decide)
            simp only [e9] at hK9 ⊢
            go_simp
            refine (among_lies hC9.env b9 2 l9 el9 eL9 en9 (by omega) (by omega) (by have := hC9.cnt; omega)).mono ?_
            rintro en w8 ⟨x8, rfl, hE8, hg8⟩
            exact hK9 _ _ _ rfl ⟨_, rfl⟩ (hC9.call hG9.self (by decide) hE8 (by have := hC9.cnt; omega) hg8 (by simp)) (fun _ => hg8)
          apply wpFactsR_val
          case h1 =>
            intro vs L9 w9 hG9 hC9 hB K9 hK9
            simp only [Act.put, List.setIfInBounds_toArray, List.set_cons_zero, List.set_cons_succ] at hK9
            go_simp
            exact hK9 _ _ rfl (hC9.stay hG9.self (by decide)) (fun _ => World.grownBy.refl _ _)
          refine wpFactsR_some [15] (fun v w9 => ∃ (b : Nat) (l : List Int), v = .slice (some ⟨b, 0, none⟩) 3 3 ∧ l.length = 3 ∧ Lies w9 b 3 (encIs l) ∧ b ≠ g) ?_ (fun vs L9 w9 hG9 hC9 hB K9 hK9 => ?_) ?_
          next =>
            intro i9 hi9 hb9 ha9 v w1 w2 hv hT9
            have hb := hT9 (fun hm => by
              simp only [List.mem_cons, List.not_mem_nil, or_false] at hm hb9
              subst hm
              · exact hb9 (by simp))
            obtain ⟨b, l, q1, q2, q3, q4⟩ := hv
            exact ⟨b, l, q1, q2, q3.kept hb (by intro e; injection e with e; exact q4 e), q4⟩
          next =>
            simp only [Act.put, List.setIfInBounds_toArray, List.set_cons_zero, List.set_cons_succ] at hK9
            go_simp
            exact hK9 _ _ _ rfl ⟨w9.heap.size, [0, 1, -1], rfl, rfl, Lies.new w9 3 _, by have := hC9.env.lt; omega⟩ (hC9.alloc hG9.self (by decide) _) (fun _ => World.grownBy_alloc _ _ _)
          refine wpFactsR_some [] (fun v _ => ∃ z : Int, v = .int .i64 z) ?_ (fun vs L9 w9 hG9 hC9 hB K9 hK9 => ?_) ?_
          next =>
            intro i9 hi9 hb9 ha9 v w1 w2 hv hT9
            exact hv
          next =>
            have d11 := FactN.eq (hB 11 _ (by kernel_rfl) (by kernel_rfl) rfl (by decide))
            simp only [d11] at hK9 ⊢
            simp only [Act.put, List.setIfInBounds_toArray, List.set_cons_zero, List.set_cons_succ] at hK9
            obtain ⟨b12, l12, e12, el12, eL12, en12⟩ := hB 12 _ (by kernel_rfl) (by kernel_rfl) rfl (by decide)
            simp only [e12] at hK9 ⊢
            go_simp
            refine (among_lies hC9.env b12 3 l12 el12 eL12 en12 (by omega) (by omega) (by have := hC9.cnt; omega)).mono ?_
            rintro en w8 ⟨x8, rfl, hE8, hg8⟩
            exact hK9 _ _ _ rfl ⟨_, rfl⟩ (hC9.call hG9.self (by decide) hE8 (by have := hC9.cnt; omega) hg8 (by simp)) (fun _ => hg8)
          refine wpFactsR_some [] (fun v _ => ∃ s : Stp, v = .agg #[.int .i64 s.kind, .int .i64 s.stamp, .int .i64 s.person, .int .i64 s.value]) ?_ (fun vs L9 w9 hG9 hC9 hB K9 hK9 => ?_) ?_
          next =>
            intro i9 hi9 hb9 ha9 v w1 w2 hv hT9
            exact hv
          next =>
            simp only [Act.put, List.setIfInBounds_toArray, List.set_cons_zero, List.set_cons_succ] at hK9
            obtain ⟨z2, e2⟩ := hB 2 _ (by kernel_rfl) (by kernel_rfl) rfl (by decide)
            obtain ⟨z7, e7⟩ := hB 7 _ (by kernel_rfl) (by kernel_rfl) rfl (by decide)
            obtain ⟨z10, e10⟩ := hB 10 _ (by kernel_rfl) (by kernel_rfl) rfl (by decide)
            obtain ⟨z13, e13⟩ := hB 13 _ (by kernel_rfl) (by kernel_rfl) rfl (by decide)
            simp only [e2, e7, e10, e13] at hK9 ⊢
            go_simp
            exact hK9 _ _ _ rfl ⟨⟨_, _, _, _⟩, rfl⟩ (hC9.stay hG9.self (by decide)) (fun _ => World.grownBy.refl _ _)
          refine wpFactsR_some [] (fun _ w9 => ∃ s : Stp, Lies w9 (W.heap.size + 1) 45 s.enc) ?_ (fun vs L9 w9 hG9 hC9 hB K9 hK9 => ?_) ?_
          next =>
            intro i9 hi9 hb9 ha9 v w1 w2 hv hT9
            have hb := hT9 (fun hm => by
              simp only [List.mem_cons, List.not_mem_nil, or_false] at hm hb9
              subst hm
              · exact hi9 rfl)
            obtain ⟨s, q⟩ := hv
            exact ⟨s, q.kept hb (by intro e; injection e; omega)⟩
          next =>
            simp only [Act.put, List.setIfInBounds_toArray, List.set_cons_zero, List.set_cons_succ] at hK9
            obtain ⟨s14, e14⟩ := hB 14 _ (by kernel_rfl) (by kernel_rfl) rfl (by decide)
            simp only [e14] at hK9 ⊢
            have hL9 : Lies w9 (W.heap.size + 1) 45 [.int .i64 0, .int .i64 0, .int .i64 0, .int .i64 0] := (hC9.room (Room.lies 15 (W.heap.size + 1) 45 [.int .i64 0, .int .i64 0, .int .i64 0, .int .i64 0]) (by simp)).2 hG9.self
            have y0 := hL9.cell 0
            have y1 := hL9.cell 1
            have y2 := hL9.cell 2
            have y3 := hL9.cell 3
            simp only [List.getElem?_cons_zero, List.getElem?_cons_succ] at y0 y1 y2 y3
            have f0 := hL9.frozen 0
            have f1 := hL9.frozen 1
            have f2 := hL9.frozen 2
            have f3 := hL9.frozen 3
            have hN9 : Lies _ (W.heap.size + 1) 45 [.int .i64 s14.kind, .int .i64 s14.stamp, .int .i64 s14.person, .int .i64 s14.value] := ((((hL9.set 0 (.int .i64 s14.kind)).set 1 (.int .i64 s14.stamp)).set 2 (.int .i64 s14.person)).set 3 (.int .i64 s14.value))
            have hG8 := Lib.hid (grown_set (g := (W.heap.size + 1)) (i := 3) (u := .int .i64 s14.value) (grown_set (g := (W.heap.size + 1)) (i := 2) (u := .int .i64 s14.person) (grown_set (g := (W.heap.size + 1)) (i := 1) (u := .int .i64 s14.stamp) (grown_set (g := (W.heap.size + 1)) (i := 0) (u := .int .i64 s14.kind) (World.grownBy.refl w9 (some (W.heap.size + 1)))))))
            have hN8 := Lib.hid hN9
            clear hN9 hL9
            go_simp
            exact hK9 _ undef _ rfl ⟨s14, hN8.out⟩ (hC9.wrote hG9.self (by decide) hG8.out (fun b e => by injection e with e; subst e; exact ⟨(by omega), (by omega), by simp⟩) (by intro p hp e; simp only [List.mem_cons, List.not_mem_nil, or_false] at hp; first | (subst hp; exact .inl rfl) | (rcases hp with rfl | rfl; first | exact .inl rfl | (exfalso; revert e; first | exact HNE.out | simp [Room.lies, Room.row]; first | exact .inl rfl)))) (fun hq => (hq (by decide)).elim)
          refine wpFactsR_nil fun vs Lq w9 hL9 hC9 hB => ?_
          obtain ⟨s, hS⟩ := hB 15 _ rfl rfl (by decide)
          have hEE := hC9.le
          have hGG := drawn_gr G hC9 (by intro k hk hne; simp only [List.mem_cons, List.not_mem_nil, or_false] at hk; omega) E3
          clear hB hL9 hC9
          have hS : Lies w9 (W.heap.size + 1) 45 [.int .i64 s.kind, .int .i64 s.stamp, .int .i64 s.person, .int .i64 s.value] := hS
          have y0 := hS.cell 0
          have y1 := hS.cell 1
          have y2 := hS.cell 2
          have y3 := hS.cell 3
          simp only [List.getElem?_cons_zero, List.getElem?_cons_succ] at y0 y1 y2 y3
          clear hS
          repeat (first | go_step)
          refine bodyPost_ret (v := .agg #[.int .i64 s.kind, .int .i64 s.stamp, .int .i64 s.person, .int .i64 s.value]) (by simp [results, Try.results58, go_sem, y0, y1, y2, y3]) rfl ?_
          exact ⟨s, rfl, hEE.mono (by omega), hGG⟩
end Go.Proofs.Ytdiojhjkcholiaa
