/- Marks on rows of the call's own, and their reading. (Printed by gen_struct.py Row OfficeRow m,b,s,c,l mark,held) -/
import Derived.Test.YtpjfidmapnnbkaaRow
import Derived.Test.YtpjfidmapnnbkaaInts
import Derived.Test.YtpjfidmapnnbkaaMore
namespace Go.Proofs.Ytpjfidmapnnbkaa
open Go.RowKit

set_option maxHeartbeats 1000000 in
theorem markRows_any (A : Option Addr) (c n B : Nat) (k0 : Int) (cs : List Value) (w : World) (hk : -1000000000 ≤ k0) (hk' : k0 ≤ 1000000000) (hn : n ≤ 100000000) (h : OwnS w B 42 5 A n cs) :
    Calls Try.prog 10 #[.slice A n c, .int .i64 k0] w fun e w' => e = .returned (.int .i64 (k0 + 5 * n)) ∧ OwnS w' B 42 5 A n (encIs (ramp k0 (n * 5))) ∧ w.grownBy w' (A.map (·.block)) := by
  obtain ⟨hl, hn', h0 | ⟨g, rest, rfl, hg, hh⟩⟩ := h
  · obtain ⟨rfl, rfl⟩ := h0
    go_enter Try.func10, Try.ntmps10
    go_wp2
    refine wp_loop_rounds 1 ?_
    rw [rounds_succ]
    go_wp2
    go_ret
    exact ⟨by simp, ⟨by simp [ramp], by omega, .inl ⟨rfl, rfl⟩⟩, World.grownBy.refl w _⟩
  · have HF : Hid (Lies w g 42 (encIs (ramp k0 (0 * 5)) ++ (cs ++ rest)) ∧ n * 5 ≤ (cs ++ rest).length) := ⟨by simpa [ramp] using hh, by simp; omega⟩
    clear hh hl
    go_enter Try.func10, Try.ntmps10
    go_wp2
    go_loopw [1, 5] (fun kk i wr => ∃ (j : Nat) (more : List Value), j ≤ n ∧ i = .int .i64 j ∧ kk = .int .i64 (k0 + 5 * j) ∧ Hid (Lies wr g 42 (encIs (ramp k0 (j * 5)) ++ more) ∧ n * 5 ≤ j * 5 + more.length) ∧ w.grownBy wr (some g)) (fun _ i _ => n - (intOf i).toNat)
    case atStart => exact ⟨0, cs ++ rest, Nat.zero_le _, rfl, congrArg _ (by simp), ⟨HF.out.1, by have := HF.out.2; omega⟩, World.grownBy.refl w _⟩
    case round =>
      obtain ⟨j, more, hj, rfl, rfl, HR, hgr⟩ := hrel
      by_cases hlt : j < n
      · obtain ⟨u0, u1, u2, u3, u4, more', rfl⟩ : ∃ u0 u1 u2 u3 u4 more', more = u0 :: u1 :: u2 :: u3 :: u4 :: more' := by
          have h2 := HR.out.2
          have hle : 5 ≤ more.length := by omega
          clear HR HF
          exact split_5 hle
        have HE : Hid ((encIs (ramp k0 (j * 5))).length = j * 5) := by unfold Hid encIs; rw [List.length_map, ramp_len]
        have c0 : wr.cell? ⟨g, j * 5, none⟩ = some u0 := (HR.out.1.cell _).trans (at_behind HE.out 0)
        have f0 : wr.frozen? ⟨g, j * 5, none⟩ = false := HR.out.1.frozen _
        have c1 : wr.cell? ⟨g, j * 5 + 1, none⟩ = some u1 := (HR.out.1.cell _).trans (at_behind HE.out 1)
        have f1 : wr.frozen? ⟨g, j * 5 + 1, none⟩ = false := HR.out.1.frozen _
        have c2 : wr.cell? ⟨g, j * 5 + 2, none⟩ = some u2 := (HR.out.1.cell _).trans (at_behind HE.out 2)
        have f2 : wr.frozen? ⟨g, j * 5 + 2, none⟩ = false := HR.out.1.frozen _
        have c3 : wr.cell? ⟨g, j * 5 + 3, none⟩ = some u3 := (HR.out.1.cell _).trans (at_behind HE.out 3)
        have f3 : wr.frozen? ⟨g, j * 5 + 3, none⟩ = false := HR.out.1.frozen _
        have c4 : wr.cell? ⟨g, j * 5 + 4, none⟩ = some u4 := (HR.out.1.cell _).trans (at_behind HE.out 4)
        have f4 : wr.frozen? ⟨g, j * 5 + 4, none⟩ = false := HR.out.1.frozen _
        go_wp2
        go_roundw
        case rel =>
          refine ⟨j + 1, more', by omega, by go_num, congrArg _ (by omega), ⟨?_, by have := HR.out.2; simp only [List.length_cons] at this; omega⟩, grown_set (grown_set (grown_set (grown_set (grown_set (hgr)))))⟩
          have h1 := HR.out.1
          have h1 := h1.set (j * 5) (.int .i64 (k0 + 5 * (j : Int)))
          have e0 := fun r u => set_behind (r := r) HE.out 0 (u : Value)
          rw [Nat.add_zero] at e0
          rw [e0] at h1
          have h1 := h1.set (j * 5 + 1) (.int .i64 (k0 + 5 * (j : Int) + 1))
          rw [set_behind HE.out 1] at h1
          have h1 := h1.set (j * 5 + 2) (.int .i64 (k0 + 5 * (j : Int) + 1 + 1))
          rw [set_behind HE.out 2] at h1
          have h1 := h1.set (j * 5 + 3) (.int .i64 (k0 + 5 * (j : Int) + 1 + 1 + 1))
          rw [set_behind HE.out 3] at h1
          have h1 := h1.set (j * 5 + 4) (.int .i64 (k0 + 5 * (j : Int) + 1 + 1 + 1 + 1))
          rw [set_behind HE.out 4] at h1
          have e : ramp k0 ((j + 1) * 5) = ramp k0 (j * 5) ++ [k0 + 5 * (j : Int), k0 + 5 * (j : Int) + 1, k0 + 5 * (j : Int) + 1 + 1, k0 + 5 * (j : Int) + 1 + 1 + 1, k0 + 5 * (j : Int) + 1 + 1 + 1 + 1] := by
            rw [show (j + 1) * 5 = j * 5 + 5 by omega]
            simp only [ramp_snoc, List.append_assoc, List.cons_append, List.nil_append]
            simp
            omega
          rw [e]
          unfold encIs at h1 ⊢
          rw [List.map_append, List.append_assoc]
          exact h1
        case measure => simp [intOf]; omega
      · have HJ : Hid (j = n) := by unfold Hid; omega
        go_wp2
        go_ret
        refine ⟨by rw [← HJ.out]; rfl, ⟨by rw [encIs_len, ramp_len, Nat.mul_one], hn', .inr ⟨g, more, rfl, hg, by rw [← HJ.out]; exact HR.out.1⟩⟩, hgr⟩

set_option maxHeartbeats 1000000 in
theorem heldRows_any (A : Option Addr) (c n : Nat) (k0 : Int) (w : World) (hk : -1000000000 ≤ k0) (hk' : k0 ≤ 1000000000) (hn : n ≤ 100000000) (h : SlcR w w.heap.size 5 A n (encIs (ramp k0 (n * 5)))) :
    Calls Try.prog 11 #[.slice A n c, .int .i64 k0] w fun e w' => e = .returned (.int .i64 (k0 + 5 * n)) ∧ Below w.heap.size w w' := by
  have hrd := h.at_
  go_enter Try.func11, Try.ntmps11
  go_wp2
  go_loopw [1, 5] (fun kk i wr => ∃ j : Nat, j ≤ n ∧ i = .int .i64 j ∧ kk = .int .i64 (k0 + 5 * j) ∧ Below w.heap.size w wr) (fun _ i _ => n - (intOf i).toNat)
  case atStart => exact ⟨0, Nat.zero_le _, rfl, congrArg _ (by simp), Below.refl _ _⟩
  case round =>
    obtain ⟨j, hj, rfl, rfl, hbr⟩ := hrel
    by_cases hlt : j < n
    · obtain ⟨b, off, rfl, hb, hcell⟩ := hrd (by omega)
      obtain ⟨q, rfl⟩ : ∃ q : Since w.heap.size w, wr = q.val := ⟨⟨wr, hbr⟩, rfl⟩
      have key : ∀ (i : Nat), i < 5 → ∀ p : Since w.heap.size w, p.val.cell? ⟨b, off + j * 5 + i, none⟩ = some (.int .i64 (k0 + 5 * (j : Int) + i)) := fun i hi p => by
        rw [p.cell hb, Nat.add_assoc, hcell (j * 5 + i) _ (enc_ramp_at (by omega))]
        congr 2
        omega
      have c0 : ∀ p : Since w.heap.size w, p.val.cell? ⟨b, off + j * 5, none⟩ = some (.int .i64 (k0 + 5 * (j : Int))) := fun p => by
        have := key 0 (by omega) p
        simpa using this
      have c1 : ∀ p : Since w.heap.size w, p.val.cell? ⟨b, off + j * 5 + 1, none⟩ = some (.int .i64 (k0 + 5 * (j : Int) + 1)) := fun p => by
        have := key 1 (by omega) p
        rw [this]; congr 2 <;> omega
      have c2 : ∀ p : Since w.heap.size w, p.val.cell? ⟨b, off + j * 5 + 2, none⟩ = some (.int .i64 (k0 + 5 * (j : Int) + 1 + 1)) := fun p => by
        have := key 2 (by omega) p
        rw [this]; congr 2 <;> omega
      have c3 : ∀ p : Since w.heap.size w, p.val.cell? ⟨b, off + j * 5 + 3, none⟩ = some (.int .i64 (k0 + 5 * (j : Int) + 1 + 1 + 1)) := fun p => by
        have := key 3 (by omega) p
        rw [this]; congr 2 <;> omega
      have c4 : ∀ p : Since w.heap.size w, p.val.cell? ⟨b, off + j * 5 + 4, none⟩ = some (.int .i64 (k0 + 5 * (j : Int) + 1 + 1 + 1 + 1)) := fun p => by
        have := key 4 (by omega) p
        rw [this]; congr 2 <;> omega
      clear key hcell hrd
      go_wp2
      go_roundw
      case rel => exact ⟨j + 1, by omega, by go_num, congrArg _ (by omega), q.below⟩
      case measure => simp [intOf]; omega
    · have HJ : Hid (j = n) := by unfold Hid; omega
      clear hrd
      go_wp2
      go_ret
      exact ⟨by rw [← HJ.out]; rfl, hbr⟩

end Go.Proofs.Ytpjfidmapnnbkaa
