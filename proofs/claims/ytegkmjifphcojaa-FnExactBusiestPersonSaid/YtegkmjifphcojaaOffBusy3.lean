/- BusiestPerson, in the program. -/
import Derived.Test.YtegkmjifphcojaaOffBusy2
namespace Go.Proofs.Ytegkmjifphcojaa
open Go.RowKit

theorem atPerson_all (o : Outing) (gk : Nat) (kd : Int) (w : World) (hk : gk < w.heap.size) (hc : w.cell? ⟨gk, 0, none⟩ = some (.int .i64 kd)) :
    Calls Try.prog 77 (#[o.val] ++ #[.pointer (some ⟨gk, 0, none⟩)]) w fun e w' => e = .returned (.bool (decide (o.p = kd))) ∧ Below w.heap.size w w' := by
  show Calls Try.prog 77 #[o.val, .pointer (some ⟨gk, 0, none⟩)] w _
  have hc' : (w.alloc (.cells #[.int .i64 o.k, .int .i64 o.p, .int .i64 o.c] 104)).cell? ⟨gk, 0, none⟩ = some (.int .i64 kd) := ((Below.refl w.heap.size w).alloc (Nat.le_refl _) _).cell hk |>.trans hc
  obtain ⟨v, hv⟩ : ∃ v, (o.p == kd) = v := ⟨_, rfl⟩
  have HV : Hid (decide (o.p = kd) = v) := by rw [← hv]; unfold Hid; rw [Bool.eq_iff_iff]; simp
  cases v
  all_goals
    go_enter Try.func77, Try.ntmps77
    go_wp2
    go_ret
    exact ⟨by rw [HV.out]; rfl, (Below.refl _ _).alloc (Nat.le_refl _) _⟩

/-- How far the counter in a cell is from 1000. -/
def cellLeft (pp : Value) (w : World) : Nat :=
  match pp with
  | .pointer (some a) => (match w.cell? a with | some (.int _ p) => (1000 - p).toNat | _ => 0)
  | _ => 0
theorem cellLeft_of {w : World} {g : Nat} {t : TypeId} {p : Int} (h : Lies w g t [.int .i64 p]) : cellLeft (.pointer (some ⟨g, 0, none⟩)) w = (1000 - p).toNat := by
  unfold cellLeft
  simp only [h.cell 0, List.getElem?_cons_zero]

set_option maxRecDepth 20000 in
set_option maxHeartbeats 2000000 in
theorem implBusiestPerson_any (x : Off) (w : World) (h : OffR w w.heap.size x) :
    Calls Try.prog 24 #[x.val] w fun e w' => e = .returned (.tuple #[.int .i64 (busyV x), .bool (busyOk x)]) ∧ Below w.heap.size w w' := by
  have hmf : ∀ (fn : Fn) (first cap : Array Value) (w : World), (Instr.makeFunc fn first cap).run Try.prog w = .ok (.func fn first cap) w := fun _ _ _ _ => rfl
  have b1 := (Below.refl w.heap.size w).alloc (Nat.le_refl _) (.cells #[.slice x.TA x.t.length x.tc, .slice x.OA x.o.length x.oc, .int .i64 x.got, .int .i64 x.sold, .int .i64 x.missed] 31)
  have hA := box_at h 31
  have cG := fun W hW => isOfficeValid_any x w.heap.size W hW
  cases hg : goodOff x
  · have HF : Hid (busyV x = 0 ∧ busyOk x = false) := by unfold busyV busyOk; rw [hg]; exact ⟨rfl, rfl⟩
    rw [hg] at cG
    clear hg
    go_enter Try.func24, Try.ntmps24
    go_wp2_with fail
    generalize w.alloc (.cells #[.slice x.TA x.t.length x.tc, .slice x.OA x.o.length x.oc, .int .i64 x.got, .int .i64 x.sold, .int .i64 x.missed] 31) = W at b1 hA ⊢
    refine (cG _ hA).mono ?_
    rintro e w1 ⟨rfl, hb⟩
    go_wp2
    go_ret2
    exact ⟨by rw [HF.out.1, HF.out.2]; rfl, bthen b1 hb⟩
  · have G := good_iff.1 hg
    have ol := G.ol
    have HOLL := Lib.hid G.oall
    have HGD : Hid (goodOff x = true) := hg
    have hc1 : ∀ r ∈ x.o, 1 ≤ r.c := fun r hr => by
      obtain ⟨i, hi, rfl⟩ := List.getElem_of_mem hr
      exact (Outing.bounds (G.oall i hi)).2.2.1
    have hp1 : ∀ r ∈ x.o, 1 ≤ r.p ∧ r.p ≤ 999 := fun r hr => by
      obtain ⟨i, hi, rfl⟩ := List.getElem_of_mem hr
      exact (Outing.bounds (G.oall i hi)).2.1
    have HSM := Lib.hid (best_same x.o hc1 hp1)
    rw [hg] at cG
    clear hg G hc1 hp1
    by_cases hlen : 0 < x.o.length
    · have HF : Hid (busyV x = (specBest x.o x.o (0, 0)).1 ∧ busyOk x = true) := by
        have : busyOk x = true := by unfold busyOk; rw [HGD.out, decide_eq_true hlen]; rfl
        unfold busyV; rw [this]; exact ⟨rfl, rfl⟩
      have hne : ((x.o.length : Int) == 0) = false := by rw [beq_eq_false_iff_ne]; omega
      go_enter Try.func24, Try.ntmps24
      go_wp2_with fail
      generalize w.alloc (.cells #[.slice x.TA x.t.length x.tc, .slice x.OA x.o.length x.oc, .int .i64 x.got, .int .i64 x.sold, .int .i64 x.missed] 31) = W at b1 hA ⊢
      obtain ⟨s0, s1, s2, s3, s4⟩ := hA.s
      refine (calls_since0 (cG _ hA)).mono ?_
      rintro e w1 ⟨rfl, q1, rfl⟩
      have hL0 := Lies.new q1.val 3 #[.int .i64 1]
      have hB0 := q1.below.alloc q1.size (.cells #[.int .i64 1] 3)
      have hs0 := q1.size
      go_wp2
      go_loopw [4, 5, 6] (fun bb mm pp wr => ∃ (k g : Nat) (p : Int) (b : Int × Int), (k : Int) + p = 1000 ∧ 1 ≤ p ∧ pp = .pointer (some ⟨g, 0, none⟩) ∧ bb = .int .i64 b.1 ∧ mm = .int .i64 b.2 ∧ W.heap.size ≤ g ∧ Hid (Lies wr g 3 [.int .i64 p]) ∧ Below W.heap.size W wr ∧ Hid (implBest x.o k p b = specBest x.o x.o (0, 0))) (fun _ _ pp wr => cellLeft pp wr)
      case atStart => exact ⟨999, q1.val.heap.size, 1, (0, 0), by omega, by omega, rfl, rfl, rfl, hs0, hL0, hB0, HSM.out⟩
      case round =>
        obtain ⟨k, g, p, ⟨b1', b2'⟩, hkp, hp1, rfl, rfl, rfl, hg, HL, hbr, HR⟩ := hrel
        have c0 : wr.cell? ⟨g, 0, none⟩ = some (.int .i64 p) := HL.out.cell 0
        cases k with
        | zero =>
          have hp : p = 1000 := by omega
          subst hp
          have HE : Hid ((b1', b2') = specBest x.o x.o (0, 0)) := HR.out
          go_wp2
          go_ret2
          exact ⟨by rw [HF.out.1, HF.out.2, ← HE.out]; rfl, b1.trans (hbr.mono b1.size)⟩
        | succ k =>
          have hle : p ≤ 999 := by omega
          have hk1 : (k : Int) + p ≤ 999 := by omega
          have hk2 : 999 ≤ (k : Int) + p := by omega
          clear hkp
          have HS : Hid (implBest x.o (k + 1) p (b1', b2') = implBest x.o k (p + 1) (if b2' < atP x.o p then (p, atP x.o p) else (b1', b2'))) := rfl
          have hlt := HL.out.lt
          have HM := cellLeft_of HL.out
          go_wp2_with fail
          refine (stampsOut_any (fun o => decide (o.p = p)) 77 #[.pointer (some ⟨g, 0, none⟩)] Try.call77 x w.heap.size wr (fun o q => atPerson_all o g p q.val (Nat.lt_of_lt_of_le hlt q.size) ((q.cell hlt).trans c0)) (hA.at ⟨wr, hbr⟩) ol HOLL.out).mono ?_
          rintro e w2 ⟨rfl, hb2⟩
          have c1 : w2.cell? ⟨g, 0, none⟩ = some (.int .i64 p) := (hb2.cell hlt).trans c0
          have hB2 := hbr.trans (hb2.mono hbr.size)
          have hL3 := Lies.new w2 3 #[.int .i64 (p + 1)]
          have hB3 := hB2.alloc hB2.size (.cells #[.int .i64 (p + 1)] 3)
          have hs3 := hB2.size
          have hVe : outSum (fun o => decide (o.p = p)) x.o = atP x.o p := rfl
          rw [hVe]
          clear hVe
          obtain ⟨V, hV⟩ : ∃ V, atP x.o p = V := ⟨_, rfl⟩
          rw [hV] at HS
          rw [hV]
          clear hV c0
          have HM3 := Lib.hid (cellLeft_of hL3)
          have HML := Lib.hid HM; clear HM
          by_cases hlt2 : b2' < V
          · rw [if_pos hlt2] at HS
            go_wp2
            go_roundw
            case rel => exact ⟨k, w2.heap.size, p + 1, (p, V), by omega, by omega, rfl, rfl, rfl, hs3, hL3, hB3, by have h1 := HR.out; rw [HS.out] at h1; exact h1⟩
            case measure => show cellLeft _ _ < cellLeft _ _; rw [HML.out, HM3.out]; omega
          · rw [if_neg hlt2] at HS
            have hv : V ≤ b2' := by omega
            clear hlt2
            go_wp2
            go_roundw
            case rel => exact ⟨k, w2.heap.size, p + 1, (b1', b2'), by omega, by omega, rfl, rfl, rfl, hs3, hL3, hB3, by have h1 := HR.out; rw [HS.out] at h1; exact h1⟩
            case measure => show cellLeft _ _ < cellLeft _ _; rw [HML.out, HM3.out]; omega
    · have HF : Hid (busyV x = 0 ∧ busyOk x = false) := by
        have : busyOk x = false := by unfold busyOk; rw [decide_eq_false hlen, Bool.and_false]
        unfold busyV; rw [this]; exact ⟨rfl, rfl⟩
      have hne : ((x.o.length : Int) == 0) = true := by rw [beq_iff_eq]; omega
      go_enter Try.func24, Try.ntmps24
      go_wp2_with fail
      generalize w.alloc (.cells #[.slice x.TA x.t.length x.tc, .slice x.OA x.o.length x.oc, .int .i64 x.got, .int .i64 x.sold, .int .i64 x.missed] 31) = W at b1 hA ⊢
      obtain ⟨s0, s1, s2, s3, s4⟩ := hA.s
      refine (calls_since0 (cG _ hA)).mono ?_
      rintro e w1 ⟨rfl, q1, rfl⟩
      go_wp2
      go_ret2
      exact ⟨by rw [HF.out.1, HF.out.2]; rfl, b1.trans (q1.below.mono b1.size)⟩
end Go.Proofs.Ytegkmjifphcojaa
