/- Validity of an office, in the reference: the outings. -/
import Derived.Test.YtojceibamgodbaaDoorOffSpec
namespace Go.Proofs.YtojceibamgodbaaDoor
open Go.RowKit

theorem calls_sinceE {P : Program} {f : FuncId} {args : Array Value} {B : Nat} {w : World} {q : Since B w} {v v' : Value} (hv : Hid (v = v')) (hB : B ≤ w.heap.size)
    (h : Calls P f args q.val fun e w' => e = .returned v ∧ Below q.val.heap.size q.val w') : Calls P f args q.val fun e w' => e = .returned v' ∧ ∃ q' : Since B w, w' = q'.val := by
  have := hv.out; subst this; exact calls_since hB h

set_option maxHeartbeats 1000000 in
theorem l32Tray_any (x : Off) (kd : Int) (w : World) (h : OffR w w.heap.size x) :
    Calls Tryd.prog 107 #[x.val, .int .i64 kd] w fun e w' => e = .returned (.int .i64 (trayIx x.t kd)) ∧ Below w.heap.size w w' := by
  have hl := h.ts.big
  have HF : Hid (idxFrom (fun t : Tray => decide (t.k = kd)) 0 (x.t.drop 0) = trayIx x.t kd) := rfl
  go_enter Tryd.func107, Tryd.ntmps107
  go_wp2
  have hb0 := (Below.refl w.heap.size w).alloc (Nat.le_refl _) (.cells #[.slice x.TA x.t.length x.tc, .slice x.OA x.o.length x.oc, .int .i64 x.got, .int .i64 x.sold, .int .i64 x.missed] 35)
  have hS := OffS.of (x := x) (Lies.new w 35 #[.slice x.TA x.t.length x.tc, .slice x.OA x.o.length x.oc, .int .i64 x.got, .int .i64 x.sold, .int .i64 x.missed])
  have hR := h.up hb0 (Nat.le_refl _)
  generalize w.alloc (.cells #[.slice x.TA x.t.length x.tc, .slice x.OA x.o.length x.oc, .int .i64 x.got, .int .i64 x.sold, .int .i64 x.missed] 35) = W at hb0 hS hR ⊢
  have c0 := hS.c0
  have hrd := hR.ts.el
  go_loopw [5] (fun i wr => ∃ (k : Nat), k ≤ x.t.length ∧ i = .int .i64 k ∧ (∃ q : Since W.heap.size W, wr = q.val) ∧ Hid (idxFrom (fun t : Tray => decide (t.k = kd)) k (x.t.drop k) = trayIx x.t kd)) (fun i _ => x.t.length - (intOf i).toNat)
  case atStart => exact ⟨0, Nat.zero_le _, rfl, ⟨Since.start _ _, rfl⟩, HF⟩
  case round =>
    obtain ⟨k, hk, rfl, ⟨q, rfl⟩, HR⟩ := hrel
    by_cases hlt : k < x.t.length
    · obtain ⟨b, off, hA, hb, hcell⟩ := hrd (by omega)
      obtain ⟨e0, e1⟩ := hcell k hlt
      have hy := fun hv => idx_yes (f := fun t : Tray => decide (t.k = kd)) hlt hv
      have hn := fun hv => idx_no (f := fun t : Tray => decide (t.k = kd)) hlt hv
      obtain ⟨r, hre⟩ : ∃ r, r = x.t[k] := ⟨_, rfl⟩
      rw [← hre] at e0 e1 hy hn
      simp only [hA] at c0
      clear hre hcell hrd hA
      by_cases hz : r.k = kd
      · have HE : Hid ((k : Int) = trayIx x.t kd) := by rw [← hy (decide_eq_true hz)]; exact HR.out
        have hv : (r.k == kd) = true := by simp [hz]
        clear hy hn hz
        go_wp2
        go_ret
        exact ⟨by rw [← HE.out]; rfl, hb0.trans (q.below.mono hb0.size)⟩
      · have HE : Hid (idxFrom (fun t : Tray => decide (t.k = kd)) (k + 1) (x.t.drop (k + 1)) = trayIx x.t kd) := by rw [← hn (decide_eq_false hz)]; exact HR.out
        have hv : (r.k == kd) = false := by simp [hz]
        clear hy hn hz
        go_wp2
        go_roundw
        case rel => exact ⟨k + 1, by omega, by go_num, ⟨q, rfl⟩, HE⟩
        case measure => simp [intOf]; omega
    · have HE : Hid (-1 = trayIx x.t kd) := by
        have h1 := HR.out; rw [List.drop_eq_nil_of_le (by omega)] at h1; exact h1
      clear hrd
      go_wp2
      go_ret
      exact ⟨by rw [← HE.out]; rfl, hb0.trans (q.below.mono hb0.size)⟩

theorem l32Key_any (r : Outing) (w : World) (h1 : 1 ≤ r.k ∧ r.k ≤ 99) (h2 : 1 ≤ r.p ∧ r.p ≤ 999) :
    Calls Tryd.prog 108 #[r.val] w fun e w' => e = .returned (.int .i64 (1000 * r.k + r.p)) ∧ Below w.heap.size w w' := by
  obtain ⟨a1, a2⟩ := h1
  obtain ⟨b1, b2⟩ := h2
  have m : IntKind.i64.wrap (1000 * r.k) = 1000 * r.k := IntWalk.i64_in _ (by omega)
  have s : IntKind.i64.wrap (1000 * r.k + r.p) = 1000 * r.k + r.p := IntWalk.i64_in _ (by omega)
  go_enter Tryd.func108, Tryd.ntmps108
  go_wp2
  first
    | (go_ret; exact ⟨rfl, (Below.refl _ _).alloc (Nat.le_refl _) _⟩)
    | (go_quiet (fail); go_wp2; go_ret; exact ⟨rfl, by go_grown⟩)

theorem outs_step {ts : List Tray} {p : Option Outing} {l : List Outing} {k : Nat} (h : k < l.length) : outsFrom ts p (l.drop k) = (l[k].ok ts && (match p with | none => true | some q => before q l[k]) && outsFrom ts (some l[k]) (l.drop (k + 1))) := by
  rw [List.drop_eq_getElem_cons h]; rfl
end Go.Proofs.YtojceibamgodbaaDoor
