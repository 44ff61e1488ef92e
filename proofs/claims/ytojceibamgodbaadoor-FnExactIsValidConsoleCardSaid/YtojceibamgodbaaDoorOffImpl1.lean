/- Offices in the program: closures, the place of a tray, sums, the order of outings. -/
import Derived.Test.YtojceibamgodbaaDoorOffSpec4
import Derived.Deep.RegionHeld3
namespace Go.Proofs.YtojceibamgodbaaDoor
open Go.RowKit

/-- An office lies at the head of block g, below B, its slices too. -/
structure OffAt (w : World) (B g : Nat) (x : Off) : Prop where
  s : OffS B w g x
  lt : g < B
  r : OffR w B x
theorem OffAt.of {w : World} {g : Nat} {t : TypeId} {x : Off} (h : Lies w g t x.enc) (hr : OffR w w.heap.size x) : OffAt w w.heap.size g x := ⟨OffS.of h, h.lt, hr⟩
theorem OffAt.then {w w' : World} {B g : Nat} {x : Off} (h : OffAt w B g x) (hb : Below B w w') {B' : Nat} (hB : B ≤ B') : OffAt w' B' g x :=
  ⟨⟨fun p => h.s.c0 ⟨p.val, hb.trans (p.below.mono hB)⟩, fun p => h.s.c1 ⟨p.val, hb.trans (p.below.mono hB)⟩, fun p => h.s.c2 ⟨p.val, hb.trans (p.below.mono hB)⟩, fun p => h.s.c3 ⟨p.val, hb.trans (p.below.mono hB)⟩, fun p => h.s.c4 ⟨p.val, hb.trans (p.below.mono hB)⟩⟩, Nat.lt_of_lt_of_le h.lt hB, (h.r.below hb).mono hB⟩
theorem OffAt.at {w : World} {g : Nat} {x : Off} (h : OffAt w w.heap.size g x) (q : Since w.heap.size w) : OffAt q.val q.val.heap.size g x := h.then q.below q.size

/-- slices.IndexFunc over trays, whatever the function value. -/
theorem idxTrays_any (f : Tray → Bool) (g : Nat) (lb : Array Value) (eg : ∀ args w, (callFunc g args).run Tryd.prog w = .ok (.enter g args) w) (A : Option Addr) (c : Nat) (l : List Tray) (w : World)
    (hf : ∀ (t : Tray) (p : Since w.heap.size w), Calls Tryd.prog g (#[t.val] ++ lb) p.val fun e w' => e = .returned (.bool (f t)) ∧ Below p.val.heap.size p.val w') (h : TraysR w w.heap.size A l) :
    Calls Tryd.prog 92 #[.slice A l.length c, .func (.func g) #[] lb] w fun e w' => e = .returned (.int .i64 (idxFrom f 0 l)) ∧ Below w.heap.size w w' := by
  have hl := h.big
  have hrd := h.el
  have HF : Hid (idxFrom f 0 (l.drop 0) = idxFrom f 0 l) := rfl
  have HC := Lib.hid hf; clear hf
  go_enter Tryd.func92, Tryd.ntmps92
  go_wp2
  go_loopw [8] (fun i wr => ∃ (k : Nat), k ≤ l.length ∧ i = .int .i64 k ∧ (∃ q : Since w.heap.size w, wr = q.val) ∧ Hid (idxFrom f k (l.drop k) = idxFrom f 0 l)) (fun i _ => l.length - (intOf i).toNat)
  case atStart => exact ⟨0, Nat.zero_le _, rfl, ⟨Since.start _ _, rfl⟩, HF⟩
  case round =>
    obtain ⟨k, hk, rfl, ⟨q, rfl⟩, HR⟩ := hrel
    by_cases hlt : k < l.length
    · obtain ⟨b, off, rfl, hb, hcell⟩ := hrd (by omega)
      obtain ⟨c0, c1⟩ := hcell k hlt
      have hy := fun hv => idx_yes (f := f) hlt hv
      have hn := fun hv => idx_no (f := f) hlt hv
      obtain ⟨x, hxe⟩ : ∃ x, x = l[k] := ⟨_, rfl⟩
      rw [← hxe] at c0 c1 hy hn
      clear hxe hcell hrd
      cases hv : f x
      · have HE : Hid (idxFrom f (k + 1) (l.drop (k + 1)) = idxFrom f 0 l) := by rw [← hn hv]; exact HR.out
        have hcx := fun p => HC.out x p
        rw [hv] at hcx
        clear hy hn hv
        go_wp2_with fail
        refine (calls_since (Nat.le_refl _) (hcx _)).mono ?_
        rintro e w1 ⟨rfl, q1, rfl⟩
        go_wp2
        go_roundw
        case rel => exact ⟨k + 1, by omega, by go_num, ⟨q1, rfl⟩, HE⟩
        case measure => simp [intOf]; omega
      · have HE : Hid ((k : Int) = idxFrom f 0 l) := by rw [← hy hv]; exact HR.out
        have hcx := fun p => HC.out x p
        rw [hv] at hcx
        clear hy hn hv
        go_wp2_with fail
        refine (calls_since (Nat.le_refl _) (hcx _)).mono ?_
        rintro e w1 ⟨rfl, q1, rfl⟩
        go_wp2
        go_ret
        exact ⟨by rw [← HE.out]; rfl, q1.below⟩
    · have HE : Hid (-1 = idxFrom f 0 l) := by
        have h1 := HR.out; rw [List.drop_eq_nil_of_le (by omega)] at h1; exact h1
      clear hrd
      go_wp2
      go_ret
      exact ⟨by rw [← HE.out]; rfl, q.below⟩

/-- The closure of trayAt. -/
theorem ofKind_any (t : Tray) (gk : Nat) (kd : Int) (w : World) (hk : gk < w.heap.size) (hc : w.cell? ⟨gk, 0, none⟩ = some (.int .i64 kd)) :
    Calls Tryd.prog 93 #[t.val, .pointer (some ⟨gk, 0, none⟩)] w fun e w' => e = .returned (.bool (decide (t.k = kd))) ∧ Below w.heap.size w w' := by
  have hc' : (w.alloc (.cells #[.int .i64 t.k, .int .i64 t.c] 97)).cell? ⟨gk, 0, none⟩ = some (.int .i64 kd) := ((Below.refl w.heap.size w).alloc (Nat.le_refl _) _).cell hk |>.trans hc
  by_cases hz : t.k = kd
  all_goals
    obtain ⟨v, hv⟩ : ∃ v, (t.k == kd) = v := ⟨_, rfl⟩
    have HV : Hid (decide (t.k = kd) = v) := by rw [← hv]; unfold Hid; rw [Bool.eq_iff_iff]; simp
    clear hz
    go_enter Tryd.func93, Tryd.ntmps93
    go_wp2
    go_ret
    exact ⟨by rw [HV.out]; rfl, (Below.refl _ _).alloc (Nat.le_refl _) _⟩

theorem trayAt_any (x : Off) (g : Nat) (kd : Int) (w : World) (h : OffAt w w.heap.size g x) :
    Calls Tryd.prog 62 #[.pointer (some ⟨g, 0, none⟩), .int .i64 kd] w fun e w' => e = .returned (.int .i64 (trayIx x.t kd)) ∧ Below w.heap.size w w' := by
  have hmf : ∀ (fn : Fn) (first cap : Array Value) (w : World), (Instr.makeFunc fn first cap).run Tryd.prog w = .ok (.func fn first cap) w := fun _ _ _ _ => rfl
  have b1 := (Below.refl w.heap.size w).alloc (Nat.le_refl _) (.cells #[.int .i64 kd] 3)
  have hL := Lies.new w 3 #[.int .i64 kd]
  have hA := h.then (B' := (w.alloc (.cells #[.int .i64 kd] 3)).heap.size) b1 b1.size
  have c0 : (w.alloc (.cells #[.int .i64 kd] 3)).cell? ⟨g, 0, none⟩ = some (.slice x.TA x.t.length x.tc) := hA.s.c0 (Since.start _ _)
  have HI : Hid (idxFrom (fun t : Tray => decide (t.k = kd)) 0 x.t = trayIx x.t kd) := rfl
  go_enter Tryd.func62, Tryd.ntmps62
  go_wp2_with fail
  clear c0
  generalize w.alloc (.cells #[.int .i64 kd] 3) = W at b1 hL hA ⊢
  refine (idxTrays_any (fun t : Tray => decide (t.k = kd)) 93 #[.pointer (some ⟨w.heap.size, 0, none⟩)] Tryd.call93 _ _ _ _ (fun t p => ofKind_any t w.heap.size kd _ (Nat.lt_of_lt_of_le hL.lt p.size) ((p.cell hL.lt).trans (hL.cell 0))) hA.r.ts).mono ?_
  rintro e w1 ⟨rfl, hb1⟩
  rw [HI.out]
  go_wp2
  go_ret
  exact ⟨rfl, bthen b1 hb1⟩

theorem isPerson_any (n : Int) (w : World) : Calls Tryd.prog 63 #[.int .i64 n] w fun e w' => e = .returned (.bool (inR n 1 999)) ∧ w = w' := by
  go_enter Tryd.func63, Tryd.ntmps63
  go_wp2_with fail
  refine (inRange_any n 1 999 _).mono ?_
  rintro e w' ⟨rfl, rfl⟩
  go_wp2
  go_ret
  exact ⟨rfl, rfl⟩

set_option maxHeartbeats 1000000 in
theorem stampsIn_any (x : Off) (g : Nat) (w : World) (h : OffAt w w.heap.size g x) (tl : x.t.length ≤ 8) (ht : ∀ i (hi : i < x.t.length), x.t[i].ok = true) :
    Calls Tryd.prog 65 #[.pointer (some ⟨g, 0, none⟩)] w fun e w' => e = .returned (.int .i64 (inSum x.t)) ∧ Below w.heap.size w w' := by
  have HT := Lib.hid ht; clear ht
  have HF : Hid (inFrom 0 (x.t.drop 0) = inSum x.t) := rfl
  have s0 : w.cell? ⟨g, 0, none⟩ = some (.slice x.TA x.t.length x.tc) := h.s.c0 (Since.start _ _)
  have hrt := h.r.ts.el
  go_enter Tryd.func65, Tryd.ntmps65
  go_wp2
  clear s0
  go_loopw [3, 11] (fun s i wr => ∃ (k : Nat) (t : Int), k ≤ x.t.length ∧ i = .int .i64 k ∧ s = .int .i64 t ∧ (0 ≤ t ∧ t ≤ 9999 * (k : Int)) ∧ (∃ q : Since w.heap.size w, wr = q.val) ∧ Hid (inFrom t (x.t.drop k) = inSum x.t)) (fun _ i _ => x.t.length - (intOf i).toNat)
  case atStart => exact ⟨0, 0, Nat.zero_le _, rfl, rfl, by omega, ⟨Since.start _ _, rfl⟩, HF⟩
  case round =>
    obtain ⟨k, t, hk, rfl, rfl, ⟨t0, t1⟩, ⟨q, rfl⟩, HR⟩ := hrel
    by_cases hlt : k < x.t.length
    · obtain ⟨b, off, hA, hb, hcell⟩ := hrt (by omega)
      obtain ⟨e0, e1⟩ := hcell k hlt
      obtain ⟨_, x1, x2⟩ := Tray.bounds (HT.out k hlt)
      have HS := Lib.hid (in_step hlt t)
      obtain ⟨r, hre⟩ : ∃ r, r = x.t[k] := ⟨_, rfl⟩
      rw [← hre] at e0 e1 HS x1 x2
      clear hre hcell hrt
      go_wp2
      go_roundw
      case rel => exact ⟨k + 1, t + r.c, by omega, by go_num, rfl, by omega, ⟨⟨_, q.below.alloc q.size _⟩, rfl⟩, by have h1 := HR.out; rw [HS.out] at h1; exact h1⟩
      case measure => simp [intOf]; omega
    · have HE : Hid (t = inSum x.t) := by
        have h1 := HR.out; rw [List.drop_eq_nil_of_le (by omega)] at h1; exact h1
      clear hrt
      go_wp2
      go_ret
      exact ⟨by rw [← HE.out]; rfl, q.below⟩

set_option maxHeartbeats 1000000 in
theorem stampsOut_any (f : Outing → Bool) (kf : Nat) (lb : Array Value) (eg : ∀ args w, (callFunc kf args).run Tryd.prog w = .ok (.enter kf args) w) (x : Off) (g : Nat) (w : World)
    (hf : ∀ (o : Outing) (p : Since w.heap.size w), Calls Tryd.prog kf (#[o.val] ++ lb) p.val fun e w' => e = .returned (.bool (f o)) ∧ Below p.val.heap.size p.val w')
    (h : OffAt w w.heap.size g x) (ol : x.o.length ≤ 8) (ho : ∀ i (hi : i < x.o.length), x.o[i].ok x.t = true) :
    Calls Tryd.prog 66 #[.pointer (some ⟨g, 0, none⟩), .func (.func kf) #[] lb] w fun e w' => e = .returned (.int .i64 (outSum f x.o)) ∧ Below w.heap.size w w' := by
  have HO := Lib.hid ho; clear ho
  have HC := Lib.hid hf; clear hf
  have HF : Hid (outFrom f 0 (x.o.drop 0) = outSum f x.o) := rfl
  have s1 : w.cell? ⟨g, 1, none⟩ = some (.slice x.OA x.o.length x.oc) := h.s.c1 (Since.start _ _)
  have hro := h.r.os.el
  generalize x.OA = OA at s1 hro
  go_enter Tryd.func66, Tryd.ntmps66
  go_wp2
  clear s1
  go_loopw [5, 13] (fun s i wr => ∃ (k : Nat) (t : Int), k ≤ x.o.length ∧ i = .int .i64 k ∧ s = .int .i64 t ∧ (0 ≤ t ∧ t ≤ 9999 * (k : Int)) ∧ (∃ q : Since w.heap.size w, wr = q.val) ∧ Hid (outFrom f t (x.o.drop k) = outSum f x.o)) (fun _ i _ => x.o.length - (intOf i).toNat)
  case atStart => exact ⟨0, 0, Nat.zero_le _, rfl, rfl, by omega, ⟨Since.start _ _, rfl⟩, HF⟩
  case round =>
    obtain ⟨k, t, hk, rfl, rfl, ⟨t0, t1⟩, ⟨q, rfl⟩, HR⟩ := hrel
    by_cases hlt : k < x.o.length
    · obtain ⟨b, off, rfl, hb, hcell⟩ := hro (by omega)
      obtain ⟨e0, e1, e2⟩ := hcell k hlt
      obtain ⟨_, _, x1, x2⟩ := Outing.bounds (HO.out k hlt)
      have HS := Lib.hid (out_step (f := f) hlt t)
      obtain ⟨r, hre⟩ : ∃ r, r = x.o[k] := ⟨_, rfl⟩
      rw [← hre] at e0 e1 e2 HS x1 x2
      clear hre hcell hro
      have hbV := q.below.alloc q.size (.cells #[.int .i64 r.k, .int .i64 r.p, .int .i64 r.c] 99)
      have hlV := Lies.new q.val 99 #[.int .i64 r.k, .int .i64 r.p, .int .i64 r.c]
      have hcx := fun p => HC.out r p
      cases hv : f r
      all_goals
        rw [hv] at hcx HS
        clear hv
        go_wp2_with fail
        generalize q.val.alloc (.cells #[.int .i64 r.k, .int .i64 r.p, .int .i64 r.c] 99) = V at hbV hlV ⊢
        refine (hcx ⟨V, hbV⟩).mono ?_
        rintro e w1 ⟨rfl, hb1⟩
        have d2 := (hlV.below hb1 hlV.lt).cell 2
        simp only [List.getElem?_cons_zero, List.getElem?_cons_succ] at d2
        go_wp2
      · go_roundw
        case rel => exact ⟨k + 1, t, by omega, by go_num, rfl, by omega, ⟨⟨w1, hbV.trans (hb1.mono hbV.size)⟩, rfl⟩, by have h1 := HR.out; rw [HS.out] at h1; exact h1⟩
        case measure => simp [intOf]; omega
      · go_roundw
        case rel => exact ⟨k + 1, t + r.c, by omega, by go_num, rfl, by omega, ⟨⟨w1, hbV.trans (hb1.mono hbV.size)⟩, rfl⟩, by have h1 := HR.out; rw [HS.out] at h1; exact h1⟩
        case measure => simp [intOf]; omega
    · have HE : Hid (t = outSum f x.o) := by
        have h1 := HR.out; rw [List.drop_eq_nil_of_le (by omega)] at h1; exact h1
      clear hro
      go_wp2
      go_ret
      exact ⟨by rw [← HE.out]; rfl, q.below⟩

theorem every1_any (o : Outing) (w : World) : Calls Tryd.prog 67 #[o.val] w fun e w' => e = .returned (.bool true) ∧ Below w.heap.size w w' := by
  go_enter Tryd.func67, Tryd.ntmps67
  go_wp2
  go_ret
  exact ⟨rfl, (Below.refl _ _).alloc (Nat.le_refl _) _⟩

/-- What the order says of two numbers. -/
def cmpI (a b : Int) : Int := if a < b then -1 else if b < a then 1 else 0
theorem isNaN_any (a : Int) (w : World) : Calls Tryd.prog 109 #[.int .i64 a] w fun e w' => e = .returned (.bool false) ∧ w = w' := by
  have hv : (a != a) = false := by simp
  go_enter Tryd.func109, Tryd.ntmps109
  go_wp2
  go_ret
  exact ⟨rfl, rfl⟩
theorem compare_any (a b : Int) (w : World) : Calls Tryd.prog 95 #[.int .i64 a, .int .i64 b] w fun e w' => e = .returned (.int .i64 (cmpI a b)) ∧ w = w' := by
  have ha := fun W => isNaN_any a W
  have hb := fun W => isNaN_any b W
  by_cases h1 : a < b
  · have HE : Hid (cmpI a b = -1) := by unfold Hid cmpI; rw [if_pos h1]
    go_enter Tryd.func95, Tryd.ntmps95
    go_wp2_with fail
    refine (ha _).mono ?_
    rintro e w' ⟨rfl, rfl⟩
    go_wp2_with fail
    refine (hb _).mono ?_
    rintro e w' ⟨rfl, rfl⟩
    go_wp2
    go_ret
    exact ⟨by rw [HE.out]; rfl, rfl⟩
  · by_cases h2 : b < a
    · have HE : Hid (cmpI a b = 1) := by unfold Hid cmpI; rw [if_neg h1, if_pos h2]
      go_enter Tryd.func95, Tryd.ntmps95
      go_wp2_with fail
      refine (ha _).mono ?_
      rintro e w' ⟨rfl, rfl⟩
      go_wp2_with fail
      refine (hb _).mono ?_
      rintro e w' ⟨rfl, rfl⟩
      go_wp2
      go_ret
      exact ⟨by rw [HE.out]; rfl, rfl⟩
    · have HE : Hid (cmpI a b = 0) := by unfold Hid cmpI; rw [if_neg h1, if_neg h2]
      go_enter Tryd.func95, Tryd.ntmps95
      go_wp2_with fail
      refine (ha _).mono ?_
      rintro e w' ⟨rfl, rfl⟩
      go_wp2_with fail
      refine (hb _).mono ?_
      rintro e w' ⟨rfl, rfl⟩
      go_wp2
      go_ret
      exact ⟨by rw [HE.out]; rfl, rfl⟩
end Go.Proofs.YtojceibamgodbaaDoor
