/- Rows of records in the laws: likeness, marks, their reading. -/
import Derived.Test.YtkjhjmehppgmcaaDoorMarkT
namespace Go.Proofs.YtkjhjmehppgmcaaDoor
open Go.RowKit

theorem eqLogRecord_yes (e : Rec) (w : World) :
    Calls Tryd.prog 58 #[e.val, e.val] w fun en w' => en = .returned (.bool true) ∧ Below w.heap.size w w' := by
  have s0 : (e.c.toList != e.c.toList) = false := by simp
  have s1 : (e.r.toList != e.r.toList) = false := by simp
  go_enter Tryd.func58, Tryd.ntmps58
  go_wp2
  refine bodyPost_ret (v := .bool true) (by simp [results, Tryd.results58, go_sem, *]) rfl ⟨rfl, ?_⟩
  repeat (first | exact Below.refl _ _ | refine Below.alloc ?_ (by simp; try omega) _ | refine Below.setCell ?_ (by simp; try omega) _)

def RecsR (w : World) (B : Nat) (A : Option Addr) (m : List Rec) : Prop := SlcR w B 2 A m.length (m.flatMap Rec.enc)
theorem RecsR.of {w : World} {B c : Nat} {A : Option Addr} {m : List Rec} (h : w.ownsRow B 27 2 (.slice A m.length c) m.length (m.flatMap Rec.enc)) : RecsR w w.heap.size A m := (OwnS.of h).reads
theorem RecsR.then {w w' : World} {A : Option Addr} {m : List Rec} (h : RecsR w w.heap.size A m) (hb : Below w.heap.size w w') : RecsR w' w'.heap.size A m := SlcR.then h hb
theorem RecsR.cells {w : World} {B : Nat} {A : Option Addr} {m : List Rec} (h : RecsR w B A m) (hne : 0 < m.length) : ∃ b off, A = some ⟨b, off, none⟩ ∧ b < B ∧ ∀ i (hi : i < m.length) (p : Since B w),
    p.val.cell? ⟨b, off + i * 2, none⟩ = some (.string m[i].c) ∧ p.val.cell? ⟨b, off + i * 2 + 1, none⟩ = some (.string m[i].r) := by
  obtain ⟨b, off, e, hb, hc⟩ := SlcR.at_ h hne
  refine ⟨b, off, e, hb, fun i hi p => ?_⟩
  have key : ∀ j, j < 2 → ∀ u, (m[i].enc)[j]? = some u → p.val.cell? ⟨b, off + i * 2 + j, none⟩ = some u := fun j hj u hu => by
    rw [p.cell hb, Nat.add_assoc]
    exact hc _ u (by rw [flat_at Rec.enc 2 Rec.enc_len m i hi j hj]; exact hu)
  exact ⟨key 0 (by omega) _ rfl, key 1 (by omega) _ rfl⟩

set_option maxHeartbeats 1000000 in
theorem eqRecS_any (A A' : Option Addr) (c c' : Nat) (m : List Rec) (w : World) (hA : RecsR w w.heap.size A m) (hB : RecsR w w.heap.size A' m) :
    Calls Tryd.prog 33 #[.slice A m.length c, .slice A' m.length c'] w fun e w' => e = .returned (.bool true) ∧ Below w.heap.size w w' := by
  have hl := SlcR.big hA
  have hrA := hA.cells
  have hrB := hB.cells
  have hbn : ((m.length : Int) != (m.length : Int)) = false := by simp
  go_enter Tryd.func33, Tryd.ntmps33
  go_wp2
  go_loopw [5] (fun i wr => ∃ k : Nat, k ≤ m.length ∧ i = .int .i64 k ∧ (∃ q : Since w.heap.size w, wr = q.val)) (fun i _ => m.length - (intOf i).toNat)
  case atStart => exact ⟨0, Nat.zero_le _, rfl, ⟨Since.start _ _, rfl⟩⟩
  case round =>
    obtain ⟨k, hk, rfl, ⟨q, rfl⟩⟩ := hrel
    by_cases hlt : k < m.length
    · obtain ⟨b, off, rfl, hb, hcell⟩ := hrA (by omega)
      obtain ⟨b', off', rfl, hb', hcell'⟩ := hrB (by omega)
      have c0 := fun p => (hcell k hlt p).1
      have c1 := fun p => (hcell k hlt p).2
      have d0 := fun p => (hcell' k hlt p).1
      have d1 := fun p => (hcell' k hlt p).2
      obtain ⟨x, hxe⟩ : ∃ x, x = m[k] := ⟨_, rfl⟩
      rw [← hxe] at c0 c1 d0 d1
      clear hxe hcell hcell' hrA hrB
      go_wp2
      refine wp_region_since _ (by kernel_rfl) (by kernel_rfl) ?_
      repeat (any_goals (first | go_big_quiet_step ((go_at_call 58; refine calls_since (Nat.le_refl _) (eqLogRecord_yes x _))) | (refine wpQuiet_step (fun K hK => ?_); go_simp; split <;> (refine hK _ ?_; clear hK K))))
      all_goals (refine wpQuiet_nil ?_; rintro _ ⟨q1, rfl⟩)
      go_wp2
      go_roundw
      case rel => exact ⟨k + 1, by omega, by go_num, ⟨q1, rfl⟩⟩
      case measure => simp [intOf]; omega
    · clear hrA hrB
      go_wp2
      go_ret
      exact ⟨rfl, q.below⟩

/-! ### Marks -/
def markedR : Nat → List Rec → List Rec
  | _, [] => []
  | k, _ :: l => ⟨mkT k, mkT (k + 1)⟩ :: markedR (k + 2) l
theorem markedR_len : ∀ (k : Nat) (l : List Rec), (markedR k l).length = l.length
  | _, [] => rfl
  | k, x :: l => by simp [markedR, markedR_len (k + 2) l]
theorem markedR_at : ∀ (k : Nat) (l : List Rec) (j : Nat) (h : j < (markedR k l).length), (markedR k l)[j] = ⟨mkT (k + 2 * j), mkT (k + 2 * j + 1)⟩
  | k, [], j, h => by simp [markedR] at h
  | k, x :: l, 0, _ => by simp [markedR]
  | k, x :: l, j + 1, h => by
    simp only [markedR, List.getElem_cons_succ]
    rw [markedR_at (k + 2) l j (by simpa [markedR] using h)]
    have e : k + 2 + 2 * j = k + 2 * (j + 1) := by omega
    rw [e]
theorem flat2_set : ∀ {l : List Rec} {i : Nat} (_ : i < l.length) (a b : ByteArray), ((l.flatMap Rec.enc).set (i * 2) (.string a)).set (i * 2 + 1) (.string b) = (l.set i ⟨a, b⟩).flatMap Rec.enc
  | x :: l, 0, _, a, b => by simp [Rec.enc]
  | x :: l, i + 1, h, a, b => by
    have e : (i + 1) * 2 = i * 2 + 1 + 1 := by omega
    rw [e]
    simp only [List.flatMap_cons, Rec.enc, List.cons_append, List.nil_append, List.set_cons_succ]
    rw [flat2_set (l := l) (by simpa using h) a b]
theorem mixR_set {M l : List Rec} {j : Nat} (hM : M.length = l.length) (h : j < l.length) (h' : j < M.length) : (M.take j ++ l.drop j).set j M[j] = M.take (j + 1) ++ l.drop (j + 1) := by
  have e : (M.take j).length = j := by rw [List.length_take]; omega
  rw [List.set_append_right _ _ (by omega), e, Nat.sub_self, List.drop_eq_getElem_cons h, List.set_cons_zero, List.take_succ_eq_append_getElem h', List.append_assoc, List.singleton_append]

set_option maxRecDepth 100000 in
set_option maxHeartbeats 4000000 in
theorem markRecS_any (B : Nat) (A : Option Addr) (c k0 : Nat) (l : List Rec) (w : World) (hk : 1 ≤ k0) (hk' : k0 ≤ 1000) (hn : l.length ≤ 1000) (h : w.ownsRow B 27 2 (.slice A l.length c) l.length (l.flatMap Rec.enc)) :
    Calls Tryd.prog 34 #[.slice A l.length c, .int .i64 (k0 : Int)] w fun e w' => e = .returned (.int .i64 ((k0 + 2 * l.length : Nat) : Int)) ∧ w'.ownsRow B 27 2 (.slice A l.length c) l.length ((markedR k0 l).flatMap Rec.enc) ∧ w.heap.size ≤ w'.heap.size ∧ Below B w w' := by
  have H0 : Hid (w.ownsRow B 27 2 (.slice A l.length c) l.length (((markedR k0 l).take 0 ++ l.drop 0).flatMap Rec.enc)) := h
  clear h
  go_enter Tryd.func34, Tryd.ntmps34
  go_wp2
  go_loopw [1, 5] (fun kk i wr => ∃ (j : Nat), j ≤ l.length ∧ i = .int .i64 j ∧ kk = .int .i64 ((k0 + 2 * j : Nat) : Int) ∧ Hid (wr.ownsRow B 27 2 (.slice A l.length c) l.length (((markedR k0 l).take j ++ l.drop j).flatMap Rec.enc)) ∧ w.heap.size ≤ wr.heap.size ∧ Hid (Below B w wr)) (fun _ i _ => l.length - (intOf i).toNat)
  case atStart => exact ⟨0, Nat.zero_le _, rfl, rfl, H0, Nat.le_refl _, Below.refl _ _⟩
  case round =>
    obtain ⟨j, hj, rfl, rfl, HR, hsz, HBe⟩ := hrel
    by_cases hlt : j < l.length
    · have hmixl : ((markedR k0 l).take j ++ l.drop j).length = l.length := by simp [markedR_len]; omega
      have h1 : j < (markedR k0 l).length := by rw [markedR_len]; exact hlt
      have HFIN := Lib.hid (mixR_set (markedR_len k0 l) hlt h1)
      rw [markedR_at k0 l j h1] at HFIN
      obtain ⟨m, hme⟩ : ∃ m, m = (markedR k0 l).take j ++ l.drop j := ⟨_, rfl⟩
      obtain ⟨g, rfl⟩ : ∃ g, A = some ⟨g, 0, none⟩ := by
        obtain ⟨_, h0 | ⟨g, cap, cur, hv, _⟩⟩ := HR.out
        · have := h0.2; omega
        · injection hv with e1 e2 e3; exact ⟨g, e1⟩
      rw [← hme] at HR HFIN hmixl
      clear hme h1
      obtain ⟨kj, hkj⟩ : ∃ kj, kj = k0 + 2 * j := ⟨_, rfl⟩
      have hkb : 1 ≤ kj := by omega
      have hkc : kj ≤ 10000 := by omega
      rw [← hkj] at HFIN ⊢
      have HKJ := Lib.hid hkj; clear hkj
      have hlenm : (m.flatMap Rec.enc).length = l.length * 2 := by rw [flat_len Rec.enc 2 Rec.enc_len, hmixl]
      have hgB : B ≤ g := (HR.out.lt g rfl).1
      have M1 := Lib.hid (fun W => markText_any kj W hkb (by omega))
      have M2 : Hid (∀ W, Calls Tryd.prog 59 #[.int .i64 ((kj : Int) + 1)] W fun e w' => e = .returned (.string (mkT (kj + 1))) ∧ Below W.heap.size W w') := fun W => by
        have h9 := markText_any (kj + 1) W (by omega) (by omega)
        rwa [show ((kj + 1 : Nat) : Int) = (kj : Int) + 1 by omega] at h9
      go_wp2_with fail
      refine (M1.out _).mono ?_
      rintro e w1 ⟨rfl, hb1⟩
      have R1 := ownsRow_below HR.out hb1
      have hv0 : (m.flatMap Rec.enc)[j * 2]? = some (.string (m[j]'(by omega)).c) := by
        have h9 := flat_at Rec.enc 2 Rec.enc_len m j (by omega) 0 (by omega)
        rw [Nat.add_zero] at h9; rw [h9]; rfl
      have hv1 : (m.flatMap Rec.enc)[j * 2 + 1]? = some (.string (m[j]'(by omega)).r) := by
        rw [flat_at Rec.enc 2 Rec.enc_len m j (by omega) 1 (by omega)]; rfl
      have c0 : w1.cell? ⟨g, j * 2, none⟩ = some (.string (m[j]'(by omega)).c) := by rw [R1.cellAt _ (by omega)]; exact hv0
      have f0 : w1.frozen? ⟨g, j * 2, none⟩ = false := R1.frozenAt _
      obtain ⟨R2, _⟩ := R1.stored (j * 2) (.string (mkT kj))
      have HR2 := Lib.hid R2
      have hB2 : Hid (Below B w (w1.setCell ⟨g, j * 2, none⟩ (.string (mkT kj)))) := (HBe.out.trans (hb1.mono (Nat.le_trans hgB (Nat.le_of_lt (HR.out.lt g rfl).2)))).setCell (p := ⟨g, j * 2, none⟩) hgB _
      have hs2 : w.heap.size ≤ (w1.setCell ⟨g, j * 2, none⟩ (.string (mkT kj))).heap.size := by have := hb1.size; simp; omega
      clear R1 R2 HR HBe
      go_wp2_with fail
      generalize w1.setCell ⟨g, j * 2, none⟩ (.string (mkT kj)) = w2 at HR2 hB2 hs2 ⊢
      clear c0 f0
      refine (M2.out _).mono ?_
      rintro e w3 ⟨rfl, hb3⟩
      have R3 := ownsRow_below HR2.out hb3
      have c1 : w3.cell? ⟨g, j * 2 + 1, none⟩ = some (.string (m[j]'(by omega)).r) := by rw [R3.cellAt _ (by omega), List.getElem?_set_ne (by omega)]; exact hv1
      have f1 : w3.frozen? ⟨g, j * 2 + 1, none⟩ = false := R3.frozenAt _
      obtain ⟨R4, _⟩ := R3.stored (j * 2 + 1) (.string (mkT (kj + 1)))
      rw [flat2_set (by omega), HFIN.out] at R4
      have HR4 := Lib.hid R4
      have hB4 : Hid (Below B w (w3.setCell ⟨g, j * 2 + 1, none⟩ (.string (mkT (kj + 1))))) := (hB2.out.trans (hb3.mono (Nat.le_trans hgB (Nat.le_of_lt (HR2.out.lt g rfl).2)))).setCell (p := ⟨g, j * 2 + 1, none⟩) hgB _
      have hs4 : w.heap.size ≤ (w3.setCell ⟨g, j * 2 + 1, none⟩ (.string (mkT (kj + 1)))).heap.size := by have := hb3.size; simp; omega
      clear R3 R4 HR2 hv0 hv1
      go_wp2_with fail
      go_roundw
      case rel => exact ⟨j + 1, by omega, by go_num, congrArg _ (by have := HKJ.out; omega), HR4, hs4, hB4⟩
      case measure => simp [intOf]; omega
    · have HJ : Hid ((markedR k0 l).take j ++ l.drop j = markedR k0 l) := by
        rw [Hid, List.drop_eq_nil_of_le (by omega), List.take_of_length_le (by rw [markedR_len]; omega), List.append_nil]
      obtain rfl : j = l.length := by omega
      go_wp2
      go_ret
      exact ⟨by simp, by rw [← HJ.out]; exact HR.out, hsz, HBe.out⟩

set_option maxRecDepth 100000 in
set_option maxHeartbeats 4000000 in
theorem heldRecS_any (A : Option Addr) (c k0 : Nat) (l : List Rec) (w : World) (hk : 1 ≤ k0) (hk' : k0 ≤ 1000) (hn : l.length ≤ 1000) (h : RecsR w w.heap.size A (markedR k0 l)) :
    Calls Tryd.prog 35 #[.slice A l.length c, .int .i64 (k0 : Int)] w fun e w' => e = .returned (.int .i64 ((k0 + 2 * l.length : Nat) : Int)) ∧ Below w.heap.size w w' := by
  have hrd := h.cells
  have hml := markedR_len k0 l
  clear h
  go_enter Tryd.func35, Tryd.ntmps35
  go_wp2
  go_loopw [1, 5] (fun kk i wr => ∃ (j : Nat), j ≤ l.length ∧ i = .int .i64 j ∧ kk = .int .i64 ((k0 + 2 * j : Nat) : Int) ∧ (∃ q : Since w.heap.size w, wr = q.val)) (fun _ i _ => l.length - (intOf i).toNat)
  case atStart => exact ⟨0, Nat.zero_le _, rfl, rfl, ⟨Since.start _ _, rfl⟩⟩
  case round =>
    obtain ⟨j, hj, rfl, rfl, ⟨q, rfl⟩⟩ := hrel
    by_cases hlt : j < l.length
    · obtain ⟨b, off, rfl, hb, hcell⟩ := hrd (by omega)
      have c0 := fun p => (hcell j (by omega) p).1
      have c1 := fun p => (hcell j (by omega) p).2
      rw [markedR_at k0 l j (by omega)] at c0 c1
      obtain ⟨kj, hkj⟩ : ∃ kj, kj = k0 + 2 * j := ⟨_, rfl⟩
      have hkb : 1 ≤ kj := by omega
      have hkc : kj ≤ 10000 := by omega
      rw [← hkj] at c0 c1 ⊢
      have HKJ := Lib.hid hkj; clear hkj
      have M1 := Lib.hid (fun W => markText_any kj W hkb (by omega))
      have M2 : Hid (∀ W, Calls Tryd.prog 59 #[.int .i64 ((kj : Int) + 1)] W fun e w' => e = .returned (.string (mkT (kj + 1))) ∧ Below W.heap.size W w') := fun W => by
        have h9 := markText_any (kj + 1) W (by omega) (by omega)
        rwa [show ((kj + 1 : Nat) : Int) = (kj : Int) + 1 by omega] at h9
      simp only at c0 c1
      generalize mkT kj = t0 at c0 M1
      generalize mkT (kj + 1) = t1 at c1 M2
      have s0 : (t0.toList != t0.toList) = false := by simp
      have s1 : (t1.toList != t1.toList) = false := by simp
      clear hcell hrd hml
      go_wp2
      refine wp_region_since _ (by kernel_rfl) (by kernel_rfl) ?_
      repeat (any_goals (first | go_big_quiet_step ((go_at_call 59; refine calls_since (Nat.le_refl _) (M1.out _))) | (refine wpQuiet_step (fun K hK => ?_); go_simp; split <;> (refine hK _ ?_; clear hK K))))
      all_goals (refine wpQuiet_nil ?_; rintro _ ⟨q1, rfl⟩)
      go_wp2
      refine wp_region_since _ (by kernel_rfl) (by kernel_rfl) ?_
      repeat (any_goals (first | go_big_quiet_step ((go_at_call 59; refine calls_since (Nat.le_refl _) (M2.out _))) | (refine wpQuiet_step (fun K hK => ?_); go_simp; split <;> (refine hK _ ?_; clear hK K))))
      all_goals (refine wpQuiet_nil ?_; rintro _ ⟨q1, rfl⟩)
      go_wp2
      go_roundw
      case rel => exact ⟨j + 1, by omega, by go_num, congrArg _ (by have := HKJ.out; omega), ⟨q1, rfl⟩⟩
      case measure => simp [intOf]; omega
    · obtain rfl : j = l.length := by omega
      clear hrd
      go_wp2
      go_ret
      exact ⟨by simp, q.below⟩
end Go.Proofs.YtkjhjmehppgmcaaDoor
