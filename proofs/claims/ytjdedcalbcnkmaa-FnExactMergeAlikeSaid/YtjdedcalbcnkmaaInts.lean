/- Slices of ints: equality, marks, held marks. -/
import Derived.Test.YtjdedcalbcnkmaaProg
import Derived.Test.YtjdedcalbcnkmaaBase
namespace Go.Proofs.Ytjdedcalbcnkmaa
open Go.RowKit

abbrev encI (n : Int) : List Value := [.int .i64 n]
abbrev encIs (l : List Int) : List Value := l.map (Value.int .i64)
theorem encIs_len (l : List Int) : (encIs l).length = l.length * 1 := by simp
/-- A slice of ints reads. -/
abbrev IntsR (w : World) (B : Nat) (A : Option Addr) (l : List Int) : Prop := SlcR w B 1 A l.length (encIs l)
theorem IntsR.ints {w : World} {B : Nat} {A : Option Addr} {l : List Int} (h : IntsR w B A l) (hne : 0 < l.length) : ∃ b off, A = some ⟨b, off, none⟩ ∧ b < B ∧ ∀ i (hi : i < l.length) (p : Since B w), p.val.cell? ⟨b, off + i, none⟩ = some (.int .i64 l[i]) := by
  obtain ⟨b, off, e, hb, hc⟩ := h.at_ hne
  exact ⟨b, off, e, hb, fun i hi p => (p.cell hb).trans (hc i _ (by simp [hi]))⟩

/-- A slice of the call's own, its cells known, with room behind them. -/
def OwnS (w : World) (B : Nat) (t : TypeId) (k : Nat) (A : Option Addr) (n : Nat) (cs : List Value) : Prop :=
  cs.length = n * k ∧ n ≤ 9223372036854775807 ∧ ((A = none ∧ n = 0) ∨ ∃ g rest, A = some ⟨g, 0, none⟩ ∧ B ≤ g ∧ Lies w g t (cs ++ rest))
theorem OwnS.of {w : World} {B : Nat} {t : TypeId} {k : Nat} {A : Option Addr} {n c : Nat} {cs : List Value} (h : w.ownsRow B t k (.slice A n c) n cs) : OwnS w B t k A n cs := by
  obtain ⟨hl, h | ⟨g, cap, cur, hv, hg, hh, h1, h2, h3, h4⟩⟩ := h
  · injection h.1 with e1 e2 e3
    exact ⟨hl, by omega, .inl ⟨e1, e2⟩⟩
  · injection hv with e1 e2 e3
    refine ⟨hl, by unfold maxLen at h2; omega, .inr ⟨g, cur.toList.drop (n * k), e1, hg, ?_⟩⟩
    have : cs ++ cur.toList.drop (n * k) = cur.toList := by rw [← h4]; exact List.take_append_drop _ _
    rw [this]
    exact Lies.of hh
theorem OwnS.reads {w : World} {B : Nat} {t : TypeId} {k : Nat} {A : Option Addr} {n : Nat} {cs : List Value} (h : OwnS w B t k A n cs) : SlcR w w.heap.size k A n cs := by
  obtain ⟨hl, hn, ⟨_, h0⟩ | ⟨g, rest, hA, hg, hh⟩⟩ := h
  · exact ⟨hl, hn, fun h => by omega⟩
  · exact ⟨hl, hn, fun _ => ⟨g, 0, hA, hh.lt, fun j u hu => by
      rw [Nat.zero_add, hh.cell, List.getElem?_append_left (List.getElem?_eq_some_iff.1 hu).1]; exact hu⟩⟩
theorem OwnS.kept {w w' : World} {B : Nat} {t : TypeId} {k : Nat} {A : Option Addr} {n : Nat} {cs : List Value} (h : OwnS w B t k A n cs) {g : Nat} (hg : w.grownBy w' (some g)) (hlt : g < B) : OwnS w' B t k A n cs := by
  obtain ⟨hl, hn, h0 | ⟨g', rest, hA, hg', hh⟩⟩ := h
  · exact ⟨hl, hn, .inl h0⟩
  · exact ⟨hl, hn, .inr ⟨g', rest, hA, hg', hh.kept hg (by intro e; injection e with e; omega)⟩⟩
theorem OwnS.then {w w' : World} {B : Nat} {t : TypeId} {k : Nat} {A : Option Addr} {n : Nat} {cs : List Value} (h : OwnS w B t k A n cs) (hb : Below w.heap.size w w') : OwnS w' B t k A n cs := by
  obtain ⟨hl, hn, h0 | ⟨g', rest, hA, hg', hh⟩⟩ := h
  · exact ⟨hl, hn, .inl h0⟩
  · exact ⟨hl, hn, .inr ⟨g', rest, hA, hg', hh.below hb hh.lt⟩⟩

def sameInts (a b : List Int) : Bool := decide (a = b)
def sameIntsFrom : List Int → List Int → Bool
  | [], [] => true
  | x :: a, y :: b => decide (x = y) && sameIntsFrom a b
  | _, _ => false
theorem sameIntsFrom_eq : ∀ a b : List Int, sameIntsFrom a b = sameInts a b
  | [], [] => by simp [sameIntsFrom, sameInts]
  | [], _ :: _ => by simp [sameIntsFrom, sameInts]
  | _ :: _, [] => by simp [sameIntsFrom, sameInts]
  | x :: a, y :: b => by simp [sameIntsFrom, sameInts, sameIntsFrom_eq a b, Bool.decide_and]

set_option maxHeartbeats 1000000 in
theorem eqIntS_any (A B : Option Addr) (c d : Nat) (l m : List Int) (w : World) (hA : IntsR w w.heap.size A l) (hB : IntsR w w.heap.size B m) :
    Calls Try.prog 27 #[.slice A l.length c, .slice B m.length d] w fun e w' => e = .returned (.bool (sameInts l m)) ∧ Below w.heap.size w w' := by
  have hlA := hA.big
  have hlB := hB.big
  have hrA := hA.ints
  have hrB := hB.ints
  by_cases hne : l.length = m.length
  · have hF : Hid (sameIntsFrom l m = sameInts l m) := sameIntsFrom_eq l m
    have hbn : ((l.length : Int) != (m.length : Int)) = false := by simp [hne]
    have HE := Lib.hid hne; clear hne
    go_enter Try.func27, Try.ntmps27
    go_wp2
    go_loopw [5] (fun i wr => ∃ k : Nat, k ≤ l.length ∧ i = .int .i64 k ∧ Below w.heap.size w wr ∧ Hid (sameIntsFrom (l.drop k) (m.drop k) = sameInts l m)) (fun i _ => l.length - (intOf i).toNat)
    case atStart => exact ⟨0, Nat.zero_le _, rfl, Below.refl _ _, hF⟩
    case round =>
      obtain ⟨k, hk, rfl, hbr, HR⟩ := hrel
      by_cases hlt : k < l.length
      · have hlt' : k < m.length := by have := HE.out; omega
        obtain ⟨b, off, rfl, hb, hcell⟩ := hrA (by omega)
        obtain ⟨b', off', rfl, hb', hcell'⟩ := hrB (by omega)
        have c0 := hcell k hlt
        have d0 := hcell' k hlt'
        have hstep : Hid (sameIntsFrom (l.drop k) (m.drop k) = (decide (l[k] = m[k]) && sameIntsFrom (l.drop (k + 1)) (m.drop (k + 1)))) := by
          rw [List.drop_eq_getElem_cons hlt, List.drop_eq_getElem_cons hlt']; rfl
        obtain ⟨x, hxe⟩ : ∃ x, x = l[k] := ⟨_, rfl⟩
        obtain ⟨y, hye⟩ : ∃ x, x = m[k] := ⟨_, rfl⟩
        rw [← hxe] at c0 hstep
        rw [← hye] at d0 hstep
        clear hxe hye
        clear hcell hcell' hrA hrB
        obtain ⟨q, rfl⟩ : ∃ q : Since w.heap.size w, wr = q.val := ⟨⟨wr, hbr⟩, rfl⟩
        by_cases hxy : x = y
        · have hv : (x != y) = false := by simp [hxy]
          have HV : Hid (decide (x = y) = true) := decide_eq_true hxy
          clear hxy
          go_wp2
          refine wp_region_since _ (by kernel_rfl) (by kernel_rfl) ?_
          repeat (any_goals (first | go_big_quiet_step ((fail)) | (refine wpQuiet_step (fun K hK => ?_); go_simp; split <;> (refine hK _ ?_; clear hK K))))
          all_goals (refine wpQuiet_nil ?_; rintro _ ⟨q1, rfl⟩)
          go_wp2
          go_roundw
          case rel => exact ⟨k + 1, by omega, by go_num, q1.below, by have h1 := HR.out; rw [hstep.out, HV.out] at h1; exact h1⟩
          case measure => simp [intOf]; omega
        · have hv : (x != y) = true := by simp [hxy]
          have HV : Hid (decide (x = y) = false) := decide_eq_false hxy
          clear hxy
          go_wp2
          refine wp_region_since _ (by kernel_rfl) (by kernel_rfl) ?_
          repeat (any_goals (first | go_big_quiet_step ((fail)) | (refine wpQuiet_step (fun K hK => ?_); go_simp; split <;> (refine hK _ ?_; clear hK K))))
          all_goals (refine wpQuiet_nil ?_; rintro _ ⟨q1, rfl⟩)
          go_wp2
          go_ret
          refine ⟨?_, q1.below⟩
          rw [← HR.out, hstep.out, HV.out]; rfl
      · have HK : Hid (sameInts l m = true) := by
          have h1 := HR.out
          rw [List.drop_eq_nil_of_le (by omega), List.drop_eq_nil_of_le (by have := HE.out; omega)] at h1; exact h1.symm
        clear hrA hrB
        go_wp2
        go_ret
        exact ⟨by rw [HK.out]; rfl, hbr⟩
  · have hbn : ((l.length : Int) != (m.length : Int)) = true := by rw [bne_iff_ne]; omega
    have hF : Hid (sameInts l m = false) := by
      unfold sameInts; show decide (l = m) = false; rw [decide_eq_false_iff_not]; intro h; exact hne (by rw [h])
    go_enter Try.func27, Try.ntmps27
    go_wp2
    go_ret
    exact ⟨by rw [hF.out]; rfl, Below.refl _ _⟩

/-- k, k + 1, .., n numbers. -/
def ramp : Int → Nat → List Int
  | _, 0 => []
  | k, n + 1 => k :: ramp (k + 1) n
theorem ramp_len : ∀ (k : Int) (n : Nat), (ramp k n).length = n
  | _, 0 => rfl
  | k, n + 1 => by simp [ramp, ramp_len (k + 1) n]
theorem ramp_at : ∀ (k : Int) (n i : Nat) (h : i < (ramp k n).length), (ramp k n)[i] = k + i
  | k, n + 1, 0, _ => by simp [ramp]
  | k, n + 1, i + 1, h => by
    simp only [ramp, List.getElem_cons_succ]
    rw [ramp_at (k + 1) n i (by simpa [ramp] using h)]
    omega
theorem ramp_snoc : ∀ (k : Int) (n : Nat), ramp k (n + 1) = ramp k n ++ [k + n]
  | k, 0 => by simp [ramp]
  | k, n + 1 => by
    rw [ramp, ramp_snoc (k + 1) n, ramp, List.cons_append]
    congr 3
    omega

theorem grown_cell {a w : World} {row : Option Nat} (h : a.grownBy w row) (p : Addr) (hlt : p.block < a.heap.size) (hne : some p.block ≠ row) : w.cell? p = a.cell? p := World.cell?_of_block (w := a) (h.block p.block hlt hne)
theorem OwnS.at_ge {w : World} {B : Nat} {t : TypeId} {k : Nat} {A : Option Addr} {n : Nat} {cs : List Value} (h : OwnS w B t k A n cs) (g : Nat) (hg : A.map (·.block) = some g) : B ≤ g := by
  obtain ⟨_, _, ⟨rfl, _⟩ | ⟨g', _, rfl, hB, _⟩⟩ := h
  · cases hg
  · injection hg with e; simp only at e; omega
theorem OwnS.held {w : World} {B : Nat} {t : TypeId} {A : Option Addr} {k0 : Int} {n : Nat} (h : OwnS w B t 1 A n (encIs (ramp k0 n))) : IntsR w w.heap.size A (Go.Proofs.Ytjdedcalbcnkmaa.ramp k0 n) := by
  have := h.reads
  unfold IntsR; rw [ramp_len]; exact this

set_option maxHeartbeats 1000000 in
theorem heldIntS_any (A : Option Addr) (c n : Nat) (k0 : Int) (w : World) (hk : -1000000000 ≤ k0) (hk' : k0 ≤ 1000000000) (hn : n ≤ 1000000000) (h : IntsR w w.heap.size A (ramp k0 n)) :
    Calls Try.prog 30 #[.slice A n c, .int .i64 k0] w fun e w' => e = .returned (.int .i64 (k0 + n)) ∧ Below w.heap.size w w' := by
  have hrd := h.ints
  have HL : Hid ((ramp k0 n).length = n) := ramp_len k0 n
  go_enter Try.func30, Try.ntmps30
  go_wp2
  go_loopw [1, 5] (fun kk i wr => ∃ j : Nat, j ≤ n ∧ i = .int .i64 j ∧ kk = .int .i64 (k0 + j) ∧ Below w.heap.size w wr) (fun _ i _ => n - (intOf i).toNat)
  case atStart => exact ⟨0, Nat.zero_le _, rfl, congrArg _ (by simp), Below.refl _ _⟩
  case round =>
    obtain ⟨j, hj, rfl, rfl, hbr⟩ := hrel
    by_cases hlt : j < n
    · obtain ⟨b, off, rfl, hb, hcell⟩ := hrd (by have := HL.out; omega)
      obtain ⟨q, rfl⟩ : ∃ q : Since w.heap.size w, wr = q.val := ⟨⟨wr, hbr⟩, rfl⟩
      have c0 : ∀ p : Since w.heap.size w, p.val.cell? ⟨b, off + j, none⟩ = some (.int .i64 (k0 + j)) := fun p => by
        rw [hcell j (by have := HL.out; omega) p, ramp_at]
      clear hcell hrd
      go_wp2
      go_roundw
      case rel => exact ⟨j + 1, by omega, by go_num, congrArg _ (by omega), q.below⟩
      case measure => simp [intOf]; omega
    · have HJ : Hid (j = n) := by unfold Hid; omega
      clear hrd
      go_wp2
      go_ret
      exact ⟨by rw [← HJ.out]; rfl, hbr⟩

theorem grown_set {a w : World} {g i : Nat} {u : Value} (h : a.grownBy w (some g)) : a.grownBy (w.setCell ⟨g, i, none⟩ u) (some g) :=
  ⟨h.os, h.tape, h.output, by simpa [World.setCell] using h.size, fun k hk hne => (Below.heap_setCell w ⟨g, i, none⟩ u k (fun e => hne (by rw [e]))).trans (h.block k hk hne)⟩
theorem set_mid {α : Type} (a b : List α) (x u : α) : (a ++ x :: b).set a.length u = a ++ u :: b := by
  induction a with
  | nil => rfl
  | cons y a ih => simp [ih]

set_option maxHeartbeats 1000000 in
theorem markIntS_any (A : Option Addr) (c n B : Nat) (k0 : Int) (cs : List Value) (w : World) (hk : -1000000000 ≤ k0) (hk' : k0 ≤ 1000000000) (hn : n ≤ 1000000000) (h : OwnS w B 3 1 A n cs) :
    Calls Try.prog 29 #[.slice A n c, .int .i64 k0] w fun e w' => e = .returned (.int .i64 (k0 + n)) ∧ OwnS w' B 3 1 A n (encIs (ramp k0 n)) ∧ w.grownBy w' (A.map (·.block)) := by
  obtain ⟨hl, hn', h0 | ⟨g, rest, rfl, hg, hh⟩⟩ := h
  · obtain ⟨rfl, rfl⟩ := h0
    have HL : Hid ((ramp k0 0).length = 0) := rfl
    go_enter Try.func29, Try.ntmps29
    go_wp2
    refine wp_loop_rounds 1 ?_
    rw [rounds_succ]
    go_wp2
    go_ret
    exact ⟨by simp, ⟨by simp [ramp], by omega, .inl ⟨rfl, rfl⟩⟩, World.grownBy.refl w _⟩
  · have HF : Hid (Lies w g 3 (encIs (ramp k0 0) ++ (cs ++ rest)) ∧ n ≤ (cs ++ rest).length) := ⟨hh, by simp; omega⟩
    clear hh hl
    go_enter Try.func29, Try.ntmps29
    go_wp2
    go_loopw [1, 5] (fun kk i wr => ∃ (j : Nat) (more : List Value), j ≤ n ∧ i = .int .i64 j ∧ kk = .int .i64 (k0 + j) ∧ Hid (Lies wr g 3 (encIs (ramp k0 j) ++ more) ∧ n ≤ j + more.length) ∧ w.grownBy wr (some g)) (fun _ i _ => n - (intOf i).toNat)
    case atStart => exact ⟨0, cs ++ rest, Nat.zero_le _, rfl, congrArg _ (by simp), ⟨HF.out.1, by have := HF.out.2; omega⟩, World.grownBy.refl w _⟩
    case round =>
      obtain ⟨j, more, hj, rfl, rfl, HR, hgr⟩ := hrel
      by_cases hlt : j < n
      · obtain ⟨u, more', rfl⟩ : ∃ u more', more = u :: more' := by
          cases more with
          | nil => have := HR.out.2; simp at this; omega
          | cons u m => exact ⟨u, m, rfl⟩
        have c0 : wr.cell? ⟨g, j, none⟩ = some u := by
          rw [HR.out.1.cell, List.getElem?_append_right (by simp [ramp_len])]; simp [ramp_len]
        have f0 : wr.frozen? ⟨g, j, none⟩ = false := HR.out.1.frozen j
        go_wp2
        go_roundw
        case rel =>
          refine ⟨j + 1, more', by omega, by go_num, congrArg _ (by omega), ⟨?_, by have := HR.out.2; simp at this; omega⟩, grown_set hgr⟩
          have h1 := HR.out.1.set j (.int .i64 (k0 + j))
          have h2 := set_mid (encIs (ramp k0 j)) more' u (.int .i64 (k0 + j))
          rw [encIs_len, ramp_len, Nat.mul_one] at h2
          rw [h2] at h1
          rw [ramp_snoc]
          simpa using h1
        case measure => simp [intOf]; omega
      · have HJ : Hid (j = n) := by unfold Hid; omega
        go_wp2
        go_ret
        refine ⟨by rw [← HJ.out]; rfl, ⟨by simp [ramp_len], hn', .inr ⟨g, more, rfl, hg, by rw [← HJ.out]; exact HR.out.1⟩⟩, hgr⟩
end Go.Proofs.Ytjdedcalbcnkmaa
