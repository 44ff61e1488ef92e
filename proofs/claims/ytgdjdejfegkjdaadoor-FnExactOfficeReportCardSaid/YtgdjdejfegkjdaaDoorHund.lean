/- OfficeLine: both sides and the law. -/
import Derived.Test.YtgdjdejfegkjdaaDoorRow
import Derived.Test.YtgdjdejfegkjdaaDoorFacts
import Derived.Test.YtgdjdejfegkjdaaDoorBl
import Derived.Test.YtgdjdejfegkjdaaDoorItoa
namespace Go.Proofs.YtgdjdejfegkjdaaDoor
open Go.RowKit

/-- Hundredths as text. -/
def hundT (n : Nat) : List UInt8 := Lib.itoa ((n : Int) / 100) ++ ([46] ++ (Lib.itoa ((n : Int) / 10 % 10) ++ Lib.itoa ((n : Int) % 10)))
theorem hundT_int (n : Nat) : hundT n = Lib.itoa ((n : Int) / 100) ++ ([46] ++ (Lib.itoa ((n : Int) / 10 % 10) ++ Lib.itoa ((n : Int) % 10))) := rfl
def lineT (r : Row) : List UInt8 :=
  [109] ++ Lib.itoa r.m ++ [58, 32, 43] ++ Lib.itoa r.b ++ [32, 45] ++ Lib.itoa r.s ++ [32, 112, 114, 111, 102, 105, 116, 32] ++ ((if r.c < 0 then [45] else []) ++ (hundT r.c.natAbs ++ (if 0 < r.l then [32] ++ (Lib.itoa r.l ++ [32, 108, 101, 110, 116]) else [])))
def lineO (r : Row) : ByteArray := ⟨(lineT r).toArray⟩
theorem Row.ok_bounds {r : Row} (h : r.ok = true) : 1 ≤ r.m ∧ r.m ≤ 1200 ∧ 0 ≤ r.b ∧ r.b ≤ 9999 ∧ 0 ≤ r.s ∧ r.s ≤ 9999 ∧ -1000000 ≤ r.c ∧ r.c ≤ 1000000 ∧ 0 ≤ r.l ∧ r.l ≤ 999 := by
  unfold Row.ok inR at h
  simp only [Bool.and_eq_true, decide_eq_true_eq] at h
  omega
theorem hund_small {n : Nat} (h : n % 100 < 10) : hundT n = Lib.itoa ((n : Int) / 100) ++ ([46, 48] ++ Lib.itoa ((n : Int) % 100)) := by
  have e1 : (n : Int) / 10 % 10 = ((0 : Nat) : Int) := by omega
  have e2 : (n : Int) % 10 = (n : Int) % 100 := by omega
  have e3 : Lib.itoa ((0 : Nat) : Int) = [48] := by rw [itoa_nat, dec_small (by omega)]; rfl
  unfold hundT; rw [e1, e2, e3]; rfl
theorem hund_big {n : Nat} (h : ¬ n % 100 < 10) : hundT n = Lib.itoa ((n : Int) / 100) ++ ([46] ++ Lib.itoa ((n : Int) % 100)) := by
  have e1 : (n : Int) / 10 % 10 = ((n % 100 / 10 : Nat) : Int) := by omega
  have e2 : (n : Int) % 10 = ((n % 100 % 10 : Nat) : Int) := by omega
  have e3 : (n : Int) % 100 = ((n % 100 : Nat) : Int) := by omega
  unfold hundT
  rw [e1, e2, e3, itoa_nat (n % 100), dec_big h, itoa_nat, itoa_nat, dec_small (n := n % 100 % 10) (by omega)]
theorem hund_len {n : Nat} (h : n ≤ 1000000) : (⟨(hundT n).toArray⟩ : ByteArray).size ≤ 301 := by
  have h1 := itoa_len (n := (n : Int) / 100) (by omega) (by omega)
  have h2 := itoa_len (n := (n : Int) / 10 % 10) (by omega) (by omega)
  have h3 := itoa_len (n := (n : Int) % 10) (by omega) (by omega)
  have e : ∀ l : List UInt8, (⟨l.toArray⟩ : ByteArray).size = l.length := fun l => rfl
  rw [e] at *
  unfold hundT
  simp only [List.length_append, List.length_cons, List.length_nil]
  have h9 : (Lib.itoa ((n : Int) / 100)).length ≤ 100 := h1
  omega

set_option maxHeartbeats 1000000 in
theorem hundredths_any (n : Nat) (w : World) (h : n ≤ 1000000) (ht : Tab w) :
    Calls Tryd.prog 36 #[.int .i64 (n : Int)] w fun e w' => e = .returned (.string ⟨(hundT n).toArray⟩) ∧ Below w.heap.size w w' := by
  have v1 : (n : Int).tdiv 100 = (n : Int) / 100 := Int.tdiv_eq_ediv_of_nonneg (by omega)
  have v2 : (n : Int).tmod 100 = (n : Int) % 100 := Int.tmod_eq_emod_of_nonneg (by omega)
  obtain ⟨t1, e1⟩ : ∃ t : ByteArray, t = ⟨(Lib.itoa ((n : Int) / 100)).toArray⟩ := ⟨_, rfl⟩
  have y1 : t1.size ≤ 100 := by rw [e1]; exact itoa_len (by omega) (by omega)
  have N1 : Hid (∀ W, Tab W → Calls Tryd.prog 24 #[.int .i64 ((n : Int) / 100)] W fun e w' => e = .returned (.string t1) ∧ Below W.heap.size W w') := by rw [e1]; exact fun W hW => itoa_any _ W (by omega) (by omega) hW
  have HE1 : Hid (bl t1 = Lib.itoa ((n : Int) / 100)) := by rw [Hid, e1, bl_mk]
  obtain ⟨t2, e2⟩ : ∃ t : ByteArray, t = ⟨(Lib.itoa ((n : Int) % 100)).toArray⟩ := ⟨_, rfl⟩
  have y2 : t2.size ≤ 100 := by rw [e2]; exact itoa_len (by omega) (by omega)
  have N2 : Hid (∀ W, Tab W → Calls Tryd.prog 24 #[.int .i64 ((n : Int) % 100)] W fun e w' => e = .returned (.string t2) ∧ Below W.heap.size W w') := by rw [e2]; exact fun W hW => itoa_any _ W (by omega) (by omega) hW
  have HE2 : Hid (bl t2 = Lib.itoa ((n : Int) % 100)) := by rw [Hid, e2, bl_mk]
  have z1 : (⟨#[46]⟩ : ByteArray).size = 1 := rfl
  have z2 : (⟨#[46, 48]⟩ : ByteArray).size = 2 := rfl
  clear e1 e2
  by_cases hlt : n % 100 < 10
  · have HH := Lib.hid (hund_small hlt)
    have d1 : decide ((n : Int) % 100 < 10) = true := decide_eq_true (by omega)
    clear hlt
    go_enter Tryd.func36, Tryd.ntmps36
    go_wp2_with fail
    refine (N1.out _ ht).mono ?_
    rintro en w1 ⟨rfl, hb1⟩
    go_wp2_with fail
    refine (N2.out _ (ht.then hb1)).mono ?_
    rintro en w2 ⟨rfl, hb2⟩
    go_wp2_with fail
    have key : (t1 ++ ⟨#[46, 48]⟩ ++ t2 : ByteArray) = ⟨(hundT n).toArray⟩ := bl_ext (by simp only [bl_app, HH.out, HE1.out, HE2.out, List.append_assoc]; rfl)
    go_ret
    exact ⟨by rw [← key]; rfl, bthen hb1 hb2⟩
  · have HH := Lib.hid (hund_big hlt)
    have d1 : decide ((n : Int) % 100 < 10) = false := decide_eq_false (by omega)
    clear hlt
    go_enter Tryd.func36, Tryd.ntmps36
    go_wp2_with fail
    refine (N1.out _ ht).mono ?_
    rintro en w1 ⟨rfl, hb1⟩
    go_wp2_with fail
    refine (N2.out _ (ht.then hb1)).mono ?_
    rintro en w2 ⟨rfl, hb2⟩
    go_wp2_with fail
    have key : (t1 ++ ⟨#[46]⟩ ++ t2 : ByteArray) = ⟨(hundT n).toArray⟩ := bl_ext (by simp only [bl_app, HH.out, HE1.out, HE2.out, List.append_assoc]; rfl)
    go_ret
    exact ⟨by rw [← key]; rfl, bthen hb1 hb2⟩
end Go.Proofs.YtgdjdejfegkjdaaDoor
