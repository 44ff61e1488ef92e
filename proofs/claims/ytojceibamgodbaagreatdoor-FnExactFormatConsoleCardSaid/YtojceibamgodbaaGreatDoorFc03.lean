/- Fc03: the texts LogM Bl Emp Plain Sum Line Ver Cut Dec Own Cat OwnR, joined into one file. -/
import Derived.Lib.ItoaNum
import Derived.Lib.ItoaLen
import Derived.Lib.IndexLaws
import Derived.Lib.LastIndexLaws
import Derived.Lib.IndexMore
import Derived.Test.YtojceibamgodbaaGreatDoorProg
import Derived.OwnWalk
import Derived.Maps.AppendAt
import Derived.Laws.OwnMore
import Derived.Test.YtojceibamgodbaaGreatDoorFc01
import Derived.Test.YtojceibamgodbaaGreatDoorFc02

set_option linter.unusedVariables false

/- Records and logs as bytes: plain words, no program in sight. -/
namespace Go.Proofs.YtojceibamgodbaaGreatDoor

/-! ### The bytes ahead of a byte -/
def bef (b : UInt8) : List UInt8 → List UInt8
  | [] => []
  | x :: l => if x = b then [] else x :: bef b l
theorem bef_free {b : UInt8} : ∀ {l : List UInt8}, b ∉ l → bef b l = l
  | [], _ => rfl
  | x :: l, h => by
    simp only [List.mem_cons, not_or] at h
    unfold bef; rw [if_neg (Ne.symm h.1), bef_free h.2]
theorem bef_mid {b : UInt8} {r : List UInt8} : ∀ {t : List UInt8}, b ∉ t → bef b (t ++ b :: r) = t
  | [], _ => by simp [bef]
  | x :: l, h => by
    simp only [List.mem_cons, not_or] at h
    rw [List.cons_append]; unfold bef; rw [if_neg (Ne.symm h.1), bef_mid h.2]
theorem bef_not (b : UInt8) : ∀ l : List UInt8, b ∉ bef b l
  | [] => by simp [bef]
  | x :: l => by
    unfold bef; split
    · simp
    · rename_i h; simp only [List.mem_cons, not_or]; exact ⟨Ne.symm h, bef_not b l⟩
theorem bef_or (b : UInt8) : ∀ l : List UInt8, (b ∉ l ∧ bef b l = l) ∨ ∃ r, l = bef b l ++ b :: r
  | [] => .inl ⟨by simp, rfl⟩
  | x :: l => by
    unfold bef
    by_cases h : x = b
    · rw [if_pos h]; exact .inr ⟨l, by simp [h]⟩
    · rw [if_neg h]
      rcases bef_or b l with ⟨h1, h2⟩ | ⟨r, h1⟩
      · exact .inl ⟨by simp only [List.mem_cons, not_or]; exact ⟨Ne.symm h, h1⟩, by rw [h2]⟩
      · exact .inr ⟨r, by rw [List.cons_append, ← h1]⟩
theorem bef_len (b : UInt8) (l : List UInt8) : (bef b l).length ≤ l.length := by
  rcases bef_or b l with ⟨_, h⟩ | ⟨r, h⟩
  · rw [h]; exact Nat.le_refl _
  · have := congrArg List.length h; simp at this; omega
theorem bef_whole {b : UInt8} {l : List UInt8} : (bef b l).length = l.length ↔ b ∉ l := by
  constructor
  · intro h
    rcases bef_or b l with ⟨h1, _⟩ | ⟨r, h1⟩
    · exact h1
    · have := congrArg List.length h1; simp at this; omega
  · intro h; rw [bef_free h]
theorem take_bef {b : UInt8} (l : List UInt8) : l.take (bef b l).length = bef b l := by
  rcases bef_or b l with ⟨_, h⟩ | ⟨r, h⟩
  · rw [h]; simp
  · have e : (bef b l ++ b :: r).take (bef b l).length = bef b l := List.take_left' rfl
    rwa [← h] at e
theorem parts_bef {b : UInt8} {l : List UInt8} (h : b ∈ l) : l = bef b l ++ b :: l.drop ((bef b l).length + 1) := by
  rcases bef_or b l with ⟨h1, _⟩ | ⟨r, h1⟩
  · exact absurd h h1
  · have e : (bef b l ++ b :: r).drop ((bef b l).length + 1) = r := by
      rw [List.drop_append, List.drop_eq_nil_of_le (by omega)]; simp
    rw [← h1] at e
    rw [e]; exact h1

/-! ### Where a byte stands, in the library's words -/
theorem occ_one (s : List UInt8) (b : UInt8) (i : Nat) : Lib.occAt s [b] i = decide (s[i]? = some b) := by
  unfold Lib.occAt
  rcases Nat.lt_or_ge i s.length with h | h
  · rw [List.drop_eq_getElem_cons h, List.getElem?_eq_getElem h]
    by_cases e : s[i] = b
    · subst e; simp [List.isPrefixOf]
    · simp [List.isPrefixOf, e, Ne.symm e]
  · rw [List.drop_eq_nil_of_le h, List.getElem?_eq_none h]; rfl
theorem index_one_none {s : List UInt8} {b : UInt8} (h : b ∉ s) : Lib.index s [b] = -1 :=
  Lib.index_none fun j _ => by
    rw [occ_one, decide_eq_false_iff_not]; intro e; exact h (List.mem_of_getElem? e)
theorem index_one_mid {t r : List UInt8} {b : UInt8} (h : b ∉ t) : Lib.index (t ++ b :: r) [b] = t.length :=
  Lib.index_first (by simp) (by rw [occ_one]; simp) fun j hj => by
    rw [occ_one, decide_eq_false_iff_not, List.getElem?_append_left hj]; intro e; exact h (List.mem_of_getElem? e)
theorem index_one_or (s : List UInt8) (b : UInt8) : (b ∉ s ∧ Lib.index s [b] = -1) ∨ (b ∈ s ∧ Lib.index s [b] = (bef b s).length) := by
  rcases bef_or b s with ⟨h, _⟩ | ⟨r, h⟩
  · exact .inl ⟨h, index_one_none h⟩
  · refine .inr ⟨by rw [h]; simp, ?_⟩
    rw (occs := [1]) [h]; exact index_one_mid (bef_not b s)
theorem contains_one (s : List UInt8) (b : UInt8) : Lib.contains s [b] = s.contains b := by
  unfold Lib.contains
  rcases index_one_or s b with ⟨h, e⟩ | ⟨h, e⟩
  · rw [e]; simp [h]
  · rw [e]; simp [h]
theorem cut_one_none {s : List UInt8} {b : UInt8} (h : b ∉ s) : Lib.cut s [b] = (s, [], false) := by
  unfold Lib.cut; rw [index_one_none h]; simp
theorem cut_one_mid {t r : List UInt8} {b : UInt8} (h : b ∉ t) : Lib.cut (t ++ b :: r) [b] = (t, r, true) := by
  unfold Lib.cut; rw [index_one_mid h]; simp
theorem last_one_none {s : List UInt8} {b : UInt8} (h : b ∉ s) : Lib.lastIndex s [b] = -1 := by
  unfold Lib.lastIndex
  split
  · rcases Lib.lastOcc_spec s [b] (s.length - [b].length + 1) with ⟨e, _⟩ | ⟨i, _, _, ho, _⟩
    · exact e
    · rw [occ_one, decide_eq_true_eq] at ho; exact absurd (List.mem_of_getElem? ho) h
  · rfl
theorem last_one_mid {t r : List UInt8} {b : UInt8} (h : b ∉ r) : Lib.lastIndex (t ++ b :: r) [b] = t.length := by
  unfold Lib.lastIndex
  rw [if_pos (by simp; omega)]
  rcases Lib.lastOcc_spec (t ++ b :: r) [b] ((t ++ b :: r).length - [b].length + 1) with ⟨_, hn⟩ | ⟨i, hi, e, ho, hn⟩
  · have := hn t.length (by simp; omega)
    rw [occ_one] at this; simp at this
  · rw [e]
    rw [occ_one, decide_eq_true_eq] at ho
    rcases Nat.lt_trichotomy i t.length with hlt | heq | hgt
    · have := hn t.length hlt (by simp; omega)
      rw [occ_one] at this; simp at this
    · rw [heq]
    · exfalso
      rw [List.getElem?_append_right (by omega)] at ho
      obtain ⟨d, hd⟩ : ∃ d, i - t.length = d + 1 := ⟨i - t.length - 1, by omega⟩
      rw [hd, List.getElem?_cons_succ] at ho
      exact h (List.mem_of_getElem? ho)
theorem last_one_ge (s : List UInt8) (b : UInt8) : Lib.lastIndex s [b] = -1 ∨ ∃ i : Nat, Lib.lastIndex s [b] = i ∧ i < s.length ∧ s[i]? = some b := by
  unfold Lib.lastIndex
  split
  · rcases Lib.lastOcc_spec s [b] (s.length - [b].length + 1) with ⟨e, _⟩ | ⟨i, hi, e, ho, _⟩
    · exact .inl e
    · rw [occ_one, decide_eq_true_eq] at ho
      exact .inr ⟨i, e, (List.getElem?_eq_some_iff.1 ho).1, ho⟩
  · exact .inl rfl

/-! ### Records -/
theorem dec_bytes : ∀ (n : Nat) (c : UInt8), c ∈ Lib.decDigits n → 48 ≤ c.toNat ∧ c.toNat ≤ 57 := by
  intro n
  induction n using Nat.strongRecOn with
  | ind n ih =>
    intro c hc
    rw [Lib.decDigits] at hc
    have one : ∀ k, k < 10 → c = UInt8.ofNat (48 + k) → 48 ≤ c.toNat ∧ c.toNat ≤ 57 := by
      intro k hk e
      have : c.toNat = 48 + k := by rw [e, UInt8.toNat_ofNat']; omega
      omega
    split at hc
    · rename_i h; exact one n h (by simpa using hc)
    · rename_i h
      rcases List.mem_append.1 hc with h1 | h1
      · exact ih (n / 10) (by omega) c h1
      · exact one (n % 10) (by omega) (by simpa using h1)
theorem itoa_nat (n : Nat) : Lib.itoa (n : Int) = Lib.decDigits n := by unfold Lib.itoa; rw [if_neg (by omega), Int.toNat_natCast]
theorem itoa_free {n : Nat} {b : UInt8} (h : b.toNat < 48 ∨ 57 < b.toNat) : b ∉ Lib.itoa (n : Int) := by
  rw [itoa_nat]; intro hb; have := dec_bytes n b hb; omega
theorem itoa_le21 {n : Nat} (h : n ≤ 9223372036854775807) : (Lib.itoa (n : Int)).length ≤ 21 := Lib.itoa_length_le _ (by omega) (by omega)

def plainB (c : UInt8) : Bool := decide (32 ≤ c.toNat) && decide (c.toNat ≤ 126) && c != 35
def plainL (l : List UInt8) : Bool := l.all plainB
theorem plain_free {l : List UInt8} (h : plainL l = true) : (35 : UInt8) ∉ l := fun hm => by
  have := List.all_eq_true.1 h _ hm; simp [plainB] at this
theorem plain_nl {l : List UInt8} (h : plainL l = true) : (10 : UInt8) ∉ l := fun hm => by
  have := List.all_eq_true.1 h _ hm; simp [plainB] at this
def recOk (c r : List UInt8) : Bool := decide (1 ≤ c.length) && decide (c.length ≤ 160) && plainL c && !c.contains 64 && plainL r && decide (r.length ≤ 200)
theorem recOk_iff {c r : List UInt8} : recOk c r = true ↔ 1 ≤ c.length ∧ c.length ≤ 160 ∧ plainL c = true ∧ (64 : UInt8) ∉ c ∧ plainL r = true ∧ r.length ≤ 200 := by
  unfold recOk; simp [Bool.and_eq_true, and_assoc]
def sumFrom : Nat → List UInt8 → Nat
  | h, [] => h
  | h, c :: l => sumFrom ((41 * h + c.toNat + 1) % 999979) l
theorem sumFrom_lt : ∀ (l : List UInt8) (h : Nat), h < 999979 → sumFrom h l < 999979
  | [], _, h => h
  | _ :: l, _, _ => sumFrom_lt l _ (Nat.mod_lt _ (by omega))
def sumL (l : List UInt8) : Nat := sumFrom 7 l
theorem sumL_lt (l : List UInt8) : sumL l < 999979 := sumFrom_lt l 7 (by omega)
def sealL (t : List UInt8) : List UInt8 := t ++ 35 :: Lib.itoa (sumL t)
theorem seal_len (t : List UInt8) : (sealL t).length ≤ t.length + 22 := by
  have := itoa_le21 (n := sumL t) (by have := sumL_lt t; omega)
  unfold sealL; simp; omega
theorem seal_bef {t : List UInt8} (h : (35 : UInt8) ∉ t) : bef 35 (sealL t) = t := bef_mid h
theorem seal_last (t : List UInt8) : Lib.lastIndex (sealL t) [35] = t.length := last_one_mid (itoa_free (by decide))
def txtL (k : Nat) (c r : List UInt8) : List UInt8 := Lib.itoa (k : Int) ++ [32] ++ c ++ [64] ++ r
def lineL (k : Nat) (c r : List UInt8) : List UInt8 := sealL (txtL k c r) ++ [10]
theorem txt_free {k : Nat} {c r : List UInt8} (h : recOk c r = true) : (35 : UInt8) ∉ txtL k c r := by
  obtain ⟨_, _, h1, _, h2, _⟩ := recOk_iff.1 h
  have a := itoa_free (n := k) (b := 35) (by decide)
  have b := plain_free h1
  have d := plain_free h2
  unfold txtL; simp [a, b, d]
theorem txt_len {k : Nat} {c r : List UInt8} (h : recOk c r = true) (hk : k ≤ 9223372036854775807) : (txtL k c r).length ≤ 383 := by
  obtain ⟨_, h1, _, _, _, h2⟩ := recOk_iff.1 h
  have := itoa_le21 hk
  unfold txtL; simp; omega
theorem line_len {k : Nat} {c r : List UInt8} (h : recOk c r = true) (hk : k ≤ 9223372036854775807) : (lineL k c r).length ≤ 406 := by
  have := txt_len h hk
  have := seal_len (txtL k c r)
  unfold lineL; simp; omega
theorem seal_nl {k : Nat} {c r : List UInt8} (h : recOk c r = true) : (10 : UInt8) ∉ sealL (txtL k c r) := by
  obtain ⟨_, _, h1, _, h2, _⟩ := recOk_iff.1 h
  have a := itoa_free (n := k) (b := 10) (by decide)
  have a' := itoa_free (n := sumL (txtL k c r)) (b := 10) (by decide)
  have b := plain_nl h1
  have d := plain_nl h2
  unfold sealL
  simp only [List.mem_append, List.mem_cons, not_or]
  refine ⟨?_, by decide, a'⟩
  unfold txtL; simp [a, b, d]

/-- s is the encoding of the record c, r with number k. -/
def Enc (k : Nat) (c r s : List UInt8) : Prop := recOk c r = true ∧ sealL (txtL k c r) = s
theorem Enc.inj {k : Nat} {c r c' r' s : List UInt8} (h : Enc k c r s) (h' : Enc k c' r' s) : c = c' ∧ r = r' := by
  obtain ⟨h1, h2⟩ := h
  obtain ⟨h1', h2'⟩ := h'
  have e : txtL k c r = txtL k c' r' := by rw [← seal_bef (txt_free h1), ← seal_bef (txt_free h1'), h2, h2']
  unfold txtL at e
  simp only [List.append_assoc] at e
  have e2 := List.append_cancel_left (List.append_cancel_left e)
  obtain ⟨_, _, _, n, _⟩ := recOk_iff.1 h1
  obtain ⟨_, _, _, n', _⟩ := recOk_iff.1 h1'
  have a := bef_mid (r := r) n
  have a' := bef_mid (r := r') n'
  have e3 : c ++ 64 :: r = c' ++ 64 :: r' := e2
  rw [e3, a'] at a
  subst a
  exact ⟨rfl, by simpa using List.append_cancel_left e3⟩
open Classical in
/-- What a line decodes to, as the record with number k. -/
noncomputable def decF (k : Nat) (s : List UInt8) : Option (List UInt8 × List UInt8) := if h : ∃ p : List UInt8 × List UInt8, Enc k p.1 p.2 s then some h.choose else none
theorem decF_some {k : Nat} {c r s : List UInt8} (h : Enc k c r s) : decF k s = some (c, r) := by
  have hex : ∃ p : List UInt8 × List UInt8, Enc k p.1 p.2 s := ⟨(c, r), h⟩
  unfold decF
  rw [dif_pos hex]
  obtain ⟨e1, e2⟩ := hex.choose_spec.inj h
  exact congrArg some (Prod.ext e1 e2)
theorem decF_none {k : Nat} {s : List UInt8} (h : ∀ c r, ¬ Enc k c r s) : decF k s = none := by
  unfold decF
  rw [dif_neg (fun ⟨p, hp⟩ => h _ _ hp)]
theorem decF_enc {k : Nat} {c r s : List UInt8} (h : decF k s = some (c, r)) : Enc k c r s := by
  by_cases hex : ∃ p : List UInt8 × List UInt8, Enc k p.1 p.2 s
  · unfold decF at h
    rw [dif_pos hex] at h
    have := hex.choose_spec
    rw [Option.some.inj h] at this
    exact this
  · unfold decF at h
    rw [dif_neg hex] at h; cases h

/-! ### The program's way of decoding: the checksum, a prefix, a cut -/
/-- A text with its checksum verified. -/
def Ver (t s : List UInt8) : Prop := (35 : UInt8) ∉ t ∧ sealL t = s ∧ t.length ≤ 4000 ∧ s.length ≤ 4000
theorem Ver.inj {t t' s : List UInt8} (h : Ver t s) (h' : Ver t' s) : t = t' := by
  rw [← seal_bef h.1, ← seal_bef h'.1, h.2.1, h'.2.1]
theorem Enc.ver {k : Nat} {c r s : List UInt8} (h : Enc k c r s) (hk : k ≤ 9223372036854775807) : Ver (txtL k c r) s := by
  refine ⟨txt_free h.1, h.2, by have := txt_len h.1 hk; omega, ?_⟩
  rw [← h.2]; have := txt_len h.1 hk; have := seal_len (txtL k c r); omega
theorem dec_no_ver {k : Nat} {s : List UInt8} (hk : k ≤ 9223372036854775807) (h : ∀ t, ¬ Ver t s) : decF k s = none := decF_none fun _ _ he => h _ (he.ver hk)
theorem dec_no_num {k : Nat} {s t : List UInt8} (hk : k ≤ 9223372036854775807) (hv : Ver t s) (h : ¬ (Lib.itoa (k : Int) ++ [32]) <+: t) : decF k s = none := decF_none fun c r he => h (by
  rw [hv.inj (he.ver hk)]
  exact ⟨c ++ [64] ++ r, by unfold txtL; simp⟩)
theorem dec_no_at {k : Nat} {s t u : List UInt8} (hk : k ≤ 9223372036854775807) (hv : Ver t s) (ht : t = Lib.itoa (k : Int) ++ [32] ++ u) (h : (64 : UInt8) ∉ u) : decF k s = none := decF_none fun c r he => h (by
  have e := hv.inj (he.ver hk)
  rw [ht] at e
  unfold txtL at e
  simp only [List.append_assoc] at e
  have := List.append_cancel_left (List.append_cancel_left e)
  rw [this]; simp)
theorem dec_iff_rec {k : Nat} {s t c r : List UInt8} (hk : k ≤ 9223372036854775807) (hv : Ver t s) (ht : t = Lib.itoa (k : Int) ++ [32] ++ (c ++ 64 :: r)) (hc : (64 : UInt8) ∉ c) :
    decF k s = if recOk c r = true then some (c, r) else none := by
  have e0 : txtL k c r = t := by rw [ht]; unfold txtL; simp
  split
  · rename_i h; exact decF_some ⟨h, by rw [e0]; exact hv.2.1⟩
  · rename_i h
    refine decF_none fun c' r' he => h ?_
    have e := hv.inj (he.ver hk)
    rw [← e0] at e
    unfold txtL at e
    simp only [List.append_assoc] at e
    have e2 := List.append_cancel_left (List.append_cancel_left e)
    have e3 : c ++ 64 :: r = c' ++ 64 :: r' := e2
    obtain ⟨_, _, _, n', _⟩ := recOk_iff.1 he.1
    have a := bef_mid (r := r) hc
    rw [e3, bef_mid n'] at a
    subst a
    have : r = r' := by simpa using List.append_cancel_left e3
    subst this
    exact he.1

/-! ### The reference's way: the text ahead of the sign -/
theorem dec_spec_num {k : Nat} {s : List UInt8} (h : ¬ (Lib.itoa (k : Int) ++ [32]) <+: bef 35 s) : decF k s = none := decF_none fun c r he => h (by
  rw [← he.2, seal_bef (txt_free he.1)]
  exact ⟨c ++ [64] ++ r, by unfold txtL; simp⟩)
theorem dec_spec_at {k : Nat} {s u : List UInt8} (ht : bef 35 s = Lib.itoa (k : Int) ++ [32] ++ u) (h : (64 : UInt8) ∉ u) : decF k s = none := decF_none fun c r he => h (by
  rw [← he.2, seal_bef (txt_free he.1)] at ht
  unfold txtL at ht
  simp only [List.append_assoc] at ht
  have := List.append_cancel_left (List.append_cancel_left ht)
  rw [← this]; simp)
theorem dec_spec_rec {k : Nat} {s c r : List UInt8} (ht : bef 35 s = Lib.itoa (k : Int) ++ [32] ++ (c ++ 64 :: r)) (hc : (64 : UInt8) ∉ c) :
    decF k s = if recOk c r = true ∧ lineL k c r = s ++ [10] then some (c, r) else none := by
  split
  · rename_i h; exact decF_some ⟨h.1, List.append_cancel_right h.2⟩
  · rename_i h
    refine decF_none fun c' r' he => h ?_
    have e := ht
    rw [← he.2, seal_bef (txt_free he.1)] at e
    unfold txtL at e
    simp only [List.append_assoc] at e
    have e2 := List.append_cancel_left (List.append_cancel_left e)
    have e3 : c' ++ 64 :: r' = c ++ 64 :: r := e2
    obtain ⟨_, _, _, n', _⟩ := recOk_iff.1 he.1
    have a := bef_mid (r := r) hc
    rw [← e3, bef_mid n'] at a
    subst a
    have : r' = r := by simpa using List.append_cancel_left e3
    subst this
    exact ⟨he.1, by unfold lineL; rw [he.2]⟩

/-! ### A log: the records at the start of its bytes -/
/-- At most n records, from number k on, each with the length of its line. -/
noncomputable def openF : Nat → Nat → List UInt8 → List ((List UInt8 × List UInt8) × Nat)
  | 0, _, _ => []
  | n + 1, k, s => if (10 : UInt8) ∈ s then
      match decF k (bef 10 s) with
      | none => []
      | some e => (e, (bef 10 s).length + 1) :: openF n (k + 1) (s.drop ((bef 10 s).length + 1))
    else []
def lens (l : List ((List UInt8 × List UInt8) × Nat)) : Nat := (l.map (·.2)).sum
theorem lens_cons (e : (List UInt8 × List UInt8) × Nat) (l : List ((List UInt8 × List UInt8) × Nat)) : lens (e :: l) = e.2 + lens l := by simp [lens]
theorem openF_no {n k : Nat} {s : List UInt8} (h : (10 : UInt8) ∉ s) : openF n k s = [] := by cases n <;> simp [openF, h]
theorem openF_bad {n k : Nat} {s : List UInt8} (h : decF k (bef 10 s) = none) : openF n k s = [] := by cases n <;> simp [openF, h]
theorem openF_yes {n k : Nat} {s : List UInt8} {e : List UInt8 × List UInt8} (h1 : (10 : UInt8) ∈ s) (h2 : decF k (bef 10 s) = some e) :
    openF (n + 1) k s = (e, (bef 10 s).length + 1) :: openF n (k + 1) (s.drop ((bef 10 s).length + 1)) := by simp [openF, h1, h2]
theorem openF_room : ∀ (n k : Nat) (s : List UInt8), lens (openF n k s) ≤ s.length
  | 0, _, _ => by simp [openF, lens]
  | n + 1, k, s => by
    by_cases h1 : (10 : UInt8) ∈ s
    · cases h2 : decF k (bef 10 s) with
      | none => rw [openF_bad h2]; simp [lens]
      | some e =>
        rw [openF_yes h1 h2, lens_cons]
        have := openF_room n (k + 1) (s.drop ((bef 10 s).length + 1))
        have h3 := congrArg List.length (parts_bef h1)
        simp at this h3
        simp only
        omega
    · rw [openF_no h1]; simp [lens]
theorem openF_length : ∀ (n k : Nat) (s : List UInt8), (openF n k s).length ≤ n
  | 0, _, _ => by simp [openF]
  | n + 1, k, s => by
    by_cases h1 : (10 : UInt8) ∈ s
    · cases h2 : decF k (bef 10 s) with
      | none => rw [openF_bad h2]; simp
      | some e => rw [openF_yes h1 h2, List.length_cons]; have := openF_length n (k + 1) (s.drop ((bef 10 s).length + 1)); omega
    · rw [openF_no h1]; simp
theorem openF_small : ∀ (n k : Nat) (s : List UInt8), n + k ≤ 1000 → lens (openF n k s) ≤ 406 * n
  | 0, _, _, _ => by simp [openF, lens]
  | n + 1, k, s, h => by
    by_cases h1 : (10 : UInt8) ∈ s
    · cases h2 : decF k (bef 10 s) with
      | none => rw [openF_bad h2]; simp [lens]
      | some e =>
        rw [openF_yes h1 h2, lens_cons]
        have := openF_small n (k + 1) (s.drop ((bef 10 s).length + 1)) (by omega)
        obtain ⟨c, r⟩ := e
        have he := decF_enc h2
        have hl := line_len (k := k) he.1 (by omega)
        unfold lineL at hl; rw [he.2] at hl; simp at hl
        simp only
        omega
    · rw [openF_no h1]; simp [lens]

/-- The places where records end, from a on, with a in front. -/
def endsF : Nat → List ((List UInt8 × List UInt8) × Nat) → List Nat
  | a, [] => [a]
  | a, e :: l => a :: endsF (a + e.2) l
theorem endsF_ne (a : Nat) (l : List ((List UInt8 × List UInt8) × Nat)) : endsF a l ≠ [] := by cases l <;> simp [endsF]
theorem endsF_length : ∀ (a : Nat) (l : List ((List UInt8 × List UInt8) × Nat)), (endsF a l).length = l.length + 1
  | _, [] => rfl
  | a, _ :: l => by simp [endsF, endsF_length (a + _) l]
theorem endsF_snoc : ∀ (a : Nat) (l : List ((List UInt8 × List UInt8) × Nat)) (e : (List UInt8 × List UInt8) × Nat), endsF a (l ++ [e]) = endsF a l ++ [a + lens l + e.2]
  | a, [], e => by simp [endsF, lens]
  | a, x :: l, e => by simp [endsF, endsF_snoc (a + x.2) l e, lens_cons, Nat.add_assoc]
theorem endsF_last : ∀ (a : Nat) (l : List ((List UInt8 × List UInt8) × Nat)), (endsF a l)[l.length]? = some (a + lens l)
  | _, [] => by simp [endsF, lens]
  | a, x :: l => by simp [endsF, endsF_last (a + x.2) l, lens_cons, Nat.add_assoc]
theorem endsF_ge : ∀ (a : Nat) (l : List ((List UInt8 × List UInt8) × Nat)) (x : Nat), x ∈ endsF a l → a ≤ x
  | a, [], x, h => by simp [endsF] at h; omega
  | a, e :: l, x, h => by
    simp only [endsF, List.mem_cons] at h
    rcases h with h | h
    · omega
    · have := endsF_ge (a + e.2) l x h; omega

/-- The durable bytes end where a record ends: it is as much as that they are read whole by themselves. -/
theorem kept_iff : ∀ (n k a : Nat) (D P : List UInt8), a + D.length ∈ endsF a (openF n k (D ++ P)) ↔ lens (openF n k D) = D.length
  | 0, k, a, D, P => by simp only [openF, endsF, lens, List.map_nil, List.sum_nil, List.mem_singleton]; omega
  | n + 1, k, a, D, P => by
    by_cases hD : D.length = 0
    · have : D = [] := List.eq_nil_of_length_eq_zero hD
      subst this
      rw [openF_no (s := []) (by simp)]
      constructor
      · intro _; rfl
      · intro _
        have : endsF a (openF (n + 1) k ([] ++ P)) ≠ [] := endsF_ne _ _
        cases h : openF (n + 1) k ([] ++ P) <;> simp [endsF]
    · by_cases h1 : (10 : UInt8) ∈ D
      · have e1 := parts_bef h1
        have h1' : (10 : UInt8) ∈ D ++ P := by simp [h1]
        have hb : bef 10 (D ++ P) = bef 10 D := by
          rw (occs := [1]) [e1]
          rw [List.append_assoc, List.cons_append]; exact bef_mid (bef_not 10 D)
        have hlen : (bef 10 D).length + 1 ≤ D.length := by have := congrArg List.length e1; simp at this; omega
        cases h2 : decF k (bef 10 D) with
        | none =>
          rw [openF_bad (by rw [hb]; exact h2), openF_bad h2]
          simp only [endsF, lens, List.map_nil, List.sum_nil, List.mem_singleton]; omega
        | some e =>
          rw [openF_yes h1' (by rw [hb]; exact h2), openF_yes h1 h2, hb]
          have e2 : (D ++ P).drop ((bef 10 D).length + 1) = D.drop ((bef 10 D).length + 1) ++ P := List.drop_append_of_le_length hlen
          rw [e2, lens_cons]
          simp only [endsF, List.mem_cons]
          have ih := kept_iff n (k + 1) (a + ((bef 10 D).length + 1)) (D.drop ((bef 10 D).length + 1)) P
          rw [List.length_drop] at ih
          have e3 : a + ((bef 10 D).length + 1) + (D.length - ((bef 10 D).length + 1)) = a + D.length := by omega
          rw [e3] at ih
          constructor
          · rintro (h | h)
            · omega
            · have := ih.1 h; omega
          · intro h
            exact .inr (ih.2 (by omega))
      · rw [openF_no h1]
        simp only [lens, List.map_nil, List.sum_nil]
        constructor
        · intro h
          exfalso
          by_cases h3 : (10 : UInt8) ∈ D ++ P
          · cases h2 : decF k (bef 10 (D ++ P)) with
            | none => rw [openF_bad h2] at h; simp only [endsF, List.mem_singleton] at h; omega
            | some e =>
              rw [openF_yes h3 h2] at h
              simp only [endsF, List.mem_cons] at h
              rcases h with h | h
              · omega
              · have := endsF_ge _ _ _ h
                have hge : D.length ≤ (bef 10 (D ++ P)).length := by
                  rcases Nat.lt_or_ge (bef 10 (D ++ P)).length D.length with hlt | hge
                  · exfalso
                    have e4 := parts_bef h3
                    have h5 : (D ++ P)[(bef 10 (D ++ P)).length]? = some 10 := by rw (occs := [1]) [e4]; simp
                    rw [List.getElem?_append_left hlt] at h5
                    exact h1 (List.mem_of_getElem? h5)
                  · exact hge
                omega
          · rw [openF_no h3] at h; simp only [endsF, List.mem_singleton] at h; omega
        · intro h; omega

/-- A log is valid. -/
noncomputable def logOk (D P : List UInt8) (n : Int) : Bool :=
  decide (lens (openF 60 0 (D ++ P)) = D.length + P.length) && decide (lens (openF 60 0 D) = D.length) && decide (((openF 60 0 (D ++ P)).length : Int) = n)
theorem logOk_small {D P : List UInt8} (h : lens (openF 60 0 (D ++ P)) = D.length + P.length) : D.length + P.length ≤ 30000 := by
  have := openF_small 60 0 (D ++ P) (by omega); omega
theorem logOk_iff {D P : List UInt8} {n : Int} : logOk D P n = true ↔ lens (openF 60 0 (D ++ P)) = D.length + P.length ∧ lens (openF 60 0 D) = D.length ∧ ((openF 60 0 (D ++ P)).length : Int) = n := by
  unfold logOk; simp [Bool.and_eq_true, and_assoc]
/-- The same in the program's words. -/
theorem logOk_impl {D P : List UInt8} {n : Int} : logOk D P n = true ↔ lens (openF 60 0 (D ++ P)) = D.length + P.length ∧ D.length ∈ endsF 0 (openF 60 0 (D ++ P)) ∧ n = ((openF 60 0 (D ++ P)).length : Int) := by
  have := kept_iff 60 0 0 D P
  rw [Nat.zero_add] at this
  rw [logOk_iff, this]
  constructor <;> (rintro ⟨h1, h2, h3⟩; exact ⟨h1, h2, h3.symm⟩)
end Go.Proofs.YtojceibamgodbaaGreatDoor

/- The bytes of a text (no program in sight). -/
namespace Go.Proofs.YtojceibamgodbaaGreatDoor
open Go.RowKit

def bl (s : ByteArray) : List UInt8 := s.data.toList
theorem bl_app (a b : ByteArray) : bl (a ++ b) = bl a ++ bl b := by unfold bl; rw [ByteArray.data_append, Array.toList_append]
theorem bl_mk (l : List UInt8) : bl ⟨l.toArray⟩ = l := by simp [bl]
theorem bl_lit (l : Array UInt8) : bl ⟨l⟩ = l.toList := rfl
theorem bl_size (s : ByteArray) : (bl s).length = s.size := rfl
theorem bl_ext {s : ByteArray} {l : List UInt8} (h : bl s = l) : s = ⟨l.toArray⟩ := by
  rw [← h]; simp [bl]
theorem bl_inj {s t : ByteArray} (h : bl s = bl t) : s = t := (bl_ext h).trans (bl_ext rfl).symm
set_option maxRecDepth 10000 in
theorem size_app (a b : ByteArray) : (a ++ b).size = a.size + b.size := by rw [← bl_size (a ++ b), bl_app, List.length_append, bl_size, bl_size]
theorem bl_drop {s : ByteArray} {k : Nat} (h : k < s.size) : (bl s).drop k = s[k] :: (bl s).drop (k + 1) := List.drop_eq_getElem_cons (l := bl s) h
theorem bl_take {s : ByteArray} {k : Nat} (h : k < s.size) : (bl s).take (k + 1) = (bl s).take k ++ [s[k]] := List.take_succ_eq_append_getElem (l := bl s) h
theorem bl_extract (s : ByteArray) (a b : Nat) : bl (s.extract a b) = ((bl s).take b).drop a := by
  unfold bl
  rw [Lib.extract_data, List.drop_take]
theorem u8_eq {a b : UInt8} : ((a.toNat : Int) == (b.toNat : Int)) = decide (a = b) := by
  rw [Bool.eq_iff_iff]; simp [← UInt8.toNat_inj]; omega
end Go.Proofs.YtojceibamgodbaaGreatDoor

/- Texts that are empty or not. -/
namespace Go.Proofs.YtojceibamgodbaaGreatDoor

theorem toL (s : ByteArray) : s.toList = bl s := ByteArray.toList_eq s
theorem empty_of0 {s : ByteArray} (h : ¬ 1 ≤ s.size) : s.toList = [] := by rw [toL]; exact List.eq_nil_of_length_eq_zero (by rw [bl_size]; omega)
theorem empty_not {s : ByteArray} (h : 1 ≤ s.size) : s.toList ≠ [] := fun e => by rw [toL] at e; have := congrArg List.length e; rw [bl_size, List.length_nil] at this; omega
end Go.Proofs.YtojceibamgodbaaGreatDoor

/- Plain texts and valid records, in the reference and in the program. -/
namespace Go.Proofs.YtojceibamgodbaaGreatDoor
open Go.RowKit

theorem plainB_iff {c : UInt8} : plainB c = true ↔ 32 ≤ c.toNat ∧ c.toNat ≤ 126 ∧ c.toNat ≠ 35 := by
  unfold plainB
  simp only [Bool.and_eq_true, decide_eq_true_eq, bne_iff_ne, ne_eq, and_assoc]
  constructor <;> (rintro ⟨h1, h2, h3⟩; refine ⟨h1, h2, fun h => h3 ?_⟩)
  · exact UInt8.toNat_inj.1 h
  · rw [h]; rfl
theorem plain_drop {s : ByteArray} {k : Nat} (h : k < s.size) : plainL ((bl s).drop k) = (plainB s[k] && plainL ((bl s).drop (k + 1))) := by rw [bl_drop h]; rfl

set_option maxHeartbeats 1000000 in
theorem l33Plain_any (s : ByteArray) (m : Int) (w : World) (hs : s.size ≤ 1000000000) :
    Calls Tryz.prog 81 #[.string s, .int .i64 m] w fun e w' => e = .returned (.bool (plainL (bl s) && decide ((s.size : Int) ≤ m))) ∧ w = w' := by
  have HF : Hid (plainL ((bl s).drop 0) = plainL (bl s)) := rfl
  go_enter Tryz.func81, Tryz.ntmps81
  go_wp2
  go_loop [5] (fun i => ∃ k : Nat, k ≤ s.size ∧ i = .int .i64 k ∧ Hid (plainL ((bl s).drop k) = plainL (bl s))) (fun i => s.size - (intOf i).toNat)
  case atStart => exact ⟨0, Nat.zero_le _, rfl, HF⟩
  case round =>
    obtain ⟨k, hk, rfl, HR⟩ := hrel
    by_cases hlt : k < s.size
    · have HD := Lib.hid (plain_drop hlt)
      have u1 : (s[k].toNat : Int) ≤ 255 := by have := UInt8.toNat_lt s[k]; omega
      cases hp : plainB s[k]
      · rw [hp] at HD
        have HN : Hid (plainL (bl s) = false) := by rw [Hid, ← HR.out, HD.out]; rfl
        by_cases h1 : inR (s[k].toNat : Int) 32 126 = true
        · have h2 : ((s[k].toNat : Int) == 35) = true := by
            rw [inR_iff] at h1
            have : ¬ (32 ≤ s[k].toNat ∧ s[k].toNat ≤ 126 ∧ s[k].toNat ≠ 35) := fun h => by rw [plainB_iff.2 h] at hp; cases hp
            simp; omega
          clear hp
          have H1 := Lib.hid h1; clear h1
          go_wp2_with (go_at_call 54; refine (l1In_any _ _ _ _).mono ?_; rw [H1.out]; rintro e w' ⟨rfl, rfl⟩)
          go_ret
          exact ⟨by rw [HN.out]; rfl, rfl⟩
        · have h1' : inR (s[k].toNat : Int) 32 126 = false := by simpa using h1
          clear hp h1
          have H1 := Lib.hid h1'; clear h1'
          go_wp2_with (go_at_call 54; refine (l1In_any _ _ _ _).mono ?_; rw [H1.out]; rintro e w' ⟨rfl, rfl⟩)
          go_ret
          exact ⟨by rw [HN.out]; rfl, rfl⟩
      · rw [hp] at HD
        rw [plainB_iff] at hp
        have H1 : Hid (inR (s[k].toNat : Int) 32 126 = true) := by rw [Hid, inR_iff]; omega
        have h2 : ((s[k].toNat : Int) == 35) = false := by simp; omega
        clear hp
        go_wp2_with (go_at_call 54; refine (l1In_any _ _ _ _).mono ?_; rw [H1.out]; rintro e w' ⟨rfl, rfl⟩)
        go_round
        case rel => exact ⟨k + 1, by omega, by go_num, by have h := HR.out; rw [HD.out] at h; exact h⟩
        case measure => simp [intOf]; omega
    · have HK : Hid (plainL (bl s) = true) := by
        have h1 := HR.out
        rw [List.drop_eq_nil_of_le (by rw [bl_size]; omega)] at h1; exact h1.symm
      go_wp2
      go_ret
      exact ⟨by rw [HK.out]; rfl, rfl⟩

set_option maxHeartbeats 1000000 in
theorem isPrintable_any (s : ByteArray) (w : World) (hs : s.size ≤ 1000000000) :
    Calls Tryz.prog 89 #[.string s] w fun e w' => e = .returned (.bool (plainL (bl s))) ∧ w = w' := by
  have HF : Hid (plainL ((bl s).drop 0) = plainL (bl s)) := rfl
  go_enter Tryz.func89, Tryz.ntmps89
  go_wp2
  go_loop [3, 6] (fun _ i => ∃ k : Nat, k ≤ s.size ∧ i = .int .i64 k ∧ Hid (plainL ((bl s).drop k) = plainL (bl s))) (fun _ i => s.size - (intOf i).toNat)
  case atStart => exact ⟨0, Nat.zero_le _, rfl, HF⟩
  case round =>
    obtain ⟨k, hk, rfl, HR⟩ := hrel
    by_cases hlt : k < s.size
    · have HD := Lib.hid (plain_drop hlt)
      have u1 : (s[k].toNat : Int) ≤ 255 := by have := UInt8.toNat_lt s[k]; omega
      cases hp : plainB s[k]
      · rw [hp] at HD
        have HN : Hid (plainL (bl s) = false) := by rw [Hid, ← HR.out, HD.out]; rfl
        have hor : (s[k].toNat : Int) < 32 ∨ (32 ≤ (s[k].toNat : Int) ∧ 126 < (s[k].toNat : Int)) ∨ (32 ≤ (s[k].toNat : Int) ∧ (s[k].toNat : Int) ≤ 126 ∧ (s[k].toNat : Int) = 35) := by
          have : ¬ (32 ≤ s[k].toNat ∧ s[k].toNat ≤ 126 ∧ s[k].toNat ≠ 35) := fun h => by rw [plainB_iff.2 h] at hp; cases hp
          omega
        clear hp
        rcases hor with h1 | ⟨h1, h2⟩ | ⟨h1, h2, h3⟩
        · have d1 : decide ((s[k].toNat : Int) < 32) = true := decide_eq_true h1
          clear h1
          go_wp2
          go_ret
          exact ⟨by rw [HN.out]; rfl, rfl⟩
        · have d1 : decide ((s[k].toNat : Int) < 32) = false := decide_eq_false (by omega)
          have d2 : decide (126 < (s[k].toNat : Int)) = true := decide_eq_true h2
          clear h1 h2
          go_wp2
          go_ret
          exact ⟨by rw [HN.out]; rfl, rfl⟩
        · have d1 : decide ((s[k].toNat : Int) < 32) = false := decide_eq_false (by omega)
          have d2 : decide (126 < (s[k].toNat : Int)) = false := decide_eq_false (by omega)
          have d3 : ((s[k].toNat : Int) == 35) = true := by simp [h3]
          clear h1 h2 h3
          go_wp2
          go_ret
          exact ⟨by rw [HN.out]; rfl, rfl⟩
      · rw [hp] at HD
        rw [plainB_iff] at hp
        have d1 : decide ((s[k].toNat : Int) < 32) = false := decide_eq_false (by omega)
        have d2 : decide (126 < (s[k].toNat : Int)) = false := decide_eq_false (by omega)
        have d3 : ((s[k].toNat : Int) == 35) = false := by simp; omega
        clear hp
        go_wp2
        go_round
        case rel => exact ⟨k + 1, by omega, by go_num, by have h := HR.out; rw [HD.out] at h; exact h⟩
        case measure => simp [intOf]; omega
    · have HK : Hid (plainL (bl s) = true) := by
        have h1 := HR.out
        rw [List.drop_eq_nil_of_le (by rw [bl_size]; omega)] at h1; exact h1.symm
      go_wp2
      go_ret
      exact ⟨by rw [HK.out]; rfl, rfl⟩

def hasB (l : List UInt8) (b : UInt8) : Bool := l.contains b
theorem has_drop {s : ByteArray} {k : Nat} {b : UInt8} (h : k < s.size) : hasB ((bl s).drop k) b = (decide (s[k] = b) || hasB ((bl s).drop (k + 1)) b) := by
  unfold hasB
  rw [bl_drop h, List.contains_cons]
  congr 1
  rw [Bool.eq_iff_iff]; simp; exact eq_comm

set_option maxHeartbeats 1000000 in
theorem l1Stands_any (s : ByteArray) (b : UInt8) (w : World) (hs : s.size ≤ 1000000000) :
    Calls Tryz.prog 82 #[.string s, .int .u8 b.toNat] w fun e w' => e = .returned (.bool (hasB (bl s) b)) ∧ w = w' := by
  have HF : Hid (hasB ((bl s).drop 0) b = hasB (bl s) b) := rfl
  go_enter Tryz.func82, Tryz.ntmps82
  go_wp2
  go_loop [5] (fun i => ∃ k : Nat, k ≤ s.size ∧ i = .int .i64 k ∧ Hid (hasB ((bl s).drop k) b = hasB (bl s) b)) (fun i => s.size - (intOf i).toNat)
  case atStart => exact ⟨0, Nat.zero_le _, rfl, HF⟩
  case round =>
    obtain ⟨k, hk, rfl, HR⟩ := hrel
    by_cases hlt : k < s.size
    · have HD := Lib.hid (has_drop (b := b) hlt)
      have hq := @u8_eq s[k] b
      cases hp : decide (s[k] = b)
      · rw [hp] at HD hq
        clear hp
        go_wp2
        go_round
        case rel => exact ⟨k + 1, by omega, by go_num, by have h := HR.out; rw [HD.out] at h; exact h⟩
        case measure => simp [intOf]; omega
      · rw [hp] at HD hq
        clear hp
        go_wp2
        go_ret
        exact ⟨by rw [← HR.out, HD.out]; rfl, rfl⟩
    · have HK : Hid (hasB (bl s) b = false) := by
        have h1 := HR.out
        rw [List.drop_eq_nil_of_le (by rw [bl_size]; omega)] at h1; exact h1.symm
      go_wp2
      go_ret
      exact ⟨by rw [HK.out]; rfl, rfl⟩

/-! ### Records -/
structure Rec where
  c : ByteArray
  r : ByteArray
abbrev Rec.val (e : Rec) : Value := .agg #[.string e.c, .string e.r]
def Rec.enc (e : Rec) : List Value := [.string e.c, .string e.r]
theorem Rec.enc_len (e : Rec) : e.enc.length = 2 := rfl
def Rec.ok (e : Rec) : Bool := recOk (bl e.c) (bl e.r)
theorem Rec.ok_eq (e : Rec) : e.ok = (decide (1 ≤ e.c.size) && decide (e.c.size ≤ 160) && plainL (bl e.c) && !hasB (bl e.c) 64 && plainL (bl e.r) && decide (e.r.size ≤ 200)) := rfl

def plainM (s : ByteArray) (m : Int) : Bool := plainL (bl s) && decide ((s.size : Int) ≤ m)
theorem plainM_any (s : ByteArray) (m : Int) (w : World) (hs : s.size ≤ 1000000000) :
    Calls Tryz.prog 81 #[.string s, .int .i64 m] w fun e w' => e = .returned (.bool (plainM s m)) ∧ w = w' := l33Plain_any s m w hs
theorem Rec.ok_spec (e : Rec) : e.ok = (decide (1 ≤ e.c.size) && plainM e.c 160 && !hasB (bl e.c) 64 && plainM e.r 200) := by
  rw [Rec.ok_eq]
  unfold plainM
  have e1 : decide ((e.c.size : Int) ≤ 160) = decide (e.c.size ≤ 160) := by rw [Bool.eq_iff_iff]; simp; omega
  have e2 : decide ((e.r.size : Int) ≤ 200) = decide (e.r.size ≤ 200) := by rw [Bool.eq_iff_iff]; simp; omega
  rw [e1, e2]
  cases decide (1 ≤ e.c.size) <;> cases decide (e.c.size ≤ 160) <;> cases plainL (bl e.c) <;> cases hasB (bl e.c) 64 <;> cases plainL (bl e.r) <;> simp
theorem Rec.ok_impl (e : Rec) : e.ok = (inR e.c.size 1 160 && decide ((e.r.size : Int) ≤ 200) && plainL (bl e.c) && plainL (bl e.r) && !hasB (bl e.c) 64) := by
  rw [Rec.ok_eq]
  have e1 : inR e.c.size 1 160 = (decide (1 ≤ e.c.size) && decide (e.c.size ≤ 160)) := by rw [Bool.eq_iff_iff]; simp [inR]; omega
  have e2 : decide ((e.r.size : Int) ≤ 200) = decide (e.r.size ≤ 200) := by rw [Bool.eq_iff_iff]; simp; omega
  rw [e1, e2]
  cases decide (1 ≤ e.c.size) <;> cases decide (e.c.size ≤ 160) <;> cases plainL (bl e.c) <;> cases plainL (bl e.r) <;> cases hasB (bl e.c) 64 <;> simp
theorem contains1_any (s : ByteArray) (b : UInt8) (w : World) : Calls Tryz.prog 90 #[.string s, .string ⟨#[b]⟩] w fun e w' => e = .returned (.bool (hasB (bl s) b)) ∧ w = w' := by
  refine (Tryz.strings_Contains_one s b w).mono ?_
  rintro e w' ⟨rfl, rfl⟩
  refine ⟨?_, rfl⟩
  congr 2
  unfold hasB
  rw [← contains_one]
  unfold Lib.contains
  rw [Bool.eq_iff_iff]
  simp only [decide_eq_true_eq]
  have h1 : Lib.indexByte (bl s) b = Lib.index (bl s) [b] := by
    rcases index_one_or (bl s) b with ⟨hn, e⟩ | ⟨hy, e⟩
    · rw [e]
      rcases h : Lib.indexByte (bl s) b with n | n
      · exfalso; exact hn (List.mem_of_getElem? (Lib.indexByte_some (o := n) h).1)
      · have := Lib.indexByte_ge (bl s) b; rw [h] at this; omega
    · rw [e]
      have hge := Lib.indexByte_ge (bl s) b
      rcases Int.lt_or_le (Lib.indexByte (bl s) b) 0 with hlt | hge0
      · have : Lib.indexByte (bl s) b = -1 := by omega
        have h2 := Lib.indexByte_none this
        obtain ⟨k, hk, hk2⟩ := List.getElem_of_mem hy
        exact absurd (by rw [List.getElem?_eq_getElem hk, hk2]) (h2 k)
      · obtain ⟨n, hn⟩ := Int.eq_ofNat_of_zero_le hge0
        obtain ⟨h3, h4⟩ := Lib.indexByte_some hn
        rw [hn]
        have hp := parts_bef hy
        have h5 : (bl s)[(bef b (bl s)).length]? = some b := by
          have : (bef b (bl s) ++ b :: (bl s).drop ((bef b (bl s)).length + 1))[(bef b (bl s)).length]? = some b := by simp
          rwa [← hp] at this
        rcases Nat.lt_trichotomy n (bef b (bl s)).length with hlt | heq | hgt
        · exfalso
          have h6 : (bef b (bl s))[n]? = some b := by
            have : (bef b (bl s) ++ b :: (bl s).drop ((bef b (bl s)).length + 1))[n]? = some b := by rw [← hp]; exact h3
            rwa [List.getElem?_append_left hlt] at this
          exact bef_not b (bl s) (List.mem_of_getElem? h6)
        · rw [heq]
        · exact absurd h5 (h4 _ hgt)
  rw [show s.data.toList = bl s from rfl, h1]

set_option maxHeartbeats 2000000 in
theorem l33Good_any (e : Rec) (w : World) (h1 : e.c.size ≤ 1000000000) (h2 : e.r.size ≤ 1000000000) :
    Calls Tryz.prog 68 #[e.val] w fun en w' => en = .returned (.bool e.ok) ∧ Below w.heap.size w w' := by
  have hb0 := (Below.refl w.heap.size w).alloc (Nat.le_refl _) (.cells #[.string e.c, .string e.r] 96)
  have HO := Lib.hid e.ok_spec
  by_cases h0 : 1 ≤ e.c.size
  · have n1 := empty_not h0
    have n2 : (e.c.toList.isEmpty) = false := by simpa using n1
    have H0 : Hid (decide (1 ≤ e.c.size) = true) := decide_eq_true h0
    clear h0
    go_enter Tryz.func68, Tryz.ntmps68
    go_wp2_with (first | (go_at_call 81; refine (plainM_any _ _ _ (by assumption)).mono ?_; rintro e w' ⟨rfl, rfl⟩) | (go_at_call 82; refine (l1Stands_any _ 64 _ (by assumption)).mono ?_; rintro e w' ⟨rfl, rfl⟩))
    all_goals (go_ret; exact ⟨by rw [HO.out, H0.out]; simp [*], hb0⟩)
  · have n1 := empty_of0 h0
    have n2 : (e.c.toList.isEmpty) = true := by simp [n1]
    have H0 : Hid (decide (1 ≤ e.c.size) = false) := decide_eq_false h0
    clear h0
    go_enter Tryz.func68, Tryz.ntmps68
    go_wp2
    go_ret
    exact ⟨by rw [HO.out, H0.out]; rfl, hb0⟩

set_option maxHeartbeats 2000000 in
theorem isRecord_any (e : Rec) (w : World) (h1 : e.c.size ≤ 1000000000) (h2 : e.r.size ≤ 1000000000) :
    Calls Tryz.prog 75 #[e.val] w fun en w' => en = .returned (.bool e.ok) ∧ Below w.heap.size w w' := by
  have hb0 := (Below.refl w.heap.size w).alloc (Nat.le_refl _) (.cells #[.string e.c, .string e.r] 96)
  have HO := Lib.hid e.ok_impl
  go_enter Tryz.func75, Tryz.ntmps75
  go_wp2_with (first | (go_at_call 42; refine (inRange_any _ _ _ _).mono ?_; rintro e w' ⟨rfl, rfl⟩) | (go_at_call 89; refine (isPrintable_any _ _ (by assumption)).mono ?_; rintro e w' ⟨rfl, rfl⟩) | (go_at_call 90; refine (contains1_any _ 64 _).mono ?_; rintro e w' ⟨rfl, rfl⟩))
  all_goals (go_ret; refine ⟨?_, hb0⟩; rw [HO.out]; simp [*] <;> omega)
end Go.Proofs.YtojceibamgodbaaGreatDoor

/- Checksums and sealed texts, in the reference and in the program. -/
namespace Go.Proofs.YtojceibamgodbaaGreatDoor
open Go.RowKit

theorem sum_drop {s : ByteArray} {k h : Nat} (hk : k < s.size) : sumFrom h ((bl s).drop k) = sumFrom ((41 * h + s[k].toNat + 1) % 999979) ((bl s).drop (k + 1)) := by rw [bl_drop hk]; rfl

set_option maxHeartbeats 1000000 in
theorem l1Sum_any (s : ByteArray) (w : World) (hs : s.size ≤ 1000000000) :
    Calls Tryz.prog 93 #[.string s] w fun e w' => e = .returned (.int .i64 (sumL (bl s))) ∧ w = w' := by
  have HF : Hid (sumFrom 7 ((bl s).drop 0) = sumL (bl s)) := rfl
  go_enter Tryz.func93, Tryz.ntmps93
  go_wp2
  go_loop [3, 4] (fun n i => ∃ k h : Nat, k ≤ s.size ∧ i = .int .i64 k ∧ n = .int .i64 h ∧ h < 999979 ∧ Hid (sumFrom h ((bl s).drop k) = sumL (bl s))) (fun _ i => s.size - (intOf i).toNat)
  case atStart => exact ⟨0, 7, Nat.zero_le _, rfl, rfl, by omega, HF⟩
  case round =>
    obtain ⟨k, h, hk, rfl, rfl, hh, HR⟩ := hrel
    by_cases hlt : k < s.size
    · have HD := Lib.hid (sum_drop (h := h) hlt)
      have u1 : (s[k].toNat : Int) ≤ 255 := by have := UInt8.toNat_lt s[k]; omega
      have HM : Hid ((41 * (h : Int) + (s[k].toNat : Int) + 1) % 999979 = (((41 * h + s[k].toNat + 1) % 999979 : Nat) : Int)) := by unfold Hid; omega
      have HB : Hid ((41 * h + s[k].toNat + 1) % 999979 < 999979) := Nat.mod_lt _ (by omega)
      have e1 : (41 * (h : Int) + (s[k].toNat : Int) + 1).tmod 999979 = (41 * (h : Int) + (s[k].toNat : Int) + 1) % 999979 := Int.tmod_eq_emod_of_nonneg (by omega)
      go_wp2
      go_round
      case rel => exact ⟨k + 1, (41 * h + s[k].toNat + 1) % 999979, by omega, by go_num, congrArg _ HM.out, HB.out, by have h1 := HR.out; rw [HD.out] at h1; exact h1⟩
      case measure => simp [intOf]; omega
    · have HK : Hid (h = sumL (bl s)) := by
        have h1 := HR.out
        rw [List.drop_eq_nil_of_le (by rw [bl_size]; omega)] at h1; exact h1
      go_wp2
      go_ret
      exact ⟨by rw [← HK.out]; rfl, rfl⟩

set_option maxHeartbeats 1000000 in
theorem checksum_any (s : ByteArray) (w : World) (hs : s.size ≤ 1000000000) :
    Calls Tryz.prog 96 #[.string s] w fun e w' => e = .returned (.tuple #[.int .i64 (if s.size ≤ 4000 then (sumL (bl s) : Int) else 0), .bool (decide (s.size ≤ 4000))]) ∧ w = w' := by
  by_cases h4 : s.size ≤ 4000
  · have d4 : decide (4000 < (s.size : Int)) = false := decide_eq_false (by omega)
    have HF : Hid (sumFrom 7 ((bl s).drop 0) = sumL (bl s)) := rfl
    rw [if_pos h4, decide_eq_true h4]
    have H4 := Lib.hid h4
    go_enter Tryz.func96, Tryz.ntmps96
    go_wp2
    go_loop [4, 5, 11] (fun n _ i => ∃ k h : Nat, k ≤ s.size ∧ i = .int .i64 k ∧ n = .int .i64 h ∧ h < 999979 ∧ Hid (sumFrom h ((bl s).drop k) = sumL (bl s))) (fun _ _ i => s.size - (intOf i).toNat)
    case atStart => exact ⟨0, 7, Nat.zero_le _, rfl, rfl, by omega, HF⟩
    case round =>
      obtain ⟨k, h, hk, rfl, rfl, hh, HR⟩ := hrel
      by_cases hlt : k < s.size
      · have HD := Lib.hid (sum_drop (h := h) hlt)
        have u1 : (s[k].toNat : Int) ≤ 255 := by have := UInt8.toNat_lt s[k]; omega
        have HM : Hid ((41 * (h : Int) + (s[k].toNat : Int) + 1) % 999979 = (((41 * h + s[k].toNat + 1) % 999979 : Nat) : Int)) := by unfold Hid; omega
        have HB : Hid ((41 * h + s[k].toNat + 1) % 999979 < 999979) := Nat.mod_lt _ (by omega)
        have e1 : (41 * (h : Int) + (s[k].toNat : Int) + 1).tmod 999979 = (41 * (h : Int) + (s[k].toNat : Int) + 1) % 999979 := Int.tmod_eq_emod_of_nonneg (by omega)
        go_wp2
        go_round
        case rel => exact ⟨k + 1, (41 * h + s[k].toNat + 1) % 999979, by omega, by go_num, congrArg _ HM.out, HB.out, by have h1 := HR.out; rw [HD.out] at h1; exact h1⟩
        case measure => simp [intOf]; omega
      · have HK : Hid (h = sumL (bl s)) := by
          have h1 := HR.out
          rw [List.drop_eq_nil_of_le (by rw [bl_size]; omega)] at h1; exact h1
        go_wp2
        go_ret2
        exact ⟨by rw [← HK.out]; rfl, rfl⟩
  · have d4 : decide (4000 < (s.size : Int)) = true := decide_eq_true (by omega)
    rw [if_neg h4, decide_eq_false h4]
    clear h4
    go_enter Tryz.func96, Tryz.ntmps96
    go_wp2
    go_ret2
    exact ⟨rfl, rfl⟩

theorem str_eq {s : ByteArray} {l : List UInt8} (h : bl s = l) : Ending.returned (.string s) = .returned (.string ⟨l.toArray⟩) := by rw [bl_ext h]
theorem l1Seal_any (s : ByteArray) (w : World) (hs : s.size ≤ 1000000000) :
    Calls Tryz.prog 83 #[.string s] w fun e w' => e = .returned (.string ⟨(sealL (bl s)).toArray⟩) ∧ Below w.heap.size w w' := by
  have hl := sumL_lt (bl s)
  have HS := Lib.hid (fun W => l1Sum_any s W hs)
  have HN := Lib.hid (fun W => l1Num_any (sumL (bl s) : Int) W (by omega) (by omega))
  have hsz : (⟨(Lib.itoa (sumL (bl s) : Int)).toArray⟩ : ByteArray).size ≤ 100 := itoa_len (by omega) (by omega)
  obtain ⟨t, ht⟩ : ∃ t : ByteArray, t = ⟨(Lib.itoa (sumL (bl s) : Int)).toArray⟩ := ⟨_, rfl⟩
  rw [← ht] at HN hsz
  have HT : Hid (bl t = Lib.itoa (sumL (bl s) : Int)) := by rw [ht, Hid, bl_mk]
  clear ht
  go_enter Tryz.func83, Tryz.ntmps83
  go_wp2_with (first | (go_at_call 93; refine (HS.out _).mono ?_; rintro e w' ⟨rfl, rfl⟩) | (go_at_call 12; refine (HN.out _).mono ?_; rintro e w1 ⟨rfl, hb1⟩))
  go_ret
  exact ⟨str_eq (by rw [bl_app, bl_app, HT.out]; unfold sealL; simp [bl_lit]), hb1⟩
end Go.Proofs.YtojceibamgodbaaGreatDoor

/- Lines of records, in the reference and in the program; verified texts. -/
namespace Go.Proofs.YtojceibamgodbaaGreatDoor
open Go.RowKit

set_option maxHeartbeats 2000000 in
theorem l33Line_any (k : Nat) (e : Rec) (w : World) (hk : k ≤ 1000) (h1 : e.c.size ≤ 1000000) (h2 : e.r.size ≤ 1000000) :
    Calls Tryz.prog 69 #[.int .i64 k, e.val] w fun en w' => en = .returned (.string ⟨(lineL k (bl e.c) (bl e.r)).toArray⟩) ∧ Below w.heap.size w w' := by
  have b1 := (Below.refl w.heap.size w).alloc (Nat.le_refl _) (.cells #[.string e.c, .string e.r] 96)
  have L1 := Lies.new w 96 #[.string e.c, .string e.r]
  obtain ⟨t, ht⟩ : ∃ t : ByteArray, t = ⟨(Lib.itoa (k : Int)).toArray⟩ := ⟨_, rfl⟩
  have hts : t.size ≤ 100 := by rw [ht]; exact itoa_len (by omega) (by omega)
  have HN : Hid (∀ W, Calls Tryz.prog 12 #[.int .i64 k] W fun e w' => e = .returned (.string t) ∧ Below W.heap.size W w') := fun W => by rw [ht]; exact l1Num_any (k : Int) W (by omega) (by omega)
  have HT : Hid (bl t = Lib.itoa (k : Int)) := by rw [ht, Hid, bl_mk]
  clear ht
  obtain ⟨x, hx⟩ : ∃ x : ByteArray, x = t ++ ⟨#[32]⟩ ++ e.c ++ ⟨#[64]⟩ ++ e.r := ⟨_, rfl⟩
  have hxs : x.size ≤ 3000000 := by rw [hx]; simp only [size_app]; (have e1 : (⟨#[32]⟩ : ByteArray).size = 1 := rfl); (have e2 : (⟨#[64]⟩ : ByteArray).size = 1 := rfl); omega
  obtain ⟨z, hz⟩ : ∃ z : ByteArray, z = ⟨(sealL (bl x)).toArray⟩ := ⟨_, rfl⟩
  have hzs : z.size ≤ 4000000 := by rw [← bl_size, hz, bl_mk]; have := seal_len (bl x); rw [bl_size] at this; omega
  have HSl : Hid (∀ W, Calls Tryz.prog 83 #[.string (t ++ ⟨#[32]⟩ ++ e.c ++ ⟨#[64]⟩ ++ e.r)] W fun e w' => e = .returned (.string z) ∧ Below W.heap.size W w') := fun W => by rw [hz, ← hx]; exact l1Seal_any x W (by omega)
  have HF : Hid (bl (z ++ ⟨#[10]⟩) = lineL k (bl e.c) (bl e.r)) := by
    rw [Hid, bl_app, hz, bl_mk, hx]
    unfold lineL txtL
    simp [bl_app, bl_lit, HT.out]
  clear hz hx
  have z1 : (⟨#[32]⟩ : ByteArray).size = 1 := rfl
  have z2 : (⟨#[64]⟩ : ByteArray).size = 1 := rfl
  have z3 : (⟨#[10]⟩ : ByteArray).size = 1 := rfl
  go_enter Tryz.func69, Tryz.ntmps69
  go_wp2_with fail
  generalize w.alloc (.cells #[.string e.c, .string e.r] 96) = W at b1 L1 ⊢
  generalize hg : w.heap.size = g at L1 ⊢
  have c0 : ∀ p : Since W.heap.size W, p.val.cell? ⟨g, 0, none⟩ = some (.string e.c) := fun p => (p.cell L1.lt).trans (L1.cell 0)
  have c1 : ∀ p : Since W.heap.size W, p.val.cell? ⟨g, 1, none⟩ = some (.string e.r) := fun p => (p.cell L1.lt).trans (L1.cell 1)
  clear L1
  refine wp_region_since0 (by kernel_rfl) (by kernel_rfl) ?_
  repeat (any_goals (first | go_big_quiet_step ((first | (go_at_call 12; refine calls_since (Nat.le_refl _) (HN.out _)) | (go_at_call 83; refine calls_since (Nat.le_refl _) (HSl.out _)))) | (refine wpQuiet_step (fun K hK => ?_); go_simp; split <;> (refine hK _ ?_; clear hK K))))
  all_goals (refine wpQuiet_nil ?_; rintro _ ⟨q1, rfl⟩)
  go_wp2
  go_ret
  exact ⟨str_eq HF.out, by rw [← hg] at *; exact bthen b1 q1.below⟩

/-! ### The program's seal -/
def appOk (s : ByteArray) : Bool := decide (s.size ≤ 4000) && !hasB (bl s) 35 && decide ((sealL (bl s)).length ≤ 4000)
def appT (s : ByteArray) : ByteArray := if appOk s then ⟨(sealL (bl s)).toArray⟩ else ⟨#[]⟩

set_option maxHeartbeats 2000000 in
theorem appendChecksum_any (s : ByteArray) (w : World) (hs : s.size ≤ 1000000000) (ht : Tab w) :
    Calls Tryz.prog 86 #[.string s] w fun e w' => e = .returned (.tuple #[.string (appT s), .bool (appOk s)]) ∧ Below w.heap.size w w' := by
  have HC := Lib.hid (fun W => checksum_any s W hs)
  by_cases h4 : s.size ≤ 4000
  · rw [if_pos h4, decide_eq_true h4] at HC
    have HSt := Lib.hid (contains1_any s 35)
    cases hh : hasB (bl s) 35
    · rw [hh] at HSt
      have hl := sumL_lt (bl s)
      obtain ⟨t, htt⟩ : ∃ t : ByteArray, t = ⟨(Lib.itoa (sumL (bl s) : Int)).toArray⟩ := ⟨_, rfl⟩
      have hts : t.size ≤ 100 := by rw [htt]; exact itoa_len (by omega) (by omega)
      have HN : Hid (∀ W, Tab W → Calls Tryz.prog 17 #[.int .i64 (sumL (bl s) : Int)] W fun e w' => e = .returned (.string t) ∧ Below W.heap.size W w') := fun W hW => by rw [htt]; exact itoa_any _ W (by omega) (by omega) hW
      have HT : Hid (bl t = Lib.itoa (sumL (bl s) : Int)) := by rw [htt, Hid, bl_mk]
      clear htt
      have z1 : (⟨#[35]⟩ : ByteArray).size = 1 := rfl
      have HFin : Hid (bl (s ++ ⟨#[35]⟩ ++ t) = sealL (bl s)) := by
        rw [Hid, bl_app, bl_app, HT.out]; unfold sealL; simp [bl_lit]
      have HLn : Hid ((s ++ ⟨#[35]⟩ ++ t).size = (sealL (bl s)).length) := by rw [Hid, ← bl_size, HFin.out]
      have HZ : Hid ((s ++ ⟨#[35]⟩ ++ t).size = s.size + 1 + t.size) := by rw [Hid, size_app, size_app]; rfl
      have HA : Hid (appOk s = decide ((sealL (bl s)).length ≤ 4000)) := by unfold appOk Hid; rw [hh, decide_eq_true h4]; rfl
      clear hh h4
      by_cases h5 : s.size + 1 + t.size ≤ 4000
      · have HA2 : Hid (appOk s = true) := by rw [Hid, HA.out, ← HLn.out, HZ.out]; exact decide_eq_true h5
        have HA3 : Hid (appT s = s ++ ⟨#[35]⟩ ++ t) := by unfold appT Hid; rw [HA2.out, if_pos rfl]; exact (bl_ext HFin.out).symm
        have d5 : decide ((4000 : Int) < (s.size : Int) + 1 + (t.size : Int)) = false := decide_eq_false (by omega)
        go_enter Tryz.func86, Tryz.ntmps86
        go_wp2_with (first | (go_at_call 96; refine (HC.out _).mono ?_; rintro e w' ⟨rfl, rfl⟩) | (go_at_call 90; refine (HSt.out _).mono ?_; rintro e w' ⟨rfl, rfl⟩) | (go_at_call 17; refine (HN.out _ (by assumption)).mono ?_; rintro e w1 ⟨rfl, hb1⟩))
        go_ret2
        exact ⟨by rw [HA2.out, HA3.out]; rfl, hb1⟩
      · have HA2 : Hid (appOk s = false) := by rw [Hid, HA.out, ← HLn.out, HZ.out]; exact decide_eq_false h5
        have HA3 : Hid (appT s = ⟨#[]⟩) := by unfold appT Hid; rw [HA2.out]; rfl
        have d5 : decide ((4000 : Int) < (s.size : Int) + 1 + (t.size : Int)) = true := decide_eq_true (by omega)
        go_enter Tryz.func86, Tryz.ntmps86
        go_wp2_with (first | (go_at_call 96; refine (HC.out _).mono ?_; rintro e w' ⟨rfl, rfl⟩) | (go_at_call 90; refine (HSt.out _).mono ?_; rintro e w' ⟨rfl, rfl⟩) | (go_at_call 17; refine (HN.out _ (by assumption)).mono ?_; rintro e w1 ⟨rfl, hb1⟩))
        go_ret2
        exact ⟨by rw [HA2.out, HA3.out]; rfl, hb1⟩
    · rw [hh] at HSt
      have HA2 : Hid (appOk s = false) := by unfold appOk Hid; rw [hh]; simp
      have HA3 : Hid (appT s = ⟨#[]⟩) := by unfold appT Hid; rw [HA2.out]; rfl
      clear hh h4
      go_enter Tryz.func86, Tryz.ntmps86
      go_wp2_with (first | (go_at_call 96; refine (HC.out _).mono ?_; rintro e w' ⟨rfl, rfl⟩) | (go_at_call 90; refine (HSt.out _).mono ?_; rintro e w' ⟨rfl, rfl⟩))
      go_ret2
      exact ⟨by rw [HA2.out, HA3.out]; rfl, Below.refl _ _⟩
  · rw [if_neg h4, decide_eq_false h4] at HC
    have HA2 : Hid (appOk s = false) := by unfold appOk Hid; rw [decide_eq_false h4]; rfl
    have HA3 : Hid (appT s = ⟨#[]⟩) := by unfold appT Hid; rw [HA2.out]; rfl
    clear h4
    go_enter Tryz.func86, Tryz.ntmps86
    go_wp2_with (first | (go_at_call 96; refine (HC.out _).mono ?_; rintro e w' ⟨rfl, rfl⟩))
    go_ret2
    exact ⟨by rw [HA2.out, HA3.out]; rfl, Below.refl _ _⟩

theorem hasB_false {l : List UInt8} {b : UInt8} : hasB l b = false ↔ b ∉ l := by unfold hasB; simp
theorem hasB_true {l : List UInt8} {b : UInt8} : hasB l b = true ↔ b ∈ l := by unfold hasB; simp
theorem appOk_iff {s : ByteArray} : appOk s = true ↔ s.size ≤ 4000 ∧ (35 : UInt8) ∉ bl s ∧ (sealL (bl s)).length ≤ 4000 := by
  unfold appOk; simp [Bool.and_eq_true, hasB_false, and_assoc]

end Go.Proofs.YtojceibamgodbaaGreatDoor

/- Verified texts, cuts, decoded records, in the program. -/
namespace Go.Proofs.YtojceibamgodbaaGreatDoor
open Go.RowKit

open Classical in
/-- The text that is sealed in s. -/
noncomputable def verF (s : List UInt8) : Option (List UInt8) := if h : ∃ t, Ver t s then some h.choose else none
theorem verF_some {t s : List UInt8} (h : Ver t s) : verF s = some t := by
  have hex : ∃ t, Ver t s := ⟨t, h⟩
  unfold verF
  rw [dif_pos hex]
  exact congrArg some (hex.choose_spec.inj h)
theorem verF_none {s : List UInt8} (h : ∀ t, ¬ Ver t s) : verF s = none := by unfold verF; rw [dif_neg (fun ⟨t, ht⟩ => h t ht)]
theorem verF_ver {t s : List UInt8} (h : verF s = some t) : Ver t s := by
  by_cases hex : ∃ t, Ver t s
  · unfold verF at h
    rw [dif_pos hex] at h
    have := hex.choose_spec
    rw [Option.some.inj h] at this
    exact this
  · unfold verF at h
    rw [dif_neg hex] at h; cases h
theorem ver_last {t s : List UInt8} (h : Ver t s) : Lib.lastIndex s [35] = t.length := by rw [← h.2.1]; exact seal_last t
theorem ver_take {t s : List UInt8} (h : Ver t s) : s.take t.length = t := by rw [← h.2.1]; unfold sealL; exact List.take_left' rfl
def optT : Option (List UInt8) → ByteArray
  | some t => ⟨t.toArray⟩
  | none => ⟨#[]⟩

theorem str_beq (a b : ByteArray) : (a.toList == b.toList) = decide (bl a = bl b) := by
  rw [toL, toL, Bool.eq_iff_iff]; simp

set_option maxHeartbeats 2000000 in
theorem verify_any (s : ByteArray) (w : World) (hs : s.size ≤ 1000000000) (ht : Tab w) :
    Calls Tryz.prog 72 #[.string s] w fun e w' => e = .returned (.tuple #[.string (optT (verF (bl s))), .bool (verF (bl s)).isSome]) ∧ Below w.heap.size w w' := by
  have HL : Hid (∀ W, Calls Tryz.prog 85 #[.string s, .string ⟨#[35]⟩] W fun e w' => e = .returned (.int .i64 (Lib.lastIndex (bl s) [35])) ∧ w' = W) := fun W => Tryz.strings_LastIndex s ⟨#[35]⟩ (by omega) W
  rcases last_one_ge (bl s) 35 with h1 | ⟨i, h1, h2, h3⟩
  · have HV : Hid (verF (bl s) = none) := verF_none fun t hv => by have := ver_last hv; omega
    rw [h1] at HL
    clear h1
    go_enter Tryz.func72, Tryz.ntmps72
    go_wp2_with (go_at_call 85; refine (HL.out _).mono ?_; rintro e w' ⟨rfl, rfl⟩)
    go_ret2
    exact ⟨by rw [HV.out]; rfl, Below.refl _ _⟩
  · rw [h1] at HL
    have hi : i < s.size := h2
    obtain ⟨t, htt⟩ : ∃ t : ByteArray, t = s.extract 0 i := ⟨_, rfl⟩
    have hbt : bl t = (bl s).take i := by rw [htt, bl_extract]; simp
    have HC : Hid (∀ W, Tab W → Calls Tryz.prog 86 #[.string (s.extract 0 i)] W fun e w' => e = .returned (.tuple #[.string (appT t), .bool (appOk t)]) ∧ Below W.heap.size W w') := fun W hW => by
      rw [← htt]; exact appendChecksum_any t W (by rw [← bl_size, hbt, List.length_take, bl_size]; omega) hW
    have HVer : Hid (∀ t', Ver t' (bl s) → t' = bl t ∧ appOk t = true ∧ appT t = s) := fun t' hv => by
      have e1 := ver_last hv
      have e2 : t'.length = i := by omega
      have e3 := ver_take hv
      rw [e2, ← hbt] at e3
      subst e3
      have e4 : appOk t = true := appOk_iff.2 ⟨by rw [← bl_size]; exact hv.2.2.1, hv.1, by rw [hv.2.1]; exact hv.2.2.2⟩
      refine ⟨rfl, e4, ?_⟩
      unfold appT
      rw [e4, if_pos rfl, hv.2.1]
      exact (bl_ext rfl).symm
    have HGet : Hid (appOk t = true → bl (appT t) = bl s → Ver (bl t) (bl s)) := fun h5 h6 => by
      obtain ⟨a1, a2, a3⟩ := appOk_iff.1 h5
      have a4 : bl (appT t) = sealL (bl t) := by unfold appT; rw [h5, if_pos rfl, bl_mk]
      exact ⟨a2, by rw [← a4]; exact h6, by rw [bl_size]; exact a1, by rw [← h6, a4]; exact a3⟩
    clear h1 h2 h3
    cases hok : appOk t
    · have HV : Hid (verF (bl s) = none) := verF_none fun t' hv => by have := (HVer.out t' hv).2.1; rw [hok] at this; cases this
      rw [hok] at HC
      clear hok HVer HGet htt hbt
      go_enter Tryz.func72, Tryz.ntmps72
      go_wp2_with (first | (go_at_call 85; refine (HL.out _).mono ?_; rintro e w' ⟨rfl, rfl⟩) | (go_at_call 86; refine (HC.out _ (by assumption)).mono ?_; rintro e w1 ⟨rfl, hb1⟩))
      go_ret2
      exact ⟨by rw [HV.out]; rfl, hb1⟩
    · rw [hok] at HC
      have hne := str_beq (appT t) s
      by_cases heq : bl (appT t) = bl s
      · have HV : Hid (verF (bl s) = some (bl t)) := verF_some (HGet.out hok heq)
        have HT : Hid (optT (some (bl t)) = s.extract 0 i) := by unfold optT Hid; rw [← htt]; exact (bl_ext rfl).symm
        rw [decide_eq_true heq] at hne
        clear hok HVer HGet htt hbt heq
        generalize appT t = at' at HC hne
        go_enter Tryz.func72, Tryz.ntmps72
        go_wp2_with (first | (go_at_call 85; refine (HL.out _).mono ?_; rintro e w' ⟨rfl, rfl⟩) | (go_at_call 86; refine (HC.out _ (by assumption)).mono ?_; rintro e w1 ⟨rfl, hb1⟩))
        go_ret2
        exact ⟨by rw [HV.out, HT.out]; rfl, hb1⟩
      · have HV : Hid (verF (bl s) = none) := verF_none fun t' hv => by have := (HVer.out t' hv).2.2; exact heq (by rw [this])
        rw [decide_eq_false heq] at hne
        clear hok HVer HGet htt hbt heq
        generalize appT t = at' at HC hne
        go_enter Tryz.func72, Tryz.ntmps72
        go_wp2_with (first | (go_at_call 85; refine (HL.out _).mono ?_; rintro e w' ⟨rfl, rfl⟩) | (go_at_call 86; refine (HC.out _ (by assumption)).mono ?_; rintro e w1 ⟨rfl, hb1⟩))
        go_ret2
        exact ⟨by rw [HV.out]; rfl, hb1⟩
end Go.Proofs.YtojceibamgodbaaGreatDoor

/- Where a byte stands first; the library's Cut at one byte; decoded records in the program. -/
namespace Go.Proofs.YtojceibamgodbaaGreatDoor
open Go.RowKit

theorem idxByte_or (l : List UInt8) (b : UInt8) : (b ∉ l ∧ Lib.indexByte l b = -1) ∨ (b ∈ l ∧ Lib.indexByte l b = (bef b l).length) := by
  induction l with
  | nil => exact .inl ⟨by simp, rfl⟩
  | cons x l ih =>
    unfold Lib.indexByte bef
    by_cases h : x = b
    · subst h; exact .inr ⟨by simp, by simp⟩
    · have h' : (x == b) = false := by simp [h]
      rw [if_neg (by simp [h]), if_neg h]
      rcases ih with ⟨h1, h2⟩ | ⟨h1, h2⟩
      · exact .inl ⟨by simp only [List.mem_cons, not_or]; exact ⟨Ne.symm h, h1⟩, by rw [h2]; rfl⟩
      · refine .inr ⟨by simp [h1], ?_⟩
        rw [h2, if_neg (by simp)]; simp

def cutL (s : ByteArray) (b : UInt8) : ByteArray := ⟨(bef b (bl s)).toArray⟩
def cutR (s : ByteArray) (b : UInt8) : ByteArray := ⟨((bl s).drop ((bef b (bl s)).length + 1)).toArray⟩

set_option maxHeartbeats 1000000 in
theorem litCut_any (s : ByteArray) (b : UInt8) (w : World) (hs : s.size ≤ 1000000000) :
    Calls Tryz.prog 88 #[.string s, .string ⟨#[b]⟩] w fun e w' => e = .returned (.tuple #[.string (cutL s b), .string (cutR s b), .bool (hasB (bl s) b)]) ∧ Below w.heap.size w w' := by
  have HI := Lib.hid (fun W => Tryz.stringslite_Index_one s b W)
  have hb := bef_len b (bl s)
  rw [bl_size] at hb
  rcases idxByte_or (bl s) b with ⟨h1, h2⟩ | ⟨h1, h2⟩
  · rw [show s.data.toList = bl s from rfl, h2] at HI
    have HL : Hid (cutL s b = s) := by unfold cutL Hid; rw [bef_free h1]; exact (bl_ext rfl).symm
    have HR : Hid (cutR s b = ⟨#[]⟩) := by unfold cutR Hid; rw [bef_free h1, List.drop_eq_nil_of_le (by omega)]
    have HF : Hid (hasB (bl s) b = false) := hasB_false.2 h1
    clear h1 h2
    go_enter Tryz.func88, Tryz.ntmps88
    go_wp2_with (go_at_call 98; refine (HI.out _).mono ?_; rintro e w' ⟨rfl, rfl⟩)
    go_ret3
    exact ⟨by rw [HL.out, HR.out, HF.out]; rfl, Below.refl _ _⟩
  · rw [show s.data.toList = bl s from rfl, h2] at HI
    have hp := congrArg List.length (parts_bef h1)
    rw [bl_size] at hp
    simp only [List.length_append, List.length_cons, List.length_drop, bl_size] at hp
    have HF : Hid (hasB (bl s) b = true) := hasB_true.2 h1
    obtain ⟨n, hn⟩ : ∃ n, n = (bef b (bl s)).length := ⟨_, rfl⟩
    have HL : Hid (cutL s b = s.extract 0 n) := by
      unfold cutL Hid; refine (bl_ext ?_).symm
      rw [bl_extract, hn, take_bef]; simp
    have HR : Hid (cutR s b = s.extract (n + 1) s.size) := by
      unfold cutR Hid; refine (bl_ext ?_).symm
      rw [bl_extract, hn, List.take_of_length_le (by rw [bl_size]; omega)]
    rw [← hn] at HI hp hb
    have z1 : (⟨#[b]⟩ : ByteArray).size = 1 := rfl
    have hn1 : n + 1 ≤ s.size := by omega
    have i0 : (0 : Int) ≤ (n : Int) := by omega
    have i1 : (n : Int) ≤ (s.size : Int) := by omega
    have i2 : (n : Int) + 1 ≤ (s.size : Int) := by omega
    have i3 : IntKind.i64.wrap ((n : Int) + 1) = (n : Int) + 1 := IntWalk.i64_in _ (by omega)
    clear hn hp h1 h2
    go_enter Tryz.func88, Tryz.ntmps88
    go_wp2_with (go_at_call 98; refine (HI.out _).mono ?_; rintro e w' ⟨rfl, rfl⟩)
    refine wp_region_since0 (by kernel_rfl) (by kernel_rfl) ?_
    repeat (any_goals (first | go_big_quiet_step ((fail)) | (refine wpQuiet_step (fun K hK => ?_); go_simp; split <;> (refine hK _ ?_; clear hK K))))
    all_goals (refine wpQuiet_nil ?_; rintro _ ⟨q1, rfl⟩)
    go_wp2
    go_ret3
    exact ⟨by rw [HL.out, HR.out, HF.out]; rfl, q1.below⟩

theorem cut_any (s : ByteArray) (b : UInt8) (w : World) (hs : s.size ≤ 1000000000) :
    Calls Tryz.prog 74 #[.string s, .string ⟨#[b]⟩] w fun e w' => e = .returned (.tuple #[.string (cutL s b), .string (cutR s b), .bool (hasB (bl s) b)]) ∧ Below w.heap.size w w' := by
  have HC := Lib.hid (fun W => litCut_any s b W hs)
  go_enter Tryz.func74, Tryz.ntmps74
  go_wp2_with (go_at_call 88; refine (HC.out _).mono ?_; rintro e w1 ⟨rfl, hb1⟩)
  go_ret3
  exact ⟨rfl, hb1⟩

/-- What decoding gives: the record, and whether there is one. -/
def DecIs (k : Nat) (s : ByteArray) (a b : ByteArray) (ok : Bool) : Prop := (ok = true ∧ decF k (bl s) = some (bl a, bl b)) ∨ (ok = false ∧ decF k (bl s) = none)
def GivesDec (k : Nat) (s : ByteArray) (w : World) (e : Ending) (w' : World) : Prop := ∃ a b ok, e = .returned (.tuple #[.agg #[.string a, .string b], .bool ok]) ∧ DecIs k s a b ok ∧ Below w.heap.size w w'
end Go.Proofs.YtojceibamgodbaaGreatDoor

/- Decoding a record, in the program. -/
namespace Go.Proofs.YtojceibamgodbaaGreatDoor
open Go.RowKit

theorem pre_drop {p t : List UInt8} (h : p <+: t) : t = p ++ t.drop p.length := by
  obtain ⟨u, rfl⟩ := h; simp

set_option maxRecDepth 100000 in
set_option maxHeartbeats 4000000 in
theorem decodeRecord_any (k : Nat) (s : ByteArray) (w : World) (hk : k ≤ 1000) (hs : s.size ≤ 3000000) (ht : Tab w) :
    Calls Tryz.prog 62 #[.int .i64 k, .string s] w (GivesDec k s w) := by
  have b1 := (Below.refl w.heap.size w).alloc (Nat.le_refl _) (.cells #[.string ⟨#[]⟩, .string ⟨#[]⟩] 96)
  have L1 := Lies.new w 96 #[.string ⟨#[]⟩, .string ⟨#[]⟩]
  have ht1 := ht.then b1
  have hk9 : k ≤ 9223372036854775807 := by omega
  obtain ⟨t, htt⟩ : ∃ t : ByteArray, t = ⟨(Lib.itoa (k : Int)).toArray⟩ := ⟨_, rfl⟩
  have hts : t.size ≤ 100 := by rw [htt]; exact itoa_len (by omega) (by omega)
  have HN : Hid (∀ W, Tab W → Calls Tryz.prog 17 #[.int .i64 k] W fun e w' => e = .returned (.string t) ∧ Below W.heap.size W w') := fun W hW => by rw [htt]; exact itoa_any (k : Int) W (by omega) (by omega) hW
  have HT : Hid (bl t = Lib.itoa (k : Int)) := by rw [htt, Hid, bl_mk]
  have HPre : Hid (bl (t ++ ⟨#[32]⟩) = Lib.itoa (k : Int) ++ [32]) := by rw [Hid, bl_app, HT.out]; rfl
  clear htt
  have z1 : (⟨#[32]⟩ : ByteArray).size = 1 := rfl
  have HV := Lib.hid (fun W hW => verify_any s W (by omega) hW)
  cases hv : verF (bl s) with
  | none =>
    rw [hv] at HV
    have HD : Hid (decF k (bl s) = none) := dec_no_ver hk9 fun u hu => by rw [verF_some hu] at hv; cases hv
    have HCP : Hid (∀ W, Calls Tryz.prog 73 #[.string ⟨#[]⟩, .string (t ++ ⟨#[32]⟩)] W fun e w' => e = .returned (.tuple #[.string ⟨#[]⟩, .bool false]) ∧ w' = W) := fun W => by
      have h1 := Tryz.strings_CutPrefix ⟨#[]⟩ (t ++ ⟨#[32]⟩) W
      have h2 : Lib.hasPrefix (⟨#[]⟩ : ByteArray).data.toList (t ++ ⟨#[32]⟩ : ByteArray).data.toList = false := by
        unfold Lib.hasPrefix
        have : (t ++ ⟨#[32]⟩ : ByteArray).data.toList = Lib.itoa (k : Int) ++ [32] := HPre.out
        rw [this]
        cases Lib.itoa (k : Int) <;> rfl
      unfold Lib.trimPrefix at h1
      rw [h2] at h1
      exact h1
    have HCt := Lib.hid (fun W => cut_any ⟨#[]⟩ 64 W (by decide))
    have e1 : cutL ⟨#[]⟩ 64 = ⟨#[]⟩ := rfl
    have e2 : cutR ⟨#[]⟩ 64 = ⟨#[]⟩ := rfl
    have e3 : hasB (bl ⟨#[]⟩) 64 = false := rfl
    rw [e1, e2, e3] at HCt
    clear e1 e2 e3 hv
    go_enter Tryz.func62, Tryz.ntmps62
    go_wp2_with fail
    generalize w.alloc (.cells #[.string ⟨#[]⟩, .string ⟨#[]⟩] 96) = W at b1 L1 ht1 ⊢
    generalize hg : w.heap.size = g at L1 ⊢
    refine (HV.out _ ht1).mono ?_
    rintro e w2 ⟨rfl, hb2⟩
    have ht2 := ht1.then hb2
    go_wp2_with (first | (go_at_call 17; refine (HN.out _ ht2).mono ?_; rintro e w3 ⟨rfl, hb3⟩) | (go_at_call 73; refine (HCP.out _).mono ?_; rintro e w4 ⟨rfl, rfl⟩))
    refine (HCt.out _).mono ?_
    rintro e w5 ⟨rfl, hb5⟩
    have hb15 := bthen (bthen hb2 hb3) hb5
    have L5 := L1.below hb15 L1.lt
    have c0 := L5.cell 0
    have c1 := L5.cell 1
    have f0 := L5.frozen 0
    have f1 := L5.frozen 1
    have hgl := L5.lt
    simp only [List.getElem?_cons_zero, List.getElem?_cons_succ] at c0 c1
    clear L1 L5
    go_wp2_with fail
    refine bodyPost_ret (v := .tuple #[.agg #[.string ⟨#[]⟩, .string ⟨#[]⟩], .bool false]) (by simp [results, Tryz.results62, go_sem, *]) rfl ⟨⟨#[]⟩, ⟨#[]⟩, false, rfl, .inr ⟨rfl, HD.out⟩, ?_⟩
    rw [← hg] at *
    exact (bthen b1 hb15).trans (by repeat (first | exact Below.refl _ _ | refine Below.alloc ?_ (by simp; have := b1.size; have := hb15.size; omega) _ | refine Below.setCell ?_ (by simp) _))
  | some u0 =>
    obtain ⟨u, rfl⟩ : ∃ u : ByteArray, u0 = bl u := ⟨⟨u0.toArray⟩, (bl_mk u0).symm⟩
    have hver := verF_ver hv
    have hul : u.size ≤ 4000 := hver.2.2.1
    rw [hv] at HV
    have HO : Hid (optT (some (bl u)) = u) := (bl_ext rfl).symm
    rw [HO.out] at HV
    have hcp : ∀ W, Calls Tryz.prog 73 #[.string u, .string (t ++ ⟨#[32]⟩)] W fun e w' => e = .returned (.tuple #[.string ⟨(Lib.trimPrefix (bl u) (Lib.itoa (k : Int) ++ [32])).toArray⟩, .bool (Lib.hasPrefix (bl u) (Lib.itoa (k : Int) ++ [32]))]) ∧ w' = W := fun W => by
      rw [← HPre.out]; exact Tryz.strings_CutPrefix u (t ++ ⟨#[32]⟩) W
    by_cases hp : (Lib.itoa (k : Int) ++ [32]) <+: bl u
    · have hpt : Lib.hasPrefix (bl u) (Lib.itoa (k : Int) ++ [32]) = true := List.isPrefixOf_iff_prefix.2 hp
      have hsplit := pre_drop hp
      obtain ⟨u', hu'⟩ : ∃ u' : ByteArray, u' = ⟨((bl u).drop (Lib.itoa (k : Int) ++ [32]).length).toArray⟩ := ⟨_, rfl⟩
      have hbu : bl u' = (bl u).drop (Lib.itoa (k : Int) ++ [32]).length := by rw [hu', bl_mk]
      rw [← hbu] at hsplit
      have HCP : Hid (∀ W, Calls Tryz.prog 73 #[.string u, .string (t ++ ⟨#[32]⟩)] W fun e w' => e = .returned (.tuple #[.string u', .bool true]) ∧ w' = W) := fun W => by
        have := hcp W
        unfold Lib.trimPrefix at this
        rw [hpt, if_pos rfl, ← hu'] at this; exact this
      have hu4 : u'.size ≤ 4000 := by rw [← bl_size, hbu, List.length_drop, bl_size]; omega
      have HCt := Lib.hid (fun W => cut_any u' 64 W (by omega))
      have hcl : (cutL u' 64).size ≤ 4000 := by unfold cutL; rw [← bl_size, bl_mk]; have := bef_len 64 (bl u'); rw [bl_size] at this; omega
      have hcr : (cutR u' 64).size ≤ 4000 := by unfold cutR; rw [← bl_size, bl_mk, List.length_drop, bl_size]; omega
      cases hat : hasB (bl u') 64
      · have HD : Hid (decF k (bl s) = none) := dec_no_at hk9 hver hsplit (hasB_false.1 hat)
        rw [hat] at HCt
        clear hv hver hcp hp hpt hsplit hu' hbu hat
        go_enter Tryz.func62, Tryz.ntmps62
        go_wp2_with fail
        generalize w.alloc (.cells #[.string ⟨#[]⟩, .string ⟨#[]⟩] 96) = W at b1 L1 ht1 ⊢
        generalize hg : w.heap.size = g at L1 ⊢
        refine (HV.out _ ht1).mono ?_
        rintro e w2 ⟨rfl, hb2⟩
        have ht2 := ht1.then hb2
        go_wp2_with (first | (go_at_call 17; refine (HN.out _ ht2).mono ?_; rintro e w3 ⟨rfl, hb3⟩) | (go_at_call 73; refine (HCP.out _).mono ?_; rintro e w4 ⟨rfl, rfl⟩))
        refine (HCt.out _).mono ?_
        rintro e w5 ⟨rfl, hb5⟩
        have hb15 := bthen (bthen hb2 hb3) hb5
        have L5 := L1.below hb15 L1.lt
        have c0 := L5.cell 0
        have c1 := L5.cell 1
        have f0 := L5.frozen 0
        have f1 := L5.frozen 1
        have hgl := L5.lt
        simp only [List.getElem?_cons_zero, List.getElem?_cons_succ] at c0 c1
        clear L1 L5
        go_wp2_with fail
        refine bodyPost_ret (v := .tuple #[.agg #[.string ⟨#[]⟩, .string ⟨#[]⟩], .bool false]) (by simp [results, Tryz.results62, go_sem, *]) rfl ⟨⟨#[]⟩, ⟨#[]⟩, false, rfl, .inr ⟨rfl, HD.out⟩, ?_⟩
        rw [← hg] at *
        exact (bthen b1 hb15).trans (by repeat (first | exact Below.refl _ _ | refine Below.alloc ?_ (by simp; have := b1.size; have := hb15.size; omega) _ | refine Below.setCell ?_ (by simp) _))
      · have hdec := dec_iff_rec (c := bl (cutL u' 64)) (r := bl (cutR u' 64)) hk9 hver (by
          rw [hsplit]; congr 1
          unfold cutL cutR; rw [bl_mk, bl_mk]; exact parts_bef (hasB_true.1 hat)) (by unfold cutL; rw [bl_mk]; exact bef_not 64 _)
        rw [hat] at HCt
        cases hok : Rec.ok ⟨cutL u' 64, cutR u' 64⟩
        · have HD : Hid (decF k (bl s) = none) := by
            rw [Hid, hdec, if_neg (fun h => by rw [show Rec.ok ⟨cutL u' 64, cutR u' 64⟩ = recOk (bl (cutL u' 64)) (bl (cutR u' 64)) from rfl, h] at hok; cases hok)]
          have HOK := Lib.hid hok
          clear hv hver hcp hp hpt hsplit hu' hbu hat hdec hok
          go_enter Tryz.func62, Tryz.ntmps62
          go_wp2_with fail
          generalize w.alloc (.cells #[.string ⟨#[]⟩, .string ⟨#[]⟩] 96) = W at b1 L1 ht1 ⊢
          generalize hg : w.heap.size = g at L1 ⊢
          refine (HV.out _ ht1).mono ?_
          rintro e w2 ⟨rfl, hb2⟩
          have ht2 := ht1.then hb2
          go_wp2_with (first | (go_at_call 17; refine (HN.out _ ht2).mono ?_; rintro e w3 ⟨rfl, hb3⟩) | (go_at_call 73; refine (HCP.out _).mono ?_; rintro e w4 ⟨rfl, rfl⟩))
          refine (HCt.out _).mono ?_
          rintro e w5 ⟨rfl, hb5⟩
          have hb15 := bthen (bthen hb2 hb3) hb5
          have L5 := L1.below hb15 L1.lt
          go_wp2_with fail
          have L6 := L5.alloc (.cells #[.string (cutL u' 64), .string (cutR u' 64)] 96)
          have N6 := Lies.new w5 96 #[.string (cutL u' 64), .string (cutR u' 64)]
          have b6 := (Below.refl w5.heap.size w5).alloc (Nat.le_refl _) (.cells #[.string (cutL u' 64), .string (cutR u' 64)] 96)
          generalize w5.alloc (.cells #[.string (cutL u' 64), .string (cutR u' 64)] 96) = W6 at L6 N6 b6 ⊢
          generalize hg5 : w5.heap.size = g5 at N6 ⊢
          refine (isRecord_any ⟨cutL u' 64, cutR u' 64⟩ _ (by simp only; omega) (by simp only; omega)).mono ?_
          rw [HOK.out]
          rintro e w7 ⟨rfl, hb7⟩
          have L7 := L6.below hb7 L6.lt
          have N7 := N6.below hb7 N6.lt
          have c0 := L7.cell 0
          have c1 := L7.cell 1
          have f0 := L7.frozen 0
          have f1 := L7.frozen 1
          have d0 := N7.cell 0
          have d1 := N7.cell 1
          have hgl := L7.lt
          simp only [List.getElem?_cons_zero, List.getElem?_cons_succ] at c0 c1 d0 d1
          have hgB : w.heap.size ≤ g := by omega
          have hall : Below w.heap.size w w7 := bthen (bthen b1 hb15) (bthen (by rw [← hg5] at *; exact b6) hb7)
          clear L1 L5 L6 L7 N6 N7
          go_wp2_with fail
          refine bodyPost_ret (v := .tuple #[.agg #[.string ⟨#[]⟩, .string ⟨#[]⟩], .bool false]) (by simp [results, Tryz.results62, go_sem, *]) rfl ⟨⟨#[]⟩, ⟨#[]⟩, false, rfl, .inr ⟨rfl, HD.out⟩, ?_⟩
          exact hall.trans (by repeat (first | exact Below.refl _ _ | refine Below.setCell ?_ (by simp only; exact hgB) _))
        · have HD : Hid (decF k (bl s) = some (bl (cutL u' 64), bl (cutR u' 64))) := by
            rw [Hid, hdec, if_pos (by exact hok)]
          have HOK := Lib.hid hok
          clear hv hver hcp hp hpt hsplit hu' hbu hat hdec hok
          go_enter Tryz.func62, Tryz.ntmps62
          go_wp2_with fail
          generalize w.alloc (.cells #[.string ⟨#[]⟩, .string ⟨#[]⟩] 96) = W at b1 L1 ht1 ⊢
          generalize hg : w.heap.size = g at L1 ⊢
          refine (HV.out _ ht1).mono ?_
          rintro e w2 ⟨rfl, hb2⟩
          have ht2 := ht1.then hb2
          go_wp2_with (first | (go_at_call 17; refine (HN.out _ ht2).mono ?_; rintro e w3 ⟨rfl, hb3⟩) | (go_at_call 73; refine (HCP.out _).mono ?_; rintro e w4 ⟨rfl, rfl⟩))
          refine (HCt.out _).mono ?_
          rintro e w5 ⟨rfl, hb5⟩
          have hb15 := bthen (bthen hb2 hb3) hb5
          have L5 := L1.below hb15 L1.lt
          go_wp2_with fail
          have L6 := L5.alloc (.cells #[.string (cutL u' 64), .string (cutR u' 64)] 96)
          have N6 := Lies.new w5 96 #[.string (cutL u' 64), .string (cutR u' 64)]
          have b6 := (Below.refl w5.heap.size w5).alloc (Nat.le_refl _) (.cells #[.string (cutL u' 64), .string (cutR u' 64)] 96)
          generalize w5.alloc (.cells #[.string (cutL u' 64), .string (cutR u' 64)] 96) = W6 at L6 N6 b6 ⊢
          generalize hg5 : w5.heap.size = g5 at N6 ⊢
          refine (isRecord_any ⟨cutL u' 64, cutR u' 64⟩ _ (by simp only; omega) (by simp only; omega)).mono ?_
          rw [HOK.out]
          rintro e w7 ⟨rfl, hb7⟩
          have L7 := L6.below hb7 L6.lt
          have N7 := N6.below hb7 N6.lt
          have c0 := L7.cell 0
          have c1 := L7.cell 1
          have f0 := L7.frozen 0
          have f1 := L7.frozen 1
          have d0 := N7.cell 0
          have d1 := N7.cell 1
          have hgl := L7.lt
          simp only [List.getElem?_cons_zero, List.getElem?_cons_succ] at c0 c1 d0 d1
          have hgB : w.heap.size ≤ g := by omega
          have hall : Below w.heap.size w w7 := bthen (bthen b1 hb15) (bthen (by rw [← hg5] at *; exact b6) hb7)
          clear L1 L5 L6 L7 N6 N7
          go_wp2_with fail
          refine bodyPost_ret (v := .tuple #[.agg #[.string (cutL u' 64), .string (cutR u' 64)], .bool true]) (by simp [results, Tryz.results62, go_sem, *]) rfl ⟨cutL u' 64, cutR u' 64, true, rfl, .inl ⟨rfl, HD.out⟩, ?_⟩
          exact hall.trans (by repeat (first | exact Below.refl _ _ | refine Below.setCell ?_ (by simp only; exact hgB) _))
    · have hpf : Lib.hasPrefix (bl u) (Lib.itoa (k : Int) ++ [32]) = false := by
        rcases h : Lib.hasPrefix (bl u) (Lib.itoa (k : Int) ++ [32]) with _ | _
        · rfl
        · exact absurd (List.isPrefixOf_iff_prefix.1 h) hp
      have HD : Hid (decF k (bl s) = none) := dec_no_num hk9 hver hp
      have HCP : Hid (∀ W, Calls Tryz.prog 73 #[.string u, .string (t ++ ⟨#[32]⟩)] W fun e w' => e = .returned (.tuple #[.string u, .bool false]) ∧ w' = W) := fun W => by
        have := hcp W
        unfold Lib.trimPrefix at this
        rw [hpf] at this
        simp only [Bool.false_eq_true, if_false] at this
        rwa [show (⟨(bl u).toArray⟩ : ByteArray) = u from (bl_ext rfl).symm] at this
      have HCt := Lib.hid (fun W => cut_any u 64 W (by omega))
      generalize hasB (bl u) 64 = hb at HCt
      clear hv hver hcp hp hpf
      go_enter Tryz.func62, Tryz.ntmps62
      go_wp2_with fail
      generalize w.alloc (.cells #[.string ⟨#[]⟩, .string ⟨#[]⟩] 96) = W at b1 L1 ht1 ⊢
      generalize hg : w.heap.size = g at L1 ⊢
      refine (HV.out _ ht1).mono ?_
      rintro e w2 ⟨rfl, hb2⟩
      have ht2 := ht1.then hb2
      go_wp2_with (first | (go_at_call 17; refine (HN.out _ ht2).mono ?_; rintro e w3 ⟨rfl, hb3⟩) | (go_at_call 73; refine (HCP.out _).mono ?_; rintro e w4 ⟨rfl, rfl⟩))
      refine (HCt.out _).mono ?_
      rintro e w5 ⟨rfl, hb5⟩
      have hb15 := bthen (bthen hb2 hb3) hb5
      have L5 := L1.below hb15 L1.lt
      have c0 := L5.cell 0
      have c1 := L5.cell 1
      have f0 := L5.frozen 0
      have f1 := L5.frozen 1
      have hgl := L5.lt
      simp only [List.getElem?_cons_zero, List.getElem?_cons_succ] at c0 c1
      clear L1 L5
      go_wp2_with fail
      refine bodyPost_ret (v := .tuple #[.agg #[.string ⟨#[]⟩, .string ⟨#[]⟩], .bool false]) (by simp [results, Tryz.results62, go_sem, *]) rfl ⟨⟨#[]⟩, ⟨#[]⟩, false, rfl, .inr ⟨rfl, HD.out⟩, ?_⟩
      rw [← hg] at *
      exact (bthen b1 hb15).trans (by repeat (first | exact Below.refl _ _ | refine Below.alloc ?_ (by simp; have := b1.size; have := hb15.size; omega) _ | refine Below.setCell ?_ (by simp) _))
end Go.Proofs.YtojceibamgodbaaGreatDoor

/- Own slices that grow by one element (no program in sight). -/
namespace Go.Proofs.YtojceibamgodbaaGreatDoor
open Go.RowKit

theorem cells_new (w : World) (vs : Array Value) (t : TypeId) : ∀ j u, vs.toList[j]? = some u → (w.alloc (.cells vs t)).cell? ((⟨w.heap.size, 0, none⟩ : Addr).add j) = some u := by
  intro j u hj
  have e : ((⟨w.heap.size, 0, none⟩ : Addr).add j) = ⟨w.heap.size, j, none⟩ := by unfold Addr.add; by_cases h : j = 0 <;> simp [h]
  rw [e, (Lies.new w t vs).cell]; exact hj

theorem ownsRow_heap {w w' : World} {B : Nat} {e : TypeId} {k : Nat} {v : Value} {n : Nat} {xs : List Value} (h : w'.heap = w.heap) (ho : w.ownsRow B e k v n xs) : w'.ownsRow B e k v n xs := by
  unfold World.ownsRow at *; rw [h]; exact ho

/-- 'append(s, x)': s the call's own, x one element of k cells. -/
theorem wpList_push {P : Program} {ops : Array Oper} {rest : List Oper} {o : Oper} {a : Act} {w0 wA : World} {Q : Exit → Act → World → Prop} (hgd : o.guard = none) (s x : Operand) (t : TypeId)
    (ho : o.op = .call { callee := .builtin .append, args := #[s, x], argTypes := #[t, t] })
    (e : TypeId) (z : Value) (k bytes : Nat) (ht : P.underlying t = some (.slice e)) (hinfo : (P.info? e).map (fun i => (i.zero, i.size, i.bytes)) = some (some z, k, bytes)) (hzs : z.cells.size = k) (hsz : 0 < k) (hby : bytes ≤ 1000)
    (B : Nat) (v : Value) (n : Nat) (xs : List Value) (hs : a.eval s = v) (hown : Hid (w0.ownsRow B e k v n xs))
    (vs : Array Value) (c g : Nat) (hx : a.eval x = .slice (some ⟨g, 0, none⟩) 1 c) (hg : w0.heap.size = g) (hvs : vs.size = k) (h1 : vs.all (·.oneCell') = true) (hn : n < 1000000000) (hbase : B ≤ w0.heap.size)
    (hheap : wA.heap = (w0.alloc (.cells vs e)).heap) (hos : wA.os = w0.os) (htape : wA.tape = w0.tape) (hout : wA.output = w0.output)
    (h : ∀ v' w', Hid (w'.ownsRow B e k v' (n + 1) (xs ++ vs.toList)) → w0.grownBy w' v.ownBlock → Below B w0 w' → wpList P ops Q rest (a.put o.dst v') w') : wpList P ops Q (o :: rest) a wA := by
  subst hg
  obtain ⟨i, hi, hz, hs', hb⟩ := info_parts hinfo
  have hown' := hown.out
  have hsize : wA.heap.size = w0.heap.size + 1 := by rw [hheap]; exact Array.size_push _
  have hblock : ∀ j, j < w0.heap.size → wA.heap[j]? = w0.heap[j]? := fun j hj => by rw [hheap]; exact Below.heap_alloc w0 _ j hj
  have h4 : w0.grownBy wA v.ownBlock := ⟨hos, htape, hout, by omega, fun j hj _ => hblock j hj⟩
  refine wpList_append_own (w := wA) hgd s x t ho B e i z k bytes ht hi hz hs' hb hzs hsz v n xs hs (ownsRow_heap hheap (hown'.alloc _)) ⟨w0.heap.size, 0, none⟩ 1 c vs.toList hx (by simp [hvs]) ?_ (fun u hu => (Array.all_eq_true_iff_forall_mem.1 h1) u (by simpa using hu)) (by unfold maxLen; omega) ?_ (by omega) fun v' w' h2 h3 _ => h v' w' h2 ?_ ?_
  · intro j u hj
    have := cells_new w0 vs e j u hj
    rw [← this]; exact World.cell?_of_block (by rw [hheap])
  · have := Nat.mul_le_mul (show n + 1 ≤ 1000000000 by omega) hby
    omega
  · exact ⟨h3.os.trans h4.os, h3.tape.trans h4.tape, h3.output.trans h4.output, Nat.le_trans h4.size h3.size, fun j hj hne => (h3.block j (Nat.lt_of_lt_of_le hj h4.size) hne).trans (h4.block j hj hne)⟩
  · exact ((Below.refl B w0).grown h4 hbase (fun j hj => (hown'.lt j hj).1)).grown h3 (by omega) (fun j hj => (hown'.lt j hj).1)

theorem ownsRow_slice {w : World} {B : Nat} {e : TypeId} {k : Nat} {v : Value} {n : Nat} {xs : List Value} (h : w.ownsRow B e k v n xs) : ∃ A c, v = .slice A n c := by
  obtain ⟨_, ⟨rfl, rfl⟩ | ⟨g, cap, _, rfl, _⟩⟩ := h
  · exact ⟨_, _, rfl⟩
  · exact ⟨_, _, rfl⟩
end Go.Proofs.YtojceibamgodbaaGreatDoor

/- 'append(s, xs...)' onto a row of the call's own, the source nil, empty or not (no program in sight). -/
namespace Go.Proofs.YtojceibamgodbaaGreatDoor
open Go.RowKit

/-- Nothing is appended: the nil slice. -/
theorem run_cat_nil {P : Program} (w : World) (base : Nat) (t ty e : TypeId) (i : TypeInfo) (size : Nat) (ht : P.underlying t = some (.slice e)) (hi : P.info? e = some i)
    (v : Value) (n : Nat) (xs : List Value) (hown : w.ownsRow base e size v n xs) (c : Nat) : (Builtin.append_ #[t, t] ty #[v, .slice none 0 c]).run P w = .ok v w := by
  obtain ⟨_, ⟨rfl, rfl⟩ | ⟨g, cap, cur, rfl, _, _, hcap, _⟩⟩ := hown
  · simp [Builtin.append_, run_underlying ht, sizeOf, typeInfo, hi, Builtin.lenOf, Builtin.firstCells]
  · simp [Builtin.append_, run_underlying ht, sizeOf, typeInfo, hi, Builtin.lenOf, Builtin.firstCells, hcap, storeCells]

theorem addr_add (b o j : Nat) : ((⟨b, o, none⟩ : Addr).add j) = ⟨b, o + j, none⟩ := by unfold Addr.add; by_cases h : j = 0 <;> simp [h]

theorem wp_cat {P : Program} {o : Oper} {a : Act} {w : World} {K : Act → World → Prop} {Q : Exit → Act → World → Prop} (s x : Operand) (t : TypeId)
    (ho : o.op = .call { callee := .builtin .append, args := #[s, x], argTypes := #[t, t] })
    (e : TypeId) (z : Value) (k bytes : Nat) (ht : P.underlying t = some (.slice e)) (hinfo : (P.info? e).map (fun i => (i.zero, i.size, i.bytes)) = some (some z, k, bytes)) (hzs : z.cells.size = k) (hsz : 0 < k) (hby : bytes ≤ 1000)
    (B : Nat) (v : Value) (n : Nat) (xs : List Value) (hs : a.eval s = v) (hown : Hid (w.ownsRow B e k v n xs))
    (S : Nat) (A : Option Addr) (m c : Nat) (cs : List Value) (hx : a.eval x = .slice A m c) (hr : Hid (SlcR w S k A m cs)) (h1 : ∀ u ∈ cs, u.oneCell' = true)
    (hn : n + m ≤ 1000000000) (hbase : B ≤ w.heap.size)
    (h : ∀ v' w', Hid (w'.ownsRow B e k v' (n + m) (xs ++ cs)) → w.grownBy w' v.ownBlock → Below B w w' → (v'.ownBlock = v.ownBlock ∨ v'.ownBlock = some w.heap.size) → K (a.put o.dst v') w') : o.wp P a w K Q := by
  obtain ⟨i, hi, hz, hs', hb⟩ := info_parts hinfo
  have hbytes : (n + m) * bytes ≤ 140737488355328 := by have := Nat.mul_le_mul hn hby; omega
  have fin : ∀ v' w', (Builtin.append_ #[t, t] o.type #[v, .slice A m c]).run P w = .ok v' w' → w'.ownsRow B e k v' (n + m) (xs ++ cs) → w.grownBy w' v.ownBlock → (v'.ownBlock = v.ownBlock ∨ v'.ownBlock = some w.heap.size) → o.wp P a w K Q := by
    intro v' w' hrun h2 h3 h4
    unfold Oper.wp execOp
    simp only [ho, resolve, invoke, builtin, Sem.run_bind, Sem.run_pure, Result.andThen_ok, List.map_toArray, List.map_cons, List.map_nil, hs, hx, hrun]
    exact h v' w' h2 h3 ((Below.refl B w).grown h3 hbase (fun j hj => (hown.out.lt j hj).1)) h4
  rcases Nat.eq_zero_or_pos m with h0 | h0
  · subst h0
    have hc0 : cs = [] := List.eq_nil_of_length_eq_zero (by simpa using hr.out.len)
    subst hc0
    rcases A with _ | ad
    · exact fin v w (run_cat_nil w B t o.type e i k ht hi v n xs hown.out c) (by simpa using hown.out) (World.grownBy.refl w _) (.inl rfl)
    · obtain ⟨v', w', hrun, h2, h3, _, h5⟩ := run_append_own_at (P := P) w B t o.type e i z k bytes ht hi hz hs' hb hzs hsz v n xs hown.out ad 0 c [] (by simp) (by simp) (by simp) (by unfold maxLen; omega) hbytes hbase
      exact fin v' w' hrun h2 h3 h5
  · obtain ⟨b, off, rfl, hlt, hcell⟩ := hr.out.at_ h0
    obtain ⟨v', w', hrun, h2, h3, _, h5⟩ := run_append_own_at (P := P) w B t o.type e i z k bytes ht hi hz hs' hb hzs hsz v n xs hown.out ⟨b, off, none⟩ m c cs hr.out.len (fun j u hu => by rw [addr_add]; exact hcell j u hu) h1 (by unfold maxLen; omega) hbytes hbase
    exact fin v' w' hrun h2 h3 h5

theorem wpList_cat {P : Program} {ops : Array Oper} {rest : List Oper} {o : Oper} {a : Act} {w : World} {Q : Exit → Act → World → Prop} (hgd : o.guard = none) (s x : Operand) (t : TypeId)
    (ho : o.op = .call { callee := .builtin .append, args := #[s, x], argTypes := #[t, t] })
    (e : TypeId) (z : Value) (k bytes : Nat) (ht : P.underlying t = some (.slice e)) (hinfo : (P.info? e).map (fun i => (i.zero, i.size, i.bytes)) = some (some z, k, bytes)) (hzs : z.cells.size = k) (hsz : 0 < k) (hby : bytes ≤ 1000)
    (B : Nat) (v : Value) (n : Nat) (xs : List Value) (hs : a.eval s = v) (hown : Hid (w.ownsRow B e k v n xs))
    (S : Nat) (A : Option Addr) (m c : Nat) (cs : List Value) (hx : a.eval x = .slice A m c) (hr : Hid (SlcR w S k A m cs)) (h1 : ∀ u ∈ cs, u.oneCell' = true)
    (hn : n + m ≤ 1000000000) (hbase : B ≤ w.heap.size)
    (h : ∀ v' w', Hid (w'.ownsRow B e k v' (n + m) (xs ++ cs)) → w.grownBy w' v.ownBlock → Below B w w' → (v'.ownBlock = v.ownBlock ∨ v'.ownBlock = some w.heap.size) → wpList P ops Q rest (a.put o.dst v') w') : wpList P ops Q (o :: rest) a w :=
  wpList_plain hgd fun _ hK => wp_cat s x t ho e z k bytes ht hinfo hzs hsz hby B v n xs hs hown S A m c cs hx hr h1 hn hbase fun v' w' h2 h3 h4 h5 => hK _ _ (h v' w' h2 h3 h4 h5)

/-- A slice made by the text itself, of no element. -/
theorem owns_empty {w : World} {B g : Nat} {e : TypeId} {k : Nat} (h : Lies w g e []) (hB : B ≤ g) : w.ownsRow B e k (.slice (some ⟨g, 0, none⟩) 0 0) 0 [] := h.own hB (by simp) (by unfold maxLen; omega)
theorem ints_one {l : List Int} : ∀ u ∈ (l.map (Value.int .i64)), u.oneCell' = true := by
  intro u hu; obtain ⟨n, _, rfl⟩ := List.mem_map.1 hu; rfl
end Go.Proofs.YtojceibamgodbaaGreatDoor

/- Rows of the call's own, and slices that read (no program in sight). -/
namespace Go.Proofs.YtojceibamgodbaaGreatDoor
open Go.RowKit

theorem ownsRow_below {w w' : World} {B : Nat} {e : TypeId} {k : Nat} {v : Value} {n : Nat} {xs : List Value} (h : w.ownsRow B e k v n xs) (hb : Below w.heap.size w w') : w'.ownsRow B e k v n xs := by
  obtain ⟨hl, h0 | ⟨g, cap, cur, hv, hg, hh, h1, h2, h3, h4⟩⟩ := h
  · exact ⟨hl, .inl h0⟩
  · have hlt : g < w.heap.size := by
      rcases Nat.lt_or_ge g w.heap.size with hlt | hge
      · exact hlt
      · rw [Array.getElem?_eq_none hge] at hh; cases hh
    exact ⟨hl, .inr ⟨g, cap, cur, hv, hg, (hb.block g hlt).trans hh, h1, h2, h3, h4⟩⟩
/-- Rows of other types lie elsewhere. -/
theorem ownsRow_far {w : World} {B : Nat} {e t : TypeId} {k : Nat} {v : Value} {n : Nat} {xs cs : List Value} (h : w.ownsRow B e k v n xs) {g : Nat} (hg : Lies w g t cs) (hne : e ≠ t) : some g ≠ v.ownBlock := by
  obtain ⟨_, ⟨rfl, _⟩ | ⟨g', cap, cur, rfl, _, hh, _⟩⟩ := h
  · simp [Value.ownBlock]
  · intro he
    simp only [Value.ownBlock, Option.some.injEq] at he
    subst he
    unfold Lies at hg
    rw [hg] at hh
    injection hh with hh; injection hh with _ h2; exact hne h2.symm
theorem ownsRow_lower {w : World} {B B' : Nat} {e : TypeId} {k : Nat} {v : Value} {n : Nat} {xs : List Value} (h : w.ownsRow B e k v n xs) (hB : B' ≤ B) : w.ownsRow B' e k v n xs := by
  obtain ⟨hl, h0 | ⟨g, cap, cur, hv, hg, hh⟩⟩ := h
  · exact ⟨hl, .inl h0⟩
  · exact ⟨hl, .inr ⟨g, cap, cur, hv, Nat.le_trans hB hg, hh⟩⟩
/-- Two rows of the call's own, of different types: one grows, the other stays. -/
theorem ownsRow_two {w w' : World} {B B' : Nat} {e e' : TypeId} {k k' : Nat} {v v' : Value} {n n' : Nat} {xs xs' : List Value} (h : w.ownsRow B e k v n xs) (h' : w.ownsRow B' e' k' v' n' xs') (hne : e' ≠ e) (hg : w.grownBy w' v'.ownBlock) : w'.ownsRow B e k v n xs := by
  refine h.kept hg ?_
  obtain ⟨_, ⟨h1, _⟩ | ⟨g, cap, cur, h1, _, hh, _⟩⟩ := h
  · left; rw [h1]; rfl
  · right
    rw [h1]
    exact ownsRow_far h' (g := g) (t := e) (cs := cur.toList) (Lies.of hh) hne
def lenOf : Value → Nat
  | .slice _ n _ => n
  | _ => 0
end Go.Proofs.YtojceibamgodbaaGreatDoor
