/- Lg02: the texts LogM Bl In Itoab Plain Strs Num Itoa Sum Line Ver Cut, joined into one file. -/
import Derived.Lib.ItoaNum
import Derived.Lib.ItoaLen
import Derived.Lib.IndexLaws
import Derived.Lib.LastIndexLaws
import Derived.Lib.IndexMore
import Derived.Test.YtojceibamgodbaaDoorProg
import Derived.Shelf.LaysM
import Derived.Shelf.Strconv.Itoa3
import Derived.Shelf.Small.Wraps
import Derived.Shelf.Small.Strs
import Derived.Shelf.Strings.Search3
import Derived.Shelf.Strings.LastIndexAll
import Derived.Shelf.Slices.Turned
import Derived.WalkSmall
import Derived.Lib.AppendIntMem
import Derived.Test.YtojceibamgodbaaDoorLg01

set_option linter.unusedVariables false

/- Records and logs as bytes: plain words, no program in sight. -/
namespace Go.Proofs.YtojceibamgodbaaDoor

/-! ### The bytes ahead of a byte -/
def bef (b : UInt8) : List UInt8 → List UInt8
  | [] => []
  | x :: l => if x = b then [] else x :: bef b l
theorem bef_free {b : UInt8} : ∀ {l : List UInt8}, b ∉ l → bef b l = l
  | [], _ => rfl
  | x :: l, h => by
    simp only [List.mem_cons, not_or] at h
    unfold bef; rw [if_neg (Ne.symm h.1), bef_free h.2]
theorem bef_mid {b : UInt8} {r : List UInt8} : ∀ {t : List UInt8}, b ∉ t → bef b (t ++ b :: r) = t
  | [], _ => by simp [bef]
  | x :: l, h => by
    simp only [List.mem_cons, not_or] at h
    rw [List.cons_append]; unfold bef; rw [if_neg (Ne.symm h.1), bef_mid h.2]
theorem bef_not (b : UInt8) : ∀ l : List UInt8, b ∉ bef b l
  | [] => by simp [bef]
  | x :: l => by
    unfold bef; split
    · simp
    · rename_i h; simp only [List.mem_cons, not_or]; exact ⟨Ne.symm h, bef_not b l⟩
theorem bef_or (b : UInt8) : ∀ l : List UInt8, (b ∉ l ∧ bef b l = l) ∨ ∃ r, l = bef b l ++ b :: r
  | [] => .inl ⟨by simp, rfl⟩
  | x :: l => by
    unfold bef
    by_cases h : x = b
    · rw [if_pos h]; exact .inr ⟨l, by simp [h]⟩
    · rw [if_neg h]
      rcases bef_or b l with ⟨h1, h2⟩ | ⟨r, h1⟩
      · exact .inl ⟨by simp only [List.mem_cons, not_or]; exact ⟨Ne.symm h, h1⟩, by rw [h2]⟩
      · exact .inr ⟨r, by rw [List.cons_append, ← h1]⟩
theorem bef_len (b : UInt8) (l : List UInt8) : (bef b l).length ≤ l.length := by
  rcases bef_or b l with ⟨_, h⟩ | ⟨r, h⟩
  · rw [h]; exact Nat.le_refl _
  · have := congrArg List.length h; simp at this; omega
theorem bef_whole {b : UInt8} {l : List UInt8} : (bef b l).length = l.length ↔ b ∉ l := by
  constructor
  · intro h
    rcases bef_or b l with ⟨h1, _⟩ | ⟨r, h1⟩
    · exact h1
    · have := congrArg List.length h1; simp at this; omega
  · intro h; rw [bef_free h]
theorem take_bef {b : UInt8} (l : List UInt8) : l.take (bef b l).length = bef b l := by
  rcases bef_or b l with ⟨_, h⟩ | ⟨r, h⟩
  · rw [h]; simp
  · have e : (bef b l ++ b :: r).take (bef b l).length = bef b l := List.take_left' rfl
    rwa [← h] at e
theorem parts_bef {b : UInt8} {l : List UInt8} (h : b ∈ l) : l = bef b l ++ b :: l.drop ((bef b l).length + 1) := by
  rcases bef_or b l with ⟨h1, _⟩ | ⟨r, h1⟩
  · exact absurd h h1
  · have e : (bef b l ++ b :: r).drop ((bef b l).length + 1) = r := by
      rw [List.drop_append, List.drop_eq_nil_of_le (by omega)]; simp
    rw [← h1] at e
    rw [e]; exact h1

/-! ### Where a byte stands, in the library's words -/
theorem occ_one (s : List UInt8) (b : UInt8) (i : Nat) : Lib.occAt s [b] i = decide (s[i]? = some b) := by
  unfold Lib.occAt
  rcases Nat.lt_or_ge i s.length with h | h
  · rw [List.drop_eq_getElem_cons h, List.getElem?_eq_getElem h]
    by_cases e : s[i] = b
    · subst e; simp [List.isPrefixOf]
    · simp [List.isPrefixOf, e, Ne.symm e]
  · rw [List.drop_eq_nil_of_le h, List.getElem?_eq_none h]; rfl
theorem index_one_none {s : List UInt8} {b : UInt8} (h : b ∉ s) : Lib.index s [b] = -1 :=
  Lib.index_none fun j _ => by
    rw [occ_one, decide_eq_false_iff_not]; intro e; exact h (List.mem_of_getElem? e)
theorem index_one_mid {t r : List UInt8} {b : UInt8} (h : b ∉ t) : Lib.index (t ++ b :: r) [b] = t.length :=
  Lib.index_first (by simp) (by rw [occ_one]; simp) fun j hj => by
    rw [occ_one, decide_eq_false_iff_not, List.getElem?_append_left hj]; intro e; exact h (List.mem_of_getElem? e)
theorem index_one_or (s : List UInt8) (b : UInt8) : (b ∉ s ∧ Lib.index s [b] = -1) ∨ (b ∈ s ∧ Lib.index s [b] = (bef b s).length) := by
  rcases bef_or b s with ⟨h, _⟩ | ⟨r, h⟩
  · exact .inl ⟨h, index_one_none h⟩
  · refine .inr ⟨by rw [h]; simp, ?_⟩
    rw (occs := [1]) [h]; exact index_one_mid (bef_not b s)
theorem contains_one (s : List UInt8) (b : UInt8) : Lib.contains s [b] = s.contains b := by
  unfold Lib.contains
  rcases index_one_or s b with ⟨h, e⟩ | ⟨h, e⟩
  · rw [e]; simp [h]
  · rw [e]; simp [h]
theorem cut_one_none {s : List UInt8} {b : UInt8} (h : b ∉ s) : Lib.cut s [b] = (s, [], false) := by
  unfold Lib.cut; rw [index_one_none h]; simp
theorem cut_one_mid {t r : List UInt8} {b : UInt8} (h : b ∉ t) : Lib.cut (t ++ b :: r) [b] = (t, r, true) := by
  unfold Lib.cut; rw [index_one_mid h]; simp
theorem last_one_none {s : List UInt8} {b : UInt8} (h : b ∉ s) : Lib.lastIndex s [b] = -1 := by
  unfold Lib.lastIndex
  split
  · rcases Lib.lastOcc_spec s [b] (s.length - [b].length + 1) with ⟨e, _⟩ | ⟨i, _, _, ho, _⟩
    · exact e
    · rw [occ_one, decide_eq_true_eq] at ho; exact absurd (List.mem_of_getElem? ho) h
  · rfl
theorem last_one_mid {t r : List UInt8} {b : UInt8} (h : b ∉ r) : Lib.lastIndex (t ++ b :: r) [b] = t.length := by
  unfold Lib.lastIndex
  rw [if_pos (by simp; omega)]
  rcases Lib.lastOcc_spec (t ++ b :: r) [b] ((t ++ b :: r).length - [b].length + 1) with ⟨_, hn⟩ | ⟨i, hi, e, ho, hn⟩
  · have := hn t.length (by simp; omega)
    rw [occ_one] at this; simp at this
  · rw [e]
    rw [occ_one, decide_eq_true_eq] at ho
    rcases Nat.lt_trichotomy i t.length with hlt | heq | hgt
    · have := hn t.length hlt (by simp; omega)
      rw [occ_one] at this; simp at this
    · rw [heq]
    · exfalso
      rw [List.getElem?_append_right (by omega)] at ho
      obtain ⟨d, hd⟩ : ∃ d, i - t.length = d + 1 := ⟨i - t.length - 1, by omega⟩
      rw [hd, List.getElem?_cons_succ] at ho
      exact h (List.mem_of_getElem? ho)
theorem last_one_ge (s : List UInt8) (b : UInt8) : Lib.lastIndex s [b] = -1 ∨ ∃ i : Nat, Lib.lastIndex s [b] = i ∧ i < s.length ∧ s[i]? = some b := by
  unfold Lib.lastIndex
  split
  · rcases Lib.lastOcc_spec s [b] (s.length - [b].length + 1) with ⟨e, _⟩ | ⟨i, hi, e, ho, _⟩
    · exact .inl e
    · rw [occ_one, decide_eq_true_eq] at ho
      exact .inr ⟨i, e, (List.getElem?_eq_some_iff.1 ho).1, ho⟩
  · exact .inl rfl

/-! ### Records -/
theorem dec_bytes : ∀ (n : Nat) (c : UInt8), c ∈ Lib.decDigits n → 48 ≤ c.toNat ∧ c.toNat ≤ 57 := by
  intro n
  induction n using Nat.strongRecOn with
  | ind n ih =>
    intro c hc
    rw [Lib.decDigits] at hc
    have one : ∀ k, k < 10 → c = UInt8.ofNat (48 + k) → 48 ≤ c.toNat ∧ c.toNat ≤ 57 := by
      intro k hk e
      have : c.toNat = 48 + k := by rw [e, UInt8.toNat_ofNat']; omega
      omega
    split at hc
    · rename_i h; exact one n h (by simpa using hc)
    · rename_i h
      rcases List.mem_append.1 hc with h1 | h1
      · exact ih (n / 10) (by omega) c h1
      · exact one (n % 10) (by omega) (by simpa using h1)
theorem itoa_nat (n : Nat) : Lib.itoa (n : Int) = Lib.decDigits n := by unfold Lib.itoa; rw [if_neg (by omega), Int.toNat_natCast]
theorem itoa_free {n : Nat} {b : UInt8} (h : b.toNat < 48 ∨ 57 < b.toNat) : b ∉ Lib.itoa (n : Int) := by
  rw [itoa_nat]; intro hb; have := dec_bytes n b hb; omega
theorem itoa_le21 {n : Nat} (h : n ≤ 9223372036854775807) : (Lib.itoa (n : Int)).length ≤ 21 := Lib.itoa_length_le _ (by omega) (by omega)

def plainB (c : UInt8) : Bool := decide (32 ≤ c.toNat) && decide (c.toNat ≤ 126) && c != 35
def plainL (l : List UInt8) : Bool := l.all plainB
theorem plain_free {l : List UInt8} (h : plainL l = true) : (35 : UInt8) ∉ l := fun hm => by
  have := List.all_eq_true.1 h _ hm; simp [plainB] at this
theorem plain_nl {l : List UInt8} (h : plainL l = true) : (10 : UInt8) ∉ l := fun hm => by
  have := List.all_eq_true.1 h _ hm; simp [plainB] at this
def recOk (c r : List UInt8) : Bool := decide (1 ≤ c.length) && decide (c.length ≤ 160) && plainL c && !c.contains 64 && plainL r && decide (r.length ≤ 200)
theorem recOk_iff {c r : List UInt8} : recOk c r = true ↔ 1 ≤ c.length ∧ c.length ≤ 160 ∧ plainL c = true ∧ (64 : UInt8) ∉ c ∧ plainL r = true ∧ r.length ≤ 200 := by
  unfold recOk; simp [Bool.and_eq_true, and_assoc]
def sumFrom : Nat → List UInt8 → Nat
  | h, [] => h
  | h, c :: l => sumFrom ((41 * h + c.toNat + 1) % 999979) l
theorem sumFrom_lt : ∀ (l : List UInt8) (h : Nat), h < 999979 → sumFrom h l < 999979
  | [], _, h => h
  | _ :: l, _, _ => sumFrom_lt l _ (Nat.mod_lt _ (by omega))
def sumL (l : List UInt8) : Nat := sumFrom 7 l
theorem sumL_lt (l : List UInt8) : sumL l < 999979 := sumFrom_lt l 7 (by omega)
def sealL (t : List UInt8) : List UInt8 := t ++ 35 :: Lib.itoa (sumL t)
theorem seal_len (t : List UInt8) : (sealL t).length ≤ t.length + 22 := by
  have := itoa_le21 (n := sumL t) (by have := sumL_lt t; omega)
  unfold sealL; simp; omega
theorem seal_bef {t : List UInt8} (h : (35 : UInt8) ∉ t) : bef 35 (sealL t) = t := bef_mid h
theorem seal_last (t : List UInt8) : Lib.lastIndex (sealL t) [35] = t.length := last_one_mid (itoa_free (by decide))
def txtL (k : Nat) (c r : List UInt8) : List UInt8 := Lib.itoa (k : Int) ++ [32] ++ c ++ [64] ++ r
def lineL (k : Nat) (c r : List UInt8) : List UInt8 := sealL (txtL k c r) ++ [10]
theorem txt_free {k : Nat} {c r : List UInt8} (h : recOk c r = true) : (35 : UInt8) ∉ txtL k c r := by
  obtain ⟨_, _, h1, _, h2, _⟩ := recOk_iff.1 h
  have a := itoa_free (n := k) (b := 35) (by decide)
  have b := plain_free h1
  have d := plain_free h2
  unfold txtL; simp [a, b, d]
theorem txt_len {k : Nat} {c r : List UInt8} (h : recOk c r = true) (hk : k ≤ 9223372036854775807) : (txtL k c r).length ≤ 383 := by
  obtain ⟨_, h1, _, _, _, h2⟩ := recOk_iff.1 h
  have := itoa_le21 hk
  unfold txtL; simp; omega
theorem line_len {k : Nat} {c r : List UInt8} (h : recOk c r = true) (hk : k ≤ 9223372036854775807) : (lineL k c r).length ≤ 406 := by
  have := txt_len h hk
  have := seal_len (txtL k c r)
  unfold lineL; simp; omega
theorem seal_nl {k : Nat} {c r : List UInt8} (h : recOk c r = true) : (10 : UInt8) ∉ sealL (txtL k c r) := by
  obtain ⟨_, _, h1, _, h2, _⟩ := recOk_iff.1 h
  have a := itoa_free (n := k) (b := 10) (by decide)
  have a' := itoa_free (n := sumL (txtL k c r)) (b := 10) (by decide)
  have b := plain_nl h1
  have d := plain_nl h2
  unfold sealL
  simp only [List.mem_append, List.mem_cons, not_or]
  refine ⟨?_, by decide, a'⟩
  unfold txtL; simp [a, b, d]

/-- s is the encoding of the record c, r with number k. -/
def Enc (k : Nat) (c r s : List UInt8) : Prop := recOk c r = true ∧ sealL (txtL k c r) = s
theorem Enc.inj {k : Nat} {c r c' r' s : List UInt8} (h : Enc k c r s) (h' : Enc k c' r' s) : c = c' ∧ r = r' := by
  obtain ⟨h1, h2⟩ := h
  obtain ⟨h1', h2'⟩ := h'
  have e : txtL k c r = txtL k c' r' := by rw [← seal_bef (txt_free h1), ← seal_bef (txt_free h1'), h2, h2']
  unfold txtL at e
  simp only [List.append_assoc] at e
  have e2 := List.append_cancel_left (List.append_cancel_left e)
  obtain ⟨_, _, _, n, _⟩ := recOk_iff.1 h1
  obtain ⟨_, _, _, n', _⟩ := recOk_iff.1 h1'
  have a := bef_mid (r := r) n
  have a' := bef_mid (r := r') n'
  have e3 : c ++ 64 :: r = c' ++ 64 :: r' := e2
  rw [e3, a'] at a
  subst a
  exact ⟨rfl, by simpa using List.append_cancel_left e3⟩
open Classical in
/-- What a line decodes to, as the record with number k. -/
noncomputable def decF (k : Nat) (s : List UInt8) : Option (List UInt8 × List UInt8) := if h : ∃ p : List UInt8 × List UInt8, Enc k p.1 p.2 s then some h.choose else none
theorem decF_some {k : Nat} {c r s : List UInt8} (h : Enc k c r s) : decF k s = some (c, r) := by
  have hex : ∃ p : List UInt8 × List UInt8, Enc k p.1 p.2 s := ⟨(c, r), h⟩
  unfold decF
  rw [dif_pos hex]
  obtain ⟨e1, e2⟩ := hex.choose_spec.inj h
  exact congrArg some (Prod.ext e1 e2)
theorem decF_none {k : Nat} {s : List UInt8} (h : ∀ c r, ¬ Enc k c r s) : decF k s = none := by
  unfold decF
  rw [dif_neg (fun ⟨p, hp⟩ => h _ _ hp)]
theorem decF_enc {k : Nat} {c r s : List UInt8} (h : decF k s = some (c, r)) : Enc k c r s := by
  by_cases hex : ∃ p : List UInt8 × List UInt8, Enc k p.1 p.2 s
  · unfold decF at h
    rw [dif_pos hex] at h
    have := hex.choose_spec
    rw [Option.some.inj h] at this
    exact this
  · unfold decF at h
    rw [dif_neg hex] at h; cases h

/-! ### The program's way of decoding: the checksum, a prefix, a cut -/
/-- A text with its checksum verified. -/
def Ver (t s : List UInt8) : Prop := (35 : UInt8) ∉ t ∧ sealL t = s ∧ t.length ≤ 4000 ∧ s.length ≤ 4000
theorem Ver.inj {t t' s : List UInt8} (h : Ver t s) (h' : Ver t' s) : t = t' := by
  rw [← seal_bef h.1, ← seal_bef h'.1, h.2.1, h'.2.1]
theorem Enc.ver {k : Nat} {c r s : List UInt8} (h : Enc k c r s) (hk : k ≤ 9223372036854775807) : Ver (txtL k c r) s := by
  refine ⟨txt_free h.1, h.2, by have := txt_len h.1 hk; omega, ?_⟩
  rw [← h.2]; have := txt_len h.1 hk; have := seal_len (txtL k c r); omega
theorem dec_no_ver {k : Nat} {s : List UInt8} (hk : k ≤ 9223372036854775807) (h : ∀ t, ¬ Ver t s) : decF k s = none := decF_none fun _ _ he => h _ (he.ver hk)
theorem dec_no_num {k : Nat} {s t : List UInt8} (hk : k ≤ 9223372036854775807) (hv : Ver t s) (h : ¬ (Lib.itoa (k : Int) ++ [32]) <+: t) : decF k s = none := decF_none fun c r he => h (by
  rw [hv.inj (he.ver hk)]
  exact ⟨c ++ [64] ++ r, by unfold txtL; simp⟩)
theorem dec_no_at {k : Nat} {s t u : List UInt8} (hk : k ≤ 9223372036854775807) (hv : Ver t s) (ht : t = Lib.itoa (k : Int) ++ [32] ++ u) (h : (64 : UInt8) ∉ u) : decF k s = none := decF_none fun c r he => h (by
  have e := hv.inj (he.ver hk)
  rw [ht] at e
  unfold txtL at e
  simp only [List.append_assoc] at e
  have := List.append_cancel_left (List.append_cancel_left e)
  rw [this]; simp)
theorem dec_iff_rec {k : Nat} {s t c r : List UInt8} (hk : k ≤ 9223372036854775807) (hv : Ver t s) (ht : t = Lib.itoa (k : Int) ++ [32] ++ (c ++ 64 :: r)) (hc : (64 : UInt8) ∉ c) :
    decF k s = if recOk c r = true then some (c, r) else none := by
  have e0 : txtL k c r = t := by rw [ht]; unfold txtL; simp
  split
  · rename_i h; exact decF_some ⟨h, by rw [e0]; exact hv.2.1⟩
  · rename_i h
    refine decF_none fun c' r' he => h ?_
    have e := hv.inj (he.ver hk)
    rw [← e0] at e
    unfold txtL at e
    simp only [List.append_assoc] at e
    have e2 := List.append_cancel_left (List.append_cancel_left e)
    have e3 : c ++ 64 :: r = c' ++ 64 :: r' := e2
    obtain ⟨_, _, _, n', _⟩ := recOk_iff.1 he.1
    have a := bef_mid (r := r) hc
    rw [e3, bef_mid n'] at a
    subst a
    have : r = r' := by simpa using List.append_cancel_left e3
    subst this
    exact he.1

/-! ### The reference's way: the text ahead of the sign -/
theorem dec_spec_num {k : Nat} {s : List UInt8} (h : ¬ (Lib.itoa (k : Int) ++ [32]) <+: bef 35 s) : decF k s = none := decF_none fun c r he => h (by
  rw [← he.2, seal_bef (txt_free he.1)]
  exact ⟨c ++ [64] ++ r, by unfold txtL; simp⟩)
theorem dec_spec_at {k : Nat} {s u : List UInt8} (ht : bef 35 s = Lib.itoa (k : Int) ++ [32] ++ u) (h : (64 : UInt8) ∉ u) : decF k s = none := decF_none fun c r he => h (by
  rw [← he.2, seal_bef (txt_free he.1)] at ht
  unfold txtL at ht
  simp only [List.append_assoc] at ht
  have := List.append_cancel_left (List.append_cancel_left ht)
  rw [← this]; simp)
theorem dec_spec_rec {k : Nat} {s c r : List UInt8} (ht : bef 35 s = Lib.itoa (k : Int) ++ [32] ++ (c ++ 64 :: r)) (hc : (64 : UInt8) ∉ c) :
    decF k s = if recOk c r = true ∧ lineL k c r = s ++ [10] then some (c, r) else none := by
  split
  · rename_i h; exact decF_some ⟨h.1, List.append_cancel_right h.2⟩
  · rename_i h
    refine decF_none fun c' r' he => h ?_
    have e := ht
    rw [← he.2, seal_bef (txt_free he.1)] at e
    unfold txtL at e
    simp only [List.append_assoc] at e
    have e2 := List.append_cancel_left (List.append_cancel_left e)
    have e3 : c' ++ 64 :: r' = c ++ 64 :: r := e2
    obtain ⟨_, _, _, n', _⟩ := recOk_iff.1 he.1
    have a := bef_mid (r := r) hc
    rw [← e3, bef_mid n'] at a
    subst a
    have : r' = r := by simpa using List.append_cancel_left e3
    subst this
    exact ⟨he.1, by unfold lineL; rw [he.2]⟩

/-! ### A log: the records at the start of its bytes -/
/-- At most n records, from number k on, each with the length of its line. -/
noncomputable def openF : Nat → Nat → List UInt8 → List ((List UInt8 × List UInt8) × Nat)
  | 0, _, _ => []
  | n + 1, k, s => if (10 : UInt8) ∈ s then
      match decF k (bef 10 s) with
      | none => []
      | some e => (e, (bef 10 s).length + 1) :: openF n (k + 1) (s.drop ((bef 10 s).length + 1))
    else []
def lens (l : List ((List UInt8 × List UInt8) × Nat)) : Nat := (l.map (·.2)).sum
theorem lens_cons (e : (List UInt8 × List UInt8) × Nat) (l : List ((List UInt8 × List UInt8) × Nat)) : lens (e :: l) = e.2 + lens l := by simp [lens]
theorem openF_no {n k : Nat} {s : List UInt8} (h : (10 : UInt8) ∉ s) : openF n k s = [] := by cases n <;> simp [openF, h]
theorem openF_bad {n k : Nat} {s : List UInt8} (h : decF k (bef 10 s) = none) : openF n k s = [] := by cases n <;> simp [openF, h]
theorem openF_yes {n k : Nat} {s : List UInt8} {e : List UInt8 × List UInt8} (h1 : (10 : UInt8) ∈ s) (h2 : decF k (bef 10 s) = some e) :
    openF (n + 1) k s = (e, (bef 10 s).length + 1) :: openF n (k + 1) (s.drop ((bef 10 s).length + 1)) := by simp [openF, h1, h2]
theorem openF_room : ∀ (n k : Nat) (s : List UInt8), lens (openF n k s) ≤ s.length
  | 0, _, _ => by simp [openF, lens]
  | n + 1, k, s => by
    by_cases h1 : (10 : UInt8) ∈ s
    · cases h2 : decF k (bef 10 s) with
      | none => rw [openF_bad h2]; simp [lens]
      | some e =>
        rw [openF_yes h1 h2, lens_cons]
        have := openF_room n (k + 1) (s.drop ((bef 10 s).length + 1))
        have h3 := congrArg List.length (parts_bef h1)
        simp at this h3
        simp only
        omega
    · rw [openF_no h1]; simp [lens]
theorem openF_length : ∀ (n k : Nat) (s : List UInt8), (openF n k s).length ≤ n
  | 0, _, _ => by simp [openF]
  | n + 1, k, s => by
    by_cases h1 : (10 : UInt8) ∈ s
    · cases h2 : decF k (bef 10 s) with
      | none => rw [openF_bad h2]; simp
      | some e => rw [openF_yes h1 h2, List.length_cons]; have := openF_length n (k + 1) (s.drop ((bef 10 s).length + 1)); omega
    · rw [openF_no h1]; simp
theorem openF_small : ∀ (n k : Nat) (s : List UInt8), n + k ≤ 1000 → lens (openF n k s) ≤ 406 * n
  | 0, _, _, _ => by simp [openF, lens]
  | n + 1, k, s, h => by
    by_cases h1 : (10 : UInt8) ∈ s
    · cases h2 : decF k (bef 10 s) with
      | none => rw [openF_bad h2]; simp [lens]
      | some e =>
        rw [openF_yes h1 h2, lens_cons]
        have := openF_small n (k + 1) (s.drop ((bef 10 s).length + 1)) (by omega)
        obtain ⟨c, r⟩ := e
        have he := decF_enc h2
        have hl := line_len (k := k) he.1 (by omega)
        unfold lineL at hl; rw [he.2] at hl; simp at hl
        simp only
        omega
    · rw [openF_no h1]; simp [lens]

/-- The places where records end, from a on, with a in front. -/
def endsF : Nat → List ((List UInt8 × List UInt8) × Nat) → List Nat
  | a, [] => [a]
  | a, e :: l => a :: endsF (a + e.2) l
theorem endsF_ne (a : Nat) (l : List ((List UInt8 × List UInt8) × Nat)) : endsF a l ≠ [] := by cases l <;> simp [endsF]
theorem endsF_length : ∀ (a : Nat) (l : List ((List UInt8 × List UInt8) × Nat)), (endsF a l).length = l.length + 1
  | _, [] => rfl
  | a, _ :: l => by simp [endsF, endsF_length (a + _) l]
theorem endsF_snoc : ∀ (a : Nat) (l : List ((List UInt8 × List UInt8) × Nat)) (e : (List UInt8 × List UInt8) × Nat), endsF a (l ++ [e]) = endsF a l ++ [a + lens l + e.2]
  | a, [], e => by simp [endsF, lens]
  | a, x :: l, e => by simp [endsF, endsF_snoc (a + x.2) l e, lens_cons, Nat.add_assoc]
theorem endsF_last : ∀ (a : Nat) (l : List ((List UInt8 × List UInt8) × Nat)), (endsF a l)[l.length]? = some (a + lens l)
  | _, [] => by simp [endsF, lens]
  | a, x :: l => by simp [endsF, endsF_last (a + x.2) l, lens_cons, Nat.add_assoc]
theorem endsF_ge : ∀ (a : Nat) (l : List ((List UInt8 × List UInt8) × Nat)) (x : Nat), x ∈ endsF a l → a ≤ x
  | a, [], x, h => by simp [endsF] at h; omega
  | a, e :: l, x, h => by
    simp only [endsF, List.mem_cons] at h
    rcases h with h | h
    · omega
    · have := endsF_ge (a + e.2) l x h; omega

/-- The durable bytes end where a record ends: it is as much as that they are read whole by themselves. -/
theorem kept_iff : ∀ (n k a : Nat) (D P : List UInt8), a + D.length ∈ endsF a (openF n k (D ++ P)) ↔ lens (openF n k D) = D.length
  | 0, k, a, D, P => by simp only [openF, endsF, lens, List.map_nil, List.sum_nil, List.mem_singleton]; omega
  | n + 1, k, a, D, P => by
    by_cases hD : D.length = 0
    · have : D = [] := List.eq_nil_of_length_eq_zero hD
      subst this
      rw [openF_no (s := []) (by simp)]
      constructor
      · intro _; rfl
      · intro _
        have : endsF a (openF (n + 1) k ([] ++ P)) ≠ [] := endsF_ne _ _
        cases h : openF (n + 1) k ([] ++ P) <;> simp [endsF]
    · by_cases h1 : (10 : UInt8) ∈ D
      · have e1 := parts_bef h1
        have h1' : (10 : UInt8) ∈ D ++ P := by simp [h1]
        have hb : bef 10 (D ++ P) = bef 10 D := by
          rw (occs := [1]) [e1]
          rw [List.append_assoc, List.cons_append]; exact bef_mid (bef_not 10 D)
        have hlen : (bef 10 D).length + 1 ≤ D.length := by have := congrArg List.length e1; simp at this; omega
        cases h2 : decF k (bef 10 D) with
        | none =>
          rw [openF_bad (by rw [hb]; exact h2), openF_bad h2]
          simp only [endsF, lens, List.map_nil, List.sum_nil, List.mem_singleton]; omega
        | some e =>
          rw [openF_yes h1' (by rw [hb]; exact h2), openF_yes h1 h2, hb]
          have e2 : (D ++ P).drop ((bef 10 D).length + 1) = D.drop ((bef 10 D).length + 1) ++ P := List.drop_append_of_le_length hlen
          rw [e2, lens_cons]
          simp only [endsF, List.mem_cons]
          have ih := kept_iff n (k + 1) (a + ((bef 10 D).length + 1)) (D.drop ((bef 10 D).length + 1)) P
          rw [List.length_drop] at ih
          have e3 : a + ((bef 10 D).length + 1) + (D.length - ((bef 10 D).length + 1)) = a + D.length := by omega
          rw [e3] at ih
          constructor
          · rintro (h | h)
            · omega
            · have := ih.1 h; omega
          · intro h
            exact .inr (ih.2 (by omega))
      · rw [openF_no h1]
        simp only [lens, List.map_nil, List.sum_nil]
        constructor
        · intro h
          exfalso
          by_cases h3 : (10 : UInt8) ∈ D ++ P
          · cases h2 : decF k (bef 10 (D ++ P)) with
            | none => rw [openF_bad h2] at h; simp only [endsF, List.mem_singleton] at h; omega
            | some e =>
              rw [openF_yes h3 h2] at h
              simp only [endsF, List.mem_cons] at h
              rcases h with h | h
              · omega
              · have := endsF_ge _ _ _ h
                have hge : D.length ≤ (bef 10 (D ++ P)).length := by
                  rcases Nat.lt_or_ge (bef 10 (D ++ P)).length D.length with hlt | hge
                  · exfalso
                    have e4 := parts_bef h3
                    have h5 : (D ++ P)[(bef 10 (D ++ P)).length]? = some 10 := by rw (occs := [1]) [e4]; simp
                    rw [List.getElem?_append_left hlt] at h5
                    exact h1 (List.mem_of_getElem? h5)
                  · exact hge
                omega
          · rw [openF_no h3] at h; simp only [endsF, List.mem_singleton] at h; omega
        · intro h; omega

/-- A log is valid. -/
noncomputable def logOk (D P : List UInt8) (n : Int) : Bool :=
  decide (lens (openF 60 0 (D ++ P)) = D.length + P.length) && decide (lens (openF 60 0 D) = D.length) && decide (((openF 60 0 (D ++ P)).length : Int) = n)
theorem logOk_small {D P : List UInt8} (h : lens (openF 60 0 (D ++ P)) = D.length + P.length) : D.length + P.length ≤ 30000 := by
  have := openF_small 60 0 (D ++ P) (by omega); omega
theorem logOk_iff {D P : List UInt8} {n : Int} : logOk D P n = true ↔ lens (openF 60 0 (D ++ P)) = D.length + P.length ∧ lens (openF 60 0 D) = D.length ∧ ((openF 60 0 (D ++ P)).length : Int) = n := by
  unfold logOk; simp [Bool.and_eq_true, and_assoc]
/-- The same in the program's words. -/
theorem logOk_impl {D P : List UInt8} {n : Int} : logOk D P n = true ↔ lens (openF 60 0 (D ++ P)) = D.length + P.length ∧ D.length ∈ endsF 0 (openF 60 0 (D ++ P)) ∧ n = ((openF 60 0 (D ++ P)).length : Int) := by
  have := kept_iff 60 0 0 D P
  rw [Nat.zero_add] at this
  rw [logOk_iff, this]
  constructor <;> (rintro ⟨h1, h2, h3⟩; exact ⟨h1, h2, h3.symm⟩)
end Go.Proofs.YtojceibamgodbaaDoor

/- The bytes of a text (no program in sight). -/
namespace Go.Proofs.YtojceibamgodbaaDoor
open Go.RowKit

def bl (s : ByteArray) : List UInt8 := s.data.toList
theorem bl_app (a b : ByteArray) : bl (a ++ b) = bl a ++ bl b := by unfold bl; rw [ByteArray.data_append, Array.toList_append]
theorem bl_mk (l : List UInt8) : bl ⟨l.toArray⟩ = l := by simp [bl]
theorem bl_lit (l : Array UInt8) : bl ⟨l⟩ = l.toList := rfl
theorem bl_size (s : ByteArray) : (bl s).length = s.size := rfl
theorem bl_ext {s : ByteArray} {l : List UInt8} (h : bl s = l) : s = ⟨l.toArray⟩ := by
  rw [← h]; simp [bl]
theorem bl_inj {s t : ByteArray} (h : bl s = bl t) : s = t := (bl_ext h).trans (bl_ext rfl).symm
set_option maxRecDepth 10000 in
theorem size_app (a b : ByteArray) : (a ++ b).size = a.size + b.size := by rw [← bl_size (a ++ b), bl_app, List.length_append, bl_size, bl_size]
theorem bl_drop {s : ByteArray} {k : Nat} (h : k < s.size) : (bl s).drop k = s[k] :: (bl s).drop (k + 1) := List.drop_eq_getElem_cons (l := bl s) h
theorem bl_take {s : ByteArray} {k : Nat} (h : k < s.size) : (bl s).take (k + 1) = (bl s).take k ++ [s[k]] := List.take_succ_eq_append_getElem (l := bl s) h
theorem bl_extract (s : ByteArray) (a b : Nat) : bl (s.extract a b) = ((bl s).take b).drop a := by
  unfold bl
  rw [Lib.extract_data, List.drop_take]
theorem u8_eq {a b : UInt8} : ((a.toNat : Int) == (b.toNat : Int)) = decide (a = b) := by
  rw [Bool.eq_iff_iff]; simp [← UInt8.toNat_inj]; omega
end Go.Proofs.YtojceibamgodbaaDoor

/- In-range tests; what is left of a bound. -/
namespace Go.Proofs.YtojceibamgodbaaDoor
open Go.RowKit

def inR (n lo hi : Int) : Bool := decide (lo ≤ n) && decide (n ≤ hi)
theorem inR_iff {n lo hi : Int} : inR n lo hi = true ↔ lo ≤ n ∧ n ≤ hi := by simp [inR]
theorem inR_no {n lo hi : Int} : inR n lo hi = false ↔ n < lo ∨ hi < n := by
  cases h : inR n lo hi with
  | true => rw [inR_iff] at h; simp; omega
  | false =>
    simp only [true_iff]
    by_cases h' : lo ≤ n ∧ n ≤ hi
    · rw [← inR_iff, h] at h'; cases h'
    · omega
theorem l1In_any (n lo hi : Int) (w : World) : Calls Tryd.prog 52 #[.int .i64 n, .int .i64 lo, .int .i64 hi] w fun e w' => e = .returned (.bool (inR n lo hi)) ∧ w = w' := by
  go_enter Tryd.func52, Tryd.ntmps52
  go_wp2
  all_goals (go_ret; exact ⟨by simp [inR, *]; try omega, rfl⟩)
theorem inRange_any (n lo hi : Int) (w : World) : Calls Tryd.prog 51 #[.int .i64 n, .int .i64 lo, .int .i64 hi] w fun e w' => e = .returned (.bool (inR n lo hi)) ∧ w = w' := by
  go_enter Tryd.func51, Tryd.ntmps51
  go_wp2
  all_goals (go_ret; exact ⟨by simp [inR, *]; try omega, rfl⟩)
def lessen (k : Int) (n : Nat) : Int := if (n : Int) ≤ k then k - n else -1
theorem lessen_no {k : Int} {a b : Nat} (h : k < a) : lessen k (a + b) = -1 := by unfold lessen; rw [if_neg (by omega)]
theorem lessen_yes {k : Int} {a b : Nat} (_h : (a : Int) ≤ k) : lessen k (a + b) = lessen (k - a) b := by
  unfold lessen
  by_cases h : ((a + b : Nat) : Int) ≤ k
  · rw [if_pos h, if_pos (by omega)]; omega
  · rw [if_neg h, if_neg (by omega)]
end Go.Proofs.YtojceibamgodbaaDoor

/- Contracts of the library at this dump, as the kit's own tool lays them (plain), the few that are wanted here. -/
namespace Go.Proofs
open Go.Shelf
def Tryd.lays137_ren : Go.Shelf.Ren := ⟨fun | 137 => 81 | 217 => 103 | 266 => 112 | n => n, fun | 9 => 9 | 5 => 5 | 3 => 3 | n => n, fun | n => n⟩
theorem Tryd.lays137 : Go.Proofs.Lays.n137 Tryd.prog Tryd.lays137_ren := {
  mixed := by kernel_rfl
  f137 := Tryd.func81.trans (congrArg some (by kernel_rfl))
  f217 := Tryd.func103.trans (congrArg some (by kernel_rfl))
  f266 := Tryd.func112.trans (congrArg some (by kernel_rfl))
  t3 := Tryd.underlying3
  a3 := Tryd.isAgg3
  z3 := Tryd.sizeOf3
  v3 := Tryd.zeroValue3
  t5 := Tryd.underlying5
  a5 := Tryd.isAgg5
  z5 := Tryd.sizeOf5
  v5 := Tryd.zeroValue5
  t9 := Tryd.underlying9
  a9 := Tryd.isAgg9
  z9 := Tryd.sizeOf9
  v9 := Tryd.zeroValue9 }
open Go.RowKit in
theorem Tryd.strings_IndexByte (s : ByteArray) (c : Int) (w : World) :
    Calls Tryd.prog 81 #[.string s, .int .u8 c] w fun e w' => e = .returned (.int .i64 (Lib.indexByte s.data.toList c.toNat.toUInt8)) ∧ w' = w := Any.strings_IndexByte Tryd.lays137 s c w
def Tryd.lays103_ren : Go.Shelf.Ren := ⟨fun | 103 => 105 | 210 => 114 | 206 => 125 | n => n, fun | 9 => 9 | 4 => 4 | 24 => 60 | 3 => 3 | n => n, fun | n => n⟩
theorem Tryd.lays103 : Go.Proofs.Lays.n103 Tryd.prog Tryd.lays103_ren := {
  mixed := by kernel_rfl
  f103 := Tryd.func105.trans (congrArg some (by kernel_rfl))
  f206 := Tryd.func125.trans (congrArg some (by kernel_rfl))
  f210 := Tryd.func114.trans (congrArg some (by kernel_rfl))
  t3 := Tryd.underlying3
  a3 := Tryd.isAgg3
  z3 := Tryd.sizeOf3
  v3 := Tryd.zeroValue3
  t4 := Tryd.underlying4
  a4 := Tryd.isAgg4
  z4 := Tryd.sizeOf4
  v4 := Tryd.zeroValue4
  t9 := Tryd.underlying9
  a9 := Tryd.isAgg9
  z9 := Tryd.sizeOf9
  v9 := Tryd.zeroValue9
  t24 := Tryd.underlying60
  a24 := Tryd.isAgg60
  z24 := Tryd.sizeOf60
  v24 := Tryd.zeroValue60 }
open Go.RowKit in
theorem Tryd.strings_CutPrefix (s p : ByteArray) (w : World) :
    Calls Tryd.prog 105 #[.string s, .string p] w fun e w' => e = .returned (.tuple #[.string ⟨(Lib.trimPrefix s.data.toList p.data.toList).toArray⟩, .bool (Lib.hasPrefix s.data.toList p.data.toList)]) ∧ w' = w := Any.strings_CutPrefix Tryd.lays103 s p w
def Tryd.laysM171_ren : Go.Shelf.Ren := ⟨fun | 171 => 76 | 243 => 101 | 246 => 111 | 283 => 119 | 284 => 120 | 285 => 121 | 286 => 122 | 129 => 128 | 317 => 127 | 318 => 129 | 319 => 130 | 320 => 131 | 337 => 133 | 338 => 134 | n => n, fun | 3 => 3 | 9 => 9 | 2 => 2 | 4 => 4 | 171 => 145 | 0 => 0 | 53 => 75 | 37 => 42 | 5 => 5 | 173 => 148 | 212 => 154 | 51 => 150 | 20 => 20 | 213 => 155 | 46 => 134 | 232 => 158 | 233 => 159 | n => n, fun | 17 => 1 | 18 => 2 | 19 => 3 | n => n⟩
theorem Tryd.laysM171 : Go.Proofs.LaysM.n171 Tryd.prog Tryd.laysM171_ren := {
  mixed := by kernel_rfl
  f129 := Tryd.func128.trans (congrArg some (by kernel_rfl))
  f171 := Tryd.func76.trans (congrArg some (by kernel_rfl))
  f243 := Tryd.func101.trans (congrArg some (by kernel_rfl))
  f246 := Tryd.func111.trans (congrArg some (by kernel_rfl))
  f283 := Tryd.func119.trans (congrArg some (by kernel_rfl))
  f284 := Tryd.func120.trans (congrArg some (by kernel_rfl))
  f285 := Tryd.func121.trans (congrArg some (by kernel_rfl))
  f286 := Tryd.func122.trans (congrArg some (by kernel_rfl))
  f317 := Tryd.func127.trans (congrArg some (by kernel_rfl))
  f318 := Tryd.func129.trans (congrArg some (by kernel_rfl))
  f319 := Tryd.func130.trans (congrArg some (by kernel_rfl))
  f320 := Tryd.func131.trans (congrArg some (by kernel_rfl))
  f337 := Tryd.func133.trans (congrArg some (by kernel_rfl))
  f338 := Tryd.func134.trans (congrArg some (by kernel_rfl))
  t0 := Tryd.underlying0
  a0 := Tryd.isAgg0
  z0 := Tryd.sizeOf0
  v0 := Tryd.zeroValue0
  t2 := Tryd.underlying2
  a2 := Tryd.isAgg2
  z2 := Tryd.sizeOf2
  v2 := Tryd.zeroValue2
  t3 := Tryd.underlying3
  a3 := Tryd.isAgg3
  z3 := Tryd.sizeOf3
  v3 := Tryd.zeroValue3
  t4 := Tryd.underlying4
  a4 := Tryd.isAgg4
  z4 := Tryd.sizeOf4
  v4 := Tryd.zeroValue4
  t5 := Tryd.underlying5
  a5 := Tryd.isAgg5
  z5 := Tryd.sizeOf5
  v5 := Tryd.zeroValue5
  t9 := Tryd.underlying9
  a9 := Tryd.isAgg9
  z9 := Tryd.sizeOf9
  v9 := Tryd.zeroValue9
  t20 := Tryd.underlying20
  a20 := Tryd.isAgg20
  z20 := Tryd.sizeOf20
  v20 := Tryd.zeroValue20
  t37 := Tryd.underlying42
  a37 := Tryd.isAgg42
  z37 := Tryd.sizeOf42
  v37 := Tryd.zeroValue42
  t46 := Tryd.underlying134
  a46 := Tryd.isAgg134
  z46 := Tryd.sizeOf134
  v46 := Tryd.zeroValue134
  t51 := Tryd.underlying150
  a51 := Tryd.isAgg150
  z51 := Tryd.sizeOf150
  v51 := Tryd.zeroValue150
  t53 := Tryd.underlying75
  a53 := Tryd.isAgg75
  z53 := Tryd.sizeOf75
  v53 := Tryd.zeroValue75
  t171 := Tryd.underlying145
  a171 := Tryd.isAgg145
  z171 := Tryd.sizeOf145
  v171 := Tryd.zeroValue145
  t173 := Tryd.underlying148
  a173 := Tryd.isAgg148
  z173 := Tryd.sizeOf148
  v173 := Tryd.zeroValue148
  t212 := Tryd.underlying154
  a212 := Tryd.isAgg154
  z212 := Tryd.sizeOf154
  v212 := Tryd.zeroValue154
  t213 := Tryd.underlying155
  a213 := Tryd.isAgg155
  z213 := Tryd.sizeOf155
  t232 := Tryd.underlying158
  a232 := Tryd.isAgg158
  z232 := Tryd.sizeOf158
  v232 := Tryd.zeroValue158
  t233 := Tryd.underlying159
  a233 := Tryd.isAgg159
  z233 := Tryd.sizeOf159
  v233 := Tryd.zeroValue159
  g17 := by kernel_rfl
  g18 := by kernel_rfl
  g19 := by kernel_rfl
  i0 := by kernel_rfl
  i2 := by kernel_rfl
  i3 := by kernel_rfl
  i4 := by kernel_rfl
  i5 := by kernel_rfl
  i9 := by kernel_rfl
  i20 := by kernel_rfl
  i37 := by kernel_rfl
  i46 := by kernel_rfl
  i51 := by kernel_rfl
  i53 := by kernel_rfl
  i171 := by kernel_rfl
  i173 := by kernel_rfl
  i212 := by kernel_rfl
  i232 := by kernel_rfl
  i233 := by kernel_rfl
  m17 := by kernel_rfl
  m18 := by kernel_rfl
  m19 := by kernel_rfl }
open Go.RowKit Go.Sort Go.Lib in
theorem Tryd.strconv_Itoa (n : Int) (h0 : -9223372036854775808 ≤ n) (h1 : n ≤ 9223372036854775807) (w : World) (htab : Lib.TabIs Tryd.prog w "internal/strconv.uint64pow10" .u64 Lib.pow10Tab) :
    Calls Tryd.prog 76 #[.int .i64 n] w fun e w' => e = .returned (.string ⟨(Lib.itoa n).toArray⟩) ∧ ∃ k os, w' = grow (w.drewN k) os := Any.strconv_Itoa Tryd.laysM171 n h0 h1 w htab
def Tryd.lays219_ren : Go.Shelf.Ren := ⟨fun | 219 => 110 | 217 => 103 | 225 => 116 | 224 => 117 | 267 => 118 | 266 => 112 | 314 => 126 | n => n, fun | 9 => 9 | 3 => 3 | 4 => 4 | 5 => 5 | 46 => 134 | 146 => 151 | 51 => 150 | n => n, fun | 1 => 0 | n => n⟩
theorem Tryd.lays219 : Go.Proofs.Lays.n219 Tryd.prog Tryd.lays219_ren := {
  mixed := by kernel_rfl
  f217 := Tryd.func103.trans (congrArg some (by kernel_rfl))
  f219 := Tryd.func110.trans (congrArg some (by kernel_rfl))
  f224 := Tryd.func117.trans (congrArg some (by kernel_rfl))
  f225 := Tryd.func116.trans (congrArg some (by kernel_rfl))
  f266 := Tryd.func112.trans (congrArg some (by kernel_rfl))
  f267 := Tryd.func118.trans (congrArg some (by kernel_rfl))
  f314 := Tryd.func126.trans (congrArg some (by kernel_rfl))
  t3 := Tryd.underlying3
  a3 := Tryd.isAgg3
  z3 := Tryd.sizeOf3
  v3 := Tryd.zeroValue3
  t4 := Tryd.underlying4
  a4 := Tryd.isAgg4
  z4 := Tryd.sizeOf4
  v4 := Tryd.zeroValue4
  t5 := Tryd.underlying5
  a5 := Tryd.isAgg5
  z5 := Tryd.sizeOf5
  v5 := Tryd.zeroValue5
  t9 := Tryd.underlying9
  a9 := Tryd.isAgg9
  z9 := Tryd.sizeOf9
  v9 := Tryd.zeroValue9
  t46 := Tryd.underlying134
  a46 := Tryd.isAgg134
  z46 := Tryd.sizeOf134
  v46 := Tryd.zeroValue134
  t51 := Tryd.underlying150
  a51 := Tryd.isAgg150
  z51 := Tryd.sizeOf150
  v51 := Tryd.zeroValue150
  t146 := Tryd.underlying151
  a146 := Tryd.isAgg151
  z146 := Tryd.sizeOf151
  v146 := Tryd.zeroValue151
  g1 := by kernel_rfl }
open Go.RowKit Go.Lib in
theorem Tryd.stringslite_Index_one (s : ByteArray) (c : UInt8) (w : World) :
    Calls Tryd.prog 110 #[.string s, .string ⟨#[c]⟩] w fun e w' => e = .returned (.int .i64 (Lib.indexByte s.data.toList c)) ∧ w' = w := Any.stringslite_Index_one Tryd.lays219 s c w
def Tryd.lays144_ren : Go.Shelf.Ren := ⟨fun | 144 => 74 | 143 => 99 | 219 => 110 | 217 => 103 | 225 => 116 | 224 => 117 | 267 => 118 | 266 => 112 | 314 => 126 | n => n, fun | 9 => 9 | 4 => 4 | 3 => 3 | 5 => 5 | 46 => 134 | 146 => 151 | 51 => 150 | n => n, fun | 1 => 0 | n => n⟩
theorem Tryd.lays144 : Go.Proofs.Lays.n144 Tryd.prog Tryd.lays144_ren := {
  mixed := by kernel_rfl
  f143 := Tryd.func99.trans (congrArg some (by kernel_rfl))
  f144 := Tryd.func74.trans (congrArg some (by kernel_rfl))
  f217 := Tryd.func103.trans (congrArg some (by kernel_rfl))
  f219 := Tryd.func110.trans (congrArg some (by kernel_rfl))
  f224 := Tryd.func117.trans (congrArg some (by kernel_rfl))
  f225 := Tryd.func116.trans (congrArg some (by kernel_rfl))
  f266 := Tryd.func112.trans (congrArg some (by kernel_rfl))
  f267 := Tryd.func118.trans (congrArg some (by kernel_rfl))
  f314 := Tryd.func126.trans (congrArg some (by kernel_rfl))
  t3 := Tryd.underlying3
  a3 := Tryd.isAgg3
  z3 := Tryd.sizeOf3
  v3 := Tryd.zeroValue3
  t4 := Tryd.underlying4
  a4 := Tryd.isAgg4
  z4 := Tryd.sizeOf4
  v4 := Tryd.zeroValue4
  t5 := Tryd.underlying5
  a5 := Tryd.isAgg5
  z5 := Tryd.sizeOf5
  v5 := Tryd.zeroValue5
  t9 := Tryd.underlying9
  a9 := Tryd.isAgg9
  z9 := Tryd.sizeOf9
  v9 := Tryd.zeroValue9
  t46 := Tryd.underlying134
  a46 := Tryd.isAgg134
  z46 := Tryd.sizeOf134
  v46 := Tryd.zeroValue134
  t51 := Tryd.underlying150
  a51 := Tryd.isAgg150
  z51 := Tryd.sizeOf150
  v51 := Tryd.zeroValue150
  t146 := Tryd.underlying151
  a146 := Tryd.isAgg151
  z146 := Tryd.sizeOf151
  v146 := Tryd.zeroValue151
  g1 := by kernel_rfl }
open Go.RowKit Go.Lib in
theorem Tryd.strings_Contains_one (s : ByteArray) (c : UInt8) (w : World) :
    Calls Tryd.prog 74 #[.string s, .string ⟨#[c]⟩] w fun e w' => e = .returned (.bool (decide (0 ≤ Lib.indexByte s.data.toList c))) ∧ w' = w := Any.strings_Contains_one Tryd.lays144 s c w
def Tryd.lays148_ren : Go.Shelf.Ren := ⟨fun | 148 => 113 | 222 => 123 | 223 => 124 | 269 => 132 | n => n, fun | 9 => 9 | 3 => 3 | 4 => 4 | 5 => 5 | 146 => 151 | 51 => 150 | 46 => 134 | n => n, fun | n => n⟩
theorem Tryd.lays148 : Go.Proofs.Lays.n148 Tryd.prog Tryd.lays148_ren := {
  mixed := by kernel_rfl
  f148 := Tryd.func113.trans (congrArg some (by kernel_rfl))
  f222 := Tryd.func123.trans (congrArg some (by kernel_rfl))
  f223 := Tryd.func124.trans (congrArg some (by kernel_rfl))
  f269 := Tryd.func132.trans (congrArg some (by kernel_rfl))
  t3 := Tryd.underlying3
  a3 := Tryd.isAgg3
  z3 := Tryd.sizeOf3
  v3 := Tryd.zeroValue3
  t4 := Tryd.underlying4
  a4 := Tryd.isAgg4
  z4 := Tryd.sizeOf4
  v4 := Tryd.zeroValue4
  t5 := Tryd.underlying5
  a5 := Tryd.isAgg5
  z5 := Tryd.sizeOf5
  v5 := Tryd.zeroValue5
  t9 := Tryd.underlying9
  a9 := Tryd.isAgg9
  z9 := Tryd.sizeOf9
  v9 := Tryd.zeroValue9
  t46 := Tryd.underlying134
  a46 := Tryd.isAgg134
  z46 := Tryd.sizeOf134
  v46 := Tryd.zeroValue134
  t51 := Tryd.underlying150
  a51 := Tryd.isAgg150
  z51 := Tryd.sizeOf150
  v51 := Tryd.zeroValue150
  t146 := Tryd.underlying151
  a146 := Tryd.isAgg151
  z146 := Tryd.sizeOf151
  v146 := Tryd.zeroValue151 }
open Go.RowKit Go.Lib in
theorem Tryd.strings_LastIndex (s sub : ByteArray) (hs : s.size < 4611686018427387904) (w : World) :
    Calls Tryd.prog 113 #[.string s, .string sub] w fun e w' => e = .returned (.int .i64 (Lib.lastIndex s.data.toList sub.data.toList)) ∧ w' = w := Any.strings_LastIndex Tryd.lays148 s sub hs w
def Tryd.lays107_ren : Go.Shelf.Ren := ⟨fun | 107 => 68 | 108 => 96 | n => n, fun | 28 => 83 | 3 => 3 | 4 => 4 | 0 => 0 | n => n, fun | n => n⟩
theorem Tryd.lays107 : Go.Proofs.Lays.n107 Tryd.prog Tryd.lays107_ren := {
  mixed := by kernel_rfl
  f107 := Tryd.func68.trans (congrArg some (by kernel_rfl))
  f108 := Tryd.func96.trans (congrArg some (by kernel_rfl))
  t0 := Tryd.underlying0
  a0 := Tryd.isAgg0
  z0 := Tryd.sizeOf0
  v0 := Tryd.zeroValue0
  t3 := Tryd.underlying3
  a3 := Tryd.isAgg3
  z3 := Tryd.sizeOf3
  v3 := Tryd.zeroValue3
  t4 := Tryd.underlying4
  a4 := Tryd.isAgg4
  z4 := Tryd.sizeOf4
  v4 := Tryd.zeroValue4
  t28 := Tryd.underlying83
  a28 := Tryd.isAgg83
  z28 := Tryd.sizeOf83
  v28 := Tryd.zeroValue83 }
open Go.Lib in
theorem Tryd.slices_Contains_int (b off n c : Nat) (zs : List Int) (x : Int) (w : World) (hz : n ≤ zs.length) (hbig : n ≤ 9223372036854775807) (hc : ∀ j, j < zs.length → w.cell? ⟨b, off + j, none⟩ = some (.int .i64 (zs.getD j 0))) :
    Calls Tryd.prog 68 #[.slice (some ⟨b, off, none⟩) n c, .int .i64 x] w fun e w' => e = .returned (.bool ((zs.take n).contains x)) ∧ w' = w := Any.slices_Contains_int Tryd.lays107 b off n c zs x w hz hbig hc
end Go.Proofs

/- Plain texts and valid records, in the reference and in the program. -/
namespace Go.Proofs.YtojceibamgodbaaDoor
open Go.RowKit

theorem plainB_iff {c : UInt8} : plainB c = true ↔ 32 ≤ c.toNat ∧ c.toNat ≤ 126 ∧ c.toNat ≠ 35 := by
  unfold plainB
  simp only [Bool.and_eq_true, decide_eq_true_eq, bne_iff_ne, ne_eq, and_assoc]
  constructor <;> (rintro ⟨h1, h2, h3⟩; refine ⟨h1, h2, fun h => h3 ?_⟩)
  · exact UInt8.toNat_inj.1 h
  · rw [h]; rfl
theorem plain_drop {s : ByteArray} {k : Nat} (h : k < s.size) : plainL ((bl s).drop k) = (plainB s[k] && plainL ((bl s).drop (k + 1))) := by rw [bl_drop h]; rfl

set_option maxHeartbeats 1000000 in
theorem l33Plain_any (s : ByteArray) (m : Int) (w : World) (hs : s.size ≤ 1000000000) :
    Calls Tryd.prog 77 #[.string s, .int .i64 m] w fun e w' => e = .returned (.bool (plainL (bl s) && decide ((s.size : Int) ≤ m))) ∧ w = w' := by
  have HF : Hid (plainL ((bl s).drop 0) = plainL (bl s)) := rfl
  go_enter Tryd.func77, Tryd.ntmps77
  go_wp2
  go_loop [5] (fun i => ∃ k : Nat, k ≤ s.size ∧ i = .int .i64 k ∧ Hid (plainL ((bl s).drop k) = plainL (bl s))) (fun i => s.size - (intOf i).toNat)
  case atStart => exact ⟨0, Nat.zero_le _, rfl, HF⟩
  case round =>
    obtain ⟨k, hk, rfl, HR⟩ := hrel
    by_cases hlt : k < s.size
    · have HD := Lib.hid (plain_drop hlt)
      have u1 : (s[k].toNat : Int) ≤ 255 := by have := UInt8.toNat_lt s[k]; omega
      cases hp : plainB s[k]
      · rw [hp] at HD
        have HN : Hid (plainL (bl s) = false) := by rw [Hid, ← HR.out, HD.out]; rfl
        by_cases h1 : inR (s[k].toNat : Int) 32 126 = true
        · have h2 : ((s[k].toNat : Int) == 35) = true := by
            rw [inR_iff] at h1
            have : ¬ (32 ≤ s[k].toNat ∧ s[k].toNat ≤ 126 ∧ s[k].toNat ≠ 35) := fun h => by rw [plainB_iff.2 h] at hp; cases hp
            simp; omega
          clear hp
          have H1 := Lib.hid h1; clear h1
          go_wp2_with (go_at_call 52; refine (l1In_any _ _ _ _).mono ?_; rw [H1.out]; rintro e w' ⟨rfl, rfl⟩)
          go_ret
          exact ⟨by rw [HN.out]; rfl, rfl⟩
        · have h1' : inR (s[k].toNat : Int) 32 126 = false := by simpa using h1
          clear hp h1
          have H1 := Lib.hid h1'; clear h1'
          go_wp2_with (go_at_call 52; refine (l1In_any _ _ _ _).mono ?_; rw [H1.out]; rintro e w' ⟨rfl, rfl⟩)
          go_ret
          exact ⟨by rw [HN.out]; rfl, rfl⟩
      · rw [hp] at HD
        rw [plainB_iff] at hp
        have H1 : Hid (inR (s[k].toNat : Int) 32 126 = true) := by rw [Hid, inR_iff]; omega
        have h2 : ((s[k].toNat : Int) == 35) = false := by simp; omega
        clear hp
        go_wp2_with (go_at_call 52; refine (l1In_any _ _ _ _).mono ?_; rw [H1.out]; rintro e w' ⟨rfl, rfl⟩)
        go_round
        case rel => exact ⟨k + 1, by omega, by go_num, by have h := HR.out; rw [HD.out] at h; exact h⟩
        case measure => simp [intOf]; omega
    · have HK : Hid (plainL (bl s) = true) := by
        have h1 := HR.out
        rw [List.drop_eq_nil_of_le (by rw [bl_size]; omega)] at h1; exact h1.symm
      go_wp2
      go_ret
      exact ⟨by rw [HK.out]; rfl, rfl⟩

set_option maxHeartbeats 1000000 in
theorem isPrintable_any (s : ByteArray) (w : World) (hs : s.size ≤ 1000000000) :
    Calls Tryd.prog 73 #[.string s] w fun e w' => e = .returned (.bool (plainL (bl s))) ∧ w = w' := by
  have HF : Hid (plainL ((bl s).drop 0) = plainL (bl s)) := rfl
  go_enter Tryd.func73, Tryd.ntmps73
  go_wp2
  go_loop [3, 6] (fun _ i => ∃ k : Nat, k ≤ s.size ∧ i = .int .i64 k ∧ Hid (plainL ((bl s).drop k) = plainL (bl s))) (fun _ i => s.size - (intOf i).toNat)
  case atStart => exact ⟨0, Nat.zero_le _, rfl, HF⟩
  case round =>
    obtain ⟨k, hk, rfl, HR⟩ := hrel
    by_cases hlt : k < s.size
    · have HD := Lib.hid (plain_drop hlt)
      have u1 : (s[k].toNat : Int) ≤ 255 := by have := UInt8.toNat_lt s[k]; omega
      cases hp : plainB s[k]
      · rw [hp] at HD
        have HN : Hid (plainL (bl s) = false) := by rw [Hid, ← HR.out, HD.out]; rfl
        have hor : (s[k].toNat : Int) < 32 ∨ (32 ≤ (s[k].toNat : Int) ∧ 126 < (s[k].toNat : Int)) ∨ (32 ≤ (s[k].toNat : Int) ∧ (s[k].toNat : Int) ≤ 126 ∧ (s[k].toNat : Int) = 35) := by
          have : ¬ (32 ≤ s[k].toNat ∧ s[k].toNat ≤ 126 ∧ s[k].toNat ≠ 35) := fun h => by rw [plainB_iff.2 h] at hp; cases hp
          omega
        clear hp
        rcases hor with h1 | ⟨h1, h2⟩ | ⟨h1, h2, h3⟩
        · have d1 : decide ((s[k].toNat : Int) < 32) = true := decide_eq_true h1
          clear h1
          go_wp2
          go_ret
          exact ⟨by rw [HN.out]; rfl, rfl⟩
        · have d1 : decide ((s[k].toNat : Int) < 32) = false := decide_eq_false (by omega)
          have d2 : decide (126 < (s[k].toNat : Int)) = true := decide_eq_true h2
          clear h1 h2
          go_wp2
          go_ret
          exact ⟨by rw [HN.out]; rfl, rfl⟩
        · have d1 : decide ((s[k].toNat : Int) < 32) = false := decide_eq_false (by omega)
          have d2 : decide (126 < (s[k].toNat : Int)) = false := decide_eq_false (by omega)
          have d3 : ((s[k].toNat : Int) == 35) = true := by simp [h3]
          clear h1 h2 h3
          go_wp2
          go_ret
          exact ⟨by rw [HN.out]; rfl, rfl⟩
      · rw [hp] at HD
        rw [plainB_iff] at hp
        have d1 : decide ((s[k].toNat : Int) < 32) = false := decide_eq_false (by omega)
        have d2 : decide (126 < (s[k].toNat : Int)) = false := decide_eq_false (by omega)
        have d3 : ((s[k].toNat : Int) == 35) = false := by simp; omega
        clear hp
        go_wp2
        go_round
        case rel => exact ⟨k + 1, by omega, by go_num, by have h := HR.out; rw [HD.out] at h; exact h⟩
        case measure => simp [intOf]; omega
    · have HK : Hid (plainL (bl s) = true) := by
        have h1 := HR.out
        rw [List.drop_eq_nil_of_le (by rw [bl_size]; omega)] at h1; exact h1.symm
      go_wp2
      go_ret
      exact ⟨by rw [HK.out]; rfl, rfl⟩

def hasB (l : List UInt8) (b : UInt8) : Bool := l.contains b
theorem has_drop {s : ByteArray} {k : Nat} {b : UInt8} (h : k < s.size) : hasB ((bl s).drop k) b = (decide (s[k] = b) || hasB ((bl s).drop (k + 1)) b) := by
  unfold hasB
  rw [bl_drop h, List.contains_cons]
  congr 1
  rw [Bool.eq_iff_iff]; simp; exact eq_comm

set_option maxHeartbeats 1000000 in
theorem l1Stands_any (s : ByteArray) (b : UInt8) (w : World) (hs : s.size ≤ 1000000000) :
    Calls Tryd.prog 78 #[.string s, .int .u8 b.toNat] w fun e w' => e = .returned (.bool (hasB (bl s) b)) ∧ w = w' := by
  have HF : Hid (hasB ((bl s).drop 0) b = hasB (bl s) b) := rfl
  go_enter Tryd.func78, Tryd.ntmps78
  go_wp2
  go_loop [5] (fun i => ∃ k : Nat, k ≤ s.size ∧ i = .int .i64 k ∧ Hid (hasB ((bl s).drop k) b = hasB (bl s) b)) (fun i => s.size - (intOf i).toNat)
  case atStart => exact ⟨0, Nat.zero_le _, rfl, HF⟩
  case round =>
    obtain ⟨k, hk, rfl, HR⟩ := hrel
    by_cases hlt : k < s.size
    · have HD := Lib.hid (has_drop (b := b) hlt)
      have hq := @u8_eq s[k] b
      cases hp : decide (s[k] = b)
      · rw [hp] at HD hq
        clear hp
        go_wp2
        go_round
        case rel => exact ⟨k + 1, by omega, by go_num, by have h := HR.out; rw [HD.out] at h; exact h⟩
        case measure => simp [intOf]; omega
      · rw [hp] at HD hq
        clear hp
        go_wp2
        go_ret
        exact ⟨by rw [← HR.out, HD.out]; rfl, rfl⟩
    · have HK : Hid (hasB (bl s) b = false) := by
        have h1 := HR.out
        rw [List.drop_eq_nil_of_le (by rw [bl_size]; omega)] at h1; exact h1.symm
      go_wp2
      go_ret
      exact ⟨by rw [HK.out]; rfl, rfl⟩

/-! ### Records -/
structure Rec where
  c : ByteArray
  r : ByteArray
abbrev Rec.val (e : Rec) : Value := .agg #[.string e.c, .string e.r]
def Rec.enc (e : Rec) : List Value := [.string e.c, .string e.r]
theorem Rec.enc_len (e : Rec) : e.enc.length = 2 := rfl
def Rec.ok (e : Rec) : Bool := recOk (bl e.c) (bl e.r)
theorem Rec.ok_eq (e : Rec) : e.ok = (decide (1 ≤ e.c.size) && decide (e.c.size ≤ 160) && plainL (bl e.c) && !hasB (bl e.c) 64 && plainL (bl e.r) && decide (e.r.size ≤ 200)) := rfl

def plainM (s : ByteArray) (m : Int) : Bool := plainL (bl s) && decide ((s.size : Int) ≤ m)
theorem plainM_any (s : ByteArray) (m : Int) (w : World) (hs : s.size ≤ 1000000000) :
    Calls Tryd.prog 77 #[.string s, .int .i64 m] w fun e w' => e = .returned (.bool (plainM s m)) ∧ w = w' := l33Plain_any s m w hs
theorem toL (s : ByteArray) : s.toList = bl s := ByteArray.toList_eq s
theorem empty_of0 {s : ByteArray} (h : ¬ 1 ≤ s.size) : s.toList = [] := by rw [toL]; exact List.eq_nil_of_length_eq_zero (by rw [bl_size]; omega)
theorem empty_not {s : ByteArray} (h : 1 ≤ s.size) : s.toList ≠ [] := fun e => by rw [toL] at e; have := congrArg List.length e; rw [bl_size, List.length_nil] at this; omega
theorem Rec.ok_spec (e : Rec) : e.ok = (decide (1 ≤ e.c.size) && plainM e.c 160 && !hasB (bl e.c) 64 && plainM e.r 200) := by
  rw [Rec.ok_eq]
  unfold plainM
  have e1 : decide ((e.c.size : Int) ≤ 160) = decide (e.c.size ≤ 160) := by rw [Bool.eq_iff_iff]; simp; omega
  have e2 : decide ((e.r.size : Int) ≤ 200) = decide (e.r.size ≤ 200) := by rw [Bool.eq_iff_iff]; simp; omega
  rw [e1, e2]
  cases decide (1 ≤ e.c.size) <;> cases decide (e.c.size ≤ 160) <;> cases plainL (bl e.c) <;> cases hasB (bl e.c) 64 <;> cases plainL (bl e.r) <;> simp
theorem Rec.ok_impl (e : Rec) : e.ok = (inR e.c.size 1 160 && decide ((e.r.size : Int) ≤ 200) && plainL (bl e.c) && plainL (bl e.r) && !hasB (bl e.c) 64) := by
  rw [Rec.ok_eq]
  have e1 : inR e.c.size 1 160 = (decide (1 ≤ e.c.size) && decide (e.c.size ≤ 160)) := by rw [Bool.eq_iff_iff]; simp [inR]; omega
  have e2 : decide ((e.r.size : Int) ≤ 200) = decide (e.r.size ≤ 200) := by rw [Bool.eq_iff_iff]; simp; omega
  rw [e1, e2]
  cases decide (1 ≤ e.c.size) <;> cases decide (e.c.size ≤ 160) <;> cases plainL (bl e.c) <;> cases plainL (bl e.r) <;> cases hasB (bl e.c) 64 <;> simp
theorem contains1_any (s : ByteArray) (b : UInt8) (w : World) : Calls Tryd.prog 74 #[.string s, .string ⟨#[b]⟩] w fun e w' => e = .returned (.bool (hasB (bl s) b)) ∧ w = w' := by
  refine (Tryd.strings_Contains_one s b w).mono ?_
  rintro e w' ⟨rfl, rfl⟩
  refine ⟨?_, rfl⟩
  congr 2
  unfold hasB
  rw [← contains_one]
  unfold Lib.contains
  rw [Bool.eq_iff_iff]
  simp only [decide_eq_true_eq]
  have h1 : Lib.indexByte (bl s) b = Lib.index (bl s) [b] := by
    rcases index_one_or (bl s) b with ⟨hn, e⟩ | ⟨hy, e⟩
    · rw [e]
      rcases h : Lib.indexByte (bl s) b with n | n
      · exfalso; exact hn (List.mem_of_getElem? (Lib.indexByte_some (o := n) h).1)
      · have := Lib.indexByte_ge (bl s) b; rw [h] at this; omega
    · rw [e]
      have hge := Lib.indexByte_ge (bl s) b
      rcases Int.lt_or_le (Lib.indexByte (bl s) b) 0 with hlt | hge0
      · have : Lib.indexByte (bl s) b = -1 := by omega
        have h2 := Lib.indexByte_none this
        obtain ⟨k, hk, hk2⟩ := List.getElem_of_mem hy
        exact absurd (by rw [List.getElem?_eq_getElem hk, hk2]) (h2 k)
      · obtain ⟨n, hn⟩ := Int.eq_ofNat_of_zero_le hge0
        obtain ⟨h3, h4⟩ := Lib.indexByte_some hn
        rw [hn]
        have hp := parts_bef hy
        have h5 : (bl s)[(bef b (bl s)).length]? = some b := by
          have : (bef b (bl s) ++ b :: (bl s).drop ((bef b (bl s)).length + 1))[(bef b (bl s)).length]? = some b := by simp
          rwa [← hp] at this
        rcases Nat.lt_trichotomy n (bef b (bl s)).length with hlt | heq | hgt
        · exfalso
          have h6 : (bef b (bl s))[n]? = some b := by
            have : (bef b (bl s) ++ b :: (bl s).drop ((bef b (bl s)).length + 1))[n]? = some b := by rw [← hp]; exact h3
            rwa [List.getElem?_append_left hlt] at this
          exact bef_not b (bl s) (List.mem_of_getElem? h6)
        · rw [heq]
        · exact absurd h5 (h4 _ hgt)
  rw [show s.data.toList = bl s from rfl, h1]

set_option maxHeartbeats 2000000 in
theorem l33Good_any (e : Rec) (w : World) (h1 : e.c.size ≤ 1000000000) (h2 : e.r.size ≤ 1000000000) :
    Calls Tryd.prog 48 #[e.val] w fun en w' => en = .returned (.bool e.ok) ∧ Below w.heap.size w w' := by
  have hb0 := (Below.refl w.heap.size w).alloc (Nat.le_refl _) (.cells #[.string e.c, .string e.r] 45)
  have HO := Lib.hid e.ok_spec
  by_cases h0 : 1 ≤ e.c.size
  · have n1 := empty_not h0
    have n2 : (e.c.toList.isEmpty) = false := by simpa using n1
    have H0 : Hid (decide (1 ≤ e.c.size) = true) := decide_eq_true h0
    clear h0
    go_enter Tryd.func48, Tryd.ntmps48
    go_wp2_with (first | (go_at_call 77; refine (plainM_any _ _ _ (by assumption)).mono ?_; rintro e w' ⟨rfl, rfl⟩) | (go_at_call 78; refine (l1Stands_any _ 64 _ (by assumption)).mono ?_; rintro e w' ⟨rfl, rfl⟩))
    all_goals (go_ret; exact ⟨by rw [HO.out, H0.out]; simp [*], hb0⟩)
  · have n1 := empty_of0 h0
    have n2 : (e.c.toList.isEmpty) = true := by simp [n1]
    have H0 : Hid (decide (1 ≤ e.c.size) = false) := decide_eq_false h0
    clear h0
    go_enter Tryd.func48, Tryd.ntmps48
    go_wp2
    go_ret
    exact ⟨by rw [HO.out, H0.out]; rfl, hb0⟩

set_option maxHeartbeats 2000000 in
theorem isRecord_any (e : Rec) (w : World) (h1 : e.c.size ≤ 1000000000) (h2 : e.r.size ≤ 1000000000) :
    Calls Tryd.prog 45 #[e.val] w fun en w' => en = .returned (.bool e.ok) ∧ Below w.heap.size w w' := by
  have hb0 := (Below.refl w.heap.size w).alloc (Nat.le_refl _) (.cells #[.string e.c, .string e.r] 45)
  have HO := Lib.hid e.ok_impl
  go_enter Tryd.func45, Tryd.ntmps45
  go_wp2_with (first | (go_at_call 51; refine (inRange_any _ _ _ _).mono ?_; rintro e w' ⟨rfl, rfl⟩) | (go_at_call 73; refine (isPrintable_any _ _ (by assumption)).mono ?_; rintro e w' ⟨rfl, rfl⟩) | (go_at_call 74; refine (contains1_any _ 64 _).mono ?_; rintro e w' ⟨rfl, rfl⟩))
  all_goals (go_ret; refine ⟨?_, hb0⟩; rw [HO.out]; simp [*] <;> omega)
end Go.Proofs.YtojceibamgodbaaDoor

/- Texts drawn: one of a row of texts; a text spoilt. -/
namespace Go.Proofs.YtojceibamgodbaaDoor
open Go.RowKit

theorem Lies.newB (w : World) (o : Obj) (t : TypeId) (cs : Array Value) : Lies ((w.alloc o).alloc (.cells cs t)) (w.heap.size + 1) t cs.toList := by
  have h := Lies.new (w.alloc o) t cs
  rwa [show (w.alloc o).heap.size = w.heap.size + 1 from Array.size_push _] at h
abbrev encSs (l : List ByteArray) : List Value := l.map Value.string
/-- One of a row of texts that lies in a block. -/
theorem of_lies {w W : World} {g : Nat} {A : Option Addr} {bs : List UInt8} {cap m : Nat} (E : Env w W g A bs cap m) (b n : Nat) (l : List ByteArray) (hl : l.length = n) (hL : Lies W b 9 (encSs l)) (hne : b ≠ g) (h0 : 0 < n) (hn : n ≤ 100000) (hm : m ≤ 900000000) :
    Calls Tryd.prog 72 #[.pointer (some ⟨g, 0, none⟩), .slice (some ⟨b, 0, none⟩) n n] W fun e w' => ∃ x : ByteArray, e = .returned (.string x) ∧ x ∈ l ∧ Env w w' g A bs cap (m + 2) ∧ W.grownBy w' (some g) := by
  go_enter Tryd.func72, Tryd.ntmps72
  go_wp2_with fail
  refine (pick_env E n hn hm).mono ?_
  rintro e w1 ⟨x, rfl, hx, E1, gr⟩
  have hlt : x < l.length := by omega
  have kc : w1.cell? ⟨b, x, none⟩ = some (.string l[x]) := by
    rw [(hL.kept gr (by intro e; injection e with e; exact hne e)).cell]; simp [hlt]
  have hmem : l[x] ∈ l := List.getElem_mem hlt
  have hxn : x < n := by omega
  generalize l[x] = y at kc hmem
  clear hx hlt E
  go_wp2
  go_ret
  exact ⟨y, rfl, hmem, E1, gr⟩
theorem ex_size (s : ByteArray) (a b : Nat) : (s.extract a b).size = min b s.size - a := ByteArray.size_extract ..
set_option maxHeartbeats 2000000 in
theorem spoilt_any (g : Nat) (A : Option Addr) (cap m : Nat) (bs : List UInt8) (t s : ByteArray) (w W : World) (hs : 1 ≤ s.size) (hs' : s.size ≤ 100) (ht : t.size ≤ 100000) (hm : m ≤ 800000000) (E : Env w W g A bs cap m) :
    Calls Tryd.prog 56 #[.pointer (some ⟨g, 0, none⟩), .string t, .string s] W fun e w' => ∃ x : ByteArray, e = .returned (.string x) ∧ x.size ≤ t.size + 1 ∧ Env w w' g A bs cap (m + 6) ∧ W.grownBy w' (some g) := by
  by_cases h0 : 1 ≤ t.size
  · have hne : t.toList.isEmpty = false := List.isEmpty_eq_false_iff.2 (empty_not h0)
    go_enter Tryd.func56, Tryd.ntmps56
    go_wp2_with fail
    refine (pick_env E t.size (by omega) (by omega)).mono ?_
    rintro e w1 ⟨i, rfl, hi, E1, gr1⟩
    have hi' : i + 1 ≤ t.size := by omega
    clear hi hne
    go_wp2_with fail
    refine (pick_env E1 s.size (by omega) (by omega)).mono ?_
    rintro e w2 ⟨j, rfl, hj, E2, gr2⟩
    have gr12 := grown_trans gr1 gr2
    have hj' : j + 1 ≤ s.size := by omega
    have z1 := ex_size s j s.size
    clear hj gr1 gr2 E1
    go_wp2_with fail
    have hx1 : ((s.extract j s.size).extract 0 1).size ≤ 1 := by rw [ex_size]; omega
    generalize (s.extract j s.size).extract 0 1 = x at hx1 ⊢
    refine (pick_env E2 3 (by omega) (by omega)).mono ?_
    rintro e w3 ⟨k, rfl, hk, E3, gr3⟩
    have gr := grown_trans gr12 gr3
    have z2 := ex_size t 0 i
    have z3 := ex_size t i t.size
    have z4 := ex_size t (i + 1) t.size
    have y1 := size_app (t.extract 0 i) x
    have y2 := size_app (t.extract 0 i ++ x) (t.extract i t.size)
    have y3 := size_app (t.extract 0 i ++ x) (t.extract (i + 1) t.size)
    have y4 := size_app (t.extract 0 i) (t.extract (i + 1) t.size)
    have hk3 : k = 0 ∨ k = 1 ∨ k = 2 := by omega
    have HE := Lib.hid E3
    have HG := Lib.hid gr
    clear gr12 gr3 E2 E3 gr E hk z1
    rcases hk3 with rfl | rfl | rfl
    · go_wp2_with fail
      refine wp_region_since0 (by kernel_rfl) (by kernel_rfl) ?_
      repeat (any_goals (first | go_big_quiet_step ((fail)) | (refine wpQuiet_step (fun K hK => ?_); go_simp; split <;> (refine hK _ ?_; clear hK K))))
      all_goals (refine wpQuiet_nil ?_; rintro _ ⟨q1, rfl⟩)
      go_wp2_with fail
      go_ret
      exact ⟨_, rfl, by omega, HE.out.below q1.below, grown_trans HG.out (grownAny q1.below _)⟩
    · go_wp2_with fail
      refine wp_region_since0 (by kernel_rfl) (by kernel_rfl) ?_
      repeat (any_goals (first | go_big_quiet_step ((fail)) | (refine wpQuiet_step (fun K hK => ?_); go_simp; split <;> (refine hK _ ?_; clear hK K))))
      all_goals (refine wpQuiet_nil ?_; rintro _ ⟨q1, rfl⟩)
      go_wp2_with fail
      go_ret
      exact ⟨_, rfl, by omega, HE.out.below q1.below, grown_trans HG.out (grownAny q1.below _)⟩
    · go_wp2_with fail
      refine wp_region_since0 (by kernel_rfl) (by kernel_rfl) ?_
      repeat (any_goals (first | go_big_quiet_step ((fail)) | (refine wpQuiet_step (fun K hK => ?_); go_simp; split <;> (refine hK _ ?_; clear hK K))))
      all_goals (refine wpQuiet_nil ?_; rintro _ ⟨q1, rfl⟩)
      go_wp2_with fail
      go_ret
      exact ⟨_, rfl, by omega, HE.out.below q1.below, grown_trans HG.out (grownAny q1.below _)⟩
  · have he : t.toList.isEmpty = true := List.isEmpty_iff.2 (empty_of0 h0)
    have z1 := ex_size s 0 1
    go_enter Tryd.func56, Tryd.ntmps56
    go_wp2_with fail
    go_ret
    exact ⟨_, rfl, by rw [z1]; omega, E.mono (by omega), World.grownBy.refl _ _⟩
end Go.Proofs.YtojceibamgodbaaDoor

/- The text of a number, in the reference (l1Num). -/
namespace Go.Proofs.YtojceibamgodbaaDoor
open Go.RowKit

theorem dec_small {n : Nat} (h : n < 10) : Lib.decDigits n = [UInt8.ofNat (48 + n)] := by rw [Lib.decDigits, dif_pos h]
theorem dec_big {n : Nat} (h : ¬ n < 10) : Lib.decDigits n = Lib.decDigits (n / 10) ++ [UInt8.ofNat (48 + n % 10)] := by rw [Lib.decDigits, dif_neg h]

theorem digit_at : ∀ {n : Nat}, n < 10 → (⟨#[48, 49, 50, 51, 52, 53, 54, 55, 56, 57]⟩ : ByteArray).extract n (n + 1) = ⟨[UInt8.ofNat (48 + n)].toArray⟩
  | 0, _ => by decide | 1, _ => by decide | 2, _ => by decide | 3, _ => by decide | 4, _ => by decide
  | 5, _ => by decide | 6, _ => by decide | 7, _ => by decide | 8, _ => by decide | 9, _ => by decide

theorem dec_len {n : Nat} (h : n ≤ 1000000000) : (⟨(Lib.decDigits n).toArray⟩ : ByteArray).size ≤ 100 := by
  show (Lib.decDigits n).toArray.size ≤ 100
  rw [List.size_toArray, Lib.decDigits_length]
  have := Lib.nDigits_le20 n (by omega)
  omega

set_option maxHeartbeats 1000000 in
theorem l1Num_nat (k : Nat) : ∀ (n : Nat) (w : World), n < 10 ^ k → n ≤ 1000000000 →
    Calls Tryd.prog 80 #[.int .i64 (n : Int)] w fun e w' => e = .returned (.string ⟨(Lib.decDigits n).toArray⟩) ∧ Below w.heap.size w w' := by
  induction k with
  | zero =>
    intro n w hn _
    have h0 : n = 0 := by simpa using hn
    subst h0
    have HD := Lib.hid (dec_small (n := 0) (by omega))
    have HE := Lib.hid (digit_at (n := 0) (by omega))
    go_enter Tryd.func80, Tryd.ntmps80
    go_wp2
    go_ret
    exact ⟨by rw [HD.out, ← HE.out]; rfl, Below.refl _ _⟩
  | succ k ih =>
    intro n w hn hb
    by_cases h10 : n < 10
    · have HD := Lib.hid (dec_small h10)
      have HE := Lib.hid (digit_at h10)
      go_enter Tryd.func80, Tryd.ntmps80
      go_wp2
      go_ret
      exact ⟨by rw [HD.out, ← HE.out]; rfl, Below.refl _ _⟩
    · have HD := Lib.hid (dec_big h10)
      have hr : n % 10 < 10 := Nat.mod_lt _ (by omega)
      have HE := Lib.hid (digit_at hr)
      have hk : n / 10 < 10 ^ k := Nat.div_lt_of_lt_mul (by rw [Nat.mul_comm, ← Nat.pow_succ]; exact hn)
      obtain ⟨sv, hsv⟩ : ∃ s : ByteArray, s = ⟨(Lib.decDigits (n / 10)).toArray⟩ := ⟨_, rfl⟩
      obtain ⟨dv, hdv⟩ : ∃ s : ByteArray, s = (⟨#[48, 49, 50, 51, 52, 53, 54, 55, 56, 57]⟩ : ByteArray).extract (n % 10) (n % 10 + 1) := ⟨_, rfl⟩
      have hss : sv.size ≤ 100 := by rw [hsv]; exact dec_len (by omega)
      have hds : dv.size ≤ 10 := by rw [hdv, HE.out]; exact (by decide : (1 : Nat) ≤ 10)
      have ih' : ∀ W : World, Calls Tryd.prog 80 #[.int .i64 ((n : Int) / 10)] W fun e w' => e = .returned (.string sv) ∧ Below W.heap.size W w' := fun W => by
        have := ih (n / 10) W hk (by omega)
        rw [Int.natCast_ediv] at this; rw [hsv]; exact this
      have IH := Lib.hid ih'; clear ih' ih
      have hex := hdv.symm
      have HSV := Lib.hid hsv; clear hsv
      have HDV := Lib.hid hdv; clear hdv
      have e1 : (n : Int).tdiv 10 = (n : Int) / 10 := Int.tdiv_eq_ediv_of_nonneg (by omega)
      have e2 : (n : Int).tmod 10 = (n : Int) % 10 := Int.tmod_eq_emod_of_nonneg (by omega)
      go_enter Tryd.func80, Tryd.ntmps80
      go_wp2_with fail
      refine wp_region_since0 (by kernel_rfl) (by kernel_rfl) ?_
      repeat (any_goals (first | go_big_quiet_step ((go_at_call 80; refine calls_since (Nat.le_refl _) (IH.out _))) | (refine wpQuiet_step (fun K hK => ?_); go_simp; split <;> (refine hK _ ?_; clear hK K))))
      all_goals (refine wpQuiet_nil ?_; rintro _ ⟨q1, rfl⟩)
      go_wp2
      go_ret
      exact ⟨by rw [HD.out, HSV.out, HDV.out, HE.out, ByteArray.mk_append_mk]; rfl, q1.below⟩
/-- Every number up to a thousand millions. -/
theorem l1Num_any (n : Int) (w : World) (h0 : 0 ≤ n) (h1 : n ≤ 1000000000) :
    Calls Tryd.prog 80 #[.int .i64 n] w fun e w' => e = .returned (.string ⟨(Lib.itoa n).toArray⟩) ∧ Below w.heap.size w w' := by
  obtain ⟨m, rfl⟩ := Int.eq_ofNat_of_zero_le h0
  have e : Lib.itoa (m : Int) = Lib.decDigits m := by unfold Lib.itoa; rw [if_neg (by omega), Int.toNat_natCast]
  have e' : Lib.itoa (Int.ofNat m) = Lib.decDigits m := e
  first | rw [e] | rw [e']
  exact l1Num_nat 10 m w (by omega) (by omega)
theorem itoa_len {n : Int} (h0 : 0 ≤ n) (h1 : n ≤ 1000000000) : (⟨(Lib.itoa n).toArray⟩ : ByteArray).size ≤ 100 := by
  unfold Lib.itoa
  rw [if_neg (by omega)]
  exact dec_len (by omega)
end Go.Proofs.YtojceibamgodbaaDoor

/- The text of a number, in the program (strconv.Itoa), and what its table asks of the world. -/
namespace Go.Proofs.YtojceibamgodbaaDoor
open Go.RowKit

theorem below_grow (w : World) (k : Nat) (os : Array Obj) : Below w.heap.size w (Sort.grow (w.drewN k) os) := by
  have h1 : Below w.heap.size w (w.drewN k) := below_drewN (Below.refl _ _) k
  refine h1.trans ⟨rfl, rfl, rfl, by simp [Sort.grow], fun i hi => ?_⟩
  have hs : (w.drewN k).heap = w.heap := by simp
  simp only [Sort.grow]
  rw [Array.getElem?_append_left (by rw [hs]; exact hi)]
/-- The table of the powers of ten lies, now and in every world since. -/
abbrev Tab (w : World) : Prop := Lib.TabBelow Tryd.prog w.heap.size w "internal/strconv.uint64pow10" .u64 Lib.pow10Tab
theorem Tab.is {w : World} (h : Tab w) : Lib.TabIs Tryd.prog w "internal/strconv.uint64pow10" .u64 Lib.pow10Tab := h w (Below.refl _ _)
theorem Tab.then {w w' : World} (h : Tab w) (hb : Below w.heap.size w w') : Tab w' := fun w'' h'' => h w'' (hb.trans (h''.mono hb.size))
theorem Tab.at {w : World} (h : Tab w) (q : Since w.heap.size w) : Tab q.val := h.then q.below

theorem itoa_any (n : Int) (w : World) (h0 : -9223372036854775808 ≤ n) (h1 : n ≤ 9223372036854775807) (ht : Tab w) :
    Calls Tryd.prog 76 #[.int .i64 n] w fun e w' => e = .returned (.string ⟨(Lib.itoa n).toArray⟩) ∧ Below w.heap.size w w' :=
  (Tryd.strconv_Itoa n h0 h1 w ht.is).mono fun e w' ⟨he, k, os, hw⟩ => ⟨he, by rw [hw]; exact below_grow w k os⟩
end Go.Proofs.YtojceibamgodbaaDoor

/- Checksums and sealed texts, in the reference and in the program. -/
namespace Go.Proofs.YtojceibamgodbaaDoor
open Go.RowKit

theorem sum_drop {s : ByteArray} {k h : Nat} (hk : k < s.size) : sumFrom h ((bl s).drop k) = sumFrom ((41 * h + s[k].toNat + 1) % 999979) ((bl s).drop (k + 1)) := by rw [bl_drop hk]; rfl

set_option maxHeartbeats 1000000 in
theorem l1Sum_any (s : ByteArray) (w : World) (hs : s.size ≤ 1000000000) :
    Calls Tryd.prog 102 #[.string s] w fun e w' => e = .returned (.int .i64 (sumL (bl s))) ∧ w = w' := by
  have HF : Hid (sumFrom 7 ((bl s).drop 0) = sumL (bl s)) := rfl
  go_enter Tryd.func102, Tryd.ntmps102
  go_wp2
  go_loop [3, 4] (fun n i => ∃ k h : Nat, k ≤ s.size ∧ i = .int .i64 k ∧ n = .int .i64 h ∧ h < 999979 ∧ Hid (sumFrom h ((bl s).drop k) = sumL (bl s))) (fun _ i => s.size - (intOf i).toNat)
  case atStart => exact ⟨0, 7, Nat.zero_le _, rfl, rfl, by omega, HF⟩
  case round =>
    obtain ⟨k, h, hk, rfl, rfl, hh, HR⟩ := hrel
    by_cases hlt : k < s.size
    · have HD := Lib.hid (sum_drop (h := h) hlt)
      have u1 : (s[k].toNat : Int) ≤ 255 := by have := UInt8.toNat_lt s[k]; omega
      have HM : Hid ((41 * (h : Int) + (s[k].toNat : Int) + 1) % 999979 = (((41 * h + s[k].toNat + 1) % 999979 : Nat) : Int)) := by unfold Hid; omega
      have HB : Hid ((41 * h + s[k].toNat + 1) % 999979 < 999979) := Nat.mod_lt _ (by omega)
      have e1 : (41 * (h : Int) + (s[k].toNat : Int) + 1).tmod 999979 = (41 * (h : Int) + (s[k].toNat : Int) + 1) % 999979 := Int.tmod_eq_emod_of_nonneg (by omega)
      go_wp2
      go_round
      case rel => exact ⟨k + 1, (41 * h + s[k].toNat + 1) % 999979, by omega, by go_num, congrArg _ HM.out, HB.out, by have h1 := HR.out; rw [HD.out] at h1; exact h1⟩
      case measure => simp [intOf]; omega
    · have HK : Hid (h = sumL (bl s)) := by
        have h1 := HR.out
        rw [List.drop_eq_nil_of_le (by rw [bl_size]; omega)] at h1; exact h1
      go_wp2
      go_ret
      exact ⟨by rw [← HK.out]; rfl, rfl⟩

set_option maxHeartbeats 1000000 in
theorem checksum_any (s : ByteArray) (w : World) (hs : s.size ≤ 1000000000) :
    Calls Tryd.prog 100 #[.string s] w fun e w' => e = .returned (.tuple #[.int .i64 (if s.size ≤ 4000 then (sumL (bl s) : Int) else 0), .bool (decide (s.size ≤ 4000))]) ∧ w = w' := by
  by_cases h4 : s.size ≤ 4000
  · have d4 : decide (4000 < (s.size : Int)) = false := decide_eq_false (by omega)
    have HF : Hid (sumFrom 7 ((bl s).drop 0) = sumL (bl s)) := rfl
    rw [if_pos h4, decide_eq_true h4]
    have H4 := Lib.hid h4
    go_enter Tryd.func100, Tryd.ntmps100
    go_wp2
    go_loop [4, 5, 11] (fun n _ i => ∃ k h : Nat, k ≤ s.size ∧ i = .int .i64 k ∧ n = .int .i64 h ∧ h < 999979 ∧ Hid (sumFrom h ((bl s).drop k) = sumL (bl s))) (fun _ _ i => s.size - (intOf i).toNat)
    case atStart => exact ⟨0, 7, Nat.zero_le _, rfl, rfl, by omega, HF⟩
    case round =>
      obtain ⟨k, h, hk, rfl, rfl, hh, HR⟩ := hrel
      by_cases hlt : k < s.size
      · have HD := Lib.hid (sum_drop (h := h) hlt)
        have u1 : (s[k].toNat : Int) ≤ 255 := by have := UInt8.toNat_lt s[k]; omega
        have HM : Hid ((41 * (h : Int) + (s[k].toNat : Int) + 1) % 999979 = (((41 * h + s[k].toNat + 1) % 999979 : Nat) : Int)) := by unfold Hid; omega
        have HB : Hid ((41 * h + s[k].toNat + 1) % 999979 < 999979) := Nat.mod_lt _ (by omega)
        have e1 : (41 * (h : Int) + (s[k].toNat : Int) + 1).tmod 999979 = (41 * (h : Int) + (s[k].toNat : Int) + 1) % 999979 := Int.tmod_eq_emod_of_nonneg (by omega)
        go_wp2
        go_round
        case rel => exact ⟨k + 1, (41 * h + s[k].toNat + 1) % 999979, by omega, by go_num, congrArg _ HM.out, HB.out, by have h1 := HR.out; rw [HD.out] at h1; exact h1⟩
        case measure => simp [intOf]; omega
      · have HK : Hid (h = sumL (bl s)) := by
          have h1 := HR.out
          rw [List.drop_eq_nil_of_le (by rw [bl_size]; omega)] at h1; exact h1
        go_wp2
        go_ret2
        exact ⟨by rw [← HK.out]; rfl, rfl⟩
  · have d4 : decide (4000 < (s.size : Int)) = true := decide_eq_true (by omega)
    rw [if_neg h4, decide_eq_false h4]
    clear h4
    go_enter Tryd.func100, Tryd.ntmps100
    go_wp2
    go_ret2
    exact ⟨rfl, rfl⟩

theorem str_eq {s : ByteArray} {l : List UInt8} (h : bl s = l) : Ending.returned (.string s) = .returned (.string ⟨l.toArray⟩) := by rw [bl_ext h]
theorem l1Seal_any (s : ByteArray) (w : World) (hs : s.size ≤ 1000000000) :
    Calls Tryd.prog 79 #[.string s] w fun e w' => e = .returned (.string ⟨(sealL (bl s)).toArray⟩) ∧ Below w.heap.size w w' := by
  have hl := sumL_lt (bl s)
  have HS := Lib.hid (fun W => l1Sum_any s W hs)
  have HN := Lib.hid (fun W => l1Num_any (sumL (bl s) : Int) W (by omega) (by omega))
  have hsz : (⟨(Lib.itoa (sumL (bl s) : Int)).toArray⟩ : ByteArray).size ≤ 100 := itoa_len (by omega) (by omega)
  obtain ⟨t, ht⟩ : ∃ t : ByteArray, t = ⟨(Lib.itoa (sumL (bl s) : Int)).toArray⟩ := ⟨_, rfl⟩
  rw [← ht] at HN hsz
  have HT : Hid (bl t = Lib.itoa (sumL (bl s) : Int)) := by rw [ht, Hid, bl_mk]
  clear ht
  go_enter Tryd.func79, Tryd.ntmps79
  go_wp2_with (first | (go_at_call 102; refine (HS.out _).mono ?_; rintro e w' ⟨rfl, rfl⟩) | (go_at_call 80; refine (HN.out _).mono ?_; rintro e w1 ⟨rfl, hb1⟩))
  go_ret
  exact ⟨str_eq (by rw [bl_app, bl_app, HT.out]; unfold sealL; simp [bl_lit]), hb1⟩
end Go.Proofs.YtojceibamgodbaaDoor

/- Lines of records, in the reference and in the program; verified texts. -/
namespace Go.Proofs.YtojceibamgodbaaDoor
open Go.RowKit

set_option maxHeartbeats 2000000 in
theorem l33Line_any (k : Nat) (e : Rec) (w : World) (hk : k ≤ 1000) (h1 : e.c.size ≤ 1000000) (h2 : e.r.size ≤ 1000000) :
    Calls Tryd.prog 49 #[.int .i64 k, e.val] w fun en w' => en = .returned (.string ⟨(lineL k (bl e.c) (bl e.r)).toArray⟩) ∧ Below w.heap.size w w' := by
  have b1 := (Below.refl w.heap.size w).alloc (Nat.le_refl _) (.cells #[.string e.c, .string e.r] 45)
  have L1 := Lies.new w 45 #[.string e.c, .string e.r]
  obtain ⟨t, ht⟩ : ∃ t : ByteArray, t = ⟨(Lib.itoa (k : Int)).toArray⟩ := ⟨_, rfl⟩
  have hts : t.size ≤ 100 := by rw [ht]; exact itoa_len (by omega) (by omega)
  have HN : Hid (∀ W, Calls Tryd.prog 80 #[.int .i64 k] W fun e w' => e = .returned (.string t) ∧ Below W.heap.size W w') := fun W => by rw [ht]; exact l1Num_any (k : Int) W (by omega) (by omega)
  have HT : Hid (bl t = Lib.itoa (k : Int)) := by rw [ht, Hid, bl_mk]
  clear ht
  obtain ⟨x, hx⟩ : ∃ x : ByteArray, x = t ++ ⟨#[32]⟩ ++ e.c ++ ⟨#[64]⟩ ++ e.r := ⟨_, rfl⟩
  have hxs : x.size ≤ 3000000 := by rw [hx]; simp only [size_app]; (have e1 : (⟨#[32]⟩ : ByteArray).size = 1 := rfl); (have e2 : (⟨#[64]⟩ : ByteArray).size = 1 := rfl); omega
  obtain ⟨z, hz⟩ : ∃ z : ByteArray, z = ⟨(sealL (bl x)).toArray⟩ := ⟨_, rfl⟩
  have hzs : z.size ≤ 4000000 := by rw [← bl_size, hz, bl_mk]; have := seal_len (bl x); rw [bl_size] at this; omega
  have HSl : Hid (∀ W, Calls Tryd.prog 79 #[.string (t ++ ⟨#[32]⟩ ++ e.c ++ ⟨#[64]⟩ ++ e.r)] W fun e w' => e = .returned (.string z) ∧ Below W.heap.size W w') := fun W => by rw [hz, ← hx]; exact l1Seal_any x W (by omega)
  have HF : Hid (bl (z ++ ⟨#[10]⟩) = lineL k (bl e.c) (bl e.r)) := by
    rw [Hid, bl_app, hz, bl_mk, hx]
    unfold lineL txtL
    simp [bl_app, bl_lit, HT.out]
  clear hz hx
  have z1 : (⟨#[32]⟩ : ByteArray).size = 1 := rfl
  have z2 : (⟨#[64]⟩ : ByteArray).size = 1 := rfl
  have z3 : (⟨#[10]⟩ : ByteArray).size = 1 := rfl
  go_enter Tryd.func49, Tryd.ntmps49
  go_wp2_with fail
  generalize w.alloc (.cells #[.string e.c, .string e.r] 45) = W at b1 L1 ⊢
  generalize hg : w.heap.size = g at L1 ⊢
  have c0 : ∀ p : Since W.heap.size W, p.val.cell? ⟨g, 0, none⟩ = some (.string e.c) := fun p => (p.cell L1.lt).trans (L1.cell 0)
  have c1 : ∀ p : Since W.heap.size W, p.val.cell? ⟨g, 1, none⟩ = some (.string e.r) := fun p => (p.cell L1.lt).trans (L1.cell 1)
  clear L1
  refine wp_region_since0 (by kernel_rfl) (by kernel_rfl) ?_
  repeat (any_goals (first | go_big_quiet_step ((first | (go_at_call 80; refine calls_since (Nat.le_refl _) (HN.out _)) | (go_at_call 79; refine calls_since (Nat.le_refl _) (HSl.out _)))) | (refine wpQuiet_step (fun K hK => ?_); go_simp; split <;> (refine hK _ ?_; clear hK K))))
  all_goals (refine wpQuiet_nil ?_; rintro _ ⟨q1, rfl⟩)
  go_wp2
  go_ret
  exact ⟨str_eq HF.out, by rw [← hg] at *; exact bthen b1 q1.below⟩

/-! ### The program's seal -/
def appOk (s : ByteArray) : Bool := decide (s.size ≤ 4000) && !hasB (bl s) 35 && decide ((sealL (bl s)).length ≤ 4000)
def appT (s : ByteArray) : ByteArray := if appOk s then ⟨(sealL (bl s)).toArray⟩ else ⟨#[]⟩

set_option maxHeartbeats 2000000 in
theorem appendChecksum_any (s : ByteArray) (w : World) (hs : s.size ≤ 1000000000) (ht : Tab w) :
    Calls Tryd.prog 75 #[.string s] w fun e w' => e = .returned (.tuple #[.string (appT s), .bool (appOk s)]) ∧ Below w.heap.size w w' := by
  have HC := Lib.hid (fun W => checksum_any s W hs)
  by_cases h4 : s.size ≤ 4000
  · rw [if_pos h4, decide_eq_true h4] at HC
    have HSt := Lib.hid (contains1_any s 35)
    cases hh : hasB (bl s) 35
    · rw [hh] at HSt
      have hl := sumL_lt (bl s)
      obtain ⟨t, htt⟩ : ∃ t : ByteArray, t = ⟨(Lib.itoa (sumL (bl s) : Int)).toArray⟩ := ⟨_, rfl⟩
      have hts : t.size ≤ 100 := by rw [htt]; exact itoa_len (by omega) (by omega)
      have HN : Hid (∀ W, Tab W → Calls Tryd.prog 76 #[.int .i64 (sumL (bl s) : Int)] W fun e w' => e = .returned (.string t) ∧ Below W.heap.size W w') := fun W hW => by rw [htt]; exact itoa_any _ W (by omega) (by omega) hW
      have HT : Hid (bl t = Lib.itoa (sumL (bl s) : Int)) := by rw [htt, Hid, bl_mk]
      clear htt
      have z1 : (⟨#[35]⟩ : ByteArray).size = 1 := rfl
      have HFin : Hid (bl (s ++ ⟨#[35]⟩ ++ t) = sealL (bl s)) := by
        rw [Hid, bl_app, bl_app, HT.out]; unfold sealL; simp [bl_lit]
      have HLn : Hid ((s ++ ⟨#[35]⟩ ++ t).size = (sealL (bl s)).length) := by rw [Hid, ← bl_size, HFin.out]
      have HZ : Hid ((s ++ ⟨#[35]⟩ ++ t).size = s.size + 1 + t.size) := by rw [Hid, size_app, size_app]; rfl
      have HA : Hid (appOk s = decide ((sealL (bl s)).length ≤ 4000)) := by unfold appOk Hid; rw [hh, decide_eq_true h4]; rfl
      clear hh h4
      by_cases h5 : s.size + 1 + t.size ≤ 4000
      · have HA2 : Hid (appOk s = true) := by rw [Hid, HA.out, ← HLn.out, HZ.out]; exact decide_eq_true h5
        have HA3 : Hid (appT s = s ++ ⟨#[35]⟩ ++ t) := by unfold appT Hid; rw [HA2.out, if_pos rfl]; exact (bl_ext HFin.out).symm
        have d5 : decide ((4000 : Int) < (s.size : Int) + 1 + (t.size : Int)) = false := decide_eq_false (by omega)
        go_enter Tryd.func75, Tryd.ntmps75
        go_wp2_with (first | (go_at_call 100; refine (HC.out _).mono ?_; rintro e w' ⟨rfl, rfl⟩) | (go_at_call 74; refine (HSt.out _).mono ?_; rintro e w' ⟨rfl, rfl⟩) | (go_at_call 76; refine (HN.out _ (by assumption)).mono ?_; rintro e w1 ⟨rfl, hb1⟩))
        go_ret2
        exact ⟨by rw [HA2.out, HA3.out]; rfl, hb1⟩
      · have HA2 : Hid (appOk s = false) := by rw [Hid, HA.out, ← HLn.out, HZ.out]; exact decide_eq_false h5
        have HA3 : Hid (appT s = ⟨#[]⟩) := by unfold appT Hid; rw [HA2.out]; rfl
        have d5 : decide ((4000 : Int) < (s.size : Int) + 1 + (t.size : Int)) = true := decide_eq_true (by omega)
        go_enter Tryd.func75, Tryd.ntmps75
        go_wp2_with (first | (go_at_call 100; refine (HC.out _).mono ?_; rintro e w' ⟨rfl, rfl⟩) | (go_at_call 74; refine (HSt.out _).mono ?_; rintro e w' ⟨rfl, rfl⟩) | (go_at_call 76; refine (HN.out _ (by assumption)).mono ?_; rintro e w1 ⟨rfl, hb1⟩))
        go_ret2
        exact ⟨by rw [HA2.out, HA3.out]; rfl, hb1⟩
    · rw [hh] at HSt
      have HA2 : Hid (appOk s = false) := by unfold appOk Hid; rw [hh]; simp
      have HA3 : Hid (appT s = ⟨#[]⟩) := by unfold appT Hid; rw [HA2.out]; rfl
      clear hh h4
      go_enter Tryd.func75, Tryd.ntmps75
      go_wp2_with (first | (go_at_call 100; refine (HC.out _).mono ?_; rintro e w' ⟨rfl, rfl⟩) | (go_at_call 74; refine (HSt.out _).mono ?_; rintro e w' ⟨rfl, rfl⟩))
      go_ret2
      exact ⟨by rw [HA2.out, HA3.out]; rfl, Below.refl _ _⟩
  · rw [if_neg h4, decide_eq_false h4] at HC
    have HA2 : Hid (appOk s = false) := by unfold appOk Hid; rw [decide_eq_false h4]; rfl
    have HA3 : Hid (appT s = ⟨#[]⟩) := by unfold appT Hid; rw [HA2.out]; rfl
    clear h4
    go_enter Tryd.func75, Tryd.ntmps75
    go_wp2_with (first | (go_at_call 100; refine (HC.out _).mono ?_; rintro e w' ⟨rfl, rfl⟩))
    go_ret2
    exact ⟨by rw [HA2.out, HA3.out]; rfl, Below.refl _ _⟩

theorem hasB_false {l : List UInt8} {b : UInt8} : hasB l b = false ↔ b ∉ l := by unfold hasB; simp
theorem hasB_true {l : List UInt8} {b : UInt8} : hasB l b = true ↔ b ∈ l := by unfold hasB; simp
theorem appOk_iff {s : ByteArray} : appOk s = true ↔ s.size ≤ 4000 ∧ (35 : UInt8) ∉ bl s ∧ (sealL (bl s)).length ≤ 4000 := by
  unfold appOk; simp [Bool.and_eq_true, hasB_false, and_assoc]

set_option maxHeartbeats 2000000 in
theorem encodeRecord_any (k : Nat) (e : Rec) (w : World) (hk : k ≤ 1000) (hok : e.ok = true) (ht : Tab w) :
    Calls Tryd.prog 46 #[.int .i64 k, e.val] w fun en w' => en = .returned (.string ⟨(lineL k (bl e.c) (bl e.r)).toArray⟩) ∧ Below w.heap.size w w' := by
  have b1 := (Below.refl w.heap.size w).alloc (Nat.le_refl _) (.cells #[.string e.c, .string e.r] 45)
  have L1 := Lies.new w 45 #[.string e.c, .string e.r]
  have ht1 := ht.then b1
  obtain ⟨_, h1, _, _, _, h2⟩ := recOk_iff.1 hok
  rw [bl_size] at h1 h2
  obtain ⟨t, htt⟩ : ∃ t : ByteArray, t = ⟨(Lib.itoa (k : Int)).toArray⟩ := ⟨_, rfl⟩
  have hts : t.size ≤ 100 := by rw [htt]; exact itoa_len (by omega) (by omega)
  have HN : Hid (∀ W, Tab W → Calls Tryd.prog 76 #[.int .i64 k] W fun e w' => e = .returned (.string t) ∧ Below W.heap.size W w') := fun W hW => by rw [htt]; exact itoa_any (k : Int) W (by omega) (by omega) hW
  have HT : Hid (bl t = Lib.itoa (k : Int)) := by rw [htt, Hid, bl_mk]
  clear htt
  obtain ⟨x, hx⟩ : ∃ x : ByteArray, x = t ++ ⟨#[32]⟩ ++ e.c ++ ⟨#[64]⟩ ++ e.r := ⟨_, rfl⟩
  have hxt : bl x = txtL k (bl e.c) (bl e.r) := by rw [hx]; unfold txtL; simp [bl_app, bl_lit, HT.out]
  have hao : appOk x = true := by
    rw [appOk_iff, hxt]
    have h3 := txt_len (k := k) hok (by omega)
    have h4 := seal_len (txtL k (bl e.c) (bl e.r))
    exact ⟨by rw [← bl_size, hxt]; omega, txt_free hok, by omega⟩
  obtain ⟨z, hz⟩ : ∃ z : ByteArray, z = ⟨(sealL (bl x)).toArray⟩ := ⟨_, rfl⟩
  have hzs : z.size ≤ 4000 := by rw [← bl_size, hz, bl_mk]; exact (appOk_iff.1 hao).2.2
  have hxs : x.size ≤ 4000 := (appOk_iff.1 hao).1
  have HSl : Hid (∀ W, Tab W → Calls Tryd.prog 75 #[.string (t ++ ⟨#[32]⟩ ++ e.c ++ ⟨#[64]⟩ ++ e.r)] W fun e w' => e = .returned (.tuple #[.string z, .bool true]) ∧ Below W.heap.size W w') := fun W hW => by
    have := appendChecksum_any x W (by omega) hW
    rw [show appT x = z by unfold appT; rw [hao, if_pos rfl, hz], hao] at this
    rw [← hx]; exact this
  have HF : Hid (bl (z ++ ⟨#[10]⟩) = lineL k (bl e.c) (bl e.r)) := by
    rw [Hid, bl_app, hz, bl_mk, hxt]
    unfold lineL; simp [bl_lit]
  clear hz hx hxt hao hok
  have z1 : (⟨#[32]⟩ : ByteArray).size = 1 := rfl
  have z2 : (⟨#[64]⟩ : ByteArray).size = 1 := rfl
  have z3 : (⟨#[10]⟩ : ByteArray).size = 1 := rfl
  go_enter Tryd.func46, Tryd.ntmps46
  go_wp2_with fail
  generalize w.alloc (.cells #[.string e.c, .string e.r] 45) = W at b1 L1 ht1 ⊢
  generalize hg : w.heap.size = g at L1 ⊢
  have c0 : ∀ p : Since W.heap.size W, p.val.cell? ⟨g, 0, none⟩ = some (.string e.c) := fun p => (p.cell L1.lt).trans (L1.cell 0)
  have c1 : ∀ p : Since W.heap.size W, p.val.cell? ⟨g, 1, none⟩ = some (.string e.r) := fun p => (p.cell L1.lt).trans (L1.cell 1)
  clear L1
  refine wp_region_since0 (by kernel_rfl) (by kernel_rfl) ?_
  repeat (any_goals (first | go_big_quiet_step ((first | (go_at_call 76; refine calls_since (Nat.le_refl _) (HN.out _ (ht1.at _))) | (go_at_call 75; refine calls_since (Nat.le_refl _) (HSl.out _ (ht1.at _))))) | (refine wpQuiet_step (fun K hK => ?_); go_simp; split <;> (refine hK _ ?_; clear hK K))))
  all_goals (refine wpQuiet_nil ?_; rintro _ ⟨q1, rfl⟩)
  go_wp2
  go_ret
  exact ⟨str_eq HF.out, by rw [← hg] at *; exact bthen b1 q1.below⟩
end Go.Proofs.YtojceibamgodbaaDoor

/- Verified texts, cuts, decoded records, in the program. -/
namespace Go.Proofs.YtojceibamgodbaaDoor
open Go.RowKit

open Classical in
/-- The text that is sealed in s. -/
noncomputable def verF (s : List UInt8) : Option (List UInt8) := if h : ∃ t, Ver t s then some h.choose else none
theorem verF_some {t s : List UInt8} (h : Ver t s) : verF s = some t := by
  have hex : ∃ t, Ver t s := ⟨t, h⟩
  unfold verF
  rw [dif_pos hex]
  exact congrArg some (hex.choose_spec.inj h)
theorem verF_none {s : List UInt8} (h : ∀ t, ¬ Ver t s) : verF s = none := by unfold verF; rw [dif_neg (fun ⟨t, ht⟩ => h t ht)]
theorem verF_ver {t s : List UInt8} (h : verF s = some t) : Ver t s := by
  by_cases hex : ∃ t, Ver t s
  · unfold verF at h
    rw [dif_pos hex] at h
    have := hex.choose_spec
    rw [Option.some.inj h] at this
    exact this
  · unfold verF at h
    rw [dif_neg hex] at h; cases h
theorem ver_last {t s : List UInt8} (h : Ver t s) : Lib.lastIndex s [35] = t.length := by rw [← h.2.1]; exact seal_last t
theorem ver_take {t s : List UInt8} (h : Ver t s) : s.take t.length = t := by rw [← h.2.1]; unfold sealL; exact List.take_left' rfl
def optT : Option (List UInt8) → ByteArray
  | some t => ⟨t.toArray⟩
  | none => ⟨#[]⟩

theorem str_beq (a b : ByteArray) : (a.toList == b.toList) = decide (bl a = bl b) := by
  rw [toL, toL, Bool.eq_iff_iff]; simp

set_option maxHeartbeats 2000000 in
theorem verify_any (s : ByteArray) (w : World) (hs : s.size ≤ 1000000000) (ht : Tab w) :
    Calls Tryd.prog 104 #[.string s] w fun e w' => e = .returned (.tuple #[.string (optT (verF (bl s))), .bool (verF (bl s)).isSome]) ∧ Below w.heap.size w w' := by
  have HL : Hid (∀ W, Calls Tryd.prog 113 #[.string s, .string ⟨#[35]⟩] W fun e w' => e = .returned (.int .i64 (Lib.lastIndex (bl s) [35])) ∧ w' = W) := fun W => Tryd.strings_LastIndex s ⟨#[35]⟩ (by omega) W
  rcases last_one_ge (bl s) 35 with h1 | ⟨i, h1, h2, h3⟩
  · have HV : Hid (verF (bl s) = none) := verF_none fun t hv => by have := ver_last hv; omega
    rw [h1] at HL
    clear h1
    go_enter Tryd.func104, Tryd.ntmps104
    go_wp2_with (go_at_call 113; refine (HL.out _).mono ?_; rintro e w' ⟨rfl, rfl⟩)
    go_ret2
    exact ⟨by rw [HV.out]; rfl, Below.refl _ _⟩
  · rw [h1] at HL
    have hi : i < s.size := h2
    obtain ⟨t, htt⟩ : ∃ t : ByteArray, t = s.extract 0 i := ⟨_, rfl⟩
    have hbt : bl t = (bl s).take i := by rw [htt, bl_extract]; simp
    have HC : Hid (∀ W, Tab W → Calls Tryd.prog 75 #[.string (s.extract 0 i)] W fun e w' => e = .returned (.tuple #[.string (appT t), .bool (appOk t)]) ∧ Below W.heap.size W w') := fun W hW => by
      rw [← htt]; exact appendChecksum_any t W (by rw [← bl_size, hbt, List.length_take, bl_size]; omega) hW
    have HVer : Hid (∀ t', Ver t' (bl s) → t' = bl t ∧ appOk t = true ∧ appT t = s) := fun t' hv => by
      have e1 := ver_last hv
      have e2 : t'.length = i := by omega
      have e3 := ver_take hv
      rw [e2, ← hbt] at e3
      subst e3
      have e4 : appOk t = true := appOk_iff.2 ⟨by rw [← bl_size]; exact hv.2.2.1, hv.1, by rw [hv.2.1]; exact hv.2.2.2⟩
      refine ⟨rfl, e4, ?_⟩
      unfold appT
      rw [e4, if_pos rfl, hv.2.1]
      exact (bl_ext rfl).symm
    have HGet : Hid (appOk t = true → bl (appT t) = bl s → Ver (bl t) (bl s)) := fun h5 h6 => by
      obtain ⟨a1, a2, a3⟩ := appOk_iff.1 h5
      have a4 : bl (appT t) = sealL (bl t) := by unfold appT; rw [h5, if_pos rfl, bl_mk]
      exact ⟨a2, by rw [← a4]; exact h6, by rw [bl_size]; exact a1, by rw [← h6, a4]; exact a3⟩
    clear h1 h2 h3
    cases hok : appOk t
    · have HV : Hid (verF (bl s) = none) := verF_none fun t' hv => by have := (HVer.out t' hv).2.1; rw [hok] at this; cases this
      rw [hok] at HC
      clear hok HVer HGet htt hbt
      go_enter Tryd.func104, Tryd.ntmps104
      go_wp2_with (first | (go_at_call 113; refine (HL.out _).mono ?_; rintro e w' ⟨rfl, rfl⟩) | (go_at_call 75; refine (HC.out _ (by assumption)).mono ?_; rintro e w1 ⟨rfl, hb1⟩))
      go_ret2
      exact ⟨by rw [HV.out]; rfl, hb1⟩
    · rw [hok] at HC
      have hne := str_beq (appT t) s
      by_cases heq : bl (appT t) = bl s
      · have HV : Hid (verF (bl s) = some (bl t)) := verF_some (HGet.out hok heq)
        have HT : Hid (optT (some (bl t)) = s.extract 0 i) := by unfold optT Hid; rw [← htt]; exact (bl_ext rfl).symm
        rw [decide_eq_true heq] at hne
        clear hok HVer HGet htt hbt heq
        generalize appT t = at' at HC hne
        go_enter Tryd.func104, Tryd.ntmps104
        go_wp2_with (first | (go_at_call 113; refine (HL.out _).mono ?_; rintro e w' ⟨rfl, rfl⟩) | (go_at_call 75; refine (HC.out _ (by assumption)).mono ?_; rintro e w1 ⟨rfl, hb1⟩))
        go_ret2
        exact ⟨by rw [HV.out, HT.out]; rfl, hb1⟩
      · have HV : Hid (verF (bl s) = none) := verF_none fun t' hv => by have := (HVer.out t' hv).2.2; exact heq (by rw [this])
        rw [decide_eq_false heq] at hne
        clear hok HVer HGet htt hbt heq
        generalize appT t = at' at HC hne
        go_enter Tryd.func104, Tryd.ntmps104
        go_wp2_with (first | (go_at_call 113; refine (HL.out _).mono ?_; rintro e w' ⟨rfl, rfl⟩) | (go_at_call 75; refine (HC.out _ (by assumption)).mono ?_; rintro e w1 ⟨rfl, hb1⟩))
        go_ret2
        exact ⟨by rw [HV.out]; rfl, hb1⟩
end Go.Proofs.YtojceibamgodbaaDoor

/- Where a byte stands first; the library's Cut at one byte; decoded records in the program. -/
namespace Go.Proofs.YtojceibamgodbaaDoor
open Go.RowKit

theorem idxByte_or (l : List UInt8) (b : UInt8) : (b ∉ l ∧ Lib.indexByte l b = -1) ∨ (b ∈ l ∧ Lib.indexByte l b = (bef b l).length) := by
  induction l with
  | nil => exact .inl ⟨by simp, rfl⟩
  | cons x l ih =>
    unfold Lib.indexByte bef
    by_cases h : x = b
    · subst h; exact .inr ⟨by simp, by simp⟩
    · have h' : (x == b) = false := by simp [h]
      rw [if_neg (by simp [h]), if_neg h]
      rcases ih with ⟨h1, h2⟩ | ⟨h1, h2⟩
      · exact .inl ⟨by simp only [List.mem_cons, not_or]; exact ⟨Ne.symm h, h1⟩, by rw [h2]; rfl⟩
      · refine .inr ⟨by simp [h1], ?_⟩
        rw [h2, if_neg (by simp)]; simp

def cutL (s : ByteArray) (b : UInt8) : ByteArray := ⟨(bef b (bl s)).toArray⟩
def cutR (s : ByteArray) (b : UInt8) : ByteArray := ⟨((bl s).drop ((bef b (bl s)).length + 1)).toArray⟩

set_option maxHeartbeats 1000000 in
theorem litCut_any (s : ByteArray) (b : UInt8) (w : World) (hs : s.size ≤ 1000000000) :
    Calls Tryd.prog 115 #[.string s, .string ⟨#[b]⟩] w fun e w' => e = .returned (.tuple #[.string (cutL s b), .string (cutR s b), .bool (hasB (bl s) b)]) ∧ Below w.heap.size w w' := by
  have HI := Lib.hid (fun W => Tryd.stringslite_Index_one s b W)
  have hb := bef_len b (bl s)
  rw [bl_size] at hb
  rcases idxByte_or (bl s) b with ⟨h1, h2⟩ | ⟨h1, h2⟩
  · rw [show s.data.toList = bl s from rfl, h2] at HI
    have HL : Hid (cutL s b = s) := by unfold cutL Hid; rw [bef_free h1]; exact (bl_ext rfl).symm
    have HR : Hid (cutR s b = ⟨#[]⟩) := by unfold cutR Hid; rw [bef_free h1, List.drop_eq_nil_of_le (by omega)]
    have HF : Hid (hasB (bl s) b = false) := hasB_false.2 h1
    clear h1 h2
    go_enter Tryd.func115, Tryd.ntmps115
    go_wp2_with (go_at_call 110; refine (HI.out _).mono ?_; rintro e w' ⟨rfl, rfl⟩)
    go_ret3
    exact ⟨by rw [HL.out, HR.out, HF.out]; rfl, Below.refl _ _⟩
  · rw [show s.data.toList = bl s from rfl, h2] at HI
    have hp := congrArg List.length (parts_bef h1)
    rw [bl_size] at hp
    simp only [List.length_append, List.length_cons, List.length_drop, bl_size] at hp
    have HF : Hid (hasB (bl s) b = true) := hasB_true.2 h1
    obtain ⟨n, hn⟩ : ∃ n, n = (bef b (bl s)).length := ⟨_, rfl⟩
    have HL : Hid (cutL s b = s.extract 0 n) := by
      unfold cutL Hid; refine (bl_ext ?_).symm
      rw [bl_extract, hn, take_bef]; simp
    have HR : Hid (cutR s b = s.extract (n + 1) s.size) := by
      unfold cutR Hid; refine (bl_ext ?_).symm
      rw [bl_extract, hn, List.take_of_length_le (by rw [bl_size]; omega)]
    rw [← hn] at HI hp hb
    have z1 : (⟨#[b]⟩ : ByteArray).size = 1 := rfl
    have hn1 : n + 1 ≤ s.size := by omega
    have i0 : (0 : Int) ≤ (n : Int) := by omega
    have i1 : (n : Int) ≤ (s.size : Int) := by omega
    have i2 : (n : Int) + 1 ≤ (s.size : Int) := by omega
    have i3 : IntKind.i64.wrap ((n : Int) + 1) = (n : Int) + 1 := IntWalk.i64_in _ (by omega)
    clear hn hp h1 h2
    go_enter Tryd.func115, Tryd.ntmps115
    go_wp2_with (go_at_call 110; refine (HI.out _).mono ?_; rintro e w' ⟨rfl, rfl⟩)
    refine wp_region_since0 (by kernel_rfl) (by kernel_rfl) ?_
    repeat (any_goals (first | go_big_quiet_step ((fail)) | (refine wpQuiet_step (fun K hK => ?_); go_simp; split <;> (refine hK _ ?_; clear hK K))))
    all_goals (refine wpQuiet_nil ?_; rintro _ ⟨q1, rfl⟩)
    go_wp2
    go_ret3
    exact ⟨by rw [HL.out, HR.out, HF.out]; rfl, q1.below⟩

theorem cut_any (s : ByteArray) (b : UInt8) (w : World) (hs : s.size ≤ 1000000000) :
    Calls Tryd.prog 106 #[.string s, .string ⟨#[b]⟩] w fun e w' => e = .returned (.tuple #[.string (cutL s b), .string (cutR s b), .bool (hasB (bl s) b)]) ∧ Below w.heap.size w w' := by
  have HC := Lib.hid (fun W => litCut_any s b W hs)
  go_enter Tryd.func106, Tryd.ntmps106
  go_wp2_with (go_at_call 115; refine (HC.out _).mono ?_; rintro e w1 ⟨rfl, hb1⟩)
  go_ret3
  exact ⟨rfl, hb1⟩

/-- What decoding gives: the record, and whether there is one. -/
def DecIs (k : Nat) (s : ByteArray) (a b : ByteArray) (ok : Bool) : Prop := (ok = true ∧ decF k (bl s) = some (bl a, bl b)) ∨ (ok = false ∧ decF k (bl s) = none)
def GivesDec (k : Nat) (s : ByteArray) (w : World) (e : Ending) (w' : World) : Prop := ∃ a b ok, e = .returned (.tuple #[.agg #[.string a, .string b], .bool ok]) ∧ DecIs k s a b ok ∧ Below w.heap.size w w'
end Go.Proofs.YtojceibamgodbaaDoor
