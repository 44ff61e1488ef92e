/- Records and logs as bytes: plain words, no program in sight. -/
import Derived.Lib.ItoaNum
import Derived.Lib.ItoaLen
import Derived.Lib.IndexLaws
import Derived.Lib.LastIndexLaws
import Derived.Lib.IndexMore
namespace Go.Proofs.YtojceibamgodbaaDoor

/-! ### The bytes ahead of a byte -/
def bef (b : UInt8) : List UInt8 → List UInt8
  | [] => []
  | x :: l => if x = b then [] else x :: bef b l
theorem bef_free {b : UInt8} : ∀ {l : List UInt8}, b ∉ l → bef b l = l
  | [], _ => rfl
  | x :: l, h => by
    simp only [List.mem_cons, not_or] at h
    unfold bef; rw [if_neg (Ne.symm h.1), bef_free h.2]
theorem bef_mid {b : UInt8} {r : List UInt8} : ∀ {t : List UInt8}, b ∉ t → bef b (t ++ b :: r) = t
  | [], _ => by simp [bef]
  | x :: l, h => by
    simp only [List.mem_cons, not_or] at h
    rw [List.cons_append]; unfold bef; rw [if_neg (Ne.symm h.1), bef_mid h.2]
theorem bef_not (b : UInt8) : ∀ l : List UInt8, b ∉ bef b l
  | [] => by simp [bef]
  | x :: l => by
    unfold bef; split
    · simp
    · rename_i h; simp only [List.mem_cons, not_or]; exact ⟨Ne.symm h, bef_not b l⟩
theorem bef_or (b : UInt8) : ∀ l : List UInt8, (b ∉ l ∧ bef b l = l) ∨ ∃ r, l = bef b l ++ b :: r
  | [] => .inl ⟨by simp, rfl⟩
  | x :: l => by
    unfold bef
    by_cases h : x = b
    · rw [if_pos h]; exact .inr ⟨l, by simp [h]⟩
    · rw [if_neg h]
      rcases bef_or b l with ⟨h1, h2⟩ | ⟨r, h1⟩
      · exact .inl ⟨by simp only [List.mem_cons, not_or]; exact ⟨Ne.symm h, h1⟩, by rw [h2]⟩
      · exact .inr ⟨r, by rw [List.cons_append, ← h1]⟩
theorem bef_len (b : UInt8) (l : List UInt8) : (bef b l).length ≤ l.length := by
  rcases bef_or b l with ⟨_, h⟩ | ⟨r, h⟩
  · rw [h]; exact Nat.le_refl _
  · have := congrArg List.length h; simp at this; omega
theorem bef_whole {b : UInt8} {l : List UInt8} : (bef b l).length = l.length ↔ b ∉ l := by
  constructor
  · intro h
    rcases bef_or b l with ⟨h1, _⟩ | ⟨r, h1⟩
    · exact h1
    · have := congrArg List.length h1; simp at this; omega
  · intro h; rw [bef_free h]
theorem take_bef {b : UInt8} (l : List UInt8) : l.take (bef b l).length = bef b l := by
  rcases bef_or b l with ⟨_, h⟩ | ⟨r, h⟩
  · rw [h]; simp
  · have e : (bef b l ++ b :: r).take (bef b l).length = bef b l := List.take_left' rfl
    rwa [← h] at e
theorem parts_bef {b : UInt8} {l : List UInt8} (h : b ∈ l) : l = bef b l ++ b :: l.drop ((bef b l).length + 1) := by
  rcases bef_or b l with ⟨h1, _⟩ | ⟨r, h1⟩
  · exact absurd h h1
  · have e : (bef b l ++ b :: r).drop ((bef b l).length + 1) = r := by
      rw [List.drop_append, List.drop_eq_nil_of_le (by omega)]; simp
    rw [← h1] at e
    rw [e]; exact h1

/-! ### Where a byte stands, in the library's words -/
theorem occ_one (s : List UInt8) (b : UInt8) (i : Nat) : Lib.occAt s [b] i = decide (s[i]? = some b) := by
  unfold Lib.occAt
  rcases Nat.lt_or_ge i s.length with h | h
  · rw [List.drop_eq_getElem_cons h, List.getElem?_eq_getElem h]
    by_cases e : s[i] = b
    · subst e; simp [List.isPrefixOf]
    · simp [List.isPrefixOf, e, Ne.symm e]
  · rw [List.drop_eq_nil_of_le h, List.getElem?_eq_none h]; rfl
theorem index_one_none {s : List UInt8} {b : UInt8} (h : b ∉ s) : Lib.index s [b] = -1 :=
  Lib.index_none fun j _ => by
    rw [occ_one, decide_eq_false_iff_not]; intro e; exact h (List.mem_of_getElem? e)
theorem index_one_mid {t r : List UInt8} {b : UInt8} (h : b ∉ t) : Lib.index (t ++ b :: r) [b] = t.length :=
  Lib.index_first (by simp) (by rw [occ_one]; simp) fun j hj => by
    rw [occ_one, decide_eq_false_iff_not, List.getElem?_append_left hj]; intro e; exact h (List.mem_of_getElem? e)
theorem index_one_or (s : List UInt8) (b : UInt8) : (b ∉ s ∧ Lib.index s [b] = -1) ∨ (b ∈ s ∧ Lib.index s [b] = (bef b s).length) := by
  rcases bef_or b s with ⟨h, _⟩ | ⟨r, h⟩
  · exact .inl ⟨h, index_one_none h⟩
  · refine .inr ⟨by rw [h]; simp, ?_⟩
    rw (occs := [1]) [h]; exact index_one_mid (bef_not b s)
theorem contains_one (s : List UInt8) (b : UInt8) : Lib.contains s [b] = s.contains b := by
  unfold Lib.contains
  rcases index_one_or s b with ⟨h, e⟩ | ⟨h, e⟩
  · rw [e]; simp [h]
  · rw [e]; simp [h]
theorem cut_one_none {s : List UInt8} {b : UInt8} (h : b ∉ s) : Lib.cut s [b] = (s, [], false) := by
  unfold Lib.cut; rw [index_one_none h]; simp
theorem cut_one_mid {t r : List UInt8} {b : UInt8} (h : b ∉ t) : Lib.cut (t ++ b :: r) [b] = (t, r, true) := by
  unfold Lib.cut; rw [index_one_mid h]; simp
theorem last_one_none {s : List UInt8} {b : UInt8} (h : b ∉ s) : Lib.lastIndex s [b] = -1 := by
  unfold Lib.lastIndex
  split
  · rcases Lib.lastOcc_spec s [b] (s.length - [b].length + 1) with ⟨e, _⟩ | ⟨i, _, _, ho, _⟩
    · exact e
    · rw [occ_one, decide_eq_true_eq] at ho; exact absurd (List.mem_of_getElem? ho) h
  · rfl
theorem last_one_mid {t r : List UInt8} {b : UInt8} (h : b ∉ r) : Lib.lastIndex (t ++ b :: r) [b] = t.length := by
  unfold Lib.lastIndex
  rw [if_pos (by simp; omega)]
  rcases Lib.lastOcc_spec (t ++ b :: r) [b] ((t ++ b :: r).length - [b].length + 1) with ⟨_, hn⟩ | ⟨i, hi, e, ho, hn⟩
  · have := hn t.length (by simp; omega)
    rw [occ_one] at this; simp at this
  · rw [e]
    rw [occ_one, decide_eq_true_eq] at ho
    rcases Nat.lt_trichotomy i t.length with hlt | heq | hgt
    · have := hn t.length hlt (by simp; omega)
      rw [occ_one] at this; simp at this
    · rw [heq]
    · exfalso
      rw [List.getElem?_append_right (by omega)] at ho
      obtain ⟨d, hd⟩ : ∃ d, i - t.length = d + 1 := ⟨i - t.length - 1, by omega⟩
      rw [hd, List.getElem?_cons_succ] at ho
      exact h (List.mem_of_getElem? ho)
theorem last_one_ge (s : List UInt8) (b : UInt8) : Lib.lastIndex s [b] = -1 ∨ ∃ i : Nat, Lib.lastIndex s [b] = i ∧ i < s.length ∧ s[i]? = some b := by
  unfold Lib.lastIndex
  split
  · rcases Lib.lastOcc_spec s [b] (s.length - [b].length + 1) with ⟨e, _⟩ | ⟨i, hi, e, ho, _⟩
    · exact .inl e
    · rw [occ_one, decide_eq_true_eq] at ho
      exact .inr ⟨i, e, (List.getElem?_eq_some_iff.1 ho).1, ho⟩
  · exact .inl rfl

/-! ### Records -/
theorem dec_bytes : ∀ (n : Nat) (c : UInt8), c ∈ Lib.decDigits n → 48 ≤ c.toNat ∧ c.toNat ≤ 57 := by
  intro n
  induction n using Nat.strongRecOn with
  | ind n ih =>
    intro c hc
    rw [Lib.decDigits] at hc
    have one : ∀ k, k < 10 → c = UInt8.ofNat (48 + k) → 48 ≤ c.toNat ∧ c.toNat ≤ 57 := by
      intro k hk e
      have : c.toNat = 48 + k := by rw [e, UInt8.toNat_ofNat']; omega
      omega
    split at hc
    · rename_i h; exact one n h (by simpa using hc)
    · rename_i h
      rcases List.mem_append.1 hc with h1 | h1
      · exact ih (n / 10) (by omega) c h1
      · exact one (n % 10) (by omega) (by simpa using h1)
theorem itoa_nat (n : Nat) : Lib.itoa (n : Int) = Lib.decDigits n := by unfold Lib.itoa; rw [if_neg (by omega), Int.toNat_natCast]
theorem itoa_free {n : Nat} {b : UInt8} (h : b.toNat < 48 ∨ 57 < b.toNat) : b ∉ Lib.itoa (n : Int) := by
  rw [itoa_nat]; intro hb; have := dec_bytes n b hb; omega
theorem itoa_le21 {n : Nat} (h : n ≤ 9223372036854775807) : (Lib.itoa (n : Int)).length ≤ 21 := Lib.itoa_length_le _ (by omega) (by omega)

def plainB (c : UInt8) : Bool := decide (32 ≤ c.toNat) && decide (c.toNat ≤ 126) && c != 35
def plainL (l : List UInt8) : Bool := l.all plainB
theorem plain_free {l : List UInt8} (h : plainL l = true) : (35 : UInt8) ∉ l := fun hm => by
  have := List.all_eq_true.1 h _ hm; simp [plainB] at this
theorem plain_nl {l : List UInt8} (h : plainL l = true) : (10 : UInt8) ∉ l := fun hm => by
  have := List.all_eq_true.1 h _ hm; simp [plainB] at this
def recOk (c r : List UInt8) : Bool := decide (1 ≤ c.length) && decide (c.length ≤ 160) && plainL c && !c.contains 64 && plainL r && decide (r.length ≤ 200)
theorem recOk_iff {c r : List UInt8} : recOk c r = true ↔ 1 ≤ c.length ∧ c.length ≤ 160 ∧ plainL c = true ∧ (64 : UInt8) ∉ c ∧ plainL r = true ∧ r.length ≤ 200 := by
  unfold recOk; simp [Bool.and_eq_true, and_assoc]
def sumFrom : Nat → List UInt8 → Nat
  | h, [] => h
  | h, c :: l => sumFrom ((41 * h + c.toNat + 1) % 999979) l
theorem sumFrom_lt : ∀ (l : List UInt8) (h : Nat), h < 999979 → sumFrom h l < 999979
  | [], _, h => h
  | _ :: l, _, _ => sumFrom_lt l _ (Nat.mod_lt _ (by omega))
def sumL (l : List UInt8) : Nat := sumFrom 7 l
theorem sumL_lt (l : List UInt8) : sumL l < 999979 := sumFrom_lt l 7 (by omega)
def sealL (t : List UInt8) : List UInt8 := t ++ 35 :: Lib.itoa (sumL t)
theorem seal_len (t : List UInt8) : (sealL t).length ≤ t.length + 22 := by
  have := itoa_le21 (n := sumL t) (by have := sumL_lt t; omega)
  unfold sealL; simp; omega
theorem seal_bef {t : List UInt8} (h : (35 : UInt8) ∉ t) : bef 35 (sealL t) = t := bef_mid h
theorem seal_last (t : List UInt8) : Lib.lastIndex (sealL t) [35] = t.length := last_one_mid (itoa_free (by decide))
def txtL (k : Nat) (c r : List UInt8) : List UInt8 := Lib.itoa (k : Int) ++ [32] ++ c ++ [64] ++ r
def lineL (k : Nat) (c r : List UInt8) : List UInt8 := sealL (txtL k c r) ++ [10]
theorem txt_free {k : Nat} {c r : List UInt8} (h : recOk c r = true) : (35 : UInt8) ∉ txtL k c r := by
  obtain ⟨_, _, h1, _, h2, _⟩ := recOk_iff.1 h
  have a := itoa_free (n := k) (b := 35) (by decide)
  have b := plain_free h1
  have d := plain_free h2
  unfold txtL; simp [a, b, d]
theorem txt_len {k : Nat} {c r : List UInt8} (h : recOk c r = true) (hk : k ≤ 9223372036854775807) : (txtL k c r).length ≤ 383 := by
  obtain ⟨_, h1, _, _, _, h2⟩ := recOk_iff.1 h
  have := itoa_le21 hk
  unfold txtL; simp; omega
theorem line_len {k : Nat} {c r : List UInt8} (h : recOk c r = true) (hk : k ≤ 9223372036854775807) : (lineL k c r).length ≤ 406 := by
  have := txt_len h hk
  have := seal_len (txtL k c r)
  unfold lineL; simp; omega
theorem seal_nl {k : Nat} {c r : List UInt8} (h : recOk c r = true) : (10 : UInt8) ∉ sealL (txtL k c r) := by
  obtain ⟨_, _, h1, _, h2, _⟩ := recOk_iff.1 h
  have a := itoa_free (n := k) (b := 10) (by decide)
  have a' := itoa_free (n := sumL (txtL k c r)) (b := 10) (by decide)
  have b := plain_nl h1
  have d := plain_nl h2
  unfold sealL
  simp only [List.mem_append, List.mem_cons, not_or]
  refine ⟨?_, by decide, a'⟩
  unfold txtL; simp [a, b, d]

/-- s is the encoding of the record c, r with number k. -/
def Enc (k : Nat) (c r s : List UInt8) : Prop := recOk c r = true ∧ sealL (txtL k c r) = s
theorem Enc.inj {k : Nat} {c r c' r' s : List UInt8} (h : Enc k c r s) (h' : Enc k c' r' s) : c = c' ∧ r = r' := by
  obtain ⟨h1, h2⟩ := h
  obtain ⟨h1', h2'⟩ := h'
  have e : txtL k c r = txtL k c' r' := by rw [← seal_bef (txt_free h1), ← seal_bef (txt_free h1'), h2, h2']
  unfold txtL at e
  simp only [List.append_assoc] at e
  have e2 := List.append_cancel_left (List.append_cancel_left e)
  obtain ⟨_, _, _, n, _⟩ := recOk_iff.1 h1
  obtain ⟨_, _, _, n', _⟩ := recOk_iff.1 h1'
  have a := bef_mid (r := r) n
  have a' := bef_mid (r := r') n'
  have e3 : c ++ 64 :: r = c' ++ 64 :: r' := e2
  rw [e3, a'] at a
  subst a
  exact ⟨rfl, by simpa using List.append_cancel_left e3⟩
open Classical in
/-- What a line decodes to, as the record with number k. -/
noncomputable def decF (k : Nat) (s : List UInt8) : Option (List UInt8 × List UInt8) := if h : ∃ p : List UInt8 × List UInt8, Enc k p.1 p.2 s then some h.choose else none
theorem decF_some {k : Nat} {c r s : List UInt8} (h : Enc k c r s) : decF k s = some (c, r) := by
  have hex : ∃ p : List UInt8 × List UInt8, Enc k p.1 p.2 s := ⟨(c, r), h⟩
  unfold decF
  rw [dif_pos hex]
  obtain ⟨e1, e2⟩ := hex.choose_spec.inj h
  exact congrArg some (Prod.ext e1 e2)
theorem decF_none {k : Nat} {s : List UInt8} (h : ∀ c r, ¬ Enc k c r s) : decF k s = none := by
  unfold decF
  rw [dif_neg (fun ⟨p, hp⟩ => h _ _ hp)]
theorem decF_enc {k : Nat} {c r s : List UInt8} (h : decF k s = some (c, r)) : Enc k c r s := by
  by_cases hex : ∃ p : List UInt8 × List UInt8, Enc k p.1 p.2 s
  · unfold decF at h
    rw [dif_pos hex] at h
    have := hex.choose_spec
    rw [Option.some.inj h] at this
    exact this
  · unfold decF at h
    rw [dif_neg hex] at h; cases h

/-! ### The program's way of decoding: the checksum, a prefix, a cut -/
/-- A text with its checksum verified. -/
def Ver (t s : List UInt8) : Prop := (35 : UInt8) ∉ t ∧ sealL t = s ∧ t.length ≤ 4000 ∧ s.length ≤ 4000
theorem Ver.inj {t t' s : List UInt8} (h : Ver t s) (h' : Ver t' s) : t = t' := by
  rw [← seal_bef h.1, ← seal_bef h'.1, h.2.1, h'.2.1]
theorem Enc.ver {k : Nat} {c r s : List UInt8} (h : Enc k c r s) (hk : k ≤ 9223372036854775807) : Ver (txtL k c r) s := by
  refine ⟨txt_free h.1, h.2, by have := txt_len h.1 hk; omega, ?_⟩
  rw [← h.2]; have := txt_len h.1 hk; have := seal_len (txtL k c r); omega
theorem dec_no_ver {k : Nat} {s : List UInt8} (hk : k ≤ 9223372036854775807) (h : ∀ t, ¬ Ver t s) : decF k s = none := decF_none fun _ _ he => h _ (he.ver hk)
theorem dec_no_num {k : Nat} {s t : List UInt8} (hk : k ≤ 9223372036854775807) (hv : Ver t s) (h : ¬ (Lib.itoa (k : Int) ++ [32]) <+: t) : decF k s = none := decF_none fun c r he => h (by
  rw [hv.inj (he.ver hk)]
  exact ⟨c ++ [64] ++ r, by unfold txtL; simp⟩)
theorem dec_no_at {k : Nat} {s t u : List UInt8} (hk : k ≤ 9223372036854775807) (hv : Ver t s) (ht : t = Lib.itoa (k : Int) ++ [32] ++ u) (h : (64 : UInt8) ∉ u) : decF k s = none := decF_none fun c r he => h (by
  have e := hv.inj (he.ver hk)
  rw [ht] at e
  unfold txtL at e
  simp only [List.append_assoc] at e
  have := List.append_cancel_left (List.append_cancel_left e)
  rw [this]; simp)
theorem dec_iff_rec {k : Nat} {s t c r : List UInt8} (hk : k ≤ 9223372036854775807) (hv : Ver t s) (ht : t = Lib.itoa (k : Int) ++ [32] ++ (c ++ 64 :: r)) (hc : (64 : UInt8) ∉ c) :
    decF k s = if recOk c r = true then some (c, r) else none := by
  have e0 : txtL k c r = t := by rw [ht]; unfold txtL; simp
  split
  · rename_i h; exact decF_some ⟨h, by rw [e0]; exact hv.2.1⟩
  · rename_i h
    refine decF_none fun c' r' he => h ?_
    have e := hv.inj (he.ver hk)
    rw [← e0] at e
    unfold txtL at e
    simp only [List.append_assoc] at e
    have e2 := List.append_cancel_left (List.append_cancel_left e)
    have e3 : c ++ 64 :: r = c' ++ 64 :: r' := e2
    obtain ⟨_, _, _, n', _⟩ := recOk_iff.1 he.1
    have a := bef_mid (r := r) hc
    rw [e3, bef_mid n'] at a
    subst a
    have : r = r' := by simpa using List.append_cancel_left e3
    subst this
    exact he.1

/-! ### The reference's way: the text ahead of the sign -/
theorem dec_spec_num {k : Nat} {s : List UInt8} (h : ¬ (Lib.itoa (k : Int) ++ [32]) <+: bef 35 s) : decF k s = none := decF_none fun c r he => h (by
  rw [← he.2, seal_bef (txt_free he.1)]
  exact ⟨c ++ [64] ++ r, by unfold txtL; simp⟩)
theorem dec_spec_at {k : Nat} {s u : List UInt8} (ht : bef 35 s = Lib.itoa (k : Int) ++ [32] ++ u) (h : (64 : UInt8) ∉ u) : decF k s = none := decF_none fun c r he => h (by
  rw [← he.2, seal_bef (txt_free he.1)] at ht
  unfold txtL at ht
  simp only [List.append_assoc] at ht
  have := List.append_cancel_left (List.append_cancel_left ht)
  rw [← this]; simp)
theorem dec_spec_rec {k : Nat} {s c r : List UInt8} (ht : bef 35 s = Lib.itoa (k : Int) ++ [32] ++ (c ++ 64 :: r)) (hc : (64 : UInt8) ∉ c) :
    decF k s = if recOk c r = true ∧ lineL k c r = s ++ [10] then some (c, r) else none := by
  split
  · rename_i h; exact decF_some ⟨h.1, List.append_cancel_right h.2⟩
  · rename_i h
    refine decF_none fun c' r' he => h ?_
    have e := ht
    rw [← he.2, seal_bef (txt_free he.1)] at e
    unfold txtL at e
    simp only [List.append_assoc] at e
    have e2 := List.append_cancel_left (List.append_cancel_left e)
    have e3 : c' ++ 64 :: r' = c ++ 64 :: r := e2
    obtain ⟨_, _, _, n', _⟩ := recOk_iff.1 he.1
    have a := bef_mid (r := r) hc
    rw [← e3, bef_mid n'] at a
    subst a
    have : r' = r := by simpa using List.append_cancel_left e3
    subst this
    exact ⟨he.1, by unfold lineL; rw [he.2]⟩

/-! ### A log: the records at the start of its bytes -/
/-- At most n records, from number k on, each with the length of its line. -/
noncomputable def openF : Nat → Nat → List UInt8 → List ((List UInt8 × List UInt8) × Nat)
  | 0, _, _ => []
  | n + 1, k, s => if (10 : UInt8) ∈ s then
      match decF k (bef 10 s) with
      | none => []
      | some e => (e, (bef 10 s).length + 1) :: openF n (k + 1) (s.drop ((bef 10 s).length + 1))
    else []
def lens (l : List ((List UInt8 × List UInt8) × Nat)) : Nat := (l.map (·.2)).sum
theorem lens_cons (e : (List UInt8 × List UInt8) × Nat) (l : List ((List UInt8 × List UInt8) × Nat)) : lens (e :: l) = e.2 + lens l := by simp [lens]
theorem openF_no {n k : Nat} {s : List UInt8} (h : (10 : UInt8) ∉ s) : openF n k s = [] := by cases n <;> simp [openF, h]
theorem openF_bad {n k : Nat} {s : List UInt8} (h : decF k (bef 10 s) = none) : openF n k s = [] := by cases n <;> simp [openF, h]
theorem openF_yes {n k : Nat} {s : List UInt8} {e : List UInt8 × List UInt8} (h1 : (10 : UInt8) ∈ s) (h2 : decF k (bef 10 s) = some e) :
    openF (n + 1) k s = (e, (bef 10 s).length + 1) :: openF n (k + 1) (s.drop ((bef 10 s).length + 1)) := by simp [openF, h1, h2]
theorem openF_room : ∀ (n k : Nat) (s : List UInt8), lens (openF n k s) ≤ s.length
  | 0, _, _ => by simp [openF, lens]
  | n + 1, k, s => by
    by_cases h1 : (10 : UInt8) ∈ s
    · cases h2 : decF k (bef 10 s) with
      | none => rw [openF_bad h2]; simp [lens]
      | some e =>
        rw [openF_yes h1 h2, lens_cons]
        have := openF_room n (k + 1) (s.drop ((bef 10 s).length + 1))
        have h3 := congrArg List.length (parts_bef h1)
        simp at this h3
        simp only
        omega
    · rw [openF_no h1]; simp [lens]
theorem openF_length : ∀ (n k : Nat) (s : List UInt8), (openF n k s).length ≤ n
  | 0, _, _ => by simp [openF]
  | n + 1, k, s => by
    by_cases h1 : (10 : UInt8) ∈ s
    · cases h2 : decF k (bef 10 s) with
      | none => rw [openF_bad h2]; simp
      | some e => rw [openF_yes h1 h2, List.length_cons]; have := openF_length n (k + 1) (s.drop ((bef 10 s).length + 1)); omega
    · rw [openF_no h1]; simp
theorem openF_small : ∀ (n k : Nat) (s : List UInt8), n + k ≤ 1000 → lens (openF n k s) ≤ 406 * n
  | 0, _, _, _ => by simp [openF, lens]
  | n + 1, k, s, h => by
    by_cases h1 : (10 : UInt8) ∈ s
    · cases h2 : decF k (bef 10 s) with
      | none => rw [openF_bad h2]; simp [lens]
      | some e =>
        rw [openF_yes h1 h2, lens_cons]
        have := openF_small n (k + 1) (s.drop ((bef 10 s).length + 1)) (by omega)
        obtain ⟨c, r⟩ := e
        have he := decF_enc h2
        have hl := line_len (k := k) he.1 (by omega)
        unfold lineL at hl; rw [he.2] at hl; simp at hl
        simp only
        omega
    · rw [openF_no h1]; simp [lens]

/-- The places where records end, from a on, with a in front. -/
def endsF : Nat → List ((List UInt8 × List UInt8) × Nat) → List Nat
  | a, [] => [a]
  | a, e :: l => a :: endsF (a + e.2) l
theorem endsF_ne (a : Nat) (l : List ((List UInt8 × List UInt8) × Nat)) : endsF a l ≠ [] := by cases l <;> simp [endsF]
theorem endsF_length : ∀ (a : Nat) (l : List ((List UInt8 × List UInt8) × Nat)), (endsF a l).length = l.length + 1
  | _, [] => rfl
  | a, _ :: l => by simp [endsF, endsF_length (a + _) l]
theorem endsF_snoc : ∀ (a : Nat) (l : List ((List UInt8 × List UInt8) × Nat)) (e : (List UInt8 × List UInt8) × Nat), endsF a (l ++ [e]) = endsF a l ++ [a + lens l + e.2]
  | a, [], e => by simp [endsF, lens]
  | a, x :: l, e => by simp [endsF, endsF_snoc (a + x.2) l e, lens_cons, Nat.add_assoc]
theorem endsF_last : ∀ (a : Nat) (l : List ((List UInt8 × List UInt8) × Nat)), (endsF a l)[l.length]? = some (a + lens l)
  | _, [] => by simp [endsF, lens]
  | a, x :: l => by simp [endsF, endsF_last (a + x.2) l, lens_cons, Nat.add_assoc]
theorem endsF_ge : ∀ (a : Nat) (l : List ((List UInt8 × List UInt8) × Nat)) (x : Nat), x ∈ endsF a l → a ≤ x
  | a, [], x, h => by simp [endsF] at h; omega
  | a, e :: l, x, h => by
    simp only [endsF, List.mem_cons] at h
    rcases h with h | h
    · omega
    · have := endsF_ge (a + e.2) l x h; omega

/-- The durable bytes end where a record ends: it is as much as that they are read whole by themselves. -/
theorem kept_iff : ∀ (n k a : Nat) (D P : List UInt8), a + D.length ∈ endsF a (openF n k (D ++ P)) ↔ lens (openF n k D) = D.length
  | 0, k, a, D, P => by simp only [openF, endsF, lens, List.map_nil, List.sum_nil, List.mem_singleton]; omega
  | n + 1, k, a, D, P => by
    by_cases hD : D.length = 0
    · have : D = [] := List.eq_nil_of_length_eq_zero hD
      subst this
      rw [openF_no (s := []) (by simp)]
      constructor
      · intro _; rfl
      · intro _
        have : endsF a (openF (n + 1) k ([] ++ P)) ≠ [] := endsF_ne _ _
        cases h : openF (n + 1) k ([] ++ P) <;> simp [endsF]
    · by_cases h1 : (10 : UInt8) ∈ D
      · have e1 := parts_bef h1
        have h1' : (10 : UInt8) ∈ D ++ P := by simp [h1]
        have hb : bef 10 (D ++ P) = bef 10 D := by
          rw (occs := [1]) [e1]
          rw [List.append_assoc, List.cons_append]; exact bef_mid (bef_not 10 D)
        have hlen : (bef 10 D).length + 1 ≤ D.length := by have := congrArg List.length e1; simp at this; omega
        cases h2 : decF k (bef 10 D) with
        | none =>
          rw [openF_bad (by rw [hb]; exact h2), openF_bad h2]
          simp only [endsF, lens, List.map_nil, List.sum_nil, List.mem_singleton]; omega
        | some e =>
          rw [openF_yes h1' (by rw [hb]; exact h2), openF_yes h1 h2, hb]
          have e2 : (D ++ P).drop ((bef 10 D).length + 1) = D.drop ((bef 10 D).length + 1) ++ P := List.drop_append_of_le_length hlen
          rw [e2, lens_cons]
          simp only [endsF, List.mem_cons]
          have ih := kept_iff n (k + 1) (a + ((bef 10 D).length + 1)) (D.drop ((bef 10 D).length + 1)) P
          rw [List.length_drop] at ih
          have e3 : a + ((bef 10 D).length + 1) + (D.length - ((bef 10 D).length + 1)) = a + D.length := by omega
          rw [e3] at ih
          constructor
          · rintro (h | h)
            · omega
            · have := ih.1 h; omega
          · intro h
            exact .inr (ih.2 (by omega))
      · rw [openF_no h1]
        simp only [lens, List.map_nil, List.sum_nil]
        constructor
        · intro h
          exfalso
          by_cases h3 : (10 : UInt8) ∈ D ++ P
          · cases h2 : decF k (bef 10 (D ++ P)) with
            | none => rw [openF_bad h2] at h; simp only [endsF, List.mem_singleton] at h; omega
            | some e =>
              rw [openF_yes h3 h2] at h
              simp only [endsF, List.mem_cons] at h
              rcases h with h | h
              · omega
              · have := endsF_ge _ _ _ h
                have hge : D.length ≤ (bef 10 (D ++ P)).length := by
                  rcases Nat.lt_or_ge (bef 10 (D ++ P)).length D.length with hlt | hge
                  · exfalso
                    have e4 := parts_bef h3
                    have h5 : (D ++ P)[(bef 10 (D ++ P)).length]? = some 10 := by rw (occs := [1]) [e4]; simp
                    rw [List.getElem?_append_left hlt] at h5
                    exact h1 (List.mem_of_getElem? h5)
                  · exact hge
                omega
          · rw [openF_no h3] at h; simp only [endsF, List.mem_singleton] at h; omega
        · intro h; omega

/-- A log is valid. -/
noncomputable def logOk (D P : List UInt8) (n : Int) : Bool :=
  decide (lens (openF 60 0 (D ++ P)) = D.length + P.length) && decide (lens (openF 60 0 D) = D.length) && decide (((openF 60 0 (D ++ P)).length : Int) = n)
theorem logOk_small {D P : List UInt8} (h : lens (openF 60 0 (D ++ P)) = D.length + P.length) : D.length + P.length ≤ 30000 := by
  have := openF_small 60 0 (D ++ P) (by omega); omega
theorem logOk_iff {D P : List UInt8} {n : Int} : logOk D P n = true ↔ lens (openF 60 0 (D ++ P)) = D.length + P.length ∧ lens (openF 60 0 D) = D.length ∧ ((openF 60 0 (D ++ P)).length : Int) = n := by
  unfold logOk; simp [Bool.and_eq_true, and_assoc]
/-- The same in the program's words. -/
theorem logOk_impl {D P : List UInt8} {n : Int} : logOk D P n = true ↔ lens (openF 60 0 (D ++ P)) = D.length + P.length ∧ D.length ∈ endsF 0 (openF 60 0 (D ++ P)) ∧ n = ((openF 60 0 (D ++ P)).length : Int) := by
  have := kept_iff 60 0 0 D P
  rw [Nat.zero_add] at this
  rw [logOk_iff, this]
  constructor <;> (rintro ⟨h1, h2, h3⟩; exact ⟨h1, h2, h3.symm⟩)
end Go.Proofs.YtojceibamgodbaaDoor
