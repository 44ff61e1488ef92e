/- Po03: the texts LineP OLineI Grown OffPI OLineS, joined into one file. -/
import Derived.Lib.Replace
import Derived.Lib.Strings
import Derived.Deep.DeepCutAuto
import Derived.Test.YtpjfidmapnnbkaaDoorPo01
import Derived.Test.YtpjfidmapnnbkaaDoorPo02

set_option linter.unusedVariables false

/- A row is read back from its line, in the program's way and in the reference's (plain). -/
namespace Go.Proofs.YtpjfidmapnnbkaaDoor

theorem itoa_free' {n : Int} {b : UInt8} (h : b.toNat < 45 ∨ 57 < b.toNat) : b ∉ Lib.itoa n := by
  unfold Lib.itoa
  split
  · intro hm
    rcases List.mem_cons.1 hm with e | e
    · subst e
      have h45 : (45 : UInt8).toNat = 45 := rfl
      omega
    · have := dec_digit _ _ e; omega
  · intro hm
    have := dec_digit _ _ hm; omega
theorem itoa_dot {n : Int} : (46 : UInt8) ∉ Lib.itoa n := by
  have h46 : (46 : UInt8).toNat = 46 := rfl
  unfold Lib.itoa
  split
  · intro hm
    rcases List.mem_cons.1 hm with e | e
    · exact absurd e (by decide)
    · have := dec_digit _ _ e; omega
  · intro hm
    have := dec_digit _ _ hm; omega
theorem itoa_pos {c : Int} : 1 ≤ (Lib.itoa c).length := by
  unfold Lib.itoa
  split
  · simp
  · rw [Lib.decDigits_length]; exact Lib.nDigits_pos _
theorem nDigits_pow (k : Nat) : ∀ n : Nat, n < 10 ^ (k + 1) → Lib.nDigits n ≤ k + 1 := by
  induction k with
  | zero => intro n hn; rw [Lib.nDigits_small (by simpa using hn)]; omega
  | succ k ih =>
    intro n hn
    by_cases hs : n < 10
    · rw [Lib.nDigits_small hs]; omega
    · rw [Lib.nDigits_big hs]
      have := ih (n / 10) (Nat.div_lt_of_lt_mul (by rw [Nat.mul_comm, ← Nat.pow_succ]; exact hn))
      omega
theorem itoa_pow {n : Int} (k : Nat) (h0 : 0 ≤ n) (h : n < ((10 ^ (k + 1) : Nat) : Int)) : (Lib.itoa n).length ≤ k + 1 := by
  unfold Lib.itoa
  rw [if_neg (by omega), Lib.decDigits_length]
  exact nDigits_pow k _ (by omega)
/-- The number of a text, or 0. -/
noncomputable def numD (t : List UInt8) : Int := (numF t).getD 0
theorem numD_itoa {n : Int} (h : Six n) : numD (Lib.itoa n) = n := by unfold numD; rw [numF_some h]; rfl
theorem numD_six (t : List UInt8) : Six (numD t) := by
  unfold numD
  cases h : numF t with
  | none => exact ⟨by simp, by simp⟩
  | some n => exact (numF_is h).1
/-- The text of a number of cents. -/
def centT (c : Int) : List UInt8 := (if c < 0 then [45] else []) ++ hundT c.natAbs
theorem lineT_eq (r : Row) : lineT r = ([109] ++ Lib.itoa r.m ++ [58]) ++ 32 :: (([43] ++ Lib.itoa r.b) ++ 32 :: (([45] ++ Lib.itoa r.s) ++ 32 :: ([112, 114, 111, 102, 105, 116] ++ 32 :: (centT r.c ++ (if 0 < r.l then 32 :: (Lib.itoa r.l ++ 32 :: [108, 101, 110, 116]) else []))))) := by
  unfold lineT centT
  by_cases h : 0 < r.l
  · rw [if_pos h, if_pos h]; simp
  · rw [if_neg h, if_neg h]; simp
theorem hund_free {n : Nat} {b : UInt8} (h : b.toNat < 45) : b ∉ hundT n := by
  unfold hundT
  simp only [List.mem_append, List.mem_singleton, not_or]
  refine ⟨itoa_free' (.inl h), ?_, itoa_free' (.inl h), itoa_free' (.inl h)⟩
  intro e; subst e; have : (46 : UInt8).toNat = 46 := rfl; omega
theorem cent_free {c : Int} {b : UInt8} (h : b.toNat < 45) : b ∉ centT c := by
  unfold centT
  rw [List.mem_append, not_or]
  refine ⟨?_, hund_free h⟩
  split
  · intro e; rw [List.mem_singleton] at e; subst e; have : (45 : UInt8).toNat = 45 := rfl; omega
  · simp
/-- The words of a line. -/
theorem line_words (r : Row) : splitL 32 (lineT r) = [[109] ++ Lib.itoa r.m ++ [58], [43] ++ Lib.itoa r.b, [45] ++ Lib.itoa r.s, [112, 114, 111, 102, 105, 116], centT r.c] ++ (if 0 < r.l then [Lib.itoa r.l, [108, 101, 110, 116]] else []) := by
  have f : ∀ n : Int, (32 : UInt8) ∉ Lib.itoa n := fun n => itoa_free' (by decide)
  rw [lineT_eq]
  rw [split_mid (by simp [f])]
  rw [split_mid (by simp [f])]
  rw [split_mid (by simp [f])]
  rw [split_mid (by decide)]
  by_cases h : 0 < r.l
  · rw [if_pos h, if_pos h, split_mid (cent_free (by decide)), split_mid (f _), split_free (by decide)]; rfl
  · rw [if_neg h, if_neg h, List.append_nil, split_free (cent_free (by decide))]; rfl

/-! ### The cents -/
/-- The reference's way. -/
noncomputable def centS (t : List UInt8) : Int :=
  let minus := decide (t.head? = some 45)
  let u := if minus = true then t.drop 1 else t
  let ps := splitL 46 u
  if ps.length = 2 ∧ (ps.getD 1 []).length = 2 then
    (if minus = true then -100 * numD (ps.getD 0 []) - 10 * numD ((ps.getD 1 []).take 1) - numD ((ps.getD 1 []).drop 1)
     else 100 * numD (ps.getD 0 []) + 10 * numD ((ps.getD 1 []).take 1) + numD ((ps.getD 1 []).drop 1))
  else 0
theorem itoa_dig {n : Int} (h0 : 0 ≤ n) (h9 : n ≤ 9) : ∃ d, Lib.itoa n = [d] := by
  have h1 := itoa_pow (n := n) 0 h0 (by simp; omega)
  have h2 := @itoa_pos n
  match h : Lib.itoa n with
  | [] => rw [h] at h2; simp at h2
  | [d] => exact ⟨d, rfl⟩
  | a :: b :: l => rw [h] at h1; simp at h1
theorem hund_split (n : Nat) : ∃ d e, Lib.itoa ((n : Int) / 10 % 10) = [d] ∧ Lib.itoa ((n : Int) % 10) = [e] ∧ hundT n = Lib.itoa ((n : Int) / 100) ++ 46 :: [d, e] := by
  obtain ⟨d, hd⟩ := itoa_dig (n := (n : Int) / 10 % 10) (by omega) (by omega)
  obtain ⟨e, he⟩ := itoa_dig (n := (n : Int) % 10) (by omega) (by omega)
  exact ⟨d, e, hd, he, by unfold hundT; rw [hd, he]; rfl⟩
theorem itoa_head {n : Int} (h : 0 ≤ n) : (Lib.itoa n).head? ≠ some 45 := by
  unfold Lib.itoa
  rw [if_neg (by omega)]
  intro hh
  have hm : (45 : UInt8) ∈ Lib.decDigits n.toNat := List.mem_of_mem_head? hh
  have := dec_digit _ _ hm
  have h6 : (45 : UInt8).toNat = 45 := rfl
  omega
theorem hund_read {n : Nat} (hn : n ≤ 1000000) : (splitL 46 (hundT n)).length = 2 ∧ ((splitL 46 (hundT n)).getD 1 []).length = 2 ∧ numD ((splitL 46 (hundT n)).getD 0 []) = (n : Int) / 100 ∧ numD (((splitL 46 (hundT n)).getD 1 []).take 1) = (n : Int) / 10 % 10 ∧ numD (((splitL 46 (hundT n)).getD 1 []).drop 1) = (n : Int) % 10 := by
  obtain ⟨d, e, hd, he, hh⟩ := hund_split n
  have hd46 : (46 : UInt8) ≠ d := fun h => itoa_dot (n := (n : Int) / 10 % 10) (by rw [hd, h]; simp)
  have he46 : (46 : UInt8) ≠ e := fun h => itoa_dot (n := (n : Int) % 10) (by rw [he, h]; simp)
  have hs : splitL 46 (hundT n) = [Lib.itoa ((n : Int) / 100), [d, e]] := by
    rw [hh, split_mid itoa_dot, split_free (by simp [hd46, he46])]
  rw [hs]
  refine ⟨rfl, rfl, ?_, ?_, ?_⟩
  · show numD (Lib.itoa ((n : Int) / 100)) = _
    exact numD_itoa ⟨by omega, by omega⟩
  · show numD [d] = _
    rw [← hd]; exact numD_itoa ⟨by omega, by omega⟩
  · show numD [e] = _
    rw [← he]; exact numD_itoa ⟨by omega, by omega⟩
theorem hund_head (n : Nat) : (hundT n).head? ≠ some 45 := by
  obtain ⟨d, e, hd, he, hh⟩ := hund_split n
  rw [hh]
  have h1 := itoa_head (n := (n : Int) / 100) (by omega)
  have h2 := @itoa_pos ((n : Int) / 100)
  cases hi : Lib.itoa ((n : Int) / 100) with
  | nil => rw [hi] at h2; simp at h2
  | cons a l => rw [hi] at h1; exact h1
theorem centS_cent {c : Int} (h : -1000000 ≤ c ∧ c ≤ 1000000) : centS (centT c) = c := by
  obtain ⟨h1, h2, h3, h4, h5⟩ := hund_read (n := c.natAbs) (by omega)
  unfold centS
  by_cases hc : c < 0
  · have e1 : centT c = 45 :: hundT c.natAbs := by unfold centT; rw [if_pos hc]; rfl
    simp only [e1, List.head?_cons, decide_true, if_true, List.drop_succ_cons, List.drop_zero]
    rw [if_pos ⟨h1, h2⟩, h3, h4, h5]
    omega
  · have e1 : centT c = hundT c.natAbs := by unfold centT; rw [if_neg hc]; rfl
    have e2 : decide ((hundT c.natAbs).head? = some 45) = false := decide_eq_false (hund_head _)
    simp only [e1, e2, Bool.false_eq_true, if_false]
    rw [if_pos ⟨h1, h2⟩, h3, h4, h5]
    omega
/-- The program's way: the text without its point. -/
def centR (t : List UInt8) : List UInt8 := Lib.replace t [46] [] 1
theorem replace_one {t r : List UInt8} (h : (46 : UInt8) ∉ t) : Lib.replace (t ++ 46 :: r) [46] [] 1 = t ++ r := by
  have hi := index_one_mid (r := r) h
  have hc : 1 ≤ Lib.count (t ++ 46 :: r) [46] := by
    unfold Lib.count Lib.countFrom
    rw [hi, if_neg (fun e => by have := beq_iff_eq.1 e; omega)]
    omega
  have hn : Lib.replaceNum (t ++ 46 :: r) [46] 1 = 1 := by
    unfold Lib.replaceNum
    rw [if_neg]
    · rfl
    · rintro (h1 | h1)
      · omega
      · omega
  unfold Lib.replace
  rw [if_neg (by decide), hn, Lib.replaceK_hit [46] [] 0 _ t.length hi, Lib.replaceK]
  simp
theorem digs_dec {d : UInt8} {n : Int} (h0 : 0 ≤ n) (h9 : n ≤ 9) (h : Lib.itoa n = [d]) : Lib.digitVal d = some n.toNat := by
  have h1 : Lib.itoa n = Lib.decDigits n.toNat := by unfold Lib.itoa; rw [if_neg (by omega)]
  rw [h1, dec_small (by omega)] at h
  injection h with h _
  rw [← h]; exact digitVal_digit (by omega)
theorem hund_flat {n : Nat} : ∃ l, l ≠ [] ∧ l.head? ≠ some 45 ∧ l.head? ≠ some 43 ∧ centR (hundT n) = l ∧ (∀ p, (46 : UInt8) ∉ p → centR (p ++ hundT n) = p ++ l) ∧ Lib.decFrom 0 l = some n ∧ l.length = (Lib.itoa ((n : Int) / 100)).length + 2 := by
  obtain ⟨d, e, hd, he, hh⟩ := hund_split n
  have hr : ∀ p : List UInt8, (46 : UInt8) ∉ p → centR (p ++ hundT n) = p ++ (Lib.itoa ((n : Int) / 100) ++ [d, e]) := fun p hp => by
    unfold centR
    rw [hh, ← List.append_assoc, replace_one (by rw [List.mem_append]; rintro (h | h); exact hp h; exact itoa_dot h), List.append_assoc]
  have h1 : Lib.itoa ((n : Int) / 100) = Lib.decDigits (n / 100) := by
    unfold Lib.itoa; rw [if_neg (by omega)]; congr 1
  have hd1 := digs_dec (by omega) (by omega) hd
  have he1 := digs_dec (by omega) (by omega) he
  have hpos := @itoa_pos ((n : Int) / 100)
  refine ⟨Lib.itoa ((n : Int) / 100) ++ [d, e], by simp, ?_, ?_, by simpa using hr [] (by simp), hr, ?_, by simp⟩
  · have h2 := itoa_head (n := (n : Int) / 100) (by omega)
    cases hi : Lib.itoa ((n : Int) / 100) with
    | nil => rw [hi] at hpos; simp at hpos
    | cons a l => rw [hi] at h2; exact h2
  · cases hi : Lib.itoa ((n : Int) / 100) with
    | nil => rw [hi] at hpos; simp at hpos
    | cons a l =>
      intro e43
      simp only [List.cons_append, List.head?_cons, Option.some.injEq] at e43
      have hm : a ∈ Lib.itoa ((n : Int) / 100) := by rw [hi]; simp
      rw [e43] at hm
      exact itoa_free' (by decide) hm
  · rw [h1, decFrom_app _ _ _ _ (decFrom_dec (n / 100))]
    simp only [Lib.decFrom, hd1, he1]
    congr 1
    omega
theorem centI_cent {c : Int} (h : -1000000 ≤ c ∧ c ≤ 1000000) : Lib.atoiAll (centR (centT c)) = .ok c := by
  obtain ⟨l, h1, h2, h3, h4, h5, h6, h7⟩ := hund_flat (n := c.natAbs)
  have hlen : l.length ≤ 10 := by
    have := itoa_pow (n := ((c.natAbs : Nat) : Int) / 100) 5 (by omega) (by simp; omega)
    omega
  have hne : Lib.decNat l = some c.natAbs := by
    unfold Lib.decNat
    rw [if_neg (by simp [h1])]; exact h6
  by_cases hc : c < 0
  · have e1 : centT c = [45] ++ hundT c.natAbs := by unfold centT; rw [if_pos hc]
    rw [e1, h5 [45] (by decide), Lib.atoiAll_short _ (by simp; omega)]
    simp only [List.cons_append, List.nil_append, Lib.atoi, beq_self_eq_true, if_true, hne, Option.map_some, Lib.NumEnd.ofOption]
    congr 1; omega
  · have e1 : centT c = hundT c.natAbs := by unfold centT; rw [if_neg hc]; rfl
    rw [e1, h4, Lib.atoiAll_short _ (by omega)]
    cases hl : l with
    | nil => exact absurd hl h1
    | cons a r =>
      rw [hl] at h2 h3 hne
      have ha : (a == 45) = false := by rw [beq_eq_false_iff_ne]; intro e; subst e; exact h2 rfl
      have hb : (a == 43) = false := by rw [beq_eq_false_iff_ne]; intro e; subst e; exact h3 rfl
      simp only [Lib.atoi, ha, hb, Bool.false_eq_true, if_false, hne, Option.map_some, Lib.NumEnd.ofOption]
      congr 1; omega

/-! ### The rows that are read -/
/-- What the program tries, word by word. -/
def monW (t : List UInt8) : List UInt8 := Lib.trimPrefix (Lib.trimSuffix t [58]) [109]
noncomputable def rowI (ws : List (List UInt8)) (cents : Int) : Row :=
  ⟨numD (monW (ws.getD 0 [])), numD (Lib.trimPrefix (ws.getD 1 []) [43]), numD (Lib.trimPrefix (ws.getD 2 []) [45]), cents, if ws.length = 7 then numD (ws.getD 5 []) else 0⟩
noncomputable def rowS (ws : List (List UInt8)) : Row :=
  ⟨numD (((ws.getD 0 []).take ((ws.getD 0 []).length - 1)).drop 1), numD ((ws.getD 1 []).drop 1), numD ((ws.getD 2 []).drop 1), centS (ws.getD 4 []), if ws.length = 7 then numD (ws.getD 5 []) else 0⟩
theorem trim_pre (b : UInt8) (l : List UInt8) : Lib.trimPrefix (b :: l) [b] = l := by
  unfold Lib.trimPrefix Lib.hasPrefix
  rw [if_pos (by simp [List.isPrefixOf])]; rfl
theorem trim_suf (b : UInt8) (l : List UInt8) : Lib.trimSuffix (l ++ [b]) [b] = l := by
  unfold Lib.trimSuffix Lib.hasSuffix
  have hsuf : List.isSuffixOf [b] (l ++ [b]) = true := by rw [List.isSuffixOf_iff_suffix]; exact List.suffix_append _ _
  rw [if_pos hsuf]
  rw [show (l ++ [b]).length - ([b] : List UInt8).length = l.length by simp, List.take_left' rfl]
theorem line_read {r : Row} (h : r.ok = true) : let ws := splitL 32 (lineT r)
    (ws.length = 5 ∨ ws.length = 7) ∧ (numF (monW (ws.getD 0 []))).isSome = true ∧ (numF (Lib.trimPrefix (ws.getD 1 []) [43])).isSome = true ∧ (numF (Lib.trimPrefix (ws.getD 2 []) [45])).isSome = true ∧ Lib.atoiAll (centR (ws.getD 4 [])) = .ok r.c ∧ rowI ws r.c = r ∧ rowS ws = r ∧ 3 ≤ (ws.getD 0 []).length ∧ 2 ≤ (ws.getD 1 []).length ∧ 2 ≤ (ws.getD 2 []).length := by
  obtain ⟨m1, m2, b1, b2, s1, s2, c1, c2, l1, l2⟩ := Row.ok_bounds h
  have hw := line_words r
  intro ws
  have e0 : ws.getD 0 [] = 109 :: (Lib.itoa r.m ++ [58]) := by show (splitL 32 (lineT r)).getD 0 [] = _; rw [hw]; rfl
  have e1 : ws.getD 1 [] = 43 :: Lib.itoa r.b := by show (splitL 32 (lineT r)).getD 1 [] = _; rw [hw]; rfl
  have e2 : ws.getD 2 [] = 45 :: Lib.itoa r.s := by show (splitL 32 (lineT r)).getD 2 [] = _; rw [hw]; rfl
  have e4 : ws.getD 4 [] = centT r.c := by show (splitL 32 (lineT r)).getD 4 [] = _; rw [hw]; rfl
  have e5 : (if ws.length = 7 then numD (ws.getD 5 []) else 0) = r.l ∧ (ws.length = 5 ∨ ws.length = 7) := by
    show (if (splitL 32 (lineT r)).length = 7 then numD ((splitL 32 (lineT r)).getD 5 []) else 0) = r.l ∧ ((splitL 32 (lineT r)).length = 5 ∨ (splitL 32 (lineT r)).length = 7)
    rw [hw]
    by_cases hl : 0 < r.l
    · rw [if_pos hl]
      exact ⟨(if_pos rfl).trans (numD_itoa ⟨by omega, by omega⟩), .inr rfl⟩
    · rw [if_neg hl]
      exact ⟨(if_neg (by simp)).trans (by omega), .inl rfl⟩
  have hm : monW (ws.getD 0 []) = Lib.itoa r.m := by
    unfold monW
    rw [e0, ← List.cons_append, trim_suf, trim_pre]
  have hb : Lib.trimPrefix (ws.getD 1 []) [43] = Lib.itoa r.b := by rw [e1, trim_pre]
  have hs : Lib.trimPrefix (ws.getD 2 []) [45] = Lib.itoa r.s := by rw [e2, trim_pre]
  have six : ∀ n : Int, 0 ≤ n → n ≤ 9999 → Six n := fun n h1 h2 => ⟨by omega, by omega⟩
  have nm := numD_itoa (six r.m (by omega) (by omega))
  have nb := numD_itoa (six r.b (by omega) (by omega))
  have ns := numD_itoa (six r.s (by omega) (by omega))
  have h0t : ((ws.getD 0 []).take ((ws.getD 0 []).length - 1)).drop 1 = Lib.itoa r.m := by
    rw [e0, ← List.cons_append, show ((109 :: Lib.itoa r.m) ++ [(58 : UInt8)]).length - 1 = (109 :: Lib.itoa r.m).length by simp, List.take_left' rfl]; rfl
  refine ⟨e5.2, ?_, ?_, ?_, ?_, ?_, ?_, ?_, ?_, ?_⟩
  · rw [hm, numF_some (six _ (by omega) (by omega))]; rfl
  · rw [hb, numF_some (six _ (by omega) (by omega))]; rfl
  · rw [hs, numF_some (six _ (by omega) (by omega))]; rfl
  · rw [e4]; exact centI_cent ⟨c1, c2⟩
  · unfold rowI; rw [hm, hb, hs, nm, nb, ns, e5.1]
  · unfold rowS; rw [h0t, e1, e2, e4, centS_cent ⟨c1, c2⟩, e5.1]
    simp only [List.drop_succ_cons, List.drop_zero]
    rw [nm, nb, ns]
  · rw [e0]; have := @itoa_pos r.m; simp; omega
  · rw [e1]; have := @itoa_pos r.b; simp; omega
  · rw [e2]; have := @itoa_pos r.s; simp; omega
theorem line_short {r : Row} (h : r.ok = true) : (lineT r).length ≤ 70 := by
  obtain ⟨m1, m2, b1, b2, s1, s2, c1, c2, l1, l2⟩ := Row.ok_bounds h
  have hm := itoa_pow (n := r.m) 3 (by omega) (by simp; omega)
  have hb := itoa_pow (n := r.b) 3 (by omega) (by simp; omega)
  have hs := itoa_pow (n := r.s) 3 (by omega) (by simp; omega)
  have hl := itoa_pow (n := r.l) 2 (by omega) (by simp; omega)
  obtain ⟨d, e, _, _, hh⟩ := hund_split r.c.natAbs
  have hc := itoa_pow (n := ((r.c.natAbs : Nat) : Int) / 100) 4 (by omega) (by simp; omega)
  unfold lineT
  rw [hh]
  simp only [List.length_append, List.length_cons, List.length_nil]
  split <;> split <;> simp <;> omega
open Classical in
/-- The row of which this is the line. -/
noncomputable def lineF (s : List UInt8) : Option Row := if h : ∃ r : Row, r.ok = true ∧ lineT r = s then some h.choose else none
theorem lineF_eq {r : Row} {s : List UInt8} (h : r.ok = true) (e : lineT r = s) : lineF s = some r := by
  have hex : ∃ r : Row, r.ok = true ∧ lineT r = s := ⟨r, h, e⟩
  unfold lineF
  rw [dif_pos hex]
  obtain ⟨h1, h2⟩ := hex.choose_spec
  have a := (line_read h1).2.2.2.2.2.2.1
  have b := (line_read h).2.2.2.2.2.2.1
  rw [h2] at a; rw [e] at b
  exact congrArg some (a.symm.trans b)
theorem lineF_is {r : Row} {s : List UInt8} (h : lineF s = some r) : r.ok = true ∧ lineT r = s := by
  by_cases hex : ∃ r : Row, r.ok = true ∧ lineT r = s
  · unfold lineF at h
    rw [dif_pos hex] at h
    have := hex.choose_spec
    rw [Option.some.inj h] at this
    exact this
  · unfold lineF at h
    rw [dif_neg hex] at h; cases h
theorem lineF_none {s : List UInt8} (h : ∀ r : Row, r.ok = true → lineT r ≠ s) : lineF s = none := by
  cases hq : lineF s with
  | none => rfl
  | some r => obtain ⟨h1, h2⟩ := lineF_is hq; exact absurd h2 (h r h1)
end Go.Proofs.YtpjfidmapnnbkaaDoor

/- OfficeLine, one side. -/
namespace Go.Proofs.YtpjfidmapnnbkaaDoor
open Go.RowKit
set_option linter.unusedSimpArgs false
set_option linter.unusedVariables false

set_option maxRecDepth 100000 in
set_option maxHeartbeats 4000000 in
theorem officeLine_any (r : Row) (w : World) (hok : r.ok = true) (ht : Tab w) :
    Calls Tryd.prog 19 #[r.val] w fun e w' => e = .returned (.string (lineO r)) ∧ Below w.heap.size w w' := by
  have hb := Row.ok_bounds hok
  clear hok
  obtain ⟨m, b, s, c, l⟩ := r
  simp only at hb
  obtain ⟨hm0, hm1, hb0, hb1', hs0, hs1, hc0, hc1, hl0, hl1⟩ := hb
  have b1 := (Below.refl w.heap.size w).alloc (Nat.le_refl _) (.cells #[.int .i64 m, .int .i64 b, .int .i64 s, .int .i64 c, .int .i64 l] 23)
  have L1 := Lies.new w 23 #[.int .i64 m, .int .i64 b, .int .i64 s, .int .i64 c, .int .i64 l]
  obtain ⟨t1, e1⟩ : ∃ t : ByteArray, t = ⟨(Lib.itoa m).toArray⟩ := ⟨_, rfl⟩
  have y1 : t1.size ≤ 100 := by rw [e1]; exact itoa_len (by omega) (by omega)
  have N1 : Hid (∀ W, Tab W → Calls Tryd.prog 24 #[.int .i64 (m)] W fun e w' => e = .returned (.string t1) ∧ Below W.heap.size W w') := by rw [e1]; exact fun W hW => itoa_any _ W (by omega) (by omega) hW
  have HE1 : Hid (bl t1 = Lib.itoa m) := by rw [Hid, e1, bl_mk]
  obtain ⟨t2, e2⟩ : ∃ t : ByteArray, t = ⟨(Lib.itoa b).toArray⟩ := ⟨_, rfl⟩
  have y2 : t2.size ≤ 100 := by rw [e2]; exact itoa_len (by omega) (by omega)
  have N2 : Hid (∀ W, Tab W → Calls Tryd.prog 24 #[.int .i64 (b)] W fun e w' => e = .returned (.string t2) ∧ Below W.heap.size W w') := by rw [e2]; exact fun W hW => itoa_any _ W (by omega) (by omega) hW
  have HE2 : Hid (bl t2 = Lib.itoa b) := by rw [Hid, e2, bl_mk]
  obtain ⟨t3, e3⟩ : ∃ t : ByteArray, t = ⟨(Lib.itoa s).toArray⟩ := ⟨_, rfl⟩
  have y3 : t3.size ≤ 100 := by rw [e3]; exact itoa_len (by omega) (by omega)
  have N3 : Hid (∀ W, Tab W → Calls Tryd.prog 24 #[.int .i64 (s)] W fun e w' => e = .returned (.string t3) ∧ Below W.heap.size W w') := by rw [e3]; exact fun W hW => itoa_any _ W (by omega) (by omega) hW
  have HE3 : Hid (bl t3 = Lib.itoa s) := by rw [Hid, e3, bl_mk]
  obtain ⟨t4, e4⟩ : ∃ t : ByteArray, t = ⟨(Lib.itoa l).toArray⟩ := ⟨_, rfl⟩
  have y4 : t4.size ≤ 100 := by rw [e4]; exact itoa_len (by omega) (by omega)
  have N4 : Hid (∀ W, Tab W → Calls Tryd.prog 24 #[.int .i64 (l)] W fun e w' => e = .returned (.string t4) ∧ Below W.heap.size W w') := by rw [e4]; exact fun W hW => itoa_any _ W (by omega) (by omega) hW
  have HE4 : Hid (bl t4 = Lib.itoa l) := by rw [Hid, e4, bl_mk]
  clear e1 e2 e3 e4
  obtain ⟨a, ha⟩ : ∃ a : Nat, a = c.natAbs := ⟨_, rfl⟩
  have haz : a ≤ 1000000 := by omega
  obtain ⟨t5, e5⟩ : ∃ t : ByteArray, t = ⟨(hundT a).toArray⟩ := ⟨_, rfl⟩
  have y5 : t5.size ≤ 301 := by rw [e5]; exact hund_len haz
  have N5 : Hid (∀ W, Tab W → Calls Tryd.prog 35 #[.int .i64 (a : Int)] W fun e w' => e = .returned (.string t5) ∧ Below W.heap.size W w') := by rw [e5]; exact fun W hW => hundredths_any a W haz hW
  have HE5 : Hid (bl t5 = hundT a) := by rw [Hid, e5, bl_mk]
  clear e5
  have z1 : (⟨#[109]⟩ : ByteArray).size = 1 := rfl
  have z2 : (⟨#[58, 32, 43]⟩ : ByteArray).size = 3 := rfl
  have z3 : (⟨#[32, 45]⟩ : ByteArray).size = 2 := rfl
  have z4 : (⟨#[32, 112, 114, 111, 102, 105, 116, 32]⟩ : ByteArray).size = 8 := rfl
  have z5 : (⟨#[45]⟩ : ByteArray).size = 1 := rfl
  have z6 : (⟨#[46]⟩ : ByteArray).size = 1 := rfl
  have z7 : (⟨#[32]⟩ : ByteArray).size = 1 := rfl
  have z8 : (⟨#[32, 108, 101, 110, 116]⟩ : ByteArray).size = 5 := rfl
  go_enter Tryd.func19, Tryd.ntmps19
  go_wp2_with fail
  generalize w.alloc (.cells #[.int .i64 m, .int .i64 b, .int .i64 s, .int .i64 c, .int .i64 l] 23) = W at b1 L1 ⊢
  generalize hg : w.heap.size = g at L1 ⊢
  refine wp_region_facts (fun W9 => Lies W9 g 23 [.int .i64 m, .int .i64 b, .int .i64 s, .int .i64 c, .int .i64 l] ∧ Below w.heap.size w W9) (fun _ _ => True) (by kernel_rfl) (by kernel_rfl) (by kernel_rfl) ⟨L1.below (Below.refl _ _).drew L1.lt, b1.drew⟩ ?_
  simp only [fillOps, Act.put, List.setIfInBounds_toArray, List.set_cons_zero, List.set_cons_succ, Nat.zero_add, Nat.reduceAdd]
  refine wpFacts_val (.pointer (some ⟨g, 0, none⟩)) (fun vs w9 hC9 hB K9 hK9 => ?_) ?_
  · go_simp
    exact hK9 _ _ rfl hC9 trivial
  refine wpFacts_val (.int .i64 m) (fun vs w9 hC9 hB K9 hK9 => ?_) ?_
  · have hd0 := hB 0 _ (by kernel_rfl) rfl
    simp only [hd0] at hK9 ⊢
    have q0 : w9.cell? ⟨g, 0, none⟩ = some (.int .i64 m) := hC9.1.cell 0
    go_simp
    exact hK9 _ _ rfl hC9 trivial
  refine wpFacts_val (.string t1) (fun vs w9 hC9 hB K9 hK9 => ?_) ?_
  · have hd1 := hB 1 _ (by kernel_rfl) rfl
    simp only [hd1] at hK9 ⊢
    go_simp
    refine (N1.out _ (ht.then hC9.2)).mono ?_
    rintro en w8 ⟨rfl, hb8⟩
    exact hK9 _ _ rfl ⟨hC9.1.below hb8 hC9.1.lt, hC9.2.trans (hb8.mono hC9.2.size)⟩ trivial
  refine wpFacts_val (.string (⟨#[109]⟩ ++ t1)) (fun vs w9 hC9 hB K9 hK9 => ?_) ?_
  · have hd2 := hB 2 _ (by kernel_rfl) rfl
    simp only [hd2] at hK9 ⊢
    go_simp
    (first | (rw [if_neg (by omega)]; go_simp) | skip)
    exact hK9 _ _ rfl hC9 trivial
  refine wpFacts_val (.string (⟨#[109]⟩ ++ t1 ++ ⟨#[58, 32, 43]⟩)) (fun vs w9 hC9 hB K9 hK9 => ?_) ?_
  · have hd3 := hB 3 _ (by kernel_rfl) rfl
    simp only [hd3] at hK9 ⊢
    go_simp
    (first | (rw [if_neg (by omega)]; go_simp) | skip)
    exact hK9 _ _ rfl hC9 trivial
  refine wpFacts_val (.pointer (some ⟨g, 1, none⟩)) (fun vs w9 hC9 hB K9 hK9 => ?_) ?_
  · go_simp
    exact hK9 _ _ rfl hC9 trivial
  refine wpFacts_val (.int .i64 b) (fun vs w9 hC9 hB K9 hK9 => ?_) ?_
  · have hd5 := hB 5 _ (by kernel_rfl) rfl
    simp only [hd5] at hK9 ⊢
    have q0 : w9.cell? ⟨g, 1, none⟩ = some (.int .i64 b) := hC9.1.cell 1
    go_simp
    exact hK9 _ _ rfl hC9 trivial
  refine wpFacts_val (.string t2) (fun vs w9 hC9 hB K9 hK9 => ?_) ?_
  · have hd6 := hB 6 _ (by kernel_rfl) rfl
    simp only [hd6] at hK9 ⊢
    go_simp
    refine (N2.out _ (ht.then hC9.2)).mono ?_
    rintro en w8 ⟨rfl, hb8⟩
    exact hK9 _ _ rfl ⟨hC9.1.below hb8 hC9.1.lt, hC9.2.trans (hb8.mono hC9.2.size)⟩ trivial
  refine wpFacts_val (.string (⟨#[109]⟩ ++ t1 ++ ⟨#[58, 32, 43]⟩ ++ t2)) (fun vs w9 hC9 hB K9 hK9 => ?_) ?_
  · have hd4 := hB 4 _ (by kernel_rfl) rfl
    have hd7 := hB 7 _ (by kernel_rfl) rfl
    simp only [hd4, hd7] at hK9 ⊢
    go_simp
    (first | (rw [if_neg (by omega)]; go_simp) | skip)
    exact hK9 _ _ rfl hC9 trivial
  refine wpFacts_val (.string (⟨#[109]⟩ ++ t1 ++ ⟨#[58, 32, 43]⟩ ++ t2 ++ ⟨#[32, 45]⟩)) (fun vs w9 hC9 hB K9 hK9 => ?_) ?_
  · have hd8 := hB 8 _ (by kernel_rfl) rfl
    simp only [hd8] at hK9 ⊢
    go_simp
    (first | (rw [if_neg (by omega)]; go_simp) | skip)
    exact hK9 _ _ rfl hC9 trivial
  refine wpFacts_val (.pointer (some ⟨g, 2, none⟩)) (fun vs w9 hC9 hB K9 hK9 => ?_) ?_
  · go_simp
    exact hK9 _ _ rfl hC9 trivial
  refine wpFacts_val (.int .i64 s) (fun vs w9 hC9 hB K9 hK9 => ?_) ?_
  · have hd10 := hB 10 _ (by kernel_rfl) rfl
    simp only [hd10] at hK9 ⊢
    have q0 : w9.cell? ⟨g, 2, none⟩ = some (.int .i64 s) := hC9.1.cell 2
    go_simp
    exact hK9 _ _ rfl hC9 trivial
  refine wpFacts_val (.string t3) (fun vs w9 hC9 hB K9 hK9 => ?_) ?_
  · have hd11 := hB 11 _ (by kernel_rfl) rfl
    simp only [hd11] at hK9 ⊢
    go_simp
    refine (N3.out _ (ht.then hC9.2)).mono ?_
    rintro en w8 ⟨rfl, hb8⟩
    exact hK9 _ _ rfl ⟨hC9.1.below hb8 hC9.1.lt, hC9.2.trans (hb8.mono hC9.2.size)⟩ trivial
  refine wpFacts_val (.string (⟨#[109]⟩ ++ t1 ++ ⟨#[58, 32, 43]⟩ ++ t2 ++ ⟨#[32, 45]⟩ ++ t3)) (fun vs w9 hC9 hB K9 hK9 => ?_) ?_
  · have hd9 := hB 9 _ (by kernel_rfl) rfl
    have hd12 := hB 12 _ (by kernel_rfl) rfl
    simp only [hd9, hd12] at hK9 ⊢
    go_simp
    (first | (rw [if_neg (by omega)]; go_simp) | skip)
    exact hK9 _ _ rfl hC9 trivial
  refine wpFacts_val (.string (⟨#[109]⟩ ++ t1 ++ ⟨#[58, 32, 43]⟩ ++ t2 ++ ⟨#[32, 45]⟩ ++ t3 ++ ⟨#[32, 112, 114, 111, 102, 105, 116, 32]⟩)) (fun vs w9 hC9 hB K9 hK9 => ?_) ?_
  · have hd13 := hB 13 _ (by kernel_rfl) rfl
    simp only [hd13] at hK9 ⊢
    go_simp
    (first | (rw [if_neg (by omega)]; go_simp) | skip)
    exact hK9 _ _ rfl hC9 trivial
  refine wpFacts_val (.string (⟨#[109]⟩ ++ t1 ++ ⟨#[58, 32, 43]⟩ ++ t2 ++ ⟨#[32, 45]⟩ ++ t3 ++ ⟨#[32, 112, 114, 111, 102, 105, 116, 32]⟩)) (fun vs w9 hC9 hB K9 hK9 => ?_) ?_
  · have hd14 := hB 14 _ (by kernel_rfl) rfl
    simp only [hd14] at hK9 ⊢
    go_simp
    exact hK9 _ _ rfl hC9 trivial
  refine wpFacts_nil fun vs W2 hC9 hB => ?_
  have hd15 := hB 15 _ rfl
  simp only [hd15]
  obtain ⟨L2, B2⟩ := hC9
  have c3 := L2.cell 3
  have c4 := L2.cell 4
  simp only [List.getElem?_cons_zero, List.getElem?_cons_succ] at c3 c4
  obtain ⟨p, hp⟩ : ∃ p : ByteArray, p = ⟨#[109]⟩ ++ t1 ++ ⟨#[58, 32, 43]⟩ ++ t2 ++ ⟨#[32, 45]⟩ ++ t3 ++ ⟨#[32, 112, 114, 111, 102, 105, 116, 32]⟩ := ⟨_, rfl⟩
  have hpz : p.size ≤ 1000 := by rw [hp]; simp only [size_app, z1, z2, z3, z4]; omega
  have HP : Hid (bl p = [109] ++ Lib.itoa m ++ [58, 32, 43] ++ Lib.itoa b ++ [32, 45] ++ Lib.itoa s ++ [32, 112, 114, 111, 102, 105, 116, 32]) := by
    rw [Hid, hp]; simp only [bl_app, HE1.out, HE2.out, HE3.out]; rfl
  rw [← hp]
  clear hp hB hd15 L1
  by_cases hneg : c < 0
  · obtain rfl : c = -(a : Int) := by omega
    have hap : 0 < a := by omega
    have dn : decide (-(a : Int) < 0) = true := decide_eq_true hneg
    have dn2 : decide (0 < (a : Int)) = true := decide_eq_true (by omega)
    have dn3 : decide (0 < a) = true := decide_eq_true hap
    have HCn : Hid ((-(a : Int) < 0) = True) := eq_true hneg
    have HA : Hid ((-(a : Int)).natAbs = a) := ha.symm
    have HM1 : Hid (max (-(a : Int)) (a : Int) = (a : Int)) := by unfold Hid; omega
    have HM2 : Hid ((if -(a : Int) < (a : Int) then (a : Int) else -(a : Int)) = (a : Int)) := by unfold Hid; rw [if_pos (by omega)]
    clear ha hneg
    by_cases hl : 0 < l
    · have dl : decide (0 < l) = true := decide_eq_true hl
      have HLn : Hid ((0 < l) = True) := eq_true hl
      clear hl
      go_wp2_with fail
      first | rw [HM1.out] | rw [HM2.out] | skip
      refine (N5.out _ (ht.then B2)).mono ?_
      rintro en w3 ⟨rfl, hb3⟩
      have L3 := L2.below hb3 L2.lt
      have B3 := B2.trans (hb3.mono B2.size)
      clear c3 c4
      have c3 := L3.cell 3
      have c4 := L3.cell 4
      simp only [List.getElem?_cons_zero, List.getElem?_cons_succ] at c3 c4
      go_wp2_with fail
      refine (N4.out _ (ht.then B3)).mono ?_
      rintro en w4 ⟨rfl, hb4⟩
      have B4 := B3.trans (hb4.mono B3.size)
      go_wp2_with fail
      have key : (p ++ ⟨#[45]⟩ ++ t5 ++ (⟨#[32]⟩ ++ t4 ++ ⟨#[32, 108, 101, 110, 116]⟩) : ByteArray) = lineO ⟨m, b, s, -(a : Int), l⟩ := bl_ext (l := lineT ⟨m, b, s, -(a : Int), l⟩) (by
        simp only [lineT, bl_app, HP.out, HE4.out, HE5.out, HCn.out, HA.out, HLn.out, if_true, if_false, List.append_assoc, List.append_nil, List.nil_append]
        try rfl)
      go_ret
      exact ⟨by rw [← key]; rfl, B4⟩
    · have dl : decide (0 < l) = false := decide_eq_false hl
      have HLn : Hid ((0 < l) = False) := eq_false hl
      clear hl
      go_wp2_with fail
      first | rw [HM1.out] | rw [HM2.out] | skip
      refine (N5.out _ (ht.then B2)).mono ?_
      rintro en w3 ⟨rfl, hb3⟩
      have L3 := L2.below hb3 L2.lt
      have B3 := B2.trans (hb3.mono B2.size)
      clear c3 c4
      have c3 := L3.cell 3
      have c4 := L3.cell 4
      simp only [List.getElem?_cons_zero, List.getElem?_cons_succ] at c3 c4
      go_wp2_with fail
      have key : (p ++ ⟨#[45]⟩ ++ t5 : ByteArray) = lineO ⟨m, b, s, -(a : Int), l⟩ := bl_ext (l := lineT ⟨m, b, s, -(a : Int), l⟩) (by
        simp only [lineT, bl_app, HP.out, HE4.out, HE5.out, HCn.out, HA.out, HLn.out, if_true, if_false, List.append_assoc, List.append_nil, List.nil_append]
        try rfl)
      go_ret
      exact ⟨by rw [← key]; rfl, B3⟩
  · obtain rfl : c = (a : Int) := by omega
    have dn : decide ((a : Int) < 0) = false := decide_eq_false hneg
    have HCn : Hid (((a : Int) < 0) = False) := eq_false hneg
    have HA : Hid ((a : Int).natAbs = a) := ha.symm
    have HM1 : Hid (max (a : Int) (-(a : Int)) = (a : Int)) := by unfold Hid; omega
    have HM2 : Hid ((if (a : Int) < -(a : Int) then -(a : Int) else (a : Int)) = (a : Int)) := by unfold Hid; rw [if_neg (by omega)]
    clear ha hneg
    by_cases hl : 0 < l
    · have dl : decide (0 < l) = true := decide_eq_true hl
      have HLn : Hid ((0 < l) = True) := eq_true hl
      clear hl
      go_wp2_with fail
      first | rw [HM1.out] | rw [HM2.out] | skip
      refine (N5.out _ (ht.then B2)).mono ?_
      rintro en w3 ⟨rfl, hb3⟩
      have L3 := L2.below hb3 L2.lt
      have B3 := B2.trans (hb3.mono B2.size)
      clear c3 c4
      have c3 := L3.cell 3
      have c4 := L3.cell 4
      simp only [List.getElem?_cons_zero, List.getElem?_cons_succ] at c3 c4
      go_wp2_with fail
      refine (N4.out _ (ht.then B3)).mono ?_
      rintro en w4 ⟨rfl, hb4⟩
      have B4 := B3.trans (hb4.mono B3.size)
      go_wp2_with fail
      have key : (p ++ t5 ++ (⟨#[32]⟩ ++ t4 ++ ⟨#[32, 108, 101, 110, 116]⟩) : ByteArray) = lineO ⟨m, b, s, (a : Int), l⟩ := bl_ext (l := lineT ⟨m, b, s, (a : Int), l⟩) (by
        simp only [lineT, bl_app, HP.out, HE4.out, HE5.out, HCn.out, HA.out, HLn.out, if_true, if_false, List.append_assoc, List.append_nil, List.nil_append]
        try rfl)
      go_ret
      exact ⟨by rw [← key]; rfl, B4⟩
    · have dl : decide (0 < l) = false := decide_eq_false hl
      have HLn : Hid ((0 < l) = False) := eq_false hl
      clear hl
      go_wp2_with fail
      first | rw [HM1.out] | rw [HM2.out] | skip
      refine (N5.out _ (ht.then B2)).mono ?_
      rintro en w3 ⟨rfl, hb3⟩
      have L3 := L2.below hb3 L2.lt
      have B3 := B2.trans (hb3.mono B2.size)
      clear c3 c4
      have c3 := L3.cell 3
      have c4 := L3.cell 4
      simp only [List.getElem?_cons_zero, List.getElem?_cons_succ] at c3 c4
      go_wp2_with fail
      have key : (p ++ t5 : ByteArray) = lineO ⟨m, b, s, (a : Int), l⟩ := bl_ext (l := lineT ⟨m, b, s, (a : Int), l⟩) (by
        simp only [lineT, bl_app, HP.out, HE4.out, HE5.out, HCn.out, HA.out, HLn.out, if_true, if_false, List.append_assoc, List.append_nil, List.nil_append]
        try rfl)
      go_ret
      exact ⟨by rw [← key]; rfl, B3⟩
end Go.Proofs.YtpjfidmapnnbkaaDoor

/- Worlds that grow (no program in sight). -/
namespace Go.Proofs.YtpjfidmapnnbkaaDoor
open Go.RowKit

theorem grown_trans {a b c : World} {row : Option Nat} (h : a.grownBy b row) (k : b.grownBy c row) : a.grownBy c row :=
  ⟨k.os.trans h.os, k.tape.trans h.tape, k.output.trans h.output, Nat.le_trans h.size k.size, fun j hj hne => (k.block j (Nat.lt_of_lt_of_le hj h.size) hne).trans (h.block j hj hne)⟩
end Go.Proofs.YtpjfidmapnnbkaaDoor

/- The program reads a row of the office. (Printed by gen_offi.py) -/
namespace Go.Proofs.YtpjfidmapnnbkaaDoor
open Go.RowKit

def zrow : Row := ⟨0, 0, 0, 0, 0⟩
/-- What reading a line gives. -/
noncomputable def lineR (s : List UInt8) : Row × Bool := match lineF s with
  | some r => (r, true)
  | none => (zrow, false)
/-- All that the program asks. -/
def PassI (s : List UInt8) (ws : List (List UInt8)) (v : Int) (okc : Bool) : Prop :=
  (numF (monW (ws.getD 0 []))).isSome = true ∧ (numF (Lib.trimPrefix (ws.getD 1 []) [43])).isSome = true ∧ (numF (Lib.trimPrefix (ws.getD 2 []) [45])).isSome = true ∧ okc = true ∧ (rowI ws v).ok = true ∧ lineT (rowI ws v) = s
theorem pass_yes {s : List UInt8} {ws : List (List UInt8)} {v : Int} {okc : Bool} (h : PassI s ws v okc) : lineR s = (rowI ws v, true) := by
  unfold lineR; rw [lineF_eq h.2.2.2.2.1 h.2.2.2.2.2]
theorem pass_no {s : List UInt8} {ws : List (List UInt8)} {v : Int} {okc : Bool} (hw : splitL 32 s = ws) (hc : (okc = true ∧ Lib.atoiAll (centR (ws.getD 4 [])) = .ok v) ∨ (okc = false ∧ ∀ u, Lib.atoiAll (centR (ws.getD 4 [])) ≠ .ok u)) (h : ¬ PassI s ws v okc) : lineR s = (zrow, false) := by
  have hn : lineF s = none := lineF_none fun r hr e => by
    have hl := line_read hr
    rw [e] at hl
    simp only [hw] at hl
    obtain ⟨h1, h2, h3, h4, h5, h6, h7, _⟩ := hl
    rcases hc with ⟨c1, c2⟩ | ⟨c1, c2⟩
    · rw [h5] at c2; injection c2 with c2
      refine h ⟨h2, h3, h4, c1, ?_, ?_⟩
      · rw [← c2, h6]; exact hr
      · rw [← c2, h6]; exact e
    · exact c2 _ h5
  unfold lineR; rw [hn]
theorem short_no {s : List UInt8} {ws : List (List UInt8)} (hw : splitL 32 s = ws) (h : ¬ (ws.length = 5 ∨ ws.length = 7)) : lineR s = (zrow, false) := by
  have hn : lineF s = none := lineF_none fun r hr e => by
    have hl := line_read hr
    rw [e] at hl
    simp only [hw] at hl
    exact h hl.1
  unfold lineR; rw [hn]
theorem bel_grow {B g : Nat} {w w1 w2 : World} (h : Below B w w1) (hg : w1.grownBy w2 (some g)) (hB : B ≤ g) (hs : B ≤ w.heap.size) : Below B w w2 :=
  ⟨hg.os.trans h.os, hg.tape.trans h.tape, hg.output.trans h.output, Nat.le_trans h.size hg.size, fun k hk => (hg.block k (by have := h.size; omega) (by intro e; injection e; omega)).trans (h.block k hk)⟩
def GivesLn (s : ByteArray) (w : World) (e : Ending) (w' : World) : Prop := ∃ (r : Row) (ok : Bool), e = .returned (.tuple #[r.val, .bool ok]) ∧ lineR (bl s) = (r, ok) ∧ Below w.heap.size w w'
theorem trim_len {t p : List UInt8} : (Lib.trimSuffix t p).length ≤ t.length ∧ (Lib.trimPrefix t p).length ≤ t.length := by
  unfold Lib.trimSuffix Lib.trimPrefix
  constructor
  · split
    · rw [List.length_take]; omega
    · exact Nat.le_refl _
  · split
    · rw [List.length_drop]; omega
    · exact Nat.le_refl _
theorem replace_len (t : List UInt8) : (centR t).length ≤ t.length := by
  have key : ∀ (k : Nat) (l : List UInt8), (Lib.replaceK [46] [] k l).length ≤ l.length := by
    intro k
    induction k with
    | zero => intro l; exact Nat.le_refl _
    | succ k ih =>
      intro l
      unfold Lib.replaceK
      split
      · exact Nat.le_refl _
      · have := ih (l.drop ((Lib.index l [46]).toNat + ([46] : List UInt8).length))
        simp only [List.length_append, List.length_nil, List.length_take, List.length_drop] at *
        omega
  unfold centR Lib.replace
  split
  · exact Nat.le_refl _
  · exact key _ _
theorem replace_any (s : ByteArray) (w : World) (hs : s.size ≤ 1000000000) (hL : LW w) :
    Calls Tryd.prog 17 #[.string s, .string ⟨#[46]⟩, .string ⟨#[]⟩, .int .i64 1] w fun e w' => e = .returned (.string ⟨(centR (bl s)).toArray⟩) ∧ Below w.heap.size w w' := by
  obtain ⟨m, hm⟩ := hL.ml
  exact Tryd.strings_Replace s ⟨#[46]⟩ ⟨#[]⟩ 1 m w (by omega) hm (Nat.le_refl 1) (by have h0 : (⟨#[]⟩ : ByteArray).size = 0 := rfl; rw [h0]; omega)
theorem getD_at {ps : List (List UInt8)} {k : Nat} (h : k < ps.length) : ps.getD k [] = ps[k] := by
  rw [List.getD_eq_getElem?_getD, List.getElem?_eq_getElem h]; rfl
/-- The row of words, while it is read. -/
structure OSt (w wx : World) (g8 : Nat) (ws : List (List UInt8)) : Prop where
  bl : Below w.heap.size w wx
  lw : LW w
  out : Lies wx w.heap.size 23 [.int .i64 0, .int .i64 0, .int .i64 0, .int .i64 0, .int .i64 0]
  ws : Lies wx g8 9 (texts ws)
theorem OSt.then {w wx wy : World} {g8 : Nat} {ws : List (List UInt8)} (h : OSt w wx g8 ws) (hb : Below wx.heap.size wx wy) : OSt w wy g8 ws :=
  ⟨bthen h.bl hb, h.lw, h.out.below hb h.out.lt, h.ws.below hb h.ws.lt⟩
theorem OSt.wrote {w wx wy : World} {g8 g : Nat} {ws : List (List UInt8)} (h : OSt w wx g8 ws) (hg : wx.grownBy wy (some g)) (h1 : w.heap.size < g) (h2 : g8 < g) : OSt w wy g8 ws :=
  ⟨bel_grow h.bl hg (Nat.le_of_lt h1) (Nat.le_refl _), h.lw, h.out.kept hg (by intro e; injection e; omega), h.ws.kept hg (by intro e; injection e; omega)⟩
theorem OSt.now {w wx : World} {g8 : Nat} {ws : List (List UInt8)} (h : OSt w wx g8 ws) : LW wx := h.lw.then h.bl


set_option maxRecDepth 100000 in
set_option maxHeartbeats 8000000 in
set_option linter.unusedVariables false in
theorem implParseOffice_any (s : ByteArray) (w : World) (hs : s.size ≤ 2000000) (hL : LW w) :
    Calls Tryd.prog 5 #[.string s] w (GivesLn s w) := by
  have L2 := Lies.new w 23 #[.int .i64 0, .int .i64 0, .int .i64 0, .int .i64 0, .int .i64 0]
  have b2 := (Below.refl w.heap.size w).alloc (Nat.le_refl _) (.cells #[.int .i64 0, .int .i64 0, .int .i64 0, .int .i64 0, .int .i64 0] 23)
  have HSP := Lib.hid (split_any s 32 (w.alloc (.cells #[.int .i64 0, .int .i64 0, .int .i64 0, .int .i64 0, .int .i64 0] 23)) (by omega) (hL.then b2))
  obtain ⟨ws, hws⟩ : ∃ l, splitL 32 (bl s) = l := ⟨_, rfl⟩
  rw [hws] at HSP
  have hpt : ∀ t ∈ ws, t.length ≤ 2000000 := fun t ht => by
    have h1 := parts_mem (b := 32) (t := t) (bl s) [] (by rw [← hws] at ht; exact ht)
    rw [bl_size] at h1; simp at h1; omega
  have hpl : ws.length ≤ 2000001 := by
    have h1 := parts_len 32 (bl s) []
    rw [bl_size] at h1
    rw [← hws]; unfold splitL; omega
  have HWS := Lib.hid hws
  have HPT := Lib.hid hpt
  clear hws hpt
  go_enter Tryd.func5, Tryd.ntmps5
  go_wp2_with fail
  refine HSP.out.mono ?_
  rintro e w3 ⟨rfl, L8, hb3⟩
  have S3 := Lib.hid (OSt.mk (bthen b2 hb3) hL (L2.below hb3 L2.lt) L8)
  generalize (w.alloc (.cells #[.int .i64 0, .int .i64 0, .int .i64 0, .int .i64 0, .int .i64 0] 23)).heap.size = g8 at S3 ⊢
  clear L2 b2 L8 hb3 HSP
  go_upto_region 2 with fail
  go_cut [23] (fun s23 wx => (∃ b : Bool, s23 = .bool b ∧ Hid (b = decide (¬ (ws.length = 5 ∨ ws.length = 7)))) ∧ w3 = wx)
  case first =>
    by_cases h5 : ws.length = 5
    · have e5 : ((ws.length : Int) != 5) = false := by simp [h5]
      have H5 := Lib.hid h5
      clear h5
      go_wp2_with fail
      go_meet
      case rel => exact ⟨⟨false, rfl, by rw [Hid]; simp [H5.out]⟩, rfl⟩
    · have e5 : ((ws.length : Int) != 5) = true := by rw [bne_iff_ne]; omega
      by_cases h7 : ws.length = 7
      · have e7 : ((ws.length : Int) != 7) = false := by simp [h7]
        have H7 := Lib.hid h7
        clear h5 h7
        go_wp2_with fail
        go_meet
        case rel => exact ⟨⟨false, rfl, by rw [Hid]; simp [H7.out]⟩, rfl⟩
      · have e7 : ((ws.length : Int) != 7) = true := by rw [bne_iff_ne]; omega
        have H := Lib.hid (And.intro h5 h7)
        clear h5 h7
        go_wp2_with fail
        go_meet
        case rel => exact ⟨⟨true, rfl, by rw [Hid]; simp [H.out.1, H.out.2]⟩, rfl⟩
  case rest =>
    obtain ⟨⟨b, rfl, hb⟩, rfl⟩ := hcut
    cases b with
    | true =>
      have hno : ¬ (ws.length = 5 ∨ ws.length = 7) := by have := hb.out.symm; simpa using this
      have HRD := Lib.hid (short_no HWS.out hno)
      clear hb hno
      have K2 := S3.out.out
      have a0 := K2.cell 0
      have a1 := K2.cell 1
      have a2 := K2.cell 2
      have a3 := K2.cell 3
      have a4 := K2.cell 4
      simp only [List.getElem?_cons_zero, List.getElem?_cons_succ] at a0 a1 a2 a3 a4
      have fa0 := K2.frozen 0
      have fa1 := K2.frozen 1
      have fa2 := K2.frozen 2
      have fa3 := K2.frozen 3
      have fa4 := K2.frozen 4

      obtain ⟨W20, hW20⟩ : ∃ W20, (((((w3.setCell ⟨w.heap.size, 0, none⟩ (.int .i64 0)).setCell ⟨w.heap.size, 1, none⟩ (.int .i64 0)).setCell ⟨w.heap.size, 2, none⟩ (.int .i64 0)).setCell ⟨w.heap.size, 3, none⟩ (.int .i64 0)).setCell ⟨w.heap.size, 4, none⟩ (.int .i64 0)) = W20 := ⟨_, rfl⟩
      have gw : w3.grownBy (((((w3.setCell ⟨w.heap.size, 0, none⟩ (.int .i64 0)).setCell ⟨w.heap.size, 1, none⟩ (.int .i64 0)).setCell ⟨w.heap.size, 2, none⟩ (.int .i64 0)).setCell ⟨w.heap.size, 3, none⟩ (.int .i64 0)).setCell ⟨w.heap.size, 4, none⟩ (.int .i64 0)) (some w.heap.size) := (grown_set (g := w.heap.size) (i := 4) (u := .int .i64 0) (grown_set (g := w.heap.size) (i := 3) (u := .int .i64 0) (grown_set (g := w.heap.size) (i := 2) (u := .int .i64 0) (grown_set (g := w.heap.size) (i := 1) (u := .int .i64 0) (grown_set (g := w.heap.size) (i := 0) (u := .int .i64 0) (World.grownBy.refl _ _))))))
      have kw : Lies (((((w3.setCell ⟨w.heap.size, 0, none⟩ (.int .i64 0)).setCell ⟨w.heap.size, 1, none⟩ (.int .i64 0)).setCell ⟨w.heap.size, 2, none⟩ (.int .i64 0)).setCell ⟨w.heap.size, 3, none⟩ (.int .i64 0)).setCell ⟨w.heap.size, 4, none⟩ (.int .i64 0)) w.heap.size 23 [.int .i64 0, .int .i64 0, .int .i64 0, .int .i64 0, .int .i64 0] := K2.set 0 (.int .i64 0) |>.set 1 (.int .i64 0) |>.set 2 (.int .i64 0) |>.set 3 (.int .i64 0) |>.set 4 (.int .i64 0)
      have BB := Lib.hid (bel_grow S3.out.bl gw (Nat.le_refl _) (Nat.le_refl _))
      rw [hW20] at kw BB
      have HW20 := Lib.hid hW20
      have HK := Lib.hid kw
      clear gw kw hW20 K2 S3
      repeat (first | go_values | go_skip | go_guarded | go_step | go_upon | simp only [])
      rw [HW20.out]
      have LS := HK.out
      have x0 := LS.cell 0
      have x1 := LS.cell 1
      have x2 := LS.cell 2
      have x3 := LS.cell 3
      have x4 := LS.cell 4
      simp only [List.getElem?_cons_zero, List.getElem?_cons_succ] at x0 x1 x2 x3 x4
      refine bodyPost_ret (v := .tuple #[.agg #[.int .i64 0, .int .i64 0, .int .i64 0, .int .i64 0, .int .i64 0], .bool false]) (by simp [results, Tryd.results5, go_sem, x0, x1, x2, x3, x4]) rfl ?_
      exact ⟨zrow, false, rfl, HRD.out, BB.out⟩
    | false =>
      have h57 : ws.length = 5 ∨ ws.length = 7 := by have := hb.out.symm; simp only [decide_eq_false_iff_not, Decidable.not_not] at this; exact this
      have H57 := Lib.hid h57
      have h5l : 5 ≤ ws.length := by omega
      clear hb h57
      have j0 : (0 : Int) < (ws.length : Int) := by omega
      have j1 : (1 : Int) < (ws.length : Int) := by omega
      have j2 : (2 : Int) < (ws.length : Int) := by omega
      have j4 : (4 : Int) < (ws.length : Int) := by omega
      -- the month
      have c0 : w3.cell? ⟨g8, 0, none⟩ = some (.string ⟨(ws[0]'(by omega)).toArray⟩) := by
        rw [S3.out.ws.cell]; exact texts_at ws 0 (by omega)
      have ht := HPT.out (ws[0]'(by omega)) (List.getElem_mem _)
      obtain ⟨t0, hte⟩ : ∃ t : ByteArray, t = ⟨(ws[0]'(by omega)).toArray⟩ := ⟨_, rfl⟩
      have hbt0 : bl t0 = ws.getD 0 [] := by rw [hte, bl_mk, getD_at]
      rw [← hte] at c0
      have hzt0 : t0.size ≤ 2000000 := by rw [← bl_size, hbt0, getD_at (by omega)]; exact ht
      clear hte ht
      go_wp2_with fail
      refine (Tryd.strings_TrimSuffix t0 ⟨#[58]⟩ w3 (by omega)).mono ?_
      rintro e w3 ⟨rfl, rfl⟩
      obtain ⟨t1, hde⟩ : ∃ x : ByteArray, x = ⟨(Lib.trimSuffix t0.data.toList (ByteArray.mk #[58]).data.toList).toArray⟩ := ⟨_, rfl⟩
      have hbt1 : bl t1 = Lib.trimSuffix (bl t0) [58] := by rw [hde, bl_mk]; rfl
      rw [← hde]
      have hzt1 : t1.size ≤ 2000000 := by rw [← bl_size, hbt1]; have := (trim_len (t := bl t0) (p := [58])).1; rw [bl_size] at this; omega
      clear hde
      go_wp2_with fail
      refine (Tryd.strings_TrimPrefix t1 ⟨#[109]⟩ w3).mono ?_
      rintro e w3 ⟨rfl, rfl⟩
      obtain ⟨t2, hde⟩ : ∃ x : ByteArray, x = ⟨(Lib.trimPrefix t1.data.toList (ByteArray.mk #[109]).data.toList).toArray⟩ := ⟨_, rfl⟩
      have hbt2 : bl t2 = Lib.trimPrefix (bl t1) [109] := by rw [hde, bl_mk]; rfl
      rw [← hde]
      have hzt2 : t2.size ≤ 2000000 := by rw [← bl_size, hbt2]; have := (trim_len (t := bl t1) (p := [109])).2; rw [bl_size] at this; omega
      clear hde
      have HM : Hid (bl t2 = monW (ws.getD 0 [])) := by rw [hbt2, hbt1, hbt0]; rfl
      clear hbt0 hbt1 hbt2 c0
      have hlw := S3.out.now
      go_wp2_with fail
      refine (parseInt_any t2 w3 (by omega) hlw).mono ?_
      rintro e w4 ⟨rfl, hb9⟩
      have S4 := Lib.hid (S3.out.then hb9)
      rw [HM.out]
      obtain ⟨mo, hmo⟩ : ∃ o, numF (monW (ws.getD 0 [])) = o := ⟨_, rfl⟩
      obtain ⟨m, hm⟩ : ∃ z, mo.getD 0 = z := ⟨_, rfl⟩
      obtain ⟨one, hone⟩ : ∃ z, mo.isSome = z := ⟨_, rfl⟩
      rw [hmo, hm, hone]
      have Hmo := Lib.hid hmo; have Hm := Lib.hid hm; have Hone := Lib.hid hone
      clear hb9 hlw S3 hmo hm hone
      go_upto_region 5 with fail
      -- bought
      have c0 : w4.cell? ⟨g8, 1, none⟩ = some (.string ⟨(ws[1]'(by omega)).toArray⟩) := by
        rw [S4.out.ws.cell]; exact texts_at ws 1 (by omega)
      have ht := HPT.out (ws[1]'(by omega)) (List.getElem_mem _)
      obtain ⟨t3, hte⟩ : ∃ t : ByteArray, t = ⟨(ws[1]'(by omega)).toArray⟩ := ⟨_, rfl⟩
      have hbt3 : bl t3 = ws.getD 1 [] := by rw [hte, bl_mk, getD_at]
      rw [← hte] at c0
      have hzt3 : t3.size ≤ 2000000 := by rw [← bl_size, hbt3, getD_at (by omega)]; exact ht
      clear hte ht
      go_wp2_with fail
      refine (Tryd.strings_TrimPrefix t3 ⟨#[43]⟩ w4).mono ?_
      rintro e w4 ⟨rfl, rfl⟩
      obtain ⟨t4, hde⟩ : ∃ x : ByteArray, x = ⟨(Lib.trimPrefix t3.data.toList (ByteArray.mk #[43]).data.toList).toArray⟩ := ⟨_, rfl⟩
      have hbt4 : bl t4 = Lib.trimPrefix (bl t3) [43] := by rw [hde, bl_mk]; rfl
      rw [← hde]
      have hzt4 : t4.size ≤ 2000000 := by rw [← bl_size, hbt4]; have := (trim_len (t := bl t3) (p := [43])).2; rw [bl_size] at this; omega
      clear hde
      have HB2 : Hid (bl t4 = Lib.trimPrefix (ws.getD 1 []) [43]) := by rw [Hid, hbt4, hbt3]
      clear hbt3 hbt4 c0
      have hlw := S4.out.now
      go_wp2_with fail
      refine (parseInt_any t4 w4 (by omega) hlw).mono ?_
      rintro e w5 ⟨rfl, hb9⟩
      have S5 := Lib.hid (S4.out.then hb9)
      rw [HB2.out]
      obtain ⟨bo, hbo⟩ : ∃ o, numF (Lib.trimPrefix (ws.getD 1 []) [43]) = o := ⟨_, rfl⟩
      obtain ⟨bb, hbb⟩ : ∃ z, bo.getD 0 = z := ⟨_, rfl⟩
      obtain ⟨two, htwo⟩ : ∃ z, bo.isSome = z := ⟨_, rfl⟩
      rw [hbo, hbb, htwo]
      have Hbo := Lib.hid hbo; have Hbb := Lib.hid hbb; have Htwo := Lib.hid htwo
      clear hb9 hlw S4 hbo hbb htwo
      go_upto_region 6 with fail
      -- sold
      have c0 : w5.cell? ⟨g8, 2, none⟩ = some (.string ⟨(ws[2]'(by omega)).toArray⟩) := by
        rw [S5.out.ws.cell]; exact texts_at ws 2 (by omega)
      have ht := HPT.out (ws[2]'(by omega)) (List.getElem_mem _)
      obtain ⟨t5, hte⟩ : ∃ t : ByteArray, t = ⟨(ws[2]'(by omega)).toArray⟩ := ⟨_, rfl⟩
      have hbt5 : bl t5 = ws.getD 2 [] := by rw [hte, bl_mk, getD_at]
      rw [← hte] at c0
      have hzt5 : t5.size ≤ 2000000 := by rw [← bl_size, hbt5, getD_at (by omega)]; exact ht
      clear hte ht
      go_wp2_with fail
      refine (Tryd.strings_TrimPrefix t5 ⟨#[45]⟩ w5).mono ?_
      rintro e w5 ⟨rfl, rfl⟩
      obtain ⟨t6, hde⟩ : ∃ x : ByteArray, x = ⟨(Lib.trimPrefix t5.data.toList (ByteArray.mk #[45]).data.toList).toArray⟩ := ⟨_, rfl⟩
      have hbt6 : bl t6 = Lib.trimPrefix (bl t5) [45] := by rw [hde, bl_mk]; rfl
      rw [← hde]
      have hzt6 : t6.size ≤ 2000000 := by rw [← bl_size, hbt6]; have := (trim_len (t := bl t5) (p := [45])).2; rw [bl_size] at this; omega
      clear hde
      have HS2 : Hid (bl t6 = Lib.trimPrefix (ws.getD 2 []) [45]) := by rw [Hid, hbt6, hbt5]
      clear hbt5 hbt6 c0
      have hlw := S5.out.now
      go_wp2_with fail
      refine (parseInt_any t6 w5 (by omega) hlw).mono ?_
      rintro e w6 ⟨rfl, hb9⟩
      have S6 := Lib.hid (S5.out.then hb9)
      rw [HS2.out]
      obtain ⟨so, hso⟩ : ∃ o, numF (Lib.trimPrefix (ws.getD 2 []) [45]) = o := ⟨_, rfl⟩
      obtain ⟨sv, hsv⟩ : ∃ z, so.getD 0 = z := ⟨_, rfl⟩
      obtain ⟨three, hthree⟩ : ∃ z, so.isSome = z := ⟨_, rfl⟩
      rw [hso, hsv, hthree]
      have Hso := Lib.hid hso; have Hsv := Lib.hid hsv; have Hthree := Lib.hid hthree
      clear hb9 hlw S5 hso hsv hthree
      go_upto_region 7 with fail
      -- the cents
      have c0 : w6.cell? ⟨g8, 4, none⟩ = some (.string ⟨(ws[4]'(by omega)).toArray⟩) := by
        rw [S6.out.ws.cell]; exact texts_at ws 4 (by omega)
      have ht := HPT.out (ws[4]'(by omega)) (List.getElem_mem _)
      obtain ⟨t7, hte⟩ : ∃ t : ByteArray, t = ⟨(ws[4]'(by omega)).toArray⟩ := ⟨_, rfl⟩
      have hbt7 : bl t7 = ws.getD 4 [] := by rw [hte, bl_mk, getD_at]
      rw [← hte] at c0
      have hzt7 : t7.size ≤ 2000000 := by rw [← bl_size, hbt7, getD_at (by omega)]; exact ht
      clear hte ht
      have hlw := S6.out.now
      go_wp2_with fail
      refine (replace_any t7 w6 (by omega) hlw).mono ?_
      rintro e w7 ⟨rfl, hb7⟩
      have S7 := Lib.hid (S6.out.then hb7)
      obtain ⟨t8, hde⟩ : ∃ x : ByteArray, x = ⟨(centR (bl t7)).toArray⟩ := ⟨_, rfl⟩
      have hbt8 : bl t8 = centR (ws.getD 4 []) := by rw [hde, bl_mk, hbt7]
      rw [← hde]
      have hzt8 : t8.size ≤ 2000000 := by rw [← bl_size, hbt8, ← hbt7]; have := replace_len (bl t7); rw [bl_size] at this; omega
      clear hde hb7 S6 hlw c0 hbt7
      have hlw := S7.out.now
      go_wp2_with fail
      refine (atoi_any t8 w7 (by omega) hlw).mono ?_
      rintro e w8 ⟨v, okc, ev, rfl, hev, hb8⟩
      have S8 := Lib.hid (S7.out.then hb8)
      have HC : Hid ((okc = true ∧ Lib.atoiAll (centR (ws.getD 4 [])) = .ok v) ∨ (okc = false ∧ ∀ u, Lib.atoiAll (centR (ws.getD 4 [])) ≠ .ok u)) := by
        rw [← hbt8]
        rcases hev with ⟨h1, _, h3⟩ | ⟨h1, _, h3⟩
        · exact .inl ⟨h1, h3⟩
        · exact .inr ⟨h1, h3⟩
      have HEV : Hid ((okc = true ∧ ev = .nilIface) ∨ (okc = false ∧ ∃ t p, ev = .iface t p)) := by
        rcases hev with ⟨h1, h2, _⟩ | ⟨h1, h2, _⟩
        · exact .inl ⟨h1, h2⟩
        · exact .inr ⟨h1, h2⟩
      clear hev hb8 S7 hlw hbt8
      go_upto_region 8 with fail
      have HV3 := Lib.hid (And.intro Hm.out (And.intro Hbb.out Hsv.out))
      have HF3 := Lib.hid (And.intro Hone.out (And.intro Htwo.out Hthree.out))
      have HMO := Hmo; have HBO := Hbo; have HSO := Hso
      clear HM HB2 HS2 Hm Hbb Hsv Hone Htwo Hthree Hmo Hbo Hso
      have L13 := Lies.new w8 23 #[.int .i64 m, .int .i64 bb, .int .i64 sv, .int .i64 v, .int .i64 0]
      have S9 := Lib.hid (S8.out.then ((Below.refl w8.heap.size w8).alloc (Nat.le_refl _) (.cells #[.int .i64 m, .int .i64 bb, .int .i64 sv, .int .i64 v, .int .i64 0] 23)))
      have h813 : g8 < w8.heap.size := S8.out.ws.lt
      have h213 : w.heap.size < w8.heap.size := S8.out.out.lt
      clear S8
      go_upto_region 9 with fail
      generalize w8.alloc (.cells #[.int .i64 m, .int .i64 bb, .int .i64 sv, .int .i64 v, .int .i64 0] 23) = W9 at L13 S9 ⊢
      generalize w8.heap.size = g13 at L13 h813 h213 ⊢
      have HL13 := Lib.hid L13
      clear L13
      go_cut [65] (fun s65 wx => (∃ b : Bool, s65 = .bool b ∧ Hid (b = decide (ws.length = 7))) ∧ W9 = wx)
      case first =>
        by_cases h7 : ws.length = 7
        · have e7 : ((ws.length : Int) == 7) = true := by simp; omega
          have H7 := Lib.hid h7
          clear h7
          go_wp2_with fail
          go_meet
          case rel => exact ⟨⟨true, rfl, by rw [Hid]; simp [H7.out]⟩, rfl⟩
        · have e7 : ((ws.length : Int) == 7) = false := by rw [beq_eq_false_iff_ne]; omega
          have H7 := Lib.hid h7
          clear h7
          go_wp2_with fail
          go_meet
          case rel => exact ⟨⟨false, rfl, by rw [Hid]; simp [H7.out]⟩, rfl⟩
      case rest =>
        obtain ⟨⟨b7, rfl, hb7⟩, rfl⟩ := hcut
        go_upto_if 65 with fail
        go_cut [] (fun wx => OSt w wx g8 ws ∧ Lies wx g13 23 [.int .i64 m, .int .i64 bb, .int .i64 sv, .int .i64 v, .int .i64 (if ws.length = 7 then numD (ws.getD 5 []) else 0)])
        case first =>
          cases b7 with
          | true =>
            have h7 : ws.length = 7 := by simpa using hb7.out.symm
            have H7 := Lib.hid h7
            have j5 : (5 : Int) < (ws.length : Int) := by omega
            have c0 : W9.cell? ⟨g8, 5, none⟩ = some (.string ⟨(ws[5]'(by omega)).toArray⟩) := by
              rw [S9.out.ws.cell]; exact texts_at ws 5 (by omega)
            have ht := HPT.out (ws[5]'(by omega)) (List.getElem_mem _)
            obtain ⟨t9, hte⟩ : ∃ t : ByteArray, t = ⟨(ws[5]'(by omega)).toArray⟩ := ⟨_, rfl⟩
            have hbt9 : bl t9 = ws.getD 5 [] := by rw [hte, bl_mk, getD_at]
            rw [← hte] at c0
            have hzt9 : t9.size ≤ 2000000 := by rw [← bl_size, hbt9, getD_at (by omega)]; exact ht
            clear hte ht
            have HB5 := Lib.hid hbt9
            clear h7 hbt9 hb7
            have hlw := S9.out.now
            go_wp2_with fail
            refine (parseInt_any t9 W9 (by omega) hlw).mono ?_
            rintro e w10 ⟨rfl, hb10⟩
            have S10 := Lib.hid (S9.out.then hb10)
            have K13 := HL13.out.below hb10 HL13.out.lt
            have d0 := K13.cell 0
            have d1 := K13.cell 1
            have d2 := K13.cell 2
            have d3 := K13.cell 3
            have d4 := K13.cell 4
            simp only [List.getElem?_cons_zero, List.getElem?_cons_succ] at d0 d1 d2 d3 d4
            have fd0 := K13.frozen 0
            have fd1 := K13.frozen 1
            have fd2 := K13.frozen 2
            have fd3 := K13.frozen 3
            have fd4 := K13.frozen 4
            have gw : w10.grownBy (w10.setCell ⟨g13, 4, none⟩ (.int .i64 (numD (bl t9)))) (some g13) := grown_set (World.grownBy.refl _ _)
            have HK := Lib.hid (K13.set 4 (.int .i64 (numD (bl t9))))
            have HS := Lib.hid (S10.out.wrote gw h213 h813)
            clear S9 S10 HL13 K13 gw hlw hb10 c0
            go_wp2_with fail
            go_meet
            case rel => rw [if_pos H7.out, ← HB5.out]; exact ⟨HS.out, HK.out⟩
          | false =>
            have H7 : Hid (¬ ws.length = 7) := by have := hb7.out.symm; simp only [decide_eq_false_iff_not] at this; exact this
            clear hb7
            go_wp2_with fail
            go_meet
            case rel => rw [if_neg H7.out]; exact ⟨S9.out, HL13.out⟩
        case rest =>
          clear S9 HL13 hb7
          obtain ⟨S9', K13⟩ := hcut
          have S9 := Lib.hid S9'
          clear S9'
          generalize hlo : (if ws.length = 7 then numD (ws.getD 5 []) else 0) = lo at K13
          have HLO := Lib.hid hlo
          clear hlo
          obtain ⟨r, hr⟩ : ∃ r : Row, r = ⟨m, bb, sv, v, lo⟩ := ⟨_, rfl⟩
          have HR : Hid (rowI ws v = r) := by
            rw [hr]
            unfold rowI numD Hid
            rw [HMO.out, HBO.out, HSO.out, HV3.out.1, HV3.out.2.1, HV3.out.2.2]
            have := HLO.out
            unfold numD at this
            rw [this]
          have K : Lies wc g13 23 [.int .i64 r.m, .int .i64 r.b, .int .i64 r.s, .int .i64 r.c, .int .i64 r.l] := by rw [hr]; exact K13
          have HP : Hid (PassI (bl s) ws v okc ↔ (one = true ∧ two = true ∧ three = true ∧ okc = true ∧ r.ok = true ∧ lineT r = bl s)) := by
            unfold PassI Hid
            rw [HMO.out, HBO.out, HSO.out, HF3.out.1, HF3.out.2.1, HF3.out.2.2, HR.out]
          clear hr K13 HLO HMO HBO HSO HV3 HF3
          have d0 := K.cell 0
          have d1 := K.cell 1
          have d2 := K.cell 2
          have d3 := K.cell 3
          have d4 := K.cell 4
          simp only [List.getElem?_cons_zero, List.getElem?_cons_succ] at d0 d1 d2 d3 d4
          have HK := Lib.hid K
          clear K
          have hlw := S9.out.now
          have HIS := Lib.hid (fun W => isOfficeRow_any r W)
          have HLN := Lib.hid (fun W (h : r.ok = true) (ht : Tab W) => officeLine_any r W h ht)
          obtain ⟨tx, htx⟩ : ∃ x : ByteArray, x = lineO r := ⟨_, rfl⟩
          have hbtx : bl tx = lineT r := by rw [htx]; exact bl_mk _
          rw [← htx] at HLN
          clear htx
          obtain ⟨q, hq⟩ : ∃ b : Bool, (tx.toList == s.toList) = b := ⟨_, rfl⟩
          have HQ : Hid (q = decide (lineT r = bl s)) := by rw [Hid, ← hq, str_beqL, hbtx]
          obtain ⟨ro, hro⟩ : ∃ b : Bool, r.ok = b := ⟨_, rfl⟩
          rw [hro] at HIS HP
          have HRO := Lib.hid hro
          have HPQ : Hid (PassI (bl s) ws v okc ↔ (one = true ∧ two = true ∧ three = true ∧ okc = true ∧ ro = true ∧ q = true)) := by
            rw [Hid, HP.out, HQ.out]; simp
          clear hro hbtx HP HQ
          go_upto_region 11 with fail
          go_cut [98] (fun s98 wx => (∃ b : Bool, s98 = .bool b ∧ Hid (b = false ↔ PassI (bl s) ws v okc)) ∧ Below wc.heap.size wc wx)
          case first =>
            cases one with
            | false =>
              clear hlw hq
              go_wp2_with fail
              go_meet
              case rel => exact ⟨⟨true, rfl, by rw [Hid, HPQ.out]; simp⟩, Below.refl _ _⟩
            | true =>
              cases two with
              | false =>
                clear hlw hq
                go_wp2_with fail
                go_meet
                case rel => exact ⟨⟨true, rfl, by rw [Hid, HPQ.out]; simp⟩, Below.refl _ _⟩
              | true =>
                cases three with
                | false =>
                  clear hlw hq
                  go_wp2_with fail
                  go_meet
                  case rel => exact ⟨⟨true, rfl, by rw [Hid, HPQ.out]; simp⟩, Below.refl _ _⟩
                | true =>
                  rcases HEV.out with ⟨rfl, rfl⟩ | ⟨rfl, t, p, rfl⟩
                  · cases ro with
                    | false =>
                      clear hlw hq
                      go_wp2_with fail
                      refine (HIS.out _).mono ?_
                      rintro e w12 ⟨rfl, hb12⟩
                      go_wp2_with fail
                      go_meet
                      case rel => exact ⟨⟨true, rfl, by rw [Hid, HPQ.out]; simp⟩, hb12⟩
                    | true =>
                      go_wp2_with fail
                      refine (HIS.out _).mono ?_
                      rintro e w12 ⟨rfl, hb12⟩
                      have hlw2 := hlw.then hb12
                      have K := HK.out.below hb12 HK.out.lt
                      clear hlw d0 d1 d2 d3 d4
                      have d0 := K.cell 0
                      have d1 := K.cell 1
                      have d2 := K.cell 2
                      have d3 := K.cell 3
                      have d4 := K.cell 4
                      simp only [List.getElem?_cons_zero, List.getElem?_cons_succ] at d0 d1 d2 d3 d4
                      go_wp2_with fail
                      refine (HLN.out _ HRO.out hlw2.tab).mono ?_
                      rintro e w13 ⟨rfl, hb13⟩
                      have HB13 := Lib.hid (bthen hb12 hb13)
                      clear hb12 hb13 hlw2 K d0 d1 d2 d3 d4
                      cases q with
                      | false =>
                        go_wp2_with fail
                        go_meet
                        case rel => exact ⟨⟨true, rfl, by rw [Hid, HPQ.out]; simp⟩, HB13.out⟩
                      | true =>
                        go_wp2_with fail
                        go_meet
                        case rel => exact ⟨⟨false, rfl, by rw [Hid, HPQ.out]; simp⟩, HB13.out⟩
                  · clear hlw hq
                    go_wp2_with fail
                    go_meet
                    case rel => exact ⟨⟨true, rfl, by rw [Hid, HPQ.out]; simp⟩, Below.refl _ _⟩
          case rest =>
            obtain ⟨⟨b, rfl, hbp⟩, hb14⟩ := hcut
            have S14 := Lib.hid (S9.out.then hb14)
            have K := HK.out.below hb14 HK.out.lt
            clear S9 HK hlw d0 d1 d2 d3 d4 hb14 HIS HLN HPQ hq
            cases b with
            | true =>
              have HRD := Lib.hid (pass_no HWS.out HC.out (fun h => by have := hbp.out.2 h; cases this))
              clear hbp K
              have K2 := S14.out.out
              have a0 := K2.cell 0
              have a1 := K2.cell 1
              have a2 := K2.cell 2
              have a3 := K2.cell 3
              have a4 := K2.cell 4
              simp only [List.getElem?_cons_zero, List.getElem?_cons_succ] at a0 a1 a2 a3 a4
              have fa0 := K2.frozen 0
              have fa1 := K2.frozen 1
              have fa2 := K2.frozen 2
              have fa3 := K2.frozen 3
              have fa4 := K2.frozen 4

              obtain ⟨W20, hW20⟩ : ∃ W20, (((((wc.setCell ⟨w.heap.size, 0, none⟩ (.int .i64 0)).setCell ⟨w.heap.size, 1, none⟩ (.int .i64 0)).setCell ⟨w.heap.size, 2, none⟩ (.int .i64 0)).setCell ⟨w.heap.size, 3, none⟩ (.int .i64 0)).setCell ⟨w.heap.size, 4, none⟩ (.int .i64 0)) = W20 := ⟨_, rfl⟩
              have gw : wc.grownBy (((((wc.setCell ⟨w.heap.size, 0, none⟩ (.int .i64 0)).setCell ⟨w.heap.size, 1, none⟩ (.int .i64 0)).setCell ⟨w.heap.size, 2, none⟩ (.int .i64 0)).setCell ⟨w.heap.size, 3, none⟩ (.int .i64 0)).setCell ⟨w.heap.size, 4, none⟩ (.int .i64 0)) (some w.heap.size) := (grown_set (g := w.heap.size) (i := 4) (u := .int .i64 0) (grown_set (g := w.heap.size) (i := 3) (u := .int .i64 0) (grown_set (g := w.heap.size) (i := 2) (u := .int .i64 0) (grown_set (g := w.heap.size) (i := 1) (u := .int .i64 0) (grown_set (g := w.heap.size) (i := 0) (u := .int .i64 0) (World.grownBy.refl _ _))))))
              have kw : Lies (((((wc.setCell ⟨w.heap.size, 0, none⟩ (.int .i64 0)).setCell ⟨w.heap.size, 1, none⟩ (.int .i64 0)).setCell ⟨w.heap.size, 2, none⟩ (.int .i64 0)).setCell ⟨w.heap.size, 3, none⟩ (.int .i64 0)).setCell ⟨w.heap.size, 4, none⟩ (.int .i64 0)) w.heap.size 23 [.int .i64 0, .int .i64 0, .int .i64 0, .int .i64 0, .int .i64 0] := K2.set 0 (.int .i64 0) |>.set 1 (.int .i64 0) |>.set 2 (.int .i64 0) |>.set 3 (.int .i64 0) |>.set 4 (.int .i64 0)
              have BB := Lib.hid (bel_grow S14.out.bl gw (Nat.le_refl _) (Nat.le_refl _))
              rw [hW20] at kw BB
              have HW20 := Lib.hid hW20
              have HK := Lib.hid kw
              clear gw kw hW20 K2 S14
              repeat (first | go_values | go_skip | go_guarded | go_step | go_upon | simp only [])
              rw [HW20.out]
              have LS := HK.out
              have x0 := LS.cell 0
              have x1 := LS.cell 1
              have x2 := LS.cell 2
              have x3 := LS.cell 3
              have x4 := LS.cell 4
              simp only [List.getElem?_cons_zero, List.getElem?_cons_succ] at x0 x1 x2 x3 x4
              refine bodyPost_ret (v := .tuple #[.agg #[.int .i64 0, .int .i64 0, .int .i64 0, .int .i64 0, .int .i64 0], .bool false]) (by simp [results, Tryd.results5, go_sem, x0, x1, x2, x3, x4]) rfl ?_
              exact ⟨zrow, false, rfl, HRD.out, BB.out⟩
            | false =>
              have HRD : Hid (lineR (bl s) = (r, true)) := by rw [← HR.out]; exact pass_yes (hbp.out.1 rfl)
              clear hbp
              have d0 := K.cell 0
              have d1 := K.cell 1
              have d2 := K.cell 2
              have d3 := K.cell 3
              have d4 := K.cell 4
              simp only [List.getElem?_cons_zero, List.getElem?_cons_succ] at d0 d1 d2 d3 d4
              have K2 := S14.out.out
              have a0 := K2.cell 0
              have a1 := K2.cell 1
              have a2 := K2.cell 2
              have a3 := K2.cell 3
              have a4 := K2.cell 4
              simp only [List.getElem?_cons_zero, List.getElem?_cons_succ] at a0 a1 a2 a3 a4
              have fa0 := K2.frozen 0
              have fa1 := K2.frozen 1
              have fa2 := K2.frozen 2
              have fa3 := K2.frozen 3
              have fa4 := K2.frozen 4

              obtain ⟨W20, hW20⟩ : ∃ W20, (((((wc.setCell ⟨w.heap.size, 0, none⟩ (.int .i64 r.m)).setCell ⟨w.heap.size, 1, none⟩ (.int .i64 r.b)).setCell ⟨w.heap.size, 2, none⟩ (.int .i64 r.s)).setCell ⟨w.heap.size, 3, none⟩ (.int .i64 r.c)).setCell ⟨w.heap.size, 4, none⟩ (.int .i64 r.l)) = W20 := ⟨_, rfl⟩
              have gw : wc.grownBy (((((wc.setCell ⟨w.heap.size, 0, none⟩ (.int .i64 r.m)).setCell ⟨w.heap.size, 1, none⟩ (.int .i64 r.b)).setCell ⟨w.heap.size, 2, none⟩ (.int .i64 r.s)).setCell ⟨w.heap.size, 3, none⟩ (.int .i64 r.c)).setCell ⟨w.heap.size, 4, none⟩ (.int .i64 r.l)) (some w.heap.size) := (grown_set (g := w.heap.size) (i := 4) (u := .int .i64 r.l) (grown_set (g := w.heap.size) (i := 3) (u := .int .i64 r.c) (grown_set (g := w.heap.size) (i := 2) (u := .int .i64 r.s) (grown_set (g := w.heap.size) (i := 1) (u := .int .i64 r.b) (grown_set (g := w.heap.size) (i := 0) (u := .int .i64 r.m) (World.grownBy.refl _ _))))))
              have kw : Lies (((((wc.setCell ⟨w.heap.size, 0, none⟩ (.int .i64 r.m)).setCell ⟨w.heap.size, 1, none⟩ (.int .i64 r.b)).setCell ⟨w.heap.size, 2, none⟩ (.int .i64 r.s)).setCell ⟨w.heap.size, 3, none⟩ (.int .i64 r.c)).setCell ⟨w.heap.size, 4, none⟩ (.int .i64 r.l)) w.heap.size 23 [.int .i64 r.m, .int .i64 r.b, .int .i64 r.s, .int .i64 r.c, .int .i64 r.l] := K2.set 0 (.int .i64 r.m) |>.set 1 (.int .i64 r.b) |>.set 2 (.int .i64 r.s) |>.set 3 (.int .i64 r.c) |>.set 4 (.int .i64 r.l)
              have BB := Lib.hid (bel_grow S14.out.bl gw (Nat.le_refl _) (Nat.le_refl _))
              rw [hW20] at kw BB
              have HW20 := Lib.hid hW20
              have HK := Lib.hid kw
              clear gw kw hW20 K2 S14
              repeat (first | go_values | go_skip | go_guarded | go_step | go_upon | simp only [])
              rw [HW20.out]
              have LS := HK.out
              have x0 := LS.cell 0
              have x1 := LS.cell 1
              have x2 := LS.cell 2
              have x3 := LS.cell 3
              have x4 := LS.cell 4
              simp only [List.getElem?_cons_zero, List.getElem?_cons_succ] at x0 x1 x2 x3 x4
              refine bodyPost_ret (v := .tuple #[.agg #[.int .i64 r.m, .int .i64 r.b, .int .i64 r.s, .int .i64 r.c, .int .i64 r.l], .bool true]) (by simp [results, Tryd.results5, go_sem, x0, x1, x2, x3, x4]) rfl ?_
              exact ⟨r, true, rfl, HRD.out, BB.out⟩
end Go.Proofs.YtpjfidmapnnbkaaDoor

/- OfficeLine, one side. -/
namespace Go.Proofs.YtpjfidmapnnbkaaDoor
open Go.RowKit
set_option linter.unusedSimpArgs false
set_option linter.unusedVariables false

set_option maxRecDepth 100000 in
set_option maxHeartbeats 4000000 in
theorem l31Line_any (r : Row) (w : World) (hok : r.ok = true) :
    Calls Tryd.prog 11 #[r.val] w fun e w' => e = .returned (.string (lineO r)) ∧ Below w.heap.size w w' := by
  have hb := Row.ok_bounds hok
  clear hok
  obtain ⟨m, b, s, c, l⟩ := r
  simp only at hb
  obtain ⟨hm0, hm1, hb0, hb1', hs0, hs1, hc0, hc1, hl0, hl1⟩ := hb
  have b1 := (Below.refl w.heap.size w).alloc (Nat.le_refl _) (.cells #[.int .i64 m, .int .i64 b, .int .i64 s, .int .i64 c, .int .i64 l] 23)
  have L1 := Lies.new w 23 #[.int .i64 m, .int .i64 b, .int .i64 s, .int .i64 c, .int .i64 l]
  obtain ⟨t1, e1⟩ : ∃ t : ByteArray, t = ⟨(Lib.itoa m).toArray⟩ := ⟨_, rfl⟩
  have y1 : t1.size ≤ 100 := by rw [e1]; exact itoa_len (by omega) (by omega)
  have N1 : Hid (∀ W, Calls Tryd.prog 21 #[.int .i64 (m)] W fun e w' => e = .returned (.string t1) ∧ Below W.heap.size W w') := by rw [e1]; exact fun W => l1Num_any _ W (by omega) (by omega)
  have HE1 : Hid (bl t1 = Lib.itoa m) := by rw [Hid, e1, bl_mk]
  obtain ⟨t2, e2⟩ : ∃ t : ByteArray, t = ⟨(Lib.itoa b).toArray⟩ := ⟨_, rfl⟩
  have y2 : t2.size ≤ 100 := by rw [e2]; exact itoa_len (by omega) (by omega)
  have N2 : Hid (∀ W, Calls Tryd.prog 21 #[.int .i64 (b)] W fun e w' => e = .returned (.string t2) ∧ Below W.heap.size W w') := by rw [e2]; exact fun W => l1Num_any _ W (by omega) (by omega)
  have HE2 : Hid (bl t2 = Lib.itoa b) := by rw [Hid, e2, bl_mk]
  obtain ⟨t3, e3⟩ : ∃ t : ByteArray, t = ⟨(Lib.itoa s).toArray⟩ := ⟨_, rfl⟩
  have y3 : t3.size ≤ 100 := by rw [e3]; exact itoa_len (by omega) (by omega)
  have N3 : Hid (∀ W, Calls Tryd.prog 21 #[.int .i64 (s)] W fun e w' => e = .returned (.string t3) ∧ Below W.heap.size W w') := by rw [e3]; exact fun W => l1Num_any _ W (by omega) (by omega)
  have HE3 : Hid (bl t3 = Lib.itoa s) := by rw [Hid, e3, bl_mk]
  obtain ⟨t4, e4⟩ : ∃ t : ByteArray, t = ⟨(Lib.itoa l).toArray⟩ := ⟨_, rfl⟩
  have y4 : t4.size ≤ 100 := by rw [e4]; exact itoa_len (by omega) (by omega)
  have N4 : Hid (∀ W, Calls Tryd.prog 21 #[.int .i64 (l)] W fun e w' => e = .returned (.string t4) ∧ Below W.heap.size W w') := by rw [e4]; exact fun W => l1Num_any _ W (by omega) (by omega)
  have HE4 : Hid (bl t4 = Lib.itoa l) := by rw [Hid, e4, bl_mk]
  clear e1 e2 e3 e4
  obtain ⟨a, ha⟩ : ∃ a : Nat, a = c.natAbs := ⟨_, rfl⟩
  have haz : a ≤ 1000000 := by omega
  obtain ⟨t5, e5⟩ : ∃ t : ByteArray, t = ⟨(Lib.itoa ((a : Int) / 100)).toArray⟩ := ⟨_, rfl⟩
  have y5 : t5.size ≤ 100 := by rw [e5]; exact itoa_len (by omega) (by omega)
  have N5 : Hid (∀ W, Calls Tryd.prog 21 #[.int .i64 ((a : Int) / 100)] W fun e w' => e = .returned (.string t5) ∧ Below W.heap.size W w') := by rw [e5]; exact fun W => l1Num_any _ W (by omega) (by omega)
  have HE5 : Hid (bl t5 = Lib.itoa ((a : Int) / 100)) := by rw [Hid, e5, bl_mk]
  obtain ⟨t6, e6⟩ : ∃ t : ByteArray, t = ⟨(Lib.itoa ((a : Int) / 10 % 10)).toArray⟩ := ⟨_, rfl⟩
  have y6 : t6.size ≤ 100 := by rw [e6]; exact itoa_len (by omega) (by omega)
  have N6 : Hid (∀ W, Calls Tryd.prog 21 #[.int .i64 ((a : Int) / 10 % 10)] W fun e w' => e = .returned (.string t6) ∧ Below W.heap.size W w') := by rw [e6]; exact fun W => l1Num_any _ W (by omega) (by omega)
  have HE6 : Hid (bl t6 = Lib.itoa ((a : Int) / 10 % 10)) := by rw [Hid, e6, bl_mk]
  obtain ⟨t7, e7⟩ : ∃ t : ByteArray, t = ⟨(Lib.itoa ((a : Int) % 10)).toArray⟩ := ⟨_, rfl⟩
  have y7 : t7.size ≤ 100 := by rw [e7]; exact itoa_len (by omega) (by omega)
  have N7 : Hid (∀ W, Calls Tryd.prog 21 #[.int .i64 ((a : Int) % 10)] W fun e w' => e = .returned (.string t7) ∧ Below W.heap.size W w') := by rw [e7]; exact fun W => l1Num_any _ W (by omega) (by omega)
  have HE7 : Hid (bl t7 = Lib.itoa ((a : Int) % 10)) := by rw [Hid, e7, bl_mk]
  clear e5 e6 e7
  have v1 : (a : Int).tdiv 100 = (a : Int) / 100 := Int.tdiv_eq_ediv_of_nonneg (by omega)
  have v2 : (a : Int).tdiv 10 = (a : Int) / 10 := Int.tdiv_eq_ediv_of_nonneg (by omega)
  have v3 : ((a : Int) / 10).tmod 10 = (a : Int) / 10 % 10 := Int.tmod_eq_emod_of_nonneg (by omega)
  have v4 : (a : Int).tmod 10 = (a : Int) % 10 := Int.tmod_eq_emod_of_nonneg (by omega)
  have z1 : (⟨#[109]⟩ : ByteArray).size = 1 := rfl
  have z2 : (⟨#[58, 32, 43]⟩ : ByteArray).size = 3 := rfl
  have z3 : (⟨#[32, 45]⟩ : ByteArray).size = 2 := rfl
  have z4 : (⟨#[32, 112, 114, 111, 102, 105, 116, 32]⟩ : ByteArray).size = 8 := rfl
  have z5 : (⟨#[45]⟩ : ByteArray).size = 1 := rfl
  have z6 : (⟨#[46]⟩ : ByteArray).size = 1 := rfl
  have z7 : (⟨#[32]⟩ : ByteArray).size = 1 := rfl
  have z8 : (⟨#[32, 108, 101, 110, 116]⟩ : ByteArray).size = 5 := rfl
  go_enter Tryd.func11, Tryd.ntmps11
  go_wp2_with fail
  generalize w.alloc (.cells #[.int .i64 m, .int .i64 b, .int .i64 s, .int .i64 c, .int .i64 l] 23) = W at b1 L1 ⊢
  generalize hg : w.heap.size = g at L1 ⊢
  refine wp_region_facts (fun W9 => Lies W9 g 23 [.int .i64 m, .int .i64 b, .int .i64 s, .int .i64 c, .int .i64 l] ∧ Below w.heap.size w W9) (fun _ _ => True) (by kernel_rfl) (by kernel_rfl) (by kernel_rfl) ⟨L1.below (Below.refl _ _).drew L1.lt, b1.drew⟩ ?_
  simp only [fillOps, Act.put, List.setIfInBounds_toArray, List.set_cons_zero, List.set_cons_succ, Nat.zero_add, Nat.reduceAdd]
  refine wpFacts_val (.pointer (some ⟨g, 0, none⟩)) (fun vs w9 hC9 hB K9 hK9 => ?_) ?_
  · go_simp
    exact hK9 _ _ rfl hC9 trivial
  refine wpFacts_val (.int .i64 m) (fun vs w9 hC9 hB K9 hK9 => ?_) ?_
  · have hd0 := hB 0 _ (by kernel_rfl) rfl
    simp only [hd0] at hK9 ⊢
    have q0 : w9.cell? ⟨g, 0, none⟩ = some (.int .i64 m) := hC9.1.cell 0
    go_simp
    exact hK9 _ _ rfl hC9 trivial
  refine wpFacts_val (.string t1) (fun vs w9 hC9 hB K9 hK9 => ?_) ?_
  · have hd1 := hB 1 _ (by kernel_rfl) rfl
    simp only [hd1] at hK9 ⊢
    go_simp
    refine (N1.out _).mono ?_
    rintro en w8 ⟨rfl, hb8⟩
    exact hK9 _ _ rfl ⟨hC9.1.below hb8 hC9.1.lt, hC9.2.trans (hb8.mono hC9.2.size)⟩ trivial
  refine wpFacts_val (.string (⟨#[109]⟩ ++ t1)) (fun vs w9 hC9 hB K9 hK9 => ?_) ?_
  · have hd2 := hB 2 _ (by kernel_rfl) rfl
    simp only [hd2] at hK9 ⊢
    go_simp
    (first | (rw [if_neg (by omega)]; go_simp) | skip)
    exact hK9 _ _ rfl hC9 trivial
  refine wpFacts_val (.string (⟨#[109]⟩ ++ t1 ++ ⟨#[58, 32, 43]⟩)) (fun vs w9 hC9 hB K9 hK9 => ?_) ?_
  · have hd3 := hB 3 _ (by kernel_rfl) rfl
    simp only [hd3] at hK9 ⊢
    go_simp
    (first | (rw [if_neg (by omega)]; go_simp) | skip)
    exact hK9 _ _ rfl hC9 trivial
  refine wpFacts_val (.pointer (some ⟨g, 1, none⟩)) (fun vs w9 hC9 hB K9 hK9 => ?_) ?_
  · go_simp
    exact hK9 _ _ rfl hC9 trivial
  refine wpFacts_val (.int .i64 b) (fun vs w9 hC9 hB K9 hK9 => ?_) ?_
  · have hd5 := hB 5 _ (by kernel_rfl) rfl
    simp only [hd5] at hK9 ⊢
    have q0 : w9.cell? ⟨g, 1, none⟩ = some (.int .i64 b) := hC9.1.cell 1
    go_simp
    exact hK9 _ _ rfl hC9 trivial
  refine wpFacts_val (.string t2) (fun vs w9 hC9 hB K9 hK9 => ?_) ?_
  · have hd6 := hB 6 _ (by kernel_rfl) rfl
    simp only [hd6] at hK9 ⊢
    go_simp
    refine (N2.out _).mono ?_
    rintro en w8 ⟨rfl, hb8⟩
    exact hK9 _ _ rfl ⟨hC9.1.below hb8 hC9.1.lt, hC9.2.trans (hb8.mono hC9.2.size)⟩ trivial
  refine wpFacts_val (.string (⟨#[109]⟩ ++ t1 ++ ⟨#[58, 32, 43]⟩ ++ t2)) (fun vs w9 hC9 hB K9 hK9 => ?_) ?_
  · have hd4 := hB 4 _ (by kernel_rfl) rfl
    have hd7 := hB 7 _ (by kernel_rfl) rfl
    simp only [hd4, hd7] at hK9 ⊢
    go_simp
    (first | (rw [if_neg (by omega)]; go_simp) | skip)
    exact hK9 _ _ rfl hC9 trivial
  refine wpFacts_val (.string (⟨#[109]⟩ ++ t1 ++ ⟨#[58, 32, 43]⟩ ++ t2 ++ ⟨#[32, 45]⟩)) (fun vs w9 hC9 hB K9 hK9 => ?_) ?_
  · have hd8 := hB 8 _ (by kernel_rfl) rfl
    simp only [hd8] at hK9 ⊢
    go_simp
    (first | (rw [if_neg (by omega)]; go_simp) | skip)
    exact hK9 _ _ rfl hC9 trivial
  refine wpFacts_val (.pointer (some ⟨g, 2, none⟩)) (fun vs w9 hC9 hB K9 hK9 => ?_) ?_
  · go_simp
    exact hK9 _ _ rfl hC9 trivial
  refine wpFacts_val (.int .i64 s) (fun vs w9 hC9 hB K9 hK9 => ?_) ?_
  · have hd10 := hB 10 _ (by kernel_rfl) rfl
    simp only [hd10] at hK9 ⊢
    have q0 : w9.cell? ⟨g, 2, none⟩ = some (.int .i64 s) := hC9.1.cell 2
    go_simp
    exact hK9 _ _ rfl hC9 trivial
  refine wpFacts_val (.string t3) (fun vs w9 hC9 hB K9 hK9 => ?_) ?_
  · have hd11 := hB 11 _ (by kernel_rfl) rfl
    simp only [hd11] at hK9 ⊢
    go_simp
    refine (N3.out _).mono ?_
    rintro en w8 ⟨rfl, hb8⟩
    exact hK9 _ _ rfl ⟨hC9.1.below hb8 hC9.1.lt, hC9.2.trans (hb8.mono hC9.2.size)⟩ trivial
  refine wpFacts_val (.string (⟨#[109]⟩ ++ t1 ++ ⟨#[58, 32, 43]⟩ ++ t2 ++ ⟨#[32, 45]⟩ ++ t3)) (fun vs w9 hC9 hB K9 hK9 => ?_) ?_
  · have hd9 := hB 9 _ (by kernel_rfl) rfl
    have hd12 := hB 12 _ (by kernel_rfl) rfl
    simp only [hd9, hd12] at hK9 ⊢
    go_simp
    (first | (rw [if_neg (by omega)]; go_simp) | skip)
    exact hK9 _ _ rfl hC9 trivial
  refine wpFacts_val (.string (⟨#[109]⟩ ++ t1 ++ ⟨#[58, 32, 43]⟩ ++ t2 ++ ⟨#[32, 45]⟩ ++ t3 ++ ⟨#[32, 112, 114, 111, 102, 105, 116, 32]⟩)) (fun vs w9 hC9 hB K9 hK9 => ?_) ?_
  · have hd13 := hB 13 _ (by kernel_rfl) rfl
    simp only [hd13] at hK9 ⊢
    go_simp
    (first | (rw [if_neg (by omega)]; go_simp) | skip)
    exact hK9 _ _ rfl hC9 trivial
  refine wpFacts_val (.string (⟨#[109]⟩ ++ t1 ++ ⟨#[58, 32, 43]⟩ ++ t2 ++ ⟨#[32, 45]⟩ ++ t3 ++ ⟨#[32, 112, 114, 111, 102, 105, 116, 32]⟩)) (fun vs w9 hC9 hB K9 hK9 => ?_) ?_
  · have hd14 := hB 14 _ (by kernel_rfl) rfl
    simp only [hd14] at hK9 ⊢
    go_simp
    exact hK9 _ _ rfl hC9 trivial
  refine wpFacts_nil fun vs W2 hC9 hB => ?_
  have hd15 := hB 15 _ rfl
  simp only [hd15]
  obtain ⟨L2, B2⟩ := hC9
  have c3 := L2.cell 3
  have c4 := L2.cell 4
  simp only [List.getElem?_cons_zero, List.getElem?_cons_succ] at c3 c4
  obtain ⟨p, hp⟩ : ∃ p : ByteArray, p = ⟨#[109]⟩ ++ t1 ++ ⟨#[58, 32, 43]⟩ ++ t2 ++ ⟨#[32, 45]⟩ ++ t3 ++ ⟨#[32, 112, 114, 111, 102, 105, 116, 32]⟩ := ⟨_, rfl⟩
  have hpz : p.size ≤ 1000 := by rw [hp]; simp only [size_app, z1, z2, z3, z4]; omega
  have HP : Hid (bl p = [109] ++ Lib.itoa m ++ [58, 32, 43] ++ Lib.itoa b ++ [32, 45] ++ Lib.itoa s ++ [32, 112, 114, 111, 102, 105, 116, 32]) := by
    rw [Hid, hp]; simp only [bl_app, HE1.out, HE2.out, HE3.out]; rfl
  rw [← hp]
  clear hp hB hd15 L1
  by_cases hneg : c < 0
  · obtain rfl : c = -(a : Int) := by omega
    have hap : 0 < a := by omega
    have dn : decide (-(a : Int) < 0) = true := decide_eq_true hneg
    have dn2 : decide (0 < (a : Int)) = true := decide_eq_true (by omega)
    have dn3 : decide (0 < a) = true := decide_eq_true hap
    have HCn : Hid ((-(a : Int) < 0) = True) := eq_true hneg
    have HA : Hid ((-(a : Int)).natAbs = a) := ha.symm
    have HM1 : Hid (max (-(a : Int)) (a : Int) = (a : Int)) := by unfold Hid; omega
    have HM2 : Hid ((if -(a : Int) < (a : Int) then (a : Int) else -(a : Int)) = (a : Int)) := by unfold Hid; rw [if_pos (by omega)]
    clear ha hneg
    by_cases hl : 0 < l
    · have dl : decide (0 < l) = true := decide_eq_true hl
      have HLn : Hid ((0 < l) = True) := eq_true hl
      clear hl
      go_wp2_with fail
      refine (N5.out _).mono ?_
      rintro en w3 ⟨rfl, hb3⟩
      have L3 := L2.below hb3 L2.lt
      have B3 := B2.trans (hb3.mono B2.size)
      go_wp2_with fail
      refine (N6.out _).mono ?_
      rintro en w4 ⟨rfl, hb4⟩
      have L4 := L3.below hb4 L3.lt
      have B4 := B3.trans (hb4.mono B3.size)
      go_wp2_with fail
      refine (N7.out _).mono ?_
      rintro en w5 ⟨rfl, hb5⟩
      have L5 := L4.below hb5 L4.lt
      have B5 := B4.trans (hb5.mono B4.size)
      clear c3 c4
      have c3 := L5.cell 3
      have c4 := L5.cell 4
      simp only [List.getElem?_cons_zero, List.getElem?_cons_succ] at c3 c4
      go_wp2_with fail
      refine (N4.out _).mono ?_
      rintro en w6 ⟨rfl, hb6⟩
      have B6 := B5.trans (hb6.mono B5.size)
      go_wp2_with fail
      have key : (p ++ ⟨#[45]⟩ ++ t5 ++ ⟨#[46]⟩ ++ t6 ++ t7 ++ ⟨#[32]⟩ ++ t4 ++ ⟨#[32, 108, 101, 110, 116]⟩ : ByteArray) = lineO ⟨m, b, s, -(a : Int), l⟩ := bl_ext (l := lineT ⟨m, b, s, -(a : Int), l⟩) (by
        simp only [lineT, bl_app, HP.out, HE4.out, HE5.out, HE6.out, HE7.out, hundT_int, HCn.out, HA.out, HLn.out, if_true, if_false, List.append_assoc, List.append_nil, List.nil_append]
        try rfl)
      go_ret
      exact ⟨by rw [← key]; rfl, B6⟩
    · have dl : decide (0 < l) = false := decide_eq_false hl
      have HLn : Hid ((0 < l) = False) := eq_false hl
      clear hl
      go_wp2_with fail
      refine (N5.out _).mono ?_
      rintro en w3 ⟨rfl, hb3⟩
      have L3 := L2.below hb3 L2.lt
      have B3 := B2.trans (hb3.mono B2.size)
      go_wp2_with fail
      refine (N6.out _).mono ?_
      rintro en w4 ⟨rfl, hb4⟩
      have L4 := L3.below hb4 L3.lt
      have B4 := B3.trans (hb4.mono B3.size)
      go_wp2_with fail
      refine (N7.out _).mono ?_
      rintro en w5 ⟨rfl, hb5⟩
      have L5 := L4.below hb5 L4.lt
      have B5 := B4.trans (hb5.mono B4.size)
      clear c3 c4
      have c3 := L5.cell 3
      have c4 := L5.cell 4
      simp only [List.getElem?_cons_zero, List.getElem?_cons_succ] at c3 c4
      go_wp2_with fail
      have key : (p ++ ⟨#[45]⟩ ++ t5 ++ ⟨#[46]⟩ ++ t6 ++ t7 : ByteArray) = lineO ⟨m, b, s, -(a : Int), l⟩ := bl_ext (l := lineT ⟨m, b, s, -(a : Int), l⟩) (by
        simp only [lineT, bl_app, HP.out, HE4.out, HE5.out, HE6.out, HE7.out, hundT_int, HCn.out, HA.out, HLn.out, if_true, if_false, List.append_assoc, List.append_nil, List.nil_append]
        try rfl)
      go_ret
      exact ⟨by rw [← key]; rfl, B5⟩
  · obtain rfl : c = (a : Int) := by omega
    have dn : decide ((a : Int) < 0) = false := decide_eq_false hneg
    have HCn : Hid (((a : Int) < 0) = False) := eq_false hneg
    have HA : Hid ((a : Int).natAbs = a) := ha.symm
    have HM1 : Hid (max (a : Int) (-(a : Int)) = (a : Int)) := by unfold Hid; omega
    have HM2 : Hid ((if (a : Int) < -(a : Int) then -(a : Int) else (a : Int)) = (a : Int)) := by unfold Hid; rw [if_neg (by omega)]
    clear ha hneg
    by_cases hl : 0 < l
    · have dl : decide (0 < l) = true := decide_eq_true hl
      have HLn : Hid ((0 < l) = True) := eq_true hl
      clear hl
      go_wp2_with fail
      refine (N5.out _).mono ?_
      rintro en w3 ⟨rfl, hb3⟩
      have L3 := L2.below hb3 L2.lt
      have B3 := B2.trans (hb3.mono B2.size)
      go_wp2_with fail
      refine (N6.out _).mono ?_
      rintro en w4 ⟨rfl, hb4⟩
      have L4 := L3.below hb4 L3.lt
      have B4 := B3.trans (hb4.mono B3.size)
      go_wp2_with fail
      refine (N7.out _).mono ?_
      rintro en w5 ⟨rfl, hb5⟩
      have L5 := L4.below hb5 L4.lt
      have B5 := B4.trans (hb5.mono B4.size)
      clear c3 c4
      have c3 := L5.cell 3
      have c4 := L5.cell 4
      simp only [List.getElem?_cons_zero, List.getElem?_cons_succ] at c3 c4
      go_wp2_with fail
      refine (N4.out _).mono ?_
      rintro en w6 ⟨rfl, hb6⟩
      have B6 := B5.trans (hb6.mono B5.size)
      go_wp2_with fail
      have key : (p ++ t5 ++ ⟨#[46]⟩ ++ t6 ++ t7 ++ ⟨#[32]⟩ ++ t4 ++ ⟨#[32, 108, 101, 110, 116]⟩ : ByteArray) = lineO ⟨m, b, s, (a : Int), l⟩ := bl_ext (l := lineT ⟨m, b, s, (a : Int), l⟩) (by
        simp only [lineT, bl_app, HP.out, HE4.out, HE5.out, HE6.out, HE7.out, hundT_int, HCn.out, HA.out, HLn.out, if_true, if_false, List.append_assoc, List.append_nil, List.nil_append]
        try rfl)
      go_ret
      exact ⟨by rw [← key]; rfl, B6⟩
    · have dl : decide (0 < l) = false := decide_eq_false hl
      have HLn : Hid ((0 < l) = False) := eq_false hl
      clear hl
      go_wp2_with fail
      refine (N5.out _).mono ?_
      rintro en w3 ⟨rfl, hb3⟩
      have L3 := L2.below hb3 L2.lt
      have B3 := B2.trans (hb3.mono B2.size)
      go_wp2_with fail
      refine (N6.out _).mono ?_
      rintro en w4 ⟨rfl, hb4⟩
      have L4 := L3.below hb4 L3.lt
      have B4 := B3.trans (hb4.mono B3.size)
      go_wp2_with fail
      refine (N7.out _).mono ?_
      rintro en w5 ⟨rfl, hb5⟩
      have L5 := L4.below hb5 L4.lt
      have B5 := B4.trans (hb5.mono B4.size)
      clear c3 c4
      have c3 := L5.cell 3
      have c4 := L5.cell 4
      simp only [List.getElem?_cons_zero, List.getElem?_cons_succ] at c3 c4
      go_wp2_with fail
      have key : (p ++ t5 ++ ⟨#[46]⟩ ++ t6 ++ t7 : ByteArray) = lineO ⟨m, b, s, (a : Int), l⟩ := bl_ext (l := lineT ⟨m, b, s, (a : Int), l⟩) (by
        simp only [lineT, bl_app, HP.out, HE4.out, HE5.out, HE6.out, HE7.out, hundT_int, HCn.out, HA.out, HLn.out, if_true, if_false, List.append_assoc, List.append_nil, List.nil_append]
        try rfl)
      go_ret
      exact ⟨by rw [← key]; rfl, B5⟩
end Go.Proofs.YtpjfidmapnnbkaaDoor
