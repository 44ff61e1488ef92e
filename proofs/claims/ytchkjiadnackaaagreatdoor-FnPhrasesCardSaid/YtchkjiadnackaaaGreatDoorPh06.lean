/- Ph06: the texts ParseP DrawWrd LibW Split SplitL CutP NumW ReadN ParseInt, joined into one file. -/
import Derived.Test.YtchkjiadnackaaaGreatDoorProg
import Derived.Lib.Split
import Derived.Lib.CountLaws
import Derived.Deep.DeepCutAuto
import Derived.Lib.AtoiErrMem
import Derived.Test.YtchkjiadnackaaaGreatDoorPh02
import Derived.Test.YtchkjiadnackaaaGreatDoorPh03
import Derived.Test.YtchkjiadnackaaaGreatDoorPh04
import Derived.Test.YtchkjiadnackaaaGreatDoorPh05

set_option linter.unusedVariables false

/- A phrase is read back from its short text, in the program's way and in the reference's (plain). -/
namespace Go.Proofs.YtchkjiadnackaaaGreatDoor

def shortD (x : PhD) : List UInt8 := markT x.1 ++ copT x.2.1 ++ fauT x.2.2.1 ++ priT x.2.2.2
/-- The number of a text, or 0. -/
noncomputable def numD (t : List UInt8) : Int := (numF t).getD 0
theorem numD_itoa {n : Int} (h : Six n) : numD (Lib.itoa n) = n := by unfold numD; rw [numF_some h]; rfl
theorem numD_six (t : List UInt8) : Six (numD t) := by
  unfold numD
  cases h : numF t with
  | none => exact ⟨by simp, by simp⟩
  | some n => exact (numF_is h).1
/-- What stands behind the first b. -/
def aft (b : UInt8) (l : List UInt8) : List UInt8 := l.drop ((bef b l).length + 1)
theorem aft_mid {b : UInt8} {t r : List UInt8} (h : b ∉ t) : aft b (t ++ b :: r) = r := by
  unfold aft
  rw [bef_mid h, List.drop_append]
  simp
/-- The phrase that the reference reads. -/
noncomputable def specD (s : List UInt8) : PhD :=
  let parts := splitL 61 s
  let faults := splitL 33 (parts.headD [])
  let head := splitL 40 (faults.headD [])
  let last := head.getLastD []
  (if head.headD [] = [42] then 2 else if head.headD [] = [42, 42] then 1 else 3,
   if head.length = 2 ∧ 1 < last.length then numD (last.take (last.length - 1)) else 1,
   faults.tail.map numD,
   if parts.length = 2 then numD (parts.getD 1 []) else 0)
def stateD (t : List UInt8) : Int := if t = [42, 42] then 1 else if t = [42] then 2 else if t = [111] then 3 else 0
/-- The phrase that the program reads. -/
noncomputable def implD (s : List UInt8) : PhD :=
  let faults := splitL 33 (bef 61 s)
  let p := faults.headD []
  (stateD (bef 40 p), if (40 : UInt8) ∈ p then numD (Lib.trimSuffix (aft 40 p) [41]) else 1, faults.tail.map numD, if (61 : UInt8) ∈ s then numD (aft 61 s) else 0)

theorem itoa_free' {n : Int} {b : UInt8} (h : b.toNat < 45 ∨ 57 < b.toNat) : b ∉ Lib.itoa n := by
  unfold Lib.itoa
  split
  · intro hm
    rcases List.mem_cons.1 hm with e | e
    · subst e
      have h45 : (45 : UInt8).toNat = 45 := rfl
      omega
    · have := dec_digit _ _ e; omega
  · intro hm
    have := dec_digit _ _ hm; omega
theorem mark_free {s : Int} {b : UInt8} (h : b ≠ 42 ∧ b ≠ 111) : b ∉ markT s := by
  unfold markT
  split
  · simp [h.1]
  · split
    · simp [h.1]
    · simp [h.2]
theorem cop_free {c : Int} {b : UInt8} (h : b.toNat < 40 ∨ 57 < b.toNat) : b ∉ copT c := by
  unfold copT
  have h40 : (40 : UInt8).toNat = 40 := rfl
  have h41 : (41 : UInt8).toNat = 41 := rfl
  split
  · intro hm
    rw [List.mem_append, List.mem_cons, List.mem_singleton] at hm
    rcases hm with (e | e) | e
    · subst e; omega
    · exact itoa_free' (by omega) e
    · subst e; omega
  · simp
theorem fau_free {b : UInt8} (h : 57 < b.toNat) : ∀ l : List Int, b ∉ fauT l
  | [] => by simp [fauT]
  | f :: l => by
    have h33 : (33 : UInt8).toNat = 33 := rfl
    intro hm
    rw [fauT, List.mem_append, List.mem_cons] at hm
    rcases hm with (e | e) | e
    · subst e; omega
    · exact itoa_free' (by omega) e
    · exact fau_free h l e
theorem fau_split : ∀ (l : List Int) (t : List UInt8), (33 : UInt8) ∉ t → splitL 33 (t ++ fauT l) = t :: l.map Lib.itoa
  | [], t, h => by rw [fauT, List.append_nil, split_free h]; rfl
  | f :: l, t, h => by
    rw [fauT, List.cons_append, split_mid h, fau_split l (Lib.itoa f) (itoa_free' (by decide))]; rfl
theorem okD_iff {x : PhD} : okD x = true ↔ (1 ≤ x.1 ∧ x.1 ≤ 3) ∧ (1 ≤ x.2.1 ∧ x.2.1 ≤ 99) ∧ rises 1 9 x.2.2.1 = true ∧ 0 ≤ x.2.2.2 ∧ x.2.2.2 ≤ 999999 := by
  unfold okD
  simp only [Bool.and_eq_true, inR_iff, and_assoc]
theorem faults_in {l : List Int} (h : rises 1 9 l = true) : ∀ f ∈ l, 1 ≤ f ∧ f ≤ 9 := fun f hf => by
  rw [rises_eq, Bool.and_eq_true, List.all_eq_true] at h
  exact inR_iff.1 (h.2 _ hf)
theorem map_num {l : List Int} (h : ∀ f ∈ l, 1 ≤ f ∧ f ≤ 9) : (l.map Lib.itoa).map numD = l := by
  rw [List.map_map]
  refine (List.map_congr_left fun f hf => ?_).trans (List.map_id l)
  have := h f hf
  exact numD_itoa ⟨by omega, by omega⟩
/-- The three cuts of a short text. -/
theorem short_cuts {x : PhD} (h : okD x = true) :
    (61 : UInt8) ∉ markT x.1 ++ copT x.2.1 ++ fauT x.2.2.1 ∧ (33 : UInt8) ∉ markT x.1 ++ copT x.2.1 ∧ (40 : UInt8) ∉ markT x.1 := by
  refine ⟨?_, ?_, mark_free (by decide)⟩
  · rw [List.mem_append, List.mem_append]
    rintro ((e | e) | e)
    · exact mark_free (by decide) e
    · exact cop_free (by decide) e
    · exact fau_free (by decide) _ e
  · rw [List.mem_append]
    rintro (e | e)
    · exact mark_free (by decide) e
    · exact cop_free (by decide) e
theorem mark_state {s : Int} (h : 1 ≤ s ∧ s ≤ 3) : stateD (markT s) = s ∧ (if markT s = [42] then (2 : Int) else if markT s = [42, 42] then 1 else 3) = s := by
  have : s = 1 ∨ s = 2 ∨ s = 3 := by omega
  rcases this with rfl | rfl | rfl <;> exact ⟨by decide, by decide⟩
theorem itoa_pos {c : Int} : 1 ≤ (Lib.itoa c).length := by
  unfold Lib.itoa
  split
  · simp
  · rw [Lib.decDigits_length]; exact Lib.nDigits_pos _
theorem spec_short {x : PhD} (h : okD x = true) : specD (shortD x) = x := by
  obtain ⟨f1, f2, f3⟩ := short_cuts h
  obtain ⟨hs, hc, hf, hp⟩ := okD_iff.1 h
  obtain ⟨s, c, f, p⟩ := x
  simp only at f1 f2 f3 hs hc hf hp
  have e2 : splitL 33 (markT s ++ copT c ++ fauT f) = (markT s ++ copT c) :: f.map Lib.itoa := fau_split _ _ f2
  have e1 : ∃ ps, splitL 61 (shortD (s, c, f, p)) = (markT s ++ copT c ++ fauT f) :: ps ∧ (if ((markT s ++ copT c ++ fauT f) :: ps).length = 2 then numD (((markT s ++ copT c ++ fauT f) :: ps).getD 1 []) else 0) = p := by
    unfold shortD priT
    simp only
    by_cases hp0 : 0 < p
    · rw [if_pos hp0]
      refine ⟨[Lib.itoa p], by rw [split_mid f1, split_free (itoa_free' (by decide))], ?_⟩
      simp only [List.length_cons, List.length_nil, if_true, List.getD_cons_succ, List.getD_cons_zero]
      exact numD_itoa ⟨by omega, by omega⟩
    · rw [if_neg hp0]
      refine ⟨[], by rw [List.append_nil, split_free f1], ?_⟩
      simp; omega
  obtain ⟨ps, e1, ep⟩ := e1
  have e3 : ∃ hs', splitL 40 (markT s ++ copT c) = markT s :: hs' ∧ (if (markT s :: hs').length = 2 ∧ 1 < ((markT s :: hs').getLastD []).length then numD (((markT s :: hs').getLastD []).take (((markT s :: hs').getLastD []).length - 1)) else 1) = c := by
    unfold copT
    by_cases hc1 : 1 < c
    · rw [if_pos hc1]
      refine ⟨[Lib.itoa c ++ [41]], ?_, ?_⟩
      · rw [show markT s ++ (40 :: Lib.itoa c ++ [41]) = markT s ++ 40 :: (Lib.itoa c ++ [41]) by simp, split_mid f3, split_free]
        rw [List.mem_append]
        rintro (e | e)
        · exact itoa_free' (by decide) e
        · simp at e
      · have := @itoa_pos c
        have hl : ([markT s, Lib.itoa c ++ [41]] : List (List UInt8)).getLastD [] = Lib.itoa c ++ [41] := rfl
        rw [hl, if_pos ⟨rfl, by simp; omega⟩]
        rw [show (Lib.itoa c ++ [(41 : UInt8)]).length - 1 = (Lib.itoa c).length by simp, List.take_left' rfl]
        exact numD_itoa ⟨by omega, by omega⟩
    · rw [if_neg hc1]
      refine ⟨[], by rw [List.append_nil, split_free f3], ?_⟩
      rw [if_neg (by simp)]; omega
  obtain ⟨hs', e3, ec⟩ := e3
  unfold specD
  simp only [e1, e2, e3, List.headD_cons, List.tail_cons]
  rw [ec, ep, (mark_state hs).2, map_num (faults_in hf)]
theorem impl_short {x : PhD} (h : okD x = true) : implD (shortD x) = x := by
  obtain ⟨f1, f2, f3⟩ := short_cuts h
  obtain ⟨hs, hc, hf, hp⟩ := okD_iff.1 h
  obtain ⟨s, c, f, p⟩ := x
  simp only at f1 f2 f3 hs hc hf hp
  have e2 : splitL 33 (markT s ++ copT c ++ fauT f) = (markT s ++ copT c) :: f.map Lib.itoa := fau_split _ _ f2
  have e1 : bef 61 (shortD (s, c, f, p)) = markT s ++ copT c ++ fauT f ∧ (if (61 : UInt8) ∈ shortD (s, c, f, p) then numD (aft 61 (shortD (s, c, f, p))) else 0) = p := by
    unfold shortD priT
    simp only
    by_cases hp0 : 0 < p
    · rw [if_pos hp0]
      refine ⟨bef_mid f1, ?_⟩
      rw [if_pos (by simp), aft_mid f1]
      exact numD_itoa ⟨by omega, by omega⟩
    · rw [if_neg hp0, List.append_nil]
      refine ⟨bef_free f1, ?_⟩
      rw [if_neg f1]; omega
  have e3 : bef 40 (markT s ++ copT c) = markT s ∧ (if (40 : UInt8) ∈ markT s ++ copT c then numD (Lib.trimSuffix (aft 40 (markT s ++ copT c)) [41]) else 1) = c := by
    unfold copT
    by_cases hc1 : 1 < c
    · rw [if_pos hc1, show markT s ++ (40 :: Lib.itoa c ++ [41]) = markT s ++ 40 :: (Lib.itoa c ++ [41]) by simp]
      refine ⟨bef_mid f3, ?_⟩
      rw [if_pos (by simp), aft_mid f3]
      have : Lib.trimSuffix (Lib.itoa c ++ [41]) [41] = Lib.itoa c := by
        unfold Lib.trimSuffix Lib.hasSuffix
        have hsuf : List.isSuffixOf [41] (Lib.itoa c ++ [(41 : UInt8)]) = true := by
          rw [List.isSuffixOf_iff_suffix]; exact List.suffix_append _ _
        rw [if_pos hsuf]
        rw [show (Lib.itoa c ++ [(41 : UInt8)]).length - ([41] : List UInt8).length = (Lib.itoa c).length by simp, List.take_left' rfl]
      rw [this]
      exact numD_itoa ⟨by omega, by omega⟩
    · rw [if_neg hc1, List.append_nil]
      refine ⟨bef_free f3, ?_⟩
      rw [if_neg f3]; omega
  unfold implD
  simp only [e1.1, e2, List.headD_cons, List.tail_cons, e3.1]
  rw [e3.2, e1.2, (mark_state hs).1, map_num (faults_in hf)]
/-- What reading gives. -/
noncomputable def readD (s : List UInt8) : Option PhD := if okD (implD s) = true ∧ shortD (implD s) = s then some (implD s) else none
theorem readD_impl {s : List UInt8} : readD s = if okD (implD s) = true ∧ shortD (implD s) = s then some (implD s) else none := rfl
theorem readD_spec {s : List UInt8} : readD s = if okD (specD s) = true ∧ shortD (specD s) = s then some (specD s) else none := by
  unfold readD
  by_cases h1 : okD (implD s) = true ∧ shortD (implD s) = s
  · have h2 := spec_short h1.1
    rw [h1.2] at h2
    rw [if_pos h1, h2, if_pos h1]
  · rw [if_neg h1, if_neg]
    intro h3
    have h2 := impl_short h3.1
    rw [h3.2] at h2
    rw [h2] at h1
    exact h1 h3
theorem readD_short {x : PhD} (h : okD x = true) : readD (shortD x) = some x := by
  rw [readD_impl, impl_short h, if_pos ⟨h, rfl⟩]
theorem readD_is {s : List UInt8} {x : PhD} (h : readD s = some x) : okD x = true ∧ shortD x = s := by
  unfold readD at h
  split at h
  · next h1 => injection h with h; subst h; exact h1
  · cases h
theorem nDigits_pow (k : Nat) : ∀ n : Nat, n < 10 ^ (k + 1) → Lib.nDigits n ≤ k + 1 := by
  induction k with
  | zero => intro n hn; rw [Lib.nDigits_small (by simpa using hn)]; omega
  | succ k ih =>
    intro n hn
    by_cases hs : n < 10
    · rw [Lib.nDigits_small hs]; omega
    · rw [Lib.nDigits_big hs]
      have := ih (n / 10) (Nat.div_lt_of_lt_mul (by rw [Nat.mul_comm, ← Nat.pow_succ]; exact hn))
      omega
theorem itoa_pow {n : Int} (k : Nat) (h0 : 0 ≤ n) (h : n < ((10 ^ (k + 1) : Nat) : Int)) : (Lib.itoa n).length ≤ k + 1 := by
  unfold Lib.itoa
  rw [if_neg (by omega), Lib.decDigits_length]
  exact nDigits_pow k _ (by omega)
theorem fau_len : ∀ l : List Int, (∀ f ∈ l, 1 ≤ f ∧ f ≤ 9) → (fauT l).length ≤ 2 * l.length
  | [], _ => by simp [fauT]
  | f :: l, h => by
    have h1 := h f (by simp)
    have h2 := itoa_pow (n := f) 0 (by omega) (by simp; omega)
    have h3 := fau_len l fun g hg => h g (by simp [hg])
    simp only [fauT, List.length_append, List.length_cons]
    omega
theorem short_len {x : PhD} (h : okD x = true) : 1 ≤ (shortD x).length ∧ (shortD x).length ≤ 31 := by
  obtain ⟨hs, hc, hf, hp⟩ := okD_iff.1 h
  have h1 : 1 ≤ (markT x.1).length ∧ (markT x.1).length ≤ 2 := by
    unfold markT; split
    · simp
    · split <;> simp
  have h2 : (copT x.2.1).length ≤ 4 := by
    have := itoa_pow (n := x.2.1) 1 (by omega) (by simp; omega)
    unfold copT; split
    · simp; omega
    · simp
  have h3 := fau_len _ (faults_in hf)
  have h4 := faults9 hf
  have h5 : (priT x.2.2.2).length ≤ 7 := by
    have := itoa_pow (n := x.2.2.2) 5 (by omega) (by simp; omega)
    unfold priT; split
    · simp; omega
    · simp
  unfold shortD
  simp only [List.length_append]
  omega
theorem readD_long {s : List UInt8} (h : 31 < s.length) : readD s = none := by
  cases hr : readD s with
  | none => rfl
  | some x => obtain ⟨h1, h2⟩ := readD_is hr; have := short_len h1; rw [h2] at this; omega

/-- What reading a phrase gives. -/
noncomputable def readOf (s : List UInt8) : PhD × Bool := match readD s with
  | some x => (x, true)
  | none => ((0, 0, [], 0), false)

/-! ### Lists -/
theorem short_space {x : PhD} : (32 : UInt8) ∉ shortD x := by
  have h3 : ∀ l : List Int, (32 : UInt8) ∉ fauT l := by
    intro l
    induction l with
    | nil => simp [fauT]
    | cons f l ih =>
      rw [fauT, List.mem_append, List.mem_cons]
      rintro ((e | e) | e)
      · exact absurd e (by decide)
      · exact itoa_free' (by decide) e
      · exact ih e
  have h2 : (32 : UInt8) ∉ copT x.2.1 := cop_free (by decide)
  have h4 : (32 : UInt8) ∉ priT x.2.2.2 := by
    unfold priT; split
    · rw [List.mem_cons]
      rintro (e | e)
      · exact absurd e (by decide)
      · exact itoa_free' (by decide) e
    · simp
  unfold shortD
  simp only [List.mem_append]
  rintro (((e | e) | e) | e)
  · exact mark_free (by decide) e
  · exact h2 e
  · exact h3 _ e
  · exact h4 e
/-- Each one read, or none. -/
noncomputable def readAll : List (List UInt8) → Option (List PhD)
  | [] => some []
  | t :: ts => match readD t with
    | none => none
    | some x => match readAll ts with
      | none => none
      | some xs => some (x :: xs)
theorem readAll_snoc : ∀ (ts : List (List UInt8)) (t : List UInt8), readAll (ts ++ [t]) = match readAll ts with
    | none => none
    | some xs => match readD t with
      | none => none
      | some x => some (xs ++ [x])
  | [], t => by simp only [List.nil_append, readAll]
  | u :: ts, t => by
    simp only [List.cons_append, readAll, readAll_snoc ts t]
    cases readD u with
    | none => rfl
    | some y =>
      cases readAll ts with
      | none => rfl
      | some xs => cases readD t <;> rfl
theorem readAll_none {ts : List (List UInt8)} {k : Nat} (h : readAll (ts.take k) = none) : readAll ts = none := by
  induction ts generalizing k with
  | nil => simp [readAll] at h
  | cons t ts ih =>
    cases k with
    | zero => simp [readAll] at h
    | succ k =>
      simp only [List.take_succ_cons, readAll] at h ⊢
      cases hd : readD t with
      | none => rfl
      | some x =>
        rw [hd] at h
        simp only at h ⊢
        cases ha : readAll (ts.take k) with
        | none => rw [ih ha]
        | some xs => rw [ha] at h; cases h
theorem readAll_len : ∀ {ts : List (List UInt8)} {xs : List PhD}, readAll ts = some xs → xs.length = ts.length
  | [], xs, h => by simp only [readAll, Option.some.injEq] at h; subst h; rfl
  | t :: ts, xs, h => by
    simp only [readAll] at h
    cases hd : readD t with
    | none => rw [hd] at h; cases h
    | some x =>
      rw [hd] at h; simp only at h
      cases ha : readAll ts with
      | none => rw [ha] at h; cases h
      | some ys => rw [ha] at h; simp only [Option.some.injEq] at h; subst h; simp [readAll_len ha]
theorem readAll_ok : ∀ {ts : List (List UInt8)} {xs : List PhD}, readAll ts = some xs → ∀ x ∈ xs, okD x = true
  | [], xs, h => by simp only [readAll, Option.some.injEq] at h; subst h; simp
  | t :: ts, xs, h => by
    simp only [readAll] at h
    cases hd : readD t with
    | none => rw [hd] at h; cases h
    | some x =>
      rw [hd] at h; simp only at h
      cases ha : readAll ts with
      | none => rw [ha] at h; cases h
      | some ys =>
        rw [ha] at h; simp only [Option.some.injEq] at h; subst h
        intro y hy
        rcases List.mem_cons.1 hy with e | e
        · subst e; exact (readD_is hd).1
        · exact readAll_ok ha y e
/-- The bytes of texts with one between. -/
def joinLen : List (List UInt8) → Nat
  | [] => 0
  | t :: ts => t.length + 1 + joinLen ts
theorem parts_total (b : UInt8) : ∀ (l cur : List UInt8), joinLen (partsL b cur l) = cur.length + l.length + 1
  | [], cur => by simp [partsL, joinLen]
  | x :: l, cur => by
    unfold partsL; split
    · rw [joinLen, parts_total b l []]; simp; omega
    · rw [parts_total b l (cur ++ [x])]; simp; omega
theorem readAll_total : ∀ {ts : List (List UInt8)} {xs : List PhD}, readAll ts = some xs → joinLen ts ≤ 32 * ts.length
  | [], xs, _ => by simp [joinLen]
  | t :: ts, xs, h => by
    simp only [readAll] at h
    cases hd : readD t with
    | none => rw [hd] at h; cases h
    | some x =>
      rw [hd] at h; simp only at h
      cases ha : readAll ts with
      | none => rw [ha] at h; cases h
      | some ys =>
        have h1 := readD_is hd
        have h2 := short_len h1.1
        rw [h1.2] at h2
        have h3 := readAll_total ha
        rw [joinLen, List.length_cons]; omega
/-- What reading a list gives. -/
noncomputable def readL (s : List UInt8) : List PhD × Bool :=
  if s = [] then ([], true) else
  if (splitL 32 s).length ≤ 10 then (match readAll (splitL 32 s) with | some xs => (xs, true) | none => ([], false)) else ([], false)
theorem readL_long {s : List UInt8} (h : 400 < s.length) : readL s = ([], false) := by
  unfold readL
  rw [if_neg (by intro e; subst e; simp at h)]
  split
  · next h1 =>
    cases ha : readAll (splitL 32 s) with
    | none => rfl
    | some xs =>
      have h2 := readAll_total ha
      have h3 := parts_total 32 s []
      unfold splitL at h1 h2
      simp at h3
      omega
  · rfl
theorem readL_good {s : List UInt8} : goodD (readL s).1 = true := by
  unfold readL
  split
  · rfl
  · split
    · next h1 =>
      cases ha : readAll (splitL 32 s) with
      | none => rfl
      | some xs =>
        simp only [goodD, Bool.and_eq_true, decide_eq_true_eq, List.all_eq_true]
        exact ⟨by rw [readAll_len ha]; exact h1, readAll_ok ha⟩
    · rfl
/-- The text of a list. -/
def listD : List PhD → List UInt8
  | [] => []
  | [x] => shortD x
  | x :: y :: l => shortD x ++ 32 :: listD (y :: l)
theorem list_split : ∀ (x : PhD) (l : List PhD), splitL 32 (listD (x :: l)) = (x :: l).map shortD
  | x, [] => by rw [listD, split_free short_space]; rfl
  | x, y :: l => by rw [listD, split_mid short_space, list_split y l]; rfl
theorem readAll_short : ∀ l : List PhD, (∀ x ∈ l, okD x = true) → readAll (l.map shortD) = some l
  | [], _ => rfl
  | x :: l, h => by
    rw [List.map_cons, readAll, readD_short (h x (by simp)), readAll_short l fun y hy => h y (by simp [hy])]
theorem readL_list {l : List PhD} (h : goodD l = true) : readL (listD l) = (l, true) := by
  simp only [goodD, Bool.and_eq_true, decide_eq_true_eq, List.all_eq_true] at h
  cases l with
  | nil => rfl
  | cons x l =>
    unfold readL
    have hne : listD (x :: l) ≠ [] := by
      intro e
      have h1 := list_split x l
      rw [e] at h1
      have h2 := short_len (h.2 x (by simp))
      cases l with
      | nil => simp only [listD] at e; rw [e] at h2; simp at h2
      | cons y l => simp only [listD] at e; simp at e
    rw [if_neg hne, list_split, List.length_map, if_pos h.1, readAll_short _ h.2]
end Go.Proofs.YtchkjiadnackaaaGreatDoor

/- The reference draws a phrase, and words of phrases. -/
namespace Go.Proofs.YtchkjiadnackaaaGreatDoor
open Go.RowKit

theorem okT_short (x : Ph) : (okT x.ok (shortT x)).size ≤ 31 := by
  unfold okT
  cases h : x.ok with
  | false => simp only [Bool.false_eq_true, if_false]; exact Nat.zero_le _
  | true =>
    have h1 := (short_len (x := x.ph) h).2
    rw [if_pos rfl, ← bl_size, bl_mk]
    exact h1
theorem listT_listD (l : List Ph) : listT l = listD (l.map Ph.ph) := by
  have h0 : Lib.joinTail [32] [] = [] := by simp [Lib.joinTail]
  have h1 : ∀ (y : List UInt8) (l : List (List UInt8)), Lib.joinTail [32] (y :: l) = 32 :: (y ++ Lib.joinTail [32] l) := fun y l => by simp [Lib.joinTail]
  have tail : ∀ (l : List Ph) (x : Ph), shortT x ++ Lib.joinTail [32] (l.map shortT) = listD (x.ph :: l.map Ph.ph) := by
    intro l
    induction l with
    | nil => intro x; rw [List.map_nil, h0, List.append_nil, List.map_nil, listD]; rfl
    | cons y l ih =>
      intro x
      rw [List.map_cons, h1, ih y, List.map_cons, listD]; rfl
  cases l with
  | nil => rfl
  | cons x l =>
    rw [List.map_cons, ← tail l x]
    unfold listT
    rw [List.map_cons, Lib.join_cons]
theorem listD_len : ∀ l : List PhD, (∀ x ∈ l, okD x = true) → (listD l).length ≤ 32 * l.length
  | [], _ => by simp [listD]
  | [x], h => by
    have := short_len (h x (by simp))
    simp only [listD, List.length_cons, List.length_nil]; omega
  | x :: y :: l, h => by
    have h1 := short_len (h x (by simp))
    have h2 := listD_len (y :: l) (fun z hz => h z (by simp [hz]))
    simp only [listD, List.length_append, List.length_cons] at *
    omega
theorem okT_list (l : List Ph) : (okT (goodPhs l) (listT l)).size ≤ 400 := by
  unfold okT
  cases h : goodPhs l with
  | false => simp only [Bool.false_eq_true, if_false]; exact Nat.zero_le _
  | true =>
    rw [good_goodD] at h
    simp only [goodD, Bool.and_eq_true, decide_eq_true_eq, List.all_eq_true] at h
    have h1 := listD_len (l.map Ph.ph) h.2
    rw [if_pos rfl, ← bl_size, bl_mk, listT_listD]
    omega

theorem below_row {w W W' : World} (h : Below w.heap.size w W) (hg : W.grownBy W' (some w.heap.size)) : Below w.heap.size w W' :=
  grown_belowR (grown_trans (grownAny h (some w.heap.size)) hg) (Nat.le_refl _)
set_option maxHeartbeats 2000000 in
theorem drawIsPhrase_any (A : Option Addr) (cap : Nat) (bs : List UInt8) (w : World) (hr : BytesR w w.heap.size A bs) :
    Calls Tryz.prog 22 #[.slice A bs.length cap] w fun e w' => ∃ x : Ph, e = .returned x.val ∧ x.f.length ≤ 9 ∧ OwnS w' w.heap.size 3 1 x.A x.f.length (encIs x.f) ∧ Below w.heap.size w w' := by
  have b0 := (Below.refl w.heap.size w).alloc (Nat.le_refl _) (.cells #[.int .i64 0, .int .i64 0, .slice none 0 0, .int .i64 0] 26)
  have L0 := Lies.new w 26 #[.int .i64 0, .int .i64 0, .slice none 0 0, .int .i64 0]
  have E1 := cur_start (cap := cap) ((SlcR.below hr b0).mono b0.size)
  have b1 := b0.alloc b0.size (.cells #[.slice A bs.length cap, .int .i64 0, .int .u64 0] 46)
  have L1 := L0.alloc (.cells #[.slice A bs.length cap, .int .i64 0, .int .u64 0] 46)
  have hg : w.heap.size < (w.alloc (.cells #[.int .i64 0, .int .i64 0, .slice none 0 0, .int .i64 0] 26)).heap.size := L0.lt
  go_enter Tryz.func22, Tryz.ntmps22
  go_wp2_with fail
  obtain ⟨W0, hW0⟩ : ∃ W0, w.alloc (.cells #[.int .i64 0, .int .i64 0, .slice none 0 0, .int .i64 0] 26) = W0 := ⟨_, rfl⟩
  have hs0 : W0.heap.size = w.heap.size + 1 := by rw [← hW0]; exact Array.size_push _
  rw [hW0] at E1 b1 L1 hg ⊢
  clear b0 L0
  generalize W0.alloc (.cells #[.slice A bs.length cap, .int .i64 0, .int .u64 0] 46) = W1 at E1 b1 L1 ⊢
  rw [hs0] at E1 hg
  generalize w.heap.size + 1 = g at E1 hg ⊢
  clear hW0 hs0
  refine (phrase30_any g A bs cap 0 W1 W1 (by omega) E1).mono ?_
  rintro e W2 ⟨x, rfl, h9, ox, E2, gr2⟩
  have K := L1.kept gr2 (by intro e; injection e; omega)
  have b2 : Below w.heap.size w W2 := grown_belowR (grown_trans (grownAny b1 (some g)) gr2) (by omega)
  have hlow : w.heap.size ≤ W1.heap.size := b1.size
  clear E1 E2 gr2 L1 b1
  have a0 := K.cell 0
  have a1 := K.cell 1
  have a2 := K.cell 2
  have a3 := K.cell 3
  simp only [List.getElem?_cons_zero, List.getElem?_cons_succ] at a0 a1 a2 a3
  have fa0 := K.frozen 0
  have fa1 := K.frozen 1
  have fa2 := K.frozen 2
  have fa3 := K.frozen 3
  obtain ⟨W20, hW20⟩ : ∃ W20, ((((W2.setCell ⟨w.heap.size, 0, none⟩ (.int .i64 x.s)).setCell ⟨w.heap.size, 1, none⟩ (.int .i64 x.c)).setCell ⟨w.heap.size, 2, none⟩ (.slice x.A x.f.length x.cap)).setCell ⟨w.heap.size, 3, none⟩ (.int .i64 x.p)) = W20 := ⟨_, rfl⟩
  have gw : W2.grownBy ((((W2.setCell ⟨w.heap.size, 0, none⟩ (.int .i64 x.s)).setCell ⟨w.heap.size, 1, none⟩ (.int .i64 x.c)).setCell ⟨w.heap.size, 2, none⟩ (.slice x.A x.f.length x.cap)).setCell ⟨w.heap.size, 3, none⟩ (.int .i64 x.p)) (some w.heap.size) := (grown_set (g := w.heap.size) (i := 3) (u := .int .i64 x.p) (grown_set (g := w.heap.size) (i := 2) (u := .slice x.A x.f.length x.cap) (grown_set (g := w.heap.size) (i := 1) (u := .int .i64 x.c) (grown_set (g := w.heap.size) (i := 0) (u := .int .i64 x.s) (World.grownBy.refl _ _)))))
  have kw : Lies ((((W2.setCell ⟨w.heap.size, 0, none⟩ (.int .i64 x.s)).setCell ⟨w.heap.size, 1, none⟩ (.int .i64 x.c)).setCell ⟨w.heap.size, 2, none⟩ (.slice x.A x.f.length x.cap)).setCell ⟨w.heap.size, 3, none⟩ (.int .i64 x.p)) w.heap.size 26 [.int .i64 x.s, .int .i64 x.c, .slice x.A x.f.length x.cap, .int .i64 x.p] := K.set 0 (.int .i64 x.s) |>.set 1 (.int .i64 x.c) |>.set 2 (.slice x.A x.f.length x.cap) |>.set 3 (.int .i64 x.p)
  have HO := Lib.hid (((ox.ne gw (ox.off K ne_int_ph))).lower hlow)
  have HB := Lib.hid (below_row b2 gw)
  rw [hW20] at kw HO HB
  have HW20 := Lib.hid hW20
  have HK := Lib.hid kw
  clear gw kw hW20 K ox b2 hlow
  repeat (first | go_values | go_skip | go_guarded | go_step | go_upon | simp only [])
  rw [HW20.out]
  have LS := HK.out
  have x0 := LS.cell 0
  have x1 := LS.cell 1
  have x2 := LS.cell 2
  have x3 := LS.cell 3
  simp only [List.getElem?_cons_zero, List.getElem?_cons_succ] at x0 x1 x2 x3
  refine bodyPost_ret (v := .agg #[.int .i64 x.s, .int .i64 x.c, .slice x.A x.f.length x.cap, .int .i64 x.p]) (by simp [results, Tryz.results22, go_sem, x0, x1, x2, x3]) rfl ?_
  exact ⟨x, rfl, h9, HO.out, HB.out⟩
theorem drawShort_any (A : Option Addr) (cap : Nat) (bs : List UInt8) (w : World) (hr : BytesR w w.heap.size A bs) :
    Calls Tryz.prog 5 #[.slice A bs.length cap] w fun e w' => ∃ x : Ph, e = .returned x.val ∧ x.f.length ≤ 9 ∧ OwnS w' w.heap.size 3 1 x.A x.f.length (encIs x.f) ∧ Below w.heap.size w w' := by
  have b0 := (Below.refl w.heap.size w).alloc (Nat.le_refl _) (.cells #[.int .i64 0, .int .i64 0, .slice none 0 0, .int .i64 0] 26)
  have L0 := Lies.new w 26 #[.int .i64 0, .int .i64 0, .slice none 0 0, .int .i64 0]
  have hr0 := (SlcR.below hr b0).mono b0.size
  go_enter Tryz.func5, Tryz.ntmps5
  go_wp2_with fail
  generalize w.alloc (.cells #[.int .i64 0, .int .i64 0, .slice none 0 0, .int .i64 0] 26) = W0 at L0 b0 hr0 ⊢
  refine (drawIsPhrase_any A cap bs W0 hr0).mono ?_
  rintro e W2 ⟨x, rfl, h9, ox, hb⟩
  have K := L0.below hb L0.lt
  have b2 : Below w.heap.size w W2 := bthen b0 hb
  have hlow : w.heap.size ≤ W0.heap.size := b0.size
  clear b0 hb L0 hr0
  have a0 := K.cell 0
  have a1 := K.cell 1
  have a2 := K.cell 2
  have a3 := K.cell 3
  simp only [List.getElem?_cons_zero, List.getElem?_cons_succ] at a0 a1 a2 a3
  have fa0 := K.frozen 0
  have fa1 := K.frozen 1
  have fa2 := K.frozen 2
  have fa3 := K.frozen 3
  obtain ⟨W20, hW20⟩ : ∃ W20, ((((W2.setCell ⟨w.heap.size, 0, none⟩ (.int .i64 x.s)).setCell ⟨w.heap.size, 1, none⟩ (.int .i64 x.c)).setCell ⟨w.heap.size, 2, none⟩ (.slice x.A x.f.length x.cap)).setCell ⟨w.heap.size, 3, none⟩ (.int .i64 x.p)) = W20 := ⟨_, rfl⟩
  have gw : W2.grownBy ((((W2.setCell ⟨w.heap.size, 0, none⟩ (.int .i64 x.s)).setCell ⟨w.heap.size, 1, none⟩ (.int .i64 x.c)).setCell ⟨w.heap.size, 2, none⟩ (.slice x.A x.f.length x.cap)).setCell ⟨w.heap.size, 3, none⟩ (.int .i64 x.p)) (some w.heap.size) := (grown_set (g := w.heap.size) (i := 3) (u := .int .i64 x.p) (grown_set (g := w.heap.size) (i := 2) (u := .slice x.A x.f.length x.cap) (grown_set (g := w.heap.size) (i := 1) (u := .int .i64 x.c) (grown_set (g := w.heap.size) (i := 0) (u := .int .i64 x.s) (World.grownBy.refl _ _)))))
  have kw : Lies ((((W2.setCell ⟨w.heap.size, 0, none⟩ (.int .i64 x.s)).setCell ⟨w.heap.size, 1, none⟩ (.int .i64 x.c)).setCell ⟨w.heap.size, 2, none⟩ (.slice x.A x.f.length x.cap)).setCell ⟨w.heap.size, 3, none⟩ (.int .i64 x.p)) w.heap.size 26 [.int .i64 x.s, .int .i64 x.c, .slice x.A x.f.length x.cap, .int .i64 x.p] := K.set 0 (.int .i64 x.s) |>.set 1 (.int .i64 x.c) |>.set 2 (.slice x.A x.f.length x.cap) |>.set 3 (.int .i64 x.p)
  have HO := Lib.hid (((ox.ne gw (ox.off K ne_int_ph))).lower hlow)
  have HB := Lib.hid (below_row b2 gw)
  rw [hW20] at kw HO HB
  have HW20 := Lib.hid hW20
  have HK := Lib.hid kw
  clear gw kw hW20 K ox b2 hlow
  repeat (first | go_values | go_skip | go_guarded | go_step | go_upon | simp only [])
  rw [HW20.out]
  have LS := HK.out
  have x0 := LS.cell 0
  have x1 := LS.cell 1
  have x2 := LS.cell 2
  have x3 := LS.cell 3
  simp only [List.getElem?_cons_zero, List.getElem?_cons_succ] at x0 x1 x2 x3
  refine bodyPost_ret (v := .agg #[.int .i64 x.s, .int .i64 x.c, .slice x.A x.f.length x.cap, .int .i64 x.p]) (by simp [results, Tryz.results5, go_sem, x0, x1, x2, x3]) rfl ?_
  exact ⟨x, rfl, h9, HO.out, HB.out⟩
theorem drawParsePhrase_any (A : Option Addr) (cap : Nat) (bs : List UInt8) (w : World) (hr : BytesR w w.heap.size A bs) :
    Calls Tryz.prog 11 #[.slice A bs.length cap] w fun e w' => ∃ s : ByteArray, e = .returned (.string s) ∧ s.size ≤ 500 ∧ Below w.heap.size w w' := by
  have E1 := cur_start (cap := cap) hr
  have b1 : Below w.heap.size w (w.alloc (.cells #[.slice A bs.length cap, .int .i64 0, .int .u64 0] 46)) := (Below.refl w.heap.size w).alloc (Nat.le_refl _) (.cells #[.slice A bs.length cap, .int .i64 0, .int .u64 0] 46)
  go_enter Tryz.func11, Tryz.ntmps11
  go_wp2_with fail
  generalize w.alloc (.cells #[.slice A bs.length cap, .int .i64 0, .int .u64 0] 46) = W1 at E1 b1 ⊢
  refine (phrase30_any w.heap.size A bs cap 0 W1 W1 (by omega) E1).mono ?_
  rintro e W2 ⟨x, rfl, h9, ox, E2, gr2⟩
  have b2 : Below w.heap.size w W2 := grown_belowR (grown_trans (grownAny b1 (some w.heap.size)) gr2) (Nat.le_refl _)
  have hxr := ox.reads
  clear b1 E1 gr2 ox
  go_wp2_with fail
  refine (specShortText_any x W2 hxr).mono ?_
  rintro e W3 ⟨rfl, hb3⟩
  have hz := okT_short x
  generalize okT x.ok (shortT x) = t at hz ⊢
  have b3 := bthen b2 hb3
  have E3 := E2.below hb3
  clear b2 E2 hb3 hxr h9
  go_wp2_with fail
  refine (one_env E3 3 (by omega) (by omega)).mono ?_
  rintro e W4 ⟨q, rfl, E4, gr4⟩
  have b4 : Below w.heap.size w W4 := grown_belowR (grown_trans (grownAny b3 (some w.heap.size)) gr4) (Nat.le_refl _)
  clear b3 E3 gr4
  cases q with
  | true =>
    go_wp2_with fail
    refine (spoilt_any w.heap.size A cap _ bs t ⟨#[42, 111, 40, 33, 61, 41, 48, 53]⟩ W1 W4 (by decide) (by decide) (by omega) (by omega) E4).mono ?_
    rintro e W5 ⟨u, rfl, hu, E5, gr5⟩
    have b5 : Below w.heap.size w W5 := grown_belowR (grown_trans (grownAny b4 (some w.heap.size)) gr5) (Nat.le_refl _)
    clear b4 E4 E5 gr5
    go_wp2_with fail
    go_ret
    exact ⟨u, rfl, by omega, b5⟩
  | false =>
    clear E4
    go_wp2_with fail
    go_ret
    exact ⟨t, rfl, by omega, b4⟩
theorem drawParseList_any (A : Option Addr) (cap : Nat) (bs : List UInt8) (w : World) (hr : BytesR w w.heap.size A bs) :
    Calls Tryz.prog 18 #[.slice A bs.length cap] w fun e w' => ∃ s : ByteArray, e = .returned (.string s) ∧ s.size ≤ 500 ∧ Below w.heap.size w w' := by
  have E1 := cur_start (cap := cap) hr
  have b1 : Below w.heap.size w (w.alloc (.cells #[.slice A bs.length cap, .int .i64 0, .int .u64 0] 46)) := (Below.refl w.heap.size w).alloc (Nat.le_refl _) (.cells #[.slice A bs.length cap, .int .i64 0, .int .u64 0] 46)
  go_enter Tryz.func18, Tryz.ntmps18
  go_wp2_with fail
  generalize w.alloc (.cells #[.slice A bs.length cap, .int .i64 0, .int .u64 0] 46) = W1 at E1 b1 ⊢
  refine (phrases30_any w.heap.size A bs cap 0 W1 W1 (by omega) E1).mono ?_
  rintro e W2 ⟨l, v, rfl, hl, h9, S2⟩
  obtain ⟨A', c', rfl⟩ := S2.own.form
  have hxr : PhsR W2 W2.heap.size A' l := S2.own.reads
  have E2 := S2.env
  have b2 : Below w.heap.size w W2 := grown_belowR (grown_trans (grownAny b1 (some w.heap.size)) S2.gr) (Nat.le_refl _)
  clear b1 E1 S2 h9
  go_wp2_with fail
  refine (specListText_any A' c' l W2 hxr).mono ?_
  rintro e W3 ⟨rfl, hb3⟩
  have hz := okT_list l
  generalize okT (goodPhs l) (listT l) = t at hz ⊢
  have b3 := bthen b2 hb3
  have E3 := E2.below hb3
  clear b2 E2 hb3 hxr hl
  go_wp2_with fail
  refine (one_env E3 3 (by omega) (by omega)).mono ?_
  rintro e W4 ⟨q, rfl, E4, gr4⟩
  have b4 : Below w.heap.size w W4 := grown_belowR (grown_trans (grownAny b3 (some w.heap.size)) gr4) (Nat.le_refl _)
  clear b3 E3 gr4
  cases q with
  | true =>
    go_wp2_with fail
    refine (spoilt_any w.heap.size A cap _ bs t ⟨#[32, 42, 111, 40, 33, 61, 41, 48, 53]⟩ W1 W4 (by decide) (by decide) (by omega) (by omega) E4).mono ?_
    rintro e W5 ⟨u, rfl, hu, E5, gr5⟩
    have b5 : Below w.heap.size w W5 := grown_belowR (grown_trans (grownAny b4 (some w.heap.size)) gr5) (Nat.le_refl _)
    clear b4 E4 E5 gr5
    go_wp2_with fail
    go_ret
    exact ⟨u, rfl, by omega, b5⟩
  | false =>
    clear E4
    go_wp2_with fail
    go_ret
    exact ⟨t, rfl, by omega, b4⟩
end Go.Proofs.YtchkjiadnackaaaGreatDoor

/- What the library's variables hold, in every world of a call. -/
namespace Go.Proofs.YtchkjiadnackaaaGreatDoor
open Go.RowKit

/-- A variable of an interface type holds an interface value. -/
def IfaceAt (w : World) (g : Nat) : Prop := ∃ ev, w.cell? ⟨g, 0, none⟩ = some ev ∧ (ev = .nilIface ∨ ∃ te pe, ev = .iface te pe)
/-- What the library's variables hold. -/
structure LW (w : World) : Prop where
  tab : Tab w
  syn : IfaceAt w 2
  rng : IfaceAt w 3
  ml : ∃ m : Int, w.cell? ⟨0, 0, none⟩ = some (.int .i64 m)
theorem cell_lt {w : World} {a : Addr} {v : Value} (h : w.cell? a = some v) : a.block < w.heap.size := by
  rcases Nat.lt_or_ge a.block w.heap.size with h1 | h1
  · exact h1
  · unfold World.cell? at h; simp [Array.getElem?_eq_none h1] at h
theorem IfaceAt.then {w w' : World} {g : Nat} (h : IfaceAt w g) (hb : Below w.heap.size w w') : IfaceAt w' g := by
  obtain ⟨ev, h1, h2⟩ := h
  exact ⟨ev, (hb.cell (cell_lt h1)).trans h1, h2⟩
theorem LW.then {w w' : World} (h : LW w) (hb : Below w.heap.size w w') : LW w' := by
  obtain ⟨h1, h2, h3, m, h4⟩ := h
  exact ⟨h1.then hb, h2.then hb, h3.then hb, m, (hb.cell (cell_lt h4)).trans h4⟩
theorem LW.at {w : World} (h : LW w) (q : Since w.heap.size w) : LW q.val := h.then q.below
end Go.Proofs.YtchkjiadnackaaaGreatDoor

/- The parts of a text between bytes, in the reference (l1Split). -/
namespace Go.Proofs.YtchkjiadnackaaaGreatDoor
open Go.RowKit

def texts (ps : List (List UInt8)) : List Value := ps.map fun p => Value.string ⟨p.toArray⟩
theorem texts_len (ps : List (List UInt8)) : (texts ps).length = ps.length * 1 := by simp [texts]
theorem infoText : (Tryz.prog.info? 9).map (fun i => (i.zero, i.size, i.bytes)) = some (some (.string ⟨#[]⟩), 1, 16) := by kernel_rfl
theorem parts_step {s : ByteArray} {f i : Nat} {b : UInt8} (hfi : f ≤ i) (hi : i < s.size) :
    partsL b (((bl s).take i).drop f) ((bl s).drop i) = if s[i] = b then ((bl s).take i).drop f :: partsL b (((bl s).take (i + 1)).drop (i + 1)) ((bl s).drop (i + 1)) else partsL b (((bl s).take (i + 1)).drop f) ((bl s).drop (i + 1)) := by
  rw [bl_drop hi, partsL]
  have e1 : ((bl s).take (i + 1)).drop (i + 1) = [] := List.drop_eq_nil_of_le (by rw [List.length_take]; omega)
  have e2 : ((bl s).take (i + 1)).drop f = ((bl s).take i).drop f ++ [s[i]] := by
    rw [bl_take hi, List.drop_append_of_le_length (by rw [List.length_take, bl_size]; omega)]
  rw [e1, e2]

set_option maxRecDepth 100000 in
set_option maxHeartbeats 4000000 in
theorem l1Split_any (s : ByteArray) (b : UInt8) (w : World) (hs : s.size ≤ 100000000) :
    Calls Tryz.prog 38 #[.string s, .int .u8 b.toNat] w fun e w' => ∃ A c, e = .returned (.slice A (splitL b (bl s)).length c) ∧ w'.ownsRow w.heap.size 9 1 (.slice A (splitL b (bl s)).length c) (splitL b (bl s)).length (texts (splitL b (bl s))) ∧ Below w.heap.size w w' := by
  have b0 := (Below.refl w.heap.size w).alloc (Nat.le_refl _) (.cells #[] 9)
  have O0 : Hid ((w.alloc (.cells #[] 9)).ownsRow w.heap.size 9 1 (.slice (some ⟨w.heap.size, 0, none⟩) 0 0) 0 (texts [])) := owns_empty (Lies.new w 9 #[]) (Nat.le_refl _)
  have HPL : Hid (∀ l cur : List UInt8, (partsL b cur l).length ≤ l.length + 1) := parts_len b
  go_enter Tryz.func38, Tryz.ntmps38
  go_wp2
  go_loopw [5, 6, 7] (fun o fr i wr => ∃ (f k : Nat) (A : Option Addr) (c : Nat) (ps : List (List UInt8)), f ≤ k ∧ k ≤ s.size ∧ ps.length ≤ k ∧ o = .slice A ps.length c ∧ fr = .int .i64 f ∧ i = .int .i64 k ∧ (∃ q : Since w.heap.size w, wr = q.val) ∧
    Hid (splitL b (bl s) = ps ++ partsL b (((bl s).take k).drop f) ((bl s).drop k)) ∧ Hid (wr.ownsRow w.heap.size 9 1 (.slice A ps.length c) ps.length (texts ps))) (fun _ _ i _ => s.size - (intOf i).toNat)
  case atStart => exact ⟨0, 0, some ⟨w.heap.size, 0, none⟩, 0, [], Nat.le_refl _, Nat.zero_le _, by simp, rfl, rfl, rfl, ⟨⟨_, b0⟩, rfl⟩, rfl, O0⟩
  case round =>
    obtain ⟨f, k, A, c, ps, hfk, hk, hps, rfl, rfl, rfl, ⟨q, rfl⟩, HF, HR⟩ := hrel
    have hqs := q.size
    by_cases hlt : k < s.size
    · have HST := Lib.hid (parts_step (b := b) hfk hlt)
      have hq := @u8_eq s[k] b
      have i1 : (f : Int) ≤ (k : Int) := by omega
      have i2 : (k : Int) ≤ (s.size : Int) := by omega
      by_cases heq : s[k] = b
      · rw [if_pos heq] at HST
        rw [decide_eq_true heq] at hq
        have HB : Hid (bl (s.extract f k) = ((bl s).take k).drop f) := bl_extract _ _ _
        clear heq
        go_wp2_with (at_builtin; refine wpList_push (w0 := q.val) rfl (.tmp 20) (.tmp 25) 52 rfl 9 (.string ⟨#[]⟩) 1 16 Tryz.underlying52 infoText rfl (by omega) (by omega) w.heap.size _ _ _ rfl HR #[.string (s.extract f k)] 1 _ rfl (by first | rfl | simp | exact Array.size_push _) rfl (by simp [Value.oneCell']) (by omega) hqs rfl rfl rfl rfl ?_; intro v5 w5 HO5 hg5 hb5)
        obtain ⟨A5, c5, hv5⟩ := ownsRow_slice HO5.out
        subst hv5
        go_roundw
        case rel =>
          refine ⟨k + 1, k + 1, A5, c5, ps ++ [((bl s).take k).drop f], Nat.le_refl _, by omega, by simp; omega, by simp, by go_num, by go_num, ⟨q.go' hb5, rfl⟩, ?_, ?_⟩
          · have h1 := HF.out; rw [HST.out] at h1; rw [Hid, h1]; simp
          · have h1 := HO5.out; rw [Hid]
            have h2 : texts (ps ++ [((bl s).take k).drop f]) = texts ps ++ [Value.string (s.extract f k)] := by unfold texts; rw [List.map_append, ← HB.out]; simp [← bl_ext rfl]
            rw [h2]; simpa using h1
        case measure => simp [intOf]; omega
      · rw [if_neg heq] at HST
        rw [decide_eq_false heq] at hq
        clear heq
        go_wp2
        go_roundw
        case rel => exact ⟨f, k + 1, A, c, ps, by omega, by omega, by omega, rfl, rfl, by go_num, ⟨q, rfl⟩, by have h1 := HF.out; rw [HST.out] at h1; exact h1, HR⟩
        case measure => simp [intOf]; omega
    · obtain rfl : k = s.size := by omega
      have i1 : (f : Int) ≤ (s.size : Int) := by omega
      have HB : Hid (bl (s.extract f s.size) = ((bl s).take s.size).drop f) := bl_extract _ _ _
      have HF2 : Hid (splitL b (bl s) = ps ++ [((bl s).take s.size).drop f]) := by
        have h1 := HF.out
        have e0 : (bl s).drop s.size = [] := List.drop_eq_nil_of_le (by rw [bl_size]; exact Nat.le_refl _)
        rw [e0] at h1; exact h1
      go_wp2_with (at_builtin; refine wpList_push (w0 := q.val) rfl (.tmp 29) (.tmp 33) 52 rfl 9 (.string ⟨#[]⟩) 1 16 Tryz.underlying52 infoText rfl (by omega) (by omega) w.heap.size _ _ _ rfl HR #[.string (s.extract f s.size)] 1 _ rfl (by first | rfl | simp | exact Array.size_push _) rfl (by simp [Value.oneCell']) (by omega) hqs rfl rfl rfl rfl ?_; intro v5 w5 HO5 hg5 hb5)
      obtain ⟨A5, c5, hv5⟩ := ownsRow_slice HO5.out
      subst hv5
      go_ret
      have h2 : texts (ps ++ [((bl s).take s.size).drop f]) = texts ps ++ [Value.string (s.extract f s.size)] := by unfold texts; rw [List.map_append, ← HB.out]; simp [← bl_ext rfl]
      rw [HF2.out, h2]
      refine ⟨A5, c5, by simp, ?_, (q.go' hb5).below⟩
      have h1 := HO5.out
      simpa using h1
end Go.Proofs.YtchkjiadnackaaaGreatDoor

/- The reference's split: its texts lie in a block of the call's own. -/
namespace Go.Proofs.YtchkjiadnackaaaGreatDoor
open Go.RowKit

theorem texts_at (ps : List (List UInt8)) (k : Nat) (h : k < ps.length) : (texts ps)[k]? = some (.string ⟨(ps[k]).toArray⟩) := by
  unfold texts; rw [List.getElem?_map, List.getElem?_eq_getElem h]; rfl
theorem texts_at2 (ps : List (List UInt8)) (rest : List Value) (k : Nat) (h : k < ps.length) : (texts ps ++ rest)[k]? = some (.string ⟨(ps[k]).toArray⟩) := by
  rw [List.getElem?_append_left (by rw [texts_len]; omega)]; exact texts_at ps k h
theorem l1Split_lies (s : ByteArray) (b : UInt8) (w : World) (hs : s.size ≤ 100000000) :
    Calls Tryz.prog 38 #[.string s, .int .u8 b.toNat] w fun e w' => ∃ (g c : Nat) (rest : List Value), e = .returned (.slice (some ⟨g, 0, none⟩) (splitL b (bl s)).length c) ∧ Lies w' g 9 (texts (splitL b (bl s)) ++ rest) ∧ w.heap.size ≤ g ∧ Below w.heap.size w w' := by
  refine (l1Split_any s b w hs).mono ?_
  rintro e w' ⟨A, c, rfl, ho, hb⟩
  obtain ⟨_, _, ⟨h1, h2⟩ | ⟨g, rest, hA, hg, hL⟩⟩ := OwnS.of ho
  · exact absurd (List.eq_nil_of_length_eq_zero h2) (parts_ne b _ _)
  · subst hA; exact ⟨g, c, rest, rfl, hL, hg, hb⟩
theorem parts_short {b : UInt8} {s : List UInt8} {n : Nat} (h : s.length ≤ n) : ∀ t ∈ splitL b s, t.length ≤ n := fun t ht => by
  have := parts_mem s [] ht; simp at this; omega
theorem parts_count {b : UInt8} {s : List UInt8} {n : Nat} (h : s.length ≤ n) : 1 ≤ (splitL b s).length ∧ (splitL b s).length ≤ n + 1 := by
  have h1 := parts_len b s []
  have h3 : 0 < (partsL b [] s).length := List.length_pos_iff.2 (parts_ne b s [])
  unfold splitL; omega
theorem beq_lit (v : ByteArray) (l : List UInt8) : (v.toList == l) = decide (bl v = l) := by
  rw [ByteArray.toList_eq]; unfold bl
  by_cases h : v.data.toList = l <;> simp [h]
theorem head_at {ps : List (List UInt8)} (h : 0 < ps.length) : ps.headD [] = ps[0] := by
  cases ps with
  | nil => simp at h
  | cons a l => rfl
theorem last_at {ps : List (List UInt8)} (h : 0 < ps.length) : ps.getLastD [] = ps[ps.length - 1] := by
  rw [List.getLastD_eq_getLast?, List.getLast?_eq_getElem?, List.getElem?_eq_getElem (by omega)]; rfl
end Go.Proofs.YtchkjiadnackaaaGreatDoor

/- The library's Cut, Split and TrimSuffix at one byte. -/
namespace Go.Proofs.YtchkjiadnackaaaGreatDoor
open Go.RowKit

def hasB (l : List UInt8) (b : UInt8) : Bool := l.contains b
theorem hasB_true {l : List UInt8} {b : UInt8} : hasB l b = true ↔ b ∈ l := by unfold hasB; simp
theorem hasB_false {l : List UInt8} {b : UInt8} : hasB l b = false ↔ b ∉ l := by unfold hasB; simp
theorem idxByte_or (l : List UInt8) (b : UInt8) : (b ∉ l ∧ Lib.indexByte l b = -1) ∨ (b ∈ l ∧ Lib.indexByte l b = (bef b l).length) := by
  induction l with
  | nil => exact .inl ⟨by simp, rfl⟩
  | cons x l ih =>
    unfold Lib.indexByte bef
    by_cases h : x = b
    · subst h; exact .inr ⟨by simp, by simp⟩
    · have h' : (x == b) = false := by simp [h]
      rw [if_neg (by simp [h]), if_neg h]
      rcases ih with ⟨h1, h2⟩ | ⟨h1, h2⟩
      · exact .inl ⟨by simp only [List.mem_cons, not_or]; exact ⟨Ne.symm h, h1⟩, by rw [h2]; rfl⟩
      · refine .inr ⟨by simp [h1], ?_⟩
        rw [h2, if_neg (by simp)]; simp

def cutL (s : ByteArray) (b : UInt8) : ByteArray := ⟨(bef b (bl s)).toArray⟩
def cutR (s : ByteArray) (b : UInt8) : ByteArray := ⟨((bl s).drop ((bef b (bl s)).length + 1)).toArray⟩

set_option maxHeartbeats 1000000 in
theorem litCut_any (s : ByteArray) (b : UInt8) (w : World) (hs : s.size ≤ 1000000000) :
    Calls Tryz.prog 64 #[.string s, .string ⟨#[b]⟩] w fun e w' => e = .returned (.tuple #[.string (cutL s b), .string (cutR s b), .bool (hasB (bl s) b)]) ∧ Below w.heap.size w w' := by
  have HI := Lib.hid (fun W => Tryz.stringslite_Index_one s b W)
  have hb := bef_len b (bl s)
  rw [bl_size] at hb
  rcases idxByte_or (bl s) b with ⟨h1, h2⟩ | ⟨h1, h2⟩
  · rw [show s.data.toList = bl s from rfl, h2] at HI
    have HL : Hid (cutL s b = s) := by unfold cutL Hid; rw [bef_free h1]; exact (bl_ext rfl).symm
    have HR : Hid (cutR s b = ⟨#[]⟩) := by unfold cutR Hid; rw [bef_free h1, List.drop_eq_nil_of_le (by omega)]
    have HF : Hid (hasB (bl s) b = false) := hasB_false.2 h1
    clear h1 h2
    go_enter Tryz.func64, Tryz.ntmps64
    go_wp2_with (go_at_call 75; refine (HI.out _).mono ?_; rintro e w' ⟨rfl, rfl⟩)
    go_ret3
    exact ⟨by rw [HL.out, HR.out, HF.out]; rfl, Below.refl _ _⟩
  · rw [show s.data.toList = bl s from rfl, h2] at HI
    have hp := congrArg List.length (parts_bef h1)
    rw [bl_size] at hp
    simp only [List.length_append, List.length_cons, List.length_drop, bl_size] at hp
    have HF : Hid (hasB (bl s) b = true) := hasB_true.2 h1
    obtain ⟨n, hn⟩ : ∃ n, n = (bef b (bl s)).length := ⟨_, rfl⟩
    have HL : Hid (cutL s b = s.extract 0 n) := by
      unfold cutL Hid; refine (bl_ext ?_).symm
      rw [bl_extract, hn, take_bef]; simp
    have HR : Hid (cutR s b = s.extract (n + 1) s.size) := by
      unfold cutR Hid; refine (bl_ext ?_).symm
      rw [bl_extract, hn, List.take_of_length_le (by rw [bl_size]; omega)]
    rw [← hn] at HI hp hb
    have z1 : (⟨#[b]⟩ : ByteArray).size = 1 := rfl
    have hn1 : n + 1 ≤ s.size := by omega
    have i0 : (0 : Int) ≤ (n : Int) := by omega
    have i1 : (n : Int) ≤ (s.size : Int) := by omega
    have i2 : (n : Int) + 1 ≤ (s.size : Int) := by omega
    have i3 : IntKind.i64.wrap ((n : Int) + 1) = (n : Int) + 1 := IntWalk.i64_in _ (by omega)
    clear hn hp h1 h2
    go_enter Tryz.func64, Tryz.ntmps64
    go_wp2_with (go_at_call 75; refine (HI.out _).mono ?_; rintro e w' ⟨rfl, rfl⟩)
    refine wp_region_since0 (by kernel_rfl) (by kernel_rfl) ?_
    repeat (any_goals (first | go_big_quiet_step ((fail)) | (refine wpQuiet_step (fun K hK => ?_); go_simp; split <;> (refine hK _ ?_; clear hK K))))
    all_goals (refine wpQuiet_nil ?_; rintro _ ⟨q1, rfl⟩)
    go_wp2
    go_ret3
    exact ⟨by rw [HL.out, HR.out, HF.out]; rfl, q1.below⟩

theorem cut_any (s : ByteArray) (b : UInt8) (w : World) (hs : s.size ≤ 1000000000) :
    Calls Tryz.prog 48 #[.string s, .string ⟨#[b]⟩] w fun e w' => e = .returned (.tuple #[.string (cutL s b), .string (cutR s b), .bool (hasB (bl s) b)]) ∧ Below w.heap.size w w' := by
  have HC := Lib.hid (fun W => litCut_any s b W hs)
  go_enter Tryz.func48, Tryz.ntmps48
  go_wp2_with (go_at_call 64; refine (HC.out _).mono ?_; rintro e w1 ⟨rfl, hb1⟩)
  go_ret3
  exact ⟨rfl, hb1⟩
theorem bl_cutL (s : ByteArray) (b : UInt8) : bl (cutL s b) = bef b (bl s) := bl_mk _
theorem bl_cutR (s : ByteArray) (b : UInt8) : bl (cutR s b) = (bl s).drop ((bef b (bl s)).length + 1) := bl_mk _

/-! ### Split -/
theorem splitK_one (b : UInt8) : ∀ (fuel : Nat) (l : List UInt8), l.length < fuel → Lib.splitK [b] 0 (Lib.countFrom [b] fuel l) l = splitL b l ∧ (splitL b l).length = Lib.countFrom [b] fuel l + 1
  | 0, l, h => absurd h (by omega)
  | fuel + 1, l, h => by
    rcases index_one_or l b with ⟨h1, h2⟩ | ⟨h1, h2⟩
    · have hc : Lib.countFrom [b] (fuel + 1) l = 0 := by unfold Lib.countFrom; rw [h2]; rfl
      rw [hc, split_free h1]; exact ⟨rfl, rfl⟩
    · have hp := parts_bef h1
      have hl := congrArg List.length hp
      simp only [List.length_append, List.length_cons, List.length_drop] at hl
      obtain ⟨r, hr⟩ : ∃ r, l.drop ((bef b l).length + 1) = r := ⟨_, rfl⟩
      have hrl : r.length < fuel := by rw [← hr, List.length_drop]; omega
      obtain ⟨i1, i2⟩ := splitK_one b fuel r hrl
      have hne : ¬ ((((bef b l).length : Nat) : Int) == -1) = true := fun e => by have := beq_iff_eq.1 e; omega
      have hc : Lib.countFrom [b] (fuel + 1) l = Lib.countFrom [b] fuel r + 1 := by
        rw [Lib.countFrom, h2, if_neg hne, Int.toNat_natCast, show ([b] : List UInt8).length = 1 from rfl, hr]; omega
      have hs : splitL b l = bef b l :: splitL b r := by
        rw [← hr]
        have := split_mid (r := l.drop ((bef b l).length + 1)) (bef_not b l)
        rw [← hp] at this; exact this
      rw [hc, hs]
      refine ⟨?_, by rw [List.length_cons, i2]⟩
      rw [Lib.splitK, h2, if_neg hne, Int.toNat_natCast, show ([b] : List UInt8).length = 1 from rfl, hr, i1, Nat.add_zero, take_bef]
theorem splitB_texts (s : ByteArray) (b : UInt8) : ((Lib.splitB ⟨#[b]⟩ 0 (Lib.countB s ⟨#[b]⟩) s).map Value.string) = texts (splitL b (bl s)) ∧ Lib.countB s ⟨#[b]⟩ + 1 = (splitL b (bl s)).length := by
  have h1 := Lib.splitB_data ⟨#[b]⟩ 0 (Lib.countB s ⟨#[b]⟩) s
  have h2 : Lib.countB s ⟨#[b]⟩ = Lib.countFrom [b] ((bl s).length + 1) (bl s) := by
    rfl
  obtain ⟨h3, h4⟩ := splitK_one b ((bl s).length + 1) (bl s) (by omega)
  refine ⟨?_, by rw [h2, h4]⟩
  have h5 : (Lib.splitB ⟨#[b]⟩ 0 (Lib.countB s ⟨#[b]⟩) s).map bl = splitL b (bl s) := by
    rw [← h3, ← h2]; exact h1
  rw [← h5, texts, List.map_map]
  exact List.map_congr_left fun x _ => congrArg Value.string (bl_ext rfl)
theorem split_any (s : ByteArray) (b : UInt8) (w : World) (hs : s.size ≤ 1000000000) (hL : LW w) :
    Calls Tryz.prog 37 #[.string s, .string ⟨#[b]⟩] w fun e w' => e = .returned (.slice (some ⟨w.heap.size, 0, none⟩) (splitL b (bl s)).length (splitL b (bl s)).length) ∧ Lies w' w.heap.size 9 (texts (splitL b (bl s))) ∧ Below w.heap.size w w' := by
  obtain ⟨m, hm⟩ := hL.ml
  obtain ⟨h1, h2⟩ := splitB_texts s b
  refine (Tryz.strings_Split s ⟨#[b]⟩ m w (by omega) hm (Nat.le_refl 1)).mono ?_
  rintro e w' ⟨rfl, rfl⟩
  rw [h1, h2]
  have := Lies.new w 9 (texts (splitL b (bl s))).toArray
  exact ⟨rfl, by simpa using this, (Below.refl w.heap.size w).alloc (Nat.le_refl _) _⟩
end Go.Proofs.YtchkjiadnackaaaGreatDoor

/- Numbers of texts: the reference's l1Read, the program's ParseInt. -/
namespace Go.Proofs.YtchkjiadnackaaaGreatDoor
open Go.RowKit

theorem inr_iff {n lo hi : Int} : inR n lo hi = true ↔ lo ≤ n ∧ n ≤ hi := by simp [inR]
/-- Every number of which a text may tell. -/
theorem l1Num_all (n : Int) (w : World) (h0 : -1000000000 ≤ n) (h1 : n ≤ 1000000000) :
    Calls Tryz.prog 41 #[.int .i64 n] w fun e w' => e = .returned (.string ⟨(Lib.itoa n).toArray⟩) ∧ Below w.heap.size w w' := by
  by_cases hn : n < 0
  · have HC : Hid (∀ W : World, Calls Tryz.prog 41 #[.int .i64 (-n)] W fun e w' => e = .returned (.string ⟨(Lib.itoa (-n)).toArray⟩) ∧ Below W.heap.size W w') := fun W => l1Num_any (-n) W (by omega) (by omega)
    have HI : Hid (Lib.itoa n = 45 :: Lib.itoa (-n)) := by
      unfold Lib.itoa Hid
      rw [if_pos hn, if_neg (by omega), show n.natAbs = (-n).toNat by omega]
    have hz := itoa_len (n := -n) (by omega) (by omega)
    obtain ⟨t, ht⟩ : ∃ t : ByteArray, t = ⟨(Lib.itoa (-n)).toArray⟩ := ⟨_, rfl⟩
    rw [← ht] at HC hz
    have HT := Lib.hid ht
    clear ht
    have hw : IntKind.i64.wrap (-n) = -n := IntWalk.i64_in _ (by omega)
    go_enter Tryz.func41, Tryz.ntmps41
    go_wp2_with fail
    refine (HC.out _).mono ?_
    rintro e w1 ⟨rfl, hb⟩
    go_wp2_with fail
    go_ret
    refine ⟨?_, hb⟩
    rw [HI.out]
    congr 1
    rw [HT.out, ByteArray.mk_append_mk]; rfl
  · exact l1Num_any n w (by omega) h1
/-- What reading a number gives. -/
def GivesNum (s : ByteArray) (w : World) (e : Ending) (w' : World) : Prop := e = .returned (.tuple #[.int .i64 ((numF (bl s)).getD 0), .bool (numF (bl s)).isSome]) ∧ Below w.heap.size w w'
end Go.Proofs.YtchkjiadnackaaaGreatDoor

/- Numbers of texts: the reference's l1Read, the program's ParseInt. (Printed by gen_read.py) -/
namespace Go.Proofs.YtchkjiadnackaaaGreatDoor
open Go.RowKit

theorem str_beqL (a b : ByteArray) : (a.toList == b.toList) = decide (bl a = bl b) := by
  rw [ByteArray.toList_eq a, ByteArray.toList_eq b, Bool.eq_iff_iff]; simp [bl]
/-- t are the digits of s. -/
def TOf (s t : List UInt8) (neg : Bool) : Prop := (neg = true ∧ s = 45 :: t ∧ 1 ≤ t.length) ∨ (neg = false ∧ s = t ∧ (s.head? ≠ some 45 ∨ s.length ≤ 1))
theorem tof_num {s t : List UInt8} {neg : Bool} (h : TOf s t neg) {n : Int} (hq : numF s = some n) : 1 ≤ t.length ∧ t.length ≤ 6 ∧ Lib.decFrom 0 t = some n.natAbs ∧ n = (if neg = true then -(n.natAbs : Int) else (n.natAbs : Int)) := by
  obtain ⟨h6, e⟩ := numF_is hq
  rcases num_read h6 e with ⟨h1, t', h2, h3, h4, h5⟩ | ⟨h1, h2, h3, h4, h5⟩
  · rcases h with ⟨rfl, h7, h8⟩ | ⟨rfl, h7, h8⟩
    · rw [h2] at h7; injection h7 with _ h7; subst h7
      exact ⟨h3, h4, h5, by simp; omega⟩
    · exfalso
      rcases h8 with h8 | h8
      · rw [h2] at h8; exact h8 rfl
      · rw [h2] at h8; simp only [List.length_cons] at h8; omega
  · rcases h with ⟨rfl, h7, h8⟩ | ⟨rfl, h7, h8⟩
    · exfalso; rw [h7] at h2; exact h2 rfl
    · subst h7; exact ⟨h3, h4, h5, by simp; omega⟩

set_option maxRecDepth 100000 in
set_option maxHeartbeats 4000000 in
set_option linter.unusedVariables false in
theorem l1Read_any (s : ByteArray) (w : World) (hs : s.size ≤ 1000000000) :
    Calls Tryz.prog 55 #[.string s] w (GivesNum s w) := by
  by_cases hsz : 1 < s.size
  · have hi : (1 : Int) < (s.size : Int) := by omega
    by_cases h45 : s[0].toNat = 45
    · have hT : TOf (bl s) (bl (s.extract 1 s.size)) true := by
        refine .inl ⟨rfl, ?_, ?_⟩
        · have h1 := bl_drop (s := s) (k := 0) (by omega)
          rw [bl_extract, List.take_of_length_le (by rw [bl_size]; exact Nat.le_refl _)]
          have h2 : s[0] = 45 := UInt8.toNat_inj.1 h45
          rw [List.drop_zero, h2] at h1; exact h1
        · rw [bl_extract, List.length_drop, List.length_take, bl_size]; omega
      obtain ⟨t, ht⟩ : ∃ t, s.extract 1 s.size = t := ⟨_, rfl⟩
      have hts : t.size + 1 = s.size := by rw [← ht, ← bl_size, bl_extract, List.length_drop, List.length_take, bl_size]; omega
      rw [ht] at hT
      have hq : ((s[0].toNat : Int) == 45) = true := by simp; omega
      have HT45 := Lib.hid h45
      clear h45
      go_enter Tryz.func55, Tryz.ntmps55
      go_upto_region 4 with fail
      clear ht
      by_cases hlen : 1 ≤ t.size ∧ t.size ≤ 6
      · obtain ⟨hl1, hl6⟩ := hlen
        have HT := Lib.hid hT
        clear hT
        have i1 : (1 : Int) ≤ (t.size : Int) := by omega
        have i6 : (t.size : Int) ≤ 6 := by omega
        have hin : inR (t.size : Int) 1 6 = true := inr_iff.2 ⟨i1, i6⟩
        go_wp2_with fail
        refine (l1In_any _ _ _ _).mono ?_
        rintro e w' ⟨rfl, rfl⟩
        rw [hin]
        clear hin
        go_wp2_with fail
        go_loopw [5, 6] (fun m i wr => ∃ (k acc : Nat), k ≤ t.size ∧ i = .int .i64 k ∧ m = .int .i64 acc ∧ acc < 1000000 ∧ w = wr ∧ Hid (Lib.decFrom 0 ((bl t).take k) = some acc)) (fun _ i _ => t.size - (intOf i).toNat)
        case atStart => exact ⟨0, 0, Nat.zero_le _, rfl, rfl, by omega, rfl, by simp [Lib.decFrom, Hid]⟩
        case round =>
          obtain ⟨k, acc, hk, rfl, rfl, hacc, rfl, HD⟩ := hrel
          by_cases hlt : k < t.size
          · by_cases hd : 48 ≤ t[k].toNat ∧ t[k].toNat ≤ 57
            · obtain ⟨hd1, hd2⟩ := hd
              have HST : Hid (Lib.decFrom 0 ((bl t).take (k + 1)) = some (acc * 10 + (t[k].toNat - 48))) :=
                Lib.decFrom_take (bl t) k 0 acc t[k] (t[k].toNat - 48) HD.out (List.getElem?_eq_getElem (l := bl t) hlt) (by unfold Lib.digitVal; rw [if_pos ⟨hd1, hd2⟩])
              have hacc2 : acc * 10 + (t[k].toNat - 48) < 1000000 := by
                have h1 := Lib.decFrom_lt _ _ _ HST.out
                have h2 : ((bl t).take (k + 1)).length ≤ 6 := by rw [List.length_take]; omega
                have h3 := Nat.pow_le_pow_right (show 0 < 10 by omega) h2
                omega
              have j1 : (48 : Int) ≤ (t[k].toNat : Int) := by omega
              have j2 : (t[k].toNat : Int) ≤ 57 := by omega
              have j3 : IntKind.u8.wrap ((t[k].toNat : Int) - 48) = (t[k].toNat : Int) - 48 := IntWalk.u8_in _ (by omega)
              have j4 : IntKind.i64.wrap ((t[k].toNat : Int) - 48) = (t[k].toNat : Int) - 48 := IntWalk.i64_in _ (by omega)
              have j5 : IntKind.i64.wrap (10 * (acc : Int)) = 10 * (acc : Int) := IntWalk.i64_in _ (by omega)
              have j6 : IntKind.i64.wrap (10 * (acc : Int) + ((t[k].toNat : Int) - 48)) = 10 * (acc : Int) + ((t[k].toNat : Int) - 48) := IntWalk.i64_in _ (by omega)
              clear HD hacc
              go_wp2_with fail
              go_roundw
              case rel => exact ⟨k + 1, acc * 10 + (t[k].toNat - 48), by omega, by go_num, by go_num, hacc2, by first | trivial | rfl, HST⟩
              case measure => simp [intOf] <;> omega
            · have HZ : Hid (numF (bl s) = none) := by
                cases hq : numF (bl s) with
                | none => rfl
                | some n =>
                  exfalso
                  obtain ⟨_, _, h3, _⟩ := tof_num HT.out hq
                  obtain ⟨d, hdd⟩ := Lib.digit_of_decFrom _ _ _ h3 k t[k] (List.getElem?_eq_getElem (l := bl t) hlt)
                  have := Lib.digitVal_eq hdd
                  omega
              by_cases h48 : t[k].toNat < 48
              · have j1 : (t[k].toNat : Int) < 48 := by omega
                clear hd
                go_wp2_with fail
                go_ret2
                exact ⟨by rw [HZ.out]; rfl, Below.refl _ _⟩
              · have j1 : ¬ (t[k].toNat : Int) < 48 := by omega
                have j2 : (57 : Int) < (t[k].toNat : Int) := by omega
                clear hd h48
                go_wp2_with fail
                go_ret2
                exact ⟨by rw [HZ.out]; rfl, Below.refl _ _⟩
          · obtain rfl : k = t.size := by omega
            have HF : Hid (Lib.decFrom 0 (bl t) = some acc) := by
              have h1 := HD.out
              rw [List.take_of_length_le (by rw [bl_size]; exact Nat.le_refl _)] at h1; exact h1
            clear hlt HD
            have HNUM : Hid (∀ W : World, Calls Tryz.prog 41 #[.int .i64 (-(acc : Int))] W fun e w' => e = .returned (.string ⟨(Lib.itoa (-(acc : Int))).toArray⟩) ∧ Below W.heap.size W w') := fun W => l1Num_all (-(acc : Int)) W (by omega) (by omega)
            obtain ⟨nt, hnt⟩ : ∃ x : ByteArray, x = ⟨(Lib.itoa (-(acc : Int))).toArray⟩ := ⟨_, rfl⟩
            have hbn : bl nt = Lib.itoa (-(acc : Int)) := by rw [hnt, bl_mk]
            rw [← hnt] at HNUM
            clear hnt
            have j7 : IntKind.i64.wrap (-(acc : Int)) = -(acc : Int) := IntWalk.i64_in _ (by omega)
            have j8 : (t.size : Int) < (s.size : Int) := by omega
            by_cases hs : Lib.itoa (-(acc : Int)) = bl s
            · have HZ : Hid (numF (bl s) = some (-(acc : Int))) := numF_eq ⟨by omega, by omega⟩ hs
              have hb : (nt.toList == s.toList) = true := by rw [str_beqL, hbn, hs]; simp
              clear hs hbn
              go_wp2_with fail
              refine (HNUM.out _).mono ?_
              rintro e w1 ⟨rfl, hb1⟩
              go_wp2_with fail
              go_ret2
              exact ⟨by rw [HZ.out]; rfl, hb1⟩
            · have HZ : Hid (numF (bl s) = none) := by
                cases hq : numF (bl s) with
                | none => rfl
                | some n =>
                  exfalso
                  obtain ⟨_, _, h3, h4⟩ := tof_num HT.out hq
                  rw [HF.out] at h3
                  injection h3 with h3
                  have h5 : n = -(acc : Int) := by rw [h4]; simp; omega
                  rw [← h5] at hs
                  exact hs (numF_is hq).2
              have hb : (nt.toList == s.toList) = false := by rw [str_beqL, hbn]; simp [hs]
              clear hs hbn
              go_wp2_with fail
              refine (HNUM.out _).mono ?_
              rintro e w1 ⟨rfl, hb1⟩
              go_wp2_with fail
              go_ret2
              exact ⟨by rw [HZ.out]; rfl, hb1⟩
      · have HZ : Hid (numF (bl s) = none) := by
          cases hq : numF (bl s) with
          | none => rfl
          | some n =>
            exfalso
            obtain ⟨h1, h2, _⟩ := tof_num hT hq
            rw [bl_size] at h1 h2
            exact hlen ⟨h1, h2⟩
        have hin : inR (t.size : Int) 1 6 = false := by
          rw [← Bool.not_eq_true, inr_iff]; omega
        clear hlen
        go_wp2_with fail
        refine (l1In_any _ _ _ _).mono ?_
        rintro e w' ⟨rfl, rfl⟩
        rw [hin]
        clear hin
        go_wp2_with fail
        go_ret2
        exact ⟨by rw [HZ.out]; rfl, Below.refl _ _⟩
    · have hT : TOf (bl s) (bl s) false := by
        refine .inr ⟨rfl, rfl, .inl fun h => h45 ?_⟩
        have h1 := bl_drop (s := s) (k := 0) (by omega)
        rw [List.drop_zero] at h1
        rw [h1] at h
        simp only [List.head?_cons, Option.some.injEq] at h
        rw [h]; rfl
      have hq : ((s[0].toNat : Int) == 45) = false := by rw [beq_eq_false_iff_ne]; omega
      clear h45
      go_enter Tryz.func55, Tryz.ntmps55
      go_upto_region 4 with fail
      by_cases hlen : 1 ≤ s.size ∧ s.size ≤ 6
      · obtain ⟨hl1, hl6⟩ := hlen
        have HT := Lib.hid hT
        clear hT
        have i1 : (1 : Int) ≤ (s.size : Int) := by omega
        have i6 : (s.size : Int) ≤ 6 := by omega
        have hin : inR (s.size : Int) 1 6 = true := inr_iff.2 ⟨i1, i6⟩
        go_wp2_with fail
        refine (l1In_any _ _ _ _).mono ?_
        rintro e w' ⟨rfl, rfl⟩
        rw [hin]
        clear hin
        go_wp2_with fail
        go_loopw [5, 6] (fun m i wr => ∃ (k acc : Nat), k ≤ s.size ∧ i = .int .i64 k ∧ m = .int .i64 acc ∧ acc < 1000000 ∧ w = wr ∧ Hid (Lib.decFrom 0 ((bl s).take k) = some acc)) (fun _ i _ => s.size - (intOf i).toNat)
        case atStart => exact ⟨0, 0, Nat.zero_le _, rfl, rfl, by omega, rfl, by simp [Lib.decFrom, Hid]⟩
        case round =>
          obtain ⟨k, acc, hk, rfl, rfl, hacc, rfl, HD⟩ := hrel
          by_cases hlt : k < s.size
          · by_cases hd : 48 ≤ s[k].toNat ∧ s[k].toNat ≤ 57
            · obtain ⟨hd1, hd2⟩ := hd
              have HST : Hid (Lib.decFrom 0 ((bl s).take (k + 1)) = some (acc * 10 + (s[k].toNat - 48))) :=
                Lib.decFrom_take (bl s) k 0 acc s[k] (s[k].toNat - 48) HD.out (List.getElem?_eq_getElem (l := bl s) hlt) (by unfold Lib.digitVal; rw [if_pos ⟨hd1, hd2⟩])
              have hacc2 : acc * 10 + (s[k].toNat - 48) < 1000000 := by
                have h1 := Lib.decFrom_lt _ _ _ HST.out
                have h2 : ((bl s).take (k + 1)).length ≤ 6 := by rw [List.length_take]; omega
                have h3 := Nat.pow_le_pow_right (show 0 < 10 by omega) h2
                omega
              have j1 : (48 : Int) ≤ (s[k].toNat : Int) := by omega
              have j2 : (s[k].toNat : Int) ≤ 57 := by omega
              have j3 : IntKind.u8.wrap ((s[k].toNat : Int) - 48) = (s[k].toNat : Int) - 48 := IntWalk.u8_in _ (by omega)
              have j4 : IntKind.i64.wrap ((s[k].toNat : Int) - 48) = (s[k].toNat : Int) - 48 := IntWalk.i64_in _ (by omega)
              have j5 : IntKind.i64.wrap (10 * (acc : Int)) = 10 * (acc : Int) := IntWalk.i64_in _ (by omega)
              have j6 : IntKind.i64.wrap (10 * (acc : Int) + ((s[k].toNat : Int) - 48)) = 10 * (acc : Int) + ((s[k].toNat : Int) - 48) := IntWalk.i64_in _ (by omega)
              clear HD hacc
              go_wp2_with fail
              go_roundw
              case rel => exact ⟨k + 1, acc * 10 + (s[k].toNat - 48), by omega, by go_num, by go_num, hacc2, by first | trivial | rfl, HST⟩
              case measure => simp [intOf] <;> omega
            · have HZ : Hid (numF (bl s) = none) := by
                cases hq : numF (bl s) with
                | none => rfl
                | some n =>
                  exfalso
                  obtain ⟨_, _, h3, _⟩ := tof_num HT.out hq
                  obtain ⟨d, hdd⟩ := Lib.digit_of_decFrom _ _ _ h3 k s[k] (List.getElem?_eq_getElem (l := bl s) hlt)
                  have := Lib.digitVal_eq hdd
                  omega
              by_cases h48 : s[k].toNat < 48
              · have j1 : (s[k].toNat : Int) < 48 := by omega
                clear hd
                go_wp2_with fail
                go_ret2
                exact ⟨by rw [HZ.out]; rfl, Below.refl _ _⟩
              · have j1 : ¬ (s[k].toNat : Int) < 48 := by omega
                have j2 : (57 : Int) < (s[k].toNat : Int) := by omega
                clear hd h48
                go_wp2_with fail
                go_ret2
                exact ⟨by rw [HZ.out]; rfl, Below.refl _ _⟩
          · obtain rfl : k = s.size := by omega
            have HF : Hid (Lib.decFrom 0 (bl s) = some acc) := by
              have h1 := HD.out
              rw [List.take_of_length_le (by rw [bl_size]; exact Nat.le_refl _)] at h1; exact h1
            clear hlt HD
            have HNUM : Hid (∀ W : World, Calls Tryz.prog 41 #[.int .i64 ((acc : Int))] W fun e w' => e = .returned (.string ⟨(Lib.itoa ((acc : Int))).toArray⟩) ∧ Below W.heap.size W w') := fun W => l1Num_all ((acc : Int)) W (by omega) (by omega)
            obtain ⟨nt, hnt⟩ : ∃ x : ByteArray, x = ⟨(Lib.itoa ((acc : Int))).toArray⟩ := ⟨_, rfl⟩
            have hbn : bl nt = Lib.itoa ((acc : Int)) := by rw [hnt, bl_mk]
            rw [← hnt] at HNUM
            clear hnt
            have j7 : IntKind.i64.wrap (-(acc : Int)) = -(acc : Int) := IntWalk.i64_in _ (by omega)
            have j8 : True := trivial
            by_cases hs : Lib.itoa ((acc : Int)) = bl s
            · have HZ : Hid (numF (bl s) = some ((acc : Int))) := numF_eq ⟨by omega, by omega⟩ hs
              have hb : (nt.toList == s.toList) = true := by rw [str_beqL, hbn, hs]; simp
              clear hs hbn
              go_wp2_with fail
              refine (HNUM.out _).mono ?_
              rintro e w1 ⟨rfl, hb1⟩
              go_wp2_with fail
              go_ret2
              exact ⟨by rw [HZ.out]; rfl, hb1⟩
            · have HZ : Hid (numF (bl s) = none) := by
                cases hq : numF (bl s) with
                | none => rfl
                | some n =>
                  exfalso
                  obtain ⟨_, _, h3, h4⟩ := tof_num HT.out hq
                  rw [HF.out] at h3
                  injection h3 with h3
                  have h5 : n = (acc : Int) := by rw [h4]; simp; omega
                  rw [← h5] at hs
                  exact hs (numF_is hq).2
              have hb : (nt.toList == s.toList) = false := by rw [str_beqL, hbn]; simp [hs]
              clear hs hbn
              go_wp2_with fail
              refine (HNUM.out _).mono ?_
              rintro e w1 ⟨rfl, hb1⟩
              go_wp2_with fail
              go_ret2
              exact ⟨by rw [HZ.out]; rfl, hb1⟩
      · have HZ : Hid (numF (bl s) = none) := by
          cases hq : numF (bl s) with
          | none => rfl
          | some n =>
            exfalso
            obtain ⟨h1, h2, _⟩ := tof_num hT hq
            rw [bl_size] at h1 h2
            exact hlen ⟨h1, h2⟩
        have hin : inR (s.size : Int) 1 6 = false := by
          rw [← Bool.not_eq_true, inr_iff]; omega
        clear hlen
        go_wp2_with fail
        refine (l1In_any _ _ _ _).mono ?_
        rintro e w' ⟨rfl, rfl⟩
        rw [hin]
        clear hin
        go_wp2_with fail
        go_ret2
        exact ⟨by rw [HZ.out]; rfl, Below.refl _ _⟩
  · have hi : ¬ (1 : Int) < (s.size : Int) := by omega
    have hT : TOf (bl s) (bl s) false := .inr ⟨rfl, rfl, .inr (by rw [bl_size]; omega)⟩
    go_enter Tryz.func55, Tryz.ntmps55
    go_upto_region 4 with fail
    by_cases hlen : 1 ≤ s.size ∧ s.size ≤ 6
    · obtain ⟨hl1, hl6⟩ := hlen
      have HT := Lib.hid hT
      clear hT
      have i1 : (1 : Int) ≤ (s.size : Int) := by omega
      have i6 : (s.size : Int) ≤ 6 := by omega
      have hin : inR (s.size : Int) 1 6 = true := inr_iff.2 ⟨i1, i6⟩
      go_wp2_with fail
      refine (l1In_any _ _ _ _).mono ?_
      rintro e w' ⟨rfl, rfl⟩
      rw [hin]
      clear hin
      go_wp2_with fail
      go_loopw [5, 6] (fun m i wr => ∃ (k acc : Nat), k ≤ s.size ∧ i = .int .i64 k ∧ m = .int .i64 acc ∧ acc < 1000000 ∧ w = wr ∧ Hid (Lib.decFrom 0 ((bl s).take k) = some acc)) (fun _ i _ => s.size - (intOf i).toNat)
      case atStart => exact ⟨0, 0, Nat.zero_le _, rfl, rfl, by omega, rfl, by simp [Lib.decFrom, Hid]⟩
      case round =>
        obtain ⟨k, acc, hk, rfl, rfl, hacc, rfl, HD⟩ := hrel
        by_cases hlt : k < s.size
        · by_cases hd : 48 ≤ s[k].toNat ∧ s[k].toNat ≤ 57
          · obtain ⟨hd1, hd2⟩ := hd
            have HST : Hid (Lib.decFrom 0 ((bl s).take (k + 1)) = some (acc * 10 + (s[k].toNat - 48))) :=
              Lib.decFrom_take (bl s) k 0 acc s[k] (s[k].toNat - 48) HD.out (List.getElem?_eq_getElem (l := bl s) hlt) (by unfold Lib.digitVal; rw [if_pos ⟨hd1, hd2⟩])
            have hacc2 : acc * 10 + (s[k].toNat - 48) < 1000000 := by
              have h1 := Lib.decFrom_lt _ _ _ HST.out
              have h2 : ((bl s).take (k + 1)).length ≤ 6 := by rw [List.length_take]; omega
              have h3 := Nat.pow_le_pow_right (show 0 < 10 by omega) h2
              omega
            have j1 : (48 : Int) ≤ (s[k].toNat : Int) := by omega
            have j2 : (s[k].toNat : Int) ≤ 57 := by omega
            have j3 : IntKind.u8.wrap ((s[k].toNat : Int) - 48) = (s[k].toNat : Int) - 48 := IntWalk.u8_in _ (by omega)
            have j4 : IntKind.i64.wrap ((s[k].toNat : Int) - 48) = (s[k].toNat : Int) - 48 := IntWalk.i64_in _ (by omega)
            have j5 : IntKind.i64.wrap (10 * (acc : Int)) = 10 * (acc : Int) := IntWalk.i64_in _ (by omega)
            have j6 : IntKind.i64.wrap (10 * (acc : Int) + ((s[k].toNat : Int) - 48)) = 10 * (acc : Int) + ((s[k].toNat : Int) - 48) := IntWalk.i64_in _ (by omega)
            clear HD hacc
            go_wp2_with fail
            go_roundw
            case rel => exact ⟨k + 1, acc * 10 + (s[k].toNat - 48), by omega, by go_num, by go_num, hacc2, by first | trivial | rfl, HST⟩
            case measure => simp [intOf] <;> omega
          · have HZ : Hid (numF (bl s) = none) := by
              cases hq : numF (bl s) with
              | none => rfl
              | some n =>
                exfalso
                obtain ⟨_, _, h3, _⟩ := tof_num HT.out hq
                obtain ⟨d, hdd⟩ := Lib.digit_of_decFrom _ _ _ h3 k s[k] (List.getElem?_eq_getElem (l := bl s) hlt)
                have := Lib.digitVal_eq hdd
                omega
            by_cases h48 : s[k].toNat < 48
            · have j1 : (s[k].toNat : Int) < 48 := by omega
              clear hd
              go_wp2_with fail
              go_ret2
              exact ⟨by rw [HZ.out]; rfl, Below.refl _ _⟩
            · have j1 : ¬ (s[k].toNat : Int) < 48 := by omega
              have j2 : (57 : Int) < (s[k].toNat : Int) := by omega
              clear hd h48
              go_wp2_with fail
              go_ret2
              exact ⟨by rw [HZ.out]; rfl, Below.refl _ _⟩
        · obtain rfl : k = s.size := by omega
          have HF : Hid (Lib.decFrom 0 (bl s) = some acc) := by
            have h1 := HD.out
            rw [List.take_of_length_le (by rw [bl_size]; exact Nat.le_refl _)] at h1; exact h1
          clear hlt HD
          have HNUM : Hid (∀ W : World, Calls Tryz.prog 41 #[.int .i64 ((acc : Int))] W fun e w' => e = .returned (.string ⟨(Lib.itoa ((acc : Int))).toArray⟩) ∧ Below W.heap.size W w') := fun W => l1Num_all ((acc : Int)) W (by omega) (by omega)
          obtain ⟨nt, hnt⟩ : ∃ x : ByteArray, x = ⟨(Lib.itoa ((acc : Int))).toArray⟩ := ⟨_, rfl⟩
          have hbn : bl nt = Lib.itoa ((acc : Int)) := by rw [hnt, bl_mk]
          rw [← hnt] at HNUM
          clear hnt
          have j7 : IntKind.i64.wrap (-(acc : Int)) = -(acc : Int) := IntWalk.i64_in _ (by omega)
          have j8 : True := trivial
          by_cases hs : Lib.itoa ((acc : Int)) = bl s
          · have HZ : Hid (numF (bl s) = some ((acc : Int))) := numF_eq ⟨by omega, by omega⟩ hs
            have hb : (nt.toList == s.toList) = true := by rw [str_beqL, hbn, hs]; simp
            clear hs hbn
            go_wp2_with fail
            refine (HNUM.out _).mono ?_
            rintro e w1 ⟨rfl, hb1⟩
            go_wp2_with fail
            go_ret2
            exact ⟨by rw [HZ.out]; rfl, hb1⟩
          · have HZ : Hid (numF (bl s) = none) := by
              cases hq : numF (bl s) with
              | none => rfl
              | some n =>
                exfalso
                obtain ⟨_, _, h3, h4⟩ := tof_num HT.out hq
                rw [HF.out] at h3
                injection h3 with h3
                have h5 : n = (acc : Int) := by rw [h4]; simp; omega
                rw [← h5] at hs
                exact hs (numF_is hq).2
            have hb : (nt.toList == s.toList) = false := by rw [str_beqL, hbn]; simp [hs]
            clear hs hbn
            go_wp2_with fail
            refine (HNUM.out _).mono ?_
            rintro e w1 ⟨rfl, hb1⟩
            go_wp2_with fail
            go_ret2
            exact ⟨by rw [HZ.out]; rfl, hb1⟩
    · have HZ : Hid (numF (bl s) = none) := by
        cases hq : numF (bl s) with
        | none => rfl
        | some n =>
          exfalso
          obtain ⟨h1, h2, _⟩ := tof_num hT hq
          rw [bl_size] at h1 h2
          exact hlen ⟨h1, h2⟩
      have hin : inR (s.size : Int) 1 6 = false := by
        rw [← Bool.not_eq_true, inr_iff]; omega
      clear hlen
      go_wp2_with fail
      refine (l1In_any _ _ _ _).mono ?_
      rintro e w' ⟨rfl, rfl⟩
      rw [hin]
      clear hin
      go_wp2_with fail
      go_ret2
      exact ⟨by rw [HZ.out]; rfl, Below.refl _ _⟩
end Go.Proofs.YtchkjiadnackaaaGreatDoor

/- Numbers of texts: the program's ParseInt. -/
namespace Go.Proofs.YtchkjiadnackaaaGreatDoor
open Go.RowKit

theorem num_atoi {s : List UInt8} {n : Int} (h : numF s = some n) : Lib.atoiAll s = .ok n := by
  obtain ⟨h1, h2⟩ := numF_is h
  rw [← h2]; exact atoiAll_six h1

set_option maxHeartbeats 2000000 in
set_option linter.unusedVariables false in
theorem parseInt_any (s : ByteArray) (w : World) (hs : s.size ≤ 1000000000) (hL : LW w) :
    Calls Tryz.prog 49 #[.string s] w (GivesNum s w) := by
  rcases ha : Lib.atoiAll s.data.toList with v | _ | _
  · skip
    obtain ⟨v0, v1⟩ := Lib.atoiAll_bounds ha
    have HA := Lib.hid (Tryz.strconv_Atoi_ok s (by omega) v ha w)
    have hv : ∀ n, numF (bl s) = some n → n = v := fun n hn => by
      have h1 := num_atoi hn
      have h2 : Lib.atoiAll (bl s) = .ok v := ha
      rw [h2] at h1; injection h1 with h1; exact h1.symm
    by_cases hr : inR v (-999999) 999999 = true
    · have hr2 := inr_iff.1 hr
      have HI : Hid (∀ W, Tab W → Calls Tryz.prog 39 #[.int .i64 v] W fun e w' => e = .returned (.string ⟨(Lib.itoa v).toArray⟩) ∧ Below W.heap.size W w') := fun W hW => itoa_any v W v0 v1 hW
      obtain ⟨nt, hnt⟩ : ∃ x : ByteArray, x = ⟨(Lib.itoa v).toArray⟩ := ⟨_, rfl⟩
      have hbn : bl nt = Lib.itoa v := by rw [hnt, bl_mk]
      rw [← hnt] at HI
      clear hnt
      have HZ : Hid ((nt.toList == s.toList) = (numF (bl s)).isSome ∧ ((nt.toList == s.toList) = true → numF (bl s) = some v) ∧ ((nt.toList == s.toList) = false → numF (bl s) = none)) := by
        rw [str_beqL, hbn]
        by_cases hq : Lib.itoa v = bl s
        · have h1 := numF_eq (n := v) ⟨by omega, by omega⟩ hq
          rw [h1]; simp [hq, Hid]
        · have h1 : numF (bl s) = none := by
            cases hq2 : numF (bl s) with
            | none => rfl
            | some n => exfalso; have h2 := hv n hq2; subst h2; exact hq (numF_is hq2).2
          rw [h1]; simp [hq, Hid]
      clear hbn hv
      obtain ⟨bb, hbb⟩ : ∃ b : Bool, (nt.toList == s.toList) = b := ⟨_, rfl⟩
      rw [hbb] at HZ
      have fin : ∀ w2, Below w.heap.size w w2 → Hid (LW w2) := fun w2 h2 => hL.then h2
      go_enter Tryz.func49, Tryz.ntmps49
      go_wp2_with fail
      refine HA.out.mono ?_
      rintro e w1 ⟨rfl, hw1⟩
      have hb1 : Below w.heap.size w w1 := by
        rcases hw1 with rfl | ⟨t, rfl⟩
        · exact Below.refl _ _
        · exact Lib.bytesWorld_below _ _ _
      have HL1 := fin w1 hb1
      clear hw1 fin
      go_wp2_with fail
      refine (inRange_any _ _ _ _).mono ?_
      rintro e w' ⟨rfl, rfl⟩
      rw [hr]
      go_wp2_with fail
      refine (HI.out _ HL1.out.tab).mono ?_
      rintro e w2 ⟨rfl, hb2⟩
      have HB := Lib.hid (bthen hb1 hb2)
      clear hb1 hb2 HL1
      cases bb
      · go_wp2_with fail
        go_ret2
        exact ⟨by rw [HZ.out.2.2 (by first | trivial | rfl)]; rfl, HB.out⟩
      · go_wp2_with fail
        go_ret2
        exact ⟨by rw [HZ.out.2.1 (by first | trivial | rfl)]; rfl, HB.out⟩
    · have HZ : Hid (numF (bl s) = none) := by
        cases hq : numF (bl s) with
        | none => rfl
        | some n =>
          exfalso
          have h2 := hv n hq; subst h2
          obtain ⟨h3, _⟩ := numF_is hq
          exact hr (inr_iff.2 ⟨h3.1, h3.2⟩)
      have hr' : inR v (-999999) 999999 = false := by simpa using hr
      clear hv hr
      go_enter Tryz.func49, Tryz.ntmps49
      go_wp2_with fail
      refine HA.out.mono ?_
      rintro e w1 ⟨rfl, hw1⟩
      have hb1 : Below w.heap.size w w1 := by
        rcases hw1 with rfl | ⟨t, rfl⟩
        · exact Below.refl _ _
        · exact Lib.bytesWorld_below _ _ _
      clear hw1
      go_wp2_with fail
      refine (inRange_any _ _ _ _).mono ?_
      rintro e w' ⟨rfl, rfl⟩
      rw [hr']
      go_wp2_with fail
      go_ret2
      exact ⟨by rw [HZ.out]; rfl, hb1⟩
  · skip
    have HZ : Hid (numF (bl s) = none) := by
      cases hq : numF (bl s) with
      | none => rfl
      | some n => exfalso; have h1 := num_atoi hq; rw [show Lib.atoiAll (bl s) = _ from ha] at h1; cases h1
    obtain ⟨ev, he1, he2⟩ := hL.syn
    have HA := Lib.hid (Tryz.strconv_Atoi_syntax s (by omega) ha ev w he1 he2)
    clear he1 he2
    go_enter Tryz.func49, Tryz.ntmps49
    go_wp2_with fail
    refine HA.out.mono ?_
    rintro e w1 ⟨N, rfl, _, _, hb1⟩
    go_wp2_with fail
    go_ret2
    exact ⟨by rw [HZ.out]; rfl, hb1⟩
  · skip
    have HZ : Hid (numF (bl s) = none) := by
      cases hq : numF (bl s) with
      | none => rfl
      | some n => exfalso; have h1 := num_atoi hq; rw [show Lib.atoiAll (bl s) = _ from ha] at h1; cases h1
    obtain ⟨ev, he1, he2⟩ := hL.rng
    have HA := Lib.hid (Tryz.strconv_Atoi_range s (by omega) ha ev w he1 he2)
    clear he1 he2
    go_enter Tryz.func49, Tryz.ntmps49
    go_wp2_with fail
    refine HA.out.mono ?_
    rintro e w1 ⟨N, rfl, _, _, hb1⟩
    go_wp2_with fail
    go_ret2
    exact ⟨by rw [HZ.out]; rfl, hb1⟩
end Go.Proofs.YtchkjiadnackaaaGreatDoor
