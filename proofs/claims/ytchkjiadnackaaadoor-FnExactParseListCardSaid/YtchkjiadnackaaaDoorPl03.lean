/- Pl03: the texts MergeM ParseP PhrOwn Grown OwnX Short ShortI, joined into one file. -/
import Derived.Laws.OwnMore
import Derived.Test.YtchkjiadnackaaaDoorPl01
import Derived.Test.YtchkjiadnackaaaDoorPl02

set_option linter.unusedVariables false

/- Merging phrases that are alike: the plain law. -/
namespace Go.Proofs.YtchkjiadnackaaaDoor
open Go.RowKit

abbrev PhD := Int × Int × List Int × Int
def alikeD (a b : PhD) : Bool := decide (a.1 = b.1) && decide (a.2.2.1 = b.2.2.1) && decide (a.2.2.2 = b.2.2.2)
theorem Ph.alike_ph (x y : Ph) : Ph.alike x y = alikeD x.ph y.ph := by unfold Ph.alike alikeD Ph.ph sameInts; rfl
theorem alikeD_iff {a b : PhD} : alikeD a b = true ↔ a.1 = b.1 ∧ a.2.2.1 = b.2.2.1 ∧ a.2.2.2 = b.2.2.2 := by unfold alikeD; simp [Bool.and_eq_true, and_assoc]
theorem alikeD_symm (a b : PhD) : alikeD a b = alikeD b a := by
  rw [Bool.eq_iff_iff, alikeD_iff, alikeD_iff]
  constructor <;> (rintro ⟨h1, h2, h3⟩; exact ⟨h1.symm, h2.symm, h3.symm⟩)
theorem alikeD_trans {a b c : PhD} (h : alikeD a b = true) (h' : alikeD a c = true) : alikeD b c = true := by
  rw [alikeD_iff] at *
  exact ⟨h.1.symm.trans h'.1, h.2.1.symm.trans h'.2.1, h.2.2.symm.trans h'.2.2⟩

/-- The copies of the one at place i grow by c. -/
def addAt (c : Int) : Nat → List PhD → List PhD
  | _, [] => []
  | 0, q :: l => (q.1, q.2.1 + c, q.2.2) :: l
  | i + 1, q :: l => q :: addAt c i l
theorem addAt_len (c : Int) : ∀ (i : Nat) (l : List PhD), (addAt c i l).length = l.length
  | _, [] => by cases ‹Nat› <;> rfl
  | 0, _ :: _ => rfl
  | i + 1, _ :: l => by simp [addAt, addAt_len c i l]
/-- Step: p is put to the first one alike, or behind. -/
def putD (out : List PhD) (p : PhD) : List PhD := if idxFrom (alikeD p) 0 out < 0 then out ++ [p] else addAt p.2.1 (idxFrom (alikeD p) 0 out).toNat out
def mergeD (l : List PhD) : List PhD := l.foldl putD []

/-- No two are alike. -/
def Apart (l : List PhD) : Prop := l.Pairwise fun a b => alikeD a b = false
theorem addAt_keys {p : PhD → Prop} (hp : ∀ a b : PhD, alikeD a b = true → (p a ↔ p b)) (c : Int) : ∀ (i : Nat) (l : List PhD), (∀ x ∈ addAt c i l, p x) ↔ ∀ x ∈ l, p x
  | _, [] => by cases ‹Nat› <;> simp [addAt]
  | 0, q :: l => by
    have := hp q (q.1, q.2.1 + c, q.2.2) (alikeD_iff.2 ⟨rfl, rfl, rfl⟩)
    simp [addAt, this]
  | i + 1, q :: l => by
    simp only [addAt, List.mem_cons, forall_eq_or_imp]
    rw [addAt_keys hp c i l]
theorem alikeD_same {a b x : PhD} (h : alikeD a b = true) : alikeD x a = alikeD x b := by
  rw [Bool.eq_iff_iff]
  constructor
  · intro h'; exact alikeD_trans (alikeD_symm x a ▸ h') h
  · intro h'; exact alikeD_trans (alikeD_symm x b ▸ h') (alikeD_symm a b ▸ h)
theorem Apart.add {l : List PhD} (h : Apart l) (c : Int) : ∀ i, Apart (addAt c i l) := by
  induction l with
  | nil => intro i; cases i <;> exact h
  | cons q l ih =>
    unfold Apart at h
    rw [List.pairwise_cons] at h
    intro i
    cases i with
    | zero =>
      unfold Apart addAt
      rw [List.pairwise_cons]
      refine ⟨fun b hb => ?_, h.2⟩
      have := h.1 b hb
      rw [alikeD_symm] at this ⊢
      rw [← this]
      exact (alikeD_same (alikeD_iff.2 ⟨rfl, rfl, rfl⟩)).symm
    | succ i =>
      unfold Apart addAt
      rw [List.pairwise_cons]
      refine ⟨?_, ih h.2 i⟩
      exact (addAt_keys (p := fun b => alikeD q b = false) (fun a b hab => by rw [alikeD_same hab]) c i l).2 h.1
theorem idx_neg {α : Type} {f : α → Bool} : ∀ (l : List α) (k : Nat), idxFrom f k l < 0 → ∀ x ∈ l, f x = false
  | [], _, _, _, hx => by cases hx
  | y :: l, k, h, x, hx => by
    unfold idxFrom at h
    split at h
    · omega
    · rename_i hy
      rcases List.mem_cons.1 hx with rfl | hx'
      · simpa using hy
      · exact idx_neg l (k + 1) h x hx'
theorem Apart.put {l : List PhD} (h : Apart l) (p : PhD) : Apart (putD l p) := by
  unfold putD
  split
  · rename_i hn
    unfold Apart
    rw [List.pairwise_append]
    refine ⟨h, List.pairwise_singleton _ _, fun a ha b hb => ?_⟩
    rw [List.mem_singleton] at hb; subst hb
    rw [alikeD_symm]; exact idx_neg l 0 hn a ha
  · exact h.add _ _

/-- The last one alike among the first k. -/
def lastTo (p : PhD) (out : List PhD) : Nat → Int
  | 0 => -1
  | k + 1 => if h : k < out.length then (if alikeD out[k] p = true then (k : Int) else lastTo p out k) else lastTo p out k
theorem lastTo_bounds (p : PhD) (out : List PhD) : ∀ k, -1 ≤ lastTo p out k ∧ lastTo p out k < k ∧ lastTo p out k < (out.length : Int)
  | 0 => by simp [lastTo]; omega
  | k + 1 => by
    have := lastTo_bounds p out k
    unfold lastTo
    split
    · split <;> omega
    · omega
theorem lastTo_none {p : PhD} {out : List PhD} : ∀ k, (∀ x ∈ out, alikeD p x = false) → lastTo p out k = -1
  | 0, _ => rfl
  | k + 1, h => by
    unfold lastTo
    split
    · rename_i hk
      rw [alikeD_symm, h _ (List.getElem_mem hk)]
      simpa using lastTo_none k h
    · exact lastTo_none k h
theorem idx_spec {α : Type} {f : α → Bool} : ∀ (l : List α) (k : Nat), (idxFrom f k l = -1 ∧ ∀ x ∈ l, f x = false) ∨ ∃ i, ∃ h : i < l.length, idxFrom f k l = ((k + i : Nat) : Int) ∧ f l[i] = true
  | [], k => .inl ⟨rfl, by simp⟩
  | y :: l, k => by
    unfold idxFrom
    split
    · rename_i hy; exact .inr ⟨0, by simp, by simp, by simpa using hy⟩
    · rename_i hy
      rcases idx_spec (f := f) l (k + 1) with ⟨h1, h2⟩ | ⟨i, hi, h1, h2⟩
      · refine .inl ⟨h1, fun x hx => ?_⟩
        rcases List.mem_cons.1 hx with rfl | hx'
        · simpa using hy
        · exact h2 x hx'
      · exact .inr ⟨i + 1, by simpa using hi, by rw [h1]; congr 1; omega, by simpa using h2⟩
theorem lastTo_only {p : PhD} {out : List PhD} (h : Apart out) {i : Nat} (hi : i < out.length) (ha : alikeD p out[i] = true) : ∀ k, i < k → lastTo p out k = i
  | 0, hk => absurd hk (by omega)
  | k + 1, hk => by
    unfold lastTo
    by_cases hki : k = i
    · subst hki; rw [dif_pos hi, alikeD_symm, ha]; simp
    · have ih := lastTo_only h hi ha k (by omega)
      split
      · rename_i hkl
        have hne : alikeD out[k] p = false := by
          rcases hb : alikeD out[k] p with _ | _
          · rfl
          · exfalso
            rw [alikeD_symm] at hb
            have h1 := alikeD_trans ha hb
            have h2 := List.pairwise_iff_getElem.1 h i k hi hkl (by omega)
            rw [h1] at h2; cases h2
        rw [hne]; simpa using ih
      · exact ih
theorem lastTo_idx {p : PhD} {out : List PhD} (h : Apart out) : lastTo p out out.length = idxFrom (alikeD p) 0 out := by
  rcases idx_spec (f := alikeD p) out 0 with ⟨h1, h2⟩ | ⟨i, hi, h1, h2⟩
  · rw [h1]; exact lastTo_none _ h2
  · rw [h1, Nat.zero_add]; exact lastTo_only h hi h2 _ hi

/-- The phrases, and whether they are valid. -/
def okD (a : PhD) : Bool := inR a.1 1 3 && inR a.2.1 1 99 && rises 1 9 a.2.2.1 && inR a.2.2.2 0 999999
theorem ok_okD (x : Ph) : x.ok = okD x.ph := rfl
def goodD (l : List PhD) : Bool := decide (l.length ≤ 10) && l.all okD
theorem good_goodD (l : List Ph) : goodPhs l = goodD (l.map Ph.ph) := by
  unfold goodPhs goodD
  rw [List.length_map, List.all_map]; rfl
/-- What MergeAlike answers. -/
def mergeA (l : List PhD) : List PhD × Bool := if goodD l = true then (if goodD (mergeD l) = true then (mergeD l, true) else ([], false)) else ([], false)

theorem rises_len9 {lo hi : Int} : ∀ {l : List Int} {n : Nat} {p : Int}, riseFrom lo hi (n + 1) p l = true → lo ≤ p → (l.length : Int) ≤ hi - p ∨ l = []
  | [], _, _, _, _ => .inr rfl
  | x :: l, n, p, h, hp => by
    simp only [riseFrom, Bool.and_eq_true, inR_iff, Bool.or_eq_true, decide_eq_true_eq] at h
    obtain ⟨⟨⟨h1, h2⟩, h3⟩, h4⟩ := h
    have h5 : p < x := by omega
    left
    rcases rises_len9 h4 (by omega) with h6 | h6
    · simp only [List.length_cons]; omega
    · rw [h6]; simp; omega
theorem faults9 {l : List Int} (h : rises 1 9 l = true) : l.length ≤ 9 := by
  cases l with
  | nil => simp
  | cons x l =>
    unfold rises at h
    simp only [riseFrom, Bool.and_eq_true, inR_iff] at h
    rcases rises_len9 h.2 (by omega) with h1 | h1
    · simp only [List.length_cons]; omega
    · rw [h1]; simp
/-- Bounds while merging. -/
def Slim (n : Nat) (l : List PhD) : Prop := l.length ≤ n ∧ ∀ q ∈ l, 0 ≤ q.2.1 ∧ q.2.1 ≤ 99 * (n : Int) ∧ q.2.2.1.length ≤ 9
theorem slim_add {c : Int} {b : Int} (hc : 0 ≤ c ∧ c ≤ 99) : ∀ (i : Nat) (l : List PhD), (∀ q ∈ l, 0 ≤ q.2.1 ∧ q.2.1 ≤ b ∧ q.2.2.1.length ≤ 9) → ∀ q ∈ addAt c i l, 0 ≤ q.2.1 ∧ q.2.1 ≤ b + 99 ∧ q.2.2.1.length ≤ 9
  | i, [], _, q, hq => by cases i <;> simp [addAt] at hq
  | 0, x :: l, h, q, hq => by
    simp only [addAt, List.mem_cons] at hq
    rcases hq with rfl | hq
    · have := h x (List.mem_cons_self ..); simp only; omega
    · have := h q (List.mem_cons_of_mem _ hq); omega
  | i + 1, x :: l, h, q, hq => by
    simp only [addAt, List.mem_cons] at hq
    rcases hq with rfl | hq
    · have := h q (List.mem_cons_self ..); omega
    · exact slim_add hc i l (fun y hy => h y (List.mem_cons_of_mem _ hy)) q hq
theorem Slim.put {n : Nat} {l : List PhD} (h : Slim n l) {p : PhD} (hc : 0 ≤ p.2.1 ∧ p.2.1 ≤ 99) (hf : p.2.2.1.length ≤ 9) : Slim (n + 1) (putD l p) := by
  obtain ⟨h1, h2⟩ := h
  unfold putD
  split
  · refine ⟨by simp; omega, fun q hq => ?_⟩
    rcases List.mem_append.1 hq with hq | hq
    · have := h2 q hq; omega
    · rw [List.mem_singleton] at hq; subst hq; omega
  · refine ⟨by rw [addAt_len]; omega, fun q hq => ?_⟩
    have := slim_add hc _ l h2 q hq
    omega
theorem putD_new {out : List PhD} {p : PhD} (h : idxFrom (alikeD p) 0 out < 0) : putD out p = out ++ [p] := by unfold putD; rw [if_pos h]
theorem putD_old {out : List PhD} {p : PhD} {i : Nat} (h : idxFrom (alikeD p) 0 out = i) : putD out p = addAt p.2.1 i out := by unfold putD; rw [if_neg (by omega), h, Int.toNat_natCast]
theorem addAt_split {c : Int} : ∀ (i : Nat) (l : List PhD) (h : i < l.length), addAt c i l = l.take i ++ (l[i].1, l[i].2.1 + c, l[i].2.2) :: l.drop (i + 1)
  | 0, q :: l, _ => by simp [addAt]
  | i + 1, q :: l, h => by simp only [addAt, List.take_succ_cons, List.cons_append, List.getElem_cons_succ, List.drop_succ_cons]; rw [addAt_split i l (by simpa using h)]
theorem fsum_le9 : ∀ m : List Ph, (∀ x ∈ m, x.f.length ≤ 9) → fsum m ≤ 9 * m.length
  | [], _ => by simp [fsum]
  | x :: m, h => by
    have h1 := h x (List.mem_cons_self ..)
    have h2 := fsum_le9 m fun y hy => h y (List.mem_cons_of_mem _ hy)
    simp only [fsum, List.length_cons]; omega
theorem need_goodD {m : List Ph} {R : List PhD} (hm : m.map Ph.ph = R) (h : goodD R = true) : need m ≤ 1048576 := by
  subst hm
  unfold goodD at h
  simp only [Bool.and_eq_true, List.length_map] at h
  have h1 := of_decide_eq_true h.1
  have h2 := fsum_le9 m fun x hx => by
    have := List.all_eq_true.1 h.2 x.ph (List.mem_map.2 ⟨x, hx, rfl⟩)
    unfold okD at this
    simp only [Bool.and_eq_true] at this
    exact faults9 this.1.2
  unfold need; omega
theorem mergeA_good (l : List PhD) : goodD (mergeA l).1 = true := by
  unfold mergeA
  split
  · split
    · assumption
    · rfl
  · rfl
end Go.Proofs.YtchkjiadnackaaaDoor

/- A phrase is read back from its short text, in the program's way and in the reference's (plain). -/
namespace Go.Proofs.YtchkjiadnackaaaDoor

def shortD (x : PhD) : List UInt8 := markT x.1 ++ copT x.2.1 ++ fauT x.2.2.1 ++ priT x.2.2.2
/-- The number of a text, or 0. -/
noncomputable def numD (t : List UInt8) : Int := (numF t).getD 0
theorem numD_itoa {n : Int} (h : Six n) : numD (Lib.itoa n) = n := by unfold numD; rw [numF_some h]; rfl
theorem numD_six (t : List UInt8) : Six (numD t) := by
  unfold numD
  cases h : numF t with
  | none => exact ⟨by simp, by simp⟩
  | some n => exact (numF_is h).1
/-- What stands behind the first b. -/
def aft (b : UInt8) (l : List UInt8) : List UInt8 := l.drop ((bef b l).length + 1)
theorem aft_mid {b : UInt8} {t r : List UInt8} (h : b ∉ t) : aft b (t ++ b :: r) = r := by
  unfold aft
  rw [bef_mid h, List.drop_append]
  simp
/-- The phrase that the reference reads. -/
noncomputable def specD (s : List UInt8) : PhD :=
  let parts := splitL 61 s
  let faults := splitL 33 (parts.headD [])
  let head := splitL 40 (faults.headD [])
  let last := head.getLastD []
  (if head.headD [] = [42] then 2 else if head.headD [] = [42, 42] then 1 else 3,
   if head.length = 2 ∧ 1 < last.length then numD (last.take (last.length - 1)) else 1,
   faults.tail.map numD,
   if parts.length = 2 then numD (parts.getD 1 []) else 0)
def stateD (t : List UInt8) : Int := if t = [42, 42] then 1 else if t = [42] then 2 else if t = [111] then 3 else 0
/-- The phrase that the program reads. -/
noncomputable def implD (s : List UInt8) : PhD :=
  let faults := splitL 33 (bef 61 s)
  let p := faults.headD []
  (stateD (bef 40 p), if (40 : UInt8) ∈ p then numD (Lib.trimSuffix (aft 40 p) [41]) else 1, faults.tail.map numD, if (61 : UInt8) ∈ s then numD (aft 61 s) else 0)

theorem itoa_free' {n : Int} {b : UInt8} (h : b.toNat < 45 ∨ 57 < b.toNat) : b ∉ Lib.itoa n := by
  unfold Lib.itoa
  split
  · intro hm
    rcases List.mem_cons.1 hm with e | e
    · subst e
      have h45 : (45 : UInt8).toNat = 45 := rfl
      omega
    · have := dec_digit _ _ e; omega
  · intro hm
    have := dec_digit _ _ hm; omega
theorem mark_free {s : Int} {b : UInt8} (h : b ≠ 42 ∧ b ≠ 111) : b ∉ markT s := by
  unfold markT
  split
  · simp [h.1]
  · split
    · simp [h.1]
    · simp [h.2]
theorem cop_free {c : Int} {b : UInt8} (h : b.toNat < 40 ∨ 57 < b.toNat) : b ∉ copT c := by
  unfold copT
  have h40 : (40 : UInt8).toNat = 40 := rfl
  have h41 : (41 : UInt8).toNat = 41 := rfl
  split
  · intro hm
    rw [List.mem_append, List.mem_cons, List.mem_singleton] at hm
    rcases hm with (e | e) | e
    · subst e; omega
    · exact itoa_free' (by omega) e
    · subst e; omega
  · simp
theorem fau_free {b : UInt8} (h : 57 < b.toNat) : ∀ l : List Int, b ∉ fauT l
  | [] => by simp [fauT]
  | f :: l => by
    have h33 : (33 : UInt8).toNat = 33 := rfl
    intro hm
    rw [fauT, List.mem_append, List.mem_cons] at hm
    rcases hm with (e | e) | e
    · subst e; omega
    · exact itoa_free' (by omega) e
    · exact fau_free h l e
theorem fau_split : ∀ (l : List Int) (t : List UInt8), (33 : UInt8) ∉ t → splitL 33 (t ++ fauT l) = t :: l.map Lib.itoa
  | [], t, h => by rw [fauT, List.append_nil, split_free h]; rfl
  | f :: l, t, h => by
    rw [fauT, List.cons_append, split_mid h, fau_split l (Lib.itoa f) (itoa_free' (by decide))]; rfl
theorem okD_iff {x : PhD} : okD x = true ↔ (1 ≤ x.1 ∧ x.1 ≤ 3) ∧ (1 ≤ x.2.1 ∧ x.2.1 ≤ 99) ∧ rises 1 9 x.2.2.1 = true ∧ 0 ≤ x.2.2.2 ∧ x.2.2.2 ≤ 999999 := by
  unfold okD
  simp only [Bool.and_eq_true, inR_iff, and_assoc]
theorem faults_in {l : List Int} (h : rises 1 9 l = true) : ∀ f ∈ l, 1 ≤ f ∧ f ≤ 9 := fun f hf => by
  rw [rises_eq, Bool.and_eq_true, List.all_eq_true] at h
  exact inR_iff.1 (h.2 _ hf)
theorem map_num {l : List Int} (h : ∀ f ∈ l, 1 ≤ f ∧ f ≤ 9) : (l.map Lib.itoa).map numD = l := by
  rw [List.map_map]
  refine (List.map_congr_left fun f hf => ?_).trans (List.map_id l)
  have := h f hf
  exact numD_itoa ⟨by omega, by omega⟩
/-- The three cuts of a short text. -/
theorem short_cuts {x : PhD} (h : okD x = true) :
    (61 : UInt8) ∉ markT x.1 ++ copT x.2.1 ++ fauT x.2.2.1 ∧ (33 : UInt8) ∉ markT x.1 ++ copT x.2.1 ∧ (40 : UInt8) ∉ markT x.1 := by
  refine ⟨?_, ?_, mark_free (by decide)⟩
  · rw [List.mem_append, List.mem_append]
    rintro ((e | e) | e)
    · exact mark_free (by decide) e
    · exact cop_free (by decide) e
    · exact fau_free (by decide) _ e
  · rw [List.mem_append]
    rintro (e | e)
    · exact mark_free (by decide) e
    · exact cop_free (by decide) e
theorem mark_state {s : Int} (h : 1 ≤ s ∧ s ≤ 3) : stateD (markT s) = s ∧ (if markT s = [42] then (2 : Int) else if markT s = [42, 42] then 1 else 3) = s := by
  have : s = 1 ∨ s = 2 ∨ s = 3 := by omega
  rcases this with rfl | rfl | rfl <;> exact ⟨by decide, by decide⟩
theorem itoa_pos {c : Int} : 1 ≤ (Lib.itoa c).length := by
  unfold Lib.itoa
  split
  · simp
  · rw [Lib.decDigits_length]; exact Lib.nDigits_pos _
theorem spec_short {x : PhD} (h : okD x = true) : specD (shortD x) = x := by
  obtain ⟨f1, f2, f3⟩ := short_cuts h
  obtain ⟨hs, hc, hf, hp⟩ := okD_iff.1 h
  obtain ⟨s, c, f, p⟩ := x
  simp only at f1 f2 f3 hs hc hf hp
  have e2 : splitL 33 (markT s ++ copT c ++ fauT f) = (markT s ++ copT c) :: f.map Lib.itoa := fau_split _ _ f2
  have e1 : ∃ ps, splitL 61 (shortD (s, c, f, p)) = (markT s ++ copT c ++ fauT f) :: ps ∧ (if ((markT s ++ copT c ++ fauT f) :: ps).length = 2 then numD (((markT s ++ copT c ++ fauT f) :: ps).getD 1 []) else 0) = p := by
    unfold shortD priT
    simp only
    by_cases hp0 : 0 < p
    · rw [if_pos hp0]
      refine ⟨[Lib.itoa p], by rw [split_mid f1, split_free (itoa_free' (by decide))], ?_⟩
      simp only [List.length_cons, List.length_nil, if_true, List.getD_cons_succ, List.getD_cons_zero]
      exact numD_itoa ⟨by omega, by omega⟩
    · rw [if_neg hp0]
      refine ⟨[], by rw [List.append_nil, split_free f1], ?_⟩
      simp; omega
  obtain ⟨ps, e1, ep⟩ := e1
  have e3 : ∃ hs', splitL 40 (markT s ++ copT c) = markT s :: hs' ∧ (if (markT s :: hs').length = 2 ∧ 1 < ((markT s :: hs').getLastD []).length then numD (((markT s :: hs').getLastD []).take (((markT s :: hs').getLastD []).length - 1)) else 1) = c := by
    unfold copT
    by_cases hc1 : 1 < c
    · rw [if_pos hc1]
      refine ⟨[Lib.itoa c ++ [41]], ?_, ?_⟩
      · rw [show markT s ++ (40 :: Lib.itoa c ++ [41]) = markT s ++ 40 :: (Lib.itoa c ++ [41]) by simp, split_mid f3, split_free]
        rw [List.mem_append]
        rintro (e | e)
        · exact itoa_free' (by decide) e
        · simp at e
      · have := @itoa_pos c
        have hl : ([markT s, Lib.itoa c ++ [41]] : List (List UInt8)).getLastD [] = Lib.itoa c ++ [41] := rfl
        rw [hl, if_pos ⟨rfl, by simp; omega⟩]
        rw [show (Lib.itoa c ++ [(41 : UInt8)]).length - 1 = (Lib.itoa c).length by simp, List.take_left' rfl]
        exact numD_itoa ⟨by omega, by omega⟩
    · rw [if_neg hc1]
      refine ⟨[], by rw [List.append_nil, split_free f3], ?_⟩
      rw [if_neg (by simp)]; omega
  obtain ⟨hs', e3, ec⟩ := e3
  unfold specD
  simp only [e1, e2, e3, List.headD_cons, List.tail_cons]
  rw [ec, ep, (mark_state hs).2, map_num (faults_in hf)]
theorem impl_short {x : PhD} (h : okD x = true) : implD (shortD x) = x := by
  obtain ⟨f1, f2, f3⟩ := short_cuts h
  obtain ⟨hs, hc, hf, hp⟩ := okD_iff.1 h
  obtain ⟨s, c, f, p⟩ := x
  simp only at f1 f2 f3 hs hc hf hp
  have e2 : splitL 33 (markT s ++ copT c ++ fauT f) = (markT s ++ copT c) :: f.map Lib.itoa := fau_split _ _ f2
  have e1 : bef 61 (shortD (s, c, f, p)) = markT s ++ copT c ++ fauT f ∧ (if (61 : UInt8) ∈ shortD (s, c, f, p) then numD (aft 61 (shortD (s, c, f, p))) else 0) = p := by
    unfold shortD priT
    simp only
    by_cases hp0 : 0 < p
    · rw [if_pos hp0]
      refine ⟨bef_mid f1, ?_⟩
      rw [if_pos (by simp), aft_mid f1]
      exact numD_itoa ⟨by omega, by omega⟩
    · rw [if_neg hp0, List.append_nil]
      refine ⟨bef_free f1, ?_⟩
      rw [if_neg f1]; omega
  have e3 : bef 40 (markT s ++ copT c) = markT s ∧ (if (40 : UInt8) ∈ markT s ++ copT c then numD (Lib.trimSuffix (aft 40 (markT s ++ copT c)) [41]) else 1) = c := by
    unfold copT
    by_cases hc1 : 1 < c
    · rw [if_pos hc1, show markT s ++ (40 :: Lib.itoa c ++ [41]) = markT s ++ 40 :: (Lib.itoa c ++ [41]) by simp]
      refine ⟨bef_mid f3, ?_⟩
      rw [if_pos (by simp), aft_mid f3]
      have : Lib.trimSuffix (Lib.itoa c ++ [41]) [41] = Lib.itoa c := by
        unfold Lib.trimSuffix Lib.hasSuffix
        have hsuf : List.isSuffixOf [41] (Lib.itoa c ++ [(41 : UInt8)]) = true := by
          rw [List.isSuffixOf_iff_suffix]; exact List.suffix_append _ _
        rw [if_pos hsuf]
        rw [show (Lib.itoa c ++ [(41 : UInt8)]).length - ([41] : List UInt8).length = (Lib.itoa c).length by simp, List.take_left' rfl]
      rw [this]
      exact numD_itoa ⟨by omega, by omega⟩
    · rw [if_neg hc1, List.append_nil]
      refine ⟨bef_free f3, ?_⟩
      rw [if_neg f3]; omega
  unfold implD
  simp only [e1.1, e2, List.headD_cons, List.tail_cons, e3.1]
  rw [e3.2, e1.2, (mark_state hs).1, map_num (faults_in hf)]
/-- What reading gives. -/
noncomputable def readD (s : List UInt8) : Option PhD := if okD (implD s) = true ∧ shortD (implD s) = s then some (implD s) else none
theorem readD_impl {s : List UInt8} : readD s = if okD (implD s) = true ∧ shortD (implD s) = s then some (implD s) else none := rfl
theorem readD_spec {s : List UInt8} : readD s = if okD (specD s) = true ∧ shortD (specD s) = s then some (specD s) else none := by
  unfold readD
  by_cases h1 : okD (implD s) = true ∧ shortD (implD s) = s
  · have h2 := spec_short h1.1
    rw [h1.2] at h2
    rw [if_pos h1, h2, if_pos h1]
  · rw [if_neg h1, if_neg]
    intro h3
    have h2 := impl_short h3.1
    rw [h3.2] at h2
    rw [h2] at h1
    exact h1 h3
theorem readD_short {x : PhD} (h : okD x = true) : readD (shortD x) = some x := by
  rw [readD_impl, impl_short h, if_pos ⟨h, rfl⟩]
theorem readD_is {s : List UInt8} {x : PhD} (h : readD s = some x) : okD x = true ∧ shortD x = s := by
  unfold readD at h
  split at h
  · next h1 => injection h with h; subst h; exact h1
  · cases h
theorem nDigits_pow (k : Nat) : ∀ n : Nat, n < 10 ^ (k + 1) → Lib.nDigits n ≤ k + 1 := by
  induction k with
  | zero => intro n hn; rw [Lib.nDigits_small (by simpa using hn)]; omega
  | succ k ih =>
    intro n hn
    by_cases hs : n < 10
    · rw [Lib.nDigits_small hs]; omega
    · rw [Lib.nDigits_big hs]
      have := ih (n / 10) (Nat.div_lt_of_lt_mul (by rw [Nat.mul_comm, ← Nat.pow_succ]; exact hn))
      omega
theorem itoa_pow {n : Int} (k : Nat) (h0 : 0 ≤ n) (h : n < ((10 ^ (k + 1) : Nat) : Int)) : (Lib.itoa n).length ≤ k + 1 := by
  unfold Lib.itoa
  rw [if_neg (by omega), Lib.decDigits_length]
  exact nDigits_pow k _ (by omega)
theorem fau_len : ∀ l : List Int, (∀ f ∈ l, 1 ≤ f ∧ f ≤ 9) → (fauT l).length ≤ 2 * l.length
  | [], _ => by simp [fauT]
  | f :: l, h => by
    have h1 := h f (by simp)
    have h2 := itoa_pow (n := f) 0 (by omega) (by simp; omega)
    have h3 := fau_len l fun g hg => h g (by simp [hg])
    simp only [fauT, List.length_append, List.length_cons]
    omega
theorem short_len {x : PhD} (h : okD x = true) : 1 ≤ (shortD x).length ∧ (shortD x).length ≤ 31 := by
  obtain ⟨hs, hc, hf, hp⟩ := okD_iff.1 h
  have h1 : 1 ≤ (markT x.1).length ∧ (markT x.1).length ≤ 2 := by
    unfold markT; split
    · simp
    · split <;> simp
  have h2 : (copT x.2.1).length ≤ 4 := by
    have := itoa_pow (n := x.2.1) 1 (by omega) (by simp; omega)
    unfold copT; split
    · simp; omega
    · simp
  have h3 := fau_len _ (faults_in hf)
  have h4 := faults9 hf
  have h5 : (priT x.2.2.2).length ≤ 7 := by
    have := itoa_pow (n := x.2.2.2) 5 (by omega) (by simp; omega)
    unfold priT; split
    · simp; omega
    · simp
  unfold shortD
  simp only [List.length_append]
  omega
theorem readD_long {s : List UInt8} (h : 31 < s.length) : readD s = none := by
  cases hr : readD s with
  | none => rfl
  | some x => obtain ⟨h1, h2⟩ := readD_is hr; have := short_len h1; rw [h2] at this; omega

/-- What reading a phrase gives. -/
noncomputable def readOf (s : List UInt8) : PhD × Bool := match readD s with
  | some x => (x, true)
  | none => ((0, 0, [], 0), false)

/-! ### Lists -/
theorem short_space {x : PhD} : (32 : UInt8) ∉ shortD x := by
  have h3 : ∀ l : List Int, (32 : UInt8) ∉ fauT l := by
    intro l
    induction l with
    | nil => simp [fauT]
    | cons f l ih =>
      rw [fauT, List.mem_append, List.mem_cons]
      rintro ((e | e) | e)
      · exact absurd e (by decide)
      · exact itoa_free' (by decide) e
      · exact ih e
  have h2 : (32 : UInt8) ∉ copT x.2.1 := cop_free (by decide)
  have h4 : (32 : UInt8) ∉ priT x.2.2.2 := by
    unfold priT; split
    · rw [List.mem_cons]
      rintro (e | e)
      · exact absurd e (by decide)
      · exact itoa_free' (by decide) e
    · simp
  unfold shortD
  simp only [List.mem_append]
  rintro (((e | e) | e) | e)
  · exact mark_free (by decide) e
  · exact h2 e
  · exact h3 _ e
  · exact h4 e
/-- Each one read, or none. -/
noncomputable def readAll : List (List UInt8) → Option (List PhD)
  | [] => some []
  | t :: ts => match readD t with
    | none => none
    | some x => match readAll ts with
      | none => none
      | some xs => some (x :: xs)
theorem readAll_snoc : ∀ (ts : List (List UInt8)) (t : List UInt8), readAll (ts ++ [t]) = match readAll ts with
    | none => none
    | some xs => match readD t with
      | none => none
      | some x => some (xs ++ [x])
  | [], t => by simp only [List.nil_append, readAll]
  | u :: ts, t => by
    simp only [List.cons_append, readAll, readAll_snoc ts t]
    cases readD u with
    | none => rfl
    | some y =>
      cases readAll ts with
      | none => rfl
      | some xs => cases readD t <;> rfl
theorem readAll_none {ts : List (List UInt8)} {k : Nat} (h : readAll (ts.take k) = none) : readAll ts = none := by
  induction ts generalizing k with
  | nil => simp [readAll] at h
  | cons t ts ih =>
    cases k with
    | zero => simp [readAll] at h
    | succ k =>
      simp only [List.take_succ_cons, readAll] at h ⊢
      cases hd : readD t with
      | none => rfl
      | some x =>
        rw [hd] at h
        simp only at h ⊢
        cases ha : readAll (ts.take k) with
        | none => rw [ih ha]
        | some xs => rw [ha] at h; cases h
theorem readAll_len : ∀ {ts : List (List UInt8)} {xs : List PhD}, readAll ts = some xs → xs.length = ts.length
  | [], xs, h => by simp only [readAll, Option.some.injEq] at h; subst h; rfl
  | t :: ts, xs, h => by
    simp only [readAll] at h
    cases hd : readD t with
    | none => rw [hd] at h; cases h
    | some x =>
      rw [hd] at h; simp only at h
      cases ha : readAll ts with
      | none => rw [ha] at h; cases h
      | some ys => rw [ha] at h; simp only [Option.some.injEq] at h; subst h; simp [readAll_len ha]
theorem readAll_ok : ∀ {ts : List (List UInt8)} {xs : List PhD}, readAll ts = some xs → ∀ x ∈ xs, okD x = true
  | [], xs, h => by simp only [readAll, Option.some.injEq] at h; subst h; simp
  | t :: ts, xs, h => by
    simp only [readAll] at h
    cases hd : readD t with
    | none => rw [hd] at h; cases h
    | some x =>
      rw [hd] at h; simp only at h
      cases ha : readAll ts with
      | none => rw [ha] at h; cases h
      | some ys =>
        rw [ha] at h; simp only [Option.some.injEq] at h; subst h
        intro y hy
        rcases List.mem_cons.1 hy with e | e
        · subst e; exact (readD_is hd).1
        · exact readAll_ok ha y e
/-- The bytes of texts with one between. -/
def joinLen : List (List UInt8) → Nat
  | [] => 0
  | t :: ts => t.length + 1 + joinLen ts
theorem parts_total (b : UInt8) : ∀ (l cur : List UInt8), joinLen (partsL b cur l) = cur.length + l.length + 1
  | [], cur => by simp [partsL, joinLen]
  | x :: l, cur => by
    unfold partsL; split
    · rw [joinLen, parts_total b l []]; simp; omega
    · rw [parts_total b l (cur ++ [x])]; simp; omega
theorem readAll_total : ∀ {ts : List (List UInt8)} {xs : List PhD}, readAll ts = some xs → joinLen ts ≤ 32 * ts.length
  | [], xs, _ => by simp [joinLen]
  | t :: ts, xs, h => by
    simp only [readAll] at h
    cases hd : readD t with
    | none => rw [hd] at h; cases h
    | some x =>
      rw [hd] at h; simp only at h
      cases ha : readAll ts with
      | none => rw [ha] at h; cases h
      | some ys =>
        have h1 := readD_is hd
        have h2 := short_len h1.1
        rw [h1.2] at h2
        have h3 := readAll_total ha
        rw [joinLen, List.length_cons]; omega
/-- What reading a list gives. -/
noncomputable def readL (s : List UInt8) : List PhD × Bool :=
  if s = [] then ([], true) else
  if (splitL 32 s).length ≤ 10 then (match readAll (splitL 32 s) with | some xs => (xs, true) | none => ([], false)) else ([], false)
theorem readL_long {s : List UInt8} (h : 400 < s.length) : readL s = ([], false) := by
  unfold readL
  rw [if_neg (by intro e; subst e; simp at h)]
  split
  · next h1 =>
    cases ha : readAll (splitL 32 s) with
    | none => rfl
    | some xs =>
      have h2 := readAll_total ha
      have h3 := parts_total 32 s []
      unfold splitL at h1 h2
      simp at h3
      omega
  · rfl
theorem readL_good {s : List UInt8} : goodD (readL s).1 = true := by
  unfold readL
  split
  · rfl
  · split
    · next h1 =>
      cases ha : readAll (splitL 32 s) with
      | none => rfl
      | some xs =>
        simp only [goodD, Bool.and_eq_true, decide_eq_true_eq, List.all_eq_true]
        exact ⟨by rw [readAll_len ha]; exact h1, readAll_ok ha⟩
    · rfl
/-- The text of a list. -/
def listD : List PhD → List UInt8
  | [] => []
  | [x] => shortD x
  | x :: y :: l => shortD x ++ 32 :: listD (y :: l)
theorem list_split : ∀ (x : PhD) (l : List PhD), splitL 32 (listD (x :: l)) = (x :: l).map shortD
  | x, [] => by rw [listD, split_free short_space]; rfl
  | x, y :: l => by rw [listD, split_mid short_space, list_split y l]; rfl
theorem readAll_short : ∀ l : List PhD, (∀ x ∈ l, okD x = true) → readAll (l.map shortD) = some l
  | [], _ => rfl
  | x :: l, h => by
    rw [List.map_cons, readAll, readD_short (h x (by simp)), readAll_short l fun y hy => h y (by simp [hy])]
theorem readL_list {l : List PhD} (h : goodD l = true) : readL (listD l) = (l, true) := by
  simp only [goodD, Bool.and_eq_true, decide_eq_true_eq, List.all_eq_true] at h
  cases l with
  | nil => rfl
  | cons x l =>
    unfold readL
    have hne : listD (x :: l) ≠ [] := by
      intro e
      have h1 := list_split x l
      rw [e] at h1
      have h2 := short_len (h.2 x (by simp))
      cases l with
      | nil => simp only [listD] at e; rw [e] at h2; simp at h2
      | cons y l => simp only [listD] at e; simp at e
    rw [if_neg hne, list_split, List.length_map, if_pos h.1, readAll_short _ h.2]
end Go.Proofs.YtchkjiadnackaaaDoor

/- Rows of phrases of the call's own. -/
namespace Go.Proofs.YtchkjiadnackaaaDoor
open Go.RowKit

theorem OwnS.big {w : World} {B : Nat} {t : TypeId} {k : Nat} {A : Option Addr} {n : Nat} {cs : List Value} (h : OwnS w B t k A n cs) : n ≤ 9223372036854775807 := h.2.1
theorem OwnS.below' {w w' : World} {B : Nat} {t : TypeId} {k : Nat} {A : Option Addr} {n : Nat} {cs : List Value} (h : OwnS w B t k A n cs) (hb : Below w.heap.size w w') : OwnS w' B t k A n cs := h.then hb
theorem OwnS.grown {w w' : World} {B : Nat} {t : TypeId} {k : Nat} {A : Option Addr} {n : Nat} {cs : List Value} (h : OwnS w B t k A n cs) {e : TypeId} {B' k' n' : Nat} {v : Value} {xs : List Value} (ho : w.ownsRow B' e k' v n' xs) (hne : e ≠ t) (hg : w.grownBy w' v.ownBlock) : OwnS w' B t k A n cs := by
  obtain ⟨hl, hn, h0 | ⟨g', rest, hA, hg', hh⟩⟩ := h
  · exact ⟨hl, hn, .inl h0⟩
  · exact ⟨hl, hn, .inr ⟨g', rest, hA, hg', hh.kept hg (ownsRow_far ho hh hne)⟩⟩
theorem OwnS.lt_ {w : World} {B : Nat} {t : TypeId} {k : Nat} {A : Option Addr} {n : Nat} {cs : List Value} (h : OwnS w B t k A n cs) {g : Addr} (hA : A = some g) : B ≤ g.block ∧ g.block < w.heap.size := by
  obtain ⟨_, _, ⟨h0, _⟩ | ⟨g', rest, hA', hg', hh⟩⟩ := h
  · rw [h0] at hA; cases hA
  · rw [hA'] at hA; injection hA with hA; subst hA; exact ⟨hg', hh.lt⟩

/-- A row of phrases of the call's own; the faults of each its own too. -/
structure RowPh (w : World) (B : Nat) (v : Value) (l : List Ph) : Prop where
  row : w.ownsRow B 24 4 v l.length (l.flatMap Ph.enc)
  fs : ∀ x ∈ l, OwnS w B 3 1 x.A x.f.length (encIs x.f)
  nd : l.Pairwise fun x y => x.A = none ∨ x.A ≠ y.A
theorem ne_types : 24 ≠ 3 := by decide
theorem ne_int_ph : 3 ≠ 24 := by decide
theorem RowPh.nil (w : World) (B : Nat) : RowPh w B (.slice none 0 0) [] := ⟨World.ownsRow_nil _ _ _ _, by simp, List.Pairwise.nil⟩
theorem RowPh.below {w w' : World} {B : Nat} {v : Value} {l : List Ph} (h : RowPh w B v l) (hb : Below w.heap.size w w') : RowPh w' B v l :=
  ⟨ownsRow_below h.row hb, fun x hx => (h.fs x hx).then hb, h.nd⟩
theorem RowPh.lower {w : World} {B B' : Nat} {v : Value} {l : List Ph} (h : RowPh w B v l) (hB : B' ≤ B) : RowPh w B' v l :=
  ⟨ownsRow_lower h.row hB, fun x hx => (h.fs x hx).lower hB, h.nd⟩
theorem RowPh.reads {w : World} {B : Nat} {A : Option Addr} {c : Nat} {l : List Ph} (h : RowPh w B (.slice A l.length c) l) : PhsR w w.heap.size A l :=
  ⟨(OwnS.of h.row).reads, fun x hx => (h.fs x hx).reads⟩
theorem RowPh.form {w : World} {B : Nat} {v : Value} {l : List Ph} (h : RowPh w B v l) : ∃ A c, v = .slice A l.length c := ownsRow_slice h.row
/-- One more, whose faults are new. -/
theorem RowPh.push {w w0 w' : World} {B : Nat} {v v' : Value} {l : List Ph} {x : Ph} (h : RowPh w B v l) (hb : Below w.heap.size w w0) (hx : OwnS w0 w.heap.size 3 1 x.A x.f.length (encIs x.f)) (hB : B ≤ w.heap.size)
    (ho : w'.ownsRow B 24 4 v' (l.length + 1) (l.flatMap Ph.enc ++ x.enc)) (hg : w0.grownBy w' v.ownBlock) : RowPh w' B v' (l ++ [x]) := by
  have hr := ownsRow_below h.row hb
  refine ⟨by simpa using ho, fun y hy => ?_, ?_⟩
  · rcases List.mem_append.1 hy with hy | hy
    · exact ((h.fs y hy).then hb).grown hr ne_types hg
    · rw [List.mem_singleton] at hy; subst hy
      exact (hx.lower hB).grown hr ne_types hg
  · rw [List.pairwise_append]
    refine ⟨h.nd, List.pairwise_singleton _ _, fun a ha b hb' => ?_⟩
    rw [List.mem_singleton] at hb'; subst hb'
    cases hA : a.A with
    | none => exact .inl rfl
    | some g =>
      refine .inr fun e => ?_
      have h1 := ((h.fs a ha).lt_ hA).2
      have h2 := (hx.lt_ e.symm).1
      omega
/-- The copies of the phrase at place i. -/
def setC (i : Nat) (c : Int) (l : List Ph) : List Ph := l.modify i fun x => { x with c := c }
theorem setC_len (i : Nat) (c : Int) (l : List Ph) : (setC i c l).length = l.length := by simp [setC]
theorem setC_split {i : Nat} {c : Int} {l : List Ph} (h : i < l.length) : setC i c l = l.take i ++ { l[i] with c := c } :: l.drop (i + 1) := by
  unfold setC; rw [List.modify_eq_take_cons_drop h]
theorem flat_set {i : Nat} {c : Int} {l : List Ph} (h : i < l.length) : (l.flatMap Ph.enc).set (i * 4 + 1) (.int .i64 c) = (setC i c l).flatMap Ph.enc := by
  have e1 : l = l.take i ++ l[i] :: l.drop (i + 1) := by rw [List.getElem_cons_drop, List.take_append_drop]
  rw [setC_split h]
  have e2 : l.flatMap Ph.enc = (l.take i).flatMap Ph.enc ++ (l[i].enc ++ (l.drop (i + 1)).flatMap Ph.enc) := by
    rw [show l.flatMap Ph.enc = (l.take i ++ l[i] :: l.drop (i + 1)).flatMap Ph.enc from congrArg _ e1, List.flatMap_append, List.flatMap_cons]
  have e3 : ((l.take i).flatMap Ph.enc).length = i * 4 := by rw [flat_len Ph.enc 4 Ph.enc_len, List.length_take, Nat.min_eq_left (by omega)]
  rw [e2, List.set_append, if_neg (by omega), e3]
  simp [Ph.enc]
theorem RowPh.bump {w : World} {B g cap : Nat} {l : List Ph} {i : Nat} {c : Int} (h : RowPh w B (.slice (some ⟨g, 0, none⟩) l.length cap) l) (hi : i < l.length) : RowPh (w.setCell ⟨g, i * 4 + 1, none⟩ (.int .i64 c)) B (.slice (some ⟨g, 0, none⟩) l.length cap) (setC i c l) := by
  obtain ⟨h1, h2⟩ := h.row.stored (i * 4 + 1) (.int .i64 c)
  have hmem : ∀ {y}, y ∈ setC i c l → ∃ x ∈ l, y.A = x.A ∧ y.f = x.f := by
    intro y hy
    rw [setC_split hi] at hy
    rcases List.mem_append.1 hy with hy | hy
    · exact ⟨y, List.mem_of_mem_take hy, rfl, rfl⟩
    · rcases List.mem_cons.1 hy with rfl | hy
      · exact ⟨l[i], List.getElem_mem hi, rfl, rfl⟩
      · exact ⟨y, List.mem_of_mem_drop hy, rfl, rfl⟩
  refine ⟨by rw [flat_set hi] at h1; rw [setC_len]; exact h1, fun y hy => ?_, ?_⟩
  · obtain ⟨x, hx, e1, e2⟩ := hmem hy
    rw [e1, e2]
    exact (h.fs x hx).grown h.row ne_types h2
  · have e : (setC i c l).map Ph.A = l.map Ph.A := by
      have e1 : l = l.take i ++ l[i] :: l.drop (i + 1) := by rw [List.getElem_cons_drop, List.take_append_drop]
      rw [setC_split hi, show l.map Ph.A = (l.take i ++ l[i] :: l.drop (i + 1)).map Ph.A from congrArg _ e1]
      simp only [List.map_append, List.map_cons]
    have hp : ∀ m : List Ph, (m.Pairwise fun x y => x.A = none ∨ x.A ≠ y.A) ↔ (m.map Ph.A).Pairwise fun a b => a = none ∨ a ≠ b := fun m => by rw [List.pairwise_map]
    rw [hp, e, ← hp]; exact h.nd
theorem setC_ph {i : Nat} {c : Int} {l : List Ph} (h : i < l.length) : (setC i c l).map Ph.ph = (l.map Ph.ph).take i ++ (l[i].s, c, l[i].f, l[i].p) :: (l.map Ph.ph).drop (i + 1) := by
  rw [setC_split h]; simp [Ph.ph, List.map_take, List.map_drop]
end Go.Proofs.YtchkjiadnackaaaDoor

/- Worlds that grow (no program in sight). -/
namespace Go.Proofs.YtchkjiadnackaaaDoor
open Go.RowKit

theorem grown_trans {a b c : World} {row : Option Nat} (h : a.grownBy b row) (k : b.grownBy c row) : a.grownBy c row :=
  ⟨k.os.trans h.os, k.tape.trans h.tape, k.output.trans h.output, Nat.le_trans h.size k.size, fun j hj hne => (k.block j (Nat.lt_of_lt_of_le hj h.size) hne).trans (h.block j hj hne)⟩
end Go.Proofs.YtchkjiadnackaaaDoor

/- Rows of the call's own, kept where others are written (no program in sight). -/
namespace Go.Proofs.YtchkjiadnackaaaDoor
open Go.RowKit

theorem OwnS.ne {w w' : World} {B : Nat} {t : TypeId} {k : Nat} {A : Option Addr} {n g : Nat} {cs : List Value} (h : OwnS w B t k A n cs) (hg : w.grownBy w' (some g)) (hne : ∀ b, A.map (·.block) = some b → b ≠ g) : OwnS w' B t k A n cs := by
  obtain ⟨hl, hn, h0 | ⟨q, rest, hA, hq, hh⟩⟩ := h
  · exact ⟨hl, hn, .inl h0⟩
  · exact ⟨hl, hn, .inr ⟨q, rest, hA, hq, hh.kept hg (by intro e; injection e with e; exact hne q (by rw [hA]; rfl) e)⟩⟩
theorem OwnS.ge {w : World} {B : Nat} {t : TypeId} {k : Nat} {A : Option Addr} {n : Nat} {cs : List Value} (h : OwnS w B t k A n cs) : ∀ b, A.map (·.block) = some b → B ≤ b := by
  obtain ⟨hl, hn, ⟨h0, _⟩ | ⟨q, rest, hA, hq, hh⟩⟩ := h
  · subst h0; intro b e; cases e
  · subst hA; intro b e; injection e with e; subst e; exact hq
theorem OwnS.gr {w w' : World} {B : Nat} {t : TypeId} {k : Nat} {A : Option Addr} {n g : Nat} {cs : List Value} (h : OwnS w B t k A n cs) (hg : w.grownBy w' (some g)) (hB : g < B) : OwnS w' B t k A n cs :=
  h.ne hg fun b e => by have := h.ge b e; omega
/-- A row of another type stands elsewhere. -/
theorem OwnS.off {w : World} {B : Nat} {t t' : TypeId} {k : Nat} {A : Option Addr} {n g : Nat} {cs cs' : List Value} (h : OwnS w B t k A n cs) (hL : Lies w g t' cs') (hne : t ≠ t') : ∀ b, A.map (·.block) = some b → b ≠ g := by
  obtain ⟨hl, hn, ⟨h0, _⟩ | ⟨q, rest, hA, hq, hh⟩⟩ := h
  · subst h0; intro b e; cases e
  · subst hA; intro b e; injection e with e; subst e
    intro e; subst e
    have h1 := hh.symm.trans hL
    injection h1 with h1; injection h1 with h1 h2
    exact hne h2
end Go.Proofs.YtchkjiadnackaaaDoor

/- The short text of a phrase, in the reference. -/
namespace Go.Proofs.YtchkjiadnackaaaDoor
open Go.RowKit

def shortT (x : Ph) : List UInt8 := markT x.s ++ copT x.c ++ fauT x.f ++ priT x.p
theorem fau_step {l : List Int} {k : Nat} (h : k < l.length) (acc : List UInt8) : acc ++ fauT (l.drop k) = acc ++ (33 :: Lib.itoa l[k]) ++ fauT (l.drop (k + 1)) := by
  rw [List.drop_eq_getElem_cons h, fauT]; simp
theorem itoa_len' {n : Int} (h0 : 0 ≤ n) (h1 : n ≤ 1000000000) : (Lib.itoa n).length ≤ 100 := by
  have := itoa_len h0 h1
  exact this
theorem rises_len {lo hi : Int} : ∀ {l : List Int} {n : Nat} {p : Int}, riseFrom lo hi (n + 1) p l = true → lo ≤ p → (l.length : Int) ≤ hi - p ∨ l = []
  | [], _, _, _, _ => .inr rfl
  | x :: l, n, p, h, hp => by
    simp only [riseFrom, Bool.and_eq_true, inR_iff, Bool.or_eq_true, decide_eq_true_eq] at h
    obtain ⟨⟨⟨h1, h2⟩, h3⟩, h4⟩ := h
    have h5 : p < x := by omega
    left
    rcases rises_len h4 (by omega) with h6 | h6
    · simp only [List.length_cons]; omega
    · rw [h6]; simp; omega
theorem faults_nine {l : List Int} (h : rises 1 9 l = true) : l.length ≤ 9 := by
  cases l with
  | nil => simp
  | cons x l =>
    unfold rises at h
    simp only [riseFrom, Bool.and_eq_true, inR_iff] at h
    rcases rises_len h.2 (by omega) with h1 | h1
    · simp only [List.length_cons]; omega
    · rw [h1]; simp
set_option maxHeartbeats 2000000 in
theorem l30Short_any (x : Ph) (w : World) (h : IntsR w w.heap.size x.A x.f) (hok : x.ok = true) :
    Calls Tryd.prog 24 #[x.val] w fun e w' => e = .returned (.string ⟨(shortT x).toArray⟩) ∧ Below w.heap.size w w' := by
  obtain ⟨⟨s1, s2⟩, ⟨c1, c2⟩, hr, p1, p2⟩ := Ph.bounds hok
  have hnine := faults_nine hr
  have HRI : Hid (∀ i (hi : i < x.f.length), 1 ≤ x.f[i] ∧ x.f[i] ≤ 9) := fun i hi => by
    rw [rises_eq, Bool.and_eq_true, List.all_eq_true] at hr
    exact inR_iff.1 (hr.2 _ (List.getElem_mem hi))
  clear hr hok
  have hb1 := ((Below.refl w.heap.size w).alloc (Nat.le_refl _) (.cells #[.int .i64 x.s, .int .i64 x.c, .slice x.A x.f.length x.cap, .int .i64 x.p] 24)).alloc (by simp) (.cells #[.string ⟨#[42, 42]⟩, .string ⟨#[42]⟩, .string ⟨#[111]⟩] 9)
  have hS := PhS.of (x := x) ((Lies.new w 24 #[.int .i64 x.s, .int .i64 x.c, .slice x.A x.f.length x.cap, .int .i64 x.p]).alloc (.cells #[.string ⟨#[42, 42]⟩, .string ⟨#[42]⟩, .string ⟨#[111]⟩] 9))
  have hR := SlcR.up h hb1 (Nat.le_refl _)
  have k2 := hS.c2
  have k3 := hS.c3
  clear hS
  have hs : x.s = 1 ∨ x.s = 2 ∨ x.s = 3 := by omega
  by_cases hc1 : 1 < x.c
  · have HC : Hid (copT x.c = 40 :: Lib.itoa x.c ++ [41]) := by unfold copT Hid; rw [if_pos hc1]
    obtain ⟨cv, hcv⟩ : ∃ s : ByteArray, s = ⟨(Lib.itoa x.c).toArray⟩ := ⟨_, rfl⟩
    have hcs : cv.size ≤ 100 := by rw [hcv]; exact itoa_len (by omega) (by omega)
    have NUMC : ∀ W : World, Calls Tryd.prog 33 #[.int .i64 x.c] W fun e w' => e = .returned (.string cv) ∧ Below W.heap.size W w' := by
      intro W; rw [hcv]; exact l1Num_any _ _ (by omega) (by omega)
    replace NUMC := Lib.hid NUMC
    have HCV : Hid (bl cv = Lib.itoa x.c) := by rw [hcv, Hid, bl_mk]
    clear hcv
    rcases hs with hs | hs | hs
    · have HM : Hid (markT x.s = [42, 42]) := by rw [hs]; rfl
      rw [hs] at hb1 hR k2 k3
      clear s1 s2
      go_enter Tryd.func24, Tryd.ntmps24
      go_wp2_with (go_at_call 33; refine (NUMC.out _).mono ?_; rintro e w1 ⟨rfl, hb2⟩)
      generalize ((w.alloc (.cells #[.int .i64 1, .int .i64 x.c, .slice x.A x.f.length x.cap, .int .i64 x.p] 24)).alloc (.cells #[.string ⟨#[42, 42]⟩, .string ⟨#[42]⟩, .string ⟨#[111]⟩] 9)) = W at k2 k3 hb1 hR hb2 ⊢
      go_loopw [3, 4] (fun s i wr => ∃ (k : Nat) (T : ByteArray), k ≤ x.f.length ∧ i = .int .i64 k ∧ s = .string T ∧ T.size ≤ 300 + 101 * k ∧ (∃ q : Since W.heap.size W, wr = q.val) ∧ Hid (bl T ++ fauT (x.f.drop k) = markT x.s ++ copT x.c ++ fauT x.f)) (fun _ i _ => x.f.length - (intOf i).toNat)
      case atStart => exact ⟨0, _, Nat.zero_le _, rfl, rfl, by simp only [size_app]; (have e1 : (⟨#[40]⟩ : ByteArray).size = 1 := rfl); (have e2 : (⟨#[41]⟩ : ByteArray).size = 1 := rfl); (have e3 : (⟨#[42, 42]⟩ : ByteArray).size ≤ 2 := by decide); omega, ⟨⟨_, hb2⟩, rfl⟩, by rw [Hid, HM.out, HC.out, List.drop_zero]; simp [bl_app, bl_lit, HCV.out]⟩
      case round =>
        obtain ⟨k, T, hk, rfl, rfl, hT, ⟨q, rfl⟩, HR⟩ := hrel
        by_cases hlt : k < x.f.length
        · obtain ⟨b, off, hA, hb, hcell⟩ := IntsR.ints hR (by omega)
          have c0 := hcell k hlt
          obtain ⟨f1, f2⟩ := HRI.out k hlt
          have HS := Lib.hid (fau_step hlt (bl T))
          obtain ⟨f, hfe⟩ : ∃ f, f = x.f[k] := ⟨_, rfl⟩
          rw [← hfe] at c0 f1 f2 HS
          simp only [hA] at k2
          clear hfe hcell hA
          obtain ⟨fv, hfv⟩ : ∃ s : ByteArray, s = ⟨(Lib.itoa f).toArray⟩ := ⟨_, rfl⟩
          have hfs : fv.size ≤ 100 := by rw [hfv]; exact itoa_len (by omega) (by omega)
          have NUMF : ∀ W : World, Calls Tryd.prog 33 #[.int .i64 f] W fun e w' => e = .returned (.string fv) ∧ Below W.heap.size W w' := by
            intro W; rw [hfv]; exact l1Num_any _ _ (by omega) (by omega)
          replace NUMF := Lib.hid NUMF
          have HFV : Hid (bl fv = Lib.itoa f) := by rw [hfv, Hid, bl_mk]
          clear hfv
          go_wp2_with (go_at_call 33; refine (NUMF.out _).mono ?_; rintro e w4 ⟨rfl, hb4⟩)
          go_roundw
          case rel => exact ⟨k + 1, _, by omega, by go_num, rfl, by simp only [size_app]; (have e1 : (⟨#[33]⟩ : ByteArray).size = 1 := rfl); omega, ⟨q.go (Nat.le_refl _) hb4, rfl⟩, by have h1 := HR.out; rw [HS.out] at h1; rw [Hid, ← h1]; simp [bl_app, bl_lit, HFV.out]⟩
          case measure => simp [intOf]; omega
        · have HE : Hid (bl T = markT x.s ++ copT x.c ++ fauT x.f) := by
            have h1 := HR.out; rw [List.drop_eq_nil_of_le (by omega), fauT, List.append_nil] at h1; exact h1
          by_cases hp : 0 < x.p
          · have HP : Hid (priT x.p = 61 :: Lib.itoa x.p) := by unfold priT Hid; rw [if_pos hp]
            obtain ⟨pv, hpv⟩ : ∃ s : ByteArray, s = ⟨(Lib.itoa x.p).toArray⟩ := ⟨_, rfl⟩
            have hps : pv.size ≤ 100 := by rw [hpv]; exact itoa_len (by omega) (by omega)
            have NUMP : ∀ W : World, Calls Tryd.prog 33 #[.int .i64 x.p] W fun e w' => e = .returned (.string pv) ∧ Below W.heap.size W w' := by
              intro W; rw [hpv]; exact l1Num_any _ _ (by omega) (by omega)
            replace NUMP := Lib.hid NUMP
            have HPV : Hid (bl pv = Lib.itoa x.p) := by rw [hpv, Hid, bl_mk]
            clear hpv
            go_wp2_with (go_at_call 33; refine (NUMP.out _).mono ?_; rintro e w3 ⟨rfl, hb3⟩)
            go_ret
            exact ⟨congrArg (fun s => Ending.returned (Value.string s)) (bl_ext (by unfold shortT; simp [bl_app, bl_lit, HE.out, HP.out, HPV.out])), hb1.trans ((q.below.trans (hb3.mono q.size)).mono hb1.size)⟩
          · have HP : Hid (priT x.p = []) := by unfold priT Hid; rw [if_neg hp]
            go_wp2
            go_ret
            exact ⟨congrArg (fun s => Ending.returned (Value.string s)) (bl_ext (by unfold shortT; simp [HE.out, HP.out])), hb1.trans (q.below.mono hb1.size)⟩
    · have HM : Hid (markT x.s = [42]) := by rw [hs]; rfl
      rw [hs] at hb1 hR k2 k3
      clear s1 s2
      go_enter Tryd.func24, Tryd.ntmps24
      go_wp2_with (go_at_call 33; refine (NUMC.out _).mono ?_; rintro e w1 ⟨rfl, hb2⟩)
      generalize ((w.alloc (.cells #[.int .i64 2, .int .i64 x.c, .slice x.A x.f.length x.cap, .int .i64 x.p] 24)).alloc (.cells #[.string ⟨#[42, 42]⟩, .string ⟨#[42]⟩, .string ⟨#[111]⟩] 9)) = W at k2 k3 hb1 hR hb2 ⊢
      go_loopw [3, 4] (fun s i wr => ∃ (k : Nat) (T : ByteArray), k ≤ x.f.length ∧ i = .int .i64 k ∧ s = .string T ∧ T.size ≤ 300 + 101 * k ∧ (∃ q : Since W.heap.size W, wr = q.val) ∧ Hid (bl T ++ fauT (x.f.drop k) = markT x.s ++ copT x.c ++ fauT x.f)) (fun _ i _ => x.f.length - (intOf i).toNat)
      case atStart => exact ⟨0, _, Nat.zero_le _, rfl, rfl, by simp only [size_app]; (have e1 : (⟨#[40]⟩ : ByteArray).size = 1 := rfl); (have e2 : (⟨#[41]⟩ : ByteArray).size = 1 := rfl); (have e3 : (⟨#[42]⟩ : ByteArray).size ≤ 2 := by decide); omega, ⟨⟨_, hb2⟩, rfl⟩, by rw [Hid, HM.out, HC.out, List.drop_zero]; simp [bl_app, bl_lit, HCV.out]⟩
      case round =>
        obtain ⟨k, T, hk, rfl, rfl, hT, ⟨q, rfl⟩, HR⟩ := hrel
        by_cases hlt : k < x.f.length
        · obtain ⟨b, off, hA, hb, hcell⟩ := IntsR.ints hR (by omega)
          have c0 := hcell k hlt
          obtain ⟨f1, f2⟩ := HRI.out k hlt
          have HS := Lib.hid (fau_step hlt (bl T))
          obtain ⟨f, hfe⟩ : ∃ f, f = x.f[k] := ⟨_, rfl⟩
          rw [← hfe] at c0 f1 f2 HS
          simp only [hA] at k2
          clear hfe hcell hA
          obtain ⟨fv, hfv⟩ : ∃ s : ByteArray, s = ⟨(Lib.itoa f).toArray⟩ := ⟨_, rfl⟩
          have hfs : fv.size ≤ 100 := by rw [hfv]; exact itoa_len (by omega) (by omega)
          have NUMF : ∀ W : World, Calls Tryd.prog 33 #[.int .i64 f] W fun e w' => e = .returned (.string fv) ∧ Below W.heap.size W w' := by
            intro W; rw [hfv]; exact l1Num_any _ _ (by omega) (by omega)
          replace NUMF := Lib.hid NUMF
          have HFV : Hid (bl fv = Lib.itoa f) := by rw [hfv, Hid, bl_mk]
          clear hfv
          go_wp2_with (go_at_call 33; refine (NUMF.out _).mono ?_; rintro e w4 ⟨rfl, hb4⟩)
          go_roundw
          case rel => exact ⟨k + 1, _, by omega, by go_num, rfl, by simp only [size_app]; (have e1 : (⟨#[33]⟩ : ByteArray).size = 1 := rfl); omega, ⟨q.go (Nat.le_refl _) hb4, rfl⟩, by have h1 := HR.out; rw [HS.out] at h1; rw [Hid, ← h1]; simp [bl_app, bl_lit, HFV.out]⟩
          case measure => simp [intOf]; omega
        · have HE : Hid (bl T = markT x.s ++ copT x.c ++ fauT x.f) := by
            have h1 := HR.out; rw [List.drop_eq_nil_of_le (by omega), fauT, List.append_nil] at h1; exact h1
          by_cases hp : 0 < x.p
          · have HP : Hid (priT x.p = 61 :: Lib.itoa x.p) := by unfold priT Hid; rw [if_pos hp]
            obtain ⟨pv, hpv⟩ : ∃ s : ByteArray, s = ⟨(Lib.itoa x.p).toArray⟩ := ⟨_, rfl⟩
            have hps : pv.size ≤ 100 := by rw [hpv]; exact itoa_len (by omega) (by omega)
            have NUMP : ∀ W : World, Calls Tryd.prog 33 #[.int .i64 x.p] W fun e w' => e = .returned (.string pv) ∧ Below W.heap.size W w' := by
              intro W; rw [hpv]; exact l1Num_any _ _ (by omega) (by omega)
            replace NUMP := Lib.hid NUMP
            have HPV : Hid (bl pv = Lib.itoa x.p) := by rw [hpv, Hid, bl_mk]
            clear hpv
            go_wp2_with (go_at_call 33; refine (NUMP.out _).mono ?_; rintro e w3 ⟨rfl, hb3⟩)
            go_ret
            exact ⟨congrArg (fun s => Ending.returned (Value.string s)) (bl_ext (by unfold shortT; simp [bl_app, bl_lit, HE.out, HP.out, HPV.out])), hb1.trans ((q.below.trans (hb3.mono q.size)).mono hb1.size)⟩
          · have HP : Hid (priT x.p = []) := by unfold priT Hid; rw [if_neg hp]
            go_wp2
            go_ret
            exact ⟨congrArg (fun s => Ending.returned (Value.string s)) (bl_ext (by unfold shortT; simp [HE.out, HP.out])), hb1.trans (q.below.mono hb1.size)⟩
    · have HM : Hid (markT x.s = [111]) := by rw [hs]; rfl
      rw [hs] at hb1 hR k2 k3
      clear s1 s2
      go_enter Tryd.func24, Tryd.ntmps24
      go_wp2_with (go_at_call 33; refine (NUMC.out _).mono ?_; rintro e w1 ⟨rfl, hb2⟩)
      generalize ((w.alloc (.cells #[.int .i64 3, .int .i64 x.c, .slice x.A x.f.length x.cap, .int .i64 x.p] 24)).alloc (.cells #[.string ⟨#[42, 42]⟩, .string ⟨#[42]⟩, .string ⟨#[111]⟩] 9)) = W at k2 k3 hb1 hR hb2 ⊢
      go_loopw [3, 4] (fun s i wr => ∃ (k : Nat) (T : ByteArray), k ≤ x.f.length ∧ i = .int .i64 k ∧ s = .string T ∧ T.size ≤ 300 + 101 * k ∧ (∃ q : Since W.heap.size W, wr = q.val) ∧ Hid (bl T ++ fauT (x.f.drop k) = markT x.s ++ copT x.c ++ fauT x.f)) (fun _ i _ => x.f.length - (intOf i).toNat)
      case atStart => exact ⟨0, _, Nat.zero_le _, rfl, rfl, by simp only [size_app]; (have e1 : (⟨#[40]⟩ : ByteArray).size = 1 := rfl); (have e2 : (⟨#[41]⟩ : ByteArray).size = 1 := rfl); (have e3 : (⟨#[111]⟩ : ByteArray).size ≤ 2 := by decide); omega, ⟨⟨_, hb2⟩, rfl⟩, by rw [Hid, HM.out, HC.out, List.drop_zero]; simp [bl_app, bl_lit, HCV.out]⟩
      case round =>
        obtain ⟨k, T, hk, rfl, rfl, hT, ⟨q, rfl⟩, HR⟩ := hrel
        by_cases hlt : k < x.f.length
        · obtain ⟨b, off, hA, hb, hcell⟩ := IntsR.ints hR (by omega)
          have c0 := hcell k hlt
          obtain ⟨f1, f2⟩ := HRI.out k hlt
          have HS := Lib.hid (fau_step hlt (bl T))
          obtain ⟨f, hfe⟩ : ∃ f, f = x.f[k] := ⟨_, rfl⟩
          rw [← hfe] at c0 f1 f2 HS
          simp only [hA] at k2
          clear hfe hcell hA
          obtain ⟨fv, hfv⟩ : ∃ s : ByteArray, s = ⟨(Lib.itoa f).toArray⟩ := ⟨_, rfl⟩
          have hfs : fv.size ≤ 100 := by rw [hfv]; exact itoa_len (by omega) (by omega)
          have NUMF : ∀ W : World, Calls Tryd.prog 33 #[.int .i64 f] W fun e w' => e = .returned (.string fv) ∧ Below W.heap.size W w' := by
            intro W; rw [hfv]; exact l1Num_any _ _ (by omega) (by omega)
          replace NUMF := Lib.hid NUMF
          have HFV : Hid (bl fv = Lib.itoa f) := by rw [hfv, Hid, bl_mk]
          clear hfv
          go_wp2_with (go_at_call 33; refine (NUMF.out _).mono ?_; rintro e w4 ⟨rfl, hb4⟩)
          go_roundw
          case rel => exact ⟨k + 1, _, by omega, by go_num, rfl, by simp only [size_app]; (have e1 : (⟨#[33]⟩ : ByteArray).size = 1 := rfl); omega, ⟨q.go (Nat.le_refl _) hb4, rfl⟩, by have h1 := HR.out; rw [HS.out] at h1; rw [Hid, ← h1]; simp [bl_app, bl_lit, HFV.out]⟩
          case measure => simp [intOf]; omega
        · have HE : Hid (bl T = markT x.s ++ copT x.c ++ fauT x.f) := by
            have h1 := HR.out; rw [List.drop_eq_nil_of_le (by omega), fauT, List.append_nil] at h1; exact h1
          by_cases hp : 0 < x.p
          · have HP : Hid (priT x.p = 61 :: Lib.itoa x.p) := by unfold priT Hid; rw [if_pos hp]
            obtain ⟨pv, hpv⟩ : ∃ s : ByteArray, s = ⟨(Lib.itoa x.p).toArray⟩ := ⟨_, rfl⟩
            have hps : pv.size ≤ 100 := by rw [hpv]; exact itoa_len (by omega) (by omega)
            have NUMP : ∀ W : World, Calls Tryd.prog 33 #[.int .i64 x.p] W fun e w' => e = .returned (.string pv) ∧ Below W.heap.size W w' := by
              intro W; rw [hpv]; exact l1Num_any _ _ (by omega) (by omega)
            replace NUMP := Lib.hid NUMP
            have HPV : Hid (bl pv = Lib.itoa x.p) := by rw [hpv, Hid, bl_mk]
            clear hpv
            go_wp2_with (go_at_call 33; refine (NUMP.out _).mono ?_; rintro e w3 ⟨rfl, hb3⟩)
            go_ret
            exact ⟨congrArg (fun s => Ending.returned (Value.string s)) (bl_ext (by unfold shortT; simp [bl_app, bl_lit, HE.out, HP.out, HPV.out])), hb1.trans ((q.below.trans (hb3.mono q.size)).mono hb1.size)⟩
          · have HP : Hid (priT x.p = []) := by unfold priT Hid; rw [if_neg hp]
            go_wp2
            go_ret
            exact ⟨congrArg (fun s => Ending.returned (Value.string s)) (bl_ext (by unfold shortT; simp [HE.out, HP.out])), hb1.trans (q.below.mono hb1.size)⟩
  · have HC : Hid (copT x.c = []) := by unfold copT Hid; rw [if_neg hc1]
    rcases hs with hs | hs | hs
    · have HM : Hid (markT x.s = [42, 42]) := by rw [hs]; rfl
      rw [hs] at hb1 hR k2 k3
      clear s1 s2
      go_enter Tryd.func24, Tryd.ntmps24
      go_wp2_with fail
      generalize ((w.alloc (.cells #[.int .i64 1, .int .i64 x.c, .slice x.A x.f.length x.cap, .int .i64 x.p] 24)).alloc (.cells #[.string ⟨#[42, 42]⟩, .string ⟨#[42]⟩, .string ⟨#[111]⟩] 9)) = W at k2 k3 hb1 hR ⊢
      go_loopw [3, 4] (fun s i wr => ∃ (k : Nat) (T : ByteArray), k ≤ x.f.length ∧ i = .int .i64 k ∧ s = .string T ∧ T.size ≤ 300 + 101 * k ∧ (∃ q : Since W.heap.size W, wr = q.val) ∧ Hid (bl T ++ fauT (x.f.drop k) = markT x.s ++ copT x.c ++ fauT x.f)) (fun _ i _ => x.f.length - (intOf i).toNat)
      case atStart => exact ⟨0, _, Nat.zero_le _, rfl, rfl, by (have e3 : (⟨#[42, 42]⟩ : ByteArray).size ≤ 2 := by decide); omega, ⟨Since.start _ _, rfl⟩, by rw [Hid, HM.out, HC.out, List.drop_zero]; simp [bl_lit]⟩
      case round =>
        obtain ⟨k, T, hk, rfl, rfl, hT, ⟨q, rfl⟩, HR⟩ := hrel
        by_cases hlt : k < x.f.length
        · obtain ⟨b, off, hA, hb, hcell⟩ := IntsR.ints hR (by omega)
          have c0 := hcell k hlt
          obtain ⟨f1, f2⟩ := HRI.out k hlt
          have HS := Lib.hid (fau_step hlt (bl T))
          obtain ⟨f, hfe⟩ : ∃ f, f = x.f[k] := ⟨_, rfl⟩
          rw [← hfe] at c0 f1 f2 HS
          simp only [hA] at k2
          clear hfe hcell hA
          obtain ⟨fv, hfv⟩ : ∃ s : ByteArray, s = ⟨(Lib.itoa f).toArray⟩ := ⟨_, rfl⟩
          have hfs : fv.size ≤ 100 := by rw [hfv]; exact itoa_len (by omega) (by omega)
          have NUMF : ∀ W : World, Calls Tryd.prog 33 #[.int .i64 f] W fun e w' => e = .returned (.string fv) ∧ Below W.heap.size W w' := by
            intro W; rw [hfv]; exact l1Num_any _ _ (by omega) (by omega)
          replace NUMF := Lib.hid NUMF
          have HFV : Hid (bl fv = Lib.itoa f) := by rw [hfv, Hid, bl_mk]
          clear hfv
          go_wp2_with (go_at_call 33; refine (NUMF.out _).mono ?_; rintro e w4 ⟨rfl, hb4⟩)
          go_roundw
          case rel => exact ⟨k + 1, _, by omega, by go_num, rfl, by simp only [size_app]; (have e1 : (⟨#[33]⟩ : ByteArray).size = 1 := rfl); omega, ⟨q.go (Nat.le_refl _) hb4, rfl⟩, by have h1 := HR.out; rw [HS.out] at h1; rw [Hid, ← h1]; simp [bl_app, bl_lit, HFV.out]⟩
          case measure => simp [intOf]; omega
        · have HE : Hid (bl T = markT x.s ++ copT x.c ++ fauT x.f) := by
            have h1 := HR.out; rw [List.drop_eq_nil_of_le (by omega), fauT, List.append_nil] at h1; exact h1
          by_cases hp : 0 < x.p
          · have HP : Hid (priT x.p = 61 :: Lib.itoa x.p) := by unfold priT Hid; rw [if_pos hp]
            obtain ⟨pv, hpv⟩ : ∃ s : ByteArray, s = ⟨(Lib.itoa x.p).toArray⟩ := ⟨_, rfl⟩
            have hps : pv.size ≤ 100 := by rw [hpv]; exact itoa_len (by omega) (by omega)
            have NUMP : ∀ W : World, Calls Tryd.prog 33 #[.int .i64 x.p] W fun e w' => e = .returned (.string pv) ∧ Below W.heap.size W w' := by
              intro W; rw [hpv]; exact l1Num_any _ _ (by omega) (by omega)
            replace NUMP := Lib.hid NUMP
            have HPV : Hid (bl pv = Lib.itoa x.p) := by rw [hpv, Hid, bl_mk]
            clear hpv
            go_wp2_with (go_at_call 33; refine (NUMP.out _).mono ?_; rintro e w3 ⟨rfl, hb3⟩)
            go_ret
            exact ⟨congrArg (fun s => Ending.returned (Value.string s)) (bl_ext (by unfold shortT; simp [bl_app, bl_lit, HE.out, HP.out, HPV.out])), hb1.trans ((q.below.trans (hb3.mono q.size)).mono hb1.size)⟩
          · have HP : Hid (priT x.p = []) := by unfold priT Hid; rw [if_neg hp]
            go_wp2
            go_ret
            exact ⟨congrArg (fun s => Ending.returned (Value.string s)) (bl_ext (by unfold shortT; simp [HE.out, HP.out])), hb1.trans (q.below.mono hb1.size)⟩
    · have HM : Hid (markT x.s = [42]) := by rw [hs]; rfl
      rw [hs] at hb1 hR k2 k3
      clear s1 s2
      go_enter Tryd.func24, Tryd.ntmps24
      go_wp2_with fail
      generalize ((w.alloc (.cells #[.int .i64 2, .int .i64 x.c, .slice x.A x.f.length x.cap, .int .i64 x.p] 24)).alloc (.cells #[.string ⟨#[42, 42]⟩, .string ⟨#[42]⟩, .string ⟨#[111]⟩] 9)) = W at k2 k3 hb1 hR ⊢
      go_loopw [3, 4] (fun s i wr => ∃ (k : Nat) (T : ByteArray), k ≤ x.f.length ∧ i = .int .i64 k ∧ s = .string T ∧ T.size ≤ 300 + 101 * k ∧ (∃ q : Since W.heap.size W, wr = q.val) ∧ Hid (bl T ++ fauT (x.f.drop k) = markT x.s ++ copT x.c ++ fauT x.f)) (fun _ i _ => x.f.length - (intOf i).toNat)
      case atStart => exact ⟨0, _, Nat.zero_le _, rfl, rfl, by (have e3 : (⟨#[42]⟩ : ByteArray).size ≤ 2 := by decide); omega, ⟨Since.start _ _, rfl⟩, by rw [Hid, HM.out, HC.out, List.drop_zero]; simp [bl_lit]⟩
      case round =>
        obtain ⟨k, T, hk, rfl, rfl, hT, ⟨q, rfl⟩, HR⟩ := hrel
        by_cases hlt : k < x.f.length
        · obtain ⟨b, off, hA, hb, hcell⟩ := IntsR.ints hR (by omega)
          have c0 := hcell k hlt
          obtain ⟨f1, f2⟩ := HRI.out k hlt
          have HS := Lib.hid (fau_step hlt (bl T))
          obtain ⟨f, hfe⟩ : ∃ f, f = x.f[k] := ⟨_, rfl⟩
          rw [← hfe] at c0 f1 f2 HS
          simp only [hA] at k2
          clear hfe hcell hA
          obtain ⟨fv, hfv⟩ : ∃ s : ByteArray, s = ⟨(Lib.itoa f).toArray⟩ := ⟨_, rfl⟩
          have hfs : fv.size ≤ 100 := by rw [hfv]; exact itoa_len (by omega) (by omega)
          have NUMF : ∀ W : World, Calls Tryd.prog 33 #[.int .i64 f] W fun e w' => e = .returned (.string fv) ∧ Below W.heap.size W w' := by
            intro W; rw [hfv]; exact l1Num_any _ _ (by omega) (by omega)
          replace NUMF := Lib.hid NUMF
          have HFV : Hid (bl fv = Lib.itoa f) := by rw [hfv, Hid, bl_mk]
          clear hfv
          go_wp2_with (go_at_call 33; refine (NUMF.out _).mono ?_; rintro e w4 ⟨rfl, hb4⟩)
          go_roundw
          case rel => exact ⟨k + 1, _, by omega, by go_num, rfl, by simp only [size_app]; (have e1 : (⟨#[33]⟩ : ByteArray).size = 1 := rfl); omega, ⟨q.go (Nat.le_refl _) hb4, rfl⟩, by have h1 := HR.out; rw [HS.out] at h1; rw [Hid, ← h1]; simp [bl_app, bl_lit, HFV.out]⟩
          case measure => simp [intOf]; omega
        · have HE : Hid (bl T = markT x.s ++ copT x.c ++ fauT x.f) := by
            have h1 := HR.out; rw [List.drop_eq_nil_of_le (by omega), fauT, List.append_nil] at h1; exact h1
          by_cases hp : 0 < x.p
          · have HP : Hid (priT x.p = 61 :: Lib.itoa x.p) := by unfold priT Hid; rw [if_pos hp]
            obtain ⟨pv, hpv⟩ : ∃ s : ByteArray, s = ⟨(Lib.itoa x.p).toArray⟩ := ⟨_, rfl⟩
            have hps : pv.size ≤ 100 := by rw [hpv]; exact itoa_len (by omega) (by omega)
            have NUMP : ∀ W : World, Calls Tryd.prog 33 #[.int .i64 x.p] W fun e w' => e = .returned (.string pv) ∧ Below W.heap.size W w' := by
              intro W; rw [hpv]; exact l1Num_any _ _ (by omega) (by omega)
            replace NUMP := Lib.hid NUMP
            have HPV : Hid (bl pv = Lib.itoa x.p) := by rw [hpv, Hid, bl_mk]
            clear hpv
            go_wp2_with (go_at_call 33; refine (NUMP.out _).mono ?_; rintro e w3 ⟨rfl, hb3⟩)
            go_ret
            exact ⟨congrArg (fun s => Ending.returned (Value.string s)) (bl_ext (by unfold shortT; simp [bl_app, bl_lit, HE.out, HP.out, HPV.out])), hb1.trans ((q.below.trans (hb3.mono q.size)).mono hb1.size)⟩
          · have HP : Hid (priT x.p = []) := by unfold priT Hid; rw [if_neg hp]
            go_wp2
            go_ret
            exact ⟨congrArg (fun s => Ending.returned (Value.string s)) (bl_ext (by unfold shortT; simp [HE.out, HP.out])), hb1.trans (q.below.mono hb1.size)⟩
    · have HM : Hid (markT x.s = [111]) := by rw [hs]; rfl
      rw [hs] at hb1 hR k2 k3
      clear s1 s2
      go_enter Tryd.func24, Tryd.ntmps24
      go_wp2_with fail
      generalize ((w.alloc (.cells #[.int .i64 3, .int .i64 x.c, .slice x.A x.f.length x.cap, .int .i64 x.p] 24)).alloc (.cells #[.string ⟨#[42, 42]⟩, .string ⟨#[42]⟩, .string ⟨#[111]⟩] 9)) = W at k2 k3 hb1 hR ⊢
      go_loopw [3, 4] (fun s i wr => ∃ (k : Nat) (T : ByteArray), k ≤ x.f.length ∧ i = .int .i64 k ∧ s = .string T ∧ T.size ≤ 300 + 101 * k ∧ (∃ q : Since W.heap.size W, wr = q.val) ∧ Hid (bl T ++ fauT (x.f.drop k) = markT x.s ++ copT x.c ++ fauT x.f)) (fun _ i _ => x.f.length - (intOf i).toNat)
      case atStart => exact ⟨0, _, Nat.zero_le _, rfl, rfl, by (have e3 : (⟨#[111]⟩ : ByteArray).size ≤ 2 := by decide); omega, ⟨Since.start _ _, rfl⟩, by rw [Hid, HM.out, HC.out, List.drop_zero]; simp [bl_lit]⟩
      case round =>
        obtain ⟨k, T, hk, rfl, rfl, hT, ⟨q, rfl⟩, HR⟩ := hrel
        by_cases hlt : k < x.f.length
        · obtain ⟨b, off, hA, hb, hcell⟩ := IntsR.ints hR (by omega)
          have c0 := hcell k hlt
          obtain ⟨f1, f2⟩ := HRI.out k hlt
          have HS := Lib.hid (fau_step hlt (bl T))
          obtain ⟨f, hfe⟩ : ∃ f, f = x.f[k] := ⟨_, rfl⟩
          rw [← hfe] at c0 f1 f2 HS
          simp only [hA] at k2
          clear hfe hcell hA
          obtain ⟨fv, hfv⟩ : ∃ s : ByteArray, s = ⟨(Lib.itoa f).toArray⟩ := ⟨_, rfl⟩
          have hfs : fv.size ≤ 100 := by rw [hfv]; exact itoa_len (by omega) (by omega)
          have NUMF : ∀ W : World, Calls Tryd.prog 33 #[.int .i64 f] W fun e w' => e = .returned (.string fv) ∧ Below W.heap.size W w' := by
            intro W; rw [hfv]; exact l1Num_any _ _ (by omega) (by omega)
          replace NUMF := Lib.hid NUMF
          have HFV : Hid (bl fv = Lib.itoa f) := by rw [hfv, Hid, bl_mk]
          clear hfv
          go_wp2_with (go_at_call 33; refine (NUMF.out _).mono ?_; rintro e w4 ⟨rfl, hb4⟩)
          go_roundw
          case rel => exact ⟨k + 1, _, by omega, by go_num, rfl, by simp only [size_app]; (have e1 : (⟨#[33]⟩ : ByteArray).size = 1 := rfl); omega, ⟨q.go (Nat.le_refl _) hb4, rfl⟩, by have h1 := HR.out; rw [HS.out] at h1; rw [Hid, ← h1]; simp [bl_app, bl_lit, HFV.out]⟩
          case measure => simp [intOf]; omega
        · have HE : Hid (bl T = markT x.s ++ copT x.c ++ fauT x.f) := by
            have h1 := HR.out; rw [List.drop_eq_nil_of_le (by omega), fauT, List.append_nil] at h1; exact h1
          by_cases hp : 0 < x.p
          · have HP : Hid (priT x.p = 61 :: Lib.itoa x.p) := by unfold priT Hid; rw [if_pos hp]
            obtain ⟨pv, hpv⟩ : ∃ s : ByteArray, s = ⟨(Lib.itoa x.p).toArray⟩ := ⟨_, rfl⟩
            have hps : pv.size ≤ 100 := by rw [hpv]; exact itoa_len (by omega) (by omega)
            have NUMP : ∀ W : World, Calls Tryd.prog 33 #[.int .i64 x.p] W fun e w' => e = .returned (.string pv) ∧ Below W.heap.size W w' := by
              intro W; rw [hpv]; exact l1Num_any _ _ (by omega) (by omega)
            replace NUMP := Lib.hid NUMP
            have HPV : Hid (bl pv = Lib.itoa x.p) := by rw [hpv, Hid, bl_mk]
            clear hpv
            go_wp2_with (go_at_call 33; refine (NUMP.out _).mono ?_; rintro e w3 ⟨rfl, hb3⟩)
            go_ret
            exact ⟨congrArg (fun s => Ending.returned (Value.string s)) (bl_ext (by unfold shortT; simp [bl_app, bl_lit, HE.out, HP.out, HPV.out])), hb1.trans ((q.below.trans (hb3.mono q.size)).mono hb1.size)⟩
          · have HP : Hid (priT x.p = []) := by unfold priT Hid; rw [if_neg hp]
            go_wp2
            go_ret
            exact ⟨congrArg (fun s => Ending.returned (Value.string s)) (bl_ext (by unfold shortT; simp [HE.out, HP.out])), hb1.trans (q.below.mono hb1.size)⟩
end Go.Proofs.YtchkjiadnackaaaDoor

/- The short text of a phrase, in the program. -/
namespace Go.Proofs.YtchkjiadnackaaaDoor
open Go.RowKit

set_option maxRecDepth 100000 in
theorem und53 : Tryd.prog.underlying 59 = some (.array 3 9) := by rfl
set_option maxRecDepth 100000 in
theorem siz9 : (Tryd.prog.info? 9).map (·.size) = some 1 := by rfl
theorem idx3_0 (a b c : ByteArray) (w : World) : (Instr.index 59 (.agg #[.string a, .string b, .string c]) (.int .i64 0)).run Tryd.prog w = .ok (.string a) w := by
  obtain ⟨i, hi, hs⟩ := Option.map_eq_some_iff.1 siz9
  simp [Instr.index, asIntOf, run_underlying und53, part, sizeOf, typeInfo, hi, hs]
theorem idx3_1 (a b c : ByteArray) (w : World) : (Instr.index 59 (.agg #[.string a, .string b, .string c]) (.int .i64 1)).run Tryd.prog w = .ok (.string b) w := by
  obtain ⟨i, hi, hs⟩ := Option.map_eq_some_iff.1 siz9
  simp [Instr.index, asIntOf, run_underlying und53, part, sizeOf, typeInfo, hi, hs]
theorem idx3_2 (a b c : ByteArray) (w : World) : (Instr.index 59 (.agg #[.string a, .string b, .string c]) (.int .i64 2)).run Tryd.prog w = .ok (.string c) w := by
  obtain ⟨i, hi, hs⟩ := Option.map_eq_some_iff.1 siz9
  simp [Instr.index, asIntOf, run_underlying und53, part, sizeOf, typeInfo, hi, hs]

set_option maxRecDepth 100000 in
set_option maxHeartbeats 2000000 in
theorem shortText_any (x : Ph) (w : World) (h : IntsR w w.heap.size x.A x.f) (hok : x.ok = true) (ht : Tab w) :
    Calls Tryd.prog 30 #[x.val] w fun e w' => e = .returned (.string ⟨(shortT x).toArray⟩) ∧ Below w.heap.size w w' := by
  obtain ⟨⟨s1, s2⟩, ⟨c1, c2⟩, hr, p1, p2⟩ := Ph.bounds hok
  have hnine := faults_nine hr
  have HRI : Hid (∀ i (hi : i < x.f.length), 1 ≤ x.f[i] ∧ x.f[i] ≤ 9) := fun i hi => by
    rw [rises_eq, Bool.and_eq_true, List.all_eq_true] at hr
    exact inR_iff.1 (hr.2 _ (List.getElem_mem hi))
  clear hr hok
  have hb1 := ((Below.refl w.heap.size w).alloc (Nat.le_refl _) (.cells #[.int .i64 x.s, .int .i64 x.c, .slice x.A x.f.length x.cap, .int .i64 x.p] 24))
  have hS := PhS.of (x := x) (Lies.new w 24 #[.int .i64 x.s, .int .i64 x.c, .slice x.A x.f.length x.cap, .int .i64 x.p])
  have hR := SlcR.up h hb1 (Nat.le_refl _)
  have k2 := hS.c2
  have k3 := hS.c3
  clear hS
  have hs : x.s = 1 ∨ x.s = 2 ∨ x.s = 3 := by omega
  by_cases hc1 : 1 < x.c
  · have HC : Hid (copT x.c = 40 :: Lib.itoa x.c ++ [41]) := by unfold copT Hid; rw [if_pos hc1]
    obtain ⟨cv, hcv⟩ : ∃ s : ByteArray, s = ⟨(Lib.itoa x.c).toArray⟩ := ⟨_, rfl⟩
    have hcs : cv.size ≤ 100 := by rw [hcv]; exact itoa_len (by omega) (by omega)
    have NUMC : ∀ W : World, Tab W → Calls Tryd.prog 38 #[.int .i64 x.c] W fun e w' => e = .returned (.string cv) ∧ Below W.heap.size W w' := by
      intro W hW; rw [hcv]; exact itoa_any _ _ (by omega) (by omega) hW
    replace NUMC := Lib.hid NUMC
    have HCV : Hid (bl cv = Lib.itoa x.c) := by rw [hcv, Hid, bl_mk]
    clear hcv
    rcases hs with hs | hs | hs
    · have HM : Hid (markT x.s = [42, 42]) := by rw [hs]; rfl
      rw [hs] at hb1 hR k2 k3
      clear s1 s2
      go_enter Tryd.func30, Tryd.ntmps30
      go_wp2_with fail
      rw [idx3_0]
      go_wp2_with (go_at_call 38; refine (NUMC.out _ (ht.then hb1)).mono ?_; rintro e w1 ⟨rfl, hb2⟩; have k2q : w1.cell? ⟨w.heap.size, 2, none⟩ = some (.slice x.A x.f.length x.cap) := k2 ⟨_, hb2⟩)
      generalize (w.alloc (.cells #[.int .i64 1, .int .i64 x.c, .slice x.A x.f.length x.cap, .int .i64 x.p] 24)) = W at k2 k3 hb1 hR hb2 ⊢
      go_loopw [3, 24] (fun s i wr => ∃ (k : Nat) (T : ByteArray), k ≤ x.f.length ∧ i = .int .i64 k ∧ s = .string T ∧ T.size ≤ 300 + 101 * k ∧ (∃ q : Since W.heap.size W, wr = q.val) ∧ Hid (bl T ++ fauT (x.f.drop k) = markT x.s ++ copT x.c ++ fauT x.f)) (fun _ i _ => x.f.length - (intOf i).toNat)
      case atStart => exact ⟨0, _, Nat.zero_le _, rfl, rfl, by simp only [size_app]; (have e1 : (⟨#[40]⟩ : ByteArray).size = 1 := rfl); (have e2 : (⟨#[41]⟩ : ByteArray).size = 1 := rfl); (have e3 : (⟨#[42, 42]⟩ : ByteArray).size ≤ 2 := by decide); omega, ⟨⟨_, hb2⟩, rfl⟩, by rw [Hid, HM.out, HC.out, List.drop_zero]; simp [bl_app, bl_lit, HCV.out]⟩
      case round =>
        obtain ⟨k, T, hk, rfl, rfl, hT, ⟨q, rfl⟩, HR⟩ := hrel
        have HQ := (ht.then hb1).at q
        by_cases hlt : k < x.f.length
        · obtain ⟨b, off, hA, hb, hcell⟩ := IntsR.ints hR (by omega)
          have c0 := hcell k hlt
          obtain ⟨f1, f2⟩ := HRI.out k hlt
          have HS := Lib.hid (fau_step hlt (bl T))
          obtain ⟨f, hfe⟩ : ∃ f, f = x.f[k] := ⟨_, rfl⟩
          rw [← hfe] at c0 f1 f2 HS
          simp only [hA] at k2 ⊢
          clear hfe hcell hA
          obtain ⟨fv, hfv⟩ : ∃ s : ByteArray, s = ⟨(Lib.itoa f).toArray⟩ := ⟨_, rfl⟩
          have hfs : fv.size ≤ 100 := by rw [hfv]; exact itoa_len (by omega) (by omega)
          have NUMF : ∀ W : World, Tab W → Calls Tryd.prog 38 #[.int .i64 f] W fun e w' => e = .returned (.string fv) ∧ Below W.heap.size W w' := by
            intro W hW; rw [hfv]; exact itoa_any _ _ (by omega) (by omega) hW
          replace NUMF := Lib.hid NUMF
          have HFV : Hid (bl fv = Lib.itoa f) := by rw [hfv, Hid, bl_mk]
          clear hfv
          go_wp2_with (go_at_call 38; refine (NUMF.out _ HQ).mono ?_; rintro e w4 ⟨rfl, hb4⟩)
          go_roundw
          case rel => exact ⟨k + 1, _, by omega, by go_num, rfl, by simp only [size_app]; (have e1 : (⟨#[33]⟩ : ByteArray).size = 1 := rfl); omega, ⟨q.go (Nat.le_refl _) hb4, rfl⟩, by have h1 := HR.out; rw [HS.out] at h1; rw [Hid, ← h1]; simp [bl_app, bl_lit, HFV.out]⟩
          case measure => simp [intOf]; omega
        · have HE : Hid (bl T = markT x.s ++ copT x.c ++ fauT x.f) := by
            have h1 := HR.out; rw [List.drop_eq_nil_of_le (by omega), fauT, List.append_nil] at h1; exact h1
          by_cases hp : 0 < x.p
          · have HP : Hid (priT x.p = 61 :: Lib.itoa x.p) := by unfold priT Hid; rw [if_pos hp]
            obtain ⟨pv, hpv⟩ : ∃ s : ByteArray, s = ⟨(Lib.itoa x.p).toArray⟩ := ⟨_, rfl⟩
            have hps : pv.size ≤ 100 := by rw [hpv]; exact itoa_len (by omega) (by omega)
            have NUMP : ∀ W : World, Tab W → Calls Tryd.prog 38 #[.int .i64 x.p] W fun e w' => e = .returned (.string pv) ∧ Below W.heap.size W w' := by
              intro W hW; rw [hpv]; exact itoa_any _ _ (by omega) (by omega) hW
            replace NUMP := Lib.hid NUMP
            have HPV : Hid (bl pv = Lib.itoa x.p) := by rw [hpv, Hid, bl_mk]
            clear hpv
            go_wp2_with (go_at_call 38; refine (NUMP.out _ HQ).mono ?_; rintro e w3 ⟨rfl, hb3⟩)
            go_ret
            exact ⟨congrArg (fun s => Ending.returned (Value.string s)) (bl_ext (by unfold shortT; simp [bl_app, bl_lit, HE.out, HP.out, HPV.out])), hb1.trans ((q.below.trans (hb3.mono q.size)).mono hb1.size)⟩
          · have HP : Hid (priT x.p = []) := by unfold priT Hid; rw [if_neg hp]
            go_wp2
            go_ret
            exact ⟨congrArg (fun s => Ending.returned (Value.string s)) (bl_ext (by unfold shortT; simp [HE.out, HP.out])), hb1.trans (q.below.mono hb1.size)⟩
    · have HM : Hid (markT x.s = [42]) := by rw [hs]; rfl
      rw [hs] at hb1 hR k2 k3
      clear s1 s2
      go_enter Tryd.func30, Tryd.ntmps30
      go_wp2_with fail
      rw [idx3_1]
      go_wp2_with (go_at_call 38; refine (NUMC.out _ (ht.then hb1)).mono ?_; rintro e w1 ⟨rfl, hb2⟩; have k2q : w1.cell? ⟨w.heap.size, 2, none⟩ = some (.slice x.A x.f.length x.cap) := k2 ⟨_, hb2⟩)
      generalize (w.alloc (.cells #[.int .i64 2, .int .i64 x.c, .slice x.A x.f.length x.cap, .int .i64 x.p] 24)) = W at k2 k3 hb1 hR hb2 ⊢
      go_loopw [3, 24] (fun s i wr => ∃ (k : Nat) (T : ByteArray), k ≤ x.f.length ∧ i = .int .i64 k ∧ s = .string T ∧ T.size ≤ 300 + 101 * k ∧ (∃ q : Since W.heap.size W, wr = q.val) ∧ Hid (bl T ++ fauT (x.f.drop k) = markT x.s ++ copT x.c ++ fauT x.f)) (fun _ i _ => x.f.length - (intOf i).toNat)
      case atStart => exact ⟨0, _, Nat.zero_le _, rfl, rfl, by simp only [size_app]; (have e1 : (⟨#[40]⟩ : ByteArray).size = 1 := rfl); (have e2 : (⟨#[41]⟩ : ByteArray).size = 1 := rfl); (have e3 : (⟨#[42]⟩ : ByteArray).size ≤ 2 := by decide); omega, ⟨⟨_, hb2⟩, rfl⟩, by rw [Hid, HM.out, HC.out, List.drop_zero]; simp [bl_app, bl_lit, HCV.out]⟩
      case round =>
        obtain ⟨k, T, hk, rfl, rfl, hT, ⟨q, rfl⟩, HR⟩ := hrel
        have HQ := (ht.then hb1).at q
        by_cases hlt : k < x.f.length
        · obtain ⟨b, off, hA, hb, hcell⟩ := IntsR.ints hR (by omega)
          have c0 := hcell k hlt
          obtain ⟨f1, f2⟩ := HRI.out k hlt
          have HS := Lib.hid (fau_step hlt (bl T))
          obtain ⟨f, hfe⟩ : ∃ f, f = x.f[k] := ⟨_, rfl⟩
          rw [← hfe] at c0 f1 f2 HS
          simp only [hA] at k2 ⊢
          clear hfe hcell hA
          obtain ⟨fv, hfv⟩ : ∃ s : ByteArray, s = ⟨(Lib.itoa f).toArray⟩ := ⟨_, rfl⟩
          have hfs : fv.size ≤ 100 := by rw [hfv]; exact itoa_len (by omega) (by omega)
          have NUMF : ∀ W : World, Tab W → Calls Tryd.prog 38 #[.int .i64 f] W fun e w' => e = .returned (.string fv) ∧ Below W.heap.size W w' := by
            intro W hW; rw [hfv]; exact itoa_any _ _ (by omega) (by omega) hW
          replace NUMF := Lib.hid NUMF
          have HFV : Hid (bl fv = Lib.itoa f) := by rw [hfv, Hid, bl_mk]
          clear hfv
          go_wp2_with (go_at_call 38; refine (NUMF.out _ HQ).mono ?_; rintro e w4 ⟨rfl, hb4⟩)
          go_roundw
          case rel => exact ⟨k + 1, _, by omega, by go_num, rfl, by simp only [size_app]; (have e1 : (⟨#[33]⟩ : ByteArray).size = 1 := rfl); omega, ⟨q.go (Nat.le_refl _) hb4, rfl⟩, by have h1 := HR.out; rw [HS.out] at h1; rw [Hid, ← h1]; simp [bl_app, bl_lit, HFV.out]⟩
          case measure => simp [intOf]; omega
        · have HE : Hid (bl T = markT x.s ++ copT x.c ++ fauT x.f) := by
            have h1 := HR.out; rw [List.drop_eq_nil_of_le (by omega), fauT, List.append_nil] at h1; exact h1
          by_cases hp : 0 < x.p
          · have HP : Hid (priT x.p = 61 :: Lib.itoa x.p) := by unfold priT Hid; rw [if_pos hp]
            obtain ⟨pv, hpv⟩ : ∃ s : ByteArray, s = ⟨(Lib.itoa x.p).toArray⟩ := ⟨_, rfl⟩
            have hps : pv.size ≤ 100 := by rw [hpv]; exact itoa_len (by omega) (by omega)
            have NUMP : ∀ W : World, Tab W → Calls Tryd.prog 38 #[.int .i64 x.p] W fun e w' => e = .returned (.string pv) ∧ Below W.heap.size W w' := by
              intro W hW; rw [hpv]; exact itoa_any _ _ (by omega) (by omega) hW
            replace NUMP := Lib.hid NUMP
            have HPV : Hid (bl pv = Lib.itoa x.p) := by rw [hpv, Hid, bl_mk]
            clear hpv
            go_wp2_with (go_at_call 38; refine (NUMP.out _ HQ).mono ?_; rintro e w3 ⟨rfl, hb3⟩)
            go_ret
            exact ⟨congrArg (fun s => Ending.returned (Value.string s)) (bl_ext (by unfold shortT; simp [bl_app, bl_lit, HE.out, HP.out, HPV.out])), hb1.trans ((q.below.trans (hb3.mono q.size)).mono hb1.size)⟩
          · have HP : Hid (priT x.p = []) := by unfold priT Hid; rw [if_neg hp]
            go_wp2
            go_ret
            exact ⟨congrArg (fun s => Ending.returned (Value.string s)) (bl_ext (by unfold shortT; simp [HE.out, HP.out])), hb1.trans (q.below.mono hb1.size)⟩
    · have HM : Hid (markT x.s = [111]) := by rw [hs]; rfl
      rw [hs] at hb1 hR k2 k3
      clear s1 s2
      go_enter Tryd.func30, Tryd.ntmps30
      go_wp2_with fail
      rw [idx3_2]
      go_wp2_with (go_at_call 38; refine (NUMC.out _ (ht.then hb1)).mono ?_; rintro e w1 ⟨rfl, hb2⟩; have k2q : w1.cell? ⟨w.heap.size, 2, none⟩ = some (.slice x.A x.f.length x.cap) := k2 ⟨_, hb2⟩)
      generalize (w.alloc (.cells #[.int .i64 3, .int .i64 x.c, .slice x.A x.f.length x.cap, .int .i64 x.p] 24)) = W at k2 k3 hb1 hR hb2 ⊢
      go_loopw [3, 24] (fun s i wr => ∃ (k : Nat) (T : ByteArray), k ≤ x.f.length ∧ i = .int .i64 k ∧ s = .string T ∧ T.size ≤ 300 + 101 * k ∧ (∃ q : Since W.heap.size W, wr = q.val) ∧ Hid (bl T ++ fauT (x.f.drop k) = markT x.s ++ copT x.c ++ fauT x.f)) (fun _ i _ => x.f.length - (intOf i).toNat)
      case atStart => exact ⟨0, _, Nat.zero_le _, rfl, rfl, by simp only [size_app]; (have e1 : (⟨#[40]⟩ : ByteArray).size = 1 := rfl); (have e2 : (⟨#[41]⟩ : ByteArray).size = 1 := rfl); (have e3 : (⟨#[111]⟩ : ByteArray).size ≤ 2 := by decide); omega, ⟨⟨_, hb2⟩, rfl⟩, by rw [Hid, HM.out, HC.out, List.drop_zero]; simp [bl_app, bl_lit, HCV.out]⟩
      case round =>
        obtain ⟨k, T, hk, rfl, rfl, hT, ⟨q, rfl⟩, HR⟩ := hrel
        have HQ := (ht.then hb1).at q
        by_cases hlt : k < x.f.length
        · obtain ⟨b, off, hA, hb, hcell⟩ := IntsR.ints hR (by omega)
          have c0 := hcell k hlt
          obtain ⟨f1, f2⟩ := HRI.out k hlt
          have HS := Lib.hid (fau_step hlt (bl T))
          obtain ⟨f, hfe⟩ : ∃ f, f = x.f[k] := ⟨_, rfl⟩
          rw [← hfe] at c0 f1 f2 HS
          simp only [hA] at k2 ⊢
          clear hfe hcell hA
          obtain ⟨fv, hfv⟩ : ∃ s : ByteArray, s = ⟨(Lib.itoa f).toArray⟩ := ⟨_, rfl⟩
          have hfs : fv.size ≤ 100 := by rw [hfv]; exact itoa_len (by omega) (by omega)
          have NUMF : ∀ W : World, Tab W → Calls Tryd.prog 38 #[.int .i64 f] W fun e w' => e = .returned (.string fv) ∧ Below W.heap.size W w' := by
            intro W hW; rw [hfv]; exact itoa_any _ _ (by omega) (by omega) hW
          replace NUMF := Lib.hid NUMF
          have HFV : Hid (bl fv = Lib.itoa f) := by rw [hfv, Hid, bl_mk]
          clear hfv
          go_wp2_with (go_at_call 38; refine (NUMF.out _ HQ).mono ?_; rintro e w4 ⟨rfl, hb4⟩)
          go_roundw
          case rel => exact ⟨k + 1, _, by omega, by go_num, rfl, by simp only [size_app]; (have e1 : (⟨#[33]⟩ : ByteArray).size = 1 := rfl); omega, ⟨q.go (Nat.le_refl _) hb4, rfl⟩, by have h1 := HR.out; rw [HS.out] at h1; rw [Hid, ← h1]; simp [bl_app, bl_lit, HFV.out]⟩
          case measure => simp [intOf]; omega
        · have HE : Hid (bl T = markT x.s ++ copT x.c ++ fauT x.f) := by
            have h1 := HR.out; rw [List.drop_eq_nil_of_le (by omega), fauT, List.append_nil] at h1; exact h1
          by_cases hp : 0 < x.p
          · have HP : Hid (priT x.p = 61 :: Lib.itoa x.p) := by unfold priT Hid; rw [if_pos hp]
            obtain ⟨pv, hpv⟩ : ∃ s : ByteArray, s = ⟨(Lib.itoa x.p).toArray⟩ := ⟨_, rfl⟩
            have hps : pv.size ≤ 100 := by rw [hpv]; exact itoa_len (by omega) (by omega)
            have NUMP : ∀ W : World, Tab W → Calls Tryd.prog 38 #[.int .i64 x.p] W fun e w' => e = .returned (.string pv) ∧ Below W.heap.size W w' := by
              intro W hW; rw [hpv]; exact itoa_any _ _ (by omega) (by omega) hW
            replace NUMP := Lib.hid NUMP
            have HPV : Hid (bl pv = Lib.itoa x.p) := by rw [hpv, Hid, bl_mk]
            clear hpv
            go_wp2_with (go_at_call 38; refine (NUMP.out _ HQ).mono ?_; rintro e w3 ⟨rfl, hb3⟩)
            go_ret
            exact ⟨congrArg (fun s => Ending.returned (Value.string s)) (bl_ext (by unfold shortT; simp [bl_app, bl_lit, HE.out, HP.out, HPV.out])), hb1.trans ((q.below.trans (hb3.mono q.size)).mono hb1.size)⟩
          · have HP : Hid (priT x.p = []) := by unfold priT Hid; rw [if_neg hp]
            go_wp2
            go_ret
            exact ⟨congrArg (fun s => Ending.returned (Value.string s)) (bl_ext (by unfold shortT; simp [HE.out, HP.out])), hb1.trans (q.below.mono hb1.size)⟩
  · have HC : Hid (copT x.c = []) := by unfold copT Hid; rw [if_neg hc1]
    rcases hs with hs | hs | hs
    · have HM : Hid (markT x.s = [42, 42]) := by rw [hs]; rfl
      rw [hs] at hb1 hR k2 k3
      clear s1 s2
      go_enter Tryd.func30, Tryd.ntmps30
      go_wp2_with fail
      rw [idx3_0]
      go_wp2_with fail
      generalize (w.alloc (.cells #[.int .i64 1, .int .i64 x.c, .slice x.A x.f.length x.cap, .int .i64 x.p] 24)) = W at k2 k3 hb1 hR ⊢
      go_loopw [3, 24] (fun s i wr => ∃ (k : Nat) (T : ByteArray), k ≤ x.f.length ∧ i = .int .i64 k ∧ s = .string T ∧ T.size ≤ 300 + 101 * k ∧ (∃ q : Since W.heap.size W, wr = q.val) ∧ Hid (bl T ++ fauT (x.f.drop k) = markT x.s ++ copT x.c ++ fauT x.f)) (fun _ i _ => x.f.length - (intOf i).toNat)
      case atStart => exact ⟨0, _, Nat.zero_le _, rfl, rfl, by (have e3 : (⟨#[42, 42]⟩ : ByteArray).size ≤ 2 := by decide); omega, ⟨Since.start _ _, rfl⟩, by rw [Hid, HM.out, HC.out, List.drop_zero]; simp [bl_lit]⟩
      case round =>
        obtain ⟨k, T, hk, rfl, rfl, hT, ⟨q, rfl⟩, HR⟩ := hrel
        have HQ := (ht.then hb1).at q
        by_cases hlt : k < x.f.length
        · obtain ⟨b, off, hA, hb, hcell⟩ := IntsR.ints hR (by omega)
          have c0 := hcell k hlt
          obtain ⟨f1, f2⟩ := HRI.out k hlt
          have HS := Lib.hid (fau_step hlt (bl T))
          obtain ⟨f, hfe⟩ : ∃ f, f = x.f[k] := ⟨_, rfl⟩
          rw [← hfe] at c0 f1 f2 HS
          simp only [hA] at k2 ⊢
          clear hfe hcell hA
          obtain ⟨fv, hfv⟩ : ∃ s : ByteArray, s = ⟨(Lib.itoa f).toArray⟩ := ⟨_, rfl⟩
          have hfs : fv.size ≤ 100 := by rw [hfv]; exact itoa_len (by omega) (by omega)
          have NUMF : ∀ W : World, Tab W → Calls Tryd.prog 38 #[.int .i64 f] W fun e w' => e = .returned (.string fv) ∧ Below W.heap.size W w' := by
            intro W hW; rw [hfv]; exact itoa_any _ _ (by omega) (by omega) hW
          replace NUMF := Lib.hid NUMF
          have HFV : Hid (bl fv = Lib.itoa f) := by rw [hfv, Hid, bl_mk]
          clear hfv
          go_wp2_with (go_at_call 38; refine (NUMF.out _ HQ).mono ?_; rintro e w4 ⟨rfl, hb4⟩)
          go_roundw
          case rel => exact ⟨k + 1, _, by omega, by go_num, rfl, by simp only [size_app]; (have e1 : (⟨#[33]⟩ : ByteArray).size = 1 := rfl); omega, ⟨q.go (Nat.le_refl _) hb4, rfl⟩, by have h1 := HR.out; rw [HS.out] at h1; rw [Hid, ← h1]; simp [bl_app, bl_lit, HFV.out]⟩
          case measure => simp [intOf]; omega
        · have HE : Hid (bl T = markT x.s ++ copT x.c ++ fauT x.f) := by
            have h1 := HR.out; rw [List.drop_eq_nil_of_le (by omega), fauT, List.append_nil] at h1; exact h1
          by_cases hp : 0 < x.p
          · have HP : Hid (priT x.p = 61 :: Lib.itoa x.p) := by unfold priT Hid; rw [if_pos hp]
            obtain ⟨pv, hpv⟩ : ∃ s : ByteArray, s = ⟨(Lib.itoa x.p).toArray⟩ := ⟨_, rfl⟩
            have hps : pv.size ≤ 100 := by rw [hpv]; exact itoa_len (by omega) (by omega)
            have NUMP : ∀ W : World, Tab W → Calls Tryd.prog 38 #[.int .i64 x.p] W fun e w' => e = .returned (.string pv) ∧ Below W.heap.size W w' := by
              intro W hW; rw [hpv]; exact itoa_any _ _ (by omega) (by omega) hW
            replace NUMP := Lib.hid NUMP
            have HPV : Hid (bl pv = Lib.itoa x.p) := by rw [hpv, Hid, bl_mk]
            clear hpv
            go_wp2_with (go_at_call 38; refine (NUMP.out _ HQ).mono ?_; rintro e w3 ⟨rfl, hb3⟩)
            go_ret
            exact ⟨congrArg (fun s => Ending.returned (Value.string s)) (bl_ext (by unfold shortT; simp [bl_app, bl_lit, HE.out, HP.out, HPV.out])), hb1.trans ((q.below.trans (hb3.mono q.size)).mono hb1.size)⟩
          · have HP : Hid (priT x.p = []) := by unfold priT Hid; rw [if_neg hp]
            go_wp2
            go_ret
            exact ⟨congrArg (fun s => Ending.returned (Value.string s)) (bl_ext (by unfold shortT; simp [HE.out, HP.out])), hb1.trans (q.below.mono hb1.size)⟩
    · have HM : Hid (markT x.s = [42]) := by rw [hs]; rfl
      rw [hs] at hb1 hR k2 k3
      clear s1 s2
      go_enter Tryd.func30, Tryd.ntmps30
      go_wp2_with fail
      rw [idx3_1]
      go_wp2_with fail
      generalize (w.alloc (.cells #[.int .i64 2, .int .i64 x.c, .slice x.A x.f.length x.cap, .int .i64 x.p] 24)) = W at k2 k3 hb1 hR ⊢
      go_loopw [3, 24] (fun s i wr => ∃ (k : Nat) (T : ByteArray), k ≤ x.f.length ∧ i = .int .i64 k ∧ s = .string T ∧ T.size ≤ 300 + 101 * k ∧ (∃ q : Since W.heap.size W, wr = q.val) ∧ Hid (bl T ++ fauT (x.f.drop k) = markT x.s ++ copT x.c ++ fauT x.f)) (fun _ i _ => x.f.length - (intOf i).toNat)
      case atStart => exact ⟨0, _, Nat.zero_le _, rfl, rfl, by (have e3 : (⟨#[42]⟩ : ByteArray).size ≤ 2 := by decide); omega, ⟨Since.start _ _, rfl⟩, by rw [Hid, HM.out, HC.out, List.drop_zero]; simp [bl_lit]⟩
      case round =>
        obtain ⟨k, T, hk, rfl, rfl, hT, ⟨q, rfl⟩, HR⟩ := hrel
        have HQ := (ht.then hb1).at q
        by_cases hlt : k < x.f.length
        · obtain ⟨b, off, hA, hb, hcell⟩ := IntsR.ints hR (by omega)
          have c0 := hcell k hlt
          obtain ⟨f1, f2⟩ := HRI.out k hlt
          have HS := Lib.hid (fau_step hlt (bl T))
          obtain ⟨f, hfe⟩ : ∃ f, f = x.f[k] := ⟨_, rfl⟩
          rw [← hfe] at c0 f1 f2 HS
          simp only [hA] at k2 ⊢
          clear hfe hcell hA
          obtain ⟨fv, hfv⟩ : ∃ s : ByteArray, s = ⟨(Lib.itoa f).toArray⟩ := ⟨_, rfl⟩
          have hfs : fv.size ≤ 100 := by rw [hfv]; exact itoa_len (by omega) (by omega)
          have NUMF : ∀ W : World, Tab W → Calls Tryd.prog 38 #[.int .i64 f] W fun e w' => e = .returned (.string fv) ∧ Below W.heap.size W w' := by
            intro W hW; rw [hfv]; exact itoa_any _ _ (by omega) (by omega) hW
          replace NUMF := Lib.hid NUMF
          have HFV : Hid (bl fv = Lib.itoa f) := by rw [hfv, Hid, bl_mk]
          clear hfv
          go_wp2_with (go_at_call 38; refine (NUMF.out _ HQ).mono ?_; rintro e w4 ⟨rfl, hb4⟩)
          go_roundw
          case rel => exact ⟨k + 1, _, by omega, by go_num, rfl, by simp only [size_app]; (have e1 : (⟨#[33]⟩ : ByteArray).size = 1 := rfl); omega, ⟨q.go (Nat.le_refl _) hb4, rfl⟩, by have h1 := HR.out; rw [HS.out] at h1; rw [Hid, ← h1]; simp [bl_app, bl_lit, HFV.out]⟩
          case measure => simp [intOf]; omega
        · have HE : Hid (bl T = markT x.s ++ copT x.c ++ fauT x.f) := by
            have h1 := HR.out; rw [List.drop_eq_nil_of_le (by omega), fauT, List.append_nil] at h1; exact h1
          by_cases hp : 0 < x.p
          · have HP : Hid (priT x.p = 61 :: Lib.itoa x.p) := by unfold priT Hid; rw [if_pos hp]
            obtain ⟨pv, hpv⟩ : ∃ s : ByteArray, s = ⟨(Lib.itoa x.p).toArray⟩ := ⟨_, rfl⟩
            have hps : pv.size ≤ 100 := by rw [hpv]; exact itoa_len (by omega) (by omega)
            have NUMP : ∀ W : World, Tab W → Calls Tryd.prog 38 #[.int .i64 x.p] W fun e w' => e = .returned (.string pv) ∧ Below W.heap.size W w' := by
              intro W hW; rw [hpv]; exact itoa_any _ _ (by omega) (by omega) hW
            replace NUMP := Lib.hid NUMP
            have HPV : Hid (bl pv = Lib.itoa x.p) := by rw [hpv, Hid, bl_mk]
            clear hpv
            go_wp2_with (go_at_call 38; refine (NUMP.out _ HQ).mono ?_; rintro e w3 ⟨rfl, hb3⟩)
            go_ret
            exact ⟨congrArg (fun s => Ending.returned (Value.string s)) (bl_ext (by unfold shortT; simp [bl_app, bl_lit, HE.out, HP.out, HPV.out])), hb1.trans ((q.below.trans (hb3.mono q.size)).mono hb1.size)⟩
          · have HP : Hid (priT x.p = []) := by unfold priT Hid; rw [if_neg hp]
            go_wp2
            go_ret
            exact ⟨congrArg (fun s => Ending.returned (Value.string s)) (bl_ext (by unfold shortT; simp [HE.out, HP.out])), hb1.trans (q.below.mono hb1.size)⟩
    · have HM : Hid (markT x.s = [111]) := by rw [hs]; rfl
      rw [hs] at hb1 hR k2 k3
      clear s1 s2
      go_enter Tryd.func30, Tryd.ntmps30
      go_wp2_with fail
      rw [idx3_2]
      go_wp2_with fail
      generalize (w.alloc (.cells #[.int .i64 3, .int .i64 x.c, .slice x.A x.f.length x.cap, .int .i64 x.p] 24)) = W at k2 k3 hb1 hR ⊢
      go_loopw [3, 24] (fun s i wr => ∃ (k : Nat) (T : ByteArray), k ≤ x.f.length ∧ i = .int .i64 k ∧ s = .string T ∧ T.size ≤ 300 + 101 * k ∧ (∃ q : Since W.heap.size W, wr = q.val) ∧ Hid (bl T ++ fauT (x.f.drop k) = markT x.s ++ copT x.c ++ fauT x.f)) (fun _ i _ => x.f.length - (intOf i).toNat)
      case atStart => exact ⟨0, _, Nat.zero_le _, rfl, rfl, by (have e3 : (⟨#[111]⟩ : ByteArray).size ≤ 2 := by decide); omega, ⟨Since.start _ _, rfl⟩, by rw [Hid, HM.out, HC.out, List.drop_zero]; simp [bl_lit]⟩
      case round =>
        obtain ⟨k, T, hk, rfl, rfl, hT, ⟨q, rfl⟩, HR⟩ := hrel
        have HQ := (ht.then hb1).at q
        by_cases hlt : k < x.f.length
        · obtain ⟨b, off, hA, hb, hcell⟩ := IntsR.ints hR (by omega)
          have c0 := hcell k hlt
          obtain ⟨f1, f2⟩ := HRI.out k hlt
          have HS := Lib.hid (fau_step hlt (bl T))
          obtain ⟨f, hfe⟩ : ∃ f, f = x.f[k] := ⟨_, rfl⟩
          rw [← hfe] at c0 f1 f2 HS
          simp only [hA] at k2 ⊢
          clear hfe hcell hA
          obtain ⟨fv, hfv⟩ : ∃ s : ByteArray, s = ⟨(Lib.itoa f).toArray⟩ := ⟨_, rfl⟩
          have hfs : fv.size ≤ 100 := by rw [hfv]; exact itoa_len (by omega) (by omega)
          have NUMF : ∀ W : World, Tab W → Calls Tryd.prog 38 #[.int .i64 f] W fun e w' => e = .returned (.string fv) ∧ Below W.heap.size W w' := by
            intro W hW; rw [hfv]; exact itoa_any _ _ (by omega) (by omega) hW
          replace NUMF := Lib.hid NUMF
          have HFV : Hid (bl fv = Lib.itoa f) := by rw [hfv, Hid, bl_mk]
          clear hfv
          go_wp2_with (go_at_call 38; refine (NUMF.out _ HQ).mono ?_; rintro e w4 ⟨rfl, hb4⟩)
          go_roundw
          case rel => exact ⟨k + 1, _, by omega, by go_num, rfl, by simp only [size_app]; (have e1 : (⟨#[33]⟩ : ByteArray).size = 1 := rfl); omega, ⟨q.go (Nat.le_refl _) hb4, rfl⟩, by have h1 := HR.out; rw [HS.out] at h1; rw [Hid, ← h1]; simp [bl_app, bl_lit, HFV.out]⟩
          case measure => simp [intOf]; omega
        · have HE : Hid (bl T = markT x.s ++ copT x.c ++ fauT x.f) := by
            have h1 := HR.out; rw [List.drop_eq_nil_of_le (by omega), fauT, List.append_nil] at h1; exact h1
          by_cases hp : 0 < x.p
          · have HP : Hid (priT x.p = 61 :: Lib.itoa x.p) := by unfold priT Hid; rw [if_pos hp]
            obtain ⟨pv, hpv⟩ : ∃ s : ByteArray, s = ⟨(Lib.itoa x.p).toArray⟩ := ⟨_, rfl⟩
            have hps : pv.size ≤ 100 := by rw [hpv]; exact itoa_len (by omega) (by omega)
            have NUMP : ∀ W : World, Tab W → Calls Tryd.prog 38 #[.int .i64 x.p] W fun e w' => e = .returned (.string pv) ∧ Below W.heap.size W w' := by
              intro W hW; rw [hpv]; exact itoa_any _ _ (by omega) (by omega) hW
            replace NUMP := Lib.hid NUMP
            have HPV : Hid (bl pv = Lib.itoa x.p) := by rw [hpv, Hid, bl_mk]
            clear hpv
            go_wp2_with (go_at_call 38; refine (NUMP.out _ HQ).mono ?_; rintro e w3 ⟨rfl, hb3⟩)
            go_ret
            exact ⟨congrArg (fun s => Ending.returned (Value.string s)) (bl_ext (by unfold shortT; simp [bl_app, bl_lit, HE.out, HP.out, HPV.out])), hb1.trans ((q.below.trans (hb3.mono q.size)).mono hb1.size)⟩
          · have HP : Hid (priT x.p = []) := by unfold priT Hid; rw [if_neg hp]
            go_wp2
            go_ret
            exact ⟨congrArg (fun s => Ending.returned (Value.string s)) (bl_ext (by unfold shortT; simp [HE.out, HP.out])), hb1.trans (q.below.mono hb1.size)⟩
end Go.Proofs.YtchkjiadnackaaaDoor
