/- Pl02: the texts Split SplitL CutP NumF Rise NumW ReadN ParseInt ShortW More AnyI IntsTo Phr PhrTo Phrs PhrGood OwnInts PhrCopy Alike, joined into one file. -/
import Derived.Test.YtchkjiadnackaaaDoorProg
import Derived.Lib.Split
import Derived.Lib.CountLaws
import Derived.Lib.ItoaNum
import Derived.Lib.ItoaLen
import Derived.Lib.AtoiTie
import Derived.Deep.DeepCutAuto
import Derived.Lib.AtoiErrMem
import Derived.Test.YtchkjiadnackaaaDoorPl01

set_option linter.unusedVariables false

/- The parts of a text between bytes, in the reference (l1Split). -/
namespace Go.Proofs.YtchkjiadnackaaaDoor
open Go.RowKit

def texts (ps : List (List UInt8)) : List Value := ps.map fun p => Value.string ⟨p.toArray⟩
theorem texts_len (ps : List (List UInt8)) : (texts ps).length = ps.length * 1 := by simp [texts]
theorem infoText : (Tryd.prog.info? 9).map (fun i => (i.zero, i.size, i.bytes)) = some (some (.string ⟨#[]⟩), 1, 16) := by kernel_rfl
theorem parts_step {s : ByteArray} {f i : Nat} {b : UInt8} (hfi : f ≤ i) (hi : i < s.size) :
    partsL b (((bl s).take i).drop f) ((bl s).drop i) = if s[i] = b then ((bl s).take i).drop f :: partsL b (((bl s).take (i + 1)).drop (i + 1)) ((bl s).drop (i + 1)) else partsL b (((bl s).take (i + 1)).drop f) ((bl s).drop (i + 1)) := by
  rw [bl_drop hi, partsL]
  have e1 : ((bl s).take (i + 1)).drop (i + 1) = [] := List.drop_eq_nil_of_le (by rw [List.length_take]; omega)
  have e2 : ((bl s).take (i + 1)).drop f = ((bl s).take i).drop f ++ [s[i]] := by
    rw [bl_take hi, List.drop_append_of_le_length (by rw [List.length_take, bl_size]; omega)]
  rw [e1, e2]

set_option maxRecDepth 100000 in
set_option maxHeartbeats 4000000 in
theorem l1Split_any (s : ByteArray) (b : UInt8) (w : World) (hs : s.size ≤ 100000000) :
    Calls Tryd.prog 20 #[.string s, .int .u8 b.toNat] w fun e w' => ∃ A c, e = .returned (.slice A (splitL b (bl s)).length c) ∧ w'.ownsRow w.heap.size 9 1 (.slice A (splitL b (bl s)).length c) (splitL b (bl s)).length (texts (splitL b (bl s))) ∧ Below w.heap.size w w' := by
  have b0 := (Below.refl w.heap.size w).alloc (Nat.le_refl _) (.cells #[] 9)
  have O0 : Hid ((w.alloc (.cells #[] 9)).ownsRow w.heap.size 9 1 (.slice (some ⟨w.heap.size, 0, none⟩) 0 0) 0 (texts [])) := owns_empty (Lies.new w 9 #[]) (Nat.le_refl _)
  have HPL : Hid (∀ l cur : List UInt8, (partsL b cur l).length ≤ l.length + 1) := parts_len b
  go_enter Tryd.func20, Tryd.ntmps20
  go_wp2
  go_loopw [5, 6, 7] (fun o fr i wr => ∃ (f k : Nat) (A : Option Addr) (c : Nat) (ps : List (List UInt8)), f ≤ k ∧ k ≤ s.size ∧ ps.length ≤ k ∧ o = .slice A ps.length c ∧ fr = .int .i64 f ∧ i = .int .i64 k ∧ (∃ q : Since w.heap.size w, wr = q.val) ∧
    Hid (splitL b (bl s) = ps ++ partsL b (((bl s).take k).drop f) ((bl s).drop k)) ∧ Hid (wr.ownsRow w.heap.size 9 1 (.slice A ps.length c) ps.length (texts ps))) (fun _ _ i _ => s.size - (intOf i).toNat)
  case atStart => exact ⟨0, 0, some ⟨w.heap.size, 0, none⟩, 0, [], Nat.le_refl _, Nat.zero_le _, by simp, rfl, rfl, rfl, ⟨⟨_, b0⟩, rfl⟩, rfl, O0⟩
  case round =>
    obtain ⟨f, k, A, c, ps, hfk, hk, hps, rfl, rfl, rfl, ⟨q, rfl⟩, HF, HR⟩ := hrel
    have hqs := q.size
    by_cases hlt : k < s.size
    · have HST := Lib.hid (parts_step (b := b) hfk hlt)
      have hq := @u8_eq s[k] b
      have i1 : (f : Int) ≤ (k : Int) := by omega
      have i2 : (k : Int) ≤ (s.size : Int) := by omega
      by_cases heq : s[k] = b
      · rw [if_pos heq] at HST
        rw [decide_eq_true heq] at hq
        have HB : Hid (bl (s.extract f k) = ((bl s).take k).drop f) := bl_extract _ _ _
        clear heq
        go_wp2_with (at_builtin; refine wpList_push (w0 := q.val) rfl (.tmp 20) (.tmp 25) 37 rfl 9 (.string ⟨#[]⟩) 1 16 Tryd.underlying37 infoText rfl (by omega) (by omega) w.heap.size _ _ _ rfl HR #[.string (s.extract f k)] 1 _ rfl (by first | rfl | simp | exact Array.size_push _) rfl (by simp [Value.oneCell']) (by omega) hqs rfl rfl rfl rfl ?_; intro v5 w5 HO5 hg5 hb5)
        obtain ⟨A5, c5, hv5⟩ := ownsRow_slice HO5.out
        subst hv5
        go_roundw
        case rel =>
          refine ⟨k + 1, k + 1, A5, c5, ps ++ [((bl s).take k).drop f], Nat.le_refl _, by omega, by simp; omega, by simp, by go_num, by go_num, ⟨q.go' hb5, rfl⟩, ?_, ?_⟩
          · have h1 := HF.out; rw [HST.out] at h1; rw [Hid, h1]; simp
          · have h1 := HO5.out; rw [Hid]
            have h2 : texts (ps ++ [((bl s).take k).drop f]) = texts ps ++ [Value.string (s.extract f k)] := by unfold texts; rw [List.map_append, ← HB.out]; simp [← bl_ext rfl]
            rw [h2]; simpa using h1
        case measure => simp [intOf]; omega
      · rw [if_neg heq] at HST
        rw [decide_eq_false heq] at hq
        clear heq
        go_wp2
        go_roundw
        case rel => exact ⟨f, k + 1, A, c, ps, by omega, by omega, by omega, rfl, rfl, by go_num, ⟨q, rfl⟩, by have h1 := HF.out; rw [HST.out] at h1; exact h1, HR⟩
        case measure => simp [intOf]; omega
    · obtain rfl : k = s.size := by omega
      have i1 : (f : Int) ≤ (s.size : Int) := by omega
      have HB : Hid (bl (s.extract f s.size) = ((bl s).take s.size).drop f) := bl_extract _ _ _
      have HF2 : Hid (splitL b (bl s) = ps ++ [((bl s).take s.size).drop f]) := by
        have h1 := HF.out
        have e0 : (bl s).drop s.size = [] := List.drop_eq_nil_of_le (by rw [bl_size]; exact Nat.le_refl _)
        rw [e0] at h1; exact h1
      go_wp2_with (at_builtin; refine wpList_push (w0 := q.val) rfl (.tmp 29) (.tmp 33) 37 rfl 9 (.string ⟨#[]⟩) 1 16 Tryd.underlying37 infoText rfl (by omega) (by omega) w.heap.size _ _ _ rfl HR #[.string (s.extract f s.size)] 1 _ rfl (by first | rfl | simp | exact Array.size_push _) rfl (by simp [Value.oneCell']) (by omega) hqs rfl rfl rfl rfl ?_; intro v5 w5 HO5 hg5 hb5)
      obtain ⟨A5, c5, hv5⟩ := ownsRow_slice HO5.out
      subst hv5
      go_ret
      have h2 : texts (ps ++ [((bl s).take s.size).drop f]) = texts ps ++ [Value.string (s.extract f s.size)] := by unfold texts; rw [List.map_append, ← HB.out]; simp [← bl_ext rfl]
      rw [HF2.out, h2]
      refine ⟨A5, c5, by simp, ?_, (q.go' hb5).below⟩
      have h1 := HO5.out
      simpa using h1
end Go.Proofs.YtchkjiadnackaaaDoor

/- The reference's split: its texts lie in a block of the call's own. -/
namespace Go.Proofs.YtchkjiadnackaaaDoor
open Go.RowKit

theorem texts_at (ps : List (List UInt8)) (k : Nat) (h : k < ps.length) : (texts ps)[k]? = some (.string ⟨(ps[k]).toArray⟩) := by
  unfold texts; rw [List.getElem?_map, List.getElem?_eq_getElem h]; rfl
theorem texts_at2 (ps : List (List UInt8)) (rest : List Value) (k : Nat) (h : k < ps.length) : (texts ps ++ rest)[k]? = some (.string ⟨(ps[k]).toArray⟩) := by
  rw [List.getElem?_append_left (by rw [texts_len]; omega)]; exact texts_at ps k h
theorem l1Split_lies (s : ByteArray) (b : UInt8) (w : World) (hs : s.size ≤ 100000000) :
    Calls Tryd.prog 20 #[.string s, .int .u8 b.toNat] w fun e w' => ∃ (g c : Nat) (rest : List Value), e = .returned (.slice (some ⟨g, 0, none⟩) (splitL b (bl s)).length c) ∧ Lies w' g 9 (texts (splitL b (bl s)) ++ rest) ∧ w.heap.size ≤ g ∧ Below w.heap.size w w' := by
  refine (l1Split_any s b w hs).mono ?_
  rintro e w' ⟨A, c, rfl, ho, hb⟩
  obtain ⟨_, _, ⟨h1, h2⟩ | ⟨g, rest, hA, hg, hL⟩⟩ := OwnS.of ho
  · exact absurd (List.eq_nil_of_length_eq_zero h2) (parts_ne b _ _)
  · subst hA; exact ⟨g, c, rest, rfl, hL, hg, hb⟩
theorem parts_short {b : UInt8} {s : List UInt8} {n : Nat} (h : s.length ≤ n) : ∀ t ∈ splitL b s, t.length ≤ n := fun t ht => by
  have := parts_mem s [] ht; simp at this; omega
theorem parts_count {b : UInt8} {s : List UInt8} {n : Nat} (h : s.length ≤ n) : 1 ≤ (splitL b s).length ∧ (splitL b s).length ≤ n + 1 := by
  have h1 := parts_len b s []
  have h3 : 0 < (partsL b [] s).length := List.length_pos_iff.2 (parts_ne b s [])
  unfold splitL; omega
theorem beq_lit (v : ByteArray) (l : List UInt8) : (v.toList == l) = decide (bl v = l) := by
  rw [ByteArray.toList_eq]; unfold bl
  by_cases h : v.data.toList = l <;> simp [h]
theorem head_at {ps : List (List UInt8)} (h : 0 < ps.length) : ps.headD [] = ps[0] := by
  cases ps with
  | nil => simp at h
  | cons a l => rfl
theorem last_at {ps : List (List UInt8)} (h : 0 < ps.length) : ps.getLastD [] = ps[ps.length - 1] := by
  rw [List.getLastD_eq_getLast?, List.getLast?_eq_getElem?, List.getElem?_eq_getElem (by omega)]; rfl
end Go.Proofs.YtchkjiadnackaaaDoor

/- The library's Cut, Split and TrimSuffix at one byte. -/
namespace Go.Proofs.YtchkjiadnackaaaDoor
open Go.RowKit

def hasB (l : List UInt8) (b : UInt8) : Bool := l.contains b
theorem hasB_true {l : List UInt8} {b : UInt8} : hasB l b = true ↔ b ∈ l := by unfold hasB; simp
theorem hasB_false {l : List UInt8} {b : UInt8} : hasB l b = false ↔ b ∉ l := by unfold hasB; simp
theorem idxByte_or (l : List UInt8) (b : UInt8) : (b ∉ l ∧ Lib.indexByte l b = -1) ∨ (b ∈ l ∧ Lib.indexByte l b = (bef b l).length) := by
  induction l with
  | nil => exact .inl ⟨by simp, rfl⟩
  | cons x l ih =>
    unfold Lib.indexByte bef
    by_cases h : x = b
    · subst h; exact .inr ⟨by simp, by simp⟩
    · have h' : (x == b) = false := by simp [h]
      rw [if_neg (by simp [h]), if_neg h]
      rcases ih with ⟨h1, h2⟩ | ⟨h1, h2⟩
      · exact .inl ⟨by simp only [List.mem_cons, not_or]; exact ⟨Ne.symm h, h1⟩, by rw [h2]; rfl⟩
      · refine .inr ⟨by simp [h1], ?_⟩
        rw [h2, if_neg (by simp)]; simp

def cutL (s : ByteArray) (b : UInt8) : ByteArray := ⟨(bef b (bl s)).toArray⟩
def cutR (s : ByteArray) (b : UInt8) : ByteArray := ⟨((bl s).drop ((bef b (bl s)).length + 1)).toArray⟩

set_option maxHeartbeats 1000000 in
theorem litCut_any (s : ByteArray) (b : UInt8) (w : World) (hs : s.size ≤ 1000000000) :
    Calls Tryd.prog 35 #[.string s, .string ⟨#[b]⟩] w fun e w' => e = .returned (.tuple #[.string (cutL s b), .string (cutR s b), .bool (hasB (bl s) b)]) ∧ Below w.heap.size w w' := by
  have HI := Lib.hid (fun W => Tryd.stringslite_Index_one s b W)
  have hb := bef_len b (bl s)
  rw [bl_size] at hb
  rcases idxByte_or (bl s) b with ⟨h1, h2⟩ | ⟨h1, h2⟩
  · rw [show s.data.toList = bl s from rfl, h2] at HI
    have HL : Hid (cutL s b = s) := by unfold cutL Hid; rw [bef_free h1]; exact (bl_ext rfl).symm
    have HR : Hid (cutR s b = ⟨#[]⟩) := by unfold cutR Hid; rw [bef_free h1, List.drop_eq_nil_of_le (by omega)]
    have HF : Hid (hasB (bl s) b = false) := hasB_false.2 h1
    clear h1 h2
    go_enter Tryd.func35, Tryd.ntmps35
    go_wp2_with (go_at_call 46; refine (HI.out _).mono ?_; rintro e w' ⟨rfl, rfl⟩)
    go_ret3
    exact ⟨by rw [HL.out, HR.out, HF.out]; rfl, Below.refl _ _⟩
  · rw [show s.data.toList = bl s from rfl, h2] at HI
    have hp := congrArg List.length (parts_bef h1)
    rw [bl_size] at hp
    simp only [List.length_append, List.length_cons, List.length_drop, bl_size] at hp
    have HF : Hid (hasB (bl s) b = true) := hasB_true.2 h1
    obtain ⟨n, hn⟩ : ∃ n, n = (bef b (bl s)).length := ⟨_, rfl⟩
    have HL : Hid (cutL s b = s.extract 0 n) := by
      unfold cutL Hid; refine (bl_ext ?_).symm
      rw [bl_extract, hn, take_bef]; simp
    have HR : Hid (cutR s b = s.extract (n + 1) s.size) := by
      unfold cutR Hid; refine (bl_ext ?_).symm
      rw [bl_extract, hn, List.take_of_length_le (by rw [bl_size]; omega)]
    rw [← hn] at HI hp hb
    have z1 : (⟨#[b]⟩ : ByteArray).size = 1 := rfl
    have hn1 : n + 1 ≤ s.size := by omega
    have i0 : (0 : Int) ≤ (n : Int) := by omega
    have i1 : (n : Int) ≤ (s.size : Int) := by omega
    have i2 : (n : Int) + 1 ≤ (s.size : Int) := by omega
    have i3 : IntKind.i64.wrap ((n : Int) + 1) = (n : Int) + 1 := IntWalk.i64_in _ (by omega)
    clear hn hp h1 h2
    go_enter Tryd.func35, Tryd.ntmps35
    go_wp2_with (go_at_call 46; refine (HI.out _).mono ?_; rintro e w' ⟨rfl, rfl⟩)
    refine wp_region_since0 (by kernel_rfl) (by kernel_rfl) ?_
    repeat (any_goals (first | go_big_quiet_step ((fail)) | (refine wpQuiet_step (fun K hK => ?_); go_simp; split <;> (refine hK _ ?_; clear hK K))))
    all_goals (refine wpQuiet_nil ?_; rintro _ ⟨q1, rfl⟩)
    go_wp2
    go_ret3
    exact ⟨by rw [HL.out, HR.out, HF.out]; rfl, q1.below⟩

theorem cut_any (s : ByteArray) (b : UInt8) (w : World) (hs : s.size ≤ 1000000000) :
    Calls Tryd.prog 25 #[.string s, .string ⟨#[b]⟩] w fun e w' => e = .returned (.tuple #[.string (cutL s b), .string (cutR s b), .bool (hasB (bl s) b)]) ∧ Below w.heap.size w w' := by
  have HC := Lib.hid (fun W => litCut_any s b W hs)
  go_enter Tryd.func25, Tryd.ntmps25
  go_wp2_with (go_at_call 35; refine (HC.out _).mono ?_; rintro e w1 ⟨rfl, hb1⟩)
  go_ret3
  exact ⟨rfl, hb1⟩
theorem bl_cutL (s : ByteArray) (b : UInt8) : bl (cutL s b) = bef b (bl s) := bl_mk _
theorem bl_cutR (s : ByteArray) (b : UInt8) : bl (cutR s b) = (bl s).drop ((bef b (bl s)).length + 1) := bl_mk _

/-! ### Split -/
theorem splitK_one (b : UInt8) : ∀ (fuel : Nat) (l : List UInt8), l.length < fuel → Lib.splitK [b] 0 (Lib.countFrom [b] fuel l) l = splitL b l ∧ (splitL b l).length = Lib.countFrom [b] fuel l + 1
  | 0, l, h => absurd h (by omega)
  | fuel + 1, l, h => by
    rcases index_one_or l b with ⟨h1, h2⟩ | ⟨h1, h2⟩
    · have hc : Lib.countFrom [b] (fuel + 1) l = 0 := by unfold Lib.countFrom; rw [h2]; rfl
      rw [hc, split_free h1]; exact ⟨rfl, rfl⟩
    · have hp := parts_bef h1
      have hl := congrArg List.length hp
      simp only [List.length_append, List.length_cons, List.length_drop] at hl
      obtain ⟨r, hr⟩ : ∃ r, l.drop ((bef b l).length + 1) = r := ⟨_, rfl⟩
      have hrl : r.length < fuel := by rw [← hr, List.length_drop]; omega
      obtain ⟨i1, i2⟩ := splitK_one b fuel r hrl
      have hne : ¬ ((((bef b l).length : Nat) : Int) == -1) = true := fun e => by have := beq_iff_eq.1 e; omega
      have hc : Lib.countFrom [b] (fuel + 1) l = Lib.countFrom [b] fuel r + 1 := by
        rw [Lib.countFrom, h2, if_neg hne, Int.toNat_natCast, show ([b] : List UInt8).length = 1 from rfl, hr]; omega
      have hs : splitL b l = bef b l :: splitL b r := by
        rw [← hr]
        have := split_mid (r := l.drop ((bef b l).length + 1)) (bef_not b l)
        rw [← hp] at this; exact this
      rw [hc, hs]
      refine ⟨?_, by rw [List.length_cons, i2]⟩
      rw [Lib.splitK, h2, if_neg hne, Int.toNat_natCast, show ([b] : List UInt8).length = 1 from rfl, hr, i1, Nat.add_zero, take_bef]
theorem splitB_texts (s : ByteArray) (b : UInt8) : ((Lib.splitB ⟨#[b]⟩ 0 (Lib.countB s ⟨#[b]⟩) s).map Value.string) = texts (splitL b (bl s)) ∧ Lib.countB s ⟨#[b]⟩ + 1 = (splitL b (bl s)).length := by
  have h1 := Lib.splitB_data ⟨#[b]⟩ 0 (Lib.countB s ⟨#[b]⟩) s
  have h2 : Lib.countB s ⟨#[b]⟩ = Lib.countFrom [b] ((bl s).length + 1) (bl s) := by
    rfl
  obtain ⟨h3, h4⟩ := splitK_one b ((bl s).length + 1) (bl s) (by omega)
  refine ⟨?_, by rw [h2, h4]⟩
  have h5 : (Lib.splitB ⟨#[b]⟩ 0 (Lib.countB s ⟨#[b]⟩) s).map bl = splitL b (bl s) := by
    rw [← h3, ← h2]; exact h1
  rw [← h5, texts, List.map_map]
  exact List.map_congr_left fun x _ => congrArg Value.string (bl_ext rfl)
theorem split_any (s : ByteArray) (b : UInt8) (w : World) (hs : s.size ≤ 1000000000) (hL : LW w) :
    Calls Tryd.prog 21 #[.string s, .string ⟨#[b]⟩] w fun e w' => e = .returned (.slice (some ⟨w.heap.size, 0, none⟩) (splitL b (bl s)).length (splitL b (bl s)).length) ∧ Lies w' w.heap.size 9 (texts (splitL b (bl s))) ∧ Below w.heap.size w w' := by
  obtain ⟨m, hm⟩ := hL.ml
  obtain ⟨h1, h2⟩ := splitB_texts s b
  refine (Tryd.strings_Split s ⟨#[b]⟩ m w (by omega) hm (Nat.le_refl 1)).mono ?_
  rintro e w' ⟨rfl, rfl⟩
  rw [h1, h2]
  have := Lies.new w 9 (texts (splitL b (bl s))).toArray
  exact ⟨rfl, by simpa using this, (Below.refl w.heap.size w).alloc (Nat.le_refl _) _⟩
end Go.Proofs.YtchkjiadnackaaaDoor

/- Texts of numbers of at most six digits (plain). -/
namespace Go.Proofs.YtchkjiadnackaaaDoor

def Six (n : Int) : Prop := -999999 ≤ n ∧ n ≤ 999999
theorem digitVal_digit {d : Nat} (h : d < 10) : Lib.digitVal (UInt8.ofNat (48 + d)) = some d := by
  have : (UInt8.ofNat (48 + d)).toNat = 48 + d := by simp [UInt8.toNat_ofNat']; omega
  unfold Lib.digitVal
  rw [this, if_pos (by omega)]
  congr 1; omega
theorem decFrom_app : ∀ (l r : List UInt8) (acc m : Nat), Lib.decFrom acc l = some m → Lib.decFrom acc (l ++ r) = Lib.decFrom m r
  | [], r, acc, m, h => by simp only [Lib.decFrom, Option.some.injEq] at h; subst h; rfl
  | b :: l, r, acc, m, h => by
    simp only [List.cons_append, Lib.decFrom] at h ⊢
    cases hb : Lib.digitVal b with
    | none => rw [hb] at h; cases h
    | some d => rw [hb] at h; exact decFrom_app l r _ _ h
theorem decFrom_dec (n : Nat) : Lib.decFrom 0 (Lib.decDigits n) = some n := by
  induction n using Nat.strongRecOn with
  | _ n ih =>
    rw [Lib.decDigits]
    by_cases h : n < 10
    · rw [dif_pos h]
      simp only [Lib.decFrom, digitVal_digit h]
      congr 1; omega
    · rw [dif_neg h, decFrom_app _ _ _ _ (ih (n / 10) (by omega))]
      simp only [Lib.decFrom, digitVal_digit (Nat.mod_lt n (by omega : 0 < 10))]
      congr 1; omega
theorem dec_ne (n : Nat) : Lib.decDigits n ≠ [] := by
  intro h
  have h1 := Lib.decDigits_length n
  have h2 := Lib.nDigits_pos n
  rw [h] at h1; simp at h1; omega
theorem dec_digit (n : Nat) : ∀ b ∈ Lib.decDigits n, 48 ≤ b.toNat ∧ b.toNat ≤ 57 := by
  intro b hb
  obtain ⟨k, hk, e⟩ := List.getElem_of_mem hb
  obtain ⟨d, hd⟩ := Lib.digit_of_decFrom _ _ _ (decFrom_dec n) k b (by rw [List.getElem?_eq_getElem hk, e])
  have := Lib.digitVal_eq hd
  omega
theorem decNat_dec (n : Nat) : Lib.decNat (Lib.decDigits n) = some n := by
  unfold Lib.decNat
  rw [if_neg (by simp [dec_ne])]
  exact decFrom_dec n
theorem atoi_itoa (n : Int) : Lib.atoi (Lib.itoa n) = some n := by
  unfold Lib.itoa
  by_cases h : n < 0
  · rw [if_pos h]
    simp only [Lib.atoi, beq_self_eq_true, if_true, decNat_dec, Option.map_some, Option.some.injEq]
    omega
  · rw [if_neg h]
    obtain ⟨m, rfl⟩ := Int.eq_ofNat_of_zero_le (by omega : 0 ≤ n)
    rw [Int.toNat_natCast]
    cases hd : Lib.decDigits m with
    | nil => exact absurd hd (dec_ne m)
    | cons b r =>
      have hb := dec_digit m b (by rw [hd]; simp)
      have h1 : (b == 45) = false := by
        rw [beq_eq_false_iff_ne]; intro e; subst e; have : (45 : UInt8).toNat = 45 := rfl; omega
      have h2 : (b == 43) = false := by
        rw [beq_eq_false_iff_ne]; intro e; subst e; have : (43 : UInt8).toNat = 43 := rfl; omega
      simp only [Lib.atoi, h1, h2, Bool.false_eq_true, if_false]
      rw [← hd, decNat_dec]
      rfl
theorem itoa_inj {n m : Int} (h : Lib.itoa n = Lib.itoa m) : n = m := by
  have := atoi_itoa n
  rw [h, atoi_itoa m] at this
  exact (Option.some.inj this).symm
theorem nDigits_six {n : Nat} (h : n ≤ 999999) : Lib.nDigits n ≤ 6 := by
  by_cases h0 : n = 0
  · subst h0; rw [Lib.nDigits_small (by omega)]; omega
  · have h1 := Lib.nDigits_pos n
    by_cases h2 : Lib.nDigits n ≤ 6
    · exact h2
    · exfalso
      have key : ∀ (k n : Nat), n < 10 ^ (k + 1) → Lib.nDigits n ≤ k + 1 := by
        intro k
        induction k with
        | zero => intro n hn; rw [Lib.nDigits_small (by simpa using hn)]; omega
        | succ k ih =>
          intro n hn
          by_cases hs : n < 10
          · rw [Lib.nDigits_small hs]; omega
          · rw [Lib.nDigits_big hs]
            have := ih (n / 10) (Nat.div_lt_of_lt_mul (by rw [Nat.mul_comm, ← Nat.pow_succ]; exact hn))
            omega
      exact h2 (key 5 n (by omega))
theorem itoa_six {n : Int} (h : Six n) : 1 ≤ (Lib.itoa n).length ∧ (Lib.itoa n).length ≤ 7 := by
  unfold Lib.itoa
  obtain ⟨h1, h2⟩ := h
  split
  · have := nDigits_six (n := n.natAbs) (by omega)
    rw [List.length_cons, Lib.decDigits_length]; omega
  · have := nDigits_six (n := n.toNat) (by omega)
    have h3 := Lib.nDigits_pos n.toNat
    rw [Lib.decDigits_length]; omega
open Classical in
/-- The number of at most six digits of which this is the text. -/
noncomputable def numF (s : List UInt8) : Option Int := if h : ∃ n, Six n ∧ Lib.itoa n = s then some h.choose else none
theorem numF_some {n : Int} (h : Six n) : numF (Lib.itoa n) = some n := by
  have hex : ∃ m, Six m ∧ Lib.itoa m = Lib.itoa n := ⟨n, h, rfl⟩
  unfold numF
  rw [dif_pos hex]
  exact congrArg some (itoa_inj hex.choose_spec.2)
theorem numF_eq {n : Int} {s : List UInt8} (h : Six n) (e : Lib.itoa n = s) : numF s = some n := e ▸ numF_some h
theorem numF_is {n : Int} {s : List UInt8} (h : numF s = some n) : Six n ∧ Lib.itoa n = s := by
  by_cases hex : ∃ m, Six m ∧ Lib.itoa m = s
  · unfold numF at h
    rw [dif_pos hex] at h
    have := hex.choose_spec
    rw [Option.some.inj h] at this
    exact this
  · unfold numF at h
    rw [dif_neg hex] at h; cases h
theorem numF_none {s : List UInt8} (h : ∀ n, Six n → Lib.itoa n ≠ s) : numF s = none := by
  unfold numF; rw [dif_neg (fun ⟨n, h1, h2⟩ => h n h1 h2)]
/-- Atoi of the text of such a number. -/
theorem atoiAll_six {n : Int} (h : Six n) : Lib.atoiAll (Lib.itoa n) = .ok n := by
  rw [Lib.atoiAll_short _ (by have := itoa_six h; omega), atoi_itoa]; rfl
/-- What l1Read asks of the digits. -/
theorem num_read {s : List UInt8} {n : Int} (h : Six n) (e : Lib.itoa n = s) :
    (n < 0 ∧ ∃ t, s = 45 :: t ∧ 1 ≤ t.length ∧ t.length ≤ 6 ∧ Lib.decFrom 0 t = some n.natAbs) ∨ (0 ≤ n ∧ s.head? ≠ some 45 ∧ 1 ≤ s.length ∧ s.length ≤ 6 ∧ Lib.decFrom 0 s = some n.natAbs) := by
  obtain ⟨h1, h2⟩ := h
  unfold Lib.itoa at e
  by_cases hn : n < 0
  · left
    rw [if_pos hn] at e
    have h3 := nDigits_six (n := n.natAbs) (by omega)
    have h4 := Lib.nDigits_pos n.natAbs
    exact ⟨hn, _, e.symm, by rw [Lib.decDigits_length]; omega, by rw [Lib.decDigits_length]; omega, decFrom_dec _⟩
  · right
    rw [if_neg hn] at e
    have h3 := nDigits_six (n := n.toNat) (by omega)
    have h4 := Lib.nDigits_pos n.toNat
    have h5 : n.natAbs = n.toNat := by omega
    subst e
    refine ⟨by omega, ?_, by rw [Lib.decDigits_length]; omega, by rw [Lib.decDigits_length]; omega, by rw [h5]; exact decFrom_dec _⟩
    intro hh
    have hm : (45 : UInt8) ∈ Lib.decDigits n.toNat := List.mem_of_mem_head? hh
    have := dec_digit _ _ hm
    have h6 : (45 : UInt8).toNat = 45 := rfl
    omega
end Go.Proofs.YtchkjiadnackaaaDoor

/- Lists of ints that ascend. -/
namespace Go.Proofs.YtchkjiadnackaaaDoor
open Go.RowKit

def inR (n lo hi : Int) : Bool := decide (lo ≤ n) && decide (n ≤ hi)
theorem inR_iff {n lo hi : Int} : inR n lo hi = true ↔ lo ≤ n ∧ n ≤ hi := by simp [inR]
theorem l1In_any (n lo hi : Int) (w : World) : Calls Tryd.prog 32 #[.int .i64 n, .int .i64 lo, .int .i64 hi] w fun e w' => e = .returned (.bool (inR n lo hi)) ∧ w = w' := by
  go_enter Tryd.func32, Tryd.ntmps32
  go_wp2
  all_goals (go_ret; exact ⟨by simp [inR, *]; try omega, rfl⟩)
theorem inRange_any (n lo hi : Int) (w : World) : Calls Tryd.prog 37 #[.int .i64 n, .int .i64 lo, .int .i64 hi] w fun e w' => e = .returned (.bool (inR n lo hi)) ∧ w = w' := by
  go_enter Tryd.func37, Tryd.ntmps37
  go_wp2
  all_goals (go_ret; exact ⟨by simp [inR, *]; try omega, rfl⟩)

/-- The rest of a list ascends behind the number p. -/
def ascFrom : Int → List Int → Bool
  | _, [] => true
  | p, x :: l => decide (p < x) && ascFrom x l
def asc : List Int → Bool
  | [] => true
  | x :: l => ascFrom x l
def riseFrom (lo hi : Int) : Nat → Int → List Int → Bool
  | _, _, [] => true
  | n, p, x :: l => inR x lo hi && (decide (n = 0) || decide (p < x)) && riseFrom lo hi (n + 1) x l
def rises (lo hi : Int) (l : List Int) : Bool := riseFrom lo hi 0 0 l
theorem riseFrom_eq (lo hi : Int) : ∀ (l : List Int) (n : Nat) (p : Int), riseFrom lo hi (n + 1) p l = (ascFrom p l && l.all fun x => inR x lo hi)
  | [], _, _ => rfl
  | x :: l, n, p => by
    rw [riseFrom, riseFrom_eq lo hi l (n + 1) x, ascFrom, List.all_cons]
    cases inR x lo hi <;> cases decide (p < x) <;> simp
theorem rises_eq (lo hi : Int) : ∀ l : List Int, rises lo hi l = (asc l && l.all fun x => inR x lo hi)
  | [] => rfl
  | x :: l => by
    unfold rises
    rw [riseFrom, riseFrom_eq lo hi l 0 x, asc, List.all_cons]
    cases inR x lo hi <;> simp

set_option maxHeartbeats 1000000 in
theorem l1Rising_any (A : Option Addr) (c : Nat) (l : List Int) (lo hi : Int) (w : World) (h : IntsR w w.heap.size A l) :
    Calls Tryd.prog 34 #[.slice A l.length c, .int .i64 lo, .int .i64 hi] w fun e w' => e = .returned (.bool (rises lo hi l)) ∧ Below w.heap.size w w' := by
  have hl := h.big
  have hrd := h.ints
  go_enter Tryd.func34, Tryd.ntmps34
  go_wp2
  go_loopw [7] (fun i wr => ∃ (k : Nat) (prev : Int), k ≤ l.length ∧ i = .int .i64 k ∧ (∃ q : Since w.heap.size w, wr = q.val) ∧ Hid (riseFrom lo hi k prev (l.drop k) = rises lo hi l) ∧ Hid (∀ (_hk : 0 < k) (h' : k - 1 < l.length), prev = l[k - 1])) (fun i _ => l.length - (intOf i).toNat)
  case atStart => exact ⟨0, 0, Nat.zero_le _, rfl, ⟨Since.start _ _, rfl⟩, rfl, fun h => absurd h (by omega)⟩
  case round =>
    obtain ⟨k, prev, hk, rfl, ⟨q, rfl⟩, HR, HP⟩ := hrel
    by_cases hlt : k < l.length
    · obtain ⟨b, off, rfl, hb, hcell⟩ := hrd (by omega)
      have c0 := hcell k hlt
      have HC : Hid (0 < k → ∀ p : Since w.heap.size w, p.val.cell? ⟨b, off + (k - 1), none⟩ = some (.int .i64 prev)) := fun h p => by
        rw [HP.out h (by omega)]; exact hcell (k - 1) (by omega) p
      obtain ⟨x, hxe⟩ : ∃ x, x = l[k] := ⟨_, rfl⟩
      rw [← hxe] at c0
      have HX := Lib.hid hxe; clear hxe
      clear hcell hrd
      have hstep : Hid (riseFrom lo hi k prev (l.drop k) = (inR x lo hi && (decide (k = 0) || decide (prev < x)) && riseFrom lo hi (k + 1) x (l.drop (k + 1)))) := by
        rw [List.drop_eq_getElem_cons hlt, HX.out]; rfl
      have HN : Hid (∀ (_hk : 0 < k + 1) (h' : k + 1 - 1 < l.length), x = l[k + 1 - 1]) := fun _ h' => by rw [HX.out]; rfl
      obtain ⟨v, hv⟩ : ∃ v, inR x lo hi = v := ⟨_, rfl⟩
      have HV := Lib.hid hv; clear hv
      rcases Nat.eq_zero_or_pos k with h0 | h0
      · have hd : decide (0 < k) = false := decide_eq_false (by omega)
        have H0 := Lib.hid h0; clear h0
        cases v
        all_goals
          go_wp2
          refine wp_region_since _ (by kernel_rfl) (by kernel_rfl) ?_
          repeat (any_goals (first | go_big_quiet_step ((go_at_call 32; refine calls_sameB HV (l1In_any x _ _ _))) | (refine wpQuiet_step (fun K hK => ?_); go_simp; split <;> (refine hK _ ?_; clear hK K))))
          all_goals (refine wpQuiet_nil ?_; rintro _ ⟨q1, rfl⟩)
          all_goals go_wp2
        · go_ret
          refine ⟨?_, q1.below⟩
          rw [← HR.out, hstep.out, HV.out]; rfl
        · go_roundw
          case rel => exact ⟨k + 1, x, by omega, by go_num, ⟨q1, rfl⟩, by have h1 := HR.out; rw [hstep.out, HV.out, decide_eq_true H0.out] at h1; exact h1, HN⟩
          case measure => simp [intOf]; omega
      · have c5 := HC.out h0
        have h0' : (0 : Int) < (k : Int) := by omega
        cases v
        all_goals
          go_wp2
          refine wp_region_since _ (by kernel_rfl) (by kernel_rfl) ?_
          repeat (any_goals (first | go_big_quiet_step ((go_at_call 32; refine calls_sameB HV (l1In_any x _ _ _))) | (refine wpQuiet_step (fun K hK => ?_); go_simp; split <;> (refine hK _ ?_; clear hK K))))
          all_goals (refine wpQuiet_nil ?_; rintro _ ⟨q1, rfl⟩)
          all_goals go_wp2
        · go_ret
          refine ⟨?_, q1.below⟩
          rw [← HR.out, hstep.out, HV.out]; rfl
        · go_ret
          refine ⟨?_, q1.below⟩
          have hm : x ≤ prev := by assumption
          rw [← HR.out, hstep.out, HV.out, decide_eq_false (by omega : ¬ k = 0), decide_eq_false (by omega : ¬ prev < x)]; rfl
        · have hm : prev < x := by assumption
          go_roundw
          case rel => exact ⟨k + 1, x, by omega, by go_num, ⟨q1, rfl⟩, by have h1 := HR.out; rw [hstep.out, HV.out, decide_eq_true hm, Bool.or_true] at h1; exact h1, HN⟩
          case measure => simp [intOf]; omega
    · clear hrd
      go_wp2
      go_ret
      refine ⟨?_, q.below⟩
      rw [← HR.out, List.drop_eq_nil_of_le (by omega)]; rfl

set_option maxHeartbeats 1000000 in
theorem ascending_any (A : Option Addr) (c : Nat) (l : List Int) (w : World) (h : IntsR w w.heap.size A l) :
    Calls Tryd.prog 40 #[.slice A l.length c] w fun e w' => e = .returned (.bool (asc l)) ∧ Below w.heap.size w w' := by
  have hl := h.big
  have hrd := h.ints
  cases l with
  | nil =>
    go_enter Tryd.func40, Tryd.ntmps40
    go_wp2
    refine wp_loop_rounds 1 ?_
    rw [rounds_succ]
    go_wp2
    go_ret
    exact ⟨rfl, Below.refl _ _⟩
  | cons y l =>
    have hF : Hid (ascFrom y ((y :: l).drop 1) = asc (y :: l)) := rfl
    have hy : Hid (∀ h' : 1 - 1 < (y :: l).length, y = (y :: l)[1 - 1]) := fun _ => rfl
    have hpos : 0 < (y :: l).length := by simp
    revert hF hy hpos hl hrd h
    generalize hm : (y :: l) = m
    clear hm
    intro h hl hrd hF hy hpos
    go_enter Tryd.func40, Tryd.ntmps40
    go_wp2
    go_loopw [3] (fun i wr => ∃ (k : Nat) (prev : Int), 1 ≤ k ∧ k ≤ m.length ∧ i = .int .i64 k ∧ (∃ q : Since w.heap.size w, wr = q.val) ∧ Hid (ascFrom prev (m.drop k) = asc m) ∧ Hid (∀ h' : k - 1 < m.length, prev = m[k - 1])) (fun i _ => m.length - (intOf i).toNat)
    case atStart => exact ⟨1, y, by omega, hpos, rfl, ⟨Since.start _ _, rfl⟩, hF, hy⟩
    case round =>
      obtain ⟨k, prev, hk1, hk, rfl, ⟨q, rfl⟩, HR, HP⟩ := hrel
      by_cases hlt : k < m.length
      · obtain ⟨b, off, rfl, hb, hcell⟩ := hrd (by omega)
        have c0 := hcell k hlt
        have c5 : ∀ p : Since w.heap.size w, p.val.cell? ⟨b, off + (k - 1), none⟩ = some (.int .i64 prev) := fun p => by
          rw [HP.out (by omega)]; exact hcell (k - 1) (by omega) p
        have hstep : Hid (ascFrom prev (m.drop k) = (decide (prev < m[k]) && ascFrom m[k] (m.drop (k + 1)))) := by
          rw [List.drop_eq_getElem_cons hlt]; rfl
        obtain ⟨x, hxe⟩ : ∃ x, x = m[k] := ⟨_, rfl⟩
        have HN : Hid (∀ h' : k + 1 - 1 < m.length, x = m[k + 1 - 1]) := fun _ => by rw [hxe]; rfl
        rw [← hxe] at c0 hstep
        clear hxe hcell hrd
        by_cases hle : prev < x
        · have HV : Hid (decide (prev < x) = true) := decide_eq_true hle
          go_wp2
          refine wp_region_since _ (by kernel_rfl) (by kernel_rfl) ?_
          repeat (any_goals (first | go_big_quiet_step ((fail)) | (refine wpQuiet_step (fun K hK => ?_); go_simp; split <;> (refine hK _ ?_; clear hK K))))
          all_goals (refine wpQuiet_nil ?_; rintro _ ⟨q1, rfl⟩)
          go_wp2
          go_roundw
          case rel => exact ⟨k + 1, x, by omega, by omega, by go_num, ⟨q1, rfl⟩, by have h1 := HR.out; rw [hstep.out, HV.out] at h1; exact h1, HN⟩
          case measure => simp [intOf]; omega
        · have HV : Hid (decide (prev < x) = false) := decide_eq_false hle
          go_wp2
          refine wp_region_since _ (by kernel_rfl) (by kernel_rfl) ?_
          repeat (any_goals (first | go_big_quiet_step ((fail)) | (refine wpQuiet_step (fun K hK => ?_); go_simp; split <;> (refine hK _ ?_; clear hK K))))
          all_goals (refine wpQuiet_nil ?_; rintro _ ⟨q1, rfl⟩)
          go_wp2
          go_ret
          refine ⟨?_, q1.below⟩
          rw [← HR.out, hstep.out, HV.out]; rfl
      · clear hrd
        go_wp2
        go_ret
        refine ⟨?_, q.below⟩
        rw [← HR.out, List.drop_eq_nil_of_le (by omega)]; rfl
end Go.Proofs.YtchkjiadnackaaaDoor

/- Numbers of texts: the reference's l1Read, the program's ParseInt. -/
namespace Go.Proofs.YtchkjiadnackaaaDoor
open Go.RowKit

theorem inr_iff {n lo hi : Int} : inR n lo hi = true ↔ lo ≤ n ∧ n ≤ hi := by simp [inR]
/-- Every number of which a text may tell. -/
theorem l1Num_all (n : Int) (w : World) (h0 : -1000000000 ≤ n) (h1 : n ≤ 1000000000) :
    Calls Tryd.prog 33 #[.int .i64 n] w fun e w' => e = .returned (.string ⟨(Lib.itoa n).toArray⟩) ∧ Below w.heap.size w w' := by
  by_cases hn : n < 0
  · have HC : Hid (∀ W : World, Calls Tryd.prog 33 #[.int .i64 (-n)] W fun e w' => e = .returned (.string ⟨(Lib.itoa (-n)).toArray⟩) ∧ Below W.heap.size W w') := fun W => l1Num_any (-n) W (by omega) (by omega)
    have HI : Hid (Lib.itoa n = 45 :: Lib.itoa (-n)) := by
      unfold Lib.itoa Hid
      rw [if_pos hn, if_neg (by omega), show n.natAbs = (-n).toNat by omega]
    have hz := itoa_len (n := -n) (by omega) (by omega)
    obtain ⟨t, ht⟩ : ∃ t : ByteArray, t = ⟨(Lib.itoa (-n)).toArray⟩ := ⟨_, rfl⟩
    rw [← ht] at HC hz
    have HT := Lib.hid ht
    clear ht
    have hw : IntKind.i64.wrap (-n) = -n := IntWalk.i64_in _ (by omega)
    go_enter Tryd.func33, Tryd.ntmps33
    go_wp2_with fail
    refine (HC.out _).mono ?_
    rintro e w1 ⟨rfl, hb⟩
    go_wp2_with fail
    go_ret
    refine ⟨?_, hb⟩
    rw [HI.out]
    congr 1
    rw [HT.out, ByteArray.mk_append_mk]; rfl
  · exact l1Num_any n w (by omega) h1
/-- What reading a number gives. -/
def GivesNum (s : ByteArray) (w : World) (e : Ending) (w' : World) : Prop := e = .returned (.tuple #[.int .i64 ((numF (bl s)).getD 0), .bool (numF (bl s)).isSome]) ∧ Below w.heap.size w w'
end Go.Proofs.YtchkjiadnackaaaDoor

/- Numbers of texts: the reference's l1Read, the program's ParseInt. (Printed by gen_read.py) -/
namespace Go.Proofs.YtchkjiadnackaaaDoor
open Go.RowKit

theorem str_beqL (a b : ByteArray) : (a.toList == b.toList) = decide (bl a = bl b) := by
  rw [ByteArray.toList_eq a, ByteArray.toList_eq b, Bool.eq_iff_iff]; simp [bl]
/-- t are the digits of s. -/
def TOf (s t : List UInt8) (neg : Bool) : Prop := (neg = true ∧ s = 45 :: t ∧ 1 ≤ t.length) ∨ (neg = false ∧ s = t ∧ (s.head? ≠ some 45 ∨ s.length ≤ 1))
theorem tof_num {s t : List UInt8} {neg : Bool} (h : TOf s t neg) {n : Int} (hq : numF s = some n) : 1 ≤ t.length ∧ t.length ≤ 6 ∧ Lib.decFrom 0 t = some n.natAbs ∧ n = (if neg = true then -(n.natAbs : Int) else (n.natAbs : Int)) := by
  obtain ⟨h6, e⟩ := numF_is hq
  rcases num_read h6 e with ⟨h1, t', h2, h3, h4, h5⟩ | ⟨h1, h2, h3, h4, h5⟩
  · rcases h with ⟨rfl, h7, h8⟩ | ⟨rfl, h7, h8⟩
    · rw [h2] at h7; injection h7 with _ h7; subst h7
      exact ⟨h3, h4, h5, by simp; omega⟩
    · exfalso
      rcases h8 with h8 | h8
      · rw [h2] at h8; exact h8 rfl
      · rw [h2] at h8; simp only [List.length_cons] at h8; omega
  · rcases h with ⟨rfl, h7, h8⟩ | ⟨rfl, h7, h8⟩
    · exfalso; rw [h7] at h2; exact h2 rfl
    · subst h7; exact ⟨h3, h4, h5, by simp; omega⟩

set_option maxRecDepth 100000 in
set_option maxHeartbeats 4000000 in
set_option linter.unusedVariables false in
theorem l1Read_any (s : ByteArray) (w : World) (hs : s.size ≤ 1000000000) :
    Calls Tryd.prog 22 #[.string s] w (GivesNum s w) := by
  by_cases hsz : 1 < s.size
  · have hi : (1 : Int) < (s.size : Int) := by omega
    by_cases h45 : s[0].toNat = 45
    · have hT : TOf (bl s) (bl (s.extract 1 s.size)) true := by
        refine .inl ⟨rfl, ?_, ?_⟩
        · have h1 := bl_drop (s := s) (k := 0) (by omega)
          rw [bl_extract, List.take_of_length_le (by rw [bl_size]; exact Nat.le_refl _)]
          have h2 : s[0] = 45 := UInt8.toNat_inj.1 h45
          rw [List.drop_zero, h2] at h1; exact h1
        · rw [bl_extract, List.length_drop, List.length_take, bl_size]; omega
      obtain ⟨t, ht⟩ : ∃ t, s.extract 1 s.size = t := ⟨_, rfl⟩
      have hts : t.size + 1 = s.size := by rw [← ht, ← bl_size, bl_extract, List.length_drop, List.length_take, bl_size]; omega
      rw [ht] at hT
      have hq : ((s[0].toNat : Int) == 45) = true := by simp; omega
      have HT45 := Lib.hid h45
      clear h45
      go_enter Tryd.func22, Tryd.ntmps22
      go_upto_region 4 with fail
      clear ht
      by_cases hlen : 1 ≤ t.size ∧ t.size ≤ 6
      · obtain ⟨hl1, hl6⟩ := hlen
        have HT := Lib.hid hT
        clear hT
        have i1 : (1 : Int) ≤ (t.size : Int) := by omega
        have i6 : (t.size : Int) ≤ 6 := by omega
        have hin : inR (t.size : Int) 1 6 = true := inr_iff.2 ⟨i1, i6⟩
        go_wp2_with fail
        refine (l1In_any _ _ _ _).mono ?_
        rintro e w' ⟨rfl, rfl⟩
        rw [hin]
        clear hin
        go_wp2_with fail
        go_loopw [5, 6] (fun m i wr => ∃ (k acc : Nat), k ≤ t.size ∧ i = .int .i64 k ∧ m = .int .i64 acc ∧ acc < 1000000 ∧ w = wr ∧ Hid (Lib.decFrom 0 ((bl t).take k) = some acc)) (fun _ i _ => t.size - (intOf i).toNat)
        case atStart => exact ⟨0, 0, Nat.zero_le _, rfl, rfl, by omega, rfl, by simp [Lib.decFrom, Hid]⟩
        case round =>
          obtain ⟨k, acc, hk, rfl, rfl, hacc, rfl, HD⟩ := hrel
          by_cases hlt : k < t.size
          · by_cases hd : 48 ≤ t[k].toNat ∧ t[k].toNat ≤ 57
            · obtain ⟨hd1, hd2⟩ := hd
              have HST : Hid (Lib.decFrom 0 ((bl t).take (k + 1)) = some (acc * 10 + (t[k].toNat - 48))) :=
                Lib.decFrom_take (bl t) k 0 acc t[k] (t[k].toNat - 48) HD.out (List.getElem?_eq_getElem (l := bl t) hlt) (by unfold Lib.digitVal; rw [if_pos ⟨hd1, hd2⟩])
              have hacc2 : acc * 10 + (t[k].toNat - 48) < 1000000 := by
                have h1 := Lib.decFrom_lt _ _ _ HST.out
                have h2 : ((bl t).take (k + 1)).length ≤ 6 := by rw [List.length_take]; omega
                have h3 := Nat.pow_le_pow_right (show 0 < 10 by omega) h2
                omega
              have j1 : (48 : Int) ≤ (t[k].toNat : Int) := by omega
              have j2 : (t[k].toNat : Int) ≤ 57 := by omega
              have j3 : IntKind.u8.wrap ((t[k].toNat : Int) - 48) = (t[k].toNat : Int) - 48 := IntWalk.u8_in _ (by omega)
              have j4 : IntKind.i64.wrap ((t[k].toNat : Int) - 48) = (t[k].toNat : Int) - 48 := IntWalk.i64_in _ (by omega)
              have j5 : IntKind.i64.wrap (10 * (acc : Int)) = 10 * (acc : Int) := IntWalk.i64_in _ (by omega)
              have j6 : IntKind.i64.wrap (10 * (acc : Int) + ((t[k].toNat : Int) - 48)) = 10 * (acc : Int) + ((t[k].toNat : Int) - 48) := IntWalk.i64_in _ (by omega)
              clear HD hacc
              go_wp2_with fail
              go_roundw
              case rel => exact ⟨k + 1, acc * 10 + (t[k].toNat - 48), by omega, by go_num, by go_num, hacc2, by first | trivial | rfl, HST⟩
              case measure => simp [intOf] <;> omega
            · have HZ : Hid (numF (bl s) = none) := by
                cases hq : numF (bl s) with
                | none => rfl
                | some n =>
                  exfalso
                  obtain ⟨_, _, h3, _⟩ := tof_num HT.out hq
                  obtain ⟨d, hdd⟩ := Lib.digit_of_decFrom _ _ _ h3 k t[k] (List.getElem?_eq_getElem (l := bl t) hlt)
                  have := Lib.digitVal_eq hdd
                  omega
              by_cases h48 : t[k].toNat < 48
              · have j1 : (t[k].toNat : Int) < 48 := by omega
                clear hd
                go_wp2_with fail
                go_ret2
                exact ⟨by rw [HZ.out]; rfl, Below.refl _ _⟩
              · have j1 : ¬ (t[k].toNat : Int) < 48 := by omega
                have j2 : (57 : Int) < (t[k].toNat : Int) := by omega
                clear hd h48
                go_wp2_with fail
                go_ret2
                exact ⟨by rw [HZ.out]; rfl, Below.refl _ _⟩
          · obtain rfl : k = t.size := by omega
            have HF : Hid (Lib.decFrom 0 (bl t) = some acc) := by
              have h1 := HD.out
              rw [List.take_of_length_le (by rw [bl_size]; exact Nat.le_refl _)] at h1; exact h1
            clear hlt HD
            have HNUM : Hid (∀ W : World, Calls Tryd.prog 33 #[.int .i64 (-(acc : Int))] W fun e w' => e = .returned (.string ⟨(Lib.itoa (-(acc : Int))).toArray⟩) ∧ Below W.heap.size W w') := fun W => l1Num_all (-(acc : Int)) W (by omega) (by omega)
            obtain ⟨nt, hnt⟩ : ∃ x : ByteArray, x = ⟨(Lib.itoa (-(acc : Int))).toArray⟩ := ⟨_, rfl⟩
            have hbn : bl nt = Lib.itoa (-(acc : Int)) := by rw [hnt, bl_mk]
            rw [← hnt] at HNUM
            clear hnt
            have j7 : IntKind.i64.wrap (-(acc : Int)) = -(acc : Int) := IntWalk.i64_in _ (by omega)
            have j8 : (t.size : Int) < (s.size : Int) := by omega
            by_cases hs : Lib.itoa (-(acc : Int)) = bl s
            · have HZ : Hid (numF (bl s) = some (-(acc : Int))) := numF_eq ⟨by omega, by omega⟩ hs
              have hb : (nt.toList == s.toList) = true := by rw [str_beqL, hbn, hs]; simp
              clear hs hbn
              go_wp2_with fail
              refine (HNUM.out _).mono ?_
              rintro e w1 ⟨rfl, hb1⟩
              go_wp2_with fail
              go_ret2
              exact ⟨by rw [HZ.out]; rfl, hb1⟩
            · have HZ : Hid (numF (bl s) = none) := by
                cases hq : numF (bl s) with
                | none => rfl
                | some n =>
                  exfalso
                  obtain ⟨_, _, h3, h4⟩ := tof_num HT.out hq
                  rw [HF.out] at h3
                  injection h3 with h3
                  have h5 : n = -(acc : Int) := by rw [h4]; simp; omega
                  rw [← h5] at hs
                  exact hs (numF_is hq).2
              have hb : (nt.toList == s.toList) = false := by rw [str_beqL, hbn]; simp [hs]
              clear hs hbn
              go_wp2_with fail
              refine (HNUM.out _).mono ?_
              rintro e w1 ⟨rfl, hb1⟩
              go_wp2_with fail
              go_ret2
              exact ⟨by rw [HZ.out]; rfl, hb1⟩
      · have HZ : Hid (numF (bl s) = none) := by
          cases hq : numF (bl s) with
          | none => rfl
          | some n =>
            exfalso
            obtain ⟨h1, h2, _⟩ := tof_num hT hq
            rw [bl_size] at h1 h2
            exact hlen ⟨h1, h2⟩
        have hin : inR (t.size : Int) 1 6 = false := by
          rw [← Bool.not_eq_true, inr_iff]; omega
        clear hlen
        go_wp2_with fail
        refine (l1In_any _ _ _ _).mono ?_
        rintro e w' ⟨rfl, rfl⟩
        rw [hin]
        clear hin
        go_wp2_with fail
        go_ret2
        exact ⟨by rw [HZ.out]; rfl, Below.refl _ _⟩
    · have hT : TOf (bl s) (bl s) false := by
        refine .inr ⟨rfl, rfl, .inl fun h => h45 ?_⟩
        have h1 := bl_drop (s := s) (k := 0) (by omega)
        rw [List.drop_zero] at h1
        rw [h1] at h
        simp only [List.head?_cons, Option.some.injEq] at h
        rw [h]; rfl
      have hq : ((s[0].toNat : Int) == 45) = false := by rw [beq_eq_false_iff_ne]; omega
      clear h45
      go_enter Tryd.func22, Tryd.ntmps22
      go_upto_region 4 with fail
      by_cases hlen : 1 ≤ s.size ∧ s.size ≤ 6
      · obtain ⟨hl1, hl6⟩ := hlen
        have HT := Lib.hid hT
        clear hT
        have i1 : (1 : Int) ≤ (s.size : Int) := by omega
        have i6 : (s.size : Int) ≤ 6 := by omega
        have hin : inR (s.size : Int) 1 6 = true := inr_iff.2 ⟨i1, i6⟩
        go_wp2_with fail
        refine (l1In_any _ _ _ _).mono ?_
        rintro e w' ⟨rfl, rfl⟩
        rw [hin]
        clear hin
        go_wp2_with fail
        go_loopw [5, 6] (fun m i wr => ∃ (k acc : Nat), k ≤ s.size ∧ i = .int .i64 k ∧ m = .int .i64 acc ∧ acc < 1000000 ∧ w = wr ∧ Hid (Lib.decFrom 0 ((bl s).take k) = some acc)) (fun _ i _ => s.size - (intOf i).toNat)
        case atStart => exact ⟨0, 0, Nat.zero_le _, rfl, rfl, by omega, rfl, by simp [Lib.decFrom, Hid]⟩
        case round =>
          obtain ⟨k, acc, hk, rfl, rfl, hacc, rfl, HD⟩ := hrel
          by_cases hlt : k < s.size
          · by_cases hd : 48 ≤ s[k].toNat ∧ s[k].toNat ≤ 57
            · obtain ⟨hd1, hd2⟩ := hd
              have HST : Hid (Lib.decFrom 0 ((bl s).take (k + 1)) = some (acc * 10 + (s[k].toNat - 48))) :=
                Lib.decFrom_take (bl s) k 0 acc s[k] (s[k].toNat - 48) HD.out (List.getElem?_eq_getElem (l := bl s) hlt) (by unfold Lib.digitVal; rw [if_pos ⟨hd1, hd2⟩])
              have hacc2 : acc * 10 + (s[k].toNat - 48) < 1000000 := by
                have h1 := Lib.decFrom_lt _ _ _ HST.out
                have h2 : ((bl s).take (k + 1)).length ≤ 6 := by rw [List.length_take]; omega
                have h3 := Nat.pow_le_pow_right (show 0 < 10 by omega) h2
                omega
              have j1 : (48 : Int) ≤ (s[k].toNat : Int) := by omega
              have j2 : (s[k].toNat : Int) ≤ 57 := by omega
              have j3 : IntKind.u8.wrap ((s[k].toNat : Int) - 48) = (s[k].toNat : Int) - 48 := IntWalk.u8_in _ (by omega)
              have j4 : IntKind.i64.wrap ((s[k].toNat : Int) - 48) = (s[k].toNat : Int) - 48 := IntWalk.i64_in _ (by omega)
              have j5 : IntKind.i64.wrap (10 * (acc : Int)) = 10 * (acc : Int) := IntWalk.i64_in _ (by omega)
              have j6 : IntKind.i64.wrap (10 * (acc : Int) + ((s[k].toNat : Int) - 48)) = 10 * (acc : Int) + ((s[k].toNat : Int) - 48) := IntWalk.i64_in _ (by omega)
              clear HD hacc
              go_wp2_with fail
              go_roundw
              case rel => exact ⟨k + 1, acc * 10 + (s[k].toNat - 48), by omega, by go_num, by go_num, hacc2, by first | trivial | rfl, HST⟩
              case measure => simp [intOf] <;> omega
            · have HZ : Hid (numF (bl s) = none) := by
                cases hq : numF (bl s) with
                | none => rfl
                | some n =>
                  exfalso
                  obtain ⟨_, _, h3, _⟩ := tof_num HT.out hq
                  obtain ⟨d, hdd⟩ := Lib.digit_of_decFrom _ _ _ h3 k s[k] (List.getElem?_eq_getElem (l := bl s) hlt)
                  have := Lib.digitVal_eq hdd
                  omega
              by_cases h48 : s[k].toNat < 48
              · have j1 : (s[k].toNat : Int) < 48 := by omega
                clear hd
                go_wp2_with fail
                go_ret2
                exact ⟨by rw [HZ.out]; rfl, Below.refl _ _⟩
              · have j1 : ¬ (s[k].toNat : Int) < 48 := by omega
                have j2 : (57 : Int) < (s[k].toNat : Int) := by omega
                clear hd h48
                go_wp2_with fail
                go_ret2
                exact ⟨by rw [HZ.out]; rfl, Below.refl _ _⟩
          · obtain rfl : k = s.size := by omega
            have HF : Hid (Lib.decFrom 0 (bl s) = some acc) := by
              have h1 := HD.out
              rw [List.take_of_length_le (by rw [bl_size]; exact Nat.le_refl _)] at h1; exact h1
            clear hlt HD
            have HNUM : Hid (∀ W : World, Calls Tryd.prog 33 #[.int .i64 ((acc : Int))] W fun e w' => e = .returned (.string ⟨(Lib.itoa ((acc : Int))).toArray⟩) ∧ Below W.heap.size W w') := fun W => l1Num_all ((acc : Int)) W (by omega) (by omega)
            obtain ⟨nt, hnt⟩ : ∃ x : ByteArray, x = ⟨(Lib.itoa ((acc : Int))).toArray⟩ := ⟨_, rfl⟩
            have hbn : bl nt = Lib.itoa ((acc : Int)) := by rw [hnt, bl_mk]
            rw [← hnt] at HNUM
            clear hnt
            have j7 : IntKind.i64.wrap (-(acc : Int)) = -(acc : Int) := IntWalk.i64_in _ (by omega)
            have j8 : True := trivial
            by_cases hs : Lib.itoa ((acc : Int)) = bl s
            · have HZ : Hid (numF (bl s) = some ((acc : Int))) := numF_eq ⟨by omega, by omega⟩ hs
              have hb : (nt.toList == s.toList) = true := by rw [str_beqL, hbn, hs]; simp
              clear hs hbn
              go_wp2_with fail
              refine (HNUM.out _).mono ?_
              rintro e w1 ⟨rfl, hb1⟩
              go_wp2_with fail
              go_ret2
              exact ⟨by rw [HZ.out]; rfl, hb1⟩
            · have HZ : Hid (numF (bl s) = none) := by
                cases hq : numF (bl s) with
                | none => rfl
                | some n =>
                  exfalso
                  obtain ⟨_, _, h3, h4⟩ := tof_num HT.out hq
                  rw [HF.out] at h3
                  injection h3 with h3
                  have h5 : n = (acc : Int) := by rw [h4]; simp; omega
                  rw [← h5] at hs
                  exact hs (numF_is hq).2
              have hb : (nt.toList == s.toList) = false := by rw [str_beqL, hbn]; simp [hs]
              clear hs hbn
              go_wp2_with fail
              refine (HNUM.out _).mono ?_
              rintro e w1 ⟨rfl, hb1⟩
              go_wp2_with fail
              go_ret2
              exact ⟨by rw [HZ.out]; rfl, hb1⟩
      · have HZ : Hid (numF (bl s) = none) := by
          cases hq : numF (bl s) with
          | none => rfl
          | some n =>
            exfalso
            obtain ⟨h1, h2, _⟩ := tof_num hT hq
            rw [bl_size] at h1 h2
            exact hlen ⟨h1, h2⟩
        have hin : inR (s.size : Int) 1 6 = false := by
          rw [← Bool.not_eq_true, inr_iff]; omega
        clear hlen
        go_wp2_with fail
        refine (l1In_any _ _ _ _).mono ?_
        rintro e w' ⟨rfl, rfl⟩
        rw [hin]
        clear hin
        go_wp2_with fail
        go_ret2
        exact ⟨by rw [HZ.out]; rfl, Below.refl _ _⟩
  · have hi : ¬ (1 : Int) < (s.size : Int) := by omega
    have hT : TOf (bl s) (bl s) false := .inr ⟨rfl, rfl, .inr (by rw [bl_size]; omega)⟩
    go_enter Tryd.func22, Tryd.ntmps22
    go_upto_region 4 with fail
    by_cases hlen : 1 ≤ s.size ∧ s.size ≤ 6
    · obtain ⟨hl1, hl6⟩ := hlen
      have HT := Lib.hid hT
      clear hT
      have i1 : (1 : Int) ≤ (s.size : Int) := by omega
      have i6 : (s.size : Int) ≤ 6 := by omega
      have hin : inR (s.size : Int) 1 6 = true := inr_iff.2 ⟨i1, i6⟩
      go_wp2_with fail
      refine (l1In_any _ _ _ _).mono ?_
      rintro e w' ⟨rfl, rfl⟩
      rw [hin]
      clear hin
      go_wp2_with fail
      go_loopw [5, 6] (fun m i wr => ∃ (k acc : Nat), k ≤ s.size ∧ i = .int .i64 k ∧ m = .int .i64 acc ∧ acc < 1000000 ∧ w = wr ∧ Hid (Lib.decFrom 0 ((bl s).take k) = some acc)) (fun _ i _ => s.size - (intOf i).toNat)
      case atStart => exact ⟨0, 0, Nat.zero_le _, rfl, rfl, by omega, rfl, by simp [Lib.decFrom, Hid]⟩
      case round =>
        obtain ⟨k, acc, hk, rfl, rfl, hacc, rfl, HD⟩ := hrel
        by_cases hlt : k < s.size
        · by_cases hd : 48 ≤ s[k].toNat ∧ s[k].toNat ≤ 57
          · obtain ⟨hd1, hd2⟩ := hd
            have HST : Hid (Lib.decFrom 0 ((bl s).take (k + 1)) = some (acc * 10 + (s[k].toNat - 48))) :=
              Lib.decFrom_take (bl s) k 0 acc s[k] (s[k].toNat - 48) HD.out (List.getElem?_eq_getElem (l := bl s) hlt) (by unfold Lib.digitVal; rw [if_pos ⟨hd1, hd2⟩])
            have hacc2 : acc * 10 + (s[k].toNat - 48) < 1000000 := by
              have h1 := Lib.decFrom_lt _ _ _ HST.out
              have h2 : ((bl s).take (k + 1)).length ≤ 6 := by rw [List.length_take]; omega
              have h3 := Nat.pow_le_pow_right (show 0 < 10 by omega) h2
              omega
            have j1 : (48 : Int) ≤ (s[k].toNat : Int) := by omega
            have j2 : (s[k].toNat : Int) ≤ 57 := by omega
            have j3 : IntKind.u8.wrap ((s[k].toNat : Int) - 48) = (s[k].toNat : Int) - 48 := IntWalk.u8_in _ (by omega)
            have j4 : IntKind.i64.wrap ((s[k].toNat : Int) - 48) = (s[k].toNat : Int) - 48 := IntWalk.i64_in _ (by omega)
            have j5 : IntKind.i64.wrap (10 * (acc : Int)) = 10 * (acc : Int) := IntWalk.i64_in _ (by omega)
            have j6 : IntKind.i64.wrap (10 * (acc : Int) + ((s[k].toNat : Int) - 48)) = 10 * (acc : Int) + ((s[k].toNat : Int) - 48) := IntWalk.i64_in _ (by omega)
            clear HD hacc
            go_wp2_with fail
            go_roundw
            case rel => exact ⟨k + 1, acc * 10 + (s[k].toNat - 48), by omega, by go_num, by go_num, hacc2, by first | trivial | rfl, HST⟩
            case measure => simp [intOf] <;> omega
          · have HZ : Hid (numF (bl s) = none) := by
              cases hq : numF (bl s) with
              | none => rfl
              | some n =>
                exfalso
                obtain ⟨_, _, h3, _⟩ := tof_num HT.out hq
                obtain ⟨d, hdd⟩ := Lib.digit_of_decFrom _ _ _ h3 k s[k] (List.getElem?_eq_getElem (l := bl s) hlt)
                have := Lib.digitVal_eq hdd
                omega
            by_cases h48 : s[k].toNat < 48
            · have j1 : (s[k].toNat : Int) < 48 := by omega
              clear hd
              go_wp2_with fail
              go_ret2
              exact ⟨by rw [HZ.out]; rfl, Below.refl _ _⟩
            · have j1 : ¬ (s[k].toNat : Int) < 48 := by omega
              have j2 : (57 : Int) < (s[k].toNat : Int) := by omega
              clear hd h48
              go_wp2_with fail
              go_ret2
              exact ⟨by rw [HZ.out]; rfl, Below.refl _ _⟩
        · obtain rfl : k = s.size := by omega
          have HF : Hid (Lib.decFrom 0 (bl s) = some acc) := by
            have h1 := HD.out
            rw [List.take_of_length_le (by rw [bl_size]; exact Nat.le_refl _)] at h1; exact h1
          clear hlt HD
          have HNUM : Hid (∀ W : World, Calls Tryd.prog 33 #[.int .i64 ((acc : Int))] W fun e w' => e = .returned (.string ⟨(Lib.itoa ((acc : Int))).toArray⟩) ∧ Below W.heap.size W w') := fun W => l1Num_all ((acc : Int)) W (by omega) (by omega)
          obtain ⟨nt, hnt⟩ : ∃ x : ByteArray, x = ⟨(Lib.itoa ((acc : Int))).toArray⟩ := ⟨_, rfl⟩
          have hbn : bl nt = Lib.itoa ((acc : Int)) := by rw [hnt, bl_mk]
          rw [← hnt] at HNUM
          clear hnt
          have j7 : IntKind.i64.wrap (-(acc : Int)) = -(acc : Int) := IntWalk.i64_in _ (by omega)
          have j8 : True := trivial
          by_cases hs : Lib.itoa ((acc : Int)) = bl s
          · have HZ : Hid (numF (bl s) = some ((acc : Int))) := numF_eq ⟨by omega, by omega⟩ hs
            have hb : (nt.toList == s.toList) = true := by rw [str_beqL, hbn, hs]; simp
            clear hs hbn
            go_wp2_with fail
            refine (HNUM.out _).mono ?_
            rintro e w1 ⟨rfl, hb1⟩
            go_wp2_with fail
            go_ret2
            exact ⟨by rw [HZ.out]; rfl, hb1⟩
          · have HZ : Hid (numF (bl s) = none) := by
              cases hq : numF (bl s) with
              | none => rfl
              | some n =>
                exfalso
                obtain ⟨_, _, h3, h4⟩ := tof_num HT.out hq
                rw [HF.out] at h3
                injection h3 with h3
                have h5 : n = (acc : Int) := by rw [h4]; simp; omega
                rw [← h5] at hs
                exact hs (numF_is hq).2
            have hb : (nt.toList == s.toList) = false := by rw [str_beqL, hbn]; simp [hs]
            clear hs hbn
            go_wp2_with fail
            refine (HNUM.out _).mono ?_
            rintro e w1 ⟨rfl, hb1⟩
            go_wp2_with fail
            go_ret2
            exact ⟨by rw [HZ.out]; rfl, hb1⟩
    · have HZ : Hid (numF (bl s) = none) := by
        cases hq : numF (bl s) with
        | none => rfl
        | some n =>
          exfalso
          obtain ⟨h1, h2, _⟩ := tof_num hT hq
          rw [bl_size] at h1 h2
          exact hlen ⟨h1, h2⟩
      have hin : inR (s.size : Int) 1 6 = false := by
        rw [← Bool.not_eq_true, inr_iff]; omega
      clear hlen
      go_wp2_with fail
      refine (l1In_any _ _ _ _).mono ?_
      rintro e w' ⟨rfl, rfl⟩
      rw [hin]
      clear hin
      go_wp2_with fail
      go_ret2
      exact ⟨by rw [HZ.out]; rfl, Below.refl _ _⟩
end Go.Proofs.YtchkjiadnackaaaDoor

/- Numbers of texts: the program's ParseInt. -/
namespace Go.Proofs.YtchkjiadnackaaaDoor
open Go.RowKit

theorem num_atoi {s : List UInt8} {n : Int} (h : numF s = some n) : Lib.atoiAll s = .ok n := by
  obtain ⟨h1, h2⟩ := numF_is h
  rw [← h2]; exact atoiAll_six h1

set_option maxHeartbeats 2000000 in
set_option linter.unusedVariables false in
theorem parseInt_any (s : ByteArray) (w : World) (hs : s.size ≤ 1000000000) (hL : LW w) :
    Calls Tryd.prog 26 #[.string s] w (GivesNum s w) := by
  rcases ha : Lib.atoiAll s.data.toList with v | _ | _
  · skip
    obtain ⟨v0, v1⟩ := Lib.atoiAll_bounds ha
    have HA := Lib.hid (Tryd.strconv_Atoi_ok s (by omega) v ha w)
    have hv : ∀ n, numF (bl s) = some n → n = v := fun n hn => by
      have h1 := num_atoi hn
      have h2 : Lib.atoiAll (bl s) = .ok v := ha
      rw [h2] at h1; injection h1 with h1; exact h1.symm
    by_cases hr : inR v (-999999) 999999 = true
    · have hr2 := inr_iff.1 hr
      have HI : Hid (∀ W, Tab W → Calls Tryd.prog 38 #[.int .i64 v] W fun e w' => e = .returned (.string ⟨(Lib.itoa v).toArray⟩) ∧ Below W.heap.size W w') := fun W hW => itoa_any v W v0 v1 hW
      obtain ⟨nt, hnt⟩ : ∃ x : ByteArray, x = ⟨(Lib.itoa v).toArray⟩ := ⟨_, rfl⟩
      have hbn : bl nt = Lib.itoa v := by rw [hnt, bl_mk]
      rw [← hnt] at HI
      clear hnt
      have HZ : Hid ((nt.toList == s.toList) = (numF (bl s)).isSome ∧ ((nt.toList == s.toList) = true → numF (bl s) = some v) ∧ ((nt.toList == s.toList) = false → numF (bl s) = none)) := by
        rw [str_beqL, hbn]
        by_cases hq : Lib.itoa v = bl s
        · have h1 := numF_eq (n := v) ⟨by omega, by omega⟩ hq
          rw [h1]; simp [hq, Hid]
        · have h1 : numF (bl s) = none := by
            cases hq2 : numF (bl s) with
            | none => rfl
            | some n => exfalso; have h2 := hv n hq2; subst h2; exact hq (numF_is hq2).2
          rw [h1]; simp [hq, Hid]
      clear hbn hv
      obtain ⟨bb, hbb⟩ : ∃ b : Bool, (nt.toList == s.toList) = b := ⟨_, rfl⟩
      rw [hbb] at HZ
      have fin : ∀ w2, Below w.heap.size w w2 → Hid (LW w2) := fun w2 h2 => hL.then h2
      go_enter Tryd.func26, Tryd.ntmps26
      go_wp2_with fail
      refine HA.out.mono ?_
      rintro e w1 ⟨rfl, hw1⟩
      have hb1 : Below w.heap.size w w1 := by
        rcases hw1 with rfl | ⟨t, rfl⟩
        · exact Below.refl _ _
        · exact Lib.bytesWorld_below _ _ _
      have HL1 := fin w1 hb1
      clear hw1 fin
      go_wp2_with fail
      refine (inRange_any _ _ _ _).mono ?_
      rintro e w' ⟨rfl, rfl⟩
      rw [hr]
      go_wp2_with fail
      refine (HI.out _ HL1.out.tab).mono ?_
      rintro e w2 ⟨rfl, hb2⟩
      have HB := Lib.hid (bthen hb1 hb2)
      clear hb1 hb2 HL1
      cases bb
      · go_wp2_with fail
        go_ret2
        exact ⟨by rw [HZ.out.2.2 (by first | trivial | rfl)]; rfl, HB.out⟩
      · go_wp2_with fail
        go_ret2
        exact ⟨by rw [HZ.out.2.1 (by first | trivial | rfl)]; rfl, HB.out⟩
    · have HZ : Hid (numF (bl s) = none) := by
        cases hq : numF (bl s) with
        | none => rfl
        | some n =>
          exfalso
          have h2 := hv n hq; subst h2
          obtain ⟨h3, _⟩ := numF_is hq
          exact hr (inr_iff.2 ⟨h3.1, h3.2⟩)
      have hr' : inR v (-999999) 999999 = false := by simpa using hr
      clear hv hr
      go_enter Tryd.func26, Tryd.ntmps26
      go_wp2_with fail
      refine HA.out.mono ?_
      rintro e w1 ⟨rfl, hw1⟩
      have hb1 : Below w.heap.size w w1 := by
        rcases hw1 with rfl | ⟨t, rfl⟩
        · exact Below.refl _ _
        · exact Lib.bytesWorld_below _ _ _
      clear hw1
      go_wp2_with fail
      refine (inRange_any _ _ _ _).mono ?_
      rintro e w' ⟨rfl, rfl⟩
      rw [hr']
      go_wp2_with fail
      go_ret2
      exact ⟨by rw [HZ.out]; rfl, hb1⟩
  · skip
    have HZ : Hid (numF (bl s) = none) := by
      cases hq : numF (bl s) with
      | none => rfl
      | some n => exfalso; have h1 := num_atoi hq; rw [show Lib.atoiAll (bl s) = _ from ha] at h1; cases h1
    obtain ⟨ev, he1, he2⟩ := hL.syn
    have HA := Lib.hid (Tryd.strconv_Atoi_syntax s (by omega) ha ev w he1 he2)
    clear he1 he2
    go_enter Tryd.func26, Tryd.ntmps26
    go_wp2_with fail
    refine HA.out.mono ?_
    rintro e w1 ⟨N, rfl, _, _, hb1⟩
    go_wp2_with fail
    go_ret2
    exact ⟨by rw [HZ.out]; rfl, hb1⟩
  · skip
    have HZ : Hid (numF (bl s) = none) := by
      cases hq : numF (bl s) with
      | none => rfl
      | some n => exfalso; have h1 := num_atoi hq; rw [show Lib.atoiAll (bl s) = _ from ha] at h1; cases h1
    obtain ⟨ev, he1, he2⟩ := hL.rng
    have HA := Lib.hid (Tryd.strconv_Atoi_range s (by omega) ha ev w he1 he2)
    clear he1 he2
    go_enter Tryd.func26, Tryd.ntmps26
    go_wp2_with fail
    refine HA.out.mono ?_
    rintro e w1 ⟨N, rfl, _, _, hb1⟩
    go_wp2_with fail
    go_ret2
    exact ⟨by rw [HZ.out]; rfl, hb1⟩
end Go.Proofs.YtchkjiadnackaaaDoor

/- The words of a short text (plain). -/
namespace Go.Proofs.YtchkjiadnackaaaDoor

def markT (s : Int) : List UInt8 := if s = 1 then [42, 42] else if s = 2 then [42] else [111]
def copT (c : Int) : List UInt8 := if 1 < c then 40 :: Lib.itoa c ++ [41] else []
def fauT : List Int → List UInt8
  | [] => []
  | f :: l => 33 :: Lib.itoa f ++ fauT l
def priT (p : Int) : List UInt8 := if 0 < p then 61 :: Lib.itoa p else []
end Go.Proofs.YtchkjiadnackaaaDoor

/- Two worlds that differ in some blocks alone; marks in a row; the place of the first (no program's own function in sight). -/
namespace Go.Proofs.YtchkjiadnackaaaDoor
open Go.RowKit

/-- Between two worlds only blocks from lo on and below hi have turned; new ones may lie behind. -/
structure Mid (lo hi : Nat) (w w' : World) : Prop where
  os : w'.os = w.os
  tape : w'.tape = w.tape
  output : w'.output = w.output
  size : w.heap.size ≤ w'.heap.size
  block : ∀ k, k < w.heap.size → (k < lo ∨ hi ≤ k) → w'.heap[k]? = w.heap[k]?
theorem Mid.refl (lo hi : Nat) (w : World) : Mid lo hi w w := ⟨rfl, rfl, rfl, Nat.le_refl _, fun _ _ _ => rfl⟩
theorem Mid.trans {lo hi : Nat} {a b c : World} (h : Mid lo hi a b) (k : Mid lo hi b c) : Mid lo hi a c :=
  ⟨k.os.trans h.os, k.tape.trans h.tape, k.output.trans h.output, Nat.le_trans h.size k.size, fun i hi ho => (k.block i (Nat.lt_of_lt_of_le hi h.size) ho).trans (h.block i hi ho)⟩
theorem Mid.of {lo hi : Nat} {a b : World} {row : Option Nat} (h : a.grownBy b row) (hr : ∀ g, row = some g → lo ≤ g ∧ g < hi) : Mid lo hi a b :=
  ⟨h.os, h.tape, h.output, h.size, fun k hk ho => h.block k hk (fun e => by have := hr k e.symm; omega)⟩
theorem Mid.below {lo hi : Nat} {a b : World} (h : Mid lo hi a b) (hlo : lo ≤ a.heap.size) : Below lo a b :=
  ⟨h.os, h.tape, h.output, h.size, fun k hk => h.block k (by omega) (.inl hk)⟩
theorem Mid.lies {lo hi : Nat} {a b : World} (h : Mid lo hi a b) {g : Nat} {t : TypeId} {cs : List Value} (hL : Lies a g t cs) (ho : g < lo ∨ hi ≤ g) : Lies b g t cs := (h.block g hL.lt ho).trans hL
theorem Mid.own {lo hi : Nat} {a b : World} (h : Mid lo hi a b) {B : Nat} {t : TypeId} {k : Nat} {A : Option Addr} {n : Nat} {cs : List Value} (hO : OwnS a B t k A n cs) (hB : hi ≤ B) : OwnS b B t k A n cs := by
  obtain ⟨hl, hn, h0 | ⟨g', rest, hA, hg', hh⟩⟩ := hO
  · exact ⟨hl, hn, .inl h0⟩
  · exact ⟨hl, hn, .inr ⟨g', rest, hA, hg', h.lies hh (.inr (by omega))⟩⟩

theorem at_behind {α : Type} {a r : List α} {n : Nat} (h : a.length = n) (i : Nat) : (a ++ r)[n + i]? = r[i]? := by
  rw [List.getElem?_append_right (by omega), h, Nat.add_sub_cancel_left]
theorem set_behind {α : Type} {a r : List α} {n : Nat} (h : a.length = n) (i : Nat) (u : α) : (a ++ r).set (n + i) u = a ++ r.set i u := by
  subst h; rw [List.set_append_right _ _ (by omega), Nat.add_sub_cancel_left]

theorem split_2 {α : Type} {l : List α} (h : 2 ≤ l.length) : ∃ a0 a1 r, l = a0 :: a1 :: r := by
  match l, h with
  | a0 :: a1 :: r, _ => exact ⟨a0, a1, r, rfl⟩
theorem split_3 {α : Type} {l : List α} (h : 3 ≤ l.length) : ∃ a0 a1 a2 r, l = a0 :: a1 :: a2 :: r := by
  match l, h with
  | a0 :: a1 :: a2 :: r, _ => exact ⟨a0, a1, a2, r, rfl⟩
theorem split_4 {α : Type} {l : List α} (h : 4 ≤ l.length) : ∃ a0 a1 a2 a3 r, l = a0 :: a1 :: a2 :: a3 :: r := by
  match l, h with
  | a0 :: a1 :: a2 :: a3 :: r, _ => exact ⟨a0, a1, a2, a3, r, rfl⟩
theorem split_5 {α : Type} {l : List α} (h : 5 ≤ l.length) : ∃ a0 a1 a2 a3 a4 r, l = a0 :: a1 :: a2 :: a3 :: a4 :: r := by
  match l, h with
  | a0 :: a1 :: a2 :: a3 :: a4 :: r, _ => exact ⟨a0, a1, a2, a3, a4, r, rfl⟩
theorem enc_ramp_at {k0 : Int} {n i : Nat} (h : i < n) : (encIs (ramp k0 n))[i]? = some (.int .i64 (k0 + i)) := by
  unfold encIs
  rw [List.getElem?_map, List.getElem?_eq_getElem (by rw [ramp_len]; exact h), ramp_at]; rfl

/-- The place of the first that f takes, or -1. -/
def idxFrom {α : Type} (f : α → Bool) : Nat → List α → Int
  | _, [] => -1
  | k, x :: l => if f x then k else idxFrom f (k + 1) l
theorem idxFrom_any {α : Type} (f : α → Bool) : ∀ (l : List α) (k : Nat), decide (0 ≤ idxFrom f k l) = l.any f
  | [], _ => rfl
  | x :: l, k => by
    rw [idxFrom, List.any_cons, ← idxFrom_any f l (k + 1)]
    cases f x <;> simp
theorem idx_yes {α : Type} {f : α → Bool} {l : List α} {k : Nat} (h : k < l.length) (hf : f l[k] = true) : idxFrom f k (l.drop k) = k := by
  rw [List.drop_eq_getElem_cons h, idxFrom, hf]; rfl
theorem idx_no {α : Type} {f : α → Bool} {l : List α} {k : Nat} (h : k < l.length) (hf : f l[k] = false) : idxFrom f k (l.drop k) = idxFrom f (k + 1) (l.drop (k + 1)) := by
  rw [List.drop_eq_getElem_cons h, idxFrom, hf]; rfl
end Go.Proofs.YtchkjiadnackaaaDoor

/- slices.ContainsFunc over ints. -/
namespace Go.Proofs.YtchkjiadnackaaaDoor
open Go.RowKit

set_option maxHeartbeats 1000000 in
theorem idxI_any (f : Int → Bool) (hf : ∀ x W, Calls Tryd.prog 42 #[.int .i64 x] W fun e w' => e = .returned (.bool (f x)) ∧ Below W.heap.size W w') (A : Option Addr) (c : Nat) (l : List Int) (w : World) (h : IntsR w w.heap.size A l) :
    Calls Tryd.prog 51 #[.slice A l.length c, .func (.func 42) #[] #[]] w fun e w' => e = .returned (.int .i64 (idxFrom f 0 l)) ∧ Below w.heap.size w w' := by
  have hl := h.big
  have hrd := h.ints
  have HF : Hid (idxFrom f 0 (l.drop 0) = idxFrom f 0 l) := rfl
  go_enter Tryd.func51, Tryd.ntmps51
  go_wp2
  go_loopw [8] (fun i wr => ∃ (k : Nat), k ≤ l.length ∧ i = .int .i64 k ∧ (∃ q : Since w.heap.size w, wr = q.val) ∧ Hid (idxFrom f k (l.drop k) = idxFrom f 0 l)) (fun i _ => l.length - (intOf i).toNat)
  case atStart => exact ⟨0, Nat.zero_le _, rfl, ⟨Since.start _ _, rfl⟩, HF⟩
  case round =>
    obtain ⟨k, hk, rfl, ⟨q, rfl⟩, HR⟩ := hrel
    by_cases hlt : k < l.length
    · obtain ⟨b, off, rfl, hb, hcell⟩ := hrd (by omega)
      have c0 := hcell k hlt
      have hy := fun hv => idx_yes (f := f) hlt hv
      have hn := fun hv => idx_no (f := f) hlt hv
      obtain ⟨x, hxe⟩ : ∃ x, x = l[k] := ⟨_, rfl⟩
      rw [← hxe] at c0 hy hn
      clear hxe hcell hrd
      have hfx := fun W => hf x W
      cases hv : f x
      · have HE : Hid (idxFrom f (k + 1) (l.drop (k + 1)) = idxFrom f 0 l) := by rw [← hn hv]; exact HR.out
        rw [hv] at hfx
        clear hy hn hv hf
        go_wp2_with (go_at_call 42; refine (hfx _).mono ?_; rintro e w1 ⟨rfl, hb1⟩)
        go_roundw
        case rel => exact ⟨k + 1, by omega, by go_num, ⟨q.go (Nat.le_refl _) hb1, rfl⟩, HE⟩
        case measure => simp [intOf]; omega
      · have HE : Hid ((k : Int) = idxFrom f 0 l) := by rw [← hy hv]; exact HR.out
        rw [hv] at hfx
        clear hy hn hv hf
        go_wp2_with (go_at_call 42; refine (hfx _).mono ?_; rintro e w1 ⟨rfl, hb1⟩)
        go_ret
        exact ⟨by rw [← HE.out]; rfl, (q.go (Nat.le_refl _) hb1).below⟩
    · have HE : Hid (-1 = idxFrom f 0 l) := by
        have h1 := HR.out; rw [List.drop_eq_nil_of_le (by omega)] at h1; exact h1
      clear hrd
      go_wp2
      go_ret
      exact ⟨by rw [← HE.out]; rfl, q.below⟩

theorem anyI_any (f : Int → Bool) (hf : ∀ x W, Calls Tryd.prog 42 #[.int .i64 x] W fun e w' => e = .returned (.bool (f x)) ∧ Below W.heap.size W w') (A : Option Addr) (c : Nat) (l : List Int) (w : World) (h : IntsR w w.heap.size A l) :
    Calls Tryd.prog 41 #[.slice A l.length c, .func (.func 42) #[] #[]] w fun e w' => e = .returned (.bool (l.any f)) ∧ Below w.heap.size w w' := by
  have hi := idxI_any f hf A c l w h
  have HA : Hid (decide (0 ≤ idxFrom f 0 l) = l.any f) := idxFrom_any f l 0
  generalize idxFrom f 0 l = v at hi HA
  go_enter Tryd.func41, Tryd.ntmps41
  go_wp2_with fail
  refine hi.mono ?_
  rintro e w1 ⟨rfl, hb1⟩
  go_wp2
  go_ret
  exact ⟨by rw [← HA.out]; rfl, hb1⟩
end Go.Proofs.YtchkjiadnackaaaDoor

/- Slices of ints: copies and sizes. -/
namespace Go.Proofs.YtchkjiadnackaaaDoor
open Go.RowKit

def lessen (k : Int) (n : Nat) : Int := if (n : Int) ≤ k then k - n else -1
theorem infoInt : (Tryd.prog.info? 3).map (fun i => (i.zero, i.size, i.bytes)) = some (some (.int .i64 0), 1, 8) := by kernel_rfl

end Go.Proofs.YtchkjiadnackaaaDoor

/- Phrases: the struct, validity of one. -/
namespace Go.Proofs.YtchkjiadnackaaaDoor
open Go.RowKit

structure Ph where
  s : Int
  c : Int
  A : Option Addr
  f : List Int
  cap : Nat
  p : Int
def Ph.enc (x : Ph) : List Value := [.int .i64 x.s, .int .i64 x.c, .slice x.A x.f.length x.cap, .int .i64 x.p]
abbrev Ph.val (x : Ph) : Value := .agg #[.int .i64 x.s, .int .i64 x.c, .slice x.A x.f.length x.cap, .int .i64 x.p]
theorem Ph.enc_len (x : Ph) : x.enc.length = 4 := rfl
def Ph.ok (x : Ph) : Bool := inR x.s 1 3 && inR x.c 1 99 && rises 1 9 x.f && inR x.p 0 999999
theorem any_not (l : List Int) : (l.any fun y => !inR y 1 9) = !(l.all fun y => inR y 1 9) := by
  induction l with
  | nil => rfl
  | cons x l ih => rw [List.any_cons, List.all_cons, ih]; cases inR x 1 9 <;> simp

theorem notIn_any (x : Int) (w : World) : Calls Tryd.prog 42 #[.int .i64 x] w fun e w' => e = .returned (.bool (!inR x 1 9)) ∧ Below w.heap.size w w' := by
  have hc := fun W => inRange_any x 1 9 W
  cases hv : inR x 1 9
  all_goals
    rw [hv] at hc
    clear hv
    go_enter Tryd.func42, Tryd.ntmps42
    go_wp2_with fail
    refine (hc _).mono ?_
    rintro e w' ⟨rfl, rfl⟩
    go_wp2
    go_ret
    exact ⟨rfl, Below.refl _ _⟩

theorem l30One_any (x : Ph) (w : World) (h : IntsR w w.heap.size x.A x.f) : Calls Tryd.prog 23 #[x.val] w fun e w' => e = .returned (.bool x.ok) ∧ Below w.heap.size w w' := by
  have hb0 := (Below.refl w.heap.size w).alloc (Nat.le_refl _) (.cells #[.int .i64 x.s, .int .i64 x.c, .slice x.A x.f.length x.cap, .int .i64 x.p] 24)
  have h1 : IntsR (w.alloc (.cells #[.int .i64 x.s, .int .i64 x.c, .slice x.A x.f.length x.cap, .int .i64 x.p] 24)) (w.alloc (.cells #[.int .i64 x.s, .int .i64 x.c, .slice x.A x.f.length x.cap, .int .i64 x.p] 24)).heap.size x.A x.f := SlcR.up h hb0 (Nat.le_refl _)
  have hL := Lies.new w 24 #[.int .i64 x.s, .int .i64 x.c, .slice x.A x.f.length x.cap, .int .i64 x.p]
  go_enter Tryd.func23, Tryd.ntmps23
  go_wp2_with (first
    | (go_at_call 32; refine (l1In_any _ _ _ _).mono ?_; rintro e w' ⟨rfl, rfl⟩)
    | (go_at_call 34; refine (l1Rising_any x.A x.cap x.f 1 9 _ h1).mono ?_; rintro e w1 ⟨rfl, hb1⟩; have k3 := (hb1.cell hL.lt).trans (hL.cell 3); simp only [List.getElem?_cons_zero, List.getElem?_cons_succ] at k3))
  all_goals (go_ret; exact ⟨by simp [Ph.ok, *], by first | exact bthen hb0 hb1 | exact hb0⟩)

theorem isPhrase_any (x : Ph) (w : World) (h : IntsR w w.heap.size x.A x.f) : Calls Tryd.prog 29 #[x.val] w fun e w' => e = .returned (.bool x.ok) ∧ Below w.heap.size w w' := by
  have hb0 := (Below.refl w.heap.size w).alloc (Nat.le_refl _) (.cells #[.int .i64 x.s, .int .i64 x.c, .slice x.A x.f.length x.cap, .int .i64 x.p] 24)
  have h1 : IntsR (w.alloc (.cells #[.int .i64 x.s, .int .i64 x.c, .slice x.A x.f.length x.cap, .int .i64 x.p] 24)) (w.alloc (.cells #[.int .i64 x.s, .int .i64 x.c, .slice x.A x.f.length x.cap, .int .i64 x.p] 24)).heap.size x.A x.f := SlcR.up h hb0 (Nat.le_refl _)
  have hL := Lies.new w 24 #[.int .i64 x.s, .int .i64 x.c, .slice x.A x.f.length x.cap, .int .i64 x.p]
  have HR : Hid (rises 1 9 x.f = (asc x.f && !(x.f.any fun y => !inR y 1 9))) := by
    unfold Hid; rw [rises_eq, any_not, Bool.not_not]
  go_enter Tryd.func29, Tryd.ntmps29
  go_wp2_with (first
    | (go_at_call 37; refine (inRange_any _ _ _ _).mono ?_; rintro e w' ⟨rfl, rfl⟩)
    | (go_at_call 40; refine (ascending_any x.A x.cap x.f _ h1).mono ?_; rintro e w1 ⟨rfl, hb1⟩; have k2 := (hb1.cell hL.lt).trans (hL.cell 2); simp only [List.getElem?_cons_zero, List.getElem?_cons_succ] at k2)
    | (go_at_call 41; refine (anyI_any (fun y => !inR y 1 9) notIn_any x.A x.cap x.f _ (h1.then hb1)).mono ?_; rintro e w2 ⟨rfl, hb2⟩; have k3 := ((bthen hb1 hb2).cell hL.lt).trans (hL.cell 3); simp only [List.getElem?_cons_zero, List.getElem?_cons_succ] at k3))
  all_goals (go_ret; exact ⟨by rw [Ph.ok, HR.out]; simp [*], by first | exact bthen hb0 (bthen hb1 hb2) | exact bthen hb0 hb1 | exact hb0⟩)
end Go.Proofs.YtchkjiadnackaaaDoor

/- Phrases: size, copy, equality; the law FnExactIsPhrase. -/
namespace Go.Proofs.YtchkjiadnackaaaDoor
open Go.RowKit

theorem Lies.new1 (w : World) (o : Obj) (t : TypeId) (cs : Array Value) : Lies ((w.alloc o).alloc (.cells cs t)) (w.heap.size + 1) t cs.toList := by
  have h := Lies.new (w.alloc o) t cs
  rwa [show (w.alloc o).heap.size = w.heap.size + 1 from Array.size_push _] at h
theorem Lies.new2 (w : World) (o o' : Obj) (t : TypeId) (cs : Array Value) : Lies (((w.alloc o).alloc o').alloc (.cells cs t)) (w.heap.size + 1 + 1) t cs.toList := by
  have h := Lies.new1 (w.alloc o) o' t cs
  rwa [show (w.alloc o).heap.size = w.heap.size + 1 from Array.size_push _] at h

def Ph.same (x y : Ph) : Bool := decide (x.s = y.s) && decide (x.c = y.c) && sameInts x.f y.f && decide (x.p = y.p)
theorem Ph.same_self (x : Ph) (A : Option Addr) (c : Nat) : Ph.same x { x with A := A, cap := c } = true := by simp [Ph.same, sameInts]

set_option maxHeartbeats 1000000 in
theorem eqPhrase_any (x y : Ph) (w : World) (hx : IntsR w w.heap.size x.A x.f) (hy : IntsR w w.heap.size y.A y.f) :
    Calls Tryd.prog 7 #[x.val, y.val] w fun e w' => e = .returned (.bool (Ph.same x y)) ∧ Below w.heap.size w w' := by
  have L1 := (Lies.new w 24 #[.int .i64 x.s, .int .i64 x.c, .slice x.A x.f.length x.cap, .int .i64 x.p]).alloc (.cells #[.int .i64 y.s, .int .i64 y.c, .slice y.A y.f.length y.cap, .int .i64 y.p] 24)
  have L2 := Lies.new1 w (.cells #[.int .i64 x.s, .int .i64 x.c, .slice x.A x.f.length x.cap, .int .i64 x.p] 24) 24 #[.int .i64 y.s, .int .i64 y.c, .slice y.A y.f.length y.cap, .int .i64 y.p]
  have b1 := (Below.refl w.heap.size w).alloc (Nat.le_refl _) (.cells #[.int .i64 x.s, .int .i64 x.c, .slice x.A x.f.length x.cap, .int .i64 x.p] 24)
  have b2 := b1.alloc b1.size (.cells #[.int .i64 y.s, .int .i64 y.c, .slice y.A y.f.length y.cap, .int .i64 y.p] 24)
  clear b1
  have HS : Hid (Ph.same x y = (decide (x.s = y.s) && decide (x.c = y.c) && sameInts x.f y.f && decide (x.p = y.p))) := rfl
  have hc := fun W hA hB => eqIntS_any x.A y.A x.cap y.cap x.f y.f W hA hB
  generalize sameInts x.f y.f = v at HS hc
  cases v
  all_goals
    by_cases h1 : x.s = y.s
    · have n1 : (x.s != y.s) = false := by simp [h1]
      have D1 := Lib.hid (decide_eq_true h1); clear h1
      by_cases h2 : x.c = y.c
      · have n2 : (x.c != y.c) = false := by simp [h2]
        have D2 := Lib.hid (decide_eq_true h2); clear h2
        by_cases h3 : x.p = y.p
        · have n3 : (x.p != y.p) = false := by simp [h3]
          have D3 := Lib.hid (decide_eq_true h3); clear h3
          go_enter Tryd.func7, Tryd.ntmps7
          go_wp2_with fail
          refine (hc _ (SlcR.up hx b2 (Nat.le_refl _)) (SlcR.up hy b2 (Nat.le_refl _))).mono ?_
          rintro e w1 ⟨rfl, hb⟩
          have k1 := (L1.below hb L1.lt).cell 3
          have k2 := (L2.below hb L2.lt).cell 3
          simp only [List.getElem?_cons_zero, List.getElem?_cons_succ] at k1 k2
          go_wp2
          go_ret
          exact ⟨by rw [HS.out, D1.out, D2.out, D3.out]; rfl, bthen b2 hb⟩
        · have n3 : (x.p != y.p) = true := by simp [h3]
          have D3 := Lib.hid (decide_eq_false h3); clear h3
          go_enter Tryd.func7, Tryd.ntmps7
          go_wp2_with fail
          refine (hc _ (SlcR.up hx b2 (Nat.le_refl _)) (SlcR.up hy b2 (Nat.le_refl _))).mono ?_
          rintro e w1 ⟨rfl, hb⟩
          have k1 := (L1.below hb L1.lt).cell 3
          have k2 := (L2.below hb L2.lt).cell 3
          simp only [List.getElem?_cons_zero, List.getElem?_cons_succ] at k1 k2
          go_wp2
          go_ret
          exact ⟨by rw [HS.out, D1.out, D2.out, D3.out]; rfl, bthen b2 hb⟩
      · have n2 : (x.c != y.c) = true := by simp [h2]
        have D2 := Lib.hid (decide_eq_false h2); clear h2
        go_enter Tryd.func7, Tryd.ntmps7
        go_wp2
        go_ret
        exact ⟨by rw [HS.out, D1.out, D2.out]; rfl, b2⟩
    · have n1 : (x.s != y.s) = true := by simp [h1]
      have D1 := Lib.hid (decide_eq_false h1); clear h1
      go_enter Tryd.func7, Tryd.ntmps7
      go_wp2
      go_ret
      exact ⟨by rw [HS.out, D1.out]; rfl, b2⟩
end Go.Proofs.YtchkjiadnackaaaDoor

/- Lists of phrases: how they read; size, copy, equality. -/
namespace Go.Proofs.YtchkjiadnackaaaDoor
open Go.RowKit

/-- A phrase lies at a place, in every world since. -/
structure PhS (B : Nat) (w : World) (b o : Nat) (x : Ph) : Prop where
  c0 : ∀ p : Since B w, p.val.cell? ⟨b, o, none⟩ = some (.int .i64 x.s)
  c1 : ∀ p : Since B w, p.val.cell? ⟨b, o + 1, none⟩ = some (.int .i64 x.c)
  c2 : ∀ p : Since B w, p.val.cell? ⟨b, o + 2, none⟩ = some (.slice x.A x.f.length x.cap)
  c3 : ∀ p : Since B w, p.val.cell? ⟨b, o + 3, none⟩ = some (.int .i64 x.p)
theorem PhS.of {W : World} {g : Nat} {t : TypeId} {x : Ph} (h : Lies W g t x.enc) : PhS W.heap.size W g 0 x :=
  ⟨fun p => (p.cell h.lt).trans (h.cell 0), fun p => (p.cell h.lt).trans (h.cell 1), fun p => (p.cell h.lt).trans (h.cell 2), fun p => (p.cell h.lt).trans (h.cell 3)⟩
/-- A slice of phrases reads, and so do their faults. -/
structure PhsR (w : World) (B : Nat) (A : Option Addr) (l : List Ph) : Prop where
  slc : SlcR w B 4 A l.length (l.flatMap Ph.enc)
  fs : ∀ x ∈ l, IntsR w B x.A x.f
section
variable {w w' : World} {B : Nat} {A : Option Addr} {l : List Ph}
theorem PhsR.keep (h : PhsR w B A l) (hk : ∀ p : Addr, p.block < B → w'.cell? p = w.cell? p) : PhsR w' B A l := ⟨h.slc.keep hk, fun x hx => (h.fs x hx).keep hk⟩
theorem PhsR.mono {B' : Nat} (h : PhsR w B A l) (hB : B ≤ B') : PhsR w B' A l := ⟨h.slc.mono hB, fun x hx => (h.fs x hx).mono hB⟩
theorem PhsR.below (h : PhsR w B A l) (hb : Below B w w') : PhsR w' B A l := h.keep fun _ hp => hb.cell hp
theorem PhsR.then (h : PhsR w w.heap.size A l) (hb : Below w.heap.size w w') : PhsR w' w'.heap.size A l := (h.below hb).mono hb.size
theorem PhsR.ph (h : PhsR w B A l) (hne : 0 < l.length) : ∃ b off, A = some ⟨b, off, none⟩ ∧ b < B ∧ ∀ i (hi : i < l.length), PhS B w b (off + i * 4) l[i] := by
  obtain ⟨b, off, e, hb, hc⟩ := h.slc.at_ hne
  refine ⟨b, off, e, hb, fun i hi => ?_⟩
  have key : ∀ j, j < 4 → ∀ u, (l[i].enc)[j]? = some u → ∀ p : Since B w, p.val.cell? ⟨b, off + i * 4 + j, none⟩ = some u := fun j hj u hu p => by
    rw [p.cell hb, Nat.add_assoc]
    exact hc _ u (by rw [flat_at Ph.enc 4 Ph.enc_len l i hi j hj]; exact hu)
  exact ⟨key 0 (by omega) _ rfl, key 1 (by omega) _ rfl, key 2 (by omega) _ rfl, key 3 (by omega) _ rfl⟩
theorem PhsR.f (h : PhsR w B A l) {i : Nat} (hi : i < l.length) : IntsR w B l[i].A l[i].f := h.fs _ (List.getElem_mem hi)
end

/-- What a phrase holds. -/
def Ph.ph (x : Ph) : Int × Int × List Int × Int := (x.s, x.c, x.f, x.p)
theorem Ph.same_ph (x y : Ph) : Ph.same x y = decide (x.ph = y.ph) := by
  unfold Ph.same Ph.ph sameInts
  simp only [Prod.mk.injEq, Bool.decide_and]
  cases decide (x.s = y.s) <;> cases decide (x.c = y.c) <;> cases decide (x.f = y.f) <;> simp
def samePhs (a b : List Ph) : Bool := decide (a.map Ph.ph = b.map Ph.ph)
def samePhsFrom : List Ph → List Ph → Bool
  | [], [] => true
  | x :: a, y :: b => Ph.same x y && samePhsFrom a b
  | _, _ => false
theorem samePhsFrom_eq : ∀ a b : List Ph, samePhsFrom a b = samePhs a b
  | [], [] => by simp [samePhsFrom, samePhs]
  | [], _ :: _ => by simp [samePhsFrom, samePhs]
  | _ :: _, [] => by simp [samePhsFrom, samePhs]
  | x :: a, y :: b => by simp [samePhsFrom, samePhs, samePhsFrom_eq a b, Ph.same_ph, Bool.decide_and]

/-! ### Sizes -/
def fsum : List Ph → Nat
  | [] => 0
  | x :: l => x.f.length + fsum l
def need (l : List Ph) : Nat := l.length + fsum l
theorem fsum_step {l : List Ph} {k : Nat} (h : k < l.length) : fsum (l.drop k) = l[k].f.length + fsum (l.drop (k + 1)) := by
  rw [List.drop_eq_getElem_cons h]; rfl
theorem lessen_no {k : Int} {a b : Nat} (h : k < a) : lessen k (a + b) = -1 := by unfold lessen; rw [if_neg (by omega)]
theorem lessen_yes {k : Int} {a b : Nat} (_h : (a : Int) ≤ k) : lessen k (a + b) = lessen (k - a) b := by
  unfold lessen
  by_cases h : ((a + b : Nat) : Int) ≤ k
  · rw [if_pos h, if_pos (by omega)]; omega
  · rw [if_neg h, if_neg (by omega)]

theorem splice_end (a rest vs : List Value) : splice (a ++ rest) a.length vs = a ++ vs ++ rest.drop vs.length := by
  unfold splice
  rw [List.take_left, List.drop_append, List.drop_eq_nil_of_le (by omega), List.nil_append, Nat.add_sub_cancel_left]

theorem infoPh : (Tryd.prog.info? 24).map (fun i => (i.zero, i.size, i.bytes)) = some (some (.agg #[.int .i64 0, .int .i64 0, .slice none 0 0, .int .i64 0]), 4, 48) := by kernel_rfl

/-- Phrases of the call's own at block G, whose faults lie in blocks of their own behind it, in ascending order. -/
structure OwnPhs (w : World) (G : Nat) (l : List Ph) (rest : List Value) : Prop where
  lies : Lies w G 24 (l.flatMap Ph.enc ++ rest)
  fs : ∀ x ∈ l, ∃ g, x.A = some ⟨g, 0, none⟩ ∧ G < g ∧ Lies w g 3 (encIs x.f)
  nd : l.Pairwise fun x y => x.A ≠ y.A
theorem OwnPhs.reads {w : World} {G : Nat} {l : List Ph} {rest : List Value} (h : OwnPhs w G l rest) (hn : l.length ≤ 9223372036854775807) (hf : ∀ x ∈ l, x.f.length ≤ 9223372036854775807) : PhsR w w.heap.size (some ⟨G, 0, none⟩) l :=
  ⟨⟨flat_len Ph.enc 4 Ph.enc_len l, hn, fun _ => ⟨G, 0, rfl, h.lies.lt, fun j u hu => by
      rw [Nat.zero_add, h.lies.cell, List.getElem?_append_left (List.getElem?_eq_some_iff.1 hu).1]; exact hu⟩⟩,
   fun x hx => by
    obtain ⟨g, hA, _, hL⟩ := h.fs x hx
    rw [hA]; exact hL.reads (encIs_len _) (hf x hx)⟩
theorem OwnPhs.below {w w' : World} {G : Nat} {l : List Ph} {rest : List Value} (h : OwnPhs w G l rest) (hb : Below w.heap.size w w') : OwnPhs w' G l rest :=
  ⟨h.lies.below hb h.lies.lt, fun x hx => by
    obtain ⟨g, hA, hG, hL⟩ := h.fs x hx
    exact ⟨g, hA, hG, hL.below hb hL.lt⟩, h.nd⟩

theorem len_of_ph {a b : List Ph} (h : a.map Ph.ph = b.map Ph.ph) : a.length = b.length := by simpa using congrArg List.length h

set_option maxHeartbeats 1000000 in
theorem eqPhraseS_any (A B : Option Addr) (c d : Nat) (l m : List Ph) (w : World) (hA : PhsR w w.heap.size A l) (hB : PhsR w w.heap.size B m) :
    Calls Tryd.prog 12 #[.slice A l.length c, .slice B m.length d] w fun e w' => e = .returned (.bool (samePhs l m)) ∧ Below w.heap.size w w' := by
  have hlA := hA.slc.big
  have hlB := hB.slc.big
  have hrA := hA.ph
  have hrB := hB.ph
  have hfA : Hid (∀ i (hi : i < l.length), IntsR w w.heap.size l[i].A l[i].f) := fun i hi => hA.f hi
  have hfB : Hid (∀ i (hi : i < m.length), IntsR w w.heap.size m[i].A m[i].f) := fun i hi => hB.f hi
  by_cases hne : l.length = m.length
  · have hF : Hid (samePhsFrom l m = samePhs l m) := samePhsFrom_eq l m
    have hbn : ((l.length : Int) != (m.length : Int)) = false := by simp [hne]
    have HE := Lib.hid hne; clear hne
    go_enter Tryd.func12, Tryd.ntmps12
    go_wp2
    go_loopw [5] (fun i wr => ∃ k : Nat, k ≤ l.length ∧ i = .int .i64 k ∧ (∃ q : Since w.heap.size w, wr = q.val) ∧ Hid (samePhsFrom (l.drop k) (m.drop k) = samePhs l m)) (fun i _ => l.length - (intOf i).toNat)
    case atStart => exact ⟨0, Nat.zero_le _, rfl, ⟨Since.start _ _, rfl⟩, hF⟩
    case round =>
      obtain ⟨k, hk, rfl, ⟨q, rfl⟩, HR⟩ := hrel
      by_cases hlt : k < l.length
      · have hlt' : k < m.length := by have := HE.out; omega
        obtain ⟨b, off, rfl, hb, hcell⟩ := hrA (by omega)
        obtain ⟨b', off', rfl, hb', hcell'⟩ := hrB (by omega)
        obtain ⟨c0, c1, c2, c3⟩ := hcell k hlt
        obtain ⟨d0, d1, d2, d3⟩ := hcell' k hlt'
        have hx : ∀ p : Since w.heap.size w, IntsR p.val p.val.heap.size l[k].A l[k].f := fun p => SlcR.up (hfA.out k hlt) p.below (Nat.le_refl _)
        have hy : ∀ p : Since w.heap.size w, IntsR p.val p.val.heap.size m[k].A m[k].f := fun p => SlcR.up (hfB.out k hlt') p.below (Nat.le_refl _)
        have hstep : Hid (samePhsFrom (l.drop k) (m.drop k) = (Ph.same l[k] m[k] && samePhsFrom (l.drop (k + 1)) (m.drop (k + 1)))) := by
          rw [List.drop_eq_getElem_cons hlt, List.drop_eq_getElem_cons hlt']; rfl
        obtain ⟨x, hxe⟩ : ∃ x, x = l[k] := ⟨_, rfl⟩
        obtain ⟨y, hye⟩ : ∃ x, x = m[k] := ⟨_, rfl⟩
        rw [← hxe] at c0 c1 c2 c3 hx hstep
        rw [← hye] at d0 d1 d2 d3 hy hstep
        clear hxe hye hcell hcell' hrA hrB
        obtain ⟨v, hv⟩ : ∃ v, Ph.same x y = v := ⟨_, rfl⟩
        have HV := Lib.hid hv; clear hv
        cases v
        all_goals
          go_wp2
          refine wp_region_since _ (by kernel_rfl) (by kernel_rfl) ?_
          repeat (any_goals (first | go_big_quiet_step ((go_at_call 7; refine calls_sinceB HV (Nat.le_refl _) (eqPhrase_any x y _ (hx _) (hy _)))) | (refine wpQuiet_step (fun K hK => ?_); go_simp; split <;> (refine hK _ ?_; clear hK K))))
          all_goals (refine wpQuiet_nil ?_; rintro _ ⟨q1, rfl⟩)
          all_goals go_wp2
        · go_ret
          refine ⟨?_, q1.below⟩
          rw [← HR.out, hstep.out, HV.out]; rfl
        · go_roundw
          case rel => exact ⟨k + 1, by omega, by go_num, ⟨q1, rfl⟩, by have h1 := HR.out; rw [hstep.out, HV.out] at h1; exact h1⟩
          case measure => simp [intOf]; omega
      · have HK : Hid (samePhs l m = true) := by
          have h1 := HR.out
          rw [List.drop_eq_nil_of_le (by omega), List.drop_eq_nil_of_le (by have := HE.out; omega)] at h1; exact h1.symm
        clear hrA hrB
        go_wp2
        go_ret
        exact ⟨by rw [HK.out]; rfl, q.below⟩
  · have hbn : ((l.length : Int) != (m.length : Int)) = true := by rw [bne_iff_ne]; omega
    have hF : Hid (samePhs l m = false) := by
      unfold samePhs; show decide _ = false; rw [decide_eq_false_iff_not]; intro h; exact hne (len_of_ph h)
    go_enter Tryd.func12, Tryd.ntmps12
    go_wp2
    go_ret
    exact ⟨by rw [hF.out]; rfl, Below.refl _ _⟩
end Go.Proofs.YtchkjiadnackaaaDoor

/- Lists of phrases: validity, in the reference and in the program. -/
namespace Go.Proofs.YtchkjiadnackaaaDoor
open Go.RowKit

def goodPhs (l : List Ph) : Bool := decide (l.length ≤ 10) && l.all Ph.ok
theorem ok_ph {x y : Ph} (h : x.ph = y.ph) : x.ok = y.ok := by
  unfold Ph.ph at h; injection h with h1 h2; injection h2 with h2 h3; injection h3 with h3 h4
  unfold Ph.ok; rw [h1, h2, h3, h4]
theorem good_ph : ∀ {a b : List Ph}, a.map Ph.ph = b.map Ph.ph → goodPhs a = goodPhs b := by
  intro a b h
  unfold goodPhs
  rw [len_of_ph h]
  have : a.all Ph.ok = b.all Ph.ok := by
    induction a generalizing b with
    | nil => cases b with
      | nil => rfl
      | cons y b => simp at h
    | cons x a ih => cases b with
      | nil => simp at h
      | cons y b =>
        simp only [List.map_cons, List.cons.injEq] at h
        rw [List.all_cons, List.all_cons, ok_ph h.1, ih h.2]
  rw [this]
theorem good_len {l : List Ph} (h : goodPhs l = true) : l.length ≤ 10 := by
  unfold goodPhs at h; rw [Bool.and_eq_true] at h; exact of_decide_eq_true h.1
theorem good_at {l : List Ph} (h : goodPhs l = true) {i : Nat} (hi : i < l.length) : l[i].ok = true := by
  unfold goodPhs at h; rw [Bool.and_eq_true] at h; exact List.all_eq_true.1 h.2 _ (List.getElem_mem hi)
theorem bad_at {l : List Ph} {i : Nat} (hi : i < l.length) (h : l[i].ok = false) : goodPhs l = false := by
  cases hg : goodPhs l with
  | false => rfl
  | true => rw [good_at hg hi] at h; cases h
theorem bad_len {l : List Ph} (h : 10 < l.length) : goodPhs l = false := by
  cases hg : goodPhs l with
  | false => rfl
  | true => have := good_len hg; omega
theorem good_of {l : List Ph} (h : l.length ≤ 10) (ha : ∀ i (hi : i < l.length), l[i].ok = true) : goodPhs l = true := by
  unfold goodPhs
  rw [Bool.and_eq_true]
  refine ⟨decide_eq_true h, List.all_eq_true.2 fun x hx => ?_⟩
  obtain ⟨i, hi, rfl⟩ := List.getElem_of_mem hx
  exact ha i hi

/-- What a valid phrase keeps to. -/
theorem Ph.bounds {x : Ph} (h : x.ok = true) : (1 ≤ x.s ∧ x.s ≤ 3) ∧ (1 ≤ x.c ∧ x.c ≤ 99) ∧ rises 1 9 x.f = true ∧ (0 ≤ x.p ∧ x.p ≤ 999999) := by
  unfold Ph.ok at h
  simp only [Bool.and_eq_true, inR_iff] at h
  exact ⟨h.1.1.1, h.1.1.2, h.1.2, h.2⟩

theorem any_bad (l : List Ph) : (l.any fun x => !x.ok) = !(l.all Ph.ok) := by
  induction l with
  | nil => rfl
  | cons x l ih => rw [List.any_cons, List.all_cons, ih]; cases x.ok <;> simp

end Go.Proofs.YtchkjiadnackaaaDoor

/- Copies of slices of ints: the reference's l1Own, the library's slices.Clone. -/
namespace Go.Proofs.YtchkjiadnackaaaDoor
open Go.RowKit

theorem infoI : (Tryd.prog.info? 3).map (fun i => (i.zero, i.size, i.bytes)) = some (some (.int .i64 0), 1, 8) := by kernel_rfl

/-- The result: a slice of the call's own that holds l. -/
def GivesInts (w : World) (l : List Int) (e : Ending) (w' : World) : Prop := ∃ A c, e = .returned (.slice A l.length c) ∧ OwnS w' w.heap.size 3 1 A l.length (encIs l) ∧ Below w.heap.size w w'
theorem GivesInts.mk {w w' : World} {l : List Int} {v : Value} (h : w'.ownsRow w.heap.size 3 1 v l.length (encIs l)) (hb : Below w.heap.size w w') : GivesInts w l (.returned v) w' := by
  obtain ⟨A, c, rfl⟩ := ownsRow_slice h
  exact ⟨A, c, rfl, OwnS.of h, hb⟩

end Go.Proofs.YtchkjiadnackaaaDoor

/- copyPhrase: a phrase with its own faults. -/
namespace Go.Proofs.YtchkjiadnackaaaDoor
open Go.RowKit

theorem OwnS.lower {w : World} {B B' : Nat} {t : TypeId} {k : Nat} {A : Option Addr} {n : Nat} {cs : List Value} (h : OwnS w B t k A n cs) (hB : B' ≤ B) : OwnS w B' t k A n cs := by
  obtain ⟨hl, hn, h0 | ⟨g, rest, hA, hg, hh⟩⟩ := h
  · exact ⟨hl, hn, .inl h0⟩
  · exact ⟨hl, hn, .inr ⟨g, rest, hA, Nat.le_trans hB hg, hh⟩⟩

/-- A phrase like x whose faults are the call's own. -/
def GivesPh (w : World) (x : Ph) (e : Ending) (w' : World) : Prop := ∃ A c, e = .returned (Ph.val { x with A := A, cap := c }) ∧ OwnS w' w.heap.size 3 1 A x.f.length (encIs x.f) ∧ Below w.heap.size w w'

end Go.Proofs.YtchkjiadnackaaaDoor

/- Are two phrases alike? In the reference and in the program (slices.Equal). -/
namespace Go.Proofs.YtchkjiadnackaaaDoor
open Go.RowKit

/-- The same state, faults and price. -/
def Ph.alike (x y : Ph) : Bool := decide (x.s = y.s) && sameInts x.f y.f && decide (x.p = y.p)

end Go.Proofs.YtchkjiadnackaaaDoor
