/- Plain texts and valid records, in the reference and in the program. -/
import Derived.Test.YtojceibamgodbaaDoorBl
import Derived.Test.YtojceibamgodbaaDoorIn
import Derived.Test.YtojceibamgodbaaDoorProg
import Derived.Test.YtojceibamgodbaaDoorItoab
namespace Go.Proofs.YtojceibamgodbaaDoor
open Go.RowKit

theorem plainB_iff {c : UInt8} : plainB c = true ↔ 32 ≤ c.toNat ∧ c.toNat ≤ 126 ∧ c.toNat ≠ 35 := by
  unfold plainB
  simp only [Bool.and_eq_true, decide_eq_true_eq, bne_iff_ne, ne_eq, and_assoc]
  constructor <;> (rintro ⟨h1, h2, h3⟩; refine ⟨h1, h2, fun h => h3 ?_⟩)
  · exact UInt8.toNat_inj.1 h
  · rw [h]; rfl
theorem plain_drop {s : ByteArray} {k : Nat} (h : k < s.size) : plainL ((bl s).drop k) = (plainB s[k] && plainL ((bl s).drop (k + 1))) := by rw [bl_drop h]; rfl

set_option maxHeartbeats 1000000 in
theorem l33Plain_any (s : ByteArray) (m : Int) (w : World) (hs : s.size ≤ 1000000000) :
    Calls Tryd.prog 77 #[.string s, .int .i64 m] w fun e w' => e = .returned (.bool (plainL (bl s) && decide ((s.size : Int) ≤ m))) ∧ w = w' := by
  have HF : Hid (plainL ((bl s).drop 0) = plainL (bl s)) := rfl
  go_enter Tryd.func77, Tryd.ntmps77
  go_wp2
  go_loop [5] (fun i => ∃ k : Nat, k ≤ s.size ∧ i = .int .i64 k ∧ Hid (plainL ((bl s).drop k) = plainL (bl s))) (fun i => s.size - (intOf i).toNat)
  case atStart => exact ⟨0, Nat.zero_le _, rfl, HF⟩
  case round =>
    obtain ⟨k, hk, rfl, HR⟩ := hrel
    by_cases hlt : k < s.size
    · have HD := Lib.hid (plain_drop hlt)
      have u1 : (s[k].toNat : Int) ≤ 255 := by have := UInt8.toNat_lt s[k]; omega
      cases hp : plainB s[k]
      · rw [hp] at HD
        have HN : Hid (plainL (bl s) = false) := by rw [Hid, ← HR.out, HD.out]; rfl
        by_cases h1 : inR (s[k].toNat : Int) 32 126 = true
        · have h2 : ((s[k].toNat : Int) == 35) = true := by
            rw [inR_iff] at h1
            have : ¬ (32 ≤ s[k].toNat ∧ s[k].toNat ≤ 126 ∧ s[k].toNat ≠ 35) := fun h => by rw [plainB_iff.2 h] at hp; cases hp
            simp; omega
          clear hp
          have H1 := Lib.hid h1; clear h1
          go_wp2_with (go_at_call 52; refine (l1In_any _ _ _ _).mono ?_; rw [H1.out]; rintro e w' ⟨rfl, rfl⟩)
          go_ret
          exact ⟨by rw [HN.out]; rfl, rfl⟩
        · have h1' : inR (s[k].toNat : Int) 32 126 = false := by simpa using h1
          clear hp h1
          have H1 := Lib.hid h1'; clear h1'
          go_wp2_with (go_at_call 52; refine (l1In_any _ _ _ _).mono ?_; rw [H1.out]; rintro e w' ⟨rfl, rfl⟩)
          go_ret
          exact ⟨by rw [HN.out]; rfl, rfl⟩
      · rw [hp] at HD
        rw [plainB_iff] at hp
        have H1 : Hid (inR (s[k].toNat : Int) 32 126 = true) := by rw [Hid, inR_iff]; omega
        have h2 : ((s[k].toNat : Int) == 35) = false := by simp; omega
        clear hp
        go_wp2_with (go_at_call 52; refine (l1In_any _ _ _ _).mono ?_; rw [H1.out]; rintro e w' ⟨rfl, rfl⟩)
        go_round
        case rel => exact ⟨k + 1, by omega, by go_num, by have h := HR.out; rw [HD.out] at h; exact h⟩
        case measure => simp [intOf]; omega
    · have HK : Hid (plainL (bl s) = true) := by
        have h1 := HR.out
        rw [List.drop_eq_nil_of_le (by rw [bl_size]; omega)] at h1; exact h1.symm
      go_wp2
      go_ret
      exact ⟨by rw [HK.out]; rfl, rfl⟩

set_option maxHeartbeats 1000000 in
theorem isPrintable_any (s : ByteArray) (w : World) (hs : s.size ≤ 1000000000) :
    Calls Tryd.prog 73 #[.string s] w fun e w' => e = .returned (.bool (plainL (bl s))) ∧ w = w' := by
  have HF : Hid (plainL ((bl s).drop 0) = plainL (bl s)) := rfl
  go_enter Tryd.func73, Tryd.ntmps73
  go_wp2
  go_loop [3, 6] (fun _ i => ∃ k : Nat, k ≤ s.size ∧ i = .int .i64 k ∧ Hid (plainL ((bl s).drop k) = plainL (bl s))) (fun _ i => s.size - (intOf i).toNat)
  case atStart => exact ⟨0, Nat.zero_le _, rfl, HF⟩
  case round =>
    obtain ⟨k, hk, rfl, HR⟩ := hrel
    by_cases hlt : k < s.size
    · have HD := Lib.hid (plain_drop hlt)
      have u1 : (s[k].toNat : Int) ≤ 255 := by have := UInt8.toNat_lt s[k]; omega
      cases hp : plainB s[k]
      · rw [hp] at HD
        have HN : Hid (plainL (bl s) = false) := by rw [Hid, ← HR.out, HD.out]; rfl
        have hor : (s[k].toNat : Int) < 32 ∨ (32 ≤ (s[k].toNat : Int) ∧ 126 < (s[k].toNat : Int)) ∨ (32 ≤ (s[k].toNat : Int) ∧ (s[k].toNat : Int) ≤ 126 ∧ (s[k].toNat : Int) = 35) := by
          have : ¬ (32 ≤ s[k].toNat ∧ s[k].toNat ≤ 126 ∧ s[k].toNat ≠ 35) := fun h => by rw [plainB_iff.2 h] at hp; cases hp
          omega
        clear hp
        rcases hor with h1 | ⟨h1, h2⟩ | ⟨h1, h2, h3⟩
        · have d1 : decide ((s[k].toNat : Int) < 32) = true := decide_eq_true h1
          clear h1
          go_wp2
          go_ret
          exact ⟨by rw [HN.out]; rfl, rfl⟩
        · have d1 : decide ((s[k].toNat : Int) < 32) = false := decide_eq_false (by omega)
          have d2 : decide (126 < (s[k].toNat : Int)) = true := decide_eq_true h2
          clear h1 h2
          go_wp2
          go_ret
          exact ⟨by rw [HN.out]; rfl, rfl⟩
        · have d1 : decide ((s[k].toNat : Int) < 32) = false := decide_eq_false (by omega)
          have d2 : decide (126 < (s[k].toNat : Int)) = false := decide_eq_false (by omega)
          have d3 : ((s[k].toNat : Int) == 35) = true := by simp [h3]
          clear h1 h2 h3
          go_wp2
          go_ret
          exact ⟨by rw [HN.out]; rfl, rfl⟩
      · rw [hp] at HD
        rw [plainB_iff] at hp
        have d1 : decide ((s[k].toNat : Int) < 32) = false := decide_eq_false (by omega)
        have d2 : decide (126 < (s[k].toNat : Int)) = false := decide_eq_false (by omega)
        have d3 : ((s[k].toNat : Int) == 35) = false := by simp; omega
        clear hp
        go_wp2
        go_round
        case rel => exact ⟨k + 1, by omega, by go_num, by have h := HR.out; rw [HD.out] at h; exact h⟩
        case measure => simp [intOf]; omega
    · have HK : Hid (plainL (bl s) = true) := by
        have h1 := HR.out
        rw [List.drop_eq_nil_of_le (by rw [bl_size]; omega)] at h1; exact h1.symm
      go_wp2
      go_ret
      exact ⟨by rw [HK.out]; rfl, rfl⟩

def hasB (l : List UInt8) (b : UInt8) : Bool := l.contains b
theorem has_drop {s : ByteArray} {k : Nat} {b : UInt8} (h : k < s.size) : hasB ((bl s).drop k) b = (decide (s[k] = b) || hasB ((bl s).drop (k + 1)) b) := by
  unfold hasB
  rw [bl_drop h, List.contains_cons]
  congr 1
  rw [Bool.eq_iff_iff]; simp; exact eq_comm

set_option maxHeartbeats 1000000 in
theorem l1Stands_any (s : ByteArray) (b : UInt8) (w : World) (hs : s.size ≤ 1000000000) :
    Calls Tryd.prog 78 #[.string s, .int .u8 b.toNat] w fun e w' => e = .returned (.bool (hasB (bl s) b)) ∧ w = w' := by
  have HF : Hid (hasB ((bl s).drop 0) b = hasB (bl s) b) := rfl
  go_enter Tryd.func78, Tryd.ntmps78
  go_wp2
  go_loop [5] (fun i => ∃ k : Nat, k ≤ s.size ∧ i = .int .i64 k ∧ Hid (hasB ((bl s).drop k) b = hasB (bl s) b)) (fun i => s.size - (intOf i).toNat)
  case atStart => exact ⟨0, Nat.zero_le _, rfl, HF⟩
  case round =>
    obtain ⟨k, hk, rfl, HR⟩ := hrel
    by_cases hlt : k < s.size
    · have HD := Lib.hid (has_drop (b := b) hlt)
      have hq := @u8_eq s[k] b
      cases hp : decide (s[k] = b)
      · rw [hp] at HD hq
        clear hp
        go_wp2
        go_round
        case rel => exact ⟨k + 1, by omega, by go_num, by have h := HR.out; rw [HD.out] at h; exact h⟩
        case measure => simp [intOf]; omega
      · rw [hp] at HD hq
        clear hp
        go_wp2
        go_ret
        exact ⟨by rw [← HR.out, HD.out]; rfl, rfl⟩
    · have HK : Hid (hasB (bl s) b = false) := by
        have h1 := HR.out
        rw [List.drop_eq_nil_of_le (by rw [bl_size]; omega)] at h1; exact h1.symm
      go_wp2
      go_ret
      exact ⟨by rw [HK.out]; rfl, rfl⟩

/-! ### Records -/
structure Rec where
  c : ByteArray
  r : ByteArray
abbrev Rec.val (e : Rec) : Value := .agg #[.string e.c, .string e.r]
def Rec.enc (e : Rec) : List Value := [.string e.c, .string e.r]
theorem Rec.enc_len (e : Rec) : e.enc.length = 2 := rfl
def Rec.ok (e : Rec) : Bool := recOk (bl e.c) (bl e.r)
theorem Rec.ok_eq (e : Rec) : e.ok = (decide (1 ≤ e.c.size) && decide (e.c.size ≤ 160) && plainL (bl e.c) && !hasB (bl e.c) 64 && plainL (bl e.r) && decide (e.r.size ≤ 200)) := rfl

def plainM (s : ByteArray) (m : Int) : Bool := plainL (bl s) && decide ((s.size : Int) ≤ m)
theorem plainM_any (s : ByteArray) (m : Int) (w : World) (hs : s.size ≤ 1000000000) :
    Calls Tryd.prog 77 #[.string s, .int .i64 m] w fun e w' => e = .returned (.bool (plainM s m)) ∧ w = w' := l33Plain_any s m w hs
theorem toL (s : ByteArray) : s.toList = bl s := ByteArray.toList_eq s
theorem empty_of0 {s : ByteArray} (h : ¬ 1 ≤ s.size) : s.toList = [] := by rw [toL]; exact List.eq_nil_of_length_eq_zero (by rw [bl_size]; omega)
theorem empty_not {s : ByteArray} (h : 1 ≤ s.size) : s.toList ≠ [] := fun e => by rw [toL] at e; have := congrArg List.length e; rw [bl_size, List.length_nil] at this; omega
theorem Rec.ok_spec (e : Rec) : e.ok = (decide (1 ≤ e.c.size) && plainM e.c 160 && !hasB (bl e.c) 64 && plainM e.r 200) := by
  rw [Rec.ok_eq]
  unfold plainM
  have e1 : decide ((e.c.size : Int) ≤ 160) = decide (e.c.size ≤ 160) := by rw [Bool.eq_iff_iff]; simp; omega
  have e2 : decide ((e.r.size : Int) ≤ 200) = decide (e.r.size ≤ 200) := by rw [Bool.eq_iff_iff]; simp; omega
  rw [e1, e2]
  cases decide (1 ≤ e.c.size) <;> cases decide (e.c.size ≤ 160) <;> cases plainL (bl e.c) <;> cases hasB (bl e.c) 64 <;> cases plainL (bl e.r) <;> simp
theorem Rec.ok_impl (e : Rec) : e.ok = (inR e.c.size 1 160 && decide ((e.r.size : Int) ≤ 200) && plainL (bl e.c) && plainL (bl e.r) && !hasB (bl e.c) 64) := by
  rw [Rec.ok_eq]
  have e1 : inR e.c.size 1 160 = (decide (1 ≤ e.c.size) && decide (e.c.size ≤ 160)) := by rw [Bool.eq_iff_iff]; simp [inR]; omega
  have e2 : decide ((e.r.size : Int) ≤ 200) = decide (e.r.size ≤ 200) := by rw [Bool.eq_iff_iff]; simp; omega
  rw [e1, e2]
  cases decide (1 ≤ e.c.size) <;> cases decide (e.c.size ≤ 160) <;> cases plainL (bl e.c) <;> cases plainL (bl e.r) <;> cases hasB (bl e.c) 64 <;> simp
theorem contains1_any (s : ByteArray) (b : UInt8) (w : World) : Calls Tryd.prog 74 #[.string s, .string ⟨#[b]⟩] w fun e w' => e = .returned (.bool (hasB (bl s) b)) ∧ w = w' := by
  refine (Tryd.strings_Contains_one s b w).mono ?_
  rintro e w' ⟨rfl, rfl⟩
  refine ⟨?_, rfl⟩
  congr 2
  unfold hasB
  rw [← contains_one]
  unfold Lib.contains
  rw [Bool.eq_iff_iff]
  simp only [decide_eq_true_eq]
  have h1 : Lib.indexByte (bl s) b = Lib.index (bl s) [b] := by
    rcases index_one_or (bl s) b with ⟨hn, e⟩ | ⟨hy, e⟩
    · rw [e]
      rcases h : Lib.indexByte (bl s) b with n | n
      · exfalso; exact hn (List.mem_of_getElem? (Lib.indexByte_some (o := n) h).1)
      · have := Lib.indexByte_ge (bl s) b; rw [h] at this; omega
    · rw [e]
      have hge := Lib.indexByte_ge (bl s) b
      rcases Int.lt_or_le (Lib.indexByte (bl s) b) 0 with hlt | hge0
      · have : Lib.indexByte (bl s) b = -1 := by omega
        have h2 := Lib.indexByte_none this
        obtain ⟨k, hk, hk2⟩ := List.getElem_of_mem hy
        exact absurd (by rw [List.getElem?_eq_getElem hk, hk2]) (h2 k)
      · obtain ⟨n, hn⟩ := Int.eq_ofNat_of_zero_le hge0
        obtain ⟨h3, h4⟩ := Lib.indexByte_some hn
        rw [hn]
        have hp := parts_bef hy
        have h5 : (bl s)[(bef b (bl s)).length]? = some b := by
          have : (bef b (bl s) ++ b :: (bl s).drop ((bef b (bl s)).length + 1))[(bef b (bl s)).length]? = some b := by simp
          rwa [← hp] at this
        rcases Nat.lt_trichotomy n (bef b (bl s)).length with hlt | heq | hgt
        · exfalso
          have h6 : (bef b (bl s))[n]? = some b := by
            have : (bef b (bl s) ++ b :: (bl s).drop ((bef b (bl s)).length + 1))[n]? = some b := by rw [← hp]; exact h3
            rwa [List.getElem?_append_left hlt] at this
          exact bef_not b (bl s) (List.mem_of_getElem? h6)
        · rw [heq]
        · exact absurd h5 (h4 _ hgt)
  rw [show s.data.toList = bl s from rfl, h1]

set_option maxHeartbeats 2000000 in
theorem l33Good_any (e : Rec) (w : World) (h1 : e.c.size ≤ 1000000000) (h2 : e.r.size ≤ 1000000000) :
    Calls Tryd.prog 48 #[e.val] w fun en w' => en = .returned (.bool e.ok) ∧ Below w.heap.size w w' := by
  have hb0 := (Below.refl w.heap.size w).alloc (Nat.le_refl _) (.cells #[.string e.c, .string e.r] 45)
  have HO := Lib.hid e.ok_spec
  by_cases h0 : 1 ≤ e.c.size
  · have n1 := empty_not h0
    have n2 : (e.c.toList.isEmpty) = false := by simpa using n1
    have H0 : Hid (decide (1 ≤ e.c.size) = true) := decide_eq_true h0
    clear h0
    go_enter Tryd.func48, Tryd.ntmps48
    go_wp2_with (first | (go_at_call 77; refine (plainM_any _ _ _ (by assumption)).mono ?_; rintro e w' ⟨rfl, rfl⟩) | (go_at_call 78; refine (l1Stands_any _ 64 _ (by assumption)).mono ?_; rintro e w' ⟨rfl, rfl⟩))
    all_goals (go_ret; exact ⟨by rw [HO.out, H0.out]; simp [*], hb0⟩)
  · have n1 := empty_of0 h0
    have n2 : (e.c.toList.isEmpty) = true := by simp [n1]
    have H0 : Hid (decide (1 ≤ e.c.size) = false) := decide_eq_false h0
    clear h0
    go_enter Tryd.func48, Tryd.ntmps48
    go_wp2
    go_ret
    exact ⟨by rw [HO.out, H0.out]; rfl, hb0⟩

set_option maxHeartbeats 2000000 in
theorem isRecord_any (e : Rec) (w : World) (h1 : e.c.size ≤ 1000000000) (h2 : e.r.size ≤ 1000000000) :
    Calls Tryd.prog 45 #[e.val] w fun en w' => en = .returned (.bool e.ok) ∧ Below w.heap.size w w' := by
  have hb0 := (Below.refl w.heap.size w).alloc (Nat.le_refl _) (.cells #[.string e.c, .string e.r] 45)
  have HO := Lib.hid e.ok_impl
  go_enter Tryd.func45, Tryd.ntmps45
  go_wp2_with (first | (go_at_call 51; refine (inRange_any _ _ _ _).mono ?_; rintro e w' ⟨rfl, rfl⟩) | (go_at_call 73; refine (isPrintable_any _ _ (by assumption)).mono ?_; rintro e w' ⟨rfl, rfl⟩) | (go_at_call 74; refine (contains1_any _ 64 _).mono ?_; rintro e w' ⟨rfl, rfl⟩))
  all_goals (go_ret; refine ⟨?_, hb0⟩; rw [HO.out]; simp [*] <;> omega)
end Go.Proofs.YtojceibamgodbaaDoor
