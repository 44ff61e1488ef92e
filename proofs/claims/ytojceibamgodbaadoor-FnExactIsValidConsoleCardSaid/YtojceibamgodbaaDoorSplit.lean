/- The parts of a text between bytes, in the reference (l1Split). -/
import Derived.Test.YtojceibamgodbaaDoorBl
import Derived.Test.YtojceibamgodbaaDoorOwnR
import Derived.Test.YtojceibamgodbaaDoorProg
namespace Go.Proofs.YtojceibamgodbaaDoor
open Go.RowKit

def partsL (b : UInt8) : List UInt8 → List UInt8 → List (List UInt8)
  | cur, [] => [cur]
  | cur, x :: l => if x = b then cur :: partsL b [] l else partsL b (cur ++ [x]) l
def splitL (b : UInt8) (s : List UInt8) : List (List UInt8) := partsL b [] s
theorem parts_free {b : UInt8} : ∀ {l cur : List UInt8}, b ∉ l → partsL b cur l = [cur ++ l]
  | [], _, _ => by simp [partsL]
  | x :: l, cur, h => by
    simp only [List.mem_cons, not_or] at h
    rw [partsL, if_neg (Ne.symm h.1), parts_free h.2]; simp
theorem parts_mid {b : UInt8} {r : List UInt8} : ∀ {t cur : List UInt8}, b ∉ t → partsL b cur (t ++ b :: r) = (cur ++ t) :: partsL b [] r
  | [], _, _ => by simp [partsL]
  | x :: t, cur, h => by
    simp only [List.mem_cons, not_or] at h
    rw [List.cons_append, partsL, if_neg (Ne.symm h.1), parts_mid h.2]; simp
theorem split_free {b : UInt8} {l : List UInt8} (h : b ∉ l) : splitL b l = [l] := by unfold splitL; rw [parts_free h]; rfl
theorem split_mid {b : UInt8} {t r : List UInt8} (h : b ∉ t) : splitL b (t ++ b :: r) = t :: splitL b r := by unfold splitL; rw [parts_mid h]; rfl
theorem parts_ne (b : UInt8) : ∀ (l cur : List UInt8), partsL b cur l ≠ []
  | [], _ => by simp [partsL]
  | x :: l, cur => by
    unfold partsL; split
    · simp
    · exact parts_ne b l _
theorem parts_len (b : UInt8) : ∀ (l cur : List UInt8), (partsL b cur l).length ≤ l.length + 1
  | [], _ => by simp [partsL]
  | x :: l, cur => by
    unfold partsL; split
    · have := parts_len b l []; simp; omega
    · have := parts_len b l (cur ++ [x]); simp; omega
theorem split_head (b : UInt8) (s : List UInt8) : ∃ ps, splitL b s = bef b s :: ps ∧ (ps = [] ↔ b ∉ s) := by
  rcases bef_or b s with ⟨h1, h2⟩ | ⟨r, h⟩
  · exact ⟨[], by rw [split_free h1, h2], by simp [h1]⟩
  · refine ⟨splitL b r, ?_, ?_⟩
    · have h1 := split_mid (r := r) (bef_not b s)
      rw [← h] at h1; exact h1
    · constructor
      · intro e; exact absurd e (parts_ne b r [])
      · intro hn; exact absurd (by rw [h]; simp) hn

def texts (ps : List (List UInt8)) : List Value := ps.map fun p => Value.string ⟨p.toArray⟩
theorem texts_len (ps : List (List UInt8)) : (texts ps).length = ps.length * 1 := by simp [texts]
theorem infoText : (Tryd.prog.info? 9).map (fun i => (i.zero, i.size, i.bytes)) = some (some (.string ⟨#[]⟩), 1, 16) := by kernel_rfl
theorem parts_step {s : ByteArray} {f i : Nat} {b : UInt8} (hfi : f ≤ i) (hi : i < s.size) :
    partsL b (((bl s).take i).drop f) ((bl s).drop i) = if s[i] = b then ((bl s).take i).drop f :: partsL b (((bl s).take (i + 1)).drop (i + 1)) ((bl s).drop (i + 1)) else partsL b (((bl s).take (i + 1)).drop f) ((bl s).drop (i + 1)) := by
  rw [bl_drop hi, partsL]
  have e1 : ((bl s).take (i + 1)).drop (i + 1) = [] := List.drop_eq_nil_of_le (by rw [List.length_take]; omega)
  have e2 : ((bl s).take (i + 1)).drop f = ((bl s).take i).drop f ++ [s[i]] := by
    rw [bl_take hi, List.drop_append_of_le_length (by rw [List.length_take, bl_size]; omega)]
  rw [e1, e2]

set_option maxRecDepth 100000 in
set_option maxHeartbeats 4000000 in
theorem l1Split_any (s : ByteArray) (b : UInt8) (w : World) (hs : s.size ≤ 100000000) :
    Calls Tryd.prog 83 #[.string s, .int .u8 b.toNat] w fun e w' => ∃ A c, e = .returned (.slice A (splitL b (bl s)).length c) ∧ w'.ownsRow w.heap.size 9 1 (.slice A (splitL b (bl s)).length c) (splitL b (bl s)).length (texts (splitL b (bl s))) ∧ Below w.heap.size w w' := by
  have b0 := (Below.refl w.heap.size w).alloc (Nat.le_refl _) (.cells #[] 9)
  have O0 : Hid ((w.alloc (.cells #[] 9)).ownsRow w.heap.size 9 1 (.slice (some ⟨w.heap.size, 0, none⟩) 0 0) 0 (texts [])) := owns_empty (Lies.new w 9 #[]) (Nat.le_refl _)
  have HPL : Hid (∀ l cur : List UInt8, (partsL b cur l).length ≤ l.length + 1) := parts_len b
  go_enter Tryd.func83, Tryd.ntmps83
  go_wp2
  go_loopw [5, 6, 7] (fun o fr i wr => ∃ (f k : Nat) (A : Option Addr) (c : Nat) (ps : List (List UInt8)), f ≤ k ∧ k ≤ s.size ∧ ps.length ≤ k ∧ o = .slice A ps.length c ∧ fr = .int .i64 f ∧ i = .int .i64 k ∧ (∃ q : Since w.heap.size w, wr = q.val) ∧
    Hid (splitL b (bl s) = ps ++ partsL b (((bl s).take k).drop f) ((bl s).drop k)) ∧ Hid (wr.ownsRow w.heap.size 9 1 (.slice A ps.length c) ps.length (texts ps))) (fun _ _ i _ => s.size - (intOf i).toNat)
  case atStart => exact ⟨0, 0, some ⟨w.heap.size, 0, none⟩, 0, [], Nat.le_refl _, Nat.zero_le _, by simp, rfl, rfl, rfl, ⟨⟨_, b0⟩, rfl⟩, rfl, O0⟩
  case round =>
    obtain ⟨f, k, A, c, ps, hfk, hk, hps, rfl, rfl, rfl, ⟨q, rfl⟩, HF, HR⟩ := hrel
    have hqs := q.size
    by_cases hlt : k < s.size
    · have HST := Lib.hid (parts_step (b := b) hfk hlt)
      have hq := @u8_eq s[k] b
      have i1 : (f : Int) ≤ (k : Int) := by omega
      have i2 : (k : Int) ≤ (s.size : Int) := by omega
      by_cases heq : s[k] = b
      · rw [if_pos heq] at HST
        rw [decide_eq_true heq] at hq
        have HB : Hid (bl (s.extract f k) = ((bl s).take k).drop f) := bl_extract _ _ _
        clear heq
        go_wp2_with (at_builtin; refine wpList_push (w0 := q.val) rfl (.tmp 20) (.tmp 25) 108 rfl 9 (.string ⟨#[]⟩) 1 16 Tryd.underlying108 infoText rfl (by omega) (by omega) w.heap.size _ _ _ rfl HR #[.string (s.extract f k)] 1 _ rfl (by first | rfl | simp | exact Array.size_push _) rfl (by simp [Value.oneCell']) (by omega) hqs rfl rfl rfl rfl ?_; intro v5 w5 HO5 hg5 hb5)
        obtain ⟨A5, c5, hv5⟩ := ownsRow_slice HO5.out
        subst hv5
        go_roundw
        case rel =>
          refine ⟨k + 1, k + 1, A5, c5, ps ++ [((bl s).take k).drop f], Nat.le_refl _, by omega, by simp; omega, by simp, by go_num, by go_num, ⟨q.go' hb5, rfl⟩, ?_, ?_⟩
          · have h1 := HF.out; rw [HST.out] at h1; rw [Hid, h1]; simp
          · have h1 := HO5.out; rw [Hid]
            have h2 : texts (ps ++ [((bl s).take k).drop f]) = texts ps ++ [Value.string (s.extract f k)] := by unfold texts; rw [List.map_append, ← HB.out]; simp [← bl_ext rfl]
            rw [h2]; simpa using h1
        case measure => simp [intOf]; omega
      · rw [if_neg heq] at HST
        rw [decide_eq_false heq] at hq
        clear heq
        go_wp2
        go_roundw
        case rel => exact ⟨f, k + 1, A, c, ps, by omega, by omega, by omega, rfl, rfl, by go_num, ⟨q, rfl⟩, by have h1 := HF.out; rw [HST.out] at h1; exact h1, HR⟩
        case measure => simp [intOf]; omega
    · obtain rfl : k = s.size := by omega
      have i1 : (f : Int) ≤ (s.size : Int) := by omega
      have HB : Hid (bl (s.extract f s.size) = ((bl s).take s.size).drop f) := bl_extract _ _ _
      have HF2 : Hid (splitL b (bl s) = ps ++ [((bl s).take s.size).drop f]) := by
        have h1 := HF.out
        have e0 : (bl s).drop s.size = [] := List.drop_eq_nil_of_le (by rw [bl_size]; exact Nat.le_refl _)
        rw [e0] at h1; exact h1
      go_wp2_with (at_builtin; refine wpList_push (w0 := q.val) rfl (.tmp 29) (.tmp 33) 108 rfl 9 (.string ⟨#[]⟩) 1 16 Tryd.underlying108 infoText rfl (by omega) (by omega) w.heap.size _ _ _ rfl HR #[.string (s.extract f s.size)] 1 _ rfl (by first | rfl | simp | exact Array.size_push _) rfl (by simp [Value.oneCell']) (by omega) hqs rfl rfl rfl rfl ?_; intro v5 w5 HO5 hg5 hb5)
      obtain ⟨A5, c5, hv5⟩ := ownsRow_slice HO5.out
      subst hv5
      go_ret
      have h2 : texts (ps ++ [((bl s).take s.size).drop f]) = texts ps ++ [Value.string (s.extract f s.size)] := by unfold texts; rw [List.map_append, ← HB.out]; simp [← bl_ext rfl]
      rw [HF2.out, h2]
      refine ⟨A5, c5, by simp, ?_, (q.go' hb5).below⟩
      have h1 := HO5.out
      simpa using h1
end Go.Proofs.YtojceibamgodbaaDoor
