/- The numbers of a list as words, joined (the program's joinInts). -/
import Derived.Test.YtjdedcalbcnkmaaDoorShortText
import Derived.Test.YtjdedcalbcnkmaaDoorOwn
import Derived.Test.YtjdedcalbcnkmaaDoorJoinb
namespace Go.Proofs.YtjdedcalbcnkmaaDoor
open Go.RowKit

def strs (l : List (List UInt8)) : List Value := l.map fun b => .string ⟨b.toArray⟩
theorem strs_push (l : List (List UInt8)) (b : List UInt8) : strs (l ++ [b]) = strs l ++ [.string ⟨b.toArray⟩] := by simp [strs]
theorem strs_len (l : List (List UInt8)) : (strs l).length = l.length := by simp [strs]
theorem infoString : (Tryd.prog.info? 9).map (fun i => (i.zero, i.size, i.bytes)) = some (some (.string ⟨#[]⟩), 1, 16) := by kernel_rfl
theorem take_push {α : Type} {l : List α} {k : Nat} (h : k < l.length) : l.take (k + 1) = l.take k ++ [l[k]] := by simp

theorem ownsRow_then {w w' : World} {B : Nat} {e : TypeId} {k : Nat} {v : Value} {n : Nat} {xs : List Value} (h : w.ownsRow B e k v n xs) (hb : Below w.heap.size w w') : w'.ownsRow B e k v n xs := by
  unfold World.ownsRow at *
  obtain ⟨hl, h | ⟨g, cap, cells, hv, hB, hg, r⟩⟩ := h
  · exact ⟨hl, Or.inl h⟩
  · exact ⟨hl, Or.inr ⟨g, cap, cells, hv, hB, (hb.block g (Lies.lt (cs := cells.toList) hg)).trans hg, r⟩⟩
/-- strings.Join of an own slice of words. -/
theorem join_any (l : List (List UInt8)) (A : Option Addr) (c B : Nat) (sep : ByteArray) (w : World) (h : w.ownsRow B 9 1 (.slice A l.length c) l.length (strs l))
    (hn : l.length ≤ 1000000) (hlen : (Lib.join l (bl sep)).length ≤ 1000000000) :
    Calls Tryd.prog 40 #[.slice A l.length c, .string sep] w fun e w' => e = .returned (.string ⟨(Lib.join l (bl sep)).toArray⟩) ∧ Below w.heap.size w w' := by
  obtain ⟨hl, ⟨h0, h1⟩ | ⟨g, cap, cells, hv, hB, hg, h5, h6, h7, h8⟩⟩ := h
  · have hl0 : l = [] := List.eq_nil_of_length_eq_zero (by omega)
    subst hl0
    exact (Tryd.strings_Join_none A c sep w).mono fun e w' ⟨he, hw⟩ => ⟨he, hw ▸ Below.refl _ _⟩
  · injection hv with hA hn' hc
    subst hA; subst hc
    have hx : (l.map fun b => (⟨b.toArray⟩ : ByteArray)).length = l.length := by simp
    have hm : (l.map fun b => (⟨b.toArray⟩ : ByteArray)).map (·.data.toList) = l := by simp [List.map_map, Function.comp_def]
    have hJ := Tryd.strings_Join g 0 c (l.map fun b => (⟨b.toArray⟩ : ByteArray)) sep w (fun j x hj => by
      have hjl : j < l.length := by have := (List.getElem?_eq_some_iff.1 hj).1; simpa using this
      have hq : (strs l)[j]? = some (.string x) := by
        rw [strs, List.getElem?_map]; rw [List.getElem?_map] at hj
        rw [List.getElem?_eq_getElem hjl] at hj ⊢
        simpa using hj
      rw [← h8, List.getElem?_take_of_lt (by omega)] at hq
      rw [Nat.zero_add, (Lies.cell (cs := cells.toList) hg j)]
      exact hq) (Lies.lt (cs := cells.toList) hg) (by rw [hx]; omega) (by rw [hx]; exact h5) (by rw [hm]; have := hlen; unfold bl at this; omega)
    rw [hm, hx] at hJ
    exact hJ
theorem joinTail_le (sep : List UInt8) (m : Nat) : ∀ l : List (List UInt8), (∀ x ∈ l, x.length ≤ m) → (Lib.joinTail sep l).length ≤ l.length * (sep.length + m)
  | [], _ => by simp [Lib.joinTail]
  | x :: l, h => by
    have h1 := joinTail_le sep m l fun y hy => h y (List.mem_cons_of_mem _ hy)
    have h2 := h x List.mem_cons_self
    have e : Lib.joinTail sep (x :: l) = sep ++ x ++ Lib.joinTail sep l := by simp [Lib.joinTail]
    rw [e, List.length_append, List.length_append, List.length_cons, Nat.succ_mul]; omega
theorem join_le (sep : List UInt8) (m : Nat) (l : List (List UInt8)) (h : ∀ x ∈ l, x.length ≤ m) : (Lib.join l sep).length ≤ l.length * (sep.length + m) := by
  cases l with
  | nil => simp [Lib.join_nil]
  | cons x l =>
    have h1 := joinTail_le sep m l fun y hy => h y (List.mem_cons_of_mem _ hy)
    have h2 := h x List.mem_cons_self
    rw [Lib.join_cons, List.length_append, List.length_cons, Nat.succ_mul]; omega

set_option maxHeartbeats 2000000 in
theorem joinInts_any (A : Option Addr) (c : Nat) (l : List Int) (sep : ByteArray) (w : World) (h : IntsR w w.heap.size A l) (hl9 : l.length ≤ 9)
    (hr : ∀ i (hi : i < l.length), 1 ≤ l[i] ∧ l[i] ≤ 9) (hs : sep.size ≤ 10) (ht : Tab w) :
    Calls Tryd.prog 37 #[.slice A l.length c, .string sep] w fun e w' => e = .returned (.string ⟨(Lib.join (l.map Lib.itoa) (bl sep)).toArray⟩) ∧ Below w.heap.size w w' := by
  have hl := h.big
  have hrd := IntsR.ints h
  have hjl : (Lib.join (l.map Lib.itoa) (bl sep)).length ≤ 1000000000 := by
    have h1 := join_le (bl sep) 100 (l.map Lib.itoa) fun x hx => by
      obtain ⟨n, hn, rfl⟩ := List.mem_map.1 hx
      obtain ⟨i, hi, rfl⟩ := List.getElem_of_mem hn
      exact itoa_len' (by have := hr i hi; omega) (by have := hr i hi; omega)
    rw [bl_size, List.length_map] at h1
    have h2 : l.length * (sep.size + 100) ≤ 9 * 110 := Nat.mul_le_mul hl9 (by omega)
    omega
  replace hr := Lib.hid hr
  go_enter Tryd.func37, Tryd.ntmps37
  go_wp2_with fail
  go_loopw [5, 10] (fun out i wr => ∃ (k : Nat), k ≤ l.length ∧ i = .int .i64 k ∧ Hid (wr.ownsRow w.heap.size 9 1 out k (strs ((l.take k).map Lib.itoa))) ∧ (Below w.heap.size w wr)) (fun _ i _ => l.length - (intOf i).toNat)
  case atStart => exact ⟨0, Nat.zero_le _, rfl, (World.ownsRow_nil _ _ _ _), Below.refl _ _⟩
  case round =>
    obtain ⟨k, hk, rfl, HO, hbr⟩ := hrel
    obtain ⟨q, rfl⟩ : ∃ q : Since w.heap.size w, wr = q.val := ⟨⟨wr, hbr⟩, rfl⟩
    by_cases hlt : k < l.length
    · obtain ⟨b, off, rfl, hb, hcell⟩ := hrd (by omega)
      have c0 := hcell k hlt
      obtain ⟨f1, f2⟩ := hr.out k hlt
      have HT := Lib.hid (take_push hlt)
      obtain ⟨f, hfe⟩ : ∃ f, f = l[k] := ⟨_, rfl⟩
      rw [← hfe] at c0 f1 f2 HT
      clear hfe hcell hrd
      obtain ⟨fv, hfv⟩ : ∃ s : ByteArray, s = ⟨(Lib.itoa f).toArray⟩ := ⟨_, rfl⟩
      have HQ := ht.at q
      have NUMF : ∀ W : World, Tab W → Calls Tryd.prog 36 #[.int .i64 f] W fun e w' => e = .returned (.string fv) ∧ Below W.heap.size W w' := by
        intro W hW; rw [hfv]; exact itoa_any _ _ (by omega) (by omega) hW
      replace NUMF := Lib.hid NUMF
      have HFV := Lib.hid hfv; clear hfv
      go_wp2_with (first
        | (go_at_call 36; refine (NUMF.out _ HQ).mono ?_; rintro e w4 ⟨rfl, hb4⟩; have hb5 : Below w.heap.size w w4 := hbr.trans (hb4.mono hbr.size); have HO4 := Lib.hid (ownsRow_then HO.out hb4); have hs4 := hb5.size)
        | (at_builtin; refine wpList_push (w0 := w4) rfl _ _ 52 rfl 9 (.string ⟨#[]⟩) 1 16 Tryd.underlying52 infoString rfl (by decide) (by omega) w.heap.size _ _ _ rfl HO4 #[.string fv] 1 _ rfl (by first | rfl | exact Array.size_push _) rfl (by simp [Value.oneCell']) (by omega) hs4 rfl rfl rfl rfl ?_; intro v' w6 HO6 hg6 hb6))
      obtain ⟨A3, c3, rfl⟩ := ownsRow_slice HO6.out
      go_wp2
      go_roundw
      case rel => exact ⟨k + 1, by omega, by go_num, by rw [HT.out, List.map_append, List.map_cons, List.map_nil, strs_push, ← HFV.out]; exact HO6, hb5.trans hb6⟩
      case measure => simp [intOf]; omega
    · have ek : k = l.length := by omega
      subst ek
      rw [List.take_length] at HO
      obtain ⟨A3, c3, rfl⟩ := ownsRow_slice HO.out
      clear hrd
      have HJ := Lib.hid (join_any (l.map Lib.itoa) A3 c3 w.heap.size sep)
      rw [List.length_map] at HJ
      go_wp2_with (go_at_call 40; refine (HJ.out _ HO.out (by omega) hjl).mono ?_; rintro e w7 ⟨rfl, hb7⟩)
      go_ret
      exact ⟨rfl, hbr.trans (hb7.mono hbr.size)⟩
end Go.Proofs.YtjdedcalbcnkmaaDoor
