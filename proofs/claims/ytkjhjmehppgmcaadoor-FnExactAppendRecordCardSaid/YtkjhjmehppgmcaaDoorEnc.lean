/- EncodeRecord: both sides and the law. -/
import Derived.Test.YtkjhjmehppgmcaaDoorLine
import Derived.Test.YtkjhjmehppgmcaaDoorRecTo
namespace Go.Proofs.YtkjhjmehppgmcaaDoor
open Go.RowKit

def encOk (k : Int) (e : Rec) : Bool := inR k 0 59 && e.ok
def encT (k : Int) (e : Rec) : ByteArray := if encOk k e then ⟨(lineL k.toNat (bl e.c) (bl e.r)).toArray⟩ else ⟨#[]⟩

set_option maxHeartbeats 1000000 in
theorem specEncode_any (k : Int) (e : Rec) (w : World) (h1 : e.c.size ≤ 1048576) (h2 : e.r.size ≤ 1048576) (hk : -9223372036854775808 ≤ k) (hk' : k ≤ 9223372036854775807) :
    Calls Tryd.prog 15 #[.int .i64 k, e.val] w fun en w' => en = .returned (.tuple #[.string (encT k e), .bool (encOk k e)]) ∧ Below w.heap.size w w' := by
  have b1 := (Below.refl w.heap.size w).alloc (Nat.le_refl _) (.cells #[.string e.c, .string e.r] 27)
  have L1 := Lies.new w 27 #[.string e.c, .string e.r]
  have HG := Lib.hid (fun W => l33Good_any e W (by omega) (by omega))
  cases hr : inR k 0 59
  · have HA : Hid (encOk k e = false) := by unfold encOk Hid; rw [hr]; rfl
    have HB : Hid (encT k e = ⟨#[]⟩) := by unfold encT Hid; rw [HA.out]; rfl
    have HR := Lib.hid hr; clear hr
    go_enter Tryd.func15, Tryd.ntmps15
    go_wp2_with (go_at_call 48; refine (l1In_any _ _ _ _).mono ?_; rw [HR.out]; rintro en w' ⟨rfl, rfl⟩)
    go_ret2
    exact ⟨by rw [HA.out, HB.out]; rfl, b1⟩
  · rw [inR_iff] at hr
    obtain ⟨n, rfl⟩ := Int.eq_ofNat_of_zero_le hr.1
    have HR : Hid (inR (n : Int) 0 59 = true) := by rw [Hid, inR_iff]; exact hr
    cases hok : e.ok
    · rw [hok] at HG
      have HA : Hid (encOk (n : Int) e = false) := by unfold encOk Hid; rw [hok]; simp
      have HB : Hid (encT (n : Int) e = ⟨#[]⟩) := by unfold encT Hid; rw [HA.out]; rfl
      clear hr hok
      go_enter Tryd.func15, Tryd.ntmps15
      go_wp2_with (first | (go_at_call 48; refine (l1In_any _ _ _ _).mono ?_; rw [HR.out]; rintro en w' ⟨rfl, rfl⟩) | (go_at_call 49; refine (HG.out _).mono ?_; rintro en w1 ⟨rfl, hb1⟩))
      go_ret2
      exact ⟨by first | (rw [HA.out, HB.out]; rfl) | (have h1 := HA.out; have h2 := HB.out; simp only [Int.ofNat_eq_natCast] at *; rw [h1, h2]; rfl), bthen b1 hb1⟩
    · rw [hok] at HG
      have HA : Hid (encOk (n : Int) e = true) := by unfold encOk Hid; rw [hok, HR.out]; rfl
      have HB : Hid (encT (n : Int) e = ⟨(lineL n (bl e.c) (bl e.r)).toArray⟩) := by unfold encT Hid; rw [HA.out, if_pos rfl, Int.toNat_natCast]
      have HLn : Hid (∀ W, Calls Tryd.prog 50 #[.int .i64 (n : Int), e.val] W fun en w' => en = .returned (.string (encT (n : Int) e)) ∧ Below W.heap.size W w') := fun W => by rw [HB.out]; exact l33Line_any n e W (by omega) (by have := (recOk_iff.1 hok).2.1; rw [bl_size] at this; omega) (by have := (recOk_iff.1 hok).2.2.2.2.2; rw [bl_size] at this; omega)
      clear hr hok
      go_enter Tryd.func15, Tryd.ntmps15
      go_wp2_with (first | (go_at_call 48; refine (l1In_any _ _ _ _).mono ?_; rw [HR.out]; rintro en w' ⟨rfl, rfl⟩))
      generalize w.alloc (.cells #[.string e.c, .string e.r] 27) = W at b1 L1 ⊢
      generalize hg : w.heap.size = g at L1 ⊢
      refine (HG.out _).mono ?_
      rintro en w1 ⟨rfl, hb1⟩
      have M1 := L1.below hb1 L1.lt
      have c0 := M1.cell 0
      have c1 := M1.cell 1
      simp only [List.getElem?_cons_zero, List.getElem?_cons_succ] at c0 c1
      go_wp2_with (go_at_call 50; refine (HLn.out _).mono ?_; rintro en w2 ⟨rfl, hb2⟩)
      go_ret2
      exact ⟨by rw [HA.out]; rfl, by rw [← hg] at *; exact bthen b1 (bthen hb1 hb2)⟩

set_option maxHeartbeats 1000000 in
theorem implEncode_any (k : Int) (e : Rec) (w : World) (h1 : e.c.size ≤ 1048576) (h2 : e.r.size ≤ 1048576) (hk : -9223372036854775808 ≤ k) (hk' : k ≤ 9223372036854775807) (ht : Tab w) :
    Calls Tryd.prog 17 #[.int .i64 k, e.val] w fun en w' => en = .returned (.tuple #[.string (encT k e), .bool (encOk k e)]) ∧ Below w.heap.size w w' := by
  have b1 := (Below.refl w.heap.size w).alloc (Nat.le_refl _) (.cells #[.string e.c, .string e.r] 27)
  have L1 := Lies.new w 27 #[.string e.c, .string e.r]
  have ht1 := ht.then b1
  have HG := Lib.hid (fun W => isRecord_any e W (by omega) (by omega))
  cases hr : inR k 0 59
  · have HA : Hid (encOk k e = false) := by unfold encOk Hid; rw [hr]; rfl
    have HB : Hid (encT k e = ⟨#[]⟩) := by unfold encT Hid; rw [HA.out]; rfl
    have HR := Lib.hid hr; clear hr
    go_enter Tryd.func17, Tryd.ntmps17
    go_wp2_with (go_at_call 51; refine (inRange_any _ _ _ _).mono ?_; rw [HR.out]; rintro en w' ⟨rfl, rfl⟩)
    go_ret2
    exact ⟨by rw [HA.out, HB.out]; rfl, b1⟩
  · rw [inR_iff] at hr
    obtain ⟨n, rfl⟩ := Int.eq_ofNat_of_zero_le hr.1
    have HR : Hid (inR (n : Int) 0 59 = true) := by rw [Hid, inR_iff]; exact hr
    cases hok : e.ok
    · rw [hok] at HG
      have HA : Hid (encOk (n : Int) e = false) := by unfold encOk Hid; rw [hok]; simp
      have HB : Hid (encT (n : Int) e = ⟨#[]⟩) := by unfold encT Hid; rw [HA.out]; rfl
      clear hr hok
      go_enter Tryd.func17, Tryd.ntmps17
      go_wp2_with (first | (go_at_call 51; refine (inRange_any _ _ _ _).mono ?_; rw [HR.out]; rintro en w' ⟨rfl, rfl⟩) | (go_at_call 52; refine (HG.out _).mono ?_; rintro en w1 ⟨rfl, hb1⟩))
      go_ret2
      exact ⟨by rw [HA.out, HB.out]; rfl, bthen b1 hb1⟩
    · rw [hok] at HG
      have HA : Hid (encOk (n : Int) e = true) := by unfold encOk Hid; rw [hok, HR.out]; rfl
      have HB : Hid (encT (n : Int) e = ⟨(lineL n (bl e.c) (bl e.r)).toArray⟩) := by unfold encT Hid; rw [HA.out, if_pos rfl, Int.toNat_natCast]
      have HLn : Hid (∀ W, Tab W → Calls Tryd.prog 53 #[.int .i64 (n : Int), e.val] W fun en w' => en = .returned (.string (encT (n : Int) e)) ∧ Below W.heap.size W w') := fun W hW => by rw [HB.out]; exact encodeRecord_any n e W (by omega) hok hW
      clear hr hok
      go_enter Tryd.func17, Tryd.ntmps17
      go_wp2_with (first | (go_at_call 51; refine (inRange_any _ _ _ _).mono ?_; rw [HR.out]; rintro en w' ⟨rfl, rfl⟩))
      generalize w.alloc (.cells #[.string e.c, .string e.r] 27) = W at b1 L1 ht1 ⊢
      generalize hg : w.heap.size = g at L1 ⊢
      refine (HG.out _).mono ?_
      rintro en w1 ⟨rfl, hb1⟩
      have M1 := L1.below hb1 L1.lt
      have c0 := M1.cell 0
      have c1 := M1.cell 1
      simp only [List.getElem?_cons_zero, List.getElem?_cons_succ] at c0 c1
      have ht2 := ht1.then hb1
      go_wp2_with (go_at_call 53; refine (HLn.out _ ht2).mono ?_; rintro en w2 ⟨rfl, hb2⟩)
      go_ret2
      exact ⟨by rw [HA.out]; rfl, by rw [← hg] at *; exact bthen b1 (bthen hb1 hb2)⟩

theorem lessR_ok {n : Nat} (h : (n : Int) ≤ 1048576) : lessR 1048576 n = 1048576 - n := by unfold lessR; rw [if_pos h]
theorem lessR_no {n : Nat} (h : ¬ (n : Int) ≤ 1048576) : lessR 1048576 n = -1 := by unfold lessR; rw [if_neg h]

set_option maxHeartbeats 1000000 in
theorem lawEncodeRecord_any (k : Int) (hk : -9223372036854775808 ≤ k) (hk' : k ≤ 9223372036854775807) (e : Rec) (w : World) (h1 : e.c.size ≤ 9223372036854775807) (h2 : e.r.size ≤ 9223372036854775807) (ht : Tab w) :
    Calls Tryd.prog 3 #[.int .i64 k, e.val] w fun en w' => en = .returned (.bool true) ∧ Below w.heap.size w w' := by
  have b1 := (Below.refl w.heap.size w).alloc (Nat.le_refl _) (.cells #[.string e.c, .string e.r] 23)
  have L1 := Lies.new w 23 #[.string e.c, .string e.r]
  have ht1 := ht.then b1
  by_cases hbig : (e.need : Int) ≤ 1048576
  · have HS := Lib.hid (lessR_ok hbig)
    have hc : e.c.size ≤ 1048576 := by unfold Rec.need at hbig; omega
    have hr : e.r.size ≤ 1048576 := by unfold Rec.need at hbig; omega
    have hn0 : decide ((1048576 : Int) - (e.need : Int) < 0) = false := decide_eq_false (by omega)
    have cS := fun W => specEncode_any k e W hc hr hk hk'
    have cI := fun W hW => implEncode_any k e W hc hr hk hk' hW
    generalize encOk k e = ok at cS cI
    generalize encT k e = tx at cS cI
    have hbo : (ok != ok) = false := by simp
    clear hbig
    go_enter Tryd.func3, Tryd.ntmps3
    go_wp2_with fail
    generalize w.alloc (.cells #[.string e.c, .string e.r] 23) = W at b1 L1 ht1 ⊢
    generalize hg : w.heap.size = g at L1 ⊢
    refine (szLogRecord_any e _ _ h1 h2 (by omega) (by omega)).mono ?_
    rintro en w1 ⟨rfl, hb1⟩
    rw [HS.out]
    have M1 := L1.below hb1 L1.lt
    have c0 := M1.cell 0
    have c1 := M1.cell 1
    simp only [List.getElem?_cons_zero, List.getElem?_cons_succ] at c0 c1
    go_wp2_with fail
    refine (toLogRecord_any e _).mono ?_
    rintro en w2 ⟨rfl, hb2⟩
    have M2 := M1.below hb2 M1.lt
    go_wp2_with fail
    refine (cS _).mono ?_
    rintro en w3 ⟨rfl, hb3⟩
    have M3 := M2.below hb3 M2.lt
    clear c0 c1
    have c0 := M3.cell 0
    have c1 := M3.cell 1
    simp only [List.getElem?_cons_zero, List.getElem?_cons_succ] at c0 c1
    have ht3 := ((ht1.then hb1).then hb2).then hb3
    go_wp2_with fail
    refine (toLogRecord_any e _).mono ?_
    rintro en w4 ⟨rfl, hb4⟩
    go_wp2_with fail
    refine (cI _ (ht3.then hb4)).mono ?_
    rintro en w5 ⟨rfl, hb5⟩
    go_wp2
    go_ret
    exact ⟨rfl, by rw [← hg] at *; exact bthen b1 (bthen hb1 (bthen hb2 (bthen hb3 (bthen hb4 hb5))))⟩
  · have HS := Lib.hid (lessR_no hbig)
    clear hbig
    go_enter Tryd.func3, Tryd.ntmps3
    go_wp2_with fail
    refine (szLogRecord_any e _ _ h1 h2 (by omega) (by omega)).mono ?_
    rintro en w1 ⟨rfl, hb1⟩
    rw [HS.out]
    go_wp2
    go_ret
    exact ⟨rfl, bthen b1 hb1⟩
end Go.Proofs.YtkjhjmehppgmcaaDoor
