/- Lines of records, in the reference and in the program; verified texts. -/
import Derived.Test.YtojceibamgodbaaDoorSum
namespace Go.Proofs.YtojceibamgodbaaDoor
open Go.RowKit

set_option maxHeartbeats 2000000 in
theorem l33Line_any (k : Nat) (e : Rec) (w : World) (hk : k ≤ 1000) (h1 : e.c.size ≤ 1000000) (h2 : e.r.size ≤ 1000000) :
    Calls Tryd.prog 49 #[.int .i64 k, e.val] w fun en w' => en = .returned (.string ⟨(lineL k (bl e.c) (bl e.r)).toArray⟩) ∧ Below w.heap.size w w' := by
  have b1 := (Below.refl w.heap.size w).alloc (Nat.le_refl _) (.cells #[.string e.c, .string e.r] 45)
  have L1 := Lies.new w 45 #[.string e.c, .string e.r]
  obtain ⟨t, ht⟩ : ∃ t : ByteArray, t = ⟨(Lib.itoa (k : Int)).toArray⟩ := ⟨_, rfl⟩
  have hts : t.size ≤ 100 := by rw [ht]; exact itoa_len (by omega) (by omega)
  have HN : Hid (∀ W, Calls Tryd.prog 80 #[.int .i64 k] W fun e w' => e = .returned (.string t) ∧ Below W.heap.size W w') := fun W => by rw [ht]; exact l1Num_any (k : Int) W (by omega) (by omega)
  have HT : Hid (bl t = Lib.itoa (k : Int)) := by rw [ht, Hid, bl_mk]
  clear ht
  obtain ⟨x, hx⟩ : ∃ x : ByteArray, x = t ++ ⟨#[32]⟩ ++ e.c ++ ⟨#[64]⟩ ++ e.r := ⟨_, rfl⟩
  have hxs : x.size ≤ 3000000 := by rw [hx]; simp only [size_app]; (have e1 : (⟨#[32]⟩ : ByteArray).size = 1 := rfl); (have e2 : (⟨#[64]⟩ : ByteArray).size = 1 := rfl); omega
  obtain ⟨z, hz⟩ : ∃ z : ByteArray, z = ⟨(sealL (bl x)).toArray⟩ := ⟨_, rfl⟩
  have hzs : z.size ≤ 4000000 := by rw [← bl_size, hz, bl_mk]; have := seal_len (bl x); rw [bl_size] at this; omega
  have HSl : Hid (∀ W, Calls Tryd.prog 79 #[.string (t ++ ⟨#[32]⟩ ++ e.c ++ ⟨#[64]⟩ ++ e.r)] W fun e w' => e = .returned (.string z) ∧ Below W.heap.size W w') := fun W => by rw [hz, ← hx]; exact l1Seal_any x W (by omega)
  have HF : Hid (bl (z ++ ⟨#[10]⟩) = lineL k (bl e.c) (bl e.r)) := by
    rw [Hid, bl_app, hz, bl_mk, hx]
    unfold lineL txtL
    simp [bl_app, bl_lit, HT.out]
  clear hz hx
  have z1 : (⟨#[32]⟩ : ByteArray).size = 1 := rfl
  have z2 : (⟨#[64]⟩ : ByteArray).size = 1 := rfl
  have z3 : (⟨#[10]⟩ : ByteArray).size = 1 := rfl
  go_enter Tryd.func49, Tryd.ntmps49
  go_wp2_with fail
  generalize w.alloc (.cells #[.string e.c, .string e.r] 45) = W at b1 L1 ⊢
  generalize hg : w.heap.size = g at L1 ⊢
  have c0 : ∀ p : Since W.heap.size W, p.val.cell? ⟨g, 0, none⟩ = some (.string e.c) := fun p => (p.cell L1.lt).trans (L1.cell 0)
  have c1 : ∀ p : Since W.heap.size W, p.val.cell? ⟨g, 1, none⟩ = some (.string e.r) := fun p => (p.cell L1.lt).trans (L1.cell 1)
  clear L1
  refine wp_region_since0 (by kernel_rfl) (by kernel_rfl) ?_
  repeat (any_goals (first | go_big_quiet_step ((first | (go_at_call 80; refine calls_since (Nat.le_refl _) (HN.out _)) | (go_at_call 79; refine calls_since (Nat.le_refl _) (HSl.out _)))) | (refine wpQuiet_step (fun K hK => ?_); go_simp; split <;> (refine hK _ ?_; clear hK K))))
  all_goals (refine wpQuiet_nil ?_; rintro _ ⟨q1, rfl⟩)
  go_wp2
  go_ret
  exact ⟨str_eq HF.out, by rw [← hg] at *; exact bthen b1 q1.below⟩

/-! ### The program's seal -/
def appOk (s : ByteArray) : Bool := decide (s.size ≤ 4000) && !hasB (bl s) 35 && decide ((sealL (bl s)).length ≤ 4000)
def appT (s : ByteArray) : ByteArray := if appOk s then ⟨(sealL (bl s)).toArray⟩ else ⟨#[]⟩

set_option maxHeartbeats 2000000 in
theorem appendChecksum_any (s : ByteArray) (w : World) (hs : s.size ≤ 1000000000) (ht : Tab w) :
    Calls Tryd.prog 75 #[.string s] w fun e w' => e = .returned (.tuple #[.string (appT s), .bool (appOk s)]) ∧ Below w.heap.size w w' := by
  have HC := Lib.hid (fun W => checksum_any s W hs)
  by_cases h4 : s.size ≤ 4000
  · rw [if_pos h4, decide_eq_true h4] at HC
    have HSt := Lib.hid (contains1_any s 35)
    cases hh : hasB (bl s) 35
    · rw [hh] at HSt
      have hl := sumL_lt (bl s)
      obtain ⟨t, htt⟩ : ∃ t : ByteArray, t = ⟨(Lib.itoa (sumL (bl s) : Int)).toArray⟩ := ⟨_, rfl⟩
      have hts : t.size ≤ 100 := by rw [htt]; exact itoa_len (by omega) (by omega)
      have HN : Hid (∀ W, Tab W → Calls Tryd.prog 76 #[.int .i64 (sumL (bl s) : Int)] W fun e w' => e = .returned (.string t) ∧ Below W.heap.size W w') := fun W hW => by rw [htt]; exact itoa_any _ W (by omega) (by omega) hW
      have HT : Hid (bl t = Lib.itoa (sumL (bl s) : Int)) := by rw [htt, Hid, bl_mk]
      clear htt
      have z1 : (⟨#[35]⟩ : ByteArray).size = 1 := rfl
      have HFin : Hid (bl (s ++ ⟨#[35]⟩ ++ t) = sealL (bl s)) := by
        rw [Hid, bl_app, bl_app, HT.out]; unfold sealL; simp [bl_lit]
      have HLn : Hid ((s ++ ⟨#[35]⟩ ++ t).size = (sealL (bl s)).length) := by rw [Hid, ← bl_size, HFin.out]
      have HZ : Hid ((s ++ ⟨#[35]⟩ ++ t).size = s.size + 1 + t.size) := by rw [Hid, size_app, size_app]; rfl
      have HA : Hid (appOk s = decide ((sealL (bl s)).length ≤ 4000)) := by unfold appOk Hid; rw [hh, decide_eq_true h4]; rfl
      clear hh h4
      by_cases h5 : s.size + 1 + t.size ≤ 4000
      · have HA2 : Hid (appOk s = true) := by rw [Hid, HA.out, ← HLn.out, HZ.out]; exact decide_eq_true h5
        have HA3 : Hid (appT s = s ++ ⟨#[35]⟩ ++ t) := by unfold appT Hid; rw [HA2.out, if_pos rfl]; exact (bl_ext HFin.out).symm
        have d5 : decide ((4000 : Int) < (s.size : Int) + 1 + (t.size : Int)) = false := decide_eq_false (by omega)
        go_enter Tryd.func75, Tryd.ntmps75
        go_wp2_with (first | (go_at_call 100; refine (HC.out _).mono ?_; rintro e w' ⟨rfl, rfl⟩) | (go_at_call 74; refine (HSt.out _).mono ?_; rintro e w' ⟨rfl, rfl⟩) | (go_at_call 76; refine (HN.out _ (by assumption)).mono ?_; rintro e w1 ⟨rfl, hb1⟩))
        go_ret2
        exact ⟨by rw [HA2.out, HA3.out]; rfl, hb1⟩
      · have HA2 : Hid (appOk s = false) := by rw [Hid, HA.out, ← HLn.out, HZ.out]; exact decide_eq_false h5
        have HA3 : Hid (appT s = ⟨#[]⟩) := by unfold appT Hid; rw [HA2.out]; rfl
        have d5 : decide ((4000 : Int) < (s.size : Int) + 1 + (t.size : Int)) = true := decide_eq_true (by omega)
        go_enter Tryd.func75, Tryd.ntmps75
        go_wp2_with (first | (go_at_call 100; refine (HC.out _).mono ?_; rintro e w' ⟨rfl, rfl⟩) | (go_at_call 74; refine (HSt.out _).mono ?_; rintro e w' ⟨rfl, rfl⟩) | (go_at_call 76; refine (HN.out _ (by assumption)).mono ?_; rintro e w1 ⟨rfl, hb1⟩))
        go_ret2
        exact ⟨by rw [HA2.out, HA3.out]; rfl, hb1⟩
    · rw [hh] at HSt
      have HA2 : Hid (appOk s = false) := by unfold appOk Hid; rw [hh]; simp
      have HA3 : Hid (appT s = ⟨#[]⟩) := by unfold appT Hid; rw [HA2.out]; rfl
      clear hh h4
      go_enter Tryd.func75, Tryd.ntmps75
      go_wp2_with (first | (go_at_call 100; refine (HC.out _).mono ?_; rintro e w' ⟨rfl, rfl⟩) | (go_at_call 74; refine (HSt.out _).mono ?_; rintro e w' ⟨rfl, rfl⟩))
      go_ret2
      exact ⟨by rw [HA2.out, HA3.out]; rfl, Below.refl _ _⟩
  · rw [if_neg h4, decide_eq_false h4] at HC
    have HA2 : Hid (appOk s = false) := by unfold appOk Hid; rw [decide_eq_false h4]; rfl
    have HA3 : Hid (appT s = ⟨#[]⟩) := by unfold appT Hid; rw [HA2.out]; rfl
    clear h4
    go_enter Tryd.func75, Tryd.ntmps75
    go_wp2_with (first | (go_at_call 100; refine (HC.out _).mono ?_; rintro e w' ⟨rfl, rfl⟩))
    go_ret2
    exact ⟨by rw [HA2.out, HA3.out]; rfl, Below.refl _ _⟩

theorem hasB_false {l : List UInt8} {b : UInt8} : hasB l b = false ↔ b ∉ l := by unfold hasB; simp
theorem hasB_true {l : List UInt8} {b : UInt8} : hasB l b = true ↔ b ∈ l := by unfold hasB; simp
theorem appOk_iff {s : ByteArray} : appOk s = true ↔ s.size ≤ 4000 ∧ (35 : UInt8) ∉ bl s ∧ (sealL (bl s)).length ≤ 4000 := by
  unfold appOk; simp [Bool.and_eq_true, hasB_false, and_assoc]

set_option maxHeartbeats 2000000 in
theorem encodeRecord_any (k : Nat) (e : Rec) (w : World) (hk : k ≤ 1000) (hok : e.ok = true) (ht : Tab w) :
    Calls Tryd.prog 46 #[.int .i64 k, e.val] w fun en w' => en = .returned (.string ⟨(lineL k (bl e.c) (bl e.r)).toArray⟩) ∧ Below w.heap.size w w' := by
  have b1 := (Below.refl w.heap.size w).alloc (Nat.le_refl _) (.cells #[.string e.c, .string e.r] 45)
  have L1 := Lies.new w 45 #[.string e.c, .string e.r]
  have ht1 := ht.then b1
  obtain ⟨_, h1, _, _, _, h2⟩ := recOk_iff.1 hok
  rw [bl_size] at h1 h2
  obtain ⟨t, htt⟩ : ∃ t : ByteArray, t = ⟨(Lib.itoa (k : Int)).toArray⟩ := ⟨_, rfl⟩
  have hts : t.size ≤ 100 := by rw [htt]; exact itoa_len (by omega) (by omega)
  have HN : Hid (∀ W, Tab W → Calls Tryd.prog 76 #[.int .i64 k] W fun e w' => e = .returned (.string t) ∧ Below W.heap.size W w') := fun W hW => by rw [htt]; exact itoa_any (k : Int) W (by omega) (by omega) hW
  have HT : Hid (bl t = Lib.itoa (k : Int)) := by rw [htt, Hid, bl_mk]
  clear htt
  obtain ⟨x, hx⟩ : ∃ x : ByteArray, x = t ++ ⟨#[32]⟩ ++ e.c ++ ⟨#[64]⟩ ++ e.r := ⟨_, rfl⟩
  have hxt : bl x = txtL k (bl e.c) (bl e.r) := by rw [hx]; unfold txtL; simp [bl_app, bl_lit, HT.out]
  have hao : appOk x = true := by
    rw [appOk_iff, hxt]
    have h3 := txt_len (k := k) hok (by omega)
    have h4 := seal_len (txtL k (bl e.c) (bl e.r))
    exact ⟨by rw [← bl_size, hxt]; omega, txt_free hok, by omega⟩
  obtain ⟨z, hz⟩ : ∃ z : ByteArray, z = ⟨(sealL (bl x)).toArray⟩ := ⟨_, rfl⟩
  have hzs : z.size ≤ 4000 := by rw [← bl_size, hz, bl_mk]; exact (appOk_iff.1 hao).2.2
  have hxs : x.size ≤ 4000 := (appOk_iff.1 hao).1
  have HSl : Hid (∀ W, Tab W → Calls Tryd.prog 75 #[.string (t ++ ⟨#[32]⟩ ++ e.c ++ ⟨#[64]⟩ ++ e.r)] W fun e w' => e = .returned (.tuple #[.string z, .bool true]) ∧ Below W.heap.size W w') := fun W hW => by
    have := appendChecksum_any x W (by omega) hW
    rw [show appT x = z by unfold appT; rw [hao, if_pos rfl, hz], hao] at this
    rw [← hx]; exact this
  have HF : Hid (bl (z ++ ⟨#[10]⟩) = lineL k (bl e.c) (bl e.r)) := by
    rw [Hid, bl_app, hz, bl_mk, hxt]
    unfold lineL; simp [bl_lit]
  clear hz hx hxt hao hok
  have z1 : (⟨#[32]⟩ : ByteArray).size = 1 := rfl
  have z2 : (⟨#[64]⟩ : ByteArray).size = 1 := rfl
  have z3 : (⟨#[10]⟩ : ByteArray).size = 1 := rfl
  go_enter Tryd.func46, Tryd.ntmps46
  go_wp2_with fail
  generalize w.alloc (.cells #[.string e.c, .string e.r] 45) = W at b1 L1 ht1 ⊢
  generalize hg : w.heap.size = g at L1 ⊢
  have c0 : ∀ p : Since W.heap.size W, p.val.cell? ⟨g, 0, none⟩ = some (.string e.c) := fun p => (p.cell L1.lt).trans (L1.cell 0)
  have c1 : ∀ p : Since W.heap.size W, p.val.cell? ⟨g, 1, none⟩ = some (.string e.r) := fun p => (p.cell L1.lt).trans (L1.cell 1)
  clear L1
  refine wp_region_since0 (by kernel_rfl) (by kernel_rfl) ?_
  repeat (any_goals (first | go_big_quiet_step ((first | (go_at_call 76; refine calls_since (Nat.le_refl _) (HN.out _ (ht1.at _))) | (go_at_call 75; refine calls_since (Nat.le_refl _) (HSl.out _ (ht1.at _))))) | (refine wpQuiet_step (fun K hK => ?_); go_simp; split <;> (refine hK _ ?_; clear hK K))))
  all_goals (refine wpQuiet_nil ?_; rintro _ ⟨q1, rfl⟩)
  go_wp2
  go_ret
  exact ⟨str_eq HF.out, by rw [← hg] at *; exact bthen b1 q1.below⟩
end Go.Proofs.YtojceibamgodbaaDoor
