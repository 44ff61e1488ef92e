/- Where a byte stands first; the library's Cut at one byte; decoded records in the program. -/
import Derived.Test.YtojceibamgodbaaDoorVer
namespace Go.Proofs.YtojceibamgodbaaDoor
open Go.RowKit

theorem idxByte_or (l : List UInt8) (b : UInt8) : (b ∉ l ∧ Lib.indexByte l b = -1) ∨ (b ∈ l ∧ Lib.indexByte l b = (bef b l).length) := by
  induction l with
  | nil => exact .inl ⟨by simp, rfl⟩
  | cons x l ih =>
    unfold Lib.indexByte bef
    by_cases h : x = b
    · subst h; exact .inr ⟨by simp, by simp⟩
    · have h' : (x == b) = false := by simp [h]
      rw [if_neg (by simp [h]), if_neg h]
      rcases ih with ⟨h1, h2⟩ | ⟨h1, h2⟩
      · exact .inl ⟨by simp only [List.mem_cons, not_or]; exact ⟨Ne.symm h, h1⟩, by rw [h2]; rfl⟩
      · refine .inr ⟨by simp [h1], ?_⟩
        rw [h2, if_neg (by simp)]; simp

def cutL (s : ByteArray) (b : UInt8) : ByteArray := ⟨(bef b (bl s)).toArray⟩
def cutR (s : ByteArray) (b : UInt8) : ByteArray := ⟨((bl s).drop ((bef b (bl s)).length + 1)).toArray⟩

set_option maxHeartbeats 1000000 in
theorem litCut_any (s : ByteArray) (b : UInt8) (w : World) (hs : s.size ≤ 1000000000) :
    Calls Tryd.prog 115 #[.string s, .string ⟨#[b]⟩] w fun e w' => e = .returned (.tuple #[.string (cutL s b), .string (cutR s b), .bool (hasB (bl s) b)]) ∧ Below w.heap.size w w' := by
  have HI := Lib.hid (fun W => Tryd.stringslite_Index_one s b W)
  have hb := bef_len b (bl s)
  rw [bl_size] at hb
  rcases idxByte_or (bl s) b with ⟨h1, h2⟩ | ⟨h1, h2⟩
  · rw [show s.data.toList = bl s from rfl, h2] at HI
    have HL : Hid (cutL s b = s) := by unfold cutL Hid; rw [bef_free h1]; exact (bl_ext rfl).symm
    have HR : Hid (cutR s b = ⟨#[]⟩) := by unfold cutR Hid; rw [bef_free h1, List.drop_eq_nil_of_le (by omega)]
    have HF : Hid (hasB (bl s) b = false) := hasB_false.2 h1
    clear h1 h2
    go_enter Tryd.func115, Tryd.ntmps115
    go_wp2_with (go_at_call 110; refine (HI.out _).mono ?_; rintro e w' ⟨rfl, rfl⟩)
    go_ret3
    exact ⟨by rw [HL.out, HR.out, HF.out]; rfl, Below.refl _ _⟩
  · rw [show s.data.toList = bl s from rfl, h2] at HI
    have hp := congrArg List.length (parts_bef h1)
    rw [bl_size] at hp
    simp only [List.length_append, List.length_cons, List.length_drop, bl_size] at hp
    have HF : Hid (hasB (bl s) b = true) := hasB_true.2 h1
    obtain ⟨n, hn⟩ : ∃ n, n = (bef b (bl s)).length := ⟨_, rfl⟩
    have HL : Hid (cutL s b = s.extract 0 n) := by
      unfold cutL Hid; refine (bl_ext ?_).symm
      rw [bl_extract, hn, take_bef]; simp
    have HR : Hid (cutR s b = s.extract (n + 1) s.size) := by
      unfold cutR Hid; refine (bl_ext ?_).symm
      rw [bl_extract, hn, List.take_of_length_le (by rw [bl_size]; omega)]
    rw [← hn] at HI hp hb
    have z1 : (⟨#[b]⟩ : ByteArray).size = 1 := rfl
    have hn1 : n + 1 ≤ s.size := by omega
    have i0 : (0 : Int) ≤ (n : Int) := by omega
    have i1 : (n : Int) ≤ (s.size : Int) := by omega
    have i2 : (n : Int) + 1 ≤ (s.size : Int) := by omega
    have i3 : IntKind.i64.wrap ((n : Int) + 1) = (n : Int) + 1 := IntWalk.i64_in _ (by omega)
    clear hn hp h1 h2
    go_enter Tryd.func115, Tryd.ntmps115
    go_wp2_with (go_at_call 110; refine (HI.out _).mono ?_; rintro e w' ⟨rfl, rfl⟩)
    refine wp_region_since0 (by kernel_rfl) (by kernel_rfl) ?_
    repeat (any_goals (first | go_big_quiet_step ((fail)) | (refine wpQuiet_step (fun K hK => ?_); go_simp; split <;> (refine hK _ ?_; clear hK K))))
    all_goals (refine wpQuiet_nil ?_; rintro _ ⟨q1, rfl⟩)
    go_wp2
    go_ret3
    exact ⟨by rw [HL.out, HR.out, HF.out]; rfl, q1.below⟩

theorem cut_any (s : ByteArray) (b : UInt8) (w : World) (hs : s.size ≤ 1000000000) :
    Calls Tryd.prog 106 #[.string s, .string ⟨#[b]⟩] w fun e w' => e = .returned (.tuple #[.string (cutL s b), .string (cutR s b), .bool (hasB (bl s) b)]) ∧ Below w.heap.size w w' := by
  have HC := Lib.hid (fun W => litCut_any s b W hs)
  go_enter Tryd.func106, Tryd.ntmps106
  go_wp2_with (go_at_call 115; refine (HC.out _).mono ?_; rintro e w1 ⟨rfl, hb1⟩)
  go_ret3
  exact ⟨rfl, hb1⟩

/-- What decoding gives: the record, and whether there is one. -/
def DecIs (k : Nat) (s : ByteArray) (a b : ByteArray) (ok : Bool) : Prop := (ok = true ∧ decF k (bl s) = some (bl a, bl b)) ∨ (ok = false ∧ decF k (bl s) = none)
def GivesDec (k : Nat) (s : ByteArray) (w : World) (e : Ending) (w' : World) : Prop := ∃ a b ok, e = .returned (.tuple #[.agg #[.string a, .string b], .bool ok]) ∧ DecIs k s a b ok ∧ Below w.heap.size w w'
end Go.Proofs.YtojceibamgodbaaDoor
