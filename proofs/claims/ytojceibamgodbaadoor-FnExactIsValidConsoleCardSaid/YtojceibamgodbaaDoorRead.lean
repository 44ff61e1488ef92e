/- Reading the records of a log, in the program. -/
import Derived.Test.YtojceibamgodbaaDoorDec
import Derived.Test.YtojceibamgodbaaDoorOwnR
namespace Go.Proofs.YtojceibamgodbaaDoor
open Go.RowKit

theorem infoRec : (Tryd.prog.info? 45).map (fun i => (i.zero, i.size, i.bytes)) = some (some (.agg #[.string ⟨#[]⟩, .string ⟨#[]⟩]), 2, 32) := by kernel_rfl
theorem infoInt : (Tryd.prog.info? 3).map (fun i => (i.zero, i.size, i.bytes)) = some (some (.int .i64 0), 1, 8) := by kernel_rfl

/-- The records as they lie. -/
def recsOf (l : List ((List UInt8 × List UInt8) × Nat)) (m : List Rec) : Prop := m.map (fun r => (bl r.c, bl r.r)) = l.map (·.1)
theorem recsOf_len {l : List ((List UInt8 × List UInt8) × Nat)} {m : List Rec} (h : recsOf l m) : m.length = l.length := by
  have := congrArg List.length h; simpa using this
def nums (l : List Nat) : List Value := l.map fun (n : Nat) => Value.int .i64 (n : Int)

/-- What reading gives. -/
def GivesOpen (s : ByteArray) (w : World) (e : Ending) (w' : World) : Prop := ∃ A c A' c' m, e = .returned (.tuple #[.slice A m.length c, .slice A' (m.length + 1) c']) ∧ recsOf (openF 60 0 (bl s)) m ∧
  w'.ownsRow w.heap.size 45 2 (.slice A m.length c) m.length (m.flatMap Rec.enc) ∧ w'.ownsRow w.heap.size 3 1 (.slice A' (m.length + 1) c') (m.length + 1) (nums (endsF 0 (openF 60 0 (bl s)))) ∧ Below w.heap.size w w'

set_option maxRecDepth 100000 in
set_option maxHeartbeats 8000000 in
theorem readRecords_any (s : ByteArray) (w : World) (hs : s.size ≤ 3000000) (ht : Tab w) :
    Calls Tryd.prog 50 #[.string s] w (GivesOpen s w) := by
  have b0 := (Below.refl w.heap.size w).alloc (Nat.le_refl _) (.cells #[.int .i64 0] 3)
  have L0 := Lies.new w 3 #[.int .i64 0]
  have E0 : Hid ((w.alloc (.cells #[.int .i64 0] 3)).ownsRow w.heap.size 3 1 (.slice (some ⟨w.heap.size, 0, none⟩) 1 1) 1 (nums (endsF 0 []))) := L0.own (Nat.le_refl _) (by simp) (by unfold maxLen; omega)
  have hne : 45 ≠ 3 := by decide
  go_enter Tryd.func50, Tryd.ntmps50
  go_wp2
  have HZ : Hid (openF 60 0 (bl s) = [] ++ openF (60 - 0) 0 ((bl s).drop 0)) := rfl
  go_loopw [4, 5, 6, 7, 8, 9] (fun r en at' _ _ _ wr => ∃ (a : Nat) (A : Option Addr) (c : Nat) (A' : Option Addr) (c' : Nat) (m : List Rec) (acc : List ((List UInt8 × List UInt8) × Nat)), m.length ≤ 60 ∧ a ≤ s.size ∧ r = .slice A m.length c ∧ en = .slice A' (m.length + 1) c' ∧ at' = .int .i64 a ∧ (∃ q : Since w.heap.size w, wr = q.val) ∧
    Hid (recsOf acc m) ∧ Hid (lens acc = a) ∧ Hid (openF 60 0 (bl s) = acc ++ openF (60 - m.length) m.length ((bl s).drop a)) ∧ Hid (wr.ownsRow w.heap.size 45 2 (.slice A m.length c) m.length (m.flatMap Rec.enc)) ∧ Hid (wr.ownsRow w.heap.size 3 1 (.slice A' (m.length + 1) c') (m.length + 1) (nums (endsF 0 acc)))) (fun r _ _ _ _ _ _ => 60 - lenOf r)
  case atStart => exact ⟨0, none, 0, some ⟨w.heap.size, 0, none⟩, 1, [], [], by simp, Nat.zero_le _, rfl, rfl, rfl, ⟨⟨_, b0⟩, rfl⟩, rfl, rfl, HZ, World.ownsRow_nil _ _ _ _, E0⟩
  case round =>
    obtain ⟨a, A, c, A', c', m, acc, hm, ha, rfl, rfl, rfl, ⟨q, rfl⟩, HA, HL, HF, HR, HE⟩ := hrel
    have DONE : openF (60 - m.length) m.length ((bl s).drop a) = [] → ∀ W', Below q.val.heap.size q.val W' → GivesOpen s w (.returned (.tuple #[.slice A m.length c, .slice A' (m.length + 1) c'])) W' := fun h W' hb => by
      have h1 := HF.out
      rw [h, List.append_nil] at h1
      exact ⟨A, c, A', c', m, rfl, by rw [h1]; exact HA.out, ownsRow_below HR.out hb, by rw [h1]; exact ownsRow_below HE.out hb, (q.go (Nat.le_refl _) hb).below⟩
    by_cases hlt : m.length < 60
    · obtain ⟨n, hn⟩ : ∃ n, 60 - m.length = n + 1 := ⟨59 - m.length, by omega⟩
      obtain ⟨x, hx⟩ : ∃ x : ByteArray, x = s.extract a s.size := ⟨_, rfl⟩
      have hbx : bl x = (bl s).drop a := by rw [hx, bl_extract, List.take_of_length_le (by rw [bl_size]; exact Nat.le_refl _)]
      have HI : Hid (∀ W, Calls Tryd.prog 81 #[.string (s.extract a s.size), .int .u8 10] W fun e w' => e = .returned (.int .i64 (Lib.indexByte (bl x) 10)) ∧ w' = W) := fun W => by rw [← hx]; exact Tryd.strings_IndexByte x 10 W
      rw [hn] at DONE HF
      rw [← hbx] at DONE HF
      have i1 : (a : Int) ≤ (s.size : Int) := by omega
      rcases idxByte_or (bl x) 10 with ⟨h1, h2⟩ | ⟨h1, h2⟩
      · rw [h2] at HI
        have HD := Lib.hid (DONE (openF_no h1) _ (Below.refl _ _))
        clear DONE h1 h2 hx hbx hn
        go_wp2_with (go_at_call 81; refine (HI.out _).mono ?_; rintro e w' ⟨rfl, rfl⟩)
        go_ret2
        exact HD.out
      · rw [h2] at HI
        have hp := congrArg List.length (parts_bef h1)
        have hxs : (bl x).length = s.size - a := by rw [hbx, List.length_drop, bl_size]
        simp only [List.length_append, List.length_cons, List.length_drop, hxs] at hp
        have hparts := parts_bef h1
        obtain ⟨d, hd⟩ : ∃ d, d = (bef 10 (bl x)).length := ⟨_, rfl⟩
        rw [← hd] at HI hp
        have hda : a + d + 1 ≤ s.size := by omega
        obtain ⟨y, hy⟩ : ∃ y : ByteArray, y = s.extract a (a + d) := ⟨_, rfl⟩
        have hby : bl y = bef 10 (bl x) := by
          rw [hy, bl_extract, List.drop_take, Nat.add_sub_cancel_left, ← hbx, hd, take_bef]
        have hys : y.size ≤ 3000000 := by rw [← bl_size, hby, ← hd]; omega
        have HDc : Hid (∀ W, Tab W → Calls Tryd.prog 82 #[.int .i64 (m.length : Int), .string (s.extract a (a + d))] W (GivesDec m.length y W)) := fun W hW => by
          rw [← hy]; exact decodeRecord_any m.length y W (by omega) hys hW
        have HBad : Hid (decF m.length (bl y) = none → ∀ W', Below q.val.heap.size q.val W' → GivesOpen s w (.returned (.tuple #[.slice A m.length c, .slice A' (m.length + 1) c'])) W') := fun h => DONE (openF_bad (by rw [← hby]; exact h))
        have HGood : Hid (∀ ra rb, decF m.length (bl y) = some (ra, rb) → openF 60 0 (bl s) = (acc ++ [((ra, rb), d + 1)]) ++ openF (60 - (m.length + 1)) (m.length + 1) ((bl s).drop (a + (d + 1)))) := fun ra rb h => by
          have e1 := openF_yes (n := n) h1 (by rw [← hby]; exact h)
          have e2 : 60 - (m.length + 1) = n := by omega
          rw [HF.out, e1, e2, ← hd, hbx, List.drop_drop]
          simp
        have i2 : (0 : Int) ≤ (d : Int) := by omega
        have i3 : (a : Int) + (d : Int) ≤ (s.size : Int) := by omega
        have i4 : (a : Int) + ((d : Int) + 1) ≤ (s.size : Int) := by omega
        have htq := ht.at q
        clear DONE h1 h2 hx hbx hn hp hxs hparts hd hy hby
        go_wp2_with (go_at_call 81; refine (HI.out _).mono ?_; rintro e w' ⟨rfl, rfl⟩)
        refine (HDc.out _ htq).mono ?_
        rintro e w3 ⟨ra, rb, ok, rfl, hdec, hb3⟩
        cases ok
        · have HD := Lib.hid (HBad.out (by rcases hdec with ⟨h, _⟩ | ⟨_, h⟩; cases h; exact h) _ (hb3.alloc hb3.size (.cells #[.string ra, .string rb] 45)))
          clear hdec
          go_wp2_with fail
          go_ret2
          exact HD.out
        · have hdec' : decF m.length (bl y) = some (bl ra, bl rb) := by rcases hdec with ⟨_, h⟩ | ⟨h, _⟩; exact h; cases h
          have HF2 := Lib.hid (HGood.out _ _ hdec')
          clear hdec hdec'
          have b4 := hb3.alloc hb3.size (.cells #[.string ra, .string rb] 45)
          have HR4 := Lib.hid (ownsRow_below HR.out b4)
          have HE4 := Lib.hid (ownsRow_below HE.out b4)
          have hqs := q.size
          have hsz4 : w.heap.size ≤ (w3.alloc (.cells #[.string ra, .string rb] 45)).heap.size := Nat.le_trans hqs b4.size
          go_wp2_with (first
            | (at_builtin; refine wpList_push (w0 := w3.alloc (.cells #[.string ra, .string rb] 45)) rfl (.tmp 38) (.tmp 40) 52 rfl 45 _ 2 32 Tryd.underlying52 infoRec rfl (by omega) (by omega) w.heap.size _ _ _ rfl HR4 #[.string ra, .string rb] 1 _ rfl (by first | rfl | simp | exact Array.size_push _) rfl (by simp [Value.oneCell']) (by omega) hsz4 rfl rfl rfl rfl ?_; intro v5 w5 HO5 hg5 hb5; have HE5 := Lib.hid (ownsRow_two HE4.out HR4.out hne hg5); have hsz5 : w.heap.size ≤ w5.heap.size := Nat.le_trans hsz4 hg5.size)
            | (at_builtin; refine wpList_push (w0 := w5) rfl (.tmp 42) (.tmp 44) 83 rfl 3 (.int .i64 0) 1 8 Tryd.underlying83 infoInt rfl (by omega) (by omega) w.heap.size _ _ _ rfl HE5 #[.int .i64 ((a : Int) + ((d : Int) + 1))] 1 _ rfl (by first | rfl | simp | exact Array.size_push _) rfl (by simp [Value.oneCell']) (by omega) hsz5 rfl rfl rfl rfl ?_; intro v6 w6 HO6 hg6 hb6))
          have HR6 := Lib.hid (ownsRow_two HO5.out HE5.out hne.symm hg6)
          obtain ⟨A5, c5, hv5⟩ := ownsRow_slice HO5.out
          subst hv5
          obtain ⟨A6, c6, hv6⟩ := ownsRow_slice HO6.out
          subst hv6
          go_roundw
          case rel =>
            refine ⟨a + (d + 1), A5, c5, A6, c6, m ++ [⟨ra, rb⟩], acc ++ [((bl ra, bl rb), d + 1)], by simp; omega, by omega, by simp, by simp, by go_num, ⟨((q.go (Nat.le_refl _) b4).go' hb5).go' hb6, rfl⟩, ?_, ?_, ?_, ?_, ?_⟩
            · have h1 := HA.out; unfold recsOf at h1; unfold recsOf Hid; simp [h1]
            · have h1 := HL.out; unfold Hid; rw [← h1]; simp [lens]
            · have h1 := HF2.out; rw [Hid]; simpa using h1
            · have h1 := HR6.out; rw [Hid]; simpa [Rec.enc] using h1
            · have h1 := HO6.out; rw [Hid, endsF_snoc, HL.out]; simpa [nums] using h1
          case measure => simp [lenOf]; omega
    · have HD : Hid (GivesOpen s w (.returned (.tuple #[.slice A m.length c, .slice A' (m.length + 1) c'])) q.val) := DONE (by rw [show 60 - m.length = 0 by omega]; rfl) _ (Below.refl _ _)
      clear DONE
      go_wp2
      go_ret2
      exact HD.out
end Go.Proofs.YtojceibamgodbaaDoor
