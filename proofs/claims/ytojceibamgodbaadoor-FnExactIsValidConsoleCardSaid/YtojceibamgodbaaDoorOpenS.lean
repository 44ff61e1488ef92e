/- Reading the records of a log, in the reference. -/
import Derived.Test.YtojceibamgodbaaDoorDecS
import Derived.Test.YtojceibamgodbaaDoorRead
namespace Go.Proofs.YtojceibamgodbaaDoor
open Go.RowKit

/-- What reading gives, in the reference: the records, and the bytes read. -/
def GivesRead (s : ByteArray) (w : World) (e : Ending) (w' : World) : Prop := ∃ A c m, e = .returned (.tuple #[.slice A m.length c, .int .i64 (lens (openF 60 0 (bl s)) : Nat)]) ∧ recsOf (openF 60 0 (bl s)) m ∧
  w'.ownsRow w.heap.size 45 2 (.slice A m.length c) m.length (m.flatMap Rec.enc) ∧ Below w.heap.size w w'

/-- What splitting and reading the first part needs. -/
theorem first_hid (x : ByteArray) (b : UInt8) (n : Nat) (hn : n = (splitL b (bl x)).length) : Hid (∀ (W : World) (B : Nat) (A : Option Addr) (c : Nat), W.ownsRow B 9 1 (.slice A n c) n (texts (splitL b (bl x))) → ∃ g, A = some ⟨g, 0, none⟩ ∧ W.cell? ⟨g, 0, none⟩ = some (.string (cutL x b)) ∧ B ≤ g ∧ g < W.heap.size) := fun W B A c h => by
  subst hn; exact split_first h

set_option maxRecDepth 100000 in
set_option maxHeartbeats 8000000 in
theorem l33Open_any (s : ByteArray) (w : World) (hs : s.size ≤ 1000000) :
    Calls Tryd.prog 53 #[.string s] w (GivesRead s w) := by
  have b0 := (Below.refl w.heap.size w).alloc (Nat.le_refl _) (.cells #[] 45)
  have O0 : Hid ((w.alloc (.cells #[] 45)).ownsRow w.heap.size 45 2 (.slice (some ⟨w.heap.size, 0, none⟩) 0 0) 0 (([] : List Rec).flatMap Rec.enc)) := owns_empty (Lies.new w 45 #[]) (Nat.le_refl _)
  go_enter Tryd.func53, Tryd.ntmps53
  go_wp2
  have HZ : Hid (openF 60 0 (bl s) = [] ++ openF (60 - 0) 0 ((bl s).drop 0)) := rfl
  go_loopw [4, 5, 6, 7, 8] (fun r at' _ _ _ wr => ∃ (a : Nat) (A : Option Addr) (c : Nat) (m : List Rec) (acc : List ((List UInt8 × List UInt8) × Nat)), m.length ≤ 60 ∧ a ≤ s.size ∧ r = .slice A m.length c ∧ at' = .int .i64 a ∧ (∃ q : Since w.heap.size w, wr = q.val) ∧
    Hid (recsOf acc m) ∧ Hid (lens acc = a) ∧ Hid (openF 60 0 (bl s) = acc ++ openF (60 - m.length) m.length ((bl s).drop a)) ∧ Hid (wr.ownsRow w.heap.size 45 2 (.slice A m.length c) m.length (m.flatMap Rec.enc))) (fun r _ _ _ _ _ => 60 - lenOf r)
  case atStart => exact ⟨0, some ⟨w.heap.size, 0, none⟩, 0, [], [], by simp, Nat.zero_le _, rfl, rfl, ⟨⟨_, b0⟩, rfl⟩, rfl, rfl, HZ, O0⟩
  case round =>
    obtain ⟨a, A, c, m, acc, hm, ha, rfl, rfl, ⟨q, rfl⟩, HA, HL, HF, HR⟩ := hrel
    have DONE : openF (60 - m.length) m.length ((bl s).drop a) = [] → ∀ W', Below q.val.heap.size q.val W' → GivesRead s w (.returned (.tuple #[.slice A m.length c, .int .i64 (a : Nat)])) W' := fun h W' hb => by
      have h1 := HF.out
      rw [h, List.append_nil] at h1
      exact ⟨A, c, m, by rw [h1, HL.out], by rw [h1]; exact HA.out, ownsRow_below HR.out hb, (q.go (Nat.le_refl _) hb).below⟩
    by_cases hlt : a < s.size
    · by_cases hm60 : m.length < 60
      · obtain ⟨n, hn⟩ : ∃ n, 60 - m.length = n + 1 := ⟨59 - m.length, by omega⟩
        obtain ⟨x, hx⟩ : ∃ x : ByteArray, x = s.extract a s.size := ⟨_, rfl⟩
        have hbx : bl x = (bl s).drop a := by rw [hx, bl_extract, List.take_of_length_le (by rw [bl_size]; exact Nat.le_refl _)]
        have hxs : x.size ≤ 1000000 := by rw [← bl_size, hbx, List.length_drop, bl_size]; omega
        have HSp : Hid (∀ W, Calls Tryd.prog 83 #[.string (s.extract a s.size), .int .u8 10] W fun e w' => ∃ A c, e = .returned (.slice A (splitL 10 (bl x)).length c) ∧ w'.ownsRow W.heap.size 9 1 (.slice A (splitL 10 (bl x)).length c) (splitL 10 (bl x)).length (texts (splitL 10 (bl x))) ∧ Below W.heap.size W w') := fun W => by
          rw [← hx]; exact l1Split_any x 10 W (by omega)
        have hys : (cutL x 10).size ≤ 1000000 := by unfold cutL; rw [← bl_size, bl_mk]; have := bef_len 10 (bl x); rw [bl_size] at this; omega
        have hyb : bl (cutL x 10) = bef 10 (bl x) := by unfold cutL; rw [bl_mk]
        have hyz : (cutL x 10).size = (bef 10 (bl x)).length := by rw [← bl_size, hyb]
        obtain ⟨ps, hps, hps0⟩ := split_head 10 (bl x)
        have hlen : (splitL 10 (bl x)).length = ps.length + 1 := by rw [hps]; rfl
        have hpl : (splitL 10 (bl x)).length ≤ 1000001 := by have := parts_len 10 (bl x) []; rw [bl_size] at this; unfold splitL; omega
        obtain ⟨n0, hn0⟩ : ∃ n, n = (splitL 10 (bl x)).length := ⟨_, rfl⟩
        have HFirst := first_hid x 10 n0 hn0
        rw [← hn0] at HSp hlen hpl
        have HDc := Lib.hid (fun W => l33Read_any m.length (cutL x 10) W (by omega) hys)
        rw [hn] at DONE HF
        rw [← hbx] at DONE HF
        have i1 : (a : Int) ≤ (s.size : Int) := by omega
        by_cases h1 : (10 : UInt8) ∈ bl x
        · have hn2 : 2 ≤ n0 := by
            rcases ps with _ | ⟨p, ps⟩
            · exact absurd h1 (hps0.1 rfl)
            · simp at hlen; omega
          have hp := congrArg List.length (parts_bef h1)
          have hxl : (bl x).length = s.size - a := by rw [hbx, List.length_drop, bl_size]
          simp only [List.length_append, List.length_cons, List.length_drop, hxl, ← hyz] at hp
          have hda : a + (cutL x 10).size + 1 ≤ s.size := by omega
          obtain ⟨y, hy⟩ : ∃ y : ByteArray, y = cutL x 10 := ⟨_, rfl⟩
          rw [← hy] at hyb hyz hys HDc HFirst hda
          have HBad : Hid (decF m.length (bl y) = none → ∀ W', Below q.val.heap.size q.val W' → GivesRead s w (.returned (.tuple #[.slice A m.length c, .int .i64 (a : Nat)])) W') := fun h => DONE (openF_bad (by rw [← hyb]; exact h))
          have HGood : Hid (∀ ra rb, decF m.length (bl y) = some (ra, rb) → openF 60 0 (bl s) = (acc ++ [((ra, rb), y.size + 1)]) ++ openF (60 - (m.length + 1)) (m.length + 1) ((bl s).drop (a + (y.size + 1)))) := fun ra rb h => by
            have e1 := openF_yes (n := n) h1 (by rw [← hyb]; exact h)
            have e2 : 60 - (m.length + 1) = n := by omega
            rw [HF.out, e1, e2, ← hyz, hbx, List.drop_drop]
            simp
          have i3 : (a : Int) + (y.size : Int) + 1 ≤ (s.size : Int) := by omega
          clear DONE h1 hx hbx hn hp hxl hyb hyz hy hps hps0 hlen hn0
          go_wp2_with fail
          refine (HSp.out _).mono ?_
          rintro e w3 ⟨A3, c3, rfl, hO3, hb3⟩
          obtain ⟨g3, rfl, x0, hg3, hg3'⟩ := HFirst.out _ _ _ _ hO3
          go_wp2_with fail
          refine (HDc.out _).mono ?_
          rintro e w4 ⟨ra, rb, ok, rfl, hdec, hb4⟩
          obtain ⟨_, hgg, x4, _, _⟩ := HFirst.out _ _ _ _ (ownsRow_below hO3 (hb4.alloc hb4.size (.cells #[.string ra, .string rb] 45)))
          injection hgg with hgg; injection hgg with hgg _; subst hgg
          clear x0
          have hb34 := bthen hb3 (hb4.alloc hb4.size (.cells #[.string ra, .string rb] 45))
          cases ok
          · have HD := Lib.hid (HBad.out (by rcases hdec with ⟨h, _⟩ | ⟨_, h⟩; cases h; exact h) _ hb34)
            clear hdec hO3
            go_wp2_with fail
            go_ret2
            exact HD.out
          · have hdec' : decF m.length (bl y) = some (bl ra, bl rb) := by rcases hdec with ⟨_, h⟩ | ⟨h, _⟩; exact h; cases h
            have HF2 := Lib.hid (HGood.out _ _ hdec')
            clear hdec hdec'
            have HR4 := Lib.hid (ownsRow_below HR.out hb34)
            have HO3 := Lib.hid (ownsRow_below hO3 (hb4.alloc hb4.size (.cells #[.string ra, .string rb] 45)))
            clear hO3
            have hqs := q.size
            have hsz4 : w.heap.size ≤ (w4.alloc (.cells #[.string ra, .string rb] 45)).heap.size := Nat.le_trans hqs hb34.size
            go_wp2_with (at_builtin; refine wpList_push (w0 := w4.alloc (.cells #[.string ra, .string rb] 45)) rfl (.tmp 39) (.tmp 41) 52 rfl 45 _ 2 32 Tryd.underlying52 infoRec rfl (by omega) (by omega) w.heap.size _ _ _ rfl HR4 #[.string ra, .string rb] 1 _ rfl (by first | rfl | simp | exact Array.size_push _) rfl (by simp [Value.oneCell']) (by omega) hsz4 rfl rfl rfl rfl ?_; intro v5 w5 HO5 hg5 hb5; obtain ⟨_, hgg, x5, _, _⟩ := HFirst.out _ _ _ _ (ownsRow_two HO3.out HR4.out (show (45 : TypeId) ≠ 9 by decide) hg5); injection hgg with hgg; injection hgg with hgg _; subst hgg)
            obtain ⟨A5, c5, hv5⟩ := ownsRow_slice HO5.out
            subst hv5
            go_roundw
            case rel =>
              refine ⟨a + (y.size + 1), A5, c5, m ++ [⟨ra, rb⟩], acc ++ [((bl ra, bl rb), y.size + 1)], by simp; omega, by omega, by simp, by go_num, ⟨(q.go (Nat.le_refl _) hb34).go' hb5, rfl⟩, ?_, ?_, ?_, ?_⟩
              · have h1 := HA.out; unfold recsOf at h1; unfold recsOf Hid; simp [h1]
              · have h1 := HL.out; unfold Hid; rw [← h1]; simp [lens]
              · have h1 := HF2.out; rw [Hid]; simpa using h1
              · have h1 := HO5.out; rw [Hid]; simpa [Rec.enc] using h1
            case measure => simp [lenOf]; omega
        · obtain rfl : n0 = 1 := by rw [hps0.2 h1] at hlen; exact hlen
          have HD := Lib.hid (DONE (openF_no h1))
          clear DONE h1 hx hbx hn hyb hyz hps hps0 hlen hn0
          go_wp2_with fail
          refine (HSp.out _).mono ?_
          rintro e w3 ⟨A3, c3, rfl, hO3, hb3⟩
          obtain ⟨g3, rfl, x0, hg3, hg3'⟩ := HFirst.out _ _ _ _ hO3
          clear hO3
          go_wp2_with fail
          refine (HDc.out _).mono ?_
          rintro e w4 ⟨ra, rb, ok, rfl, hdec, hb4⟩
          clear hdec
          have hb34 := bthen hb3 (hb4.alloc hb4.size (.cells #[.string ra, .string rb] 45))
          have HD4 := Lib.hid (HD.out _ hb34)
          go_wp2_with fail
          go_ret2
          exact HD4.out
      · have HD : Hid (GivesRead s w (.returned (.tuple #[.slice A m.length c, .int .i64 (a : Nat)])) q.val) := DONE (by rw [show 60 - m.length = 0 by omega]; rfl) _ (Below.refl _ _)
        clear DONE
        go_wp2
        go_ret2
        exact HD.out
    · have HD : Hid (GivesRead s w (.returned (.tuple #[.slice A m.length c, .int .i64 (a : Nat)])) q.val) := DONE (openF_no (by rw [List.drop_eq_nil_of_le (by rw [bl_size]; omega)]; simp)) _ (Below.refl _ _)
      clear DONE
      go_wp2
      go_ret2
      exact HD.out
end Go.Proofs.YtojceibamgodbaaDoor
