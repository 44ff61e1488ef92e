/- Fc04: the texts Read LogI LawOffA SplitP Split Facts DecS OpenS, joined into one file. -/
import Derived.Deep.RegionHeld3
import Derived.Test.YtojceibamgodbaaGreatDoorProg
import Derived.WalkKit
import Derived.Orders
import Derived.Deep.Draws
import Derived.Test.YtojceibamgodbaaGreatDoorFc02
import Derived.Test.YtojceibamgodbaaGreatDoorFc03

set_option linter.unusedVariables false

/- Reading the records of a log, in the program. -/
namespace Go.Proofs.YtojceibamgodbaaGreatDoor
open Go.RowKit

theorem infoRec : (Tryz.prog.info? 96).map (fun i => (i.zero, i.size, i.bytes)) = some (some (.agg #[.string ⟨#[]⟩, .string ⟨#[]⟩]), 2, 32) := by kernel_rfl
theorem infoInt : (Tryz.prog.info? 3).map (fun i => (i.zero, i.size, i.bytes)) = some (some (.int .i64 0), 1, 8) := by kernel_rfl

/-- The records as they lie. -/
def recsOf (l : List ((List UInt8 × List UInt8) × Nat)) (m : List Rec) : Prop := m.map (fun r => (bl r.c, bl r.r)) = l.map (·.1)
theorem recsOf_len {l : List ((List UInt8 × List UInt8) × Nat)} {m : List Rec} (h : recsOf l m) : m.length = l.length := by
  have := congrArg List.length h; simpa using this
def nums (l : List Nat) : List Value := l.map fun (n : Nat) => Value.int .i64 (n : Int)

/-- What reading gives. -/
def GivesOpen (s : ByteArray) (w : World) (e : Ending) (w' : World) : Prop := ∃ A c A' c' m, e = .returned (.tuple #[.slice A m.length c, .slice A' (m.length + 1) c']) ∧ recsOf (openF 60 0 (bl s)) m ∧
  w'.ownsRow w.heap.size 96 2 (.slice A m.length c) m.length (m.flatMap Rec.enc) ∧ w'.ownsRow w.heap.size 3 1 (.slice A' (m.length + 1) c') (m.length + 1) (nums (endsF 0 (openF 60 0 (bl s)))) ∧ Below w.heap.size w w'

set_option maxRecDepth 100000 in
set_option maxHeartbeats 8000000 in
theorem readRecords_any (s : ByteArray) (w : World) (hs : s.size ≤ 3000000) (ht : Tab w) :
    Calls Tryz.prog 47 #[.string s] w (GivesOpen s w) := by
  have b0 := (Below.refl w.heap.size w).alloc (Nat.le_refl _) (.cells #[.int .i64 0] 3)
  have L0 := Lies.new w 3 #[.int .i64 0]
  have E0 : Hid ((w.alloc (.cells #[.int .i64 0] 3)).ownsRow w.heap.size 3 1 (.slice (some ⟨w.heap.size, 0, none⟩) 1 1) 1 (nums (endsF 0 []))) := L0.own (Nat.le_refl _) (by simp) (by unfold maxLen; omega)
  have hne : 96 ≠ 3 := by decide
  go_enter Tryz.func47, Tryz.ntmps47
  go_wp2
  have HZ : Hid (openF 60 0 (bl s) = [] ++ openF (60 - 0) 0 ((bl s).drop 0)) := rfl
  go_loopw [4, 5, 6, 7, 8, 9] (fun r en at' _ _ _ wr => ∃ (a : Nat) (A : Option Addr) (c : Nat) (A' : Option Addr) (c' : Nat) (m : List Rec) (acc : List ((List UInt8 × List UInt8) × Nat)), m.length ≤ 60 ∧ a ≤ s.size ∧ r = .slice A m.length c ∧ en = .slice A' (m.length + 1) c' ∧ at' = .int .i64 a ∧ (∃ q : Since w.heap.size w, wr = q.val) ∧
    Hid (recsOf acc m) ∧ Hid (lens acc = a) ∧ Hid (openF 60 0 (bl s) = acc ++ openF (60 - m.length) m.length ((bl s).drop a)) ∧ Hid (wr.ownsRow w.heap.size 96 2 (.slice A m.length c) m.length (m.flatMap Rec.enc)) ∧ Hid (wr.ownsRow w.heap.size 3 1 (.slice A' (m.length + 1) c') (m.length + 1) (nums (endsF 0 acc)))) (fun r _ _ _ _ _ _ => 60 - lenOf r)
  case atStart => exact ⟨0, none, 0, some ⟨w.heap.size, 0, none⟩, 1, [], [], by simp, Nat.zero_le _, rfl, rfl, rfl, ⟨⟨_, b0⟩, rfl⟩, rfl, rfl, HZ, World.ownsRow_nil _ _ _ _, E0⟩
  case round =>
    obtain ⟨a, A, c, A', c', m, acc, hm, ha, rfl, rfl, rfl, ⟨q, rfl⟩, HA, HL, HF, HR, HE⟩ := hrel
    have DONE : openF (60 - m.length) m.length ((bl s).drop a) = [] → ∀ W', Below q.val.heap.size q.val W' → GivesOpen s w (.returned (.tuple #[.slice A m.length c, .slice A' (m.length + 1) c'])) W' := fun h W' hb => by
      have h1 := HF.out
      rw [h, List.append_nil] at h1
      exact ⟨A, c, A', c', m, rfl, by rw [h1]; exact HA.out, ownsRow_below HR.out hb, by rw [h1]; exact ownsRow_below HE.out hb, (q.go (Nat.le_refl _) hb).below⟩
    by_cases hlt : m.length < 60
    · obtain ⟨n, hn⟩ : ∃ n, 60 - m.length = n + 1 := ⟨59 - m.length, by omega⟩
      obtain ⟨x, hx⟩ : ∃ x : ByteArray, x = s.extract a s.size := ⟨_, rfl⟩
      have hbx : bl x = (bl s).drop a := by rw [hx, bl_extract, List.take_of_length_le (by rw [bl_size]; exact Nat.le_refl _)]
      have HI : Hid (∀ W, Calls Tryz.prog 61 #[.string (s.extract a s.size), .int .u8 10] W fun e w' => e = .returned (.int .i64 (Lib.indexByte (bl x) 10)) ∧ w' = W) := fun W => by rw [← hx]; exact Tryz.strings_IndexByte x 10 W
      rw [hn] at DONE HF
      rw [← hbx] at DONE HF
      have i1 : (a : Int) ≤ (s.size : Int) := by omega
      rcases idxByte_or (bl x) 10 with ⟨h1, h2⟩ | ⟨h1, h2⟩
      · rw [h2] at HI
        have HD := Lib.hid (DONE (openF_no h1) _ (Below.refl _ _))
        clear DONE h1 h2 hx hbx hn
        go_wp2_with (go_at_call 61; refine (HI.out _).mono ?_; rintro e w' ⟨rfl, rfl⟩)
        go_ret2
        exact HD.out
      · rw [h2] at HI
        have hp := congrArg List.length (parts_bef h1)
        have hxs : (bl x).length = s.size - a := by rw [hbx, List.length_drop, bl_size]
        simp only [List.length_append, List.length_cons, List.length_drop, hxs] at hp
        have hparts := parts_bef h1
        obtain ⟨d, hd⟩ : ∃ d, d = (bef 10 (bl x)).length := ⟨_, rfl⟩
        rw [← hd] at HI hp
        have hda : a + d + 1 ≤ s.size := by omega
        obtain ⟨y, hy⟩ : ∃ y : ByteArray, y = s.extract a (a + d) := ⟨_, rfl⟩
        have hby : bl y = bef 10 (bl x) := by
          rw [hy, bl_extract, List.drop_take, Nat.add_sub_cancel_left, ← hbx, hd, take_bef]
        have hys : y.size ≤ 3000000 := by rw [← bl_size, hby, ← hd]; omega
        have HDc : Hid (∀ W, Tab W → Calls Tryz.prog 62 #[.int .i64 (m.length : Int), .string (s.extract a (a + d))] W (GivesDec m.length y W)) := fun W hW => by
          rw [← hy]; exact decodeRecord_any m.length y W (by omega) hys hW
        have HBad : Hid (decF m.length (bl y) = none → ∀ W', Below q.val.heap.size q.val W' → GivesOpen s w (.returned (.tuple #[.slice A m.length c, .slice A' (m.length + 1) c'])) W') := fun h => DONE (openF_bad (by rw [← hby]; exact h))
        have HGood : Hid (∀ ra rb, decF m.length (bl y) = some (ra, rb) → openF 60 0 (bl s) = (acc ++ [((ra, rb), d + 1)]) ++ openF (60 - (m.length + 1)) (m.length + 1) ((bl s).drop (a + (d + 1)))) := fun ra rb h => by
          have e1 := openF_yes (n := n) h1 (by rw [← hby]; exact h)
          have e2 : 60 - (m.length + 1) = n := by omega
          rw [HF.out, e1, e2, ← hd, hbx, List.drop_drop]
          simp
        have i2 : (0 : Int) ≤ (d : Int) := by omega
        have i3 : (a : Int) + (d : Int) ≤ (s.size : Int) := by omega
        have i4 : (a : Int) + ((d : Int) + 1) ≤ (s.size : Int) := by omega
        have htq := ht.at q
        clear DONE h1 h2 hx hbx hn hp hxs hparts hd hy hby
        go_wp2_with (go_at_call 61; refine (HI.out _).mono ?_; rintro e w' ⟨rfl, rfl⟩)
        refine (HDc.out _ htq).mono ?_
        rintro e w3 ⟨ra, rb, ok, rfl, hdec, hb3⟩
        cases ok
        · have HD := Lib.hid (HBad.out (by rcases hdec with ⟨h, _⟩ | ⟨_, h⟩; cases h; exact h) _ (hb3.alloc hb3.size (.cells #[.string ra, .string rb] 96)))
          clear hdec
          go_wp2_with fail
          go_ret2
          exact HD.out
        · have hdec' : decF m.length (bl y) = some (bl ra, bl rb) := by rcases hdec with ⟨_, h⟩ | ⟨h, _⟩; exact h; cases h
          have HF2 := Lib.hid (HGood.out _ _ hdec')
          clear hdec hdec'
          have b4 := hb3.alloc hb3.size (.cells #[.string ra, .string rb] 96)
          have HR4 := Lib.hid (ownsRow_below HR.out b4)
          have HE4 := Lib.hid (ownsRow_below HE.out b4)
          have hqs := q.size
          have hsz4 : w.heap.size ≤ (w3.alloc (.cells #[.string ra, .string rb] 96)).heap.size := Nat.le_trans hqs b4.size
          go_wp2_with (first
            | (at_builtin; refine wpList_push (w0 := w3.alloc (.cells #[.string ra, .string rb] 96)) rfl (.tmp 38) (.tmp 40) 72 rfl 96 _ 2 32 Tryz.underlying72 infoRec rfl (by omega) (by omega) w.heap.size _ _ _ rfl HR4 #[.string ra, .string rb] 1 _ rfl (by first | rfl | simp | exact Array.size_push _) rfl (by simp [Value.oneCell']) (by omega) hsz4 rfl rfl rfl rfl ?_; intro v5 w5 HO5 hg5 hb5; have HE5 := Lib.hid (ownsRow_two HE4.out HR4.out hne hg5); have hsz5 : w.heap.size ≤ w5.heap.size := Nat.le_trans hsz4 hg5.size)
            | (at_builtin; refine wpList_push (w0 := w5) rfl (.tmp 42) (.tmp 44) 82 rfl 3 (.int .i64 0) 1 8 Tryz.underlying82 infoInt rfl (by omega) (by omega) w.heap.size _ _ _ rfl HE5 #[.int .i64 ((a : Int) + ((d : Int) + 1))] 1 _ rfl (by first | rfl | simp | exact Array.size_push _) rfl (by simp [Value.oneCell']) (by omega) hsz5 rfl rfl rfl rfl ?_; intro v6 w6 HO6 hg6 hb6))
          have HR6 := Lib.hid (ownsRow_two HO5.out HE5.out hne.symm hg6)
          obtain ⟨A5, c5, hv5⟩ := ownsRow_slice HO5.out
          subst hv5
          obtain ⟨A6, c6, hv6⟩ := ownsRow_slice HO6.out
          subst hv6
          go_roundw
          case rel =>
            refine ⟨a + (d + 1), A5, c5, A6, c6, m ++ [⟨ra, rb⟩], acc ++ [((bl ra, bl rb), d + 1)], by simp; omega, by omega, by simp, by simp, by go_num, ⟨((q.go (Nat.le_refl _) b4).go' hb5).go' hb6, rfl⟩, ?_, ?_, ?_, ?_, ?_⟩
            · have h1 := HA.out; unfold recsOf at h1; unfold recsOf Hid; simp [h1]
            · have h1 := HL.out; unfold Hid; rw [← h1]; simp [lens]
            · have h1 := HF2.out; rw [Hid]; simpa using h1
            · have h1 := HR6.out; rw [Hid]; simpa [Rec.enc] using h1
            · have h1 := HO6.out; rw [Hid, endsF_snoc, HL.out]; simpa [nums] using h1
          case measure => simp [lenOf]; omega
    · have HD : Hid (GivesOpen s w (.returned (.tuple #[.slice A m.length c, .slice A' (m.length + 1) c'])) q.val) := DONE (by rw [show 60 - m.length = 0 by omega]; rfl) _ (Below.refl _ _)
      clear DONE
      go_wp2
      go_ret2
      exact HD.out
end Go.Proofs.YtojceibamgodbaaGreatDoor

/- Whether a log is valid, in the program. -/
namespace Go.Proofs.YtojceibamgodbaaGreatDoor
open Go.RowKit

structure Lg where
  D : ByteArray
  P : ByteArray
  n : Int
abbrev Lg.val (l : Lg) : Value := .agg #[.string l.D, .string l.P, .int .i64 l.n]
noncomputable def Lg.ok (l : Lg) : Bool := logOk (bl l.D) (bl l.P) l.n
def Lg.all (l : Lg) : List UInt8 := bl l.D ++ bl l.P

theorem getD_of {α : Type} {l : List α} {j : Nat} (h : j < l.length) (d : α) : l.getD j d = l[j] := by rw [List.getD_eq_getElem?_getD, List.getElem?_eq_getElem h]; rfl

theorem ends_facts {W : World} {B n : Nat} {A : Option Addr} {c : Nat} {l : List Nat} (h : W.ownsRow B 3 1 (.slice A n c) n (nums l)) (hn : n = l.length) (h0 : 0 < n) :
    ∃ g, A = some ⟨g, 0, none⟩ ∧ B ≤ g ∧ g < W.heap.size ∧ ∀ j, j < n → W.cell? ⟨g, j, none⟩ = some (.int .i64 ((l.getD j 0 : Nat) : Int)) := by
  obtain ⟨g, hA⟩ : ∃ g, A = some ⟨g, 0, none⟩ := by
    obtain ⟨_, h0' | ⟨g, cap, cur, hv, _⟩⟩ := h
    · have := h0'.2; omega
    · injection hv with e1 e2 e3; exact ⟨g, e1⟩
  subst hA
  refine ⟨g, rfl, (h.lt g rfl).1, (h.lt g rfl).2, fun j hj => ?_⟩
  rw [h.cellAt j (by omega)]
  unfold nums
  rw [List.getElem?_map, List.getElem?_eq_getElem (by omega), getD_of (by omega)]
  rfl

theorem ends_contains {W : World} {g c : Nat} {l : List Nat} {x : Nat} {n : Nat} (hn : n = l.length) (hb : n ≤ 9223372036854775807) (h : ∀ j, j < n → W.cell? ⟨g, j, none⟩ = some (.int .i64 ((l.getD j 0 : Nat) : Int))) :
    Calls Tryz.prog 48 #[.slice (some ⟨g, 0, none⟩) n c, .int .i64 (x : Int)] W fun e w' => e = .returned (.bool (decide (x ∈ l))) ∧ w' = W := by
  have h1 := Tryz.slices_Contains_int g 0 n c (l.map fun (y : Nat) => (y : Int)) x W (by simp; omega) hb (fun j hj => by
    simp only [List.length_map] at hj
    rw [Nat.zero_add, h j (by omega), getD_of hj, getD_of (by simpa using hj)]
    simp)
  have h2 : ((l.map fun (y : Nat) => (y : Int)).take n).contains (x : Int) = decide (x ∈ l) := by
    rw [List.take_of_length_le (by simp; omega), Bool.eq_iff_iff]
    simp only [List.contains_eq_mem, decide_eq_true_eq, List.mem_map]
    exact ⟨fun ⟨a, ha, e⟩ => by rw [← Int.ofNat.inj e]; exact ha, fun h => ⟨x, h, rfl⟩⟩
  rw [h2] at h1
  exact h1

set_option maxRecDepth 100000 in
set_option maxHeartbeats 4000000 in
theorem isLog_any (l : Lg) (w : World) (hs : l.D.size + l.P.size ≤ 2000000) (ht : Tab w) :
    Calls Tryz.prog 28 #[l.val] w fun e w' => e = .returned (.bool l.ok) ∧ Below w.heap.size w w' := by
  have b1 := (Below.refl w.heap.size w).alloc (Nat.le_refl _) (.cells #[.string l.D, .string l.P, .int .i64 l.n] 37)
  have L1 := Lies.new w 37 #[.string l.D, .string l.P, .int .i64 l.n]
  have ht1 := ht.then b1
  have hbl : bl (l.D ++ l.P) = bl l.D ++ bl l.P := bl_app _ _
  have hz : (l.D ++ l.P).size = l.D.size + l.P.size := size_app _ _
  have HRd := Lib.hid (fun W hW => readRecords_any (l.D ++ l.P) W (by omega) hW)
  have hok := @logOk_impl (bl l.D) (bl l.P) l.n
  have hlen := openF_length 60 0 (bl (l.D ++ l.P))
  have hroom := openF_room 60 0 (bl (l.D ++ l.P))
  have hlast := endsF_last 0 (openF 60 0 (bl (l.D ++ l.P)))
  have hel := endsF_length 0 (openF 60 0 (bl (l.D ++ l.P)))
  rw [← hbl] at hok
  rw [bl_size] at hroom
  rw [bl_size, bl_size] at hok
  rw [Nat.zero_add] at hlast
  obtain ⟨rs, hrs⟩ : ∃ rs, rs = openF 60 0 (bl (l.D ++ l.P)) := ⟨_, rfl⟩
  obtain ⟨en, hen⟩ : ∃ en, en = endsF 0 (openF 60 0 (bl (l.D ++ l.P))) := ⟨_, rfl⟩
  have HRd2 : Hid (∀ W, Tab W → Calls Tryz.prog 47 #[.string (l.D ++ l.P)] W fun e w' => ∃ A c A' c' k g, k = rs.length ∧ A' = some ⟨g, 0, none⟩ ∧ e = .returned (.tuple #[.slice A k c, .slice A' (k + 1) c']) ∧ (∀ j, j < k + 1 → w'.cell? ⟨g, j, none⟩ = some (.int .i64 ((en.getD j 0 : Nat) : Int))) ∧ Below W.heap.size W w') := fun W hW => by
    refine (HRd.out W hW).mono ?_
    rintro e w' ⟨A, c, A', c', m, rfl, hm, _, hO, hb⟩
    have hml := recsOf_len hm
    obtain ⟨g, hA, _, _, hc⟩ := ends_facts hO (by rw [endsF_length, hml]) (by omega)
    exact ⟨A, c, A', c', m.length, g, by rw [hml, hrs], hA, rfl, by rw [hen]; exact hc, hb⟩
  clear HRd
  rw [← hen] at hlast hel hok
  rw [← hrs] at hlen hroom hlast hel hok
  obtain ⟨k0, hk0⟩ : ∃ k0, k0 = rs.length := ⟨_, rfl⟩
  rw [← hk0] at hlen hlast hel hok HRd2
  obtain ⟨z, hzz⟩ : ∃ z, z = lens rs := ⟨_, rfl⟩
  rw [← hzz] at hroom hlast hok
  have hlast' : en.getD k0 0 = z := by rw [List.getD_eq_getElem?_getD, hlast]; rfl
  have HCt : Hid (∀ (W : World) (g c : Nat), (∀ j, j < k0 + 1 → W.cell? ⟨g, j, none⟩ = some (.int .i64 ((en.getD j 0 : Nat) : Int))) → Calls Tryz.prog 48 #[.slice (some ⟨g, 0, none⟩) (k0 + 1) c, .int .i64 (l.D.size : Int)] W fun e w' => e = .returned (.bool (decide (l.D.size ∈ en))) ∧ w' = W) := fun W g c h => ends_contains (by omega) (by omega) h
  have HOK : Hid (l.ok = (decide (z = l.D.size + l.P.size) && decide (l.D.size ∈ en) && decide (l.n = (k0 : Int)))) := by
    unfold Hid Lg.ok
    rw [Bool.eq_iff_iff, hok]
    simp [and_assoc]
  clear hok hlast hbl hrs hen hk0 hzz
  generalize decide (l.D.size ∈ en) = dc at HCt HOK
  go_enter Tryz.func28, Tryz.ntmps28
  go_wp2_with fail
  generalize w.alloc (.cells #[.string l.D, .string l.P, .int .i64 l.n] 37) = W at b1 L1 ht1 ⊢
  generalize hg : w.heap.size = g at L1 ⊢
  refine (HRd2.out _ ht1).mono ?_
  rintro e w2 ⟨A, c, A', c', k, g', rfl, rfl, rfl, hc', hb2⟩
  have L2 := L1.below hb2 L1.lt
  have c0 := L2.cell 0
  have c1 := L2.cell 1
  have c2 := L2.cell 2
  simp only [List.getElem?_cons_zero, List.getElem?_cons_succ] at c0 c1 c2
  have HC2 := Lib.hid (HCt.out w2 g' c' hc')
  have hl := hc' k (by omega)
  rw [hlast'] at hl
  have hbb : Below w.heap.size w w2 := by rw [← hg] at *; exact bthen b1 hb2
  clear L1 L2 hc' HCt HRd2
  by_cases e1 : z = l.D.size + l.P.size
  · rw [decide_eq_true e1] at HOK
    have d1 : ((z : Int) == (l.D.size : Int) + (l.P.size : Int)) = true := by rw [e1]; simp
    cases dc
    · clear e1
      go_wp2_with (go_at_call 48; refine (HC2.out).mono ?_; rintro e w' ⟨rfl, rfl⟩)
      go_ret
      exact ⟨by rw [HOK.out]; rfl, hbb⟩
    · by_cases e3 : l.n = (k : Int)
      · rw [decide_eq_true e3] at HOK
        have d3 : (l.n == (k : Int)) = true := by rw [e3]; simp
        clear e1 e3
        go_wp2_with (go_at_call 48; refine (HC2.out).mono ?_; rintro e w' ⟨rfl, rfl⟩)
        go_ret
        exact ⟨by rw [HOK.out]; rfl, hbb⟩
      · rw [decide_eq_false e3] at HOK
        have d3 : (l.n == (k : Int)) = false := by simp [e3]
        clear e1 e3
        go_wp2_with (go_at_call 48; refine (HC2.out).mono ?_; rintro e w' ⟨rfl, rfl⟩)
        go_ret
        exact ⟨by rw [HOK.out]; rfl, hbb⟩
  · rw [decide_eq_false e1] at HOK
    have d1 : ((z : Int) == (l.D.size : Int) + (l.P.size : Int)) = false := by simp; omega
    clear e1
    go_wp2_with fail
    go_ret
    exact ⟨by rw [HOK.out]; rfl, hbb⟩
end Go.Proofs.YtojceibamgodbaaGreatDoor

/- Laws over an office with scalar results: the walks. (Printed by lawgen_off.py) -/
namespace Go.Proofs.YtojceibamgodbaaGreatDoor
open Go.RowKit

/-- A copy's office. -/
abbrev Off.copy (x : Off) (g1 g2 : Nat) : Off := { x with TA := some ⟨g1, 0, none⟩, tc := x.t.length, OA := some ⟨g2, 0, none⟩, oc := x.o.length }
theorem copy_reads {x : Off} {w : World} {g1 g2 : Nat} (h1 : Lies w g1 48 (x.t.flatMap Tray.enc)) (h2 : Lies w g2 60 (x.o.flatMap Outing.enc)) (hn : x.t.length ≤ 1048576) (hm : x.o.length ≤ 1048576) : OffR w w.heap.size (x.copy g1 g2) :=
  ⟨lies_trays h1 (show x.t.length ≤ 9223372036854775807 by omega), lies_outings h2 (show x.o.length ≤ 9223372036854775807 by omega)⟩

end Go.Proofs.YtojceibamgodbaaGreatDoor

/- The parts of a text between bytes (plain). -/
namespace Go.Proofs.YtojceibamgodbaaGreatDoor

def partsL (b : UInt8) : List UInt8 → List UInt8 → List (List UInt8)
  | cur, [] => [cur]
  | cur, x :: l => if x = b then cur :: partsL b [] l else partsL b (cur ++ [x]) l
def splitL (b : UInt8) (s : List UInt8) : List (List UInt8) := partsL b [] s
theorem parts_free {b : UInt8} : ∀ {l cur : List UInt8}, b ∉ l → partsL b cur l = [cur ++ l]
  | [], _, _ => by simp [partsL]
  | x :: l, cur, h => by
    simp only [List.mem_cons, not_or] at h
    rw [partsL, if_neg (Ne.symm h.1), parts_free h.2]; simp
theorem parts_mid {b : UInt8} {r : List UInt8} : ∀ {t cur : List UInt8}, b ∉ t → partsL b cur (t ++ b :: r) = (cur ++ t) :: partsL b [] r
  | [], _, _ => by simp [partsL]
  | x :: t, cur, h => by
    simp only [List.mem_cons, not_or] at h
    rw [List.cons_append, partsL, if_neg (Ne.symm h.1), parts_mid h.2]; simp
theorem split_free {b : UInt8} {l : List UInt8} (h : b ∉ l) : splitL b l = [l] := by unfold splitL; rw [parts_free h]; rfl
theorem split_mid {b : UInt8} {t r : List UInt8} (h : b ∉ t) : splitL b (t ++ b :: r) = t :: splitL b r := by unfold splitL; rw [parts_mid h]; rfl
theorem parts_ne (b : UInt8) : ∀ (l cur : List UInt8), partsL b cur l ≠ []
  | [], _ => by simp [partsL]
  | x :: l, cur => by
    unfold partsL; split
    · simp
    · exact parts_ne b l _
theorem parts_len (b : UInt8) : ∀ (l cur : List UInt8), (partsL b cur l).length ≤ l.length + 1
  | [], _ => by simp [partsL]
  | x :: l, cur => by
    unfold partsL; split
    · have := parts_len b l []; simp; omega
    · have := parts_len b l (cur ++ [x]); simp; omega
theorem parts_mem {b : UInt8} {t : List UInt8} : ∀ (l cur : List UInt8), t ∈ partsL b cur l → t.length ≤ cur.length + l.length
  | [], cur, h => by simp only [partsL, List.mem_singleton] at h; subst h; simp
  | x :: l, cur, h => by
    unfold partsL at h; split at h
    · rcases List.mem_cons.1 h with h | h
      · subst h; omega
      · have := parts_mem l [] h; simp at this ⊢; omega
    · have := parts_mem l _ h; simp at this ⊢; omega
theorem split_head (b : UInt8) (s : List UInt8) : ∃ ps, splitL b s = bef b s :: ps ∧ (ps = [] ↔ b ∉ s) := by
  rcases bef_or b s with ⟨h1, h2⟩ | ⟨r, h⟩
  · exact ⟨[], by rw [split_free h1, h2], by simp [h1]⟩
  · refine ⟨splitL b r, ?_, ?_⟩
    · have h1 := split_mid (r := r) (bef_not b s)
      rw [← h] at h1; exact h1
    · constructor
      · intro e; exact absurd e (parts_ne b r [])
      · intro hn; exact absurd (by rw [h]; simp) hn
end Go.Proofs.YtojceibamgodbaaGreatDoor

/- The parts of a text between bytes, in the reference (l1Split). -/
namespace Go.Proofs.YtojceibamgodbaaGreatDoor
open Go.RowKit

def texts (ps : List (List UInt8)) : List Value := ps.map fun p => Value.string ⟨p.toArray⟩
theorem texts_len (ps : List (List UInt8)) : (texts ps).length = ps.length * 1 := by simp [texts]
theorem infoText : (Tryz.prog.info? 9).map (fun i => (i.zero, i.size, i.bytes)) = some (some (.string ⟨#[]⟩), 1, 16) := by kernel_rfl
theorem parts_step {s : ByteArray} {f i : Nat} {b : UInt8} (hfi : f ≤ i) (hi : i < s.size) :
    partsL b (((bl s).take i).drop f) ((bl s).drop i) = if s[i] = b then ((bl s).take i).drop f :: partsL b (((bl s).take (i + 1)).drop (i + 1)) ((bl s).drop (i + 1)) else partsL b (((bl s).take (i + 1)).drop f) ((bl s).drop (i + 1)) := by
  rw [bl_drop hi, partsL]
  have e1 : ((bl s).take (i + 1)).drop (i + 1) = [] := List.drop_eq_nil_of_le (by rw [List.length_take]; omega)
  have e2 : ((bl s).take (i + 1)).drop f = ((bl s).take i).drop f ++ [s[i]] := by
    rw [bl_take hi, List.drop_append_of_le_length (by rw [List.length_take, bl_size]; omega)]
  rw [e1, e2]

set_option maxRecDepth 100000 in
set_option maxHeartbeats 4000000 in
theorem l1Split_any (s : ByteArray) (b : UInt8) (w : World) (hs : s.size ≤ 100000000) :
    Calls Tryz.prog 57 #[.string s, .int .u8 b.toNat] w fun e w' => ∃ A c, e = .returned (.slice A (splitL b (bl s)).length c) ∧ w'.ownsRow w.heap.size 9 1 (.slice A (splitL b (bl s)).length c) (splitL b (bl s)).length (texts (splitL b (bl s))) ∧ Below w.heap.size w w' := by
  have b0 := (Below.refl w.heap.size w).alloc (Nat.le_refl _) (.cells #[] 9)
  have O0 : Hid ((w.alloc (.cells #[] 9)).ownsRow w.heap.size 9 1 (.slice (some ⟨w.heap.size, 0, none⟩) 0 0) 0 (texts [])) := owns_empty (Lies.new w 9 #[]) (Nat.le_refl _)
  have HPL : Hid (∀ l cur : List UInt8, (partsL b cur l).length ≤ l.length + 1) := parts_len b
  go_enter Tryz.func57, Tryz.ntmps57
  go_wp2
  go_loopw [5, 6, 7] (fun o fr i wr => ∃ (f k : Nat) (A : Option Addr) (c : Nat) (ps : List (List UInt8)), f ≤ k ∧ k ≤ s.size ∧ ps.length ≤ k ∧ o = .slice A ps.length c ∧ fr = .int .i64 f ∧ i = .int .i64 k ∧ (∃ q : Since w.heap.size w, wr = q.val) ∧
    Hid (splitL b (bl s) = ps ++ partsL b (((bl s).take k).drop f) ((bl s).drop k)) ∧ Hid (wr.ownsRow w.heap.size 9 1 (.slice A ps.length c) ps.length (texts ps))) (fun _ _ i _ => s.size - (intOf i).toNat)
  case atStart => exact ⟨0, 0, some ⟨w.heap.size, 0, none⟩, 0, [], Nat.le_refl _, Nat.zero_le _, by simp, rfl, rfl, rfl, ⟨⟨_, b0⟩, rfl⟩, rfl, O0⟩
  case round =>
    obtain ⟨f, k, A, c, ps, hfk, hk, hps, rfl, rfl, rfl, ⟨q, rfl⟩, HF, HR⟩ := hrel
    have hqs := q.size
    by_cases hlt : k < s.size
    · have HST := Lib.hid (parts_step (b := b) hfk hlt)
      have hq := @u8_eq s[k] b
      have i1 : (f : Int) ≤ (k : Int) := by omega
      have i2 : (k : Int) ≤ (s.size : Int) := by omega
      by_cases heq : s[k] = b
      · rw [if_pos heq] at HST
        rw [decide_eq_true heq] at hq
        have HB : Hid (bl (s.extract f k) = ((bl s).take k).drop f) := bl_extract _ _ _
        clear heq
        go_wp2_with (at_builtin; refine wpList_push (w0 := q.val) rfl (.tmp 20) (.tmp 25) 93 rfl 9 (.string ⟨#[]⟩) 1 16 Tryz.underlying93 infoText rfl (by omega) (by omega) w.heap.size _ _ _ rfl HR #[.string (s.extract f k)] 1 _ rfl (by first | rfl | simp | exact Array.size_push _) rfl (by simp [Value.oneCell']) (by omega) hqs rfl rfl rfl rfl ?_; intro v5 w5 HO5 hg5 hb5)
        obtain ⟨A5, c5, hv5⟩ := ownsRow_slice HO5.out
        subst hv5
        go_roundw
        case rel =>
          refine ⟨k + 1, k + 1, A5, c5, ps ++ [((bl s).take k).drop f], Nat.le_refl _, by omega, by simp; omega, by simp, by go_num, by go_num, ⟨q.go' hb5, rfl⟩, ?_, ?_⟩
          · have h1 := HF.out; rw [HST.out] at h1; rw [Hid, h1]; simp
          · have h1 := HO5.out; rw [Hid]
            have h2 : texts (ps ++ [((bl s).take k).drop f]) = texts ps ++ [Value.string (s.extract f k)] := by unfold texts; rw [List.map_append, ← HB.out]; simp [← bl_ext rfl]
            rw [h2]; simpa using h1
        case measure => simp [intOf]; omega
      · rw [if_neg heq] at HST
        rw [decide_eq_false heq] at hq
        clear heq
        go_wp2
        go_roundw
        case rel => exact ⟨f, k + 1, A, c, ps, by omega, by omega, by omega, rfl, rfl, by go_num, ⟨q, rfl⟩, by have h1 := HF.out; rw [HST.out] at h1; exact h1, HR⟩
        case measure => simp [intOf]; omega
    · obtain rfl : k = s.size := by omega
      have i1 : (f : Int) ≤ (s.size : Int) := by omega
      have HB : Hid (bl (s.extract f s.size) = ((bl s).take s.size).drop f) := bl_extract _ _ _
      have HF2 : Hid (splitL b (bl s) = ps ++ [((bl s).take s.size).drop f]) := by
        have h1 := HF.out
        have e0 : (bl s).drop s.size = [] := List.drop_eq_nil_of_le (by rw [bl_size]; exact Nat.le_refl _)
        rw [e0] at h1; exact h1
      go_wp2_with (at_builtin; refine wpList_push (w0 := q.val) rfl (.tmp 29) (.tmp 33) 93 rfl 9 (.string ⟨#[]⟩) 1 16 Tryz.underlying93 infoText rfl (by omega) (by omega) w.heap.size _ _ _ rfl HR #[.string (s.extract f s.size)] 1 _ rfl (by first | rfl | simp | exact Array.size_push _) rfl (by simp [Value.oneCell']) (by omega) hqs rfl rfl rfl rfl ?_; intro v5 w5 HO5 hg5 hb5)
      obtain ⟨A5, c5, hv5⟩ := ownsRow_slice HO5.out
      subst hv5
      go_ret
      have h2 : texts (ps ++ [((bl s).take s.size).drop f]) = texts ps ++ [Value.string (s.extract f s.size)] := by unfold texts; rw [List.map_append, ← HB.out]; simp [← bl_ext rfl]
      rw [HF2.out, h2]
      refine ⟨A5, c5, by simp, ?_, (q.go' hb5).below⟩
      have h1 := HO5.out
      simpa using h1
end Go.Proofs.YtojceibamgodbaaGreatDoor

/- A region whose order is drawn, by one fact on each operation: no orders are walked. -/
namespace Go.Proofs.YtojceibamgodbaaGreatDoor
open Go.RowKit

section
variable {P : Program} {ops : Array Oper} {Q : Exit → Act → World → Prop} {md : Region.Mode}

/-- The values vs in the temporaries of the operations. -/
def fillOps (vs : Nat → Value) : List Oper → Nat → Act → Act
  | [], _, a => a
  | o :: l, k, a => fillOps vs l (k + 1) (a.put o.dst (vs k))
def dstsApart : List Oper → Bool
  | [] => true
  | o :: l => l.all (fun p => match o.dst with | none => true | some d => p.dst != some d) && dstsApart l
def upd (vs : Nat → Value) (i : Nat) (v : Value) : Nat → Value := fun j => if j = i then v else vs j

theorem fillOps_put (vs : Nat → Value) {d : Option Tmp} {v : Value} : ∀ (l : List Oper) (k : Nat) (a : Act), (∀ p ∈ l, ∀ t, d = some t → p.dst ≠ some t) → (fillOps vs l k a).put d v = fillOps vs l k (a.put d v)
  | [], _, _, _ => rfl
  | o :: l, k, a, h => by
    unfold fillOps
    rw [fillOps_put vs l (k + 1) _ (fun p hp => h p (List.mem_cons_of_mem _ hp))]
    rw [Act.put_comm a (vs k) v (x := o.dst) (y := d) (fun t ht hd => h o (by simp) t hd ht)]
theorem fillOps_congr {vs vs' : Nat → Value} : ∀ (l : List Oper) (k : Nat) (a : Act), (∀ j, k ≤ j → vs j = vs' j) → fillOps vs l k a = fillOps vs' l k a
  | [], _, _, _ => rfl
  | o :: l, k, a, h => by
    unfold fillOps
    rw [h k (Nat.le_refl _), fillOps_congr l (k + 1) _ (fun j hj => h j (by omega))]
theorem Act.put_put (a : Act) (d : Option Tmp) (u v : Value) : (a.put d u).put d v = a.put d v := by
  cases d with
  | none => rfl
  | some d =>
    simp only [Act.put]
    congr 1
    apply Array.ext (by simp)
    intro i h1 h2
    simp
theorem fillOps_upd : ∀ (l : List Oper) (k : Nat) (a : Act) (vs : Nat → Value) (i : Nat) (o : Oper) (v : Value), dstsApart l = true → l[i]? = some o →
    (fillOps vs l k a).put o.dst v = fillOps (upd vs (k + i) v) l k a
  | [], _, _, _, _, _, _, _, h => by simp at h
  | p :: l, k, a, vs, 0, o, v, hd, h => by
    simp only [List.getElem?_cons_zero, Option.some.injEq] at h; subst h
    simp only [dstsApart, Bool.and_eq_true, List.all_eq_true] at hd
    unfold fillOps
    rw [fillOps_put vs l (k + 1) _ (fun q hq t ht => by
      have := hd.1 q hq; rw [ht] at this; simpa using this), Act.put_put]
    rw [fillOps_congr (vs := vs) (vs' := upd vs (k + 0) v) l (k + 1) _ (fun j hj => by unfold upd; rw [if_neg (by omega)])]
    congr 2
    simp [upd]
  | p :: l, k, a, vs, i + 1, o, v, hd, h => by
    simp only [dstsApart, Bool.and_eq_true] at hd
    unfold fillOps
    rw [fillOps_upd l (k + 1) _ vs i o v hd.2 (by simpa using h)]
    have : k + 1 + i = k + (i + 1) := by omega
    rw [this]
    congr 2
    unfold upd; rw [if_neg (by omega)]
theorem Act.put_self (a : Act) (t : Tmp) (u : Value) : a.put (some t) (a.tmps.getD t u) = a := by
  simp only [Act.put]
  obtain ⟨tmps, defers⟩ := a
  congr 1
  apply Array.ext_getElem?
  intro i
  by_cases e : t = i
  · subst e
    by_cases h2 : t < tmps.size
    · simp [h2]
    · simp [h2]
  · rw [Array.getElem?_setIfInBounds_ne e]
theorem fillOps_self (vs : Nat → Value) : ∀ (l : List Oper) (k : Nat) (a : Act), (∀ i o t, l[i]? = some o → o.dst = some t → vs (k + i) = a.tmps.getD t undef) → fillOps vs l k a = a
  | [], _, _, _ => rfl
  | o :: l, k, a, h => by
    unfold fillOps
    have e : a.put o.dst (vs k) = a := by
      cases hd : o.dst with
      | none => rfl
      | some t =>
        have h0 := h 0 o t (by simp) hd
        rw [Nat.add_zero] at h0
        rw [h0, Act.put_self]
    rw [e]
    exact fillOps_self vs l (k + 1) a (fun i o' t h1 h2 => by
      have := h (i + 1) o' t (by simpa using h1) h2
      rwa [show k + (i + 1) = k + 1 + i by omega] at this)

/-- j comes ahead of k, whatever order is drawn. -/
def ahead (md : Region.Mode) (ops : Array Oper) : Nat → Nat → Nat → Bool
  | 0, _, _ => false
  | fuel + 1, k, j => match ops[k]? with
    | none => false
    | some o => o.after.any fun e => Region.binds md e && (e.on == j || ahead md ops fuel e.on j)
def edgesDown (md : Region.Mode) (ops : Array Oper) : Bool :=
  (List.range ops.size).all fun k => match ops[k]? with
    | none => true
    | some o => o.after.all fun e => !Region.binds md e || decide (e.on < k)

def Closed (md : Region.Mode) (ops : Array Oper) (listed : Array Bool) : Prop :=
  ∀ j o, ops[j]? = some o → listed.getD j false = true → ∀ e ∈ o.after, Region.binds md e = true → listed.getD e.on false = true

theorem ahead_listed {listed : Array Bool} (hc : Closed md ops listed) : ∀ (fuel k j : Nat), (∀ o, ops[k]? = some o → ∀ e ∈ o.after, Region.binds md e = true → listed.getD e.on false = true) → ahead md ops fuel k j = true → listed.getD j false = true
  | 0, _, _, _, h => by simp [ahead] at h
  | fuel + 1, k, j, hk, h => by
    unfold ahead at h
    cases ho : ops[k]? with
    | none => simp [ho] at h
    | some o =>
      simp only [ho] at h
      obtain ⟨e, he, hb⟩ := Array.any_eq_true'.1 h
      simp only [Bool.and_eq_true, Bool.or_eq_true, beq_iff_eq] at hb
      have h1 := hk o ho e he hb.1
      rcases hb.2 with h2 | h2
      · rw [← h2]; exact h1
      · exact ahead_listed hc fuel e.on j (fun o' ho' => hc e.on o' ho' h1) h2

/-- The walk: a fact R on each operation's value; the facts of those that come ahead are at hand. -/
def wpFacts (P : Program) (ops : Array Oper) (Q : Exit → Act → World → Prop) (C : World → Prop) (T : World → World → Prop) (fr : (Nat → Value) → Act) : Nat → List Oper → List (Value → World → Prop) → Prop
  | _, [], Rs => ∀ vs w, C w → (∀ (j : Nat) (R : Value → World → Prop), Rs[j]? = some R → R (vs j) w) → Q .normal (fr vs) w
  | k, o :: l, Rs => ∃ R : Value → World → Prop, (∀ v w w', R v w → T w w' → R v w') ∧
    (∀ vs w, C w → (∀ (j : Nat) (R' : Value → World → Prop), ahead .any ops ops.size k j = true → Rs[j]? = some R' → R' (vs j) w) → ∀ K : Act → World → Prop, (∀ a' v w', a' = (fr vs).put o.dst v → R v w' → C w' → T w w' → K a' w') →
      if Region.wanted o (yielded ops (fr vs).tmps) = true then o.wp P (fr vs) w K Q else K ((fr vs).put o.dst undef) w) ∧
    wpFacts P ops Q C T fr (k + 1) l (Rs ++ [R])

/-- What the walk gives: the facts, one for each operation. -/
theorem wpFacts_all {C : World → Prop} {T : World → World → Prop} {fr : (Nat → Value) → Act} : ∀ (l : List Oper) (k : Nat) (Rs : List (Value → World → Prop)), (∀ i, l[i]? = ops[k + i]?) → Rs.length = k →
    (∀ (j : Nat) (R : Value → World → Prop), Rs[j]? = some R → ∀ v w w', R v w → T w w' → R v w') →
    (∀ (j : Nat) (o : Oper) (R : Value → World → Prop), j < k → ops[j]? = some o → Rs[j]? = some R → ∀ vs w, C w → (∀ (j' : Nat) (R' : Value → World → Prop), ahead .any ops ops.size j j' = true → j' < j → Rs[j']? = some R' → R' (vs j') w) → ∀ K : Act → World → Prop, (∀ a' v w', a' = (fr vs).put o.dst v → R v w' → C w' → T w w' → K a' w') →
      if Region.wanted o (yielded ops (fr vs).tmps) = true then o.wp P (fr vs) w K Q else K ((fr vs).put o.dst undef) w) →
    wpFacts P ops Q C T fr k l Rs →
    ∃ Rs' : List (Value → World → Prop), Rs'.length = k + l.length ∧ (∀ (j : Nat) (R : Value → World → Prop), Rs'[j]? = some R → ∀ v w w', R v w → T w w' → R v w') ∧
    (∀ (j : Nat) (o : Oper) (R : Value → World → Prop), ops[j]? = some o → Rs'[j]? = some R → ∀ vs w, C w → (∀ (j' : Nat) (R' : Value → World → Prop), ahead .any ops ops.size j j' = true → j' < j → Rs'[j']? = some R' → R' (vs j') w) → ∀ K : Act → World → Prop, (∀ a' v w', a' = (fr vs).put o.dst v → R v w' → C w' → T w w' → K a' w') →
      if Region.wanted o (yielded ops (fr vs).tmps) = true then o.wp P (fr vs) w K Q else K ((fr vs).put o.dst undef) w) ∧
    (∀ vs w, C w → (∀ (j : Nat) (R : Value → World → Prop), Rs'[j]? = some R → R (vs j) w) → Q .normal (fr vs) w)
  | [], k, Rs, hl, hlen, hst, hop, h => by
    refine ⟨Rs, by simpa using hlen, hst, fun j o R ho hR => hop j o R ?_ ho hR, h⟩
    rw [← hlen]; exact (List.getElem?_eq_some_iff.1 hR).1
  | o :: l, k, Rs, hl, hlen, hst, hop, h => by
    obtain ⟨R, hRs, hRo, hrest⟩ := h
    have ho : ops[k]? = some o := by simpa using (hl 0).symm
    have hold : ∀ j, j < k → (Rs ++ [R])[j]? = Rs[j]? := fun j hj => List.getElem?_append_left (by omega)
    have hnew : (Rs ++ [R])[k]? = some R := by rw [List.getElem?_append_right (by omega), hlen]; simp
    obtain ⟨Rs', h1, h2, h3, h4⟩ := wpFacts_all l (k + 1) (Rs ++ [R]) (fun i => by have := hl (i + 1); simpa [Nat.add_assoc, Nat.add_comm 1 i] using this) (by simp [hlen])
      (fun j R' hR' => by
        rcases Nat.lt_trichotomy j k with hj | hj | hj
        · rw [hold j hj] at hR'; exact hst j R' hR'
        · subst hj; rw [hnew] at hR'; cases hR'; exact hRs
        · rw [List.getElem?_eq_none (by simp [hlen]; omega)] at hR'; cases hR')
      (fun j o' R' hj ho' hR' vs w hC hB K hK => by
        rcases Nat.lt_or_ge j k with hjk | hjk
        · rw [hold j hjk] at hR'
          exact hop j o' R' hjk ho' hR' vs w hC (fun j' R'' ha hlt h'' => hB j' R'' ha hlt (by rw [hold j' (by omega)]; exact h'')) K hK
        · obtain rfl : j = k := by omega
          rw [ho] at ho'; cases ho'
          rw [hnew] at hR'; cases hR'
          refine hRo vs w hC (fun j' R'' ha h'' => ?_) K hK
          have hlt : j' < Rs.length := (List.getElem?_eq_some_iff.1 h'').1
          exact hB j' R'' ha (by omega) (by rw [hold j' (by omega)]; exact h''))
      hrest
    exact ⟨Rs', by rw [h1]; simp; omega, h2, h3, h4⟩

theorem listed_ready {listed : Array Bool} (hdn : edgesDown .any ops = true) (hsz : listed.size = ops.size) (hr : Region.ready .any ops listed = []) : ∀ j, j < ops.size → listed.getD j false = true := by
  intro j
  induction j using Nat.strongRecOn with
  | ind j ih =>
    intro hj
    rcases hb : listed.getD j false with _ | _
    · exfalso
      have hmem : j ∈ Region.ready .any ops listed := by
        rw [mem_ready]
        refine ⟨?_, ops[j], Array.getElem?_eq_getElem hj, fun e he hbd => ?_⟩
        · have : j < listed.size := by omega
          simp only [Array.getD, this, ↓reduceDIte] at hb ⊢
          exact hb
        · have h1 := List.all_eq_true.1 hdn j (List.mem_range.2 hj)
          rw [Array.getElem?_eq_getElem hj] at h1
          have h2 := Array.all_eq_true_iff_forall_mem.1 h1 e he
          simp only [hbd, Bool.not_true, Bool.false_or, decide_eq_true_eq] at h2
          exact ih e.on h2 (by omega)
      rw [hr] at hmem; cases hmem
    · rfl

/-- How many have not come up. -/
def unlisted (n : Nat) (listed : Array Bool) : Nat := ((List.range n).filter fun j => !listed.getD j false).length
theorem unlisted_set {n i : Nat} {listed : Array Bool} (hi : i < n) (hs : listed.size = n) (h : listed.getD i false = false) : unlisted n (listed.setIfInBounds i true) < unlisted n listed := by
  unfold unlisted
  have e : ∀ l : List Nat, (l.filter fun j => !(listed.setIfInBounds i true).getD j false) = (l.filter fun j => !listed.getD j false).filter (fun j => j != i) := by
    intro l
    rw [List.filter_filter]
    apply List.filter_congr
    intro j _
    by_cases hji : j = i
    · subst hji; have : j < listed.size := by omega
      simp [this]
    · rw [getD_set_ne false (Ne.symm hji)]; simp [hji]
  rw [e]
  have hm : i ∈ (List.range n).filter fun j => !listed.getD j false := List.mem_filter.2 ⟨List.mem_range.2 hi, by rw [h]; rfl⟩
  generalize (List.range n).filter (fun j => !listed.getD j false) = l at hm
  clear e
  induction l with
  | nil => cases hm
  | cons x l ih =>
    rw [List.filter_cons]
    split
    · rename_i hx
      rcases List.mem_cons.1 hm with h' | h'
      · simp [h'] at hx
      · simpa using ih h'
    · exact Nat.lt_succ_of_le (List.length_filter_le _ _)

theorem wpAny_facts {C : World → Prop} {T : World → World → Prop} {a₀ : Act} (hap : dstsApart ops.toList = true) (hdn : edgesDown .any ops = true) (Rs : List (Value → World → Prop)) (hlen : Rs.length = ops.size)
    (hst : ∀ (j : Nat) (R : Value → World → Prop), Rs[j]? = some R → ∀ v w w', R v w → T w w' → R v w')
    (hop : ∀ (j : Nat) (o : Oper) (R : Value → World → Prop), ops[j]? = some o → Rs[j]? = some R → ∀ vs w, C w → (∀ (j' : Nat) (R' : Value → World → Prop), ahead .any ops ops.size j j' = true → j' < j → Rs[j']? = some R' → R' (vs j') w) → ∀ K : Act → World → Prop, (∀ a' v w', a' = (fillOps vs ops.toList 0 a₀).put o.dst v → R v w' → C w' → T w w' → K a' w') →
      if Region.wanted o (yielded ops (fillOps vs ops.toList 0 a₀).tmps) = true then o.wp P (fillOps vs ops.toList 0 a₀) w K Q else K ((fillOps vs ops.toList 0 a₀).put o.dst undef) w)
    (hend : ∀ vs w, C w → (∀ (j : Nat) (R : Value → World → Prop), Rs[j]? = some R → R (vs j) w) → Q .normal (fillOps vs ops.toList 0 a₀) w) :
    ∀ (fuel : Nat) (listed : Array Bool) (vs : Nat → Value) (w : World), listed.size = ops.size → unlisted ops.size listed ≤ fuel → Closed .any ops listed → C w → (∀ (j : Nat) (R : Value → World → Prop), listed.getD j false = true → Rs[j]? = some R → R (vs j) w) →
      wpAny P .any ops Q fuel listed (fillOps vs ops.toList 0 a₀) w := by
  have hfin : ∀ (listed : Array Bool) (vs : Nat → Value) (w : World), listed.size = ops.size → C w → (∀ (j : Nat) (R : Value → World → Prop), listed.getD j false = true → Rs[j]? = some R → R (vs j) w) → Region.ready .any ops listed = [] → Q .normal (fillOps vs ops.toList 0 a₀) w :=
    fun listed vs w hs hC hR hr => hend vs w hC fun j R hj => hR j R (listed_ready hdn hs hr j (by rw [← hlen]; exact (List.getElem?_eq_some_iff.1 hj).1)) hj
  intro fuel
  induction fuel with
  | zero =>
    intro listed vs w hs hu hcl hC hR
    have hr : Region.ready .any ops listed = [] := by
      rw [List.eq_nil_iff_forall_not_mem]
      intro j hj
      obtain ⟨h0, o, ho, _⟩ := mem_ready.1 hj
      have hjs : j < ops.size := (Array.getElem?_eq_some_iff.1 ho).1
      have : unlisted ops.size (listed.setIfInBounds j true) < unlisted ops.size listed := unlisted_set hjs hs (by
        have : j < listed.size := by omega
        simp only [Array.getD, this, ↓reduceDIte] at h0 ⊢; exact h0)
      omega
    exact ⟨hr, hfin listed vs w hs hC hR hr⟩
  | succ fuel ih =>
    intro listed vs w hs hu hcl hC hR
    refine ⟨hfin listed vs w hs hC hR, fun i hi => ?_⟩
    obtain ⟨h0, o, ho, hall⟩ := mem_ready.1 hi
    have hisz : i < ops.size := (Array.getElem?_eq_some_iff.1 ho).1
    have hil : i < listed.size := by omega
    have h0' : listed.getD i false = false := by simp only [Array.getD, hil, ↓reduceDIte] at h0 ⊢; exact h0
    obtain ⟨R, hRi⟩ : ∃ R, Rs[i]? = some R := ⟨Rs[i]'(by omega), List.getElem?_eq_getElem (by omega)⟩
    have hstep := hop i o R ho hRi vs w hC (fun j' R' ha _ hR' => hR j' R' (ahead_listed hcl ops.size i j' (fun o' ho' => by rw [ho] at ho'; cases ho'; exact hall) ha) hR')
      (wpAny P .any ops Q fuel (listed.setIfInBounds i true)) (fun a' v w' ha hRv hC' hT => by
        rw [ha, fillOps_upd ops.toList 0 a₀ vs i o v hap (by simpa using ho), Nat.zero_add]
        refine ih _ _ _ (by simpa using hs) ?_ ?_ hC' ?_
        · have := unlisted_set hisz hs h0'; omega
        · intro j oj hoj hj e he hb
          by_cases hji : j = i
          · subst hji; rw [ho] at hoj; cases hoj; exact getD_set_true (hall e he hb)
          · rw [getD_set_ne false (Ne.symm hji)] at hj; exact getD_set_true (hcl j oj hoj hj e he hb)
        · intro j R' hj hR'
          by_cases hji : j = i
          · subst hji; rw [hRi] at hR'; cases hR'; simpa [upd] using hRv
          · rw [getD_set_ne false (Ne.symm hji)] at hj
            have := hst j R' hR' _ _ _ (hR j R' hj hR') hT
            simpa [upd, hji] using this)
    unfold wpOp
    simp only [ho]
    split
    · rename_i hw; rw [if_pos hw] at hstep; exact .inl hstep
    · rename_i hw; rw [if_neg hw] at hstep; exact hstep

/-- The region. -/
theorem wp_region_facts {id : Nat} {a : Act} {w : World} {l : List Oper} (C : World → Prop) (T : World → World → Prop) (hm : P.follows .mixedOrders = true) (hap : dstsApart l = true) (hdn : edgesDown .any l.toArray = true)
    (hC : C w.drew) (h : wpFacts P l.toArray Q C T (fun vs => fillOps vs l 0 a) 0 l []) : (Code.region id l.toArray true).wp P Q a w := by
  refine wp_region_any hm ?_
  obtain ⟨Rs, h1, h2, h3, h4⟩ := wpFacts_all (ops := l.toArray) l 0 [] (by simp) rfl (by simp) (by simp) h
  obtain ⟨vs, hvs⟩ : ∃ vs : Nat → Value, ∀ i o t, l[i]? = some o → o.dst = some t → vs (0 + i) = a.tmps.getD t undef :=
    ⟨fun i => match (l[i]?).bind (·.dst) with | some t => a.tmps.getD t undef | none => undef, fun i o t hi ht => by simp [hi, ht]⟩
  have := wpAny_facts (P := P) (Q := Q) (ops := l.toArray) (C := C) (T := T) (a₀ := a) hap hdn Rs (by simpa using h1) h2 h3 h4 l.toArray.size (Array.replicate l.toArray.size false) vs w.drew (by simp)
    (Nat.le_trans (List.length_filter_le _ _) (by simp)) (fun j o hj hl => by simp [Array.getD] at hl) hC (fun j R hl => by simp [Array.getD] at hl)
  rwa [fillOps_self vs _ 0 a (by simpa using hvs)] at this

theorem wpFacts_nil {C : World → Prop} {T : World → World → Prop} {fr : (Nat → Value) → Act} {k : Nat} {Rs : List (Value → World → Prop)} (h : ∀ vs w, C w → (∀ (j : Nat) (R : Value → World → Prop), Rs[j]? = some R → R (vs j) w) → Q .normal (fr vs) w) : wpFacts P ops Q C T fr k [] Rs := h
/-- An operation with one value. -/
theorem wpFacts_val {C : World → Prop} {T : World → World → Prop} {fr : (Nat → Value) → Act} {k : Nat} {o : Oper} {l : List Oper} {Rs : List (Value → World → Prop)} (V : Value)
    (h1 : ∀ vs w, C w → (∀ (j : Nat) (R' : Value → World → Prop), ahead .any ops ops.size k j = true → Rs[j]? = some R' → R' (vs j) w) → ∀ K : Act → World → Prop, (∀ a' w', a' = (fr vs).put o.dst V → C w' → T w w' → K a' w') →
      if Region.wanted o (yielded ops (fr vs).tmps) = true then o.wp P (fr vs) w K Q else K ((fr vs).put o.dst undef) w)
    (h2 : wpFacts P ops Q C T fr (k + 1) l (Rs ++ [fun v _ => v = V])) : wpFacts P ops Q C T fr k (o :: l) Rs :=
  ⟨fun v _ => v = V, fun _ _ _ h _ => h, fun vs w hC hB K hK => h1 vs w hC hB K fun a' w' ha hC' hT => hK a' V w' ha rfl hC' hT, h2⟩
/-- An operation whose value has a property. -/
theorem wpFacts_some {C : World → Prop} {T : World → World → Prop} {fr : (Nat → Value) → Act} {k : Nat} {o : Oper} {l : List Oper} {Rs : List (Value → World → Prop)} (R : Value → World → Prop) (hR : ∀ v w w', R v w → T w w' → R v w')
    (h1 : ∀ vs w, C w → (∀ (j : Nat) (R' : Value → World → Prop), ahead .any ops ops.size k j = true → Rs[j]? = some R' → R' (vs j) w) → ∀ K : Act → World → Prop, (∀ a' v w', a' = (fr vs).put o.dst v → R v w' → C w' → T w w' → K a' w') →
      if Region.wanted o (yielded ops (fr vs).tmps) = true then o.wp P (fr vs) w K Q else K ((fr vs).put o.dst undef) w)
    (h2 : wpFacts P ops Q C T fr (k + 1) l (Rs ++ [R])) : wpFacts P ops Q C T fr k (o :: l) Rs :=
  ⟨R, hR, h1, h2⟩
end
end Go.Proofs.YtojceibamgodbaaGreatDoor

/- Decoding a record, in the reference. -/
namespace Go.Proofs.YtojceibamgodbaaGreatDoor
open Go.RowKit

theorem split_first {w : World} {B : Nat} {A : Option Addr} {c : Nat} {s : ByteArray} {b : UInt8} (h : w.ownsRow B 9 1 (.slice A (splitL b (bl s)).length c) (splitL b (bl s)).length (texts (splitL b (bl s)))) :
    ∃ g, A = some ⟨g, 0, none⟩ ∧ w.cell? ⟨g, 0, none⟩ = some (.string (cutL s b)) ∧ B ≤ g ∧ g < w.heap.size := by
  obtain ⟨ps, hps, _⟩ := split_head b (bl s)
  have hlen : 0 < (splitL b (bl s)).length := by rw [hps]; simp
  obtain ⟨g, hA⟩ : ∃ g, A = some ⟨g, 0, none⟩ := by
    obtain ⟨_, h0 | ⟨g, cap, cur, hv, _⟩⟩ := h
    · have := h0.2; omega
    · injection hv with e1 e2 e3; exact ⟨g, e1⟩
  subst hA
  refine ⟨g, rfl, ?_, (h.lt g rfl).1, (h.lt g rfl).2⟩
  rw [h.cellAt 0 (by omega), hps]
  rfl

set_option maxRecDepth 100000 in
set_option maxHeartbeats 8000000 in
theorem l33Read_any (k : Nat) (s : ByteArray) (w : World) (hk : k ≤ 1000) (hs : s.size ≤ 1000000) :
    Calls Tryz.prog 58 #[.string s, .int .i64 k] w (GivesDec k s w) := by
  have b1 := (Below.refl w.heap.size w).alloc (Nat.le_refl _) (.cells #[.string ⟨#[]⟩, .string ⟨#[]⟩] 96)
  have L1 := Lies.new w 96 #[.string ⟨#[]⟩, .string ⟨#[]⟩]
  obtain ⟨t, htt⟩ : ∃ t : ByteArray, t = ⟨(Lib.itoa (k : Int)).toArray⟩ := ⟨_, rfl⟩
  have hts : t.size ≤ 100 := by rw [htt]; exact itoa_len (by omega) (by omega)
  have HN : Hid (∀ W, Calls Tryz.prog 12 #[.int .i64 k] W fun e w' => e = .returned (.string t) ∧ Below W.heap.size W w') := fun W => by rw [htt]; exact l1Num_any (k : Int) W (by omega) (by omega)
  have HT : Hid (bl t = Lib.itoa (k : Int)) := by rw [htt, Hid, bl_mk]
  have HPre : Hid (bl (t ++ ⟨#[32]⟩) = Lib.itoa (k : Int) ++ [32]) := by rw [Hid, bl_app, HT.out]; rfl
  clear htt
  have z1 : (⟨#[32]⟩ : ByteArray).size = 1 := rfl
  have z2 : (⟨#[10]⟩ : ByteArray).size = 1 := rfl
  have HSp := Lib.hid (fun W => l1Split_any s 35 W (by omega))
  obtain ⟨x, hx⟩ : ∃ x : ByteArray, x = cutL s 35 := ⟨_, rfl⟩
  have hbx : bl x = bef 35 (bl s) := by rw [hx]; unfold cutL; rw [bl_mk]
  have hxs : x.size ≤ 1000000 := by rw [← bl_size, hbx]; have := bef_len 35 (bl s); rw [bl_size] at this; omega
  have HFirst : Hid (∀ (W : World) (B : Nat) (A : Option Addr) (c : Nat), W.ownsRow B 9 1 (.slice A (splitL 35 (bl s)).length c) (splitL 35 (bl s)).length (texts (splitL 35 (bl s))) → ∃ g, A = some ⟨g, 0, none⟩ ∧ W.cell? ⟨g, 0, none⟩ = some (.string x) ∧ B ≤ g ∧ g < W.heap.size) := fun W B A c h => by
    rw [hx]; exact split_first h
  have hps1 : 1 ≤ (splitL 35 (bl s)).length := by obtain ⟨ps, e, _⟩ := split_head 35 (bl s); rw [e]; simp
  have hps2 : (splitL 35 (bl s)).length ≤ 1000001 := by have := parts_len 35 (bl s) []; rw [bl_size] at this; unfold splitL; omega
  obtain ⟨n0, hn0⟩ : ∃ n, n = (splitL 35 (bl s)).length := ⟨_, rfl⟩
  rw [← hn0] at HSp HFirst hps1 hps2
  clear hx hn0
  obtain ⟨p, hp⟩ : ∃ p : ByteArray, p = t ++ ⟨#[32]⟩ := ⟨_, rfl⟩
  have hpz : p.size = t.size + 1 := by rw [hp, size_app]; rfl

  by_cases hpre : (Lib.itoa (k : Int) ++ [32]) <+: bl x
  · have hsplit := pre_drop hpre
    have hpx : p.size ≤ x.size := by have := hpre.length_le; rw [← HPre.out, ← hp, bl_size, bl_size] at this; exact this
    obtain ⟨u, hu⟩ : ∃ u : ByteArray, u = x.extract p.size x.size := ⟨_, rfl⟩
    have hbu : bl u = (bl x).drop (Lib.itoa (k : Int) ++ [32]).length := by
      rw [hu, bl_extract, List.take_of_length_le (by rw [bl_size]; exact Nat.le_refl _), ← HPre.out, ← hp, bl_size]
    rw [← hbu] at hsplit
    have hus : u.size ≤ 1000000 := by rw [← bl_size, hbu, List.length_drop, bl_size]; omega
    have d1 : decide ((x.size : Int) < (p.size : Int)) = false := decide_eq_false (by omega)
    have d2 : ((x.extract 0 p.size).toList == p.toList) = true := by
      rw [str_beq]; refine decide_eq_true ?_
      have e1 : bl p = Lib.itoa (k : Int) ++ [32] := by rw [hp]; exact HPre.out
      rw [bl_extract, List.drop_zero, e1, hsplit, show p.size = (Lib.itoa (k : Int) ++ [32]).length by rw [← e1]; rfl]
      exact List.take_left' rfl
    have HSu : Hid (∀ W, Calls Tryz.prog 57 #[.string u, .int .u8 64] W fun e w' => ∃ A c, e = .returned (.slice A (splitL 64 (bl u)).length c) ∧ w'.ownsRow W.heap.size 9 1 (.slice A (splitL 64 (bl u)).length c) (splitL 64 (bl u)).length (texts (splitL 64 (bl u))) ∧ Below W.heap.size W w') := fun W => by
      exact l1Split_any u 64 W (by omega)
    have HFirstU : Hid (∀ (W : World) (B : Nat) (A : Option Addr) (c : Nat), W.ownsRow B 9 1 (.slice A (splitL 64 (bl u)).length c) (splitL 64 (bl u)).length (texts (splitL 64 (bl u))) → ∃ g, A = some ⟨g, 0, none⟩ ∧ W.cell? ⟨g, 0, none⟩ = some (.string (cutL u 64)) ∧ B ≤ g ∧ g < W.heap.size) := fun W B A c h => split_first h
    have hqs1 : 1 ≤ (splitL 64 (bl u)).length := by obtain ⟨ps, e, _⟩ := split_head 64 (bl u); rw [e]; simp
    have hqs2 : (splitL 64 (bl u)).length ≤ 1000001 := by have := parts_len 64 (bl u) []; rw [bl_size] at this; unfold splitL; omega
    obtain ⟨n1, hn1⟩ : ∃ n, n = (splitL 64 (bl u)).length := ⟨_, rfl⟩
    rw [← hn1] at HSu HFirstU hqs1 hqs2
    clear hn1
    have hcl : (cutL u 64).size ≤ u.size := by unfold cutL; rw [← bl_size, bl_mk]; have := bef_len 64 (bl u); rw [bl_size] at this; omega
    have hur : u.size = x.size - p.size := by rw [hu, ← bl_size, bl_extract, List.length_drop, List.length_take, bl_size]; omega
    have HPx : Hid (p = t ++ ⟨#[32]⟩) := hp
    subst hp
    rw [hpz] at hpx d1 d2 hur hu
    have HU := Lib.hid hu; clear hu
    have HUr := Lib.hid hur; clear hur
    have i1 : (t.size : Int) + 1 ≤ (x.size : Int) := by omega
    by_cases hat : (64 : UInt8) ∈ bl u
    · have hparts := parts_bef hat
      have hdec := dec_spec_rec (c := bl (cutL u 64)) (r := bl (cutR u 64)) (s := bl s) (k := k) (by rw [← hbx, hsplit]; rw [show bl (cutL u 64) ++ 64 :: bl (cutR u 64) = bl u by unfold cutL cutR; rw [bl_mk, bl_mk]; exact hparts.symm]) (by unfold cutL; rw [bl_mk]; exact bef_not 64 _)
      have hlen := congrArg List.length hparts
      have hcz : (cutL u 64).size = (bef 64 (bl u)).length := by unfold cutL; rw [← bl_size, bl_mk]
      simp only [List.length_append, List.length_cons, List.length_drop, bl_size] at hlen
      have hEz : (cutL u 64).size + 1 ≤ u.size := by omega
      have d3 : (((cutL u 64).size : Int) == (u.size : Int)) = false := by simp; omega
      have HR : Hid (u.extract ((cutL u 64).size + 1) u.size = cutR u 64) := by
        unfold cutR Hid; refine bl_ext ?_
        rw [bl_extract, List.take_of_length_le (by rw [bl_size]; exact Nat.le_refl _), hcz]
      have hcr : (cutR u 64).size ≤ 1000000 := by unfold cutR; rw [← bl_size, bl_mk, List.length_drop, bl_size]; omega
      have HG := Lib.hid (fun W => l33Good_any ⟨cutL u 64, cutR u 64⟩ W (by simp only; omega) (by simp only; omega))
      have HLn := Lib.hid (fun W => l33Line_any k ⟨cutL u 64, cutR u 64⟩ W hk (by simp only; omega) hcr)
      obtain ⟨ln, hln⟩ : ∃ ln : ByteArray, ln = ⟨(lineL k (bl (cutL u 64)) (bl (cutR u 64))).toArray⟩ := ⟨_, rfl⟩
      simp only [← hln] at HLn
      have hbln : bl ln = lineL k (bl (cutL u 64)) (bl (cutR u 64)) := by rw [hln, bl_mk]
      clear hlen hcz hparts hat
      cases hok : Rec.ok ⟨cutL u 64, cutR u 64⟩
      · rw [hok] at HG
        have HD : Hid (decF k (bl s) = none) := by
          rw [Hid, hdec, if_neg (fun h => by rw [show Rec.ok ⟨cutL u 64, cutR u 64⟩ = recOk (bl (cutL u 64)) (bl (cutR u 64)) from rfl, h.1] at hok; cases hok)]
        clear hpre hsplit hbu hbx hdec hok hln hbln

        go_enter Tryz.func58, Tryz.ntmps58
        go_wp2_with fail
        generalize w.alloc (.cells #[.string ⟨#[]⟩, .string ⟨#[]⟩] 96) = W at b1 L1 ⊢
        generalize hg : w.heap.size = g at L1 ⊢
        refine (HN.out _).mono ?_
        rintro e w2 ⟨rfl, hb2⟩
        go_wp2_with fail
        refine (HSp.out _).mono ?_
        rintro e w3 ⟨A3, c3, rfl, hO3, hb3⟩
        obtain ⟨g3, rfl, x0, hg3, hg3'⟩ := HFirst.out _ _ _ _ hO3
        have hb13 := bthen hb2 hb3
        have L3 := L1.below hb13 L1.lt
        clear hO3
        go_wp2_with fail
        rw [← HU.out]
        refine (HSu.out _).mono ?_
        rintro e w4 ⟨A4, c4, rfl, hO4, hb4⟩
        obtain ⟨g4, rfl, x1, hg4, hg4'⟩ := HFirstU.out _ _ _ _ hO4
        have hb14 := bthen hb13 hb4
        have L4 := L3.below hb4 L3.lt
        clear hO4
        have hEs : ((cutL u 64).size : Int) + 1 ≤ (u.size : Int) := by omega
        go_wp2_with fail
        rw [HR.out]
        have N5 := Lies.new w4 96 #[.string (cutL u 64), .string (cutR u 64)]
        have L5 := L4.alloc (.cells #[.string (cutL u 64), .string (cutR u 64)] 96)
        have hb5 := (bthen b1 hb14).trans ((Below.refl w.heap.size w4).alloc (by have := (bthen b1 hb14).size; omega) (.cells #[.string (cutL u 64), .string (cutR u 64)] 96))
        generalize w4.alloc (.cells #[.string (cutL u 64), .string (cutR u 64)] 96) = W5 at N5 L5 hb5 ⊢
        have hne : g ≠ w4.heap.size := by have := L4.lt; omega
        generalize w4.heap.size = ge at N5 hne ⊢
        have hgw : w.heap.size ≤ g := by omega
        clear L1 L3 L4 x0 x1
        refine wp_region_facts (fun W9 => (∃ a b, Lies W9 g 96 [.string a, .string b]) ∧ Lies W9 ge 96 [.string (cutL u 64), .string (cutR u 64)] ∧ Below w.heap.size w W9) (fun W8 W9 => Lies W8 g 96 [.string (cutL u 64), .string (cutR u 64)] → Lies W9 g 96 [.string (cutL u 64), .string (cutR u 64)]) (by kernel_rfl) (by kernel_rfl) (by kernel_rfl) ⟨⟨_, _, L5.below (Below.refl _ _).drew L5.lt⟩, N5.below (Below.refl _ _).drew N5.lt, hb5.drew⟩ ?_
        simp only [fillOps, Act.put, List.setIfInBounds_toArray, List.set_cons_zero, List.set_cons_succ, Nat.zero_add, Nat.reduceAdd]
        refine wpFacts_val (.agg #[.string (cutL u 64), .string (cutR u 64)]) (fun vs w9 hC9 hB K9 hK9 => ?_) ?_
        · obtain ⟨⟨a9, b9, hG9⟩, hN9, hW9⟩ := hC9
          have q0 : w9.cell? ⟨ge, 0, none⟩ = some (.string (cutL u 64)) := hN9.cell 0
          have q1 : w9.cell? ⟨ge, 1, none⟩ = some (.string (cutR u 64)) := hN9.cell 1
          go_simp
          exact hK9 _ _ rfl ⟨⟨a9, b9, hG9⟩, hN9, hW9⟩ id
        refine wpFacts_val (.agg #[.string (cutL u 64), .string (cutR u 64)]) (fun vs w9 hC9 hB K9 hK9 => ?_) ?_
        · obtain ⟨⟨a9, b9, hG9⟩, hN9, hW9⟩ := hC9
          have q0 : w9.cell? ⟨ge, 0, none⟩ = some (.string (cutL u 64)) := hN9.cell 0
          have q1 : w9.cell? ⟨ge, 1, none⟩ = some (.string (cutR u 64)) := hN9.cell 1
          go_simp
          exact hK9 _ _ rfl ⟨⟨a9, b9, hG9⟩, hN9, hW9⟩ id
        refine wpFacts_val (.bool false) (fun vs w9 hC9 hB K9 hK9 => ?_) ?_
        · have hd1 := hB 1 _ (by kernel_rfl) rfl
          simp only [hd1] at hK9 ⊢
          obtain ⟨⟨a9, b9, hG9⟩, hN9, hW9⟩ := hC9
          go_simp
          refine (HG.out _).mono ?_
          rintro e8 w8 ⟨rfl, hb8⟩
          exact hK9 _ _ rfl ⟨⟨a9, b9, hG9.below hb8 hG9.lt⟩, hN9.below hb8 hN9.lt, hW9.trans (hb8.mono hW9.size)⟩ (fun h => h.below hb8 h.lt)
        refine wpFacts_val (.bool false) (fun vs w9 hC9 hB K9 hK9 => ?_) ?_
        · have hd2 := hB 2 _ (by kernel_rfl) rfl
          simp only [hd2] at hK9 ⊢
          obtain ⟨⟨a9, b9, hG9⟩, hN9, hW9⟩ := hC9
          go_simp
          exact hK9 _ _ rfl ⟨⟨a9, b9, hG9⟩, hN9, hW9⟩ id
        refine wpFacts_val (undef) (fun vs w9 hC9 hB K9 hK9 => ?_) ?_
        · have hd3 := hB 3 _ (by kernel_rfl) rfl
          simp only [hd3] at hK9 ⊢
          obtain ⟨⟨a9, b9, hG9⟩, hN9, hW9⟩ := hC9
          go_simp
          exact hK9 _ _ rfl ⟨⟨a9, b9, hG9⟩, hN9, hW9⟩ id
        refine wpFacts_val (undef) (fun vs w9 hC9 hB K9 hK9 => ?_) ?_
        · have hd3 := hB 3 _ (by kernel_rfl) rfl
          simp only [hd3] at hK9 ⊢
          obtain ⟨⟨a9, b9, hG9⟩, hN9, hW9⟩ := hC9
          go_simp
          exact hK9 _ _ rfl ⟨⟨a9, b9, hG9⟩, hN9, hW9⟩ id
        refine wpFacts_val (undef) (fun vs w9 hC9 hB K9 hK9 => ?_) ?_
        · have hd3 := hB 3 _ (by kernel_rfl) rfl
          simp only [hd3] at hK9 ⊢
          obtain ⟨⟨a9, b9, hG9⟩, hN9, hW9⟩ := hC9
          go_simp
          exact hK9 _ _ rfl ⟨⟨a9, b9, hG9⟩, hN9, hW9⟩ id
        refine wpFacts_val (undef) (fun vs w9 hC9 hB K9 hK9 => ?_) ?_
        · have hd3 := hB 3 _ (by kernel_rfl) rfl
          simp only [hd3] at hK9 ⊢
          obtain ⟨⟨a9, b9, hG9⟩, hN9, hW9⟩ := hC9
          go_simp
          exact hK9 _ _ rfl ⟨⟨a9, b9, hG9⟩, hN9, hW9⟩ id
        refine wpFacts_val (undef) (fun vs w9 hC9 hB K9 hK9 => ?_) ?_
        · have hd3 := hB 3 _ (by kernel_rfl) rfl
          simp only [hd3] at hK9 ⊢
          obtain ⟨⟨a9, b9, hG9⟩, hN9, hW9⟩ := hC9
          go_simp
          exact hK9 _ _ rfl ⟨⟨a9, b9, hG9⟩, hN9, hW9⟩ id
        refine wpFacts_val (undef) (fun vs w9 hC9 hB K9 hK9 => ?_) ?_
        · have hd3 := hB 3 _ (by kernel_rfl) rfl
          simp only [hd3] at hK9 ⊢
          obtain ⟨⟨a9, b9, hG9⟩, hN9, hW9⟩ := hC9
          go_simp
          exact hK9 _ _ rfl ⟨⟨a9, b9, hG9⟩, hN9, hW9⟩ id
        refine wpFacts_val (.bool false) (fun vs w9 hC9 hB K9 hK9 => ?_) ?_
        · have hd3 := hB 3 _ (by kernel_rfl) rfl
          simp only [hd3] at hK9 ⊢
          obtain ⟨⟨a9, b9, hG9⟩, hN9, hW9⟩ := hC9
          go_simp
          exact hK9 _ _ rfl ⟨⟨a9, b9, hG9⟩, hN9, hW9⟩ id
        refine wpFacts_some (fun _ W9 => Lies W9 g 96 [.string (cutL u 64), .string (cutR u 64)]) (fun _ _ _ h hT => hT h) (fun vs w9 hC9 hB K9 hK9 => ?_) ?_
        · have hd0 := hB 0 _ (by kernel_rfl) rfl
          simp only [hd0] at hK9 ⊢
          obtain ⟨⟨a9, b9, hG9⟩, hN9, hW9⟩ := hC9
          have q0 : w9.cell? ⟨g, 0, none⟩ = some (.string a9) := hG9.cell 0
          have q1 : w9.cell? ⟨g, 1, none⟩ = some (.string b9) := hG9.cell 1
          have f0 := hG9.frozen 0
          have f1 := hG9.frozen 1
          have hS : Lies ((w9.setCell ⟨g, 0, none⟩ (.string (cutL u 64))).setCell ⟨g, 1, none⟩ (.string (cutR u 64))) g 96 [.string (cutL u 64), .string (cutR u 64)] := (hG9.set 0 (.string (cutL u 64))).set 1 (.string (cutR u 64))
          have hN : Lies ((w9.setCell ⟨g, 0, none⟩ (.string (cutL u 64))).setCell ⟨g, 1, none⟩ (.string (cutR u 64))) ge 96 [.string (cutL u 64), .string (cutR u 64)] := (hN9.other (p := ⟨g, 0, none⟩) (Ne.symm hne) _).other (p := ⟨g, 1, none⟩) (Ne.symm hne) _
          have hW := (hW9.setCell (p := ⟨g, 0, none⟩) hgw (.string (cutL u 64))).setCell (p := ⟨g, 1, none⟩) hgw (.string (cutR u 64))
          go_simp
          exact hK9 _ undef _ rfl hS ⟨⟨_, _, hS⟩, hN, hW⟩ (fun _ => hS)
        refine wpFacts_val (.bool false) (fun vs w9 hC9 hB K9 hK9 => ?_) ?_
        · have hd10 := hB 10 _ (by kernel_rfl) rfl
          simp only [hd10] at hK9 ⊢
          obtain ⟨⟨a9, b9, hG9⟩, hN9, hW9⟩ := hC9
          go_simp
          exact hK9 _ _ rfl ⟨⟨a9, b9, hG9⟩, hN9, hW9⟩ id
        refine wpFacts_nil fun vs W9 hC9 hB => ?_
        have hv12 := hB 12 _ rfl
        have hS := hB 11 _ rfl
        obtain ⟨_, _, hW9⟩ := hC9
        simp only [hv12]
        have c0 := hS.cell 0
        have c1 := hS.cell 1
        simp only [List.getElem?_cons_zero, List.getElem?_cons_succ] at c0 c1
        clear hS hB hv12
        go_wp2_with fail
        refine bodyPost_ret (v := .tuple #[.agg #[.string (cutL u 64), .string (cutR u 64)], .bool false]) (by simp [results, Tryz.results58, go_sem, *]) rfl ⟨cutL u 64, cutR u 64, false, rfl, .inr ⟨rfl, HD.out⟩, hW9⟩


      · rw [hok] at HG
        by_cases heq : lineL k (bl (cutL u 64)) (bl (cutR u 64)) = bl s ++ [10]
        · have HD : Hid (decF k (bl s) = some (bl (cutL u 64), bl (cutR u 64))) := by rw [Hid, hdec, if_pos ⟨hok, heq⟩]
          have HEq : Hid ((ln.toList == (s ++ ⟨#[10]⟩ : ByteArray).toList) = true) := by rw [Hid, str_beq]; exact decide_eq_true (by rw [hbln, heq, bl_app]; rfl)
          clear hpre hsplit hbu hbx hdec hok heq hln hbln

          go_enter Tryz.func58, Tryz.ntmps58
          go_wp2_with fail
          generalize w.alloc (.cells #[.string ⟨#[]⟩, .string ⟨#[]⟩] 96) = W at b1 L1 ⊢
          generalize hg : w.heap.size = g at L1 ⊢
          refine (HN.out _).mono ?_
          rintro e w2 ⟨rfl, hb2⟩
          go_wp2_with fail
          refine (HSp.out _).mono ?_
          rintro e w3 ⟨A3, c3, rfl, hO3, hb3⟩
          obtain ⟨g3, rfl, x0, hg3, hg3'⟩ := HFirst.out _ _ _ _ hO3
          have hb13 := bthen hb2 hb3
          have L3 := L1.below hb13 L1.lt
          clear hO3
          go_wp2_with fail
          rw [← HU.out]
          refine (HSu.out _).mono ?_
          rintro e w4 ⟨A4, c4, rfl, hO4, hb4⟩
          obtain ⟨g4, rfl, x1, hg4, hg4'⟩ := HFirstU.out _ _ _ _ hO4
          have hb14 := bthen hb13 hb4
          have L4 := L3.below hb4 L3.lt
          clear hO4
          have hEs : ((cutL u 64).size : Int) + 1 ≤ (u.size : Int) := by omega
          go_wp2_with fail
          rw [HR.out]
          have N5 := Lies.new w4 96 #[.string (cutL u 64), .string (cutR u 64)]
          have L5 := L4.alloc (.cells #[.string (cutL u 64), .string (cutR u 64)] 96)
          have hb5 := (bthen b1 hb14).trans ((Below.refl w.heap.size w4).alloc (by have := (bthen b1 hb14).size; omega) (.cells #[.string (cutL u 64), .string (cutR u 64)] 96))
          generalize w4.alloc (.cells #[.string (cutL u 64), .string (cutR u 64)] 96) = W5 at N5 L5 hb5 ⊢
          have hne : g ≠ w4.heap.size := by have := L4.lt; omega
          generalize w4.heap.size = ge at N5 hne ⊢
          have hgw : w.heap.size ≤ g := by omega
          clear L1 L3 L4 x0 x1
          refine wp_region_facts (fun W9 => (∃ a b, Lies W9 g 96 [.string a, .string b]) ∧ Lies W9 ge 96 [.string (cutL u 64), .string (cutR u 64)] ∧ Below w.heap.size w W9) (fun W8 W9 => Lies W8 g 96 [.string (cutL u 64), .string (cutR u 64)] → Lies W9 g 96 [.string (cutL u 64), .string (cutR u 64)]) (by kernel_rfl) (by kernel_rfl) (by kernel_rfl) ⟨⟨_, _, L5.below (Below.refl _ _).drew L5.lt⟩, N5.below (Below.refl _ _).drew N5.lt, hb5.drew⟩ ?_
          simp only [fillOps, Act.put, List.setIfInBounds_toArray, List.set_cons_zero, List.set_cons_succ, Nat.zero_add, Nat.reduceAdd]
          refine wpFacts_val (.agg #[.string (cutL u 64), .string (cutR u 64)]) (fun vs w9 hC9 hB K9 hK9 => ?_) ?_
          · obtain ⟨⟨a9, b9, hG9⟩, hN9, hW9⟩ := hC9
            have q0 : w9.cell? ⟨ge, 0, none⟩ = some (.string (cutL u 64)) := hN9.cell 0
            have q1 : w9.cell? ⟨ge, 1, none⟩ = some (.string (cutR u 64)) := hN9.cell 1
            go_simp
            exact hK9 _ _ rfl ⟨⟨a9, b9, hG9⟩, hN9, hW9⟩ id
          refine wpFacts_val (.agg #[.string (cutL u 64), .string (cutR u 64)]) (fun vs w9 hC9 hB K9 hK9 => ?_) ?_
          · obtain ⟨⟨a9, b9, hG9⟩, hN9, hW9⟩ := hC9
            have q0 : w9.cell? ⟨ge, 0, none⟩ = some (.string (cutL u 64)) := hN9.cell 0
            have q1 : w9.cell? ⟨ge, 1, none⟩ = some (.string (cutR u 64)) := hN9.cell 1
            go_simp
            exact hK9 _ _ rfl ⟨⟨a9, b9, hG9⟩, hN9, hW9⟩ id
          refine wpFacts_val (.bool true) (fun vs w9 hC9 hB K9 hK9 => ?_) ?_
          · have hd1 := hB 1 _ (by kernel_rfl) rfl
            simp only [hd1] at hK9 ⊢
            obtain ⟨⟨a9, b9, hG9⟩, hN9, hW9⟩ := hC9
            go_simp
            refine (HG.out _).mono ?_
            rintro e8 w8 ⟨rfl, hb8⟩
            exact hK9 _ _ rfl ⟨⟨a9, b9, hG9.below hb8 hG9.lt⟩, hN9.below hb8 hN9.lt, hW9.trans (hb8.mono hW9.size)⟩ (fun h => h.below hb8 h.lt)
          refine wpFacts_val (.bool true) (fun vs w9 hC9 hB K9 hK9 => ?_) ?_
          · have hd2 := hB 2 _ (by kernel_rfl) rfl
            simp only [hd2] at hK9 ⊢
            obtain ⟨⟨a9, b9, hG9⟩, hN9, hW9⟩ := hC9
            go_simp
            exact hK9 _ _ rfl ⟨⟨a9, b9, hG9⟩, hN9, hW9⟩ id
          refine wpFacts_val (.int .i64 (k : Int)) (fun vs w9 hC9 hB K9 hK9 => ?_) ?_
          · have hd3 := hB 3 _ (by kernel_rfl) rfl
            simp only [hd3] at hK9 ⊢
            obtain ⟨⟨a9, b9, hG9⟩, hN9, hW9⟩ := hC9
            go_simp
            exact hK9 _ _ rfl ⟨⟨a9, b9, hG9⟩, hN9, hW9⟩ id
          refine wpFacts_val (.agg #[.string (cutL u 64), .string (cutR u 64)]) (fun vs w9 hC9 hB K9 hK9 => ?_) ?_
          · have hd3 := hB 3 _ (by kernel_rfl) rfl
            simp only [hd3] at hK9 ⊢
            obtain ⟨⟨a9, b9, hG9⟩, hN9, hW9⟩ := hC9
            have q0 : w9.cell? ⟨ge, 0, none⟩ = some (.string (cutL u 64)) := hN9.cell 0
            have q1 : w9.cell? ⟨ge, 1, none⟩ = some (.string (cutR u 64)) := hN9.cell 1
            go_simp
            exact hK9 _ _ rfl ⟨⟨a9, b9, hG9⟩, hN9, hW9⟩ id
          refine wpFacts_val (.string ln) (fun vs w9 hC9 hB K9 hK9 => ?_) ?_
          · have hd3 := hB 3 _ (by kernel_rfl) rfl
            have hd4 := hB 4 _ (by kernel_rfl) rfl
            have hd5 := hB 5 _ (by kernel_rfl) rfl
            simp only [hd3, hd4, hd5] at hK9 ⊢
            obtain ⟨⟨a9, b9, hG9⟩, hN9, hW9⟩ := hC9
            go_simp
            refine (HLn.out _).mono ?_
            rintro e8 w8 ⟨rfl, hb8⟩
            exact hK9 _ _ rfl ⟨⟨a9, b9, hG9.below hb8 hG9.lt⟩, hN9.below hb8 hN9.lt, hW9.trans (hb8.mono hW9.size)⟩ (fun h => h.below hb8 h.lt)
          refine wpFacts_val (.string s) (fun vs w9 hC9 hB K9 hK9 => ?_) ?_
          · have hd3 := hB 3 _ (by kernel_rfl) rfl
            simp only [hd3] at hK9 ⊢
            obtain ⟨⟨a9, b9, hG9⟩, hN9, hW9⟩ := hC9
            go_simp
            exact hK9 _ _ rfl ⟨⟨a9, b9, hG9⟩, hN9, hW9⟩ id
          refine wpFacts_val (.string (s ++ ⟨#[10]⟩)) (fun vs w9 hC9 hB K9 hK9 => ?_) ?_
          · have hd3 := hB 3 _ (by kernel_rfl) rfl
            have hd7 := hB 7 _ (by kernel_rfl) rfl
            simp only [hd3, hd7] at hK9 ⊢
            obtain ⟨⟨a9, b9, hG9⟩, hN9, hW9⟩ := hC9
            go_simp
            (first | (rw [if_neg (by omega)]; go_simp) | skip)
            exact hK9 _ _ rfl ⟨⟨a9, b9, hG9⟩, hN9, hW9⟩ id
          refine wpFacts_val (.bool true) (fun vs w9 hC9 hB K9 hK9 => ?_) ?_
          · have hd3 := hB 3 _ (by kernel_rfl) rfl
            have hd6 := hB 6 _ (by kernel_rfl) rfl
            have hd8 := hB 8 _ (by kernel_rfl) rfl
            simp only [hd3, hd6, hd8] at hK9 ⊢
            obtain ⟨⟨a9, b9, hG9⟩, hN9, hW9⟩ := hC9
            have hq := HEq.out
            go_simp
            exact hK9 _ _ rfl ⟨⟨a9, b9, hG9⟩, hN9, hW9⟩ id
          refine wpFacts_val (.bool true) (fun vs w9 hC9 hB K9 hK9 => ?_) ?_
          · have hd3 := hB 3 _ (by kernel_rfl) rfl
            have hd9 := hB 9 _ (by kernel_rfl) rfl
            simp only [hd3, hd9] at hK9 ⊢
            obtain ⟨⟨a9, b9, hG9⟩, hN9, hW9⟩ := hC9
            go_simp
            exact hK9 _ _ rfl ⟨⟨a9, b9, hG9⟩, hN9, hW9⟩ id
          refine wpFacts_some (fun _ W9 => Lies W9 g 96 [.string (cutL u 64), .string (cutR u 64)]) (fun _ _ _ h hT => hT h) (fun vs w9 hC9 hB K9 hK9 => ?_) ?_
          · have hd0 := hB 0 _ (by kernel_rfl) rfl
            simp only [hd0] at hK9 ⊢
            obtain ⟨⟨a9, b9, hG9⟩, hN9, hW9⟩ := hC9
            have q0 : w9.cell? ⟨g, 0, none⟩ = some (.string a9) := hG9.cell 0
            have q1 : w9.cell? ⟨g, 1, none⟩ = some (.string b9) := hG9.cell 1
            have f0 := hG9.frozen 0
            have f1 := hG9.frozen 1
            have hS : Lies ((w9.setCell ⟨g, 0, none⟩ (.string (cutL u 64))).setCell ⟨g, 1, none⟩ (.string (cutR u 64))) g 96 [.string (cutL u 64), .string (cutR u 64)] := (hG9.set 0 (.string (cutL u 64))).set 1 (.string (cutR u 64))
            have hN : Lies ((w9.setCell ⟨g, 0, none⟩ (.string (cutL u 64))).setCell ⟨g, 1, none⟩ (.string (cutR u 64))) ge 96 [.string (cutL u 64), .string (cutR u 64)] := (hN9.other (p := ⟨g, 0, none⟩) (Ne.symm hne) _).other (p := ⟨g, 1, none⟩) (Ne.symm hne) _
            have hW := (hW9.setCell (p := ⟨g, 0, none⟩) hgw (.string (cutL u 64))).setCell (p := ⟨g, 1, none⟩) hgw (.string (cutR u 64))
            go_simp
            exact hK9 _ undef _ rfl hS ⟨⟨_, _, hS⟩, hN, hW⟩ (fun _ => hS)
          refine wpFacts_val (.bool true) (fun vs w9 hC9 hB K9 hK9 => ?_) ?_
          · have hd10 := hB 10 _ (by kernel_rfl) rfl
            simp only [hd10] at hK9 ⊢
            obtain ⟨⟨a9, b9, hG9⟩, hN9, hW9⟩ := hC9
            go_simp
            exact hK9 _ _ rfl ⟨⟨a9, b9, hG9⟩, hN9, hW9⟩ id
          refine wpFacts_nil fun vs W9 hC9 hB => ?_
          have hv12 := hB 12 _ rfl
          have hS := hB 11 _ rfl
          obtain ⟨_, _, hW9⟩ := hC9
          simp only [hv12]
          have c0 := hS.cell 0
          have c1 := hS.cell 1
          simp only [List.getElem?_cons_zero, List.getElem?_cons_succ] at c0 c1
          clear hS hB hv12
          go_wp2_with fail
          refine bodyPost_ret (v := .tuple #[.agg #[.string (cutL u 64), .string (cutR u 64)], .bool true]) (by simp [results, Tryz.results58, go_sem, *]) rfl ⟨cutL u 64, cutR u 64, true, rfl, .inl ⟨rfl, HD.out⟩, hW9⟩


        · have HD : Hid (decF k (bl s) = none) := by rw [Hid, hdec, if_neg (fun h => heq h.2)]
          have HEq : Hid ((ln.toList == (s ++ ⟨#[10]⟩ : ByteArray).toList) = false) := by rw [Hid, str_beq]; exact decide_eq_false (fun h => heq (by rw [← hbln, h, bl_app]; rfl))
          clear hpre hsplit hbu hbx hdec hok heq hln hbln

          go_enter Tryz.func58, Tryz.ntmps58
          go_wp2_with fail
          generalize w.alloc (.cells #[.string ⟨#[]⟩, .string ⟨#[]⟩] 96) = W at b1 L1 ⊢
          generalize hg : w.heap.size = g at L1 ⊢
          refine (HN.out _).mono ?_
          rintro e w2 ⟨rfl, hb2⟩
          go_wp2_with fail
          refine (HSp.out _).mono ?_
          rintro e w3 ⟨A3, c3, rfl, hO3, hb3⟩
          obtain ⟨g3, rfl, x0, hg3, hg3'⟩ := HFirst.out _ _ _ _ hO3
          have hb13 := bthen hb2 hb3
          have L3 := L1.below hb13 L1.lt
          clear hO3
          go_wp2_with fail
          rw [← HU.out]
          refine (HSu.out _).mono ?_
          rintro e w4 ⟨A4, c4, rfl, hO4, hb4⟩
          obtain ⟨g4, rfl, x1, hg4, hg4'⟩ := HFirstU.out _ _ _ _ hO4
          have hb14 := bthen hb13 hb4
          have L4 := L3.below hb4 L3.lt
          clear hO4
          have hEs : ((cutL u 64).size : Int) + 1 ≤ (u.size : Int) := by omega
          go_wp2_with fail
          rw [HR.out]
          have N5 := Lies.new w4 96 #[.string (cutL u 64), .string (cutR u 64)]
          have L5 := L4.alloc (.cells #[.string (cutL u 64), .string (cutR u 64)] 96)
          have hb5 := (bthen b1 hb14).trans ((Below.refl w.heap.size w4).alloc (by have := (bthen b1 hb14).size; omega) (.cells #[.string (cutL u 64), .string (cutR u 64)] 96))
          generalize w4.alloc (.cells #[.string (cutL u 64), .string (cutR u 64)] 96) = W5 at N5 L5 hb5 ⊢
          have hne : g ≠ w4.heap.size := by have := L4.lt; omega
          generalize w4.heap.size = ge at N5 hne ⊢
          have hgw : w.heap.size ≤ g := by omega
          clear L1 L3 L4 x0 x1
          refine wp_region_facts (fun W9 => (∃ a b, Lies W9 g 96 [.string a, .string b]) ∧ Lies W9 ge 96 [.string (cutL u 64), .string (cutR u 64)] ∧ Below w.heap.size w W9) (fun W8 W9 => Lies W8 g 96 [.string (cutL u 64), .string (cutR u 64)] → Lies W9 g 96 [.string (cutL u 64), .string (cutR u 64)]) (by kernel_rfl) (by kernel_rfl) (by kernel_rfl) ⟨⟨_, _, L5.below (Below.refl _ _).drew L5.lt⟩, N5.below (Below.refl _ _).drew N5.lt, hb5.drew⟩ ?_
          simp only [fillOps, Act.put, List.setIfInBounds_toArray, List.set_cons_zero, List.set_cons_succ, Nat.zero_add, Nat.reduceAdd]
          refine wpFacts_val (.agg #[.string (cutL u 64), .string (cutR u 64)]) (fun vs w9 hC9 hB K9 hK9 => ?_) ?_
          · obtain ⟨⟨a9, b9, hG9⟩, hN9, hW9⟩ := hC9
            have q0 : w9.cell? ⟨ge, 0, none⟩ = some (.string (cutL u 64)) := hN9.cell 0
            have q1 : w9.cell? ⟨ge, 1, none⟩ = some (.string (cutR u 64)) := hN9.cell 1
            go_simp
            exact hK9 _ _ rfl ⟨⟨a9, b9, hG9⟩, hN9, hW9⟩ id
          refine wpFacts_val (.agg #[.string (cutL u 64), .string (cutR u 64)]) (fun vs w9 hC9 hB K9 hK9 => ?_) ?_
          · obtain ⟨⟨a9, b9, hG9⟩, hN9, hW9⟩ := hC9
            have q0 : w9.cell? ⟨ge, 0, none⟩ = some (.string (cutL u 64)) := hN9.cell 0
            have q1 : w9.cell? ⟨ge, 1, none⟩ = some (.string (cutR u 64)) := hN9.cell 1
            go_simp
            exact hK9 _ _ rfl ⟨⟨a9, b9, hG9⟩, hN9, hW9⟩ id
          refine wpFacts_val (.bool true) (fun vs w9 hC9 hB K9 hK9 => ?_) ?_
          · have hd1 := hB 1 _ (by kernel_rfl) rfl
            simp only [hd1] at hK9 ⊢
            obtain ⟨⟨a9, b9, hG9⟩, hN9, hW9⟩ := hC9
            go_simp
            refine (HG.out _).mono ?_
            rintro e8 w8 ⟨rfl, hb8⟩
            exact hK9 _ _ rfl ⟨⟨a9, b9, hG9.below hb8 hG9.lt⟩, hN9.below hb8 hN9.lt, hW9.trans (hb8.mono hW9.size)⟩ (fun h => h.below hb8 h.lt)
          refine wpFacts_val (.bool true) (fun vs w9 hC9 hB K9 hK9 => ?_) ?_
          · have hd2 := hB 2 _ (by kernel_rfl) rfl
            simp only [hd2] at hK9 ⊢
            obtain ⟨⟨a9, b9, hG9⟩, hN9, hW9⟩ := hC9
            go_simp
            exact hK9 _ _ rfl ⟨⟨a9, b9, hG9⟩, hN9, hW9⟩ id
          refine wpFacts_val (.int .i64 (k : Int)) (fun vs w9 hC9 hB K9 hK9 => ?_) ?_
          · have hd3 := hB 3 _ (by kernel_rfl) rfl
            simp only [hd3] at hK9 ⊢
            obtain ⟨⟨a9, b9, hG9⟩, hN9, hW9⟩ := hC9
            go_simp
            exact hK9 _ _ rfl ⟨⟨a9, b9, hG9⟩, hN9, hW9⟩ id
          refine wpFacts_val (.agg #[.string (cutL u 64), .string (cutR u 64)]) (fun vs w9 hC9 hB K9 hK9 => ?_) ?_
          · have hd3 := hB 3 _ (by kernel_rfl) rfl
            simp only [hd3] at hK9 ⊢
            obtain ⟨⟨a9, b9, hG9⟩, hN9, hW9⟩ := hC9
            have q0 : w9.cell? ⟨ge, 0, none⟩ = some (.string (cutL u 64)) := hN9.cell 0
            have q1 : w9.cell? ⟨ge, 1, none⟩ = some (.string (cutR u 64)) := hN9.cell 1
            go_simp
            exact hK9 _ _ rfl ⟨⟨a9, b9, hG9⟩, hN9, hW9⟩ id
          refine wpFacts_val (.string ln) (fun vs w9 hC9 hB K9 hK9 => ?_) ?_
          · have hd3 := hB 3 _ (by kernel_rfl) rfl
            have hd4 := hB 4 _ (by kernel_rfl) rfl
            have hd5 := hB 5 _ (by kernel_rfl) rfl
            simp only [hd3, hd4, hd5] at hK9 ⊢
            obtain ⟨⟨a9, b9, hG9⟩, hN9, hW9⟩ := hC9
            go_simp
            refine (HLn.out _).mono ?_
            rintro e8 w8 ⟨rfl, hb8⟩
            exact hK9 _ _ rfl ⟨⟨a9, b9, hG9.below hb8 hG9.lt⟩, hN9.below hb8 hN9.lt, hW9.trans (hb8.mono hW9.size)⟩ (fun h => h.below hb8 h.lt)
          refine wpFacts_val (.string s) (fun vs w9 hC9 hB K9 hK9 => ?_) ?_
          · have hd3 := hB 3 _ (by kernel_rfl) rfl
            simp only [hd3] at hK9 ⊢
            obtain ⟨⟨a9, b9, hG9⟩, hN9, hW9⟩ := hC9
            go_simp
            exact hK9 _ _ rfl ⟨⟨a9, b9, hG9⟩, hN9, hW9⟩ id
          refine wpFacts_val (.string (s ++ ⟨#[10]⟩)) (fun vs w9 hC9 hB K9 hK9 => ?_) ?_
          · have hd3 := hB 3 _ (by kernel_rfl) rfl
            have hd7 := hB 7 _ (by kernel_rfl) rfl
            simp only [hd3, hd7] at hK9 ⊢
            obtain ⟨⟨a9, b9, hG9⟩, hN9, hW9⟩ := hC9
            go_simp
            (first | (rw [if_neg (by omega)]; go_simp) | skip)
            exact hK9 _ _ rfl ⟨⟨a9, b9, hG9⟩, hN9, hW9⟩ id
          refine wpFacts_val (.bool false) (fun vs w9 hC9 hB K9 hK9 => ?_) ?_
          · have hd3 := hB 3 _ (by kernel_rfl) rfl
            have hd6 := hB 6 _ (by kernel_rfl) rfl
            have hd8 := hB 8 _ (by kernel_rfl) rfl
            simp only [hd3, hd6, hd8] at hK9 ⊢
            obtain ⟨⟨a9, b9, hG9⟩, hN9, hW9⟩ := hC9
            have hq := HEq.out
            go_simp
            exact hK9 _ _ rfl ⟨⟨a9, b9, hG9⟩, hN9, hW9⟩ id
          refine wpFacts_val (.bool false) (fun vs w9 hC9 hB K9 hK9 => ?_) ?_
          · have hd3 := hB 3 _ (by kernel_rfl) rfl
            have hd9 := hB 9 _ (by kernel_rfl) rfl
            simp only [hd3, hd9] at hK9 ⊢
            obtain ⟨⟨a9, b9, hG9⟩, hN9, hW9⟩ := hC9
            go_simp
            exact hK9 _ _ rfl ⟨⟨a9, b9, hG9⟩, hN9, hW9⟩ id
          refine wpFacts_some (fun _ W9 => Lies W9 g 96 [.string (cutL u 64), .string (cutR u 64)]) (fun _ _ _ h hT => hT h) (fun vs w9 hC9 hB K9 hK9 => ?_) ?_
          · have hd0 := hB 0 _ (by kernel_rfl) rfl
            simp only [hd0] at hK9 ⊢
            obtain ⟨⟨a9, b9, hG9⟩, hN9, hW9⟩ := hC9
            have q0 : w9.cell? ⟨g, 0, none⟩ = some (.string a9) := hG9.cell 0
            have q1 : w9.cell? ⟨g, 1, none⟩ = some (.string b9) := hG9.cell 1
            have f0 := hG9.frozen 0
            have f1 := hG9.frozen 1
            have hS : Lies ((w9.setCell ⟨g, 0, none⟩ (.string (cutL u 64))).setCell ⟨g, 1, none⟩ (.string (cutR u 64))) g 96 [.string (cutL u 64), .string (cutR u 64)] := (hG9.set 0 (.string (cutL u 64))).set 1 (.string (cutR u 64))
            have hN : Lies ((w9.setCell ⟨g, 0, none⟩ (.string (cutL u 64))).setCell ⟨g, 1, none⟩ (.string (cutR u 64))) ge 96 [.string (cutL u 64), .string (cutR u 64)] := (hN9.other (p := ⟨g, 0, none⟩) (Ne.symm hne) _).other (p := ⟨g, 1, none⟩) (Ne.symm hne) _
            have hW := (hW9.setCell (p := ⟨g, 0, none⟩) hgw (.string (cutL u 64))).setCell (p := ⟨g, 1, none⟩) hgw (.string (cutR u 64))
            go_simp
            exact hK9 _ undef _ rfl hS ⟨⟨_, _, hS⟩, hN, hW⟩ (fun _ => hS)
          refine wpFacts_val (.bool false) (fun vs w9 hC9 hB K9 hK9 => ?_) ?_
          · have hd10 := hB 10 _ (by kernel_rfl) rfl
            simp only [hd10] at hK9 ⊢
            obtain ⟨⟨a9, b9, hG9⟩, hN9, hW9⟩ := hC9
            go_simp
            exact hK9 _ _ rfl ⟨⟨a9, b9, hG9⟩, hN9, hW9⟩ id
          refine wpFacts_nil fun vs W9 hC9 hB => ?_
          have hv12 := hB 12 _ rfl
          have hS := hB 11 _ rfl
          obtain ⟨_, _, hW9⟩ := hC9
          simp only [hv12]
          have c0 := hS.cell 0
          have c1 := hS.cell 1
          simp only [List.getElem?_cons_zero, List.getElem?_cons_succ] at c0 c1
          clear hS hB hv12
          go_wp2_with fail
          refine bodyPost_ret (v := .tuple #[.agg #[.string (cutL u 64), .string (cutR u 64)], .bool false]) (by simp [results, Tryz.results58, go_sem, *]) rfl ⟨cutL u 64, cutR u 64, false, rfl, .inr ⟨rfl, HD.out⟩, hW9⟩


    · have HD : Hid (decF k (bl s) = none) := dec_spec_at (by rw [← hbx]; exact hsplit) hat
      have hwh : (cutL u 64).size = u.size := by unfold cutL; rw [← bl_size, bl_mk, ← bl_size]; exact bef_whole.2 hat
      have d3 : (((cutL u 64).size : Int) == (u.size : Int)) = true := by rw [hwh]; simp
      clear hpre hsplit hbu hat hbx hwh

      go_enter Tryz.func58, Tryz.ntmps58
      go_wp2_with fail
      generalize w.alloc (.cells #[.string ⟨#[]⟩, .string ⟨#[]⟩] 96) = W at b1 L1 ⊢
      generalize hg : w.heap.size = g at L1 ⊢
      refine (HN.out _).mono ?_
      rintro e w2 ⟨rfl, hb2⟩
      go_wp2_with fail
      refine (HSp.out _).mono ?_
      rintro e w3 ⟨A3, c3, rfl, hO3, hb3⟩
      obtain ⟨g3, rfl, x0, hg3, hg3'⟩ := HFirst.out _ _ _ _ hO3
      have hb13 := bthen hb2 hb3
      have L3 := L1.below hb13 L1.lt
      clear hO3
      go_wp2_with fail
      rw [← HU.out]
      refine (HSu.out _).mono ?_
      rintro e w4 ⟨A4, c4, rfl, hO4, hb4⟩
      obtain ⟨g4, rfl, x1, hg4, hg4'⟩ := HFirstU.out _ _ _ _ hO4
      have hb14 := bthen hb13 hb4
      have L4 := L3.below hb4 L3.lt
      clear hO4

      have c0 := L4.cell 0
      have c1 := L4.cell 1
      have f0 := L4.frozen 0
      have f1 := L4.frozen 1
      have hgl := L4.lt
      simp only [List.getElem?_cons_zero, List.getElem?_cons_succ] at c0 c1
      clear L1 L4
      go_wp2_with fail
      refine bodyPost_ret (v := .tuple #[.agg #[.string ⟨#[]⟩, .string ⟨#[]⟩], .bool false]) (by simp [results, Tryz.results58, go_sem, *]) rfl ⟨⟨#[]⟩, ⟨#[]⟩, false, rfl, .inr ⟨rfl, HD.out⟩, ?_⟩
      rw [← hg] at *
      exact (bthen b1 hb14).trans (by repeat (first | exact Below.refl _ _ | refine Below.alloc ?_ (by simp; have := b1.size; have := hb14.size; omega) _ | refine Below.setCell ?_ (by simp) _))


  · have HD : Hid (decF k (bl s) = none) := dec_spec_num (by rw [← hbx]; exact hpre)
    by_cases hsz : x.size < p.size
    · have d1 : decide ((x.size : Int) < (t.size : Int) + 1) = true := decide_eq_true (by omega)
      clear hpre hbx hp hsz

      go_enter Tryz.func58, Tryz.ntmps58
      go_wp2_with fail
      generalize w.alloc (.cells #[.string ⟨#[]⟩, .string ⟨#[]⟩] 96) = W at b1 L1 ⊢
      generalize hg : w.heap.size = g at L1 ⊢
      refine (HN.out _).mono ?_
      rintro e w2 ⟨rfl, hb2⟩
      go_wp2_with fail
      refine (HSp.out _).mono ?_
      rintro e w3 ⟨A3, c3, rfl, hO3, hb3⟩
      obtain ⟨g3, rfl, x0, hg3, hg3'⟩ := HFirst.out _ _ _ _ hO3
      have hb13 := bthen hb2 hb3
      have L3 := L1.below hb13 L1.lt
      clear hO3
      have c0 := L3.cell 0
      have c1 := L3.cell 1
      have f0 := L3.frozen 0
      have f1 := L3.frozen 1
      have hgl := L3.lt
      simp only [List.getElem?_cons_zero, List.getElem?_cons_succ] at c0 c1
      clear L1 L3
      go_wp2_with fail
      refine bodyPost_ret (v := .tuple #[.agg #[.string ⟨#[]⟩, .string ⟨#[]⟩], .bool false]) (by simp [results, Tryz.results58, go_sem, *]) rfl ⟨⟨#[]⟩, ⟨#[]⟩, false, rfl, .inr ⟨rfl, HD.out⟩, ?_⟩
      rw [← hg] at *
      exact (bthen b1 hb13).trans (by repeat (first | exact Below.refl _ _ | refine Below.alloc ?_ (by simp; have := b1.size; have := hb13.size; omega) _ | refine Below.setCell ?_ (by simp) _))

    · have d1 : decide ((x.size : Int) < (t.size : Int) + 1) = false := decide_eq_false (by omega)
      have d2 : ((x.extract 0 (t.size + 1)).toList == (t ++ ⟨#[32]⟩).toList) = false := by
        rw [str_beq]; refine decide_eq_false fun e => hpre ?_
        rw [HPre.out, bl_extract, List.drop_zero] at e
        rw [← e]; exact List.take_prefix _ _
      have i1 : (t.size : Int) + 1 ≤ (x.size : Int) := by omega
      clear hpre hbx hp hsz

      go_enter Tryz.func58, Tryz.ntmps58
      go_wp2_with fail
      generalize w.alloc (.cells #[.string ⟨#[]⟩, .string ⟨#[]⟩] 96) = W at b1 L1 ⊢
      generalize hg : w.heap.size = g at L1 ⊢
      refine (HN.out _).mono ?_
      rintro e w2 ⟨rfl, hb2⟩
      go_wp2_with fail
      refine (HSp.out _).mono ?_
      rintro e w3 ⟨A3, c3, rfl, hO3, hb3⟩
      obtain ⟨g3, rfl, x0, hg3, hg3'⟩ := HFirst.out _ _ _ _ hO3
      have hb13 := bthen hb2 hb3
      have L3 := L1.below hb13 L1.lt
      clear hO3
      have c0 := L3.cell 0
      have c1 := L3.cell 1
      have f0 := L3.frozen 0
      have f1 := L3.frozen 1
      have hgl := L3.lt
      simp only [List.getElem?_cons_zero, List.getElem?_cons_succ] at c0 c1
      clear L1 L3
      go_wp2_with fail
      refine bodyPost_ret (v := .tuple #[.agg #[.string ⟨#[]⟩, .string ⟨#[]⟩], .bool false]) (by simp [results, Tryz.results58, go_sem, *]) rfl ⟨⟨#[]⟩, ⟨#[]⟩, false, rfl, .inr ⟨rfl, HD.out⟩, ?_⟩
      rw [← hg] at *
      exact (bthen b1 hb13).trans (by repeat (first | exact Below.refl _ _ | refine Below.alloc ?_ (by simp; have := b1.size; have := hb13.size; omega) _ | refine Below.setCell ?_ (by simp) _))

end Go.Proofs.YtojceibamgodbaaGreatDoor

/- Reading the records of a log, in the reference. -/
namespace Go.Proofs.YtojceibamgodbaaGreatDoor
open Go.RowKit

/-- What reading gives, in the reference: the records, and the bytes read. -/
def GivesRead (s : ByteArray) (w : World) (e : Ending) (w' : World) : Prop := ∃ A c m, e = .returned (.tuple #[.slice A m.length c, .int .i64 (lens (openF 60 0 (bl s)) : Nat)]) ∧ recsOf (openF 60 0 (bl s)) m ∧
  w'.ownsRow w.heap.size 96 2 (.slice A m.length c) m.length (m.flatMap Rec.enc) ∧ Below w.heap.size w w'

/-- What splitting and reading the first part needs. -/
theorem first_hid (x : ByteArray) (b : UInt8) (n : Nat) (hn : n = (splitL b (bl x)).length) : Hid (∀ (W : World) (B : Nat) (A : Option Addr) (c : Nat), W.ownsRow B 9 1 (.slice A n c) n (texts (splitL b (bl x))) → ∃ g, A = some ⟨g, 0, none⟩ ∧ W.cell? ⟨g, 0, none⟩ = some (.string (cutL x b)) ∧ B ≤ g ∧ g < W.heap.size) := fun W B A c h => by
  subst hn; exact split_first h

set_option maxRecDepth 100000 in
set_option maxHeartbeats 8000000 in
theorem l33Open_any (s : ByteArray) (w : World) (hs : s.size ≤ 1000000) :
    Calls Tryz.prog 39 #[.string s] w (GivesRead s w) := by
  have b0 := (Below.refl w.heap.size w).alloc (Nat.le_refl _) (.cells #[] 96)
  have O0 : Hid ((w.alloc (.cells #[] 96)).ownsRow w.heap.size 96 2 (.slice (some ⟨w.heap.size, 0, none⟩) 0 0) 0 (([] : List Rec).flatMap Rec.enc)) := owns_empty (Lies.new w 96 #[]) (Nat.le_refl _)
  go_enter Tryz.func39, Tryz.ntmps39
  go_wp2
  have HZ : Hid (openF 60 0 (bl s) = [] ++ openF (60 - 0) 0 ((bl s).drop 0)) := rfl
  go_loopw [4, 5, 6, 7, 8] (fun r at' _ _ _ wr => ∃ (a : Nat) (A : Option Addr) (c : Nat) (m : List Rec) (acc : List ((List UInt8 × List UInt8) × Nat)), m.length ≤ 60 ∧ a ≤ s.size ∧ r = .slice A m.length c ∧ at' = .int .i64 a ∧ (∃ q : Since w.heap.size w, wr = q.val) ∧
    Hid (recsOf acc m) ∧ Hid (lens acc = a) ∧ Hid (openF 60 0 (bl s) = acc ++ openF (60 - m.length) m.length ((bl s).drop a)) ∧ Hid (wr.ownsRow w.heap.size 96 2 (.slice A m.length c) m.length (m.flatMap Rec.enc))) (fun r _ _ _ _ _ => 60 - lenOf r)
  case atStart => exact ⟨0, some ⟨w.heap.size, 0, none⟩, 0, [], [], by simp, Nat.zero_le _, rfl, rfl, ⟨⟨_, b0⟩, rfl⟩, rfl, rfl, HZ, O0⟩
  case round =>
    obtain ⟨a, A, c, m, acc, hm, ha, rfl, rfl, ⟨q, rfl⟩, HA, HL, HF, HR⟩ := hrel
    have DONE : openF (60 - m.length) m.length ((bl s).drop a) = [] → ∀ W', Below q.val.heap.size q.val W' → GivesRead s w (.returned (.tuple #[.slice A m.length c, .int .i64 (a : Nat)])) W' := fun h W' hb => by
      have h1 := HF.out
      rw [h, List.append_nil] at h1
      exact ⟨A, c, m, by rw [h1, HL.out], by rw [h1]; exact HA.out, ownsRow_below HR.out hb, (q.go (Nat.le_refl _) hb).below⟩
    by_cases hlt : a < s.size
    · by_cases hm60 : m.length < 60
      · obtain ⟨n, hn⟩ : ∃ n, 60 - m.length = n + 1 := ⟨59 - m.length, by omega⟩
        obtain ⟨x, hx⟩ : ∃ x : ByteArray, x = s.extract a s.size := ⟨_, rfl⟩
        have hbx : bl x = (bl s).drop a := by rw [hx, bl_extract, List.take_of_length_le (by rw [bl_size]; exact Nat.le_refl _)]
        have hxs : x.size ≤ 1000000 := by rw [← bl_size, hbx, List.length_drop, bl_size]; omega
        have HSp : Hid (∀ W, Calls Tryz.prog 57 #[.string (s.extract a s.size), .int .u8 10] W fun e w' => ∃ A c, e = .returned (.slice A (splitL 10 (bl x)).length c) ∧ w'.ownsRow W.heap.size 9 1 (.slice A (splitL 10 (bl x)).length c) (splitL 10 (bl x)).length (texts (splitL 10 (bl x))) ∧ Below W.heap.size W w') := fun W => by
          rw [← hx]; exact l1Split_any x 10 W (by omega)
        have hys : (cutL x 10).size ≤ 1000000 := by unfold cutL; rw [← bl_size, bl_mk]; have := bef_len 10 (bl x); rw [bl_size] at this; omega
        have hyb : bl (cutL x 10) = bef 10 (bl x) := by unfold cutL; rw [bl_mk]
        have hyz : (cutL x 10).size = (bef 10 (bl x)).length := by rw [← bl_size, hyb]
        obtain ⟨ps, hps, hps0⟩ := split_head 10 (bl x)
        have hlen : (splitL 10 (bl x)).length = ps.length + 1 := by rw [hps]; rfl
        have hpl : (splitL 10 (bl x)).length ≤ 1000001 := by have := parts_len 10 (bl x) []; rw [bl_size] at this; unfold splitL; omega
        obtain ⟨n0, hn0⟩ : ∃ n, n = (splitL 10 (bl x)).length := ⟨_, rfl⟩
        have HFirst := first_hid x 10 n0 hn0
        rw [← hn0] at HSp hlen hpl
        have HDc := Lib.hid (fun W => l33Read_any m.length (cutL x 10) W (by omega) hys)
        rw [hn] at DONE HF
        rw [← hbx] at DONE HF
        have i1 : (a : Int) ≤ (s.size : Int) := by omega
        by_cases h1 : (10 : UInt8) ∈ bl x
        · have hn2 : 2 ≤ n0 := by
            rcases ps with _ | ⟨p, ps⟩
            · exact absurd h1 (hps0.1 rfl)
            · simp at hlen; omega
          have hp := congrArg List.length (parts_bef h1)
          have hxl : (bl x).length = s.size - a := by rw [hbx, List.length_drop, bl_size]
          simp only [List.length_append, List.length_cons, List.length_drop, hxl, ← hyz] at hp
          have hda : a + (cutL x 10).size + 1 ≤ s.size := by omega
          obtain ⟨y, hy⟩ : ∃ y : ByteArray, y = cutL x 10 := ⟨_, rfl⟩
          rw [← hy] at hyb hyz hys HDc HFirst hda
          have HBad : Hid (decF m.length (bl y) = none → ∀ W', Below q.val.heap.size q.val W' → GivesRead s w (.returned (.tuple #[.slice A m.length c, .int .i64 (a : Nat)])) W') := fun h => DONE (openF_bad (by rw [← hyb]; exact h))
          have HGood : Hid (∀ ra rb, decF m.length (bl y) = some (ra, rb) → openF 60 0 (bl s) = (acc ++ [((ra, rb), y.size + 1)]) ++ openF (60 - (m.length + 1)) (m.length + 1) ((bl s).drop (a + (y.size + 1)))) := fun ra rb h => by
            have e1 := openF_yes (n := n) h1 (by rw [← hyb]; exact h)
            have e2 : 60 - (m.length + 1) = n := by omega
            rw [HF.out, e1, e2, ← hyz, hbx, List.drop_drop]
            simp
          have i3 : (a : Int) + (y.size : Int) + 1 ≤ (s.size : Int) := by omega
          clear DONE h1 hx hbx hn hp hxl hyb hyz hy hps hps0 hlen hn0
          go_wp2_with fail
          refine (HSp.out _).mono ?_
          rintro e w3 ⟨A3, c3, rfl, hO3, hb3⟩
          obtain ⟨g3, rfl, x0, hg3, hg3'⟩ := HFirst.out _ _ _ _ hO3
          go_wp2_with fail
          refine (HDc.out _).mono ?_
          rintro e w4 ⟨ra, rb, ok, rfl, hdec, hb4⟩
          obtain ⟨_, hgg, x4, _, _⟩ := HFirst.out _ _ _ _ (ownsRow_below hO3 (hb4.alloc hb4.size (.cells #[.string ra, .string rb] 96)))
          injection hgg with hgg; injection hgg with hgg _; subst hgg
          clear x0
          have hb34 := bthen hb3 (hb4.alloc hb4.size (.cells #[.string ra, .string rb] 96))
          cases ok
          · have HD := Lib.hid (HBad.out (by rcases hdec with ⟨h, _⟩ | ⟨_, h⟩; cases h; exact h) _ hb34)
            clear hdec hO3
            go_wp2_with fail
            go_ret2
            exact HD.out
          · have hdec' : decF m.length (bl y) = some (bl ra, bl rb) := by rcases hdec with ⟨_, h⟩ | ⟨h, _⟩; exact h; cases h
            have HF2 := Lib.hid (HGood.out _ _ hdec')
            clear hdec hdec'
            have HR4 := Lib.hid (ownsRow_below HR.out hb34)
            have HO3 := Lib.hid (ownsRow_below hO3 (hb4.alloc hb4.size (.cells #[.string ra, .string rb] 96)))
            clear hO3
            have hqs := q.size
            have hsz4 : w.heap.size ≤ (w4.alloc (.cells #[.string ra, .string rb] 96)).heap.size := Nat.le_trans hqs hb34.size
            go_wp2_with (at_builtin; refine wpList_push (w0 := w4.alloc (.cells #[.string ra, .string rb] 96)) rfl (.tmp 39) (.tmp 41) 72 rfl 96 _ 2 32 Tryz.underlying72 infoRec rfl (by omega) (by omega) w.heap.size _ _ _ rfl HR4 #[.string ra, .string rb] 1 _ rfl (by first | rfl | simp | exact Array.size_push _) rfl (by simp [Value.oneCell']) (by omega) hsz4 rfl rfl rfl rfl ?_; intro v5 w5 HO5 hg5 hb5; obtain ⟨_, hgg, x5, _, _⟩ := HFirst.out _ _ _ _ (ownsRow_two HO3.out HR4.out (show (96 : TypeId) ≠ 9 by decide) hg5); injection hgg with hgg; injection hgg with hgg _; subst hgg)
            obtain ⟨A5, c5, hv5⟩ := ownsRow_slice HO5.out
            subst hv5
            go_roundw
            case rel =>
              refine ⟨a + (y.size + 1), A5, c5, m ++ [⟨ra, rb⟩], acc ++ [((bl ra, bl rb), y.size + 1)], by simp; omega, by omega, by simp, by go_num, ⟨(q.go (Nat.le_refl _) hb34).go' hb5, rfl⟩, ?_, ?_, ?_, ?_⟩
              · have h1 := HA.out; unfold recsOf at h1; unfold recsOf Hid; simp [h1]
              · have h1 := HL.out; unfold Hid; rw [← h1]; simp [lens]
              · have h1 := HF2.out; rw [Hid]; simpa using h1
              · have h1 := HO5.out; rw [Hid]; simpa [Rec.enc] using h1
            case measure => simp [lenOf]; omega
        · obtain rfl : n0 = 1 := by rw [hps0.2 h1] at hlen; exact hlen
          have HD := Lib.hid (DONE (openF_no h1))
          clear DONE h1 hx hbx hn hyb hyz hps hps0 hlen hn0
          go_wp2_with fail
          refine (HSp.out _).mono ?_
          rintro e w3 ⟨A3, c3, rfl, hO3, hb3⟩
          obtain ⟨g3, rfl, x0, hg3, hg3'⟩ := HFirst.out _ _ _ _ hO3
          clear hO3
          go_wp2_with fail
          refine (HDc.out _).mono ?_
          rintro e w4 ⟨ra, rb, ok, rfl, hdec, hb4⟩
          clear hdec
          have hb34 := bthen hb3 (hb4.alloc hb4.size (.cells #[.string ra, .string rb] 96))
          have HD4 := Lib.hid (HD.out _ hb34)
          go_wp2_with fail
          go_ret2
          exact HD4.out
      · have HD : Hid (GivesRead s w (.returned (.tuple #[.slice A m.length c, .int .i64 (a : Nat)])) q.val) := DONE (by rw [show 60 - m.length = 0 by omega]; rfl) _ (Below.refl _ _)
        clear DONE
        go_wp2
        go_ret2
        exact HD.out
    · have HD : Hid (GivesRead s w (.returned (.tuple #[.slice A m.length c, .int .i64 (a : Nat)])) q.val) := DONE (openF_no (by rw [List.drop_eq_nil_of_le (by rw [bl_size]; omega)]; simp)) _ (Below.refl _ _)
      clear DONE
      go_wp2
      go_ret2
      exact HD.out
end Go.Proofs.YtojceibamgodbaaGreatDoor
