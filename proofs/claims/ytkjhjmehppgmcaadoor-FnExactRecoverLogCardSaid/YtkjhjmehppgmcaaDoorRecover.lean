/- RecoverLog: both sides and the law. -/
import Derived.Test.YtkjhjmehppgmcaaDoorLgTo
namespace Go.Proofs.YtkjhjmehppgmcaaDoor
open Go.RowKit

theorem extract_all (s : ByteArray) (n : Nat) : s.extract 0 n = ⟨((bl s).take n).toArray⟩ := by
  refine bl_ext ?_; rw [bl_extract, List.drop_zero, bl_mk]

def recOkS (s : ByteArray) : Bool := decide (s.size ≤ 30000)
/-- What recovering gives. -/
noncomputable def recLen (s : ByteArray) : Nat := if recOkS s then lens (openF 60 0 (bl s)) else 0
noncomputable def recLg (s : ByteArray) : Lg := if recOkS s then ⟨s.extract 0 (lens (openF 60 0 (bl s))), ⟨#[]⟩, ((openF 60 0 (bl s)).length : Nat)⟩ else ⟨⟨#[]⟩, ⟨#[]⟩, 0⟩

set_option maxRecDepth 100000 in
set_option maxHeartbeats 2000000 in
theorem specRecover_any (s : ByteArray) (w : World) (hs : s.size ≤ 2000000) :
    Calls Tryd.prog 18 #[.string s] w fun e w' => e = .returned (.tuple #[(recLg s).val, .int .i64 (recLen s : Nat), .bool (recOkS s)]) ∧ Below w.heap.size w w' := by
  have b1 := (Below.refl w.heap.size w).alloc (Nat.le_refl _) (.cells #[.string ⟨#[]⟩, .string ⟨#[]⟩, .int .i64 0] 31)
  have L1 := Lies.new w 31 #[.string ⟨#[]⟩, .string ⟨#[]⟩, .int .i64 0]
  by_cases hbig : 30000 < s.size
  · have HK : Hid (recOkS s = false) := decide_eq_false (by omega)
    have HG : Hid (recLg s = ⟨⟨#[]⟩, ⟨#[]⟩, 0⟩) := by unfold recLg Hid; rw [HK.out]; rfl
    have HL : Hid (recLen s = 0) := by unfold recLen Hid; rw [HK.out]; rfl
    have d0 : decide (30000 < (s.size : Int)) = true := decide_eq_true (by omega)
    clear hbig
    go_enter Tryd.func18, Tryd.ntmps18
    go_wp2_with fail
    refine bodyPost_ret (v := .tuple #[.agg #[.string ⟨#[]⟩, .string ⟨#[]⟩, .int .i64 0], .int .i64 0, .bool false]) (by simp [results, Tryd.results18, go_sem, *]) rfl ⟨by rw [HK.out, HG.out, HL.out]; rfl, ?_⟩
    repeat (first | exact Below.refl _ _ | refine Below.alloc ?_ (by simp; try omega) _ | refine Below.setCell ?_ (by simp; try omega) _)
  · have HK : Hid (recOkS s = true) := decide_eq_true (by omega)
    have d0 : decide (30000 < (s.size : Int)) = false := decide_eq_false (by omega)
    have HA := Lib.hid (fun W => l33Open_any s W (by omega))
    have hroom := openF_room 60 0 (bl s)
    have hlen := openF_length 60 0 (bl s)
    rw [bl_size] at hroom
    obtain ⟨k0, hk0⟩ : ∃ k0, k0 = (openF 60 0 (bl s)).length := ⟨_, rfl⟩
    obtain ⟨z, hzz⟩ : ∃ z, z = lens (openF 60 0 (bl s)) := ⟨_, rfl⟩
    have HA2 : Hid (∀ W, Calls Tryd.prog 54 #[.string s] W fun e w' => ∃ A c k, k = k0 ∧ e = .returned (.tuple #[.slice A k c, .int .i64 (z : Nat)]) ∧ Below W.heap.size W w') := fun W => by
      refine (HA.out W).mono ?_
      rintro e w' ⟨A, c, m, rfl, hm, _, hb⟩
      exact ⟨A, c, m.length, by rw [recsOf_len hm, hk0], by rw [hzz], hb⟩
    have HG : Hid (recLg s = ⟨s.extract 0 z, ⟨#[]⟩, (k0 : Nat)⟩) := by unfold recLg Hid; rw [HK.out, if_pos rfl, hk0, hzz]
    have HL : Hid (recLen s = z) := by unfold recLen Hid; rw [HK.out, if_pos rfl, hzz]
    rw [← hzz] at hroom
    rw [← hk0] at hlen
    clear hzz hk0 HA hbig
    have i1 : (z : Int) ≤ (s.size : Int) := by omega
    go_enter Tryd.func18, Tryd.ntmps18
    go_wp2_with fail
    generalize w.alloc (.cells #[.string ⟨#[]⟩, .string ⟨#[]⟩, .int .i64 0] 31) = W at b1 L1 ⊢
    generalize hg : w.heap.size = g at L1 ⊢
    refine (HA2.out _).mono ?_
    rintro e w2 ⟨A, c, k, rfl, rfl, hb2⟩
    have L2 := L1.below hb2 L1.lt
    have c0 := L2.cell 0
    have c1 := L2.cell 1
    have c2 := L2.cell 2
    have f0 := L2.frozen 0
    have f1 := L2.frozen 1
    have f2 := L2.frozen 2
    have hgl := L2.lt
    simp only [List.getElem?_cons_zero, List.getElem?_cons_succ] at c0 c1 c2
    clear L1 L2
    go_wp2_with fail
    refine bodyPost_ret (v := .tuple #[.agg #[.string (s.extract 0 z), .string ⟨#[]⟩, .int .i64 (k : Nat)], .int .i64 (z : Nat), .bool true]) (by simp [results, Tryd.results18, go_sem, *]) rfl ⟨by rw [HK.out, HG.out, HL.out], ?_⟩
    rw [← hg] at *
    exact (bthen b1 hb2).trans (by repeat (first | exact Below.refl _ _ | refine Below.alloc ?_ (by simp; have := b1.size; have := hb2.size; omega) _ | refine Below.setCell ?_ (by simp) _))

set_option maxRecDepth 100000 in
set_option maxHeartbeats 2000000 in
theorem implRecover_any (s : ByteArray) (w : World) (hs : s.size ≤ 2000000) (ht : Tab w) :
    Calls Tryd.prog 19 #[.string s] w fun e w' => e = .returned (.tuple #[(recLg s).val, .int .i64 (recLen s : Nat), .bool (recOkS s)]) ∧ Below w.heap.size w w' := by
  have b1 := (Below.refl w.heap.size w).alloc (Nat.le_refl _) (.cells #[.string ⟨#[]⟩, .string ⟨#[]⟩, .int .i64 0] 31)
  have L1 := Lies.new w 31 #[.string ⟨#[]⟩, .string ⟨#[]⟩, .int .i64 0]
  have ht1 := ht.then b1
  by_cases hbig : 30000 < s.size
  · have HK : Hid (recOkS s = false) := decide_eq_false (by omega)
    have HG : Hid (recLg s = ⟨⟨#[]⟩, ⟨#[]⟩, 0⟩) := by unfold recLg Hid; rw [HK.out]; rfl
    have HL : Hid (recLen s = 0) := by unfold recLen Hid; rw [HK.out]; rfl
    have d0 : decide (30000 < (s.size : Int)) = true := decide_eq_true (by omega)
    clear hbig
    go_enter Tryd.func19, Tryd.ntmps19
    go_wp2_with fail
    refine bodyPost_ret (v := .tuple #[.agg #[.string ⟨#[]⟩, .string ⟨#[]⟩, .int .i64 0], .int .i64 0, .bool false]) (by simp [results, Tryd.results19, go_sem, *]) rfl ⟨by rw [HK.out, HG.out, HL.out]; rfl, ?_⟩
    repeat (first | exact Below.refl _ _ | refine Below.alloc ?_ (by simp; try omega) _ | refine Below.setCell ?_ (by simp; try omega) _)
  · have HK : Hid (recOkS s = true) := decide_eq_true (by omega)
    have d0 : decide (30000 < (s.size : Int)) = false := decide_eq_false (by omega)
    have HA := Lib.hid (fun W hW => readRecords_any s W (by omega) hW)
    have hroom := openF_room 60 0 (bl s)
    have hlen := openF_length 60 0 (bl s)
    rw [bl_size] at hroom
    obtain ⟨k0, hk0⟩ : ∃ k0, k0 = (openF 60 0 (bl s)).length := ⟨_, rfl⟩
    obtain ⟨z, hzz⟩ : ∃ z, z = lens (openF 60 0 (bl s)) := ⟨_, rfl⟩
    have HA2 : Hid (∀ W, Tab W → Calls Tryd.prog 55 #[.string s] W fun e w' => ∃ A c A' c' k g, k = k0 ∧ A' = some ⟨g, 0, none⟩ ∧ e = .returned (.tuple #[.slice A k c, .slice A' (k + 1) c']) ∧ w'.cell? ⟨g, k, none⟩ = some (.int .i64 (z : Nat)) ∧ g < w'.heap.size ∧ W.heap.size ≤ g ∧ Below W.heap.size W w') := fun W hW => by
      refine (HA.out W hW).mono ?_
      rintro e w' ⟨A, c, A', c', m, rfl, hm, _, hO, hb⟩
      have hml := recsOf_len hm
      obtain ⟨g, hA, h1, h2, hc⟩ := ends_facts hO (by rw [endsF_length, hml]) (by omega)
      refine ⟨A, c, A', c', m.length, g, by rw [hml, hk0], hA, rfl, ?_, h2, h1, hb⟩
      have h3 := hc m.length (by omega)
      have h4 := endsF_last 0 (openF 60 0 (bl s))
      rw [h3, hml, List.getD_eq_getElem?_getD, h4, hzz, Nat.zero_add]
      rfl
    have HG : Hid (recLg s = ⟨s.extract 0 z, ⟨#[]⟩, (k0 : Nat)⟩) := by unfold recLg Hid; rw [HK.out, if_pos rfl, hk0, hzz]
    have HL : Hid (recLen s = z) := by unfold recLen Hid; rw [HK.out, if_pos rfl, hzz]
    rw [← hzz] at hroom
    rw [← hk0] at hlen
    clear hzz hk0 HA hbig
    have i1 : (z : Int) ≤ (s.size : Int) := by omega
    go_enter Tryd.func19, Tryd.ntmps19
    go_wp2_with fail
    generalize w.alloc (.cells #[.string ⟨#[]⟩, .string ⟨#[]⟩, .int .i64 0] 31) = W at b1 L1 ht1 ⊢
    generalize hg : w.heap.size = g at L1 ⊢
    refine (HA2.out _ ht1).mono ?_
    rintro e w2 ⟨A, c, A', c', k, g', rfl, rfl, rfl, hcz, _, _, hb2⟩
    have L2 := L1.below hb2 L1.lt
    have c0 := L2.cell 0
    have c1 := L2.cell 1
    have c2 := L2.cell 2
    have f0 := L2.frozen 0
    have f1 := L2.frozen 1
    have f2 := L2.frozen 2
    have hgl := L2.lt
    simp only [List.getElem?_cons_zero, List.getElem?_cons_succ] at c0 c1 c2
    clear L1 L2
    go_wp2_with fail
    refine bodyPost_ret (v := .tuple #[.agg #[.string (s.extract 0 z), .string ⟨#[]⟩, .int .i64 (k : Nat)], .int .i64 (z : Nat), .bool true]) (by simp [results, Tryd.results19, go_sem, *]) rfl ⟨by rw [HK.out, HG.out, HL.out], ?_⟩
    rw [← hg] at *
    exact (bthen b1 hb2).trans (by repeat (first | exact Below.refl _ _ | refine Below.alloc ?_ (by simp; have := b1.size; have := hb2.size; omega) _ | refine Below.setCell ?_ (by simp) _))

set_option maxRecDepth 100000 in
set_option maxHeartbeats 1000000 in
set_option linter.unusedVariables false in
theorem lawRecoverLog_any (s : ByteArray) (w : World) (h1 : s.size ≤ 9223372036854775807) (ht : Tab w) :
    Calls Tryd.prog 4 #[.string s] w fun en w' => en = .returned (.bool true) ∧ Below w.heap.size w w' := by
  by_cases hbig : 1048576 < s.size
  · have d0 : decide (1048576 < (s.size : Int)) = true := decide_eq_true (by omega)
    clear hbig
    go_enter Tryd.func4, Tryd.ntmps4
    go_wp2_with fail
    go_ret
    exact ⟨rfl, Below.refl _ _⟩
  · have d0 : decide (1048576 < (s.size : Int)) = false := decide_eq_false (by omega)
    have cS := fun W => specRecover_any s W (by omega)
    have cI := fun W hW => implRecover_any s W (by omega) hW
    generalize recLg s = lg at cS cI
    generalize recLen s = z at cS cI
    generalize recOkS s = ok at cS cI
    have hbo : (ok != ok) = false := by simp
    have hzo : (((z : Nat) : Int) != (z : Int)) = false := by simp
    have HE := Lib.hid (fun W => eqLog_yes lg W)
    clear hbig
    go_enter Tryd.func4, Tryd.ntmps4
    go_wp2_with fail
    refine (cS _).mono ?_
    rintro en w1 ⟨rfl, hb1⟩
    go_wp2_with fail
    have b2 := (Below.refl w1.heap.size w1).alloc (Nat.le_refl _) (.cells #[.string lg.D, .string lg.P, .int .i64 lg.n] 31)
    have N2 := Lies.new w1 31 #[.string lg.D, .string lg.P, .int .i64 lg.n]
    generalize w1.alloc (.cells #[.string lg.D, .string lg.P, .int .i64 lg.n] 31) = w2 at b2 N2 ⊢
    generalize hg1 : w1.heap.size = g1 at N2 ⊢
    refine (cI _ ((ht.then hb1).then b2)).mono ?_
    rintro en w3 ⟨rfl, hb3⟩
    have N3 := N2.below hb3 N2.lt
    have c0 := N3.cell 0
    have c1 := N3.cell 1
    have c2 := N3.cell 2
    have hgl := N3.lt
    simp only [List.getElem?_cons_zero, List.getElem?_cons_succ] at c0 c1 c2
    have b4 := hb3.alloc hb3.size (.cells #[.string lg.D, .string lg.P, .int .i64 lg.n] 31)
    clear N2 N3
    go_wp2_with (go_at_call 20; refine (HE.out _).mono ?_; rintro en w5 ⟨rfl, hb5⟩)
    go_ret
    exact ⟨rfl, by rw [← hg1] at *; exact bthen hb1 (bthen b2 (bthen b4 hb5))⟩
end Go.Proofs.YtkjhjmehppgmcaaDoor
