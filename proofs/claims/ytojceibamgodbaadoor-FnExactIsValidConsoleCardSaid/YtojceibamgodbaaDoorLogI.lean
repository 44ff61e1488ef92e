/- Whether a log is valid, in the program. -/
import Derived.Test.YtojceibamgodbaaDoorRead
import Derived.Test.YtojceibamgodbaaDoorPlain
namespace Go.Proofs.YtojceibamgodbaaDoor
open Go.RowKit

structure Lg where
  D : ByteArray
  P : ByteArray
  n : Int
abbrev Lg.val (l : Lg) : Value := .agg #[.string l.D, .string l.P, .int .i64 l.n]
noncomputable def Lg.ok (l : Lg) : Bool := logOk (bl l.D) (bl l.P) l.n
def Lg.all (l : Lg) : List UInt8 := bl l.D ++ bl l.P

theorem getD_of {α : Type} {l : List α} {j : Nat} (h : j < l.length) (d : α) : l.getD j d = l[j] := by rw [List.getD_eq_getElem?_getD, List.getElem?_eq_getElem h]; rfl

theorem ends_facts {W : World} {B n : Nat} {A : Option Addr} {c : Nat} {l : List Nat} (h : W.ownsRow B 3 1 (.slice A n c) n (nums l)) (hn : n = l.length) (h0 : 0 < n) :
    ∃ g, A = some ⟨g, 0, none⟩ ∧ B ≤ g ∧ g < W.heap.size ∧ ∀ j, j < n → W.cell? ⟨g, j, none⟩ = some (.int .i64 ((l.getD j 0 : Nat) : Int)) := by
  obtain ⟨g, hA⟩ : ∃ g, A = some ⟨g, 0, none⟩ := by
    obtain ⟨_, h0' | ⟨g, cap, cur, hv, _⟩⟩ := h
    · have := h0'.2; omega
    · injection hv with e1 e2 e3; exact ⟨g, e1⟩
  subst hA
  refine ⟨g, rfl, (h.lt g rfl).1, (h.lt g rfl).2, fun j hj => ?_⟩
  rw [h.cellAt j (by omega)]
  unfold nums
  rw [List.getElem?_map, List.getElem?_eq_getElem (by omega), getD_of (by omega)]
  rfl

theorem ends_contains {W : World} {g c : Nat} {l : List Nat} {x : Nat} {n : Nat} (hn : n = l.length) (hb : n ≤ 9223372036854775807) (h : ∀ j, j < n → W.cell? ⟨g, j, none⟩ = some (.int .i64 ((l.getD j 0 : Nat) : Int))) :
    Calls Tryd.prog 68 #[.slice (some ⟨g, 0, none⟩) n c, .int .i64 (x : Int)] W fun e w' => e = .returned (.bool (decide (x ∈ l))) ∧ w' = W := by
  have h1 := Tryd.slices_Contains_int g 0 n c (l.map fun (y : Nat) => (y : Int)) x W (by simp; omega) hb (fun j hj => by
    simp only [List.length_map] at hj
    rw [Nat.zero_add, h j (by omega), getD_of hj, getD_of (by simpa using hj)]
    simp)
  have h2 : ((l.map fun (y : Nat) => (y : Int)).take n).contains (x : Int) = decide (x ∈ l) := by
    rw [List.take_of_length_le (by simp; omega), Bool.eq_iff_iff]
    simp only [List.contains_eq_mem, decide_eq_true_eq, List.mem_map]
    exact ⟨fun ⟨a, ha, e⟩ => by rw [← Int.ofNat.inj e]; exact ha, fun h => ⟨x, h, rfl⟩⟩
  rw [h2] at h1
  exact h1

set_option maxRecDepth 100000 in
set_option maxHeartbeats 4000000 in
theorem isLog_any (l : Lg) (w : World) (hs : l.D.size + l.P.size ≤ 2000000) (ht : Tab w) :
    Calls Tryd.prog 38 #[l.val] w fun e w' => e = .returned (.bool l.ok) ∧ Below w.heap.size w w' := by
  have b1 := (Below.refl w.heap.size w).alloc (Nat.le_refl _) (.cells #[.string l.D, .string l.P, .int .i64 l.n] 36)
  have L1 := Lies.new w 36 #[.string l.D, .string l.P, .int .i64 l.n]
  have ht1 := ht.then b1
  have hbl : bl (l.D ++ l.P) = bl l.D ++ bl l.P := bl_app _ _
  have hz : (l.D ++ l.P).size = l.D.size + l.P.size := size_app _ _
  have HRd := Lib.hid (fun W hW => readRecords_any (l.D ++ l.P) W (by omega) hW)
  have hok := @logOk_impl (bl l.D) (bl l.P) l.n
  have hlen := openF_length 60 0 (bl (l.D ++ l.P))
  have hroom := openF_room 60 0 (bl (l.D ++ l.P))
  have hlast := endsF_last 0 (openF 60 0 (bl (l.D ++ l.P)))
  have hel := endsF_length 0 (openF 60 0 (bl (l.D ++ l.P)))
  rw [← hbl] at hok
  rw [bl_size] at hroom
  rw [bl_size, bl_size] at hok
  rw [Nat.zero_add] at hlast
  obtain ⟨rs, hrs⟩ : ∃ rs, rs = openF 60 0 (bl (l.D ++ l.P)) := ⟨_, rfl⟩
  obtain ⟨en, hen⟩ : ∃ en, en = endsF 0 (openF 60 0 (bl (l.D ++ l.P))) := ⟨_, rfl⟩
  have HRd2 : Hid (∀ W, Tab W → Calls Tryd.prog 50 #[.string (l.D ++ l.P)] W fun e w' => ∃ A c A' c' k g, k = rs.length ∧ A' = some ⟨g, 0, none⟩ ∧ e = .returned (.tuple #[.slice A k c, .slice A' (k + 1) c']) ∧ (∀ j, j < k + 1 → w'.cell? ⟨g, j, none⟩ = some (.int .i64 ((en.getD j 0 : Nat) : Int))) ∧ Below W.heap.size W w') := fun W hW => by
    refine (HRd.out W hW).mono ?_
    rintro e w' ⟨A, c, A', c', m, rfl, hm, _, hO, hb⟩
    have hml := recsOf_len hm
    obtain ⟨g, hA, _, _, hc⟩ := ends_facts hO (by rw [endsF_length, hml]) (by omega)
    exact ⟨A, c, A', c', m.length, g, by rw [hml, hrs], hA, rfl, by rw [hen]; exact hc, hb⟩
  clear HRd
  rw [← hen] at hlast hel hok
  rw [← hrs] at hlen hroom hlast hel hok
  obtain ⟨k0, hk0⟩ : ∃ k0, k0 = rs.length := ⟨_, rfl⟩
  rw [← hk0] at hlen hlast hel hok HRd2
  obtain ⟨z, hzz⟩ : ∃ z, z = lens rs := ⟨_, rfl⟩
  rw [← hzz] at hroom hlast hok
  have hlast' : en.getD k0 0 = z := by rw [List.getD_eq_getElem?_getD, hlast]; rfl
  have HCt : Hid (∀ (W : World) (g c : Nat), (∀ j, j < k0 + 1 → W.cell? ⟨g, j, none⟩ = some (.int .i64 ((en.getD j 0 : Nat) : Int))) → Calls Tryd.prog 68 #[.slice (some ⟨g, 0, none⟩) (k0 + 1) c, .int .i64 (l.D.size : Int)] W fun e w' => e = .returned (.bool (decide (l.D.size ∈ en))) ∧ w' = W) := fun W g c h => ends_contains (by omega) (by omega) h
  have HOK : Hid (l.ok = (decide (z = l.D.size + l.P.size) && decide (l.D.size ∈ en) && decide (l.n = (k0 : Int)))) := by
    unfold Hid Lg.ok
    rw [Bool.eq_iff_iff, hok]
    simp [and_assoc]
  clear hok hlast hbl hrs hen hk0 hzz
  generalize decide (l.D.size ∈ en) = dc at HCt HOK
  go_enter Tryd.func38, Tryd.ntmps38
  go_wp2_with fail
  generalize w.alloc (.cells #[.string l.D, .string l.P, .int .i64 l.n] 36) = W at b1 L1 ht1 ⊢
  generalize hg : w.heap.size = g at L1 ⊢
  refine (HRd2.out _ ht1).mono ?_
  rintro e w2 ⟨A, c, A', c', k, g', rfl, rfl, rfl, hc', hb2⟩
  have L2 := L1.below hb2 L1.lt
  have c0 := L2.cell 0
  have c1 := L2.cell 1
  have c2 := L2.cell 2
  simp only [List.getElem?_cons_zero, List.getElem?_cons_succ] at c0 c1 c2
  have HC2 := Lib.hid (HCt.out w2 g' c' hc')
  have hl := hc' k (by omega)
  rw [hlast'] at hl
  have hbb : Below w.heap.size w w2 := by rw [← hg] at *; exact bthen b1 hb2
  clear L1 L2 hc' HCt HRd2
  by_cases e1 : z = l.D.size + l.P.size
  · rw [decide_eq_true e1] at HOK
    have d1 : ((z : Int) == (l.D.size : Int) + (l.P.size : Int)) = true := by rw [e1]; simp
    cases dc
    · clear e1
      go_wp2_with (go_at_call 68; refine (HC2.out).mono ?_; rintro e w' ⟨rfl, rfl⟩)
      go_ret
      exact ⟨by rw [HOK.out]; rfl, hbb⟩
    · by_cases e3 : l.n = (k : Int)
      · rw [decide_eq_true e3] at HOK
        have d3 : (l.n == (k : Int)) = true := by rw [e3]; simp
        clear e1 e3
        go_wp2_with (go_at_call 68; refine (HC2.out).mono ?_; rintro e w' ⟨rfl, rfl⟩)
        go_ret
        exact ⟨by rw [HOK.out]; rfl, hbb⟩
      · rw [decide_eq_false e3] at HOK
        have d3 : (l.n == (k : Int)) = false := by simp [e3]
        clear e1 e3
        go_wp2_with (go_at_call 68; refine (HC2.out).mono ?_; rintro e w' ⟨rfl, rfl⟩)
        go_ret
        exact ⟨by rw [HOK.out]; rfl, hbb⟩
  · rw [decide_eq_false e1] at HOK
    have d1 : ((z : Int) == (l.D.size : Int) + (l.P.size : Int)) = false := by simp; omega
    clear e1
    go_wp2_with fail
    go_ret
    exact ⟨by rw [HOK.out]; rfl, hbb⟩
end Go.Proofs.YtojceibamgodbaaDoor
