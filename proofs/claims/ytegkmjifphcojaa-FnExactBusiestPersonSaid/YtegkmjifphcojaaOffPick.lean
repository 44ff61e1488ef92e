/- KindsAt, PersonsWith, in the reference and in the program. (Printed by gen_picks.py) -/
import Derived.Test.YtegkmjifphcojaaOffIn
import Derived.Test.YtegkmjifphcojaaOwn
namespace Go.Proofs.Ytegkmjifphcojaa
open Go.RowKit

def picks (sel : Outing → Bool) (get : Outing → Int) : List Outing → List Int
  | [] => []
  | r :: l => if sel r then get r :: picks sel get l else picks sel get l
theorem picks_yes {sel : Outing → Bool} {get : Outing → Int} {l : List Outing} {k : Nat} (h : k < l.length) (hs : sel l[k] = true) : picks sel get (l.drop k) = get l[k] :: picks sel get (l.drop (k + 1)) := by
  rw [List.drop_eq_getElem_cons h, picks, if_pos hs]
theorem picks_no {sel : Outing → Bool} {get : Outing → Int} {l : List Outing} {k : Nat} (h : k < l.length) (hs : sel l[k] = false) : picks sel get (l.drop k) = picks sel get (l.drop (k + 1)) := by
  rw [List.drop_eq_getElem_cons h, picks, if_neg (by rw [hs]; exact Bool.false_ne_true)]
theorem picks_len (sel : Outing → Bool) (get : Outing → Int) : ∀ l : List Outing, (picks sel get l).length ≤ l.length
  | [] => Nat.le_refl _
  | r :: l => by
    have := picks_len sel get l
    unfold picks
    split <;> simp <;> omega
def listOf (ok : Bool) (l : List Int) : List Int := if ok then l else []
theorem OwnS.lower {w : World} {B B' : Nat} {t : TypeId} {k : Nat} {A : Option Addr} {n : Nat} {cs : List Value} (h : OwnS w B t k A n cs) (hB : B' ≤ B) : OwnS w B' t k A n cs := by
  obtain ⟨hl, hn, h0 | ⟨g, rest, hA, hg, hh⟩⟩ := h
  · exact ⟨hl, hn, .inl h0⟩
  · exact ⟨hl, hn, .inr ⟨g, rest, hA, Nat.le_trans hB hg, hh⟩⟩
theorem infoInt : (Try.prog.info? 3).map (fun i => (i.zero, i.size, i.bytes)) = some (some (.int .i64 0), 1, 8) := by kernel_rfl

set_option maxHeartbeats 2000000 in
theorem specKindsAt_any (x : Off) (st : Int) (_hst : -9223372036854775808 ≤ st) (_hst' : st ≤ 9223372036854775807) (w : World) (h : OffR w w.heap.size x) :
    Calls Try.prog 25 #[x.val, .int .i64 st] w fun e w' => ∃ A' c', e = .returned (.tuple #[.slice A' (listOf (goodOff x && inR st 1 999) (picks (fun r : Outing => decide (r.p = st)) Outing.k x.o)).length c', .bool (goodOff x && inR st 1 999)]) ∧ OwnS w' w.heap.size 3 1 A' (listOf (goodOff x && inR st 1 999) (picks (fun r : Outing => decide (r.p = st)) Outing.k x.o)).length (encIs (listOf (goodOff x && inR st 1 999) (picks (fun r : Outing => decide (r.p = st)) Outing.k x.o))) ∧ Below w.heap.size w w' := by
  have b2 := (Below.refl w.heap.size w).alloc (Nat.le_refl _) (.cells #[.slice x.TA x.t.length x.tc, .slice x.OA x.o.length x.oc, .int .i64 x.got, .int .i64 x.sold, .int .i64 x.missed] 31)
  have hA := box_at h 31
  have hsW : (w.alloc (.cells #[.slice x.TA x.t.length x.tc, .slice x.OA x.o.length x.oc, .int .i64 x.got, .int .i64 x.sold, .int .i64 x.missed] 31)).heap.size = w.heap.size + 1 := Array.size_push _
  have HSW := Lib.hid hsW; clear hsW
  have cG := fun W hW => l32Good_any x W hW
  cases hg : goodOff x
  · rw [hg] at cG
    clear hg
    go_enter Try.func25, Try.ntmps25
    go_wp2_with fail
    generalize (w.alloc (.cells #[.slice x.TA x.t.length x.tc, .slice x.OA x.o.length x.oc, .int .i64 x.got, .int .i64 x.sold, .int .i64 x.missed] 31)) = W at b2 hA HSW ⊢
    obtain ⟨q0, hq0⟩ : ∃ q0 : Since W.heap.size W, W.alloc (.cells #[] 3) = q0.val := ⟨⟨W.alloc (.cells #[] 3), (Below.refl _ _).alloc (Nat.le_refl _) _⟩, rfl⟩
    have hO : Lies q0.val (w.heap.size + 1) 3 [] := by rw [← hq0, ← HSW.out]; exact Lies.new W 3 #[]
    rw [hq0]
    clear hq0
    refine (cG _ (hA.r.at q0)).mono ?_
    rintro e w1 ⟨rfl, hb1⟩
    obtain ⟨q1, rfl⟩ : ∃ q1 : Since W.heap.size W, w1 = q1.val := ⟨q0.go (Nat.le_refl _) hb1, rfl⟩
    go_wp2
    go_ret2
    show ∃ A' c', _ = Ending.returned (.tuple #[.slice A' ([] : List Int).length c', .bool false]) ∧ OwnS _ _ _ 1 A' ([] : List Int).length (encIs []) ∧ _
    exact ⟨_, _, rfl, ⟨rfl, by simp, .inr ⟨w.heap.size + 1, [], rfl, Nat.le_succ _, by simpa using (hO.below (hb1) hO.lt)⟩⟩, b2.trans (q1.below.mono b2.size)⟩
  · rw [hg] at cG
    have G := good_iff.1 hg
    have ol := G.ol
    have hl := h.os.big
    clear hg G
    obtain ⟨v2, hv2⟩ : ∃ v, inR st 1 999 = v := ⟨_, rfl⟩
    have H2 := Lib.hid hv2
    rw [hv2]
    clear hv2
    cases v2
    · go_enter Try.func25, Try.ntmps25
      go_wp2_with fail
      generalize (w.alloc (.cells #[.slice x.TA x.t.length x.tc, .slice x.OA x.o.length x.oc, .int .i64 x.got, .int .i64 x.sold, .int .i64 x.missed] 31)) = W at b2 hA HSW ⊢
      obtain ⟨q0, hq0⟩ : ∃ q0 : Since W.heap.size W, W.alloc (.cells #[] 3) = q0.val := ⟨⟨W.alloc (.cells #[] 3), (Below.refl _ _).alloc (Nat.le_refl _) _⟩, rfl⟩
      have hO : Lies q0.val (w.heap.size + 1) 3 [] := by rw [← hq0, ← HSW.out]; exact Lies.new W 3 #[]
      rw [hq0]
      clear hq0
      obtain ⟨p0, p1, p2, p3, p4⟩ := hA.s
      refine (cG _ (hA.r.at q0)).mono ?_
      rintro e w1 ⟨rfl, hb1⟩
      obtain ⟨q1, rfl⟩ : ∃ q1 : Since W.heap.size W, w1 = q1.val := ⟨q0.go (Nat.le_refl _) hb1, rfl⟩
      go_wp2_with fail
      refine ((l1In_any st 1 999 _)).mono ?_
      rw [H2.out]
      rintro e w2 ⟨rfl, rfl⟩
      go_wp2
      go_ret2
      show ∃ A' c', _ = Ending.returned (.tuple #[.slice A' ([] : List Int).length c', .bool false]) ∧ OwnS _ _ _ 1 A' ([] : List Int).length (encIs []) ∧ _
      exact ⟨_, _, rfl, ⟨rfl, by simp, .inr ⟨w.heap.size + 1, [], rfl, Nat.le_succ _, by simpa using (hO.below (hb1) hO.lt)⟩⟩, b2.trans (q1.below.mono b2.size)⟩
    · have HF : Hid (picks (fun r : Outing => decide (r.p = st)) Outing.k (x.o.drop 0) = picks (fun r : Outing => decide (r.p = st)) Outing.k x.o) := rfl
      go_enter Try.func25, Try.ntmps25
      go_wp2_with fail
      generalize (w.alloc (.cells #[.slice x.TA x.t.length x.tc, .slice x.OA x.o.length x.oc, .int .i64 x.got, .int .i64 x.sold, .int .i64 x.missed] 31)) = W at b2 hA HSW ⊢
      obtain ⟨q0, hq0⟩ : ∃ q0 : Since W.heap.size W, W.alloc (.cells #[] 3) = q0.val := ⟨⟨W.alloc (.cells #[] 3), (Below.refl _ _).alloc (Nat.le_refl _) _⟩, rfl⟩
      have hO : Lies q0.val (w.heap.size + 1) 3 [] := by rw [← hq0, ← HSW.out]; exact Lies.new W 3 #[]
      rw [hq0]
      clear hq0
      obtain ⟨p0, p1, p2, p3, p4⟩ := hA.s
      have hro := hA.r.os.el
      refine (cG _ (hA.r.at q0)).mono ?_
      rintro e w1 ⟨rfl, hb1⟩
      obtain ⟨q1, rfl⟩ : ∃ q1 : Since W.heap.size W, w1 = q1.val := ⟨q0.go (Nat.le_refl _) hb1, rfl⟩
      go_wp2_with fail
      refine ((l1In_any st 1 999 _)).mono ?_
      rw [H2.out]
      rintro e w2 ⟨rfl, rfl⟩
      obtain ⟨OA, hOA⟩ : ∃ A, x.OA = A := ⟨_, rfl⟩
      rw [hOA] at hro
      simp only [hOA] at p1
      clear hOA
      go_wp2
      go_loopw [6, 7] (fun out i wr => ∃ (k : Nat) (acc : List Int), k ≤ x.o.length ∧ i = .int .i64 k ∧ acc.length ≤ k ∧ Hid (wr.ownsRow W.heap.size 3 1 out acc.length (encIs acc)) ∧ (Below W.heap.size W wr) ∧ Hid (acc ++ picks (fun r : Outing => decide (r.p = st)) Outing.k (x.o.drop k) = picks (fun r : Outing => decide (r.p = st)) Outing.k x.o)) (fun _ i _ => x.o.length - (intOf i).toNat)
      case atStart => exact ⟨0, [], Nat.zero_le _, rfl, Nat.zero_le _, ((hO.below (hb1) hO.lt).own (B := W.heap.size) (k := 1) (n := 0) (by rw [HSW.out]; exact Nat.le_refl _) rfl (by unfold maxLen; omega)), q1.below, HF⟩
      case round =>
        obtain ⟨k, acc, hk, rfl, hacc, HO, hbr, HR⟩ := hrel
        obtain ⟨q, rfl⟩ : ∃ q : Since W.heap.size W, wr = q.val := ⟨⟨wr, hbr⟩, rfl⟩
        by_cases hlt : k < x.o.length
        · obtain ⟨b, off, rfl, hb, hcell⟩ := hro (by omega)
          obtain ⟨e0, e1, e2⟩ := hcell k hlt
          have hy := fun hv => picks_yes (sel := (fun r : Outing => decide (r.p = st))) (get := Outing.k) hlt hv
          have hn := fun hv => picks_no (sel := (fun r : Outing => decide (r.p = st))) (get := Outing.k) hlt hv
          obtain ⟨r, hre⟩ : ∃ r, r = x.o[k] := ⟨_, rfl⟩
          rw [← hre] at e0 e1 e2 hy hn
          clear hre hcell hro
          by_cases hz : r.p = st
          · have hv : (r.p == st) = true := by simp [hz]
            have HE : Hid ((acc ++ [r.k]) ++ picks (fun r : Outing => decide (r.p = st)) Outing.k (x.o.drop (k + 1)) = picks (fun r : Outing => decide (r.p = st)) Outing.k x.o) := by
              have h1 := HR.out; rw [hy (decide_eq_true hz)] at h1; unfold Hid; rw [List.append_assoc]; exact h1
            clear hy hn hz HR
            go_wp2_with (at_builtin; refine wpList_push (w0 := q.val) rfl _ _ 37 rfl 3 (.int .i64 0) 1 8 Try.underlying37 infoInt rfl (by decide) (by omega) W.heap.size _ _ _ rfl HO #[.int .i64 r.k] 1 _ rfl (by first | rfl | exact Array.size_push _) rfl (by simp [Value.oneCell']) (by omega) q.size rfl rfl rfl rfl ?_; intro v' w3 HO3 hg3 hb3)
            obtain ⟨A3, c3, rfl⟩ := ownsRow_slice HO3.out
            go_wp2
            go_roundw
            case rel => exact ⟨k + 1, acc ++ [r.k], by omega, by go_num, by simp; omega, by rw [List.length_append]; unfold encIs at HO3 ⊢; rw [List.map_append]; exact HO3, q.below.grown hg3 q.size (fun g hg => (HO.out.lt g hg).1), HE⟩
            case measure => simp [intOf]; omega
          · have hv : (r.p == st) = false := by simp [hz]
            have HE : Hid (acc ++ picks (fun r : Outing => decide (r.p = st)) Outing.k (x.o.drop (k + 1)) = picks (fun r : Outing => decide (r.p = st)) Outing.k x.o) := by
              have h1 := HR.out; rw [hn (decide_eq_false hz)] at h1; exact h1
            clear hy hn hz HR
            go_wp2
            go_roundw
            case rel => exact ⟨k + 1, acc, by omega, by go_num, by omega, HO, q.below, HE⟩
            case measure => simp [intOf]; omega
        · have HE : Hid (acc = picks (fun r : Outing => decide (r.p = st)) Outing.k x.o) := by
            have h1 := HR.out; rw [List.drop_eq_nil_of_le (by omega), show picks (fun r : Outing => decide (r.p = st)) Outing.k [] = [] from rfl, List.append_nil] at h1; exact h1
          obtain ⟨A3, c3, rfl⟩ := ownsRow_slice HO.out
          clear hro
          go_wp2
          go_ret2
          have e1 : listOf (true && true) (picks (fun r : Outing => decide (r.p = st)) Outing.k x.o) = acc := HE.out.symm
          rw [e1]
          exact ⟨_, _, rfl, (OwnS.of HO.out).lower b2.size, b2.trans (q.below.mono b2.size)⟩

set_option maxHeartbeats 2000000 in
theorem implKindsAt_any (x : Off) (st : Int) (_hst : -9223372036854775808 ≤ st) (_hst' : st ≤ 9223372036854775807) (w : World) (h : OffR w w.heap.size x) :
    Calls Try.prog 26 #[x.val, .int .i64 st] w fun e w' => ∃ A' c', e = .returned (.tuple #[.slice A' (listOf (goodOff x && inR st 1 999) (picks (fun r : Outing => decide (r.p = st)) Outing.k x.o)).length c', .bool (goodOff x && inR st 1 999)]) ∧ OwnS w' w.heap.size 3 1 A' (listOf (goodOff x && inR st 1 999) (picks (fun r : Outing => decide (r.p = st)) Outing.k x.o)).length (encIs (listOf (goodOff x && inR st 1 999) (picks (fun r : Outing => decide (r.p = st)) Outing.k x.o))) ∧ Below w.heap.size w w' := by
  have b2 := (Below.refl w.heap.size w).alloc (Nat.le_refl _) (.cells #[.slice x.TA x.t.length x.tc, .slice x.OA x.o.length x.oc, .int .i64 x.got, .int .i64 x.sold, .int .i64 x.missed] 31)
  have hA := box_at h 31
  have hsW : (w.alloc (.cells #[.slice x.TA x.t.length x.tc, .slice x.OA x.o.length x.oc, .int .i64 x.got, .int .i64 x.sold, .int .i64 x.missed] 31)).heap.size = w.heap.size + 1 := Array.size_push _
  have HSW := Lib.hid hsW; clear hsW
  have cG := fun W hW => isOfficeValid_any x w.heap.size W hW
  cases hg : goodOff x
  · rw [hg] at cG
    clear hg
    go_enter Try.func26, Try.ntmps26
    go_wp2_with fail
    generalize (w.alloc (.cells #[.slice x.TA x.t.length x.tc, .slice x.OA x.o.length x.oc, .int .i64 x.got, .int .i64 x.sold, .int .i64 x.missed] 31)) = W at b2 hA HSW ⊢
    refine (calls_since0 (cG _ hA)).mono ?_
    rintro e w1 ⟨rfl, q1, rfl⟩
    go_wp2
    go_ret2
    show ∃ A' c', _ = Ending.returned (.tuple #[.slice A' ([] : List Int).length c', .bool false]) ∧ OwnS _ _ _ 1 A' ([] : List Int).length (encIs []) ∧ _
    exact ⟨_, _, rfl, ⟨rfl, by simp, .inl ⟨rfl, rfl⟩⟩, b2.trans (q1.below.mono b2.size)⟩
  · rw [hg] at cG
    have G := good_iff.1 hg
    have ol := G.ol
    have hl := h.os.big
    clear hg G
    obtain ⟨v2, hv2⟩ : ∃ v, inR st 1 999 = v := ⟨_, rfl⟩
    have H2 := Lib.hid hv2
    rw [hv2]
    clear hv2
    cases v2
    · go_enter Try.func26, Try.ntmps26
      go_wp2_with fail
      generalize (w.alloc (.cells #[.slice x.TA x.t.length x.tc, .slice x.OA x.o.length x.oc, .int .i64 x.got, .int .i64 x.sold, .int .i64 x.missed] 31)) = W at b2 hA HSW ⊢
      obtain ⟨p0, p1, p2, p3, p4⟩ := hA.s
      refine (calls_since0 (cG _ hA)).mono ?_
      rintro e w1 ⟨rfl, q1, rfl⟩
      go_wp2_with fail
      refine ((isPerson_any st _)).mono ?_
      rw [H2.out]
      rintro e w2 ⟨rfl, rfl⟩
      go_wp2
      go_ret2
      show ∃ A' c', _ = Ending.returned (.tuple #[.slice A' ([] : List Int).length c', .bool false]) ∧ OwnS _ _ _ 1 A' ([] : List Int).length (encIs []) ∧ _
      exact ⟨_, _, rfl, ⟨rfl, by simp, .inl ⟨rfl, rfl⟩⟩, b2.trans (q1.below.mono b2.size)⟩
    · have HF : Hid (picks (fun r : Outing => decide (r.p = st)) Outing.k (x.o.drop 0) = picks (fun r : Outing => decide (r.p = st)) Outing.k x.o) := rfl
      go_enter Try.func26, Try.ntmps26
      go_wp2_with fail
      generalize (w.alloc (.cells #[.slice x.TA x.t.length x.tc, .slice x.OA x.o.length x.oc, .int .i64 x.got, .int .i64 x.sold, .int .i64 x.missed] 31)) = W at b2 hA HSW ⊢
      obtain ⟨p0, p1, p2, p3, p4⟩ := hA.s
      have hro := hA.r.os.el
      refine (calls_since0 (cG _ hA)).mono ?_
      rintro e w1 ⟨rfl, q1, rfl⟩
      go_wp2_with fail
      refine ((isPerson_any st _)).mono ?_
      rw [H2.out]
      rintro e w2 ⟨rfl, rfl⟩
      obtain ⟨OA, hOA⟩ : ∃ A, x.OA = A := ⟨_, rfl⟩
      rw [hOA] at hro
      simp only [hOA] at p1
      clear hOA
      go_wp2
      go_loopw [6, 19] (fun out i wr => ∃ (k : Nat) (acc : List Int), k ≤ x.o.length ∧ i = .int .i64 k ∧ acc.length ≤ k ∧ Hid (wr.ownsRow W.heap.size 3 1 out acc.length (encIs acc)) ∧ (Below W.heap.size W wr) ∧ Hid (acc ++ picks (fun r : Outing => decide (r.p = st)) Outing.k (x.o.drop k) = picks (fun r : Outing => decide (r.p = st)) Outing.k x.o)) (fun _ i _ => x.o.length - (intOf i).toNat)
      case atStart => exact ⟨0, [], Nat.zero_le _, rfl, Nat.zero_le _, (World.ownsRow_nil _ _ _ _), q1.below, HF⟩
      case round =>
        obtain ⟨k, acc, hk, rfl, hacc, HO, hbr, HR⟩ := hrel
        obtain ⟨q, rfl⟩ : ∃ q : Since W.heap.size W, wr = q.val := ⟨⟨wr, hbr⟩, rfl⟩
        by_cases hlt : k < x.o.length
        · obtain ⟨b, off, rfl, hb, hcell⟩ := hro (by omega)
          obtain ⟨e0, e1, e2⟩ := hcell k hlt
          have hy := fun hv => picks_yes (sel := (fun r : Outing => decide (r.p = st))) (get := Outing.k) hlt hv
          have hn := fun hv => picks_no (sel := (fun r : Outing => decide (r.p = st))) (get := Outing.k) hlt hv
          obtain ⟨r, hre⟩ : ∃ r, r = x.o[k] := ⟨_, rfl⟩
          rw [← hre] at e0 e1 e2 hy hn
          clear hre hcell hro
          by_cases hz : r.p = st
          · have hv : (r.p == st) = true := by simp [hz]
            have HE : Hid ((acc ++ [r.k]) ++ picks (fun r : Outing => decide (r.p = st)) Outing.k (x.o.drop (k + 1)) = picks (fun r : Outing => decide (r.p = st)) Outing.k x.o) := by
              have h1 := HR.out; rw [hy (decide_eq_true hz)] at h1; unfold Hid; rw [List.append_assoc]; exact h1
            clear hy hn hz HR
            have HOW := Lib.hid (HO.out.alloc (.cells #[.int .i64 r.k, .int .i64 r.p, .int .i64 r.c] 104))
            have hbV := q.below.alloc q.size (.cells #[.int .i64 r.k, .int .i64 r.p, .int .i64 r.c] 104)
            have hsV := hbV.size
            clear HO
            go_wp2_with (at_builtin; refine wpList_push (w0 := q.val.alloc (.cells #[.int .i64 r.k, .int .i64 r.p, .int .i64 r.c] 104)) rfl _ _ 37 rfl 3 (.int .i64 0) 1 8 Try.underlying37 infoInt rfl (by decide) (by omega) W.heap.size _ _ _ rfl HOW #[.int .i64 r.k] 1 _ rfl (by first | rfl | exact Array.size_push _) rfl (by simp [Value.oneCell']) (by omega) hsV rfl rfl rfl rfl ?_; intro v' w3 HO3 hg3 hb3)
            obtain ⟨A3, c3, rfl⟩ := ownsRow_slice HO3.out
            go_wp2
            go_roundw
            case rel => exact ⟨k + 1, acc ++ [r.k], by omega, by go_num, by simp; omega, by rw [List.length_append]; unfold encIs at HO3 ⊢; rw [List.map_append]; exact HO3, hbV.grown hg3 hbV.size (fun g hg => (HOW.out.lt g hg).1), HE⟩
            case measure => simp [intOf]; omega
          · have hv : (r.p == st) = false := by simp [hz]
            have HE : Hid (acc ++ picks (fun r : Outing => decide (r.p = st)) Outing.k (x.o.drop (k + 1)) = picks (fun r : Outing => decide (r.p = st)) Outing.k x.o) := by
              have h1 := HR.out; rw [hn (decide_eq_false hz)] at h1; exact h1
            clear hy hn hz HR
            go_wp2
            go_roundw
            case rel => exact ⟨k + 1, acc, by omega, by go_num, by omega, Lib.hid (HO.out.alloc _), q.below.alloc q.size _, HE⟩
            case measure => simp [intOf]; omega
        · have HE : Hid (acc = picks (fun r : Outing => decide (r.p = st)) Outing.k x.o) := by
            have h1 := HR.out; rw [List.drop_eq_nil_of_le (by omega), show picks (fun r : Outing => decide (r.p = st)) Outing.k [] = [] from rfl, List.append_nil] at h1; exact h1
          obtain ⟨A3, c3, rfl⟩ := ownsRow_slice HO.out
          clear hro
          go_wp2
          go_ret2
          have e1 : listOf (true && true) (picks (fun r : Outing => decide (r.p = st)) Outing.k x.o) = acc := HE.out.symm
          rw [e1]
          exact ⟨_, _, rfl, (OwnS.of HO.out).lower b2.size, b2.trans (q.below.mono b2.size)⟩

set_option maxHeartbeats 2000000 in
theorem specPersonsWith_any (x : Off) (st : Int) (_hst : -9223372036854775808 ≤ st) (_hst' : st ≤ 9223372036854775807) (w : World) (h : OffR w w.heap.size x) :
    Calls Try.prog 31 #[x.val, .int .i64 st] w fun e w' => ∃ A' c', e = .returned (.tuple #[.slice A' (listOf (goodOff x && hasTray x.t st) (picks (fun r : Outing => decide (r.k = st)) Outing.p x.o)).length c', .bool (goodOff x && hasTray x.t st)]) ∧ OwnS w' w.heap.size 3 1 A' (listOf (goodOff x && hasTray x.t st) (picks (fun r : Outing => decide (r.k = st)) Outing.p x.o)).length (encIs (listOf (goodOff x && hasTray x.t st) (picks (fun r : Outing => decide (r.k = st)) Outing.p x.o))) ∧ Below w.heap.size w w' := by
  have b2 := (Below.refl w.heap.size w).alloc (Nat.le_refl _) (.cells #[.slice x.TA x.t.length x.tc, .slice x.OA x.o.length x.oc, .int .i64 x.got, .int .i64 x.sold, .int .i64 x.missed] 31)
  have hA := box_at h 31
  have hsW : (w.alloc (.cells #[.slice x.TA x.t.length x.tc, .slice x.OA x.o.length x.oc, .int .i64 x.got, .int .i64 x.sold, .int .i64 x.missed] 31)).heap.size = w.heap.size + 1 := Array.size_push _
  have HSW := Lib.hid hsW; clear hsW
  have cG := fun W hW => l32Good_any x W hW
  cases hg : goodOff x
  · rw [hg] at cG
    clear hg
    go_enter Try.func31, Try.ntmps31
    go_wp2_with fail
    generalize (w.alloc (.cells #[.slice x.TA x.t.length x.tc, .slice x.OA x.o.length x.oc, .int .i64 x.got, .int .i64 x.sold, .int .i64 x.missed] 31)) = W at b2 hA HSW ⊢
    obtain ⟨q0, hq0⟩ : ∃ q0 : Since W.heap.size W, W.alloc (.cells #[] 3) = q0.val := ⟨⟨W.alloc (.cells #[] 3), (Below.refl _ _).alloc (Nat.le_refl _) _⟩, rfl⟩
    have hO : Lies q0.val (w.heap.size + 1) 3 [] := by rw [← hq0, ← HSW.out]; exact Lies.new W 3 #[]
    rw [hq0]
    clear hq0
    refine (cG _ (hA.r.at q0)).mono ?_
    rintro e w1 ⟨rfl, hb1⟩
    obtain ⟨q1, rfl⟩ : ∃ q1 : Since W.heap.size W, w1 = q1.val := ⟨q0.go (Nat.le_refl _) hb1, rfl⟩
    go_wp2
    go_ret2
    show ∃ A' c', _ = Ending.returned (.tuple #[.slice A' ([] : List Int).length c', .bool false]) ∧ OwnS _ _ _ 1 A' ([] : List Int).length (encIs []) ∧ _
    exact ⟨_, _, rfl, ⟨rfl, by simp, .inr ⟨w.heap.size + 1, [], rfl, Nat.le_succ _, by simpa using (hO.below (hb1) hO.lt)⟩⟩, b2.trans (q1.below.mono b2.size)⟩
  · rw [hg] at cG
    have G := good_iff.1 hg
    have ol := G.ol
    have hl := h.os.big
    clear hg G
    obtain ⟨X, hX⟩ : ∃ X, trayIx x.t st = X := ⟨_, rfl⟩
    have HX : Hid (Value.int .i64 (trayIx x.t st) = .int .i64 X) := by rw [hX]; rfl
    obtain ⟨v2, hv2⟩ : ∃ v, hasTray x.t st = v := ⟨_, rfl⟩
    have hX0 : decide (0 ≤ X) = v2 := by rw [← hX, ← hv2]; exact trayIx_has _ _
    rw [hv2]
    clear hX hv2
    cases v2
    · go_enter Try.func31, Try.ntmps31
      have hX1 : X < 0 := by have := of_decide_eq_false hX0; omega
      clear hX0
      go_wp2_with fail
      generalize (w.alloc (.cells #[.slice x.TA x.t.length x.tc, .slice x.OA x.o.length x.oc, .int .i64 x.got, .int .i64 x.sold, .int .i64 x.missed] 31)) = W at b2 hA HSW ⊢
      obtain ⟨q0, hq0⟩ : ∃ q0 : Since W.heap.size W, W.alloc (.cells #[] 3) = q0.val := ⟨⟨W.alloc (.cells #[] 3), (Below.refl _ _).alloc (Nat.le_refl _) _⟩, rfl⟩
      have hO : Lies q0.val (w.heap.size + 1) 3 [] := by rw [← hq0, ← HSW.out]; exact Lies.new W 3 #[]
      rw [hq0]
      clear hq0
      obtain ⟨p0, p1, p2, p3, p4⟩ := hA.s
      refine (cG _ (hA.r.at q0)).mono ?_
      rintro e w1 ⟨rfl, hb1⟩
      obtain ⟨q1, rfl⟩ : ∃ q1 : Since W.heap.size W, w1 = q1.val := ⟨q0.go (Nat.le_refl _) hb1, rfl⟩
      go_wp2_with fail
      refine (l32Tray_any x st _ (hA.r.at q1)).mono ?_
      rw [HX.out]
      rintro e w2 ⟨rfl, hb2⟩
      have hb12 := bthen hb1 hb2
      obtain ⟨q2, rfl⟩ : ∃ q2 : Since W.heap.size W, w2 = q2.val := ⟨q1.go (Nat.le_refl _) hb2, rfl⟩
      go_wp2
      go_ret2
      show ∃ A' c', _ = Ending.returned (.tuple #[.slice A' ([] : List Int).length c', .bool false]) ∧ OwnS _ _ _ 1 A' ([] : List Int).length (encIs []) ∧ _
      exact ⟨_, _, rfl, ⟨rfl, by simp, .inr ⟨w.heap.size + 1, [], rfl, Nat.le_succ _, by simpa using (hO.below (hb12) hO.lt)⟩⟩, b2.trans (q2.below.mono b2.size)⟩
    · have HF : Hid (picks (fun r : Outing => decide (r.k = st)) Outing.p (x.o.drop 0) = picks (fun r : Outing => decide (r.k = st)) Outing.p x.o) := rfl
      have hX1 : 0 ≤ X := of_decide_eq_true hX0
      clear hX0
      go_enter Try.func31, Try.ntmps31
      go_wp2_with fail
      generalize (w.alloc (.cells #[.slice x.TA x.t.length x.tc, .slice x.OA x.o.length x.oc, .int .i64 x.got, .int .i64 x.sold, .int .i64 x.missed] 31)) = W at b2 hA HSW ⊢
      obtain ⟨q0, hq0⟩ : ∃ q0 : Since W.heap.size W, W.alloc (.cells #[] 3) = q0.val := ⟨⟨W.alloc (.cells #[] 3), (Below.refl _ _).alloc (Nat.le_refl _) _⟩, rfl⟩
      have hO : Lies q0.val (w.heap.size + 1) 3 [] := by rw [← hq0, ← HSW.out]; exact Lies.new W 3 #[]
      rw [hq0]
      clear hq0
      obtain ⟨p0, p1, p2, p3, p4⟩ := hA.s
      have hro := hA.r.os.el
      refine (cG _ (hA.r.at q0)).mono ?_
      rintro e w1 ⟨rfl, hb1⟩
      obtain ⟨q1, rfl⟩ : ∃ q1 : Since W.heap.size W, w1 = q1.val := ⟨q0.go (Nat.le_refl _) hb1, rfl⟩
      go_wp2_with fail
      refine (l32Tray_any x st _ (hA.r.at q1)).mono ?_
      rw [HX.out]
      rintro e w2 ⟨rfl, hb2⟩
      have hb12 := bthen hb1 hb2
      obtain ⟨q2, rfl⟩ : ∃ q2 : Since W.heap.size W, w2 = q2.val := ⟨q1.go (Nat.le_refl _) hb2, rfl⟩
      obtain ⟨OA, hOA⟩ : ∃ A, x.OA = A := ⟨_, rfl⟩
      rw [hOA] at hro
      simp only [hOA] at p1
      clear hOA
      go_wp2
      go_loopw [6, 7] (fun out i wr => ∃ (k : Nat) (acc : List Int), k ≤ x.o.length ∧ i = .int .i64 k ∧ acc.length ≤ k ∧ Hid (wr.ownsRow W.heap.size 3 1 out acc.length (encIs acc)) ∧ (Below W.heap.size W wr) ∧ Hid (acc ++ picks (fun r : Outing => decide (r.k = st)) Outing.p (x.o.drop k) = picks (fun r : Outing => decide (r.k = st)) Outing.p x.o)) (fun _ i _ => x.o.length - (intOf i).toNat)
      case atStart => exact ⟨0, [], Nat.zero_le _, rfl, Nat.zero_le _, ((hO.below (hb12) hO.lt).own (B := W.heap.size) (k := 1) (n := 0) (by rw [HSW.out]; exact Nat.le_refl _) rfl (by unfold maxLen; omega)), q2.below, HF⟩
      case round =>
        obtain ⟨k, acc, hk, rfl, hacc, HO, hbr, HR⟩ := hrel
        obtain ⟨q, rfl⟩ : ∃ q : Since W.heap.size W, wr = q.val := ⟨⟨wr, hbr⟩, rfl⟩
        by_cases hlt : k < x.o.length
        · obtain ⟨b, off, rfl, hb, hcell⟩ := hro (by omega)
          obtain ⟨e0, e1, e2⟩ := hcell k hlt
          have hy := fun hv => picks_yes (sel := (fun r : Outing => decide (r.k = st))) (get := Outing.p) hlt hv
          have hn := fun hv => picks_no (sel := (fun r : Outing => decide (r.k = st))) (get := Outing.p) hlt hv
          obtain ⟨r, hre⟩ : ∃ r, r = x.o[k] := ⟨_, rfl⟩
          rw [← hre] at e0 e1 e2 hy hn
          clear hre hcell hro
          by_cases hz : r.k = st
          · have hv : (r.k == st) = true := by simp [hz]
            have HE : Hid ((acc ++ [r.p]) ++ picks (fun r : Outing => decide (r.k = st)) Outing.p (x.o.drop (k + 1)) = picks (fun r : Outing => decide (r.k = st)) Outing.p x.o) := by
              have h1 := HR.out; rw [hy (decide_eq_true hz)] at h1; unfold Hid; rw [List.append_assoc]; exact h1
            clear hy hn hz HR
            go_wp2_with (at_builtin; refine wpList_push (w0 := q.val) rfl _ _ 37 rfl 3 (.int .i64 0) 1 8 Try.underlying37 infoInt rfl (by decide) (by omega) W.heap.size _ _ _ rfl HO #[.int .i64 r.p] 1 _ rfl (by first | rfl | exact Array.size_push _) rfl (by simp [Value.oneCell']) (by omega) q.size rfl rfl rfl rfl ?_; intro v' w3 HO3 hg3 hb3)
            obtain ⟨A3, c3, rfl⟩ := ownsRow_slice HO3.out
            go_wp2
            go_roundw
            case rel => exact ⟨k + 1, acc ++ [r.p], by omega, by go_num, by simp; omega, by rw [List.length_append]; unfold encIs at HO3 ⊢; rw [List.map_append]; exact HO3, q.below.grown hg3 q.size (fun g hg => (HO.out.lt g hg).1), HE⟩
            case measure => simp [intOf]; omega
          · have hv : (r.k == st) = false := by simp [hz]
            have HE : Hid (acc ++ picks (fun r : Outing => decide (r.k = st)) Outing.p (x.o.drop (k + 1)) = picks (fun r : Outing => decide (r.k = st)) Outing.p x.o) := by
              have h1 := HR.out; rw [hn (decide_eq_false hz)] at h1; exact h1
            clear hy hn hz HR
            go_wp2
            go_roundw
            case rel => exact ⟨k + 1, acc, by omega, by go_num, by omega, HO, q.below, HE⟩
            case measure => simp [intOf]; omega
        · have HE : Hid (acc = picks (fun r : Outing => decide (r.k = st)) Outing.p x.o) := by
            have h1 := HR.out; rw [List.drop_eq_nil_of_le (by omega), show picks (fun r : Outing => decide (r.k = st)) Outing.p [] = [] from rfl, List.append_nil] at h1; exact h1
          obtain ⟨A3, c3, rfl⟩ := ownsRow_slice HO.out
          clear hro
          go_wp2
          go_ret2
          have e1 : listOf (true && true) (picks (fun r : Outing => decide (r.k = st)) Outing.p x.o) = acc := HE.out.symm
          rw [e1]
          exact ⟨_, _, rfl, (OwnS.of HO.out).lower b2.size, b2.trans (q.below.mono b2.size)⟩

set_option maxHeartbeats 2000000 in
theorem implPersonsWith_any (x : Off) (st : Int) (_hst : -9223372036854775808 ≤ st) (_hst' : st ≤ 9223372036854775807) (w : World) (h : OffR w w.heap.size x) :
    Calls Try.prog 32 #[x.val, .int .i64 st] w fun e w' => ∃ A' c', e = .returned (.tuple #[.slice A' (listOf (goodOff x && hasTray x.t st) (picks (fun r : Outing => decide (r.k = st)) Outing.p x.o)).length c', .bool (goodOff x && hasTray x.t st)]) ∧ OwnS w' w.heap.size 3 1 A' (listOf (goodOff x && hasTray x.t st) (picks (fun r : Outing => decide (r.k = st)) Outing.p x.o)).length (encIs (listOf (goodOff x && hasTray x.t st) (picks (fun r : Outing => decide (r.k = st)) Outing.p x.o))) ∧ Below w.heap.size w w' := by
  have b2 := (Below.refl w.heap.size w).alloc (Nat.le_refl _) (.cells #[.slice x.TA x.t.length x.tc, .slice x.OA x.o.length x.oc, .int .i64 x.got, .int .i64 x.sold, .int .i64 x.missed] 31)
  have hA := box_at h 31
  have hsW : (w.alloc (.cells #[.slice x.TA x.t.length x.tc, .slice x.OA x.o.length x.oc, .int .i64 x.got, .int .i64 x.sold, .int .i64 x.missed] 31)).heap.size = w.heap.size + 1 := Array.size_push _
  have HSW := Lib.hid hsW; clear hsW
  have cG := fun W hW => isOfficeValid_any x w.heap.size W hW
  cases hg : goodOff x
  · rw [hg] at cG
    clear hg
    go_enter Try.func32, Try.ntmps32
    go_wp2_with fail
    generalize (w.alloc (.cells #[.slice x.TA x.t.length x.tc, .slice x.OA x.o.length x.oc, .int .i64 x.got, .int .i64 x.sold, .int .i64 x.missed] 31)) = W at b2 hA HSW ⊢
    refine (calls_since0 (cG _ hA)).mono ?_
    rintro e w1 ⟨rfl, q1, rfl⟩
    go_wp2
    go_ret2
    show ∃ A' c', _ = Ending.returned (.tuple #[.slice A' ([] : List Int).length c', .bool false]) ∧ OwnS _ _ _ 1 A' ([] : List Int).length (encIs []) ∧ _
    exact ⟨_, _, rfl, ⟨rfl, by simp, .inl ⟨rfl, rfl⟩⟩, b2.trans (q1.below.mono b2.size)⟩
  · rw [hg] at cG
    have G := good_iff.1 hg
    have ol := G.ol
    have hl := h.os.big
    clear hg G
    obtain ⟨X, hX⟩ : ∃ X, trayIx x.t st = X := ⟨_, rfl⟩
    have HX : Hid (Value.int .i64 (trayIx x.t st) = .int .i64 X) := by rw [hX]; rfl
    obtain ⟨v2, hv2⟩ : ∃ v, hasTray x.t st = v := ⟨_, rfl⟩
    have hX0 : decide (0 ≤ X) = v2 := by rw [← hX, ← hv2]; exact trayIx_has _ _
    rw [hv2]
    clear hX hv2
    cases v2
    · go_enter Try.func32, Try.ntmps32
      have hX1 : X < 0 := by have := of_decide_eq_false hX0; omega
      clear hX0
      go_wp2_with fail
      generalize (w.alloc (.cells #[.slice x.TA x.t.length x.tc, .slice x.OA x.o.length x.oc, .int .i64 x.got, .int .i64 x.sold, .int .i64 x.missed] 31)) = W at b2 hA HSW ⊢
      obtain ⟨p0, p1, p2, p3, p4⟩ := hA.s
      refine (calls_since0 (cG _ hA)).mono ?_
      rintro e w1 ⟨rfl, q1, rfl⟩
      go_wp2_with fail
      refine (calls_sinceE HX (Nat.le_refl _) (trayAt_any x w.heap.size st _ (hA.at q1))).mono ?_
      rintro e w2 ⟨rfl, q2, rfl⟩
      go_wp2
      go_ret2
      show ∃ A' c', _ = Ending.returned (.tuple #[.slice A' ([] : List Int).length c', .bool false]) ∧ OwnS _ _ _ 1 A' ([] : List Int).length (encIs []) ∧ _
      exact ⟨_, _, rfl, ⟨rfl, by simp, .inl ⟨rfl, rfl⟩⟩, b2.trans (q2.below.mono b2.size)⟩
    · have HF : Hid (picks (fun r : Outing => decide (r.k = st)) Outing.p (x.o.drop 0) = picks (fun r : Outing => decide (r.k = st)) Outing.p x.o) := rfl
      have hX1 : 0 ≤ X := of_decide_eq_true hX0
      clear hX0
      go_enter Try.func32, Try.ntmps32
      go_wp2_with fail
      generalize (w.alloc (.cells #[.slice x.TA x.t.length x.tc, .slice x.OA x.o.length x.oc, .int .i64 x.got, .int .i64 x.sold, .int .i64 x.missed] 31)) = W at b2 hA HSW ⊢
      obtain ⟨p0, p1, p2, p3, p4⟩ := hA.s
      have hro := hA.r.os.el
      refine (calls_since0 (cG _ hA)).mono ?_
      rintro e w1 ⟨rfl, q1, rfl⟩
      go_wp2_with fail
      refine (calls_sinceE HX (Nat.le_refl _) (trayAt_any x w.heap.size st _ (hA.at q1))).mono ?_
      rintro e w2 ⟨rfl, q2, rfl⟩
      obtain ⟨OA, hOA⟩ : ∃ A, x.OA = A := ⟨_, rfl⟩
      rw [hOA] at hro
      simp only [hOA] at p1
      clear hOA
      go_wp2
      go_loopw [6, 19] (fun out i wr => ∃ (k : Nat) (acc : List Int), k ≤ x.o.length ∧ i = .int .i64 k ∧ acc.length ≤ k ∧ Hid (wr.ownsRow W.heap.size 3 1 out acc.length (encIs acc)) ∧ (Below W.heap.size W wr) ∧ Hid (acc ++ picks (fun r : Outing => decide (r.k = st)) Outing.p (x.o.drop k) = picks (fun r : Outing => decide (r.k = st)) Outing.p x.o)) (fun _ i _ => x.o.length - (intOf i).toNat)
      case atStart => exact ⟨0, [], Nat.zero_le _, rfl, Nat.zero_le _, (World.ownsRow_nil _ _ _ _), q2.below, HF⟩
      case round =>
        obtain ⟨k, acc, hk, rfl, hacc, HO, hbr, HR⟩ := hrel
        obtain ⟨q, rfl⟩ : ∃ q : Since W.heap.size W, wr = q.val := ⟨⟨wr, hbr⟩, rfl⟩
        by_cases hlt : k < x.o.length
        · obtain ⟨b, off, rfl, hb, hcell⟩ := hro (by omega)
          obtain ⟨e0, e1, e2⟩ := hcell k hlt
          have hy := fun hv => picks_yes (sel := (fun r : Outing => decide (r.k = st))) (get := Outing.p) hlt hv
          have hn := fun hv => picks_no (sel := (fun r : Outing => decide (r.k = st))) (get := Outing.p) hlt hv
          obtain ⟨r, hre⟩ : ∃ r, r = x.o[k] := ⟨_, rfl⟩
          rw [← hre] at e0 e1 e2 hy hn
          clear hre hcell hro
          by_cases hz : r.k = st
          · have hv : (r.k == st) = true := by simp [hz]
            have HE : Hid ((acc ++ [r.p]) ++ picks (fun r : Outing => decide (r.k = st)) Outing.p (x.o.drop (k + 1)) = picks (fun r : Outing => decide (r.k = st)) Outing.p x.o) := by
              have h1 := HR.out; rw [hy (decide_eq_true hz)] at h1; unfold Hid; rw [List.append_assoc]; exact h1
            clear hy hn hz HR
            have HOW := Lib.hid (HO.out.alloc (.cells #[.int .i64 r.k, .int .i64 r.p, .int .i64 r.c] 104))
            have hbV := q.below.alloc q.size (.cells #[.int .i64 r.k, .int .i64 r.p, .int .i64 r.c] 104)
            have hsV := hbV.size
            clear HO
            go_wp2_with (at_builtin; refine wpList_push (w0 := q.val.alloc (.cells #[.int .i64 r.k, .int .i64 r.p, .int .i64 r.c] 104)) rfl _ _ 37 rfl 3 (.int .i64 0) 1 8 Try.underlying37 infoInt rfl (by decide) (by omega) W.heap.size _ _ _ rfl HOW #[.int .i64 r.p] 1 _ rfl (by first | rfl | exact Array.size_push _) rfl (by simp [Value.oneCell']) (by omega) hsV rfl rfl rfl rfl ?_; intro v' w3 HO3 hg3 hb3)
            obtain ⟨A3, c3, rfl⟩ := ownsRow_slice HO3.out
            go_wp2
            go_roundw
            case rel => exact ⟨k + 1, acc ++ [r.p], by omega, by go_num, by simp; omega, by rw [List.length_append]; unfold encIs at HO3 ⊢; rw [List.map_append]; exact HO3, hbV.grown hg3 hbV.size (fun g hg => (HOW.out.lt g hg).1), HE⟩
            case measure => simp [intOf]; omega
          · have hv : (r.k == st) = false := by simp [hz]
            have HE : Hid (acc ++ picks (fun r : Outing => decide (r.k = st)) Outing.p (x.o.drop (k + 1)) = picks (fun r : Outing => decide (r.k = st)) Outing.p x.o) := by
              have h1 := HR.out; rw [hn (decide_eq_false hz)] at h1; exact h1
            clear hy hn hz HR
            go_wp2
            go_roundw
            case rel => exact ⟨k + 1, acc, by omega, by go_num, by omega, Lib.hid (HO.out.alloc _), q.below.alloc q.size _, HE⟩
            case measure => simp [intOf]; omega
        · have HE : Hid (acc = picks (fun r : Outing => decide (r.k = st)) Outing.p x.o) := by
            have h1 := HR.out; rw [List.drop_eq_nil_of_le (by omega), show picks (fun r : Outing => decide (r.k = st)) Outing.p [] = [] from rfl, List.append_nil] at h1; exact h1
          obtain ⟨A3, c3, rfl⟩ := ownsRow_slice HO.out
          clear hro
          go_wp2
          go_ret2
          have e1 : listOf (true && true) (picks (fun r : Outing => decide (r.k = st)) Outing.p x.o) = acc := HE.out.symm
          rw [e1]
          exact ⟨_, _, rfl, (OwnS.of HO.out).lower b2.size, b2.trans (q.below.mono b2.size)⟩
end Go.Proofs.Ytegkmjifphcojaa
