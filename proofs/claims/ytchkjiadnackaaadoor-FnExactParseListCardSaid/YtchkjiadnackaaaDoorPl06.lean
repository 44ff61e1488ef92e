/- Pl06: the texts RowMark LawPL Open OpenText, joined into one file. -/
import Derived.ProofKit
import Derived.ChangeOld
import Derived.ShutString
import Derived.OpenShut
import Derived.Deep.Slices
import Derived.Deep.Fields
import Derived.Test.YtchkjiadnackaaaDoorProg
import Derived.Test.YtchkjiadnackaaaDoorPl01
import Derived.Test.YtchkjiadnackaaaDoorPl03
import Derived.Test.YtchkjiadnackaaaDoorPl05

set_option linter.unusedVariables false

/- Marks on a row of phrases of the call's own, and their reading. -/
namespace Go.Proofs.YtchkjiadnackaaaDoor
open Go.RowKit

theorem flat_set' {o : Nat} {u : Value} : ∀ {l : List Ph} {i : Nat} {y : Ph} (h : i < l.length), o < 4 → y.enc = l[i].enc.set o u → (l.flatMap Ph.enc).set (i * 4 + o) u = (l.set i y).flatMap Ph.enc
  | x :: l, 0, y, _, ho, he => by
    simp only [List.getElem_cons_zero] at he
    simp only [Nat.zero_mul, Nat.zero_add, List.flatMap_cons, List.set_cons_zero]
    rw [List.set_append_left _ _ (by rw [Ph.enc_len]; exact ho), ← he]
  | x :: l, i + 1, y, h, ho, he => by
    simp only [List.flatMap_cons, List.set_cons_succ]
    have e : (i + 1) * 4 + o = x.enc.length + (i * 4 + o) := by rw [Ph.enc_len]; omega
    rw [e, List.set_append_right _ _ (by omega), Nat.add_sub_cancel_left, flat_set' (l := l) (i := i) (y := y) (by simpa using h) ho (by simpa using he)]

theorem set_A {l : List Ph} {i : Nat} {y : Ph} (h : i < l.length) (hy : y.A = l[i].A) : (l.set i y).map Ph.A = l.map Ph.A := by
  rw [List.map_set, hy]
  have : l[i].A = (l.map Ph.A)[i]'(by simpa using h) := by simp
  rw [this, List.set_getElem_self]
theorem nd_map (m : List Ph) : (m.Pairwise fun x y => x.A = none ∨ x.A ≠ y.A) ↔ (m.map Ph.A).Pairwise fun a b => a = none ∨ a ≠ b := by rw [List.pairwise_map]
theorem mem_set_or {l : List Ph} {i : Nat} {x y : Ph} (h : x ∈ l.set i y) : x = y ∨ ∃ j, ∃ hj : j < l.length, j ≠ i ∧ x = l[j] := by
  obtain ⟨j, hj, e⟩ := List.getElem_of_mem h
  rw [List.getElem_set] at e
  split at e
  · exact .inl e.symm
  · exact .inr ⟨j, by simpa using hj, by omega, e.symm⟩

/-- A field of element i is stored. -/
theorem RowPh.cell {w : World} {B g cap n : Nat} {l : List Ph} {i o : Nat} {u : Value} {y : Ph} (h : RowPh w B (.slice (some ⟨g, 0, none⟩) n cap) l) (hn : n = l.length) (hi : i < l.length) (ho : o < 4)
    (hA : y.A = l[i].A) (hf : y.f = l[i].f) (he : y.enc = l[i].enc.set o u) : RowPh (w.setCell ⟨g, i * 4 + o, none⟩ u) B (.slice (some ⟨g, 0, none⟩) n cap) (l.set i y) := by
  subst hn
  obtain ⟨h1, h2⟩ := h.row.stored (i * 4 + o) u
  rw [flat_set' hi ho he] at h1
  refine ⟨by simpa using h1, fun x hx => ?_, ?_⟩
  · rcases mem_set_or hx with rfl | ⟨j, hj, _, rfl⟩
    · rw [hA, hf]; exact (h.fs _ (List.getElem_mem hi)).grown h.row ne_types h2
    · exact (h.fs _ (List.getElem_mem hj)).grown h.row ne_types h2
  · rw [nd_map, set_A hi hA, ← nd_map]; exact h.nd
theorem RowPh.cell0 {w : World} {B g cap n : Nat} {l : List Ph} {i : Nat} {u : Value} {y : Ph} (h : RowPh w B (.slice (some ⟨g, 0, none⟩) n cap) l) (hn : n = l.length) (hi : i < l.length)
    (hA : y.A = l[i].A) (hf : y.f = l[i].f) (he : y.enc = l[i].enc.set 0 u) : RowPh (w.setCell ⟨g, i * 4, none⟩ u) B (.slice (some ⟨g, 0, none⟩) n cap) (l.set i y) := by
  have := h.cell (o := 0) (u := u) (y := y) hn hi (by omega) hA hf he
  simpa using this

/-- The faults of element i are written anew. -/
theorem RowPh.faults {w w' : World} {B c n : Nat} {A : Option Addr} {l : List Ph} {i : Nat} (h : RowPh w B (.slice A n c) l) (hn : n = l.length) (hi : i < l.length) (f' : List Int) (hl : f'.length = l[i].f.length)
    (hO : OwnS w' B 3 1 l[i].A f'.length (encIs f')) (hg : w.grownBy w' (l[i].A.map (·.block))) : RowPh w' B (.slice A n c) (l.set i { l[i] with f := f' }) := by
  subst hn
  have he : (l.set i { l[i] with f := f' }).flatMap Ph.enc = l.flatMap Ph.enc := by
    have h0 : i * 4 < (l.flatMap Ph.enc).length := by rw [flat_len Ph.enc 4 Ph.enc_len]; omega
    have h1 := flat_set' (o := 0) (u := .int .i64 l[i].s) (y := { l[i] with f := f' }) hi (by omega) (by simp [Ph.enc, hl])
    rw [← h1, Nat.add_zero]
    have h2 : (l.flatMap Ph.enc)[i * 4]? = some (.int .i64 l[i].s) := by
      have := flat_at Ph.enc 4 Ph.enc_len l i hi 0 (by omega)
      rw [Nat.add_zero] at this; rw [this]; rfl
    obtain ⟨h3, h4⟩ := List.getElem?_eq_some_iff.1 h2
    rw [← h4]; exact List.set_getElem_self h3
  have hfi := h.fs _ (List.getElem_mem hi)
  have hrow : w'.ownsRow B 24 4 (.slice A l.length c) l.length (l.flatMap Ph.enc) := by
    refine h.row.kept hg ?_
    obtain ⟨_, _, ⟨h0, _⟩ | ⟨gf, rest, hA, _, hLf⟩⟩ := hfi
    · rw [h0]
      obtain ⟨_, ⟨h1, _⟩ | ⟨g, cap, cur, h1, _⟩⟩ := h.row
      · left; injection h1 with e1; rw [e1]; rfl
      · right; injection h1 with e1; rw [e1]; simp [Value.ownBlock]
    · rw [hA]
      exact .inr fun e => ownsRow_far h.row hLf ne_types (by simpa using e.symm)
  refine ⟨by rw [List.length_set, he]; exact hrow, fun x hx => ?_, ?_⟩
  · rcases mem_set_or hx with rfl | ⟨j, hj, hne, rfl⟩
    · exact hO
    · obtain ⟨hl1, hn1, h0 | ⟨gf, rest, hA, hgB, hLf⟩⟩ := h.fs _ (List.getElem_mem hj)
      · exact ⟨hl1, hn1, .inl h0⟩
      · refine ⟨hl1, hn1, .inr ⟨gf, rest, hA, hgB, hLf.kept hg ?_⟩⟩
        intro e
        have hdiff : l[j].A = none ∨ l[i].A = none ∨ l[j].A ≠ l[i].A := by
          rcases Nat.lt_or_ge j i with hlt | hge
          · rcases List.pairwise_iff_getElem.1 h.nd j i hj hi hlt with h1 | h1
            · exact .inl h1
            · exact .inr (.inr h1)
          · rcases List.pairwise_iff_getElem.1 h.nd i j hi hj (by omega) with h1 | h1
            · exact .inr (.inl h1)
            · exact .inr (.inr (Ne.symm h1))
        rcases hdiff with h1 | h1 | h1
        · rw [hA] at h1; cases h1
        · rw [h1] at e; cases e
        · obtain ⟨_, _, ⟨h2, _⟩ | ⟨g2, _, h2, _, _⟩⟩ := hfi
          · rw [h2] at e; cases e
          · rw [h2] at e
            simp only [Option.map_some, Option.some.injEq] at e
            exact h1 (by rw [hA, h2, e])
  · rw [nd_map, set_A (y := { l[i] with f := f' }) hi rfl, ← nd_map]; exact h.nd

/-- The marked list. -/
def markPh (k : Int) (x : Ph) : Ph := { x with s := k, c := k + 1, f := ramp (k + 2) x.f.length, p := k + 2 + x.f.length }
def marked : Int → List Ph → List Ph
  | _, [] => []
  | k, x :: l => markPh k x :: marked (k + 3 + x.f.length) l
theorem marked_len : ∀ (k : Int) (l : List Ph), (marked k l).length = l.length
  | _, [] => rfl
  | k, x :: l => by simp [marked, marked_len (k + 3 + x.f.length) l]
theorem marked_at : ∀ (k : Int) (l : List Ph) (j : Nat) (h : j < l.length) (h' : j < (marked k l).length), (marked k l)[j] = markPh (k + (3 * j + fsum (l.take j) : Nat)) l[j]
  | k, x :: l, 0, _, _ => by simp [marked, fsum]
  | k, x :: l, j + 1, h, h' => by
    simp only [marked, List.getElem_cons_succ]
    rw [marked_at (k + 3 + x.f.length) l j (by simpa using h) (by simpa [marked] using h')]
    congr 1
    simp only [List.take_succ_cons, fsum]; omega
theorem mix_set {M l : List Ph} {j : Nat} (hM : M.length = l.length) (h : j < l.length) (h' : j < M.length) : (M.take j ++ l.drop j).set j M[j] = M.take (j + 1) ++ l.drop (j + 1) := by
  have e : (M.take j).length = j := by rw [List.length_take]; omega
  rw [List.set_append_right _ _ (by omega), e, Nat.sub_self, List.drop_eq_getElem_cons h, List.set_cons_zero, List.take_succ_eq_append_getElem h', List.append_assoc, List.singleton_append]
theorem mix_at {M l : List Ph} {j : Nat} (hM : M.length = l.length) (h : j < l.length) (h' : j < (M.take j ++ l.drop j).length) : (M.take j ++ l.drop j)[j] = l[j] := by
  have e : (M.take j).length = j := by rw [List.length_take]; omega
  rw [List.getElem_append_right (by omega)]
  simp [e]

set_option maxRecDepth 100000 in
set_option maxHeartbeats 4000000 in
theorem markRow_any (B : Nat) (A : Option Addr) (c : Nat) (k0 : Int) (l : List Ph) (w : World) (hk : 0 ≤ k0) (hk' : k0 ≤ 1000) (hn : need l ≤ 1048576) (h : RowPh w B (.slice A l.length c) l) :
    Calls Tryd.prog 13 #[.slice A l.length c, .int .i64 k0] w fun e w' => e = .returned (.int .i64 (k0 + (3 * l.length + fsum l : Nat))) ∧ RowPh w' B (.slice A l.length c) (marked k0 l) ∧ w.heap.size ≤ w'.heap.size ∧ Below B w w' := by
  have hlen : l.length ≤ 1048576 := by unfold need at hn; omega
  have hft : Hid (∀ k, fsum (l.take k) ≤ 1048576) := fun k => by have := fsum_take_le l k; unfold need at hn; omega
  go_enter Tryd.func13, Tryd.ntmps13
  go_wp2
  go_loopw [1, 5] (fun kk i wr => ∃ (j s : Nat), j ≤ l.length ∧ i = .int .i64 j ∧ kk = .int .i64 (k0 + (3 * j + s : Nat)) ∧ s ≤ 1048576 ∧ Hid (s = fsum (l.take j)) ∧ Hid (RowPh wr B (.slice A l.length c) ((marked k0 l).take j ++ l.drop j)) ∧ w.heap.size ≤ wr.heap.size ∧ Hid (Below B w wr)) (fun _ i _ => l.length - (intOf i).toNat)
  case atStart => exact ⟨0, 0, Nat.zero_le _, rfl, congrArg _ (by simp), Nat.zero_le _, rfl, h, Nat.le_refl _, Below.refl _ _⟩
  case round =>
    obtain ⟨j, s, hj, rfl, rfl, hs, HS, HR, hsz, HBe⟩ := hrel
    by_cases hlt : j < l.length
    · have HN : Hid (s + l[j].f.length = fsum (l.take (j + 1))) := by unfold Hid; rw [fsum_take hlt, HS.out]
      have hs1 : s + l[j].f.length ≤ 1048576 := by have := hft.out (j + 1); rw [← HN.out] at this; exact this
      have hmixl : ((marked k0 l).take j ++ l.drop j).length = l.length := by simp [marked_len]; omega
      have hjm : j < ((marked k0 l).take j ++ l.drop j).length := by omega
      have HMA : Hid (((marked k0 l).take j ++ l.drop j)[j] = l[j]) := mix_at (marked_len k0 l) hlt hjm
      have HFIN : Hid (((marked k0 l).take j ++ l.drop j).set j (markPh (k0 + (3 * j + s : Nat)) l[j]) = (marked k0 l).take (j + 1) ++ l.drop (j + 1)) := by
        have h1 : j < (marked k0 l).length := by rw [marked_len]; exact hlt
        have h2 := mix_set (marked_len k0 l) hlt h1
        rw [marked_at k0 l j hlt h1, ← HS.out] at h2
        exact h2
      obtain ⟨m, hme⟩ : ∃ m, m = (marked k0 l).take j ++ l.drop j := ⟨_, rfl⟩
      obtain ⟨g, rfl⟩ : ∃ g, A = some ⟨g, 0, none⟩ := by
        obtain ⟨_, h0 | ⟨g, cap, cur, hv, _⟩⟩ := HR.out.row
        · have := h0.2; omega
        · injection hv with e1 e2 e3; exact ⟨g, e1⟩
      have HR := HR.out
      simp only [← hme] at HR HFIN hjm hmixl
      have HMA2 : m[j]'hjm = l[j] := by have := HMA.out; simp only [← hme] at this; exact this
      obtain ⟨x, hxe⟩ : ∃ x, x = l[j] := ⟨_, rfl⟩
      rw [← hxe] at HN hs1 HFIN HMA2
      clear hxe HMA hme
      have HRr : wr.ownsRow B 24 4 (.slice (some ⟨g, 0, none⟩) l.length c) l.length (m.flatMap Ph.enc) := by have := HR.row; rwa [hmixl] at this
      have at5 : ∀ o (ho : o < 4) u, (x.enc)[o]? = some u → wr.cell? ⟨g, j * 4 + o, none⟩ = some u := fun o ho u hu => by
        rw [HRr.cellAt _ (by omega), flat_at Ph.enc 4 Ph.enc_len m j hjm o ho, HMA2]; exact hu
      have c0 : wr.cell? ⟨g, j * 4, none⟩ = some (.int .i64 x.s) := at5 0 (by omega) _ rfl
      have c1 := at5 1 (by omega) _ rfl
      have c2 := at5 2 (by omega) _ rfl
      have f0 : wr.frozen? ⟨g, j * 4, none⟩ = false := HRr.frozenAt _
      have f1 : wr.frozen? ⟨g, j * 4 + 1, none⟩ = false := HRr.frozenAt _
      have hgB : B ≤ g := (HRr.lt g rfl).1
      obtain ⟨kj, hkj⟩ : ∃ kj : Int, kj = k0 + ((3 * j + s : Nat) : Int) := ⟨_, rfl⟩
      have HR1 := HR.cell0 (u := .int .i64 kj) (y := { x with s := kj }) hmixl.symm hjm (by rw [HMA2]) (by rw [HMA2]) (by rw [HMA2]; rfl)
      have hj1 : j < (m.set j { x with s := kj }).length := by simpa using hjm
      have HR2 := HR1.cell (o := 1) (u := .int .i64 (kj + 1)) (y := { x with s := kj, c := kj + 1 }) (by simp [hmixl]) hj1 (by omega) (by simp) (by simp) (by simp [Ph.enc])
      rw [List.set_set] at HR2
      have HR3 := Lib.hid HR2
      have hfrom : w.heap.size ≤ ((wr.setCell ⟨g, j * 4, none⟩ (.int .i64 kj)).setCell ⟨g, j * 4 + 1, none⟩ (.int .i64 (kj + 1))).heap.size := by simpa using hsz
      have HBe3 : Hid (Below B w ((wr.setCell ⟨g, j * 4, none⟩ (.int .i64 kj)).setCell ⟨g, j * 4 + 1, none⟩ (.int .i64 (kj + 1)))) := (HBe.out.setCell (p := ⟨g, j * 4, none⟩) hgB _).setCell (p := ⟨g, j * 4 + 1, none⟩) hgB _
      clear HR HR1 HR2 HRr at5 hsz HBe
      have hkb : 0 ≤ kj ∧ kj ≤ 10000000 := by omega
      obtain ⟨hk1, hk2⟩ := hkb
      simp only [← hkj] at HFIN ⊢
      have HKJ := Lib.hid hkj; clear hkj
      go_wp2_with fail
      clear c0 c1 c2 f0 f1
      generalize ((wr.setCell ⟨g, j * 4, none⟩ (.int .i64 kj)).setCell ⟨g, j * 4 + 1, none⟩ (.int .i64 (kj + 1))) = W at HR3 hfrom HBe3 ⊢
      have hj2 : j < (m.set j { x with s := kj, c := kj + 1 }).length := by simpa using hjm
      have hO := HR3.out.fs _ (List.getElem_mem hj2)
      simp only [List.getElem_set_self] at hO
      refine (markIntS_any x.A x.cap x.f.length B (kj + 1 + 1) (encIs x.f) W (by omega) (by omega) (by omega) hO).mono ?_
      rintro e w1 ⟨rfl, hO1, hgr⟩
      have HR4 := HR3.out.faults (by simp [hmixl]) hj2 (ramp (kj + 1 + 1) x.f.length) (by simp [ramp_len]) (by simp only [List.getElem_set_self, ramp_len]; exact hO1) (by simp only [List.getElem_set_self]; exact hgr)
      simp only [List.getElem_set_self, List.set_set] at HR4
      have hBA : ∀ gg, x.A.map (·.block) = some gg → B ≤ gg := fun gg e => by
        cases hA : x.A with
        | none => rw [hA] at e; cases e
        | some a => rw [hA] at e; simp only [Option.map_some, Option.some.injEq] at e; rw [← e]; exact (hO.lt_ hA).1
      have hBe4 := Lib.hid (HBe3.out.grown hgr (Nat.le_trans hgB (Nat.le_of_lt (HR3.out.row.lt g rfl).2)) hBA)
      have hsz1 : w.heap.size ≤ w1.heap.size := Nat.le_trans hfrom hgr.size
      have hj4 : j < (m.set j { s := kj, c := kj + 1, A := x.A, f := ramp (kj + 1 + 1) x.f.length, cap := x.cap, p := x.p }).length := by simpa using hjm
      have HRr4 : w1.ownsRow B 24 4 (.slice (some ⟨g, 0, none⟩) l.length c) l.length ((m.set j { s := kj, c := kj + 1, A := x.A, f := ramp (kj + 1 + 1) x.f.length, cap := x.cap, p := x.p }).flatMap Ph.enc) := by have := HR4.row; rwa [List.length_set, hmixl] at this
      have c3 : w1.cell? ⟨g, j * 4 + 3, none⟩ = some (.int .i64 x.p) := by
        rw [HRr4.cellAt _ (by omega), flat_at Ph.enc 4 Ph.enc_len _ j hj4 3 (by omega)]; simp [Ph.enc]
      have f3 : w1.frozen? ⟨g, j * 4 + 3, none⟩ = false := HRr4.frozenAt _
      have HR5 := HR4.cell (o := 3) (u := .int .i64 (kj + 1 + 1 + x.f.length)) (y := { s := kj, c := kj + 1, A := x.A, f := ramp (kj + 1 + 1) x.f.length, cap := x.cap, p := kj + 1 + 1 + x.f.length }) (by simp [hmixl]) hj4 (by omega) (by simp) (by simp) (by simp [Ph.enc])
      rw [List.set_set] at HR5
      have HR6 := Lib.hid HR5
      clear HR3 HR4 HR5 hO hO1 HRr4 hBA hgr
      go_wp2
      go_roundw
      case rel =>
        refine ⟨j + 1, s + x.f.length, by omega, by go_num, congrArg _ (by have := HKJ.out; omega), by omega, HN.out, ?_, by simpa using hsz1, hBe4.out.setCell (p := ⟨g, j * 4 + 3, none⟩) hgB _⟩
        have h1 := HR6.out
        have e1 : markPh kj x = { s := kj, c := kj + 1, A := x.A, f := ramp (kj + 1 + 1) x.f.length, cap := x.cap, p := kj + 1 + 1 + x.f.length } := by
          have a1 : kj + 2 = kj + 1 + 1 := by omega
          unfold markPh; rw [a1]
        rw [← e1, HFIN.out] at h1
        exact h1
      case measure => simp [intOf]; omega
    · have HJ : Hid ((marked k0 l).take j ++ l.drop j = marked k0 l) := by
        rw [Hid, List.drop_eq_nil_of_le (by omega), List.take_of_length_le (by rw [marked_len]; omega), List.append_nil]
      have HK : Hid (k0 + (3 * (j : Int) + (s : Int)) = k0 + (3 * l.length + fsum l : Nat)) := by
        have h1 := HS.out
        rw [List.take_of_length_le (by omega)] at h1
        unfold Hid; omega
      go_wp2
      go_ret
      exact ⟨by rw [← HK.out]; rfl, by rw [← HJ.out]; exact HR.out, hsz, HBe.out⟩

set_option maxRecDepth 100000 in
set_option maxHeartbeats 4000000 in
theorem heldRow_any (A : Option Addr) (c : Nat) (k0 : Int) (l : List Ph) (w : World) (hk : 0 ≤ k0) (hk' : k0 ≤ 1000) (hn : need l ≤ 1048576) (h : PhsR w w.heap.size A (marked k0 l)) :
    Calls Tryd.prog 14 #[.slice A l.length c, .int .i64 k0] w fun e w' => e = .returned (.int .i64 (k0 + (3 * l.length + fsum l : Nat))) ∧ Below w.heap.size w w' := by
  have hlen : l.length ≤ 1048576 := by unfold need at hn; omega
  have hft : Hid (∀ k, fsum (l.take k) ≤ 1048576) := fun k => by have := fsum_take_le l k; unfold need at hn; omega
  have hrd := h.ph
  have hml := marked_len k0 l
  have hfi : Hid (∀ i (hi : i < (marked k0 l).length), IntsR w w.heap.size (marked k0 l)[i].A (marked k0 l)[i].f) := fun i hi => h.f hi
  clear h
  go_enter Tryd.func14, Tryd.ntmps14
  go_wp2
  go_loopw [1, 5] (fun kk i wr => ∃ (j s : Nat), j ≤ l.length ∧ i = .int .i64 j ∧ kk = .int .i64 (k0 + (3 * j + s : Nat)) ∧ s ≤ 1048576 ∧ Hid (s = fsum (l.take j)) ∧ (∃ q : Since w.heap.size w, wr = q.val)) (fun _ i _ => l.length - (intOf i).toNat)
  case atStart => exact ⟨0, 0, Nat.zero_le _, rfl, congrArg _ (by simp), Nat.zero_le _, rfl, ⟨Since.start _ _, rfl⟩⟩
  case round =>
    obtain ⟨j, s, hj, rfl, rfl, hs, HS, ⟨q, rfl⟩⟩ := hrel
    by_cases hlt : j < l.length
    · have HN : Hid (s + l[j].f.length = fsum (l.take (j + 1))) := by unfold Hid; rw [fsum_take hlt, HS.out]
      have hs1 : s + l[j].f.length ≤ 1048576 := by have := hft.out (j + 1); rw [← HN.out] at this; exact this
      have hjm : j < (marked k0 l).length := by omega
      have hma := marked_at k0 l j hlt hjm
      rw [← HS.out] at hma
      obtain ⟨b, off, rfl, hb, hcell⟩ := hrd (by omega)
      obtain ⟨c0, c1, c2, c3⟩ := hcell j hjm
      have hx : IntsR w w.heap.size (marked k0 l)[j].A (marked k0 l)[j].f := hfi.out j hjm
      rw [hma] at c0 c1 c2 c3 hx
      obtain ⟨x, hxe⟩ : ∃ x, x = l[j] := ⟨_, rfl⟩
      rw [← hxe] at HN hs1 c0 c1 c2 c3 hx
      obtain ⟨kj, hkj⟩ : ∃ kj : Int, kj = k0 + ((3 * j + s : Nat) : Int) := ⟨_, rfl⟩
      have hkb : 0 ≤ kj ∧ kj ≤ 10000000 := by omega
      obtain ⟨hk1, hk2⟩ := hkb
      simp only [← hkj] at c0 c1 c2 c3 hx ⊢
      have HKJ := Lib.hid hkj; clear hkj
      simp only [markPh, ramp_len] at c0 c1 c2 c3 hx
      have e2 : kj + 2 = kj + 1 + 1 := by omega
      rw [e2] at c3 hx
      have hx' : Hid (∀ p : Since w.heap.size w, IntsR p.val p.val.heap.size x.A (ramp (kj + 1 + 1) x.f.length)) := fun p => SlcR.up hx p.below (Nat.le_refl _)
      clear hxe hcell hrd hma hx e2
      go_wp2_with fail
      refine (heldIntS_any x.A x.cap x.f.length (kj + 1 + 1) _ (by omega) (by omega) (by omega) (hx'.out q)).mono ?_
      rintro e w1 ⟨rfl, hb1⟩
      obtain ⟨q1, hq1⟩ : ∃ q1 : Since w.heap.size w, w1 = q1.val := ⟨q.go (Nat.le_refl _) hb1, rfl⟩
      subst hq1
      have hneg : decide (kj + 1 + 1 + (x.f.length : Int) < 0) = false := decide_eq_false (by omega)
      go_wp2
      go_roundw
      case rel => exact ⟨j + 1, s + x.f.length, by omega, by go_num, congrArg _ (by have := HKJ.out; omega), by omega, HN.out, ⟨q1, rfl⟩⟩
      case measure => simp [intOf]; omega
    · have HK : Hid (k0 + (3 * (j : Int) + (s : Int)) = k0 + (3 * l.length + fsum l : Nat)) := by
        have h1 := HS.out
        rw [List.take_of_length_le (by omega)] at h1
        unfold Hid; omega
      clear hrd
      go_wp2
      go_ret
      exact ⟨by rw [← HK.out]; rfl, q.below⟩
end Go.Proofs.YtchkjiadnackaaaDoor

/- The law on ParseList. (Printed by gen_lawpl.py) -/
namespace Go.Proofs.YtchkjiadnackaaaDoor
open Go.RowKit

set_option maxRecDepth 100000 in
set_option maxHeartbeats 4000000 in
set_option linter.unusedVariables false in
theorem lawParseList_any (s : ByteArray) (w : World) (_hz : s.size ≤ 9223372036854775807) (hL : LW w) :
    Calls Tryd.prog 4 #[.string s] w fun e w' => e = .returned (.bool true) ∧ Below w.heap.size w w' := by
  by_cases hbig : 1048576 < s.size
  · have hi : (1048576 : Int) < (s.size : Int) := by omega
    go_enter Tryd.func4, Tryd.ntmps4
    go_wp2_with fail
    go_ret
    exact ⟨rfl, Below.refl _ _⟩
  · have hi : ¬ (1048576 : Int) < (s.size : Int) := by omega
    have hs : s.size ≤ 2000000 := by omega
    clear hbig
    have HSP := Lib.hid (fun W (h : LW W) => specList_any s W hs h)
    have HIP := Lib.hid (fun W (h : LW W) => implList_any s W hs h)
    obtain ⟨R, hR⟩ : ∃ R, readL (bl s) = R := ⟨_, rfl⟩
    have HRN : Hid (∀ m : List Ph, m.map Ph.ph = R.1 → need m ≤ 1048576) := fun m hm => need_goodD hm (by rw [← hR]; exact readL_good)
    rw [hR] at HSP HIP
    clear hR
    obtain ⟨vs, ok⟩ := R
    have hbo : (ok != ok) = false := by simp
    go_enter Tryd.func4, Tryd.ntmps4
    go_wp2_with fail
    refine (HSP.out _ hL).mono ?_
    rintro e w2 ⟨A2, c2, r2, rfl, h2, o2, hb2⟩
    have HP2 := Lib.hid h2; clear h2
    have k2 := hb2
    have hl2 := hL.then k2
    go_wp2_with fail
    refine (HIP.out _ hl2).mono ?_
    rintro e w4 ⟨A4, c4, r4, rfl, h4, o4, hb4⟩
    have HP4 := Lib.hid h4; clear h4
    have k4 := bthen k2 hb4
    have i2 : PhsR w4 w2.heap.size A2 r2 := o2.reads.below hb4
    have hs4 : w2.heap.size ≤ w4.heap.size := hb4.size
    go_wp2_with fail
    refine (eqRow_yes o4.reads (i2.mono hs4) HP4.out HP2.out).mono ?_
    rintro e w9 ⟨rfl, hb9⟩
    have k9 := bthen k4 hb9
    have t4 := o4.below hb9
    have t2 : PhsR w9 w2.heap.size A2 r2 := i2.below (hb9.mono hs4)
    have s9 : w2.heap.size ≤ w9.heap.size := Nat.le_trans hs4 hb9.size
    go_wp2_with fail
    refine (markRow_any _ _ _ 1 r4 _ (by omega) (by omega) (HRN.out r4 HP4.out) t4).mono ?_
    rintro e w10 ⟨rfl, u4, sz10, hb10⟩
    have k10 : Below w.heap.size w w10 := k9.trans (hb10.mono k2.size)
    have hnn : ¬ (1 + ((3 * r4.length + fsum r4 : Nat) : Int) < 0) := by omega
    have HUR : Hid (PhsR w10 w10.heap.size A4 (marked 1 r4)) := RowPh.reads (c := c4) (by have := u4; rwa [← marked_len 1 r4] at this)
    go_wp2_with fail
    refine (heldRow_any _ _ 1 r4 _ (by omega) (by omega) (HRN.out r4 HP4.out) HUR.out).mono ?_
    rintro e w11 ⟨rfl, hb11⟩
    have k11 := bthen k10 hb11
    have HV := Lib.hid (HUR.out.then hb11)
    have hl11 := hL.then k11
    go_wp2_with fail
    refine (HIP.out _ hl11).mono ?_
    rintro e w13 ⟨A13, c13, r13, rfl, h13, o13, hb13⟩
    have HP13 := Lib.hid h13; clear h13
    have k13 := bthen k11 hb13
    have x4 := Lib.hid (HV.out.then hb13)
    have u2 : PhsR w10 w2.heap.size A2 r2 := t2.below hb10
    have s10 : w2.heap.size ≤ w10.heap.size := Nat.le_trans s9 sz10
    have x2 : PhsR w13 w2.heap.size A2 r2 := u2.below ((bthen hb11 hb13).mono s10)
    have s13 : w2.heap.size ≤ w13.heap.size := Nat.le_trans s10 (bthen hb11 hb13).size
    go_wp2_with fail
    refine (eqRow_yes o13.reads (x2.mono s13) HP13.out HP2.out).mono ?_
    rintro e w14 ⟨rfl, hb14⟩
    have k14 := bthen k13 hb14
    have y4 := Lib.hid (x4.out.then hb14)
    go_wp2_with fail
    refine (heldRow_any _ _ 1 r4 _ (by omega) (by omega) (HRN.out r4 HP4.out) y4.out).mono ?_
    rintro e w15 ⟨rfl, hb15⟩
    have k15 := bthen k14 hb15
    go_wp2_with fail
    go_ret
    exact ⟨rfl, k15⟩
end Go.Proofs.YtchkjiadnackaaaDoor

/- Arguments that came in: from the reader's own reading to plain words (no program in sight). -/
namespace Go.Proofs.YtchkjiadnackaaaDoor
open Go.ChangeShapes Go.WideShapes Go.ChangeAt Go.RowKit Go.Deep

section
variable {H : Type} {enc : TypeId × Value → H} {P : Program} {w : World} {base : Nat} {spare : Nat → Bool} {held : Bool}

/-- The fields of a struct of one-cell fields: place by place. -/
theorem trod_fields {e : TypeId} {fs : Array Field} {n : Nat} {cs : List Value} {x : DataW H × List MemPlace} (he : P.underlying e = some (.struct fs)) (hone : oneCellFields P fs = true) (hC : P.cellsOf e = fs.size)
    (h : DataW.trod enc P w base spare held n e cs = some x) :
    cs.length = fs.size ∧ ∀ (j : Nat) (f : Field), fs[j]? = some f → ∃ v m y, cs[j]? = some v ∧ DataW.trod enc P w base spare held m f.type [v] = some y := by
  obtain ⟨ys, n', _, _, hlen, hyl, hf⟩ := DataW.trod_struct he h
  refine ⟨by rw [hlen, hC], fun j f hj => ?_⟩
  obtain ⟨ho, hk⟩ := hone_of hone j f hj
  have hjl : j < fs.size := (Array.getElem?_eq_some_iff.1 hj).1
  have hjc : j < cs.length := by rw [hlen, hC]; exact hjl
  have h1 := hf j f hj
  rw [ho, hk, List.drop_eq_getElem_cons hjc] at h1
  have hys : ys[j]? = some (ys[j]'(by omega)) := List.getElem?_eq_getElem (by omega)
  exact ⟨_, n', _, List.getElem?_eq_getElem hjc, h1.trans hys⟩

theorem cell_spot {w : World} {a : Addr} {u : Value} (h : w.cell? a = some u) : ∃ b off, a = ⟨b, off, none⟩ ∧ b < w.heap.size := by
  obtain ⟨b, off, sp⟩ := a
  cases sp with
  | none => exact ⟨b, off, rfl, block_lt_of_cell h⟩
  | some s =>
    simp only [World.cell?] at h
    split at h <;> simp_all

/-- A slice that came in, whatever its elements: k cells each; what the reader knows of an element's cells. -/
theorem trod_slc {t e : TypeId} {k n : Nat} {v : Value} {x : DataW H × List MemPlace} (ht : P.underlying t = some (.slice e)) (hk : P.cellsOf e = k) (hk0 : 0 < k)
    (h : DataW.trod enc P w base spare held n t [v] = some x) :
    ∃ A len cap, v = .slice A len cap ∧ ∃ css : List (List Value), css.length = len ∧ SlcR w w.heap.size k A len css.flatten ∧
      ∀ cs ∈ css, cs.length = k ∧ ∃ m y, DataW.trod enc P w base spare held m e cs = some y := by
  rcases open_slice ht h with ⟨h0, _⟩ | ⟨a, len, cap, m, n', D, Pl, hcs, hb, hl, hm, hmm, hx, hi⟩
  · have : v = .slice none 0 0 := by simpa using h0
    exact ⟨none, 0, 0, this, [], rfl, SlcR.nil _ _ _ _, by simp⟩
  · have hv : v = .slice (some a) len cap := by simpa using hcs
    have hle : len ≤ m := by rw [hmm]; split <;> omega
    rw [hk] at hi
    have hsel : ∀ i : Nat, ∃ cs : List Value, cs.length = k ∧ (i < len → (∀ j u, cs[j]? = some u → w.cell? ((a.add (i * k)).add j) = some u) ∧ ∃ m y, DataW.trod enc P w base spare held m e cs = some y) := fun i => by
      by_cases hlt : i < len
      · obtain ⟨cs', hc, ht'⟩ := hi i (by omega)
        obtain ⟨_, hcl, hat⟩ := World.cells?_some hc
        exact ⟨cs', hcl, fun _ => ⟨fun j u hu => by
          have hj : j < cs'.length := (List.getElem?_eq_some_iff.1 hu).1
          rw [hat j (by omega), hu], _, _, ht'⟩⟩
      · exact ⟨List.replicate k undef, by simp, fun h => absurd h hlt⟩
    obtain ⟨f, hf⟩ := Classical.axiomOfChoice hsel
    have hfk : ∀ i, (f i).length = k := fun i => (hf i).1
    have hlen := flat_len f k hfk (List.range len)
    rw [List.length_range, List.flatMap_def] at hlen
    refine ⟨some a, len, cap, hv, (List.range len).map f, by simp, ⟨hlen, by unfold maxLen at hm; omega, fun hpos => ?_⟩, ?_⟩
    · have h00 : (f 0)[0]? = some ((f 0)[0]'(by rw [hfk]; exact hk0)) := List.getElem?_eq_getElem _
      have hc0 := ((hf 0).2 hpos).1 0 _ h00
      rw [Nat.zero_mul] at hc0
      obtain ⟨b, off, rfl, hb'⟩ := cell_spot (a := a) hc0
      refine ⟨b, off, rfl, hb', fun j u hu => ?_⟩
      have hj : j < len * k := by rw [← hlen]; exact (List.getElem?_eq_some_iff.1 hu).1
      have hi' : j / k < len := Nat.div_lt_of_lt_mul (by rw [Nat.mul_comm]; exact hj)
      have hr : j % k < k := Nat.mod_lt _ hk0
      have e : j = j / k * k + j % k := by rw [Nat.mul_comm]; exact (Nat.div_add_mod j k).symm
      have hat := flat_at f k hfk (List.range len) (j / k) (by simpa using hi') (j % k) hr
      rw [List.flatMap_def, ← e, List.getElem_range, hu] at hat
      have hc := ((hf (j / k)).2 hi').1 (j % k) u hat.symm
      have hadd : ((⟨b, off, none⟩ : Addr).add (j / k * k)).add (j % k) = ⟨b, off + j, none⟩ := by
        unfold Addr.add
        by_cases h1 : j / k * k = 0 <;> by_cases h2 : j % k = 0 <;> simp [h1, h2] <;> omega
      rw [hadd] at hc
      exact hc
    · intro cs hcs
      obtain ⟨i, hi, rfl⟩ := List.mem_map.1 hcs
      exact ⟨hfk i, ((hf i).2 (List.mem_range.1 hi)).2⟩
end

/-- A list of lists of cells, each the image of something. -/
theorem lift_list {α : Type} (enc : α → List Value) : ∀ css : List (List Value), (∀ cs ∈ css, ∃ x, cs = enc x) → ∃ l : List α, css.flatten = l.flatMap enc ∧ l.length = css.length
  | [], _ => ⟨[], rfl, rfl⟩
  | cs :: css, h => by
    obtain ⟨x, hx⟩ := h cs (by simp)
    obtain ⟨l, hl, hn⟩ := lift_list enc css (fun c hc => h c (by simp [hc]))
    exact ⟨x :: l, by simp [hl, hx], by simp [hn]⟩

section
variable {H : Type} {enc : TypeId × Value → H} {P : Program} {w : World} {base : Nat} {spare : Nat → Bool} {held : Bool}
/-- A field that is an int. -/
theorem trod_i64 {t : TypeId} {n : Nat} {v : Value} {x : DataW H × List MemPlace} (ht : P.underlying t = some (.int .i64)) (h : DataW.trod enc P w base spare held n t [v] = some x) :
    ∃ m : Int, v = .int .i64 m ∧ -9223372036854775808 ≤ m ∧ m ≤ 9223372036854775807 := by
  obtain ⟨m, e, _, hw⟩ := DataW.trod_int ht h
  refine ⟨m, by simpa using e, ?_⟩
  simp [Lit.wf, IntKind.min, IntKind.max, IntKind.signed, IntKind.bits] at hw
  omega
end

/-- Structs of ints alone. -/
def intFields (P : Program) (fs : Array Field) : Bool := fs.all fun f => match P.underlying f.type with | some (.int .i64) => true | _ => false
theorem intFields_at {P : Program} {fs : Array Field} (h : intFields P fs = true) (j : Nat) (f : Field) (hj : fs[j]? = some f) : P.underlying f.type = some (.int .i64) := by
  have := (Array.all_eq_true_iff_forall_mem.1 h) f (Array.mem_of_getElem? hj)
  split at this
  · assumption
  · cases this

section
variable {H : Type} {enc : TypeId × Value → H} {P : Program} {w : World} {base : Nat} {spare : Nat → Bool} {held : Bool}
theorem trod_int_cells {e : TypeId} {fs : Array Field} {n k : Nat} {cs : List Value} {x : DataW H × List MemPlace} (he : P.underlying e = some (.struct fs)) (hone : oneCellFields P fs = true) (hC : P.cellsOf e = fs.size) (hint : intFields P fs = true) (hk : fs.size = k)
    (h : DataW.trod enc P w base spare held n e cs = some x) : ∃ ns : List Int, ns.length = k ∧ cs = ns.map (Value.int .i64) := by
  obtain ⟨hl, hf⟩ := trod_fields he hone hC h
  subst hk
  refine ⟨cs.map fun v => match v with | .int _ m => m | _ => 0, by simpa using hl, List.ext_getElem? fun j => ?_⟩
  rw [List.getElem?_map, List.getElem?_map]
  by_cases hj : j < cs.length
  · obtain ⟨v, m, y, hv, hy⟩ := hf j (fs[j]'(by omega)) (Array.getElem?_eq_getElem (by omega))
    obtain ⟨z, rfl, _, _⟩ := trod_i64 (intFields_at hint j _ (Array.getElem?_eq_getElem (by omega))) hy
    rw [hv]; rfl
  · rw [List.getElem?_eq_none (by omega)]; rfl

/-- A struct of ints, by value. -/
theorem open_int_struct {t : TypeId} {fs : Array Field} {k b0 : Nat} {r : Reach} {v : Value} {d : DataW H} {p : List MemPlace} (he : P.underlying t = some (.struct fs)) (hone : oneCellFields P fs = true) (hC : P.cellsOf t = fs.size) (hint : intFields P fs = true) (hk : fs.size = k)
    (hv : Value.okWide P w r b0 t v) (h : DataW.Trod enc P w base spare held t v d p) : ∃ ns : List Int, ns.length = k ∧ v = .agg (ns.map (Value.int .i64)).toArray := by
  obtain ⟨cs, rfl, hsz⟩ := okWide_struct he hv
  obtain ⟨n, hn⟩ := h
  obtain ⟨ns, hl, hc⟩ := trod_int_cells he hone hC hint hk hn
  refine ⟨ns, hl, ?_⟩
  rw [← hc]; simp [Value.cells]

/-- A slice of structs of ints. -/
theorem open_int_structs {α : Type} (en : α → List Value) {t e : TypeId} {fs : Array Field} {k b0 : Nat} {r : Reach} {v : Value} {d : DataW H} {p : List MemPlace} (ht : P.underlying t = some (.slice e)) (he : P.underlying e = some (.struct fs)) (hone : oneCellFields P fs = true) (hC : P.cellsOf e = fs.size) (hint : intFields P fs = true) (hk : fs.size = k) (hk0 : 0 < k)
    (hen : ∀ ns : List Int, ns.length = k → ∃ x, ns.map (Value.int .i64) = en x)
    (hv : Value.okWide P w r b0 t v) (h : DataW.Trod enc P w base spare held t v d p) : ∃ A c, ∃ l : List α, v = .slice A l.length c ∧ SlcR w w.heap.size k A l.length (l.flatMap en) := by
  obtain ⟨A, len, cap, rfl⟩ := okWide_slice ht hv
  obtain ⟨n, hn⟩ := h
  obtain ⟨A', len', cap', e', css, hl, hS, hcs⟩ := trod_slc ht (hC.trans hk) hk0 hn
  injection e' with e1 e2 e3
  subst e1; subst e2; subst e3
  obtain ⟨l, hfl, hll⟩ := lift_list en css (fun cs hc => by
    obtain ⟨hlen, m, y, hy⟩ := hcs cs hc
    obtain ⟨ns, hn', hc'⟩ := trod_int_cells he hone hC hint hk hy
    obtain ⟨x, hx⟩ := hen ns hn'
    exact ⟨x, by rw [hc', hx]⟩)
  refine ⟨A, cap, l, by rw [hll, hl], ?_⟩
  rw [hll, hl, ← hfl]; exact hS
end
theorem i64_lo {n : Int} (h : (Lit.int .i64 n).wf = true) : -9223372036854775808 ≤ n := by
  simp [Lit.wf, IntKind.min, IntKind.max, IntKind.signed, IntKind.bits] at h; omega
theorem i64_hi {n : Int} (h : (Lit.int .i64 n).wf = true) : n ≤ 9223372036854775807 := by
  simp [Lit.wf, IntKind.min, IntKind.max, IntKind.signed, IntKind.bits] at h; omega
end Go.Proofs.YtchkjiadnackaaaDoor

/- Texts and flags that came in. -/
namespace Go.Proofs.YtchkjiadnackaaaDoor
open Go.ChangeShapes Go.WideShapes Go.ChangeAt Go.RowKit Go.Deep
section
variable {H : Type} {enc : TypeId × Value → H} {w : World} {base : Nat} {spare : Nat → Bool} {held : Bool}
theorem open_text_of {P : Program} {t : TypeId} {b0 : Nat} {r : Reach} {v : Value} {d : DataW H} {q : List MemPlace} (ht : P.underlying t = some .string) (hv : Value.okWide P w r b0 t v) (h : DataW.Trod enc P w base spare held t v d q) :
    ∃ s : ByteArray, v = .string s ∧ s.size ≤ 9223372036854775807 := by
  obtain ⟨s, rfl⟩ := okWide_string ht hv
  obtain ⟨n, hn⟩ := h
  obtain ⟨s', e, _, hs⟩ := DataW.trod_string ht hn
  simp [Value.cells] at e
  subst e
  exact ⟨s, rfl, by unfold maxLen at hs; exact hs⟩
theorem open_flag_of {P : Program} {t : TypeId} {b0 : Nat} {r : Reach} {v : Value} {d : DataW H} {q : List MemPlace} (ht : P.underlying t = some .bool) (hv : Value.okWide P w r b0 t v) (_ : DataW.Trod enc P w base spare held t v d q) :
    ∃ b : Bool, v = .bool b := by
  obtain ⟨b, rfl⟩ := okWide_bool ht hv
  exact ⟨b, rfl⟩
set_option maxRecDepth 20000 in
theorem open_text {b0 : Nat} {r : Reach} {v : Value} {d : DataW H} {q : List MemPlace} (hv : Value.okWide Tryd.prog w r b0 9 v) (h : DataW.Trod enc Tryd.prog w base spare held 9 v d q) :
    ∃ s : ByteArray, v = .string s ∧ s.size ≤ 9223372036854775807 := open_text_of Tryd.underlying9 hv h
set_option maxRecDepth 20000 in
theorem open_flag {b0 : Nat} {r : Reach} {v : Value} {d : DataW H} {q : List MemPlace} (hv : Value.okWide Tryd.prog w r b0 4 v) (h : DataW.Trod enc Tryd.prog w base spare held 4 v d q) :
    ∃ b : Bool, v = .bool b := open_flag_of Tryd.underlying4 hv h
end
end Go.Proofs.YtchkjiadnackaaaDoor
