/- Sp05: the texts RowMark PhrSum LawPhrs PhrTally LawTally LawSortP Open OpenPhr OpenPhrs, joined into one file. -/
import Derived.ProofKit
import Derived.ChangeOld
import Derived.ShutString
import Derived.OpenShut
import Derived.Deep.Slices
import Derived.Deep.Fields
import Derived.Test.YtchkjiadnackaaaSp01
import Derived.Test.YtchkjiadnackaaaSp02
import Derived.Test.YtchkjiadnackaaaSp03
import Derived.Test.YtchkjiadnackaaaSp04

set_option linter.unusedVariables false

/- Marks on a row of phrases of the call's own, and their reading. -/
namespace Go.Proofs.Ytchkjiadnackaaa
open Go.RowKit

theorem flat_set' {o : Nat} {u : Value} : ∀ {l : List Ph} {i : Nat} {y : Ph} (h : i < l.length), o < 4 → y.enc = l[i].enc.set o u → (l.flatMap Ph.enc).set (i * 4 + o) u = (l.set i y).flatMap Ph.enc
  | x :: l, 0, y, _, ho, he => by
    simp only [List.getElem_cons_zero] at he
    simp only [Nat.zero_mul, Nat.zero_add, List.flatMap_cons, List.set_cons_zero]
    rw [List.set_append_left _ _ (by rw [Ph.enc_len]; exact ho), ← he]
  | x :: l, i + 1, y, h, ho, he => by
    simp only [List.flatMap_cons, List.set_cons_succ]
    have e : (i + 1) * 4 + o = x.enc.length + (i * 4 + o) := by rw [Ph.enc_len]; omega
    rw [e, List.set_append_right _ _ (by omega), Nat.add_sub_cancel_left, flat_set' (l := l) (i := i) (y := y) (by simpa using h) ho (by simpa using he)]

theorem set_A {l : List Ph} {i : Nat} {y : Ph} (h : i < l.length) (hy : y.A = l[i].A) : (l.set i y).map Ph.A = l.map Ph.A := by
  rw [List.map_set, hy]
  have : l[i].A = (l.map Ph.A)[i]'(by simpa using h) := by simp
  rw [this, List.set_getElem_self]
theorem nd_map (m : List Ph) : (m.Pairwise fun x y => x.A = none ∨ x.A ≠ y.A) ↔ (m.map Ph.A).Pairwise fun a b => a = none ∨ a ≠ b := by rw [List.pairwise_map]
theorem mem_set_or {l : List Ph} {i : Nat} {x y : Ph} (h : x ∈ l.set i y) : x = y ∨ ∃ j, ∃ hj : j < l.length, j ≠ i ∧ x = l[j] := by
  obtain ⟨j, hj, e⟩ := List.getElem_of_mem h
  rw [List.getElem_set] at e
  split at e
  · exact .inl e.symm
  · exact .inr ⟨j, by simpa using hj, by omega, e.symm⟩

/-- A field of element i is stored. -/
theorem RowPh.cell {w : World} {B g cap n : Nat} {l : List Ph} {i o : Nat} {u : Value} {y : Ph} (h : RowPh w B (.slice (some ⟨g, 0, none⟩) n cap) l) (hn : n = l.length) (hi : i < l.length) (ho : o < 4)
    (hA : y.A = l[i].A) (hf : y.f = l[i].f) (he : y.enc = l[i].enc.set o u) : RowPh (w.setCell ⟨g, i * 4 + o, none⟩ u) B (.slice (some ⟨g, 0, none⟩) n cap) (l.set i y) := by
  subst hn
  obtain ⟨h1, h2⟩ := h.row.stored (i * 4 + o) u
  rw [flat_set' hi ho he] at h1
  refine ⟨by simpa using h1, fun x hx => ?_, ?_⟩
  · rcases mem_set_or hx with rfl | ⟨j, hj, _, rfl⟩
    · rw [hA, hf]; exact (h.fs _ (List.getElem_mem hi)).grown h.row ne_types h2
    · exact (h.fs _ (List.getElem_mem hj)).grown h.row ne_types h2
  · rw [nd_map, set_A hi hA, ← nd_map]; exact h.nd
theorem RowPh.cell0 {w : World} {B g cap n : Nat} {l : List Ph} {i : Nat} {u : Value} {y : Ph} (h : RowPh w B (.slice (some ⟨g, 0, none⟩) n cap) l) (hn : n = l.length) (hi : i < l.length)
    (hA : y.A = l[i].A) (hf : y.f = l[i].f) (he : y.enc = l[i].enc.set 0 u) : RowPh (w.setCell ⟨g, i * 4, none⟩ u) B (.slice (some ⟨g, 0, none⟩) n cap) (l.set i y) := by
  have := h.cell (o := 0) (u := u) (y := y) hn hi (by omega) hA hf he
  simpa using this

/-- The faults of element i are written anew. -/
theorem RowPh.faults {w w' : World} {B c n : Nat} {A : Option Addr} {l : List Ph} {i : Nat} (h : RowPh w B (.slice A n c) l) (hn : n = l.length) (hi : i < l.length) (f' : List Int) (hl : f'.length = l[i].f.length)
    (hO : OwnS w' B 3 1 l[i].A f'.length (encIs f')) (hg : w.grownBy w' (l[i].A.map (·.block))) : RowPh w' B (.slice A n c) (l.set i { l[i] with f := f' }) := by
  subst hn
  have he : (l.set i { l[i] with f := f' }).flatMap Ph.enc = l.flatMap Ph.enc := by
    have h0 : i * 4 < (l.flatMap Ph.enc).length := by rw [flat_len Ph.enc 4 Ph.enc_len]; omega
    have h1 := flat_set' (o := 0) (u := .int .i64 l[i].s) (y := { l[i] with f := f' }) hi (by omega) (by simp [Ph.enc, hl])
    rw [← h1, Nat.add_zero]
    have h2 : (l.flatMap Ph.enc)[i * 4]? = some (.int .i64 l[i].s) := by
      have := flat_at Ph.enc 4 Ph.enc_len l i hi 0 (by omega)
      rw [Nat.add_zero] at this; rw [this]; rfl
    obtain ⟨h3, h4⟩ := List.getElem?_eq_some_iff.1 h2
    rw [← h4]; exact List.set_getElem_self h3
  have hfi := h.fs _ (List.getElem_mem hi)
  have hrow : w'.ownsRow B 42 4 (.slice A l.length c) l.length (l.flatMap Ph.enc) := by
    refine h.row.kept hg ?_
    obtain ⟨_, _, ⟨h0, _⟩ | ⟨gf, rest, hA, _, hLf⟩⟩ := hfi
    · rw [h0]
      obtain ⟨_, ⟨h1, _⟩ | ⟨g, cap, cur, h1, _⟩⟩ := h.row
      · left; injection h1 with e1; rw [e1]; rfl
      · right; injection h1 with e1; rw [e1]; simp [Value.ownBlock]
    · rw [hA]
      exact .inr fun e => ownsRow_far h.row hLf ne_types (by simpa using e.symm)
  refine ⟨by rw [List.length_set, he]; exact hrow, fun x hx => ?_, ?_⟩
  · rcases mem_set_or hx with rfl | ⟨j, hj, hne, rfl⟩
    · exact hO
    · obtain ⟨hl1, hn1, h0 | ⟨gf, rest, hA, hgB, hLf⟩⟩ := h.fs _ (List.getElem_mem hj)
      · exact ⟨hl1, hn1, .inl h0⟩
      · refine ⟨hl1, hn1, .inr ⟨gf, rest, hA, hgB, hLf.kept hg ?_⟩⟩
        intro e
        have hdiff : l[j].A = none ∨ l[i].A = none ∨ l[j].A ≠ l[i].A := by
          rcases Nat.lt_or_ge j i with hlt | hge
          · rcases List.pairwise_iff_getElem.1 h.nd j i hj hi hlt with h1 | h1
            · exact .inl h1
            · exact .inr (.inr h1)
          · rcases List.pairwise_iff_getElem.1 h.nd i j hi hj (by omega) with h1 | h1
            · exact .inr (.inl h1)
            · exact .inr (.inr (Ne.symm h1))
        rcases hdiff with h1 | h1 | h1
        · rw [hA] at h1; cases h1
        · rw [h1] at e; cases e
        · obtain ⟨_, _, ⟨h2, _⟩ | ⟨g2, _, h2, _, _⟩⟩ := hfi
          · rw [h2] at e; cases e
          · rw [h2] at e
            simp only [Option.map_some, Option.some.injEq] at e
            exact h1 (by rw [hA, h2, e])
  · rw [nd_map, set_A (y := { l[i] with f := f' }) hi rfl, ← nd_map]; exact h.nd

/-- The marked list. -/
def markPh (k : Int) (x : Ph) : Ph := { x with s := k, c := k + 1, f := ramp (k + 2) x.f.length, p := k + 2 + x.f.length }
def marked : Int → List Ph → List Ph
  | _, [] => []
  | k, x :: l => markPh k x :: marked (k + 3 + x.f.length) l
theorem marked_len : ∀ (k : Int) (l : List Ph), (marked k l).length = l.length
  | _, [] => rfl
  | k, x :: l => by simp [marked, marked_len (k + 3 + x.f.length) l]
theorem marked_at : ∀ (k : Int) (l : List Ph) (j : Nat) (h : j < l.length) (h' : j < (marked k l).length), (marked k l)[j] = markPh (k + (3 * j + fsum (l.take j) : Nat)) l[j]
  | k, x :: l, 0, _, _ => by simp [marked, fsum]
  | k, x :: l, j + 1, h, h' => by
    simp only [marked, List.getElem_cons_succ]
    rw [marked_at (k + 3 + x.f.length) l j (by simpa using h) (by simpa [marked] using h')]
    congr 1
    simp only [List.take_succ_cons, fsum]; omega
theorem mix_set {M l : List Ph} {j : Nat} (hM : M.length = l.length) (h : j < l.length) (h' : j < M.length) : (M.take j ++ l.drop j).set j M[j] = M.take (j + 1) ++ l.drop (j + 1) := by
  have e : (M.take j).length = j := by rw [List.length_take]; omega
  rw [List.set_append_right _ _ (by omega), e, Nat.sub_self, List.drop_eq_getElem_cons h, List.set_cons_zero, List.take_succ_eq_append_getElem h', List.append_assoc, List.singleton_append]
theorem mix_at {M l : List Ph} {j : Nat} (hM : M.length = l.length) (h : j < l.length) (h' : j < (M.take j ++ l.drop j).length) : (M.take j ++ l.drop j)[j] = l[j] := by
  have e : (M.take j).length = j := by rw [List.length_take]; omega
  rw [List.getElem_append_right (by omega)]
  simp [e]

set_option maxRecDepth 100000 in
set_option maxHeartbeats 4000000 in
theorem markRow_any (B : Nat) (A : Option Addr) (c : Nat) (k0 : Int) (l : List Ph) (w : World) (hk : 0 ≤ k0) (hk' : k0 ≤ 1000) (hn : need l ≤ 1048576) (h : RowPh w B (.slice A l.length c) l) :
    Calls Try.prog 10 #[.slice A l.length c, .int .i64 k0] w fun e w' => e = .returned (.int .i64 (k0 + (3 * l.length + fsum l : Nat))) ∧ RowPh w' B (.slice A l.length c) (marked k0 l) ∧ w.heap.size ≤ w'.heap.size ∧ Below B w w' := by
  have hlen : l.length ≤ 1048576 := by unfold need at hn; omega
  have hft : Hid (∀ k, fsum (l.take k) ≤ 1048576) := fun k => by have := fsum_take_le l k; unfold need at hn; omega
  go_enter Try.func10, Try.ntmps10
  go_wp2
  go_loopw [1, 5] (fun kk i wr => ∃ (j s : Nat), j ≤ l.length ∧ i = .int .i64 j ∧ kk = .int .i64 (k0 + (3 * j + s : Nat)) ∧ s ≤ 1048576 ∧ Hid (s = fsum (l.take j)) ∧ Hid (RowPh wr B (.slice A l.length c) ((marked k0 l).take j ++ l.drop j)) ∧ w.heap.size ≤ wr.heap.size ∧ Hid (Below B w wr)) (fun _ i _ => l.length - (intOf i).toNat)
  case atStart => exact ⟨0, 0, Nat.zero_le _, rfl, congrArg _ (by simp), Nat.zero_le _, rfl, h, Nat.le_refl _, Below.refl _ _⟩
  case round =>
    obtain ⟨j, s, hj, rfl, rfl, hs, HS, HR, hsz, HBe⟩ := hrel
    by_cases hlt : j < l.length
    · have HN : Hid (s + l[j].f.length = fsum (l.take (j + 1))) := by unfold Hid; rw [fsum_take hlt, HS.out]
      have hs1 : s + l[j].f.length ≤ 1048576 := by have := hft.out (j + 1); rw [← HN.out] at this; exact this
      have hmixl : ((marked k0 l).take j ++ l.drop j).length = l.length := by simp [marked_len]; omega
      have hjm : j < ((marked k0 l).take j ++ l.drop j).length := by omega
      have HMA : Hid (((marked k0 l).take j ++ l.drop j)[j] = l[j]) := mix_at (marked_len k0 l) hlt hjm
      have HFIN : Hid (((marked k0 l).take j ++ l.drop j).set j (markPh (k0 + (3 * j + s : Nat)) l[j]) = (marked k0 l).take (j + 1) ++ l.drop (j + 1)) := by
        have h1 : j < (marked k0 l).length := by rw [marked_len]; exact hlt
        have h2 := mix_set (marked_len k0 l) hlt h1
        rw [marked_at k0 l j hlt h1, ← HS.out] at h2
        exact h2
      obtain ⟨m, hme⟩ : ∃ m, m = (marked k0 l).take j ++ l.drop j := ⟨_, rfl⟩
      obtain ⟨g, rfl⟩ : ∃ g, A = some ⟨g, 0, none⟩ := by
        obtain ⟨_, h0 | ⟨g, cap, cur, hv, _⟩⟩ := HR.out.row
        · have := h0.2; omega
        · injection hv with e1 e2 e3; exact ⟨g, e1⟩
      have HR := HR.out
      simp only [← hme] at HR HFIN hjm hmixl
      have HMA2 : m[j]'hjm = l[j] := by have := HMA.out; simp only [← hme] at this; exact this
      obtain ⟨x, hxe⟩ : ∃ x, x = l[j] := ⟨_, rfl⟩
      rw [← hxe] at HN hs1 HFIN HMA2
      clear hxe HMA hme
      have HRr : wr.ownsRow B 42 4 (.slice (some ⟨g, 0, none⟩) l.length c) l.length (m.flatMap Ph.enc) := by have := HR.row; rwa [hmixl] at this
      have at5 : ∀ o (ho : o < 4) u, (x.enc)[o]? = some u → wr.cell? ⟨g, j * 4 + o, none⟩ = some u := fun o ho u hu => by
        rw [HRr.cellAt _ (by omega), flat_at Ph.enc 4 Ph.enc_len m j hjm o ho, HMA2]; exact hu
      have c0 : wr.cell? ⟨g, j * 4, none⟩ = some (.int .i64 x.s) := at5 0 (by omega) _ rfl
      have c1 := at5 1 (by omega) _ rfl
      have c2 := at5 2 (by omega) _ rfl
      have f0 : wr.frozen? ⟨g, j * 4, none⟩ = false := HRr.frozenAt _
      have f1 : wr.frozen? ⟨g, j * 4 + 1, none⟩ = false := HRr.frozenAt _
      have hgB : B ≤ g := (HRr.lt g rfl).1
      obtain ⟨kj, hkj⟩ : ∃ kj : Int, kj = k0 + ((3 * j + s : Nat) : Int) := ⟨_, rfl⟩
      have HR1 := HR.cell0 (u := .int .i64 kj) (y := { x with s := kj }) hmixl.symm hjm (by rw [HMA2]) (by rw [HMA2]) (by rw [HMA2]; rfl)
      have hj1 : j < (m.set j { x with s := kj }).length := by simpa using hjm
      have HR2 := HR1.cell (o := 1) (u := .int .i64 (kj + 1)) (y := { x with s := kj, c := kj + 1 }) (by simp [hmixl]) hj1 (by omega) (by simp) (by simp) (by simp [Ph.enc])
      rw [List.set_set] at HR2
      have HR3 := Lib.hid HR2
      have hfrom : w.heap.size ≤ ((wr.setCell ⟨g, j * 4, none⟩ (.int .i64 kj)).setCell ⟨g, j * 4 + 1, none⟩ (.int .i64 (kj + 1))).heap.size := by simpa using hsz
      have HBe3 : Hid (Below B w ((wr.setCell ⟨g, j * 4, none⟩ (.int .i64 kj)).setCell ⟨g, j * 4 + 1, none⟩ (.int .i64 (kj + 1)))) := (HBe.out.setCell (p := ⟨g, j * 4, none⟩) hgB _).setCell (p := ⟨g, j * 4 + 1, none⟩) hgB _
      clear HR HR1 HR2 HRr at5 hsz HBe
      have hkb : 0 ≤ kj ∧ kj ≤ 10000000 := by omega
      obtain ⟨hk1, hk2⟩ := hkb
      simp only [← hkj] at HFIN ⊢
      have HKJ := Lib.hid hkj; clear hkj
      go_wp2_with fail
      clear c0 c1 c2 f0 f1
      generalize ((wr.setCell ⟨g, j * 4, none⟩ (.int .i64 kj)).setCell ⟨g, j * 4 + 1, none⟩ (.int .i64 (kj + 1))) = W at HR3 hfrom HBe3 ⊢
      have hj2 : j < (m.set j { x with s := kj, c := kj + 1 }).length := by simpa using hjm
      have hO := HR3.out.fs _ (List.getElem_mem hj2)
      simp only [List.getElem_set_self] at hO
      refine (markIntS_any x.A x.cap x.f.length B (kj + 1 + 1) (encIs x.f) W (by omega) (by omega) (by omega) hO).mono ?_
      rintro e w1 ⟨rfl, hO1, hgr⟩
      have HR4 := HR3.out.faults (by simp [hmixl]) hj2 (ramp (kj + 1 + 1) x.f.length) (by simp [ramp_len]) (by simp only [List.getElem_set_self, ramp_len]; exact hO1) (by simp only [List.getElem_set_self]; exact hgr)
      simp only [List.getElem_set_self, List.set_set] at HR4
      have hBA : ∀ gg, x.A.map (·.block) = some gg → B ≤ gg := fun gg e => by
        cases hA : x.A with
        | none => rw [hA] at e; cases e
        | some a => rw [hA] at e; simp only [Option.map_some, Option.some.injEq] at e; rw [← e]; exact (hO.lt_ hA).1
      have hBe4 := Lib.hid (HBe3.out.grown hgr (Nat.le_trans hgB (Nat.le_of_lt (HR3.out.row.lt g rfl).2)) hBA)
      have hsz1 : w.heap.size ≤ w1.heap.size := Nat.le_trans hfrom hgr.size
      have hj4 : j < (m.set j { s := kj, c := kj + 1, A := x.A, f := ramp (kj + 1 + 1) x.f.length, cap := x.cap, p := x.p }).length := by simpa using hjm
      have HRr4 : w1.ownsRow B 42 4 (.slice (some ⟨g, 0, none⟩) l.length c) l.length ((m.set j { s := kj, c := kj + 1, A := x.A, f := ramp (kj + 1 + 1) x.f.length, cap := x.cap, p := x.p }).flatMap Ph.enc) := by have := HR4.row; rwa [List.length_set, hmixl] at this
      have c3 : w1.cell? ⟨g, j * 4 + 3, none⟩ = some (.int .i64 x.p) := by
        rw [HRr4.cellAt _ (by omega), flat_at Ph.enc 4 Ph.enc_len _ j hj4 3 (by omega)]; simp [Ph.enc]
      have f3 : w1.frozen? ⟨g, j * 4 + 3, none⟩ = false := HRr4.frozenAt _
      have HR5 := HR4.cell (o := 3) (u := .int .i64 (kj + 1 + 1 + x.f.length)) (y := { s := kj, c := kj + 1, A := x.A, f := ramp (kj + 1 + 1) x.f.length, cap := x.cap, p := kj + 1 + 1 + x.f.length }) (by simp [hmixl]) hj4 (by omega) (by simp) (by simp) (by simp [Ph.enc])
      rw [List.set_set] at HR5
      have HR6 := Lib.hid HR5
      clear HR3 HR4 HR5 hO hO1 HRr4 hBA hgr
      go_wp2
      go_roundw
      case rel =>
        refine ⟨j + 1, s + x.f.length, by omega, by go_num, congrArg _ (by have := HKJ.out; omega), by omega, HN.out, ?_, by simpa using hsz1, hBe4.out.setCell (p := ⟨g, j * 4 + 3, none⟩) hgB _⟩
        have h1 := HR6.out
        have e1 : markPh kj x = { s := kj, c := kj + 1, A := x.A, f := ramp (kj + 1 + 1) x.f.length, cap := x.cap, p := kj + 1 + 1 + x.f.length } := by
          have a1 : kj + 2 = kj + 1 + 1 := by omega
          unfold markPh; rw [a1]
        rw [← e1, HFIN.out] at h1
        exact h1
      case measure => simp [intOf]; omega
    · have HJ : Hid ((marked k0 l).take j ++ l.drop j = marked k0 l) := by
        rw [Hid, List.drop_eq_nil_of_le (by omega), List.take_of_length_le (by rw [marked_len]; omega), List.append_nil]
      have HK : Hid (k0 + (3 * (j : Int) + (s : Int)) = k0 + (3 * l.length + fsum l : Nat)) := by
        have h1 := HS.out
        rw [List.take_of_length_le (by omega)] at h1
        unfold Hid; omega
      go_wp2
      go_ret
      exact ⟨by rw [← HK.out]; rfl, by rw [← HJ.out]; exact HR.out, hsz, HBe.out⟩

set_option maxRecDepth 100000 in
set_option maxHeartbeats 4000000 in
theorem heldRow_any (A : Option Addr) (c : Nat) (k0 : Int) (l : List Ph) (w : World) (hk : 0 ≤ k0) (hk' : k0 ≤ 1000) (hn : need l ≤ 1048576) (h : PhsR w w.heap.size A (marked k0 l)) :
    Calls Try.prog 11 #[.slice A l.length c, .int .i64 k0] w fun e w' => e = .returned (.int .i64 (k0 + (3 * l.length + fsum l : Nat))) ∧ Below w.heap.size w w' := by
  have hlen : l.length ≤ 1048576 := by unfold need at hn; omega
  have hft : Hid (∀ k, fsum (l.take k) ≤ 1048576) := fun k => by have := fsum_take_le l k; unfold need at hn; omega
  have hrd := h.ph
  have hml := marked_len k0 l
  have hfi : Hid (∀ i (hi : i < (marked k0 l).length), IntsR w w.heap.size (marked k0 l)[i].A (marked k0 l)[i].f) := fun i hi => h.f hi
  clear h
  go_enter Try.func11, Try.ntmps11
  go_wp2
  go_loopw [1, 5] (fun kk i wr => ∃ (j s : Nat), j ≤ l.length ∧ i = .int .i64 j ∧ kk = .int .i64 (k0 + (3 * j + s : Nat)) ∧ s ≤ 1048576 ∧ Hid (s = fsum (l.take j)) ∧ (∃ q : Since w.heap.size w, wr = q.val)) (fun _ i _ => l.length - (intOf i).toNat)
  case atStart => exact ⟨0, 0, Nat.zero_le _, rfl, congrArg _ (by simp), Nat.zero_le _, rfl, ⟨Since.start _ _, rfl⟩⟩
  case round =>
    obtain ⟨j, s, hj, rfl, rfl, hs, HS, ⟨q, rfl⟩⟩ := hrel
    by_cases hlt : j < l.length
    · have HN : Hid (s + l[j].f.length = fsum (l.take (j + 1))) := by unfold Hid; rw [fsum_take hlt, HS.out]
      have hs1 : s + l[j].f.length ≤ 1048576 := by have := hft.out (j + 1); rw [← HN.out] at this; exact this
      have hjm : j < (marked k0 l).length := by omega
      have hma := marked_at k0 l j hlt hjm
      rw [← HS.out] at hma
      obtain ⟨b, off, rfl, hb, hcell⟩ := hrd (by omega)
      obtain ⟨c0, c1, c2, c3⟩ := hcell j hjm
      have hx : IntsR w w.heap.size (marked k0 l)[j].A (marked k0 l)[j].f := hfi.out j hjm
      rw [hma] at c0 c1 c2 c3 hx
      obtain ⟨x, hxe⟩ : ∃ x, x = l[j] := ⟨_, rfl⟩
      rw [← hxe] at HN hs1 c0 c1 c2 c3 hx
      obtain ⟨kj, hkj⟩ : ∃ kj : Int, kj = k0 + ((3 * j + s : Nat) : Int) := ⟨_, rfl⟩
      have hkb : 0 ≤ kj ∧ kj ≤ 10000000 := by omega
      obtain ⟨hk1, hk2⟩ := hkb
      simp only [← hkj] at c0 c1 c2 c3 hx ⊢
      have HKJ := Lib.hid hkj; clear hkj
      simp only [markPh, ramp_len] at c0 c1 c2 c3 hx
      have e2 : kj + 2 = kj + 1 + 1 := by omega
      rw [e2] at c3 hx
      have hx' : Hid (∀ p : Since w.heap.size w, IntsR p.val p.val.heap.size x.A (ramp (kj + 1 + 1) x.f.length)) := fun p => SlcR.up hx p.below (Nat.le_refl _)
      clear hxe hcell hrd hma hx e2
      go_wp2_with fail
      refine (heldIntS_any x.A x.cap x.f.length (kj + 1 + 1) _ (by omega) (by omega) (by omega) (hx'.out q)).mono ?_
      rintro e w1 ⟨rfl, hb1⟩
      obtain ⟨q1, hq1⟩ : ∃ q1 : Since w.heap.size w, w1 = q1.val := ⟨q.go (Nat.le_refl _) hb1, rfl⟩
      subst hq1
      have hneg : decide (kj + 1 + 1 + (x.f.length : Int) < 0) = false := decide_eq_false (by omega)
      go_wp2
      go_roundw
      case rel => exact ⟨j + 1, s + x.f.length, by omega, by go_num, congrArg _ (by have := HKJ.out; omega), by omega, HN.out, ⟨q1, rfl⟩⟩
      case measure => simp [intOf]; omega
    · have HK : Hid (k0 + (3 * (j : Int) + (s : Int)) = k0 + (3 * l.length + fsum l : Nat)) := by
        have h1 := HS.out
        rw [List.take_of_length_le (by omega)] at h1
        unfold Hid; omega
      clear hrd
      go_wp2
      go_ret
      exact ⟨by rw [← HK.out]; rfl, q.below⟩
end Go.Proofs.Ytchkjiadnackaaa

/- Sums over phrases: WorthOf, CleanCopies, CountState, in the reference and in the program. (Printed by gen_phrsum.py) -/
namespace Go.Proofs.Ytchkjiadnackaaa
open Go.RowKit

def sumFrom (f : Ph → Int) : Int → List Ph → Int
  | a, [] => a
  | a, x :: l => sumFrom f (a + f x) l
theorem sum_step {l : List Ph} {k : Nat} (h : k < l.length) (f : Ph → Int) (a : Int) : sumFrom f a (l.drop k) = sumFrom f (a + f l[k]) (l.drop (k + 1)) := by
  rw [List.drop_eq_getElem_cons h]; rfl
theorem sum_ph {f : Ph → Int} (hf : ∀ x y : Ph, x.ph = y.ph → f x = f y) : ∀ {a b : List Ph} (s : Int), a.map Ph.ph = b.map Ph.ph → sumFrom f s a = sumFrom f s b
  | [], [], _, _ => rfl
  | [], _ :: _, _, h => by simp at h
  | _ :: _, [], _, h => by simp at h
  | x :: a, y :: b, s, h => by
    simp only [List.map_cons, List.cons.injEq] at h
    rw [sumFrom, sumFrom, hf x y h.1]; exact sum_ph hf _ h.2
def worthV (x : Ph) : Int := x.c * x.p
def cleanV (x : Ph) : Int := if x.f.length = 0 then x.c else 0
def stateV (st : Int) (x : Ph) : Int := if x.s = st then x.c else 0
theorem worthV_ph (x y : Ph) (h : x.ph = y.ph) : worthV x = worthV y := by
  unfold Ph.ph at h; injection h with h1 h2; injection h2 with h2 h3; injection h3 with h3 h4; unfold worthV; rw [h2, h4]
theorem cleanV_ph (x y : Ph) (h : x.ph = y.ph) : cleanV x = cleanV y := by
  unfold Ph.ph at h; injection h with h1 h2; injection h2 with h2 h3; injection h3 with h3 h4; unfold cleanV; rw [h2, h3]
theorem stateV_ph (st : Int) (x y : Ph) (h : x.ph = y.ph) : stateV st x = stateV st y := by
  unfold Ph.ph at h; injection h with h1 h2; injection h2 with h2 h3; injection h3 with h3 h4; unfold stateV; rw [h1, h2]
theorem worthV_bd {x : Ph} (h : x.ok = true) : 0 ≤ x.c * x.p ∧ x.c * x.p ≤ 98999901 := by
  obtain ⟨_, ⟨h1, h2⟩, _, h3, h4⟩ := Ph.bounds h
  refine ⟨Int.mul_nonneg (by omega) h3, ?_⟩
  have := Int.mul_le_mul h2 h4 h3 (by omega : (0 : Int) ≤ 99)
  omega
def okOf (g : Bool) (v : Int) : Int := if g then v else 0

set_option maxHeartbeats 1000000 in
theorem specWorthOf_any (A : Option Addr) (c : Nat) (l : List Ph) (w : World) (h : PhsR w w.heap.size A l) :
    Calls Try.prog 18 #[.slice A l.length c] w fun e w' => e = .returned (.tuple #[.int .i64 (okOf (goodPhs l) (sumFrom worthV 0 l)), .bool (goodPhs l)]) ∧ Below w.heap.size w w' := by
  have hl := h.slc.big
  have hrd := h.ph
  cases hg : goodPhs l
  · have HG := Lib.hid hg; clear hg hrd
    go_enter Try.func18, Try.ntmps18
    go_wp2_with (go_at_call 28; refine (l30Good_any A c l _ h).mono ?_; rw [HG.out]; rintro e w1 ⟨rfl, hb1⟩)
    go_ret2
    exact ⟨rfl, hb1⟩
  · skip
    have h10 := good_len hg
    have HA : Hid (∀ i (hi : i < l.length), l[i].ok = true) := fun i hi => good_at hg hi
    have HG := Lib.hid hg; clear hg
    have HS0 : Hid (sumFrom worthV 0 (l.drop 0) = sumFrom worthV 0 l) := rfl
    go_enter Try.func18, Try.ntmps18
    go_wp2_with (go_at_call 28; refine (l30Good_any A c l _ h).mono ?_; rw [HG.out]; rintro e w1 ⟨rfl, hb1⟩)
    go_loopw [4, 5] (fun s i wr => ∃ (k : Nat) (t : Int), k ≤ l.length ∧ i = .int .i64 k ∧ s = .int .i64 t ∧ (0 ≤ t ∧ t ≤ 98999901 * (k : Int)) ∧ (∃ q : Since w.heap.size w, wr = q.val) ∧ Hid (sumFrom worthV t (l.drop k) = sumFrom worthV 0 l)) (fun _ i _ => l.length - (intOf i).toNat)
    case atStart => exact ⟨0, 0, Nat.zero_le _, rfl, rfl, by omega, ⟨⟨_, hb1⟩, rfl⟩, HS0⟩
    case round =>
      clear hb1
      obtain ⟨k, t, hk, rfl, rfl, ⟨t0, t1⟩, ⟨q, rfl⟩, HR⟩ := hrel
      by_cases hlt : k < l.length
      · obtain ⟨b, off, rfl, hb, hcell⟩ := hrd (by omega)
        obtain ⟨c0, c1, c2, c3⟩ := hcell k hlt
        have hxo := HA.out k hlt
        have HS : Hid (sumFrom worthV t (l.drop k) = sumFrom worthV (t + worthV l[k]) (l.drop (k + 1))) := sum_step hlt _ _
        obtain ⟨x, hxe⟩ : ∃ x, x = l[k] := ⟨_, rfl⟩
        rw [← hxe] at c0 c1 c2 c3 hxo HS
        clear hxe hcell hrd
        obtain ⟨m1, m2⟩ := worthV_bd hxo
        obtain ⟨⟨xs1, xs2⟩, ⟨xc1, xc2⟩, _, xp1, xp2⟩ := Ph.bounds hxo
        clear hxo
        have hm : IntKind.i64.wrap (x.c * x.p) = x.c * x.p := IntWalk.i64_in _ (by omega)
        have ha : IntKind.i64.wrap (t + x.c * x.p) = t + x.c * x.p := IntWalk.i64_in _ (by omega)
        go_wp2
        refine wp_region_since _ (by kernel_rfl) (by kernel_rfl) ?_
        repeat (any_goals (first | go_big_quiet_step ((fail)) | (refine wpQuiet_step (fun K hK => ?_); go_simp; split <;> (refine hK _ ?_; clear hK K))))
        all_goals (refine wpQuiet_nil ?_; rintro _ ⟨q1, rfl⟩)
        go_wp2
        go_roundw
        case rel => exact ⟨k + 1, t + x.c * x.p, by omega, by go_num, rfl, by omega, ⟨q1, rfl⟩, Lib.hid (by have h1 := HR.out; rw [HS.out] at h1; exact h1)⟩
        case measure => simp [intOf]; omega
      · have HE : Hid (t = sumFrom worthV 0 l) := by
          have h1 := HR.out; rw [List.drop_eq_nil_of_le (by omega)] at h1; exact h1
        clear hrd
        go_wp2
        go_ret2
        exact ⟨by rw [← HE.out]; rfl, q.below⟩

set_option maxHeartbeats 1000000 in
theorem implWorthOf_any (A : Option Addr) (c : Nat) (l : List Ph) (w : World) (h : PhsR w w.heap.size A l) :
    Calls Try.prog 17 #[.slice A l.length c] w fun e w' => e = .returned (.tuple #[.int .i64 (okOf (goodPhs l) (sumFrom worthV 0 l)), .bool (goodPhs l)]) ∧ Below w.heap.size w w' := by
  have hl := h.slc.big
  have hrd := h.ph
  cases hg : goodPhs l
  · have HG := Lib.hid hg; clear hg hrd
    go_enter Try.func17, Try.ntmps17
    go_wp2_with (go_at_call 32; refine (arePhrases_any A c l _ h).mono ?_; rw [HG.out]; rintro e w1 ⟨rfl, hb1⟩)
    go_ret2
    exact ⟨rfl, hb1⟩
  · skip
    have h10 := good_len hg
    have HA : Hid (∀ i (hi : i < l.length), l[i].ok = true) := fun i hi => good_at hg hi
    have HG := Lib.hid hg; clear hg
    have HS0 : Hid (sumFrom worthV 0 (l.drop 0) = sumFrom worthV 0 l) := rfl
    go_enter Try.func17, Try.ntmps17
    go_wp2_with (go_at_call 32; refine (arePhrases_any A c l _ h).mono ?_; rw [HG.out]; rintro e w1 ⟨rfl, hb1⟩)
    go_loopw [4, 12] (fun s i wr => ∃ (k : Nat) (t : Int), k ≤ l.length ∧ i = .int .i64 k ∧ s = .int .i64 t ∧ (0 ≤ t ∧ t ≤ 98999901 * (k : Int)) ∧ (∃ q : Since w.heap.size w, wr = q.val) ∧ Hid (sumFrom worthV t (l.drop k) = sumFrom worthV 0 l)) (fun _ i _ => l.length - (intOf i).toNat)
    case atStart => exact ⟨0, 0, Nat.zero_le _, rfl, rfl, by omega, ⟨⟨_, hb1⟩, rfl⟩, HS0⟩
    case round =>
      clear hb1
      obtain ⟨k, t, hk, rfl, rfl, ⟨t0, t1⟩, ⟨q, rfl⟩, HR⟩ := hrel
      by_cases hlt : k < l.length
      · obtain ⟨b, off, rfl, hb, hcell⟩ := hrd (by omega)
        obtain ⟨c0, c1, c2, c3⟩ := hcell k hlt
        have hxo := HA.out k hlt
        have HS : Hid (sumFrom worthV t (l.drop k) = sumFrom worthV (t + worthV l[k]) (l.drop (k + 1))) := sum_step hlt _ _
        obtain ⟨x, hxe⟩ : ∃ x, x = l[k] := ⟨_, rfl⟩
        rw [← hxe] at c0 c1 c2 c3 hxo HS
        clear hxe hcell hrd
        obtain ⟨m1, m2⟩ := worthV_bd hxo
        obtain ⟨⟨xs1, xs2⟩, ⟨xc1, xc2⟩, _, xp1, xp2⟩ := Ph.bounds hxo
        clear hxo
        have hm : IntKind.i64.wrap (x.c * x.p) = x.c * x.p := IntWalk.i64_in _ (by omega)
        have ha : IntKind.i64.wrap (t + x.c * x.p) = t + x.c * x.p := IntWalk.i64_in _ (by omega)
        go_wp2
        go_roundw
        case rel => exact ⟨k + 1, t + x.c * x.p, by omega, by go_num, rfl, by omega, ⟨⟨_, q.below.alloc q.size _⟩, rfl⟩, Lib.hid (by have h1 := HR.out; rw [HS.out] at h1; exact h1)⟩
        case measure => simp [intOf]; omega
      · have HE : Hid (t = sumFrom worthV 0 l) := by
          have h1 := HR.out; rw [List.drop_eq_nil_of_le (by omega)] at h1; exact h1
        clear hrd
        go_wp2
        go_ret2
        exact ⟨by rw [← HE.out]; rfl, q.below⟩

set_option maxHeartbeats 1000000 in
theorem specCleanCopies_any (A : Option Addr) (c : Nat) (l : List Ph) (w : World) (h : PhsR w w.heap.size A l) :
    Calls Try.prog 23 #[.slice A l.length c] w fun e w' => e = .returned (.tuple #[.int .i64 (okOf (goodPhs l) (sumFrom cleanV 0 l)), .bool (goodPhs l)]) ∧ Below w.heap.size w w' := by
  have hl := h.slc.big
  have hrd := h.ph
  cases hg : goodPhs l
  · have HG := Lib.hid hg; clear hg hrd
    go_enter Try.func23, Try.ntmps23
    go_wp2_with (go_at_call 28; refine (l30Good_any A c l _ h).mono ?_; rw [HG.out]; rintro e w1 ⟨rfl, hb1⟩)
    go_ret2
    exact ⟨rfl, hb1⟩
  · skip
    have h10 := good_len hg
    have HA : Hid (∀ i (hi : i < l.length), l[i].ok = true) := fun i hi => good_at hg hi
    have HG := Lib.hid hg; clear hg
    have HS0 : Hid (sumFrom cleanV 0 (l.drop 0) = sumFrom cleanV 0 l) := rfl
    go_enter Try.func23, Try.ntmps23
    go_wp2_with (go_at_call 28; refine (l30Good_any A c l _ h).mono ?_; rw [HG.out]; rintro e w1 ⟨rfl, hb1⟩)
    go_loopw [4, 5] (fun s i wr => ∃ (k : Nat) (t : Int), k ≤ l.length ∧ i = .int .i64 k ∧ s = .int .i64 t ∧ (0 ≤ t ∧ t ≤ 99 * (k : Int)) ∧ (∃ q : Since w.heap.size w, wr = q.val) ∧ Hid (sumFrom cleanV t (l.drop k) = sumFrom cleanV 0 l)) (fun _ i _ => l.length - (intOf i).toNat)
    case atStart => exact ⟨0, 0, Nat.zero_le _, rfl, rfl, by omega, ⟨⟨_, hb1⟩, rfl⟩, HS0⟩
    case round =>
      clear hb1
      obtain ⟨k, t, hk, rfl, rfl, ⟨t0, t1⟩, ⟨q, rfl⟩, HR⟩ := hrel
      by_cases hlt : k < l.length
      · obtain ⟨b, off, rfl, hb, hcell⟩ := hrd (by omega)
        obtain ⟨c0, c1, c2, c3⟩ := hcell k hlt
        have hxo := HA.out k hlt
        have HS : Hid (sumFrom cleanV t (l.drop k) = sumFrom cleanV (t + cleanV l[k]) (l.drop (k + 1))) := sum_step hlt _ _
        obtain ⟨x, hxe⟩ : ∃ x, x = l[k] := ⟨_, rfl⟩
        rw [← hxe] at c0 c1 c2 c3 hxo HS
        clear hxe hcell hrd
        obtain ⟨m1, m2⟩ := worthV_bd hxo
        obtain ⟨⟨xs1, xs2⟩, ⟨xc1, xc2⟩, _, xp1, xp2⟩ := Ph.bounds hxo
        clear hxo
        have ha : IntKind.i64.wrap (t + x.c) = t + x.c := IntWalk.i64_in _ (by omega)
        by_cases hz : x.f.length = 0
        · have HE : Hid (cleanV x = x.c) := by unfold Hid cleanV; rw [if_pos hz]
          have hv : ((x.f.length : Int) == 0) = true := by simp [hz]
          clear hz
          go_wp2
          go_roundw
          case rel => exact ⟨k + 1, t + x.c, by omega, by go_num, rfl, by omega, ⟨q, rfl⟩, Lib.hid (by have h1 := HR.out; rw [HS.out, HE.out] at h1; exact h1)⟩
          case measure => simp [intOf]; omega
        · have HE : Hid (cleanV x = 0) := by unfold Hid cleanV; rw [if_neg hz]
          have hv : ((x.f.length : Int) == 0) = false := by simp [hz]
          clear hz
          go_wp2
          go_roundw
          case rel => exact ⟨k + 1, t, by omega, by go_num, rfl, by omega, ⟨q, rfl⟩, Lib.hid (by have h1 := HR.out; rw [HS.out, HE.out, Int.add_zero] at h1; exact h1)⟩
          case measure => simp [intOf]; omega
      · have HE : Hid (t = sumFrom cleanV 0 l) := by
          have h1 := HR.out; rw [List.drop_eq_nil_of_le (by omega)] at h1; exact h1
        clear hrd
        go_wp2
        go_ret2
        exact ⟨by rw [← HE.out]; rfl, q.below⟩

set_option maxHeartbeats 1000000 in
theorem implCleanCopies_any (A : Option Addr) (c : Nat) (l : List Ph) (w : World) (h : PhsR w w.heap.size A l) :
    Calls Try.prog 22 #[.slice A l.length c] w fun e w' => e = .returned (.tuple #[.int .i64 (okOf (goodPhs l) (sumFrom cleanV 0 l)), .bool (goodPhs l)]) ∧ Below w.heap.size w w' := by
  have hl := h.slc.big
  have hrd := h.ph
  cases hg : goodPhs l
  · have HG := Lib.hid hg; clear hg hrd
    go_enter Try.func22, Try.ntmps22
    go_wp2_with (go_at_call 32; refine (arePhrases_any A c l _ h).mono ?_; rw [HG.out]; rintro e w1 ⟨rfl, hb1⟩)
    go_ret2
    exact ⟨rfl, hb1⟩
  · skip
    have h10 := good_len hg
    have HA : Hid (∀ i (hi : i < l.length), l[i].ok = true) := fun i hi => good_at hg hi
    have HG := Lib.hid hg; clear hg
    have HS0 : Hid (sumFrom cleanV 0 (l.drop 0) = sumFrom cleanV 0 l) := rfl
    go_enter Try.func22, Try.ntmps22
    go_wp2_with (go_at_call 32; refine (arePhrases_any A c l _ h).mono ?_; rw [HG.out]; rintro e w1 ⟨rfl, hb1⟩)
    go_loopw [4, 12] (fun s i wr => ∃ (k : Nat) (t : Int), k ≤ l.length ∧ i = .int .i64 k ∧ s = .int .i64 t ∧ (0 ≤ t ∧ t ≤ 99 * (k : Int)) ∧ (∃ q : Since w.heap.size w, wr = q.val) ∧ Hid (sumFrom cleanV t (l.drop k) = sumFrom cleanV 0 l)) (fun _ i _ => l.length - (intOf i).toNat)
    case atStart => exact ⟨0, 0, Nat.zero_le _, rfl, rfl, by omega, ⟨⟨_, hb1⟩, rfl⟩, HS0⟩
    case round =>
      clear hb1
      obtain ⟨k, t, hk, rfl, rfl, ⟨t0, t1⟩, ⟨q, rfl⟩, HR⟩ := hrel
      by_cases hlt : k < l.length
      · obtain ⟨b, off, rfl, hb, hcell⟩ := hrd (by omega)
        obtain ⟨c0, c1, c2, c3⟩ := hcell k hlt
        have hxo := HA.out k hlt
        have HS : Hid (sumFrom cleanV t (l.drop k) = sumFrom cleanV (t + cleanV l[k]) (l.drop (k + 1))) := sum_step hlt _ _
        obtain ⟨x, hxe⟩ : ∃ x, x = l[k] := ⟨_, rfl⟩
        rw [← hxe] at c0 c1 c2 c3 hxo HS
        clear hxe hcell hrd
        obtain ⟨m1, m2⟩ := worthV_bd hxo
        obtain ⟨⟨xs1, xs2⟩, ⟨xc1, xc2⟩, _, xp1, xp2⟩ := Ph.bounds hxo
        clear hxo
        have ha : IntKind.i64.wrap (t + x.c) = t + x.c := IntWalk.i64_in _ (by omega)
        by_cases hz : x.f.length = 0
        · have HE : Hid (cleanV x = x.c) := by unfold Hid cleanV; rw [if_pos hz]
          have hv : ((x.f.length : Int) == 0) = true := by simp [hz]
          clear hz
          go_wp2
          go_roundw
          case rel => exact ⟨k + 1, t + x.c, by omega, by go_num, rfl, by omega, ⟨⟨_, q.below.alloc q.size _⟩, rfl⟩, Lib.hid (by have h1 := HR.out; rw [HS.out, HE.out] at h1; exact h1)⟩
          case measure => simp [intOf]; omega
        · have HE : Hid (cleanV x = 0) := by unfold Hid cleanV; rw [if_neg hz]
          have hv : ((x.f.length : Int) == 0) = false := by simp [hz]
          clear hz
          go_wp2
          go_roundw
          case rel => exact ⟨k + 1, t, by omega, by go_num, rfl, by omega, ⟨⟨_, q.below.alloc q.size _⟩, rfl⟩, Lib.hid (by have h1 := HR.out; rw [HS.out, HE.out, Int.add_zero] at h1; exact h1)⟩
          case measure => simp [intOf]; omega
      · have HE : Hid (t = sumFrom cleanV 0 l) := by
          have h1 := HR.out; rw [List.drop_eq_nil_of_le (by omega)] at h1; exact h1
        clear hrd
        go_wp2
        go_ret2
        exact ⟨by rw [← HE.out]; rfl, q.below⟩

set_option maxHeartbeats 1000000 in
theorem specCountState_any (A : Option Addr) (c : Nat) (l : List Ph) (st : Int) (_hst : -9223372036854775808 ≤ st) (_hst' : st ≤ 9223372036854775807) (w : World) (h : PhsR w w.heap.size A l) :
    Calls Try.prog 26 #[.slice A l.length c, .int .i64 st] w fun e w' => e = .returned (.tuple #[.int .i64 (okOf (goodPhs l && inR st 1 3) (sumFrom (stateV st) 0 l)), .bool (goodPhs l && inR st 1 3)]) ∧ Below w.heap.size w w' := by
  have hl := h.slc.big
  have hrd := h.ph
  cases hg : goodPhs l
  · have HG := Lib.hid hg; clear hg hrd
    go_enter Try.func26, Try.ntmps26
    go_wp2_with (go_at_call 28; refine (l30Good_any A c l _ h).mono ?_; rw [HG.out]; rintro e w1 ⟨rfl, hb1⟩)
    go_ret2
    exact ⟨rfl, hb1⟩
  · cases hi : inR st 1 3
    · have HG := Lib.hid hg; clear hg hrd
      have HI := Lib.hid hi; clear hi
      go_enter Try.func26, Try.ntmps26
      go_wp2_with (first | (go_at_call 28; refine (l30Good_any A c l _ h).mono ?_; rw [HG.out]; rintro e w1 ⟨rfl, hb1⟩) | (go_at_call 51; refine (l1In_any _ _ _ _).mono ?_; rw [HI.out]; rintro e w2 ⟨rfl, rfl⟩))
      go_ret2
      exact ⟨rfl, hb1⟩
    · have HI := Lib.hid hi; clear hi
      have h10 := good_len hg
      have HA : Hid (∀ i (hi : i < l.length), l[i].ok = true) := fun i hi => good_at hg hi
      have HG := Lib.hid hg; clear hg
      have HS0 : Hid (sumFrom (stateV st) 0 (l.drop 0) = sumFrom (stateV st) 0 l) := rfl
      go_enter Try.func26, Try.ntmps26
      go_wp2_with (first | (go_at_call 28; refine (l30Good_any A c l _ h).mono ?_; rw [HG.out]; rintro e w1 ⟨rfl, hb1⟩) | (go_at_call 51; refine (l1In_any _ _ _ _).mono ?_; rw [HI.out]; rintro e w2 ⟨rfl, rfl⟩))
      go_loopw [6, 7] (fun s i wr => ∃ (k : Nat) (t : Int), k ≤ l.length ∧ i = .int .i64 k ∧ s = .int .i64 t ∧ (0 ≤ t ∧ t ≤ 99 * (k : Int)) ∧ (∃ q : Since w.heap.size w, wr = q.val) ∧ Hid (sumFrom (stateV st) t (l.drop k) = sumFrom (stateV st) 0 l)) (fun _ i _ => l.length - (intOf i).toNat)
      case atStart => exact ⟨0, 0, Nat.zero_le _, rfl, rfl, by omega, ⟨⟨_, hb1⟩, rfl⟩, HS0⟩
      case round =>
        clear hb1
        obtain ⟨k, t, hk, rfl, rfl, ⟨t0, t1⟩, ⟨q, rfl⟩, HR⟩ := hrel
        by_cases hlt : k < l.length
        · obtain ⟨b, off, rfl, hb, hcell⟩ := hrd (by omega)
          obtain ⟨c0, c1, c2, c3⟩ := hcell k hlt
          have hxo := HA.out k hlt
          have HS : Hid (sumFrom (stateV st) t (l.drop k) = sumFrom (stateV st) (t + (stateV st) l[k]) (l.drop (k + 1))) := sum_step hlt _ _
          obtain ⟨x, hxe⟩ : ∃ x, x = l[k] := ⟨_, rfl⟩
          rw [← hxe] at c0 c1 c2 c3 hxo HS
          clear hxe hcell hrd
          obtain ⟨m1, m2⟩ := worthV_bd hxo
          obtain ⟨⟨xs1, xs2⟩, ⟨xc1, xc2⟩, _, xp1, xp2⟩ := Ph.bounds hxo
          clear hxo
          have ha : IntKind.i64.wrap (t + x.c) = t + x.c := IntWalk.i64_in _ (by omega)
          by_cases hz : x.s = st
          · have HE : Hid ((stateV st) x = x.c) := by unfold Hid stateV; rw [if_pos hz]
            have hv : (x.s == st) = true := by simp [hz]
            clear hz
            go_wp2
            go_roundw
            case rel => exact ⟨k + 1, t + x.c, by omega, by go_num, rfl, by omega, ⟨q, rfl⟩, Lib.hid (by have h1 := HR.out; rw [HS.out, HE.out] at h1; exact h1)⟩
            case measure => simp [intOf]; omega
          · have HE : Hid ((stateV st) x = 0) := by unfold Hid stateV; rw [if_neg hz]
            have hv : (x.s == st) = false := by simp [hz]
            clear hz
            go_wp2
            go_roundw
            case rel => exact ⟨k + 1, t, by omega, by go_num, rfl, by omega, ⟨q, rfl⟩, Lib.hid (by have h1 := HR.out; rw [HS.out, HE.out, Int.add_zero] at h1; exact h1)⟩
            case measure => simp [intOf]; omega
        · have HE : Hid (t = sumFrom (stateV st) 0 l) := by
            have h1 := HR.out; rw [List.drop_eq_nil_of_le (by omega)] at h1; exact h1
          clear hrd
          go_wp2
          go_ret2
          exact ⟨by rw [← HE.out]; rfl, q.below⟩

set_option maxHeartbeats 1000000 in
theorem implCountState_any (A : Option Addr) (c : Nat) (l : List Ph) (st : Int) (_hst : -9223372036854775808 ≤ st) (_hst' : st ≤ 9223372036854775807) (w : World) (h : PhsR w w.heap.size A l) :
    Calls Try.prog 24 #[.slice A l.length c, .int .i64 st] w fun e w' => e = .returned (.tuple #[.int .i64 (okOf (goodPhs l && inR st 1 3) (sumFrom (stateV st) 0 l)), .bool (goodPhs l && inR st 1 3)]) ∧ Below w.heap.size w w' := by
  have hl := h.slc.big
  have hrd := h.ph
  cases hg : goodPhs l
  · have HG := Lib.hid hg; clear hg hrd
    go_enter Try.func24, Try.ntmps24
    go_wp2_with (go_at_call 32; refine (arePhrases_any A c l _ h).mono ?_; rw [HG.out]; rintro e w1 ⟨rfl, hb1⟩)
    go_ret2
    exact ⟨rfl, hb1⟩
  · cases hi : inR st 1 3
    · have HG := Lib.hid hg; clear hg hrd
      have HI := Lib.hid hi; clear hi
      go_enter Try.func24, Try.ntmps24
      go_wp2_with (first | (go_at_call 32; refine (arePhrases_any A c l _ h).mono ?_; rw [HG.out]; rintro e w1 ⟨rfl, hb1⟩) | (go_at_call 47; refine (inRange_any _ _ _ _).mono ?_; rw [HI.out]; rintro e w2 ⟨rfl, rfl⟩))
      go_ret2
      exact ⟨rfl, hb1⟩
    · have HI := Lib.hid hi; clear hi
      have h10 := good_len hg
      have HA : Hid (∀ i (hi : i < l.length), l[i].ok = true) := fun i hi => good_at hg hi
      have HG := Lib.hid hg; clear hg
      have HS0 : Hid (sumFrom (stateV st) 0 (l.drop 0) = sumFrom (stateV st) 0 l) := rfl
      go_enter Try.func24, Try.ntmps24
      go_wp2_with (first | (go_at_call 32; refine (arePhrases_any A c l _ h).mono ?_; rw [HG.out]; rintro e w1 ⟨rfl, hb1⟩) | (go_at_call 47; refine (inRange_any _ _ _ _).mono ?_; rw [HI.out]; rintro e w2 ⟨rfl, rfl⟩))
      go_loopw [6, 19] (fun s i wr => ∃ (k : Nat) (t : Int), k ≤ l.length ∧ i = .int .i64 k ∧ s = .int .i64 t ∧ (0 ≤ t ∧ t ≤ 99 * (k : Int)) ∧ (∃ q : Since w.heap.size w, wr = q.val) ∧ Hid (sumFrom (stateV st) t (l.drop k) = sumFrom (stateV st) 0 l)) (fun _ i _ => l.length - (intOf i).toNat)
      case atStart => exact ⟨0, 0, Nat.zero_le _, rfl, rfl, by omega, ⟨⟨_, hb1⟩, rfl⟩, HS0⟩
      case round =>
        clear hb1
        obtain ⟨k, t, hk, rfl, rfl, ⟨t0, t1⟩, ⟨q, rfl⟩, HR⟩ := hrel
        by_cases hlt : k < l.length
        · obtain ⟨b, off, rfl, hb, hcell⟩ := hrd (by omega)
          obtain ⟨c0, c1, c2, c3⟩ := hcell k hlt
          have hxo := HA.out k hlt
          have HS : Hid (sumFrom (stateV st) t (l.drop k) = sumFrom (stateV st) (t + (stateV st) l[k]) (l.drop (k + 1))) := sum_step hlt _ _
          obtain ⟨x, hxe⟩ : ∃ x, x = l[k] := ⟨_, rfl⟩
          rw [← hxe] at c0 c1 c2 c3 hxo HS
          clear hxe hcell hrd
          obtain ⟨m1, m2⟩ := worthV_bd hxo
          obtain ⟨⟨xs1, xs2⟩, ⟨xc1, xc2⟩, _, xp1, xp2⟩ := Ph.bounds hxo
          clear hxo
          have ha : IntKind.i64.wrap (t + x.c) = t + x.c := IntWalk.i64_in _ (by omega)
          by_cases hz : x.s = st
          · have HE : Hid ((stateV st) x = x.c) := by unfold Hid stateV; rw [if_pos hz]
            have hv : (x.s == st) = true := by simp [hz]
            clear hz
            go_wp2
            go_roundw
            case rel => exact ⟨k + 1, t + x.c, by omega, by go_num, rfl, by omega, ⟨⟨_, q.below.alloc q.size _⟩, rfl⟩, Lib.hid (by have h1 := HR.out; rw [HS.out, HE.out] at h1; exact h1)⟩
            case measure => simp [intOf]; omega
          · have HE : Hid ((stateV st) x = 0) := by unfold Hid stateV; rw [if_neg hz]
            have hv : (x.s == st) = false := by simp [hz]
            clear hz
            go_wp2
            go_roundw
            case rel => exact ⟨k + 1, t, by omega, by go_num, rfl, by omega, ⟨⟨_, q.below.alloc q.size _⟩, rfl⟩, Lib.hid (by have h1 := HR.out; rw [HS.out, HE.out, Int.add_zero] at h1; exact h1)⟩
            case measure => simp [intOf]; omega
        · have HE : Hid (t = sumFrom (stateV st) 0 l) := by
            have h1 := HR.out; rw [List.drop_eq_nil_of_le (by omega)] at h1; exact h1
          clear hrd
          go_wp2
          go_ret2
          exact ⟨by rw [← HE.out]; rfl, q.below⟩
end Go.Proofs.Ytchkjiadnackaaa

/- Laws over phrases with scalar results: the walks. (Printed by lawgen_phr.py) -/
namespace Go.Proofs.Ytchkjiadnackaaa
open Go.RowKit

theorem fsum_ph : ∀ {a b : List Ph}, a.map Ph.ph = b.map Ph.ph → fsum a = fsum b
  | [], [], _ => rfl
  | [], _ :: _, h => by simp at h
  | _ :: _, [], h => by simp at h
  | x :: a, y :: b, h => by
    simp only [List.map_cons, List.cons.injEq] at h
    have h1 : x.f = y.f := by have h1 := h.1; unfold Ph.ph at h1; injection h1 with h1 h2; injection h2 with h2 h3; injection h3 with h3 h4
    rw [fsum, fsum, h1, fsum_ph h.2]
theorem need_ph {a b : List Ph} (h : a.map Ph.ph = b.map Ph.ph) : need a = need b := by unfold need; rw [len_of_ph h, fsum_ph h]
theorem fsum_mem {l : List Ph} {x : Ph} (h : x ∈ l) : x.f.length ≤ fsum l := by
  induction l with
  | nil => cases h
  | cons y l ih =>
    rcases List.mem_cons.1 h with rfl | h
    · simp [fsum]
    · have := ih h; simp only [fsum]; omega
/-- A copy of phrases reads. -/
theorem OwnPhs.phs {w : World} {G : Nat} {l m : List Ph} {rest : List Value} (h : OwnPhs w G m rest) (hm : m.map Ph.ph = l.map Ph.ph) (hn : need l ≤ 1048576) : PhsR w w.heap.size (some ⟨G, 0, none⟩) m := by
  have hn' : need m ≤ 1048576 := by rw [need_ph hm]; exact hn
  unfold need at hn'
  exact h.reads (by omega) fun x hx => by have := fsum_mem hx; omega
theorem samePhs_of {a b c : List Ph} (h : a.map Ph.ph = c.map Ph.ph) (k : b.map Ph.ph = c.map Ph.ph) : samePhs a b = true := by unfold samePhs; exact decide_eq_true (h.trans k.symm)

end Go.Proofs.Ytchkjiadnackaaa

/- FaultTally, in the reference and in the program. -/
namespace Go.Proofs.Ytchkjiadnackaaa
open Go.RowKit

def bump (acc : List Int) (f c : Int) : List Int := acc.set (f - 1).toNat (acc.getD (f - 1).toNat 0 + c)
def tallyX (c : Int) : List Int → List Int → List Int
  | [], acc => acc
  | f :: fs, acc => tallyX c fs (bump acc f c)
def tallyFrom : List Ph → List Int → List Int
  | [], acc => acc
  | x :: l, acc => tallyFrom l (tallyX x.c x.f acc)
def tallyR (l : List Ph) : List Int := if goodPhs l then tallyFrom l (List.replicate 9 0) else []
theorem tallyX_step {c : Int} {l : List Int} {k : Nat} (h : k < l.length) (acc : List Int) : tallyX c (l.drop k) acc = tallyX c (l.drop (k + 1)) (bump acc l[k] c) := by
  rw [List.drop_eq_getElem_cons h]; rfl
theorem tally_step {l : List Ph} {k : Nat} (h : k < l.length) (acc : List Int) : tallyFrom (l.drop k) acc = tallyFrom (l.drop (k + 1)) (tallyX l[k].c l[k].f acc) := by
  rw [List.drop_eq_getElem_cons h]; rfl
theorem bump_len (acc : List Int) (f c : Int) : (bump acc f c).length = acc.length := by simp [bump]
theorem tallyX_len (c : Int) : ∀ (l : List Int) (acc : List Int), (tallyX c l acc).length = acc.length
  | [], _ => rfl
  | f :: l, acc => by rw [tallyX, tallyX_len c l, bump_len]
theorem tallyFrom_len : ∀ (l : List Ph) (acc : List Int), (tallyFrom l acc).length = acc.length
  | [], _ => rfl
  | x :: l, acc => by rw [tallyFrom, tallyFrom_len l, tallyX_len]
theorem tallyR_len (l : List Ph) : (tallyR l).length ≤ 9 := by
  unfold tallyR
  split
  · rw [tallyFrom_len]; simp
  · simp
theorem tally_ph : ∀ {a b : List Ph} (s : List Int), a.map Ph.ph = b.map Ph.ph → tallyFrom a s = tallyFrom b s
  | [], [], _, _ => rfl
  | [], _ :: _, _, h => by simp at h
  | _ :: _, [], _, h => by simp at h
  | x :: a, y :: b, s, h => by
    simp only [List.map_cons, List.cons.injEq] at h
    have h1 := h.1; unfold Ph.ph at h1; injection h1 with h1 h2; injection h2 with h2 h3; injection h3 with h3 h4
    rw [tallyFrom, tallyFrom, h2, h3]; exact tally_ph _ h.2
theorem tallyR_ph {a b : List Ph} (h : a.map Ph.ph = b.map Ph.ph) : tallyR a = tallyR b := by unfold tallyR; rw [good_ph h, tally_ph _ h]

/-- Nine numbers, each at most m. -/
structure Nine (acc : List Int) (m : Nat) : Prop where
  len : acc.length = 9
  bd : ∀ i (h : i < acc.length), 0 ≤ acc[i] ∧ acc[i] ≤ 99 * (m : Int)
theorem nine_zero : Nine (List.replicate 9 0) 0 := ⟨rfl, fun i hi => by rw [List.getElem_replicate]; omega⟩
theorem Nine.bump {acc : List Int} {m : Nat} (h : Nine acc m) {n : Nat} (hn : n < 9) {c : Int} (hc : 1 ≤ c) (hc' : c ≤ 99) : Nine (Go.Proofs.Ytchkjiadnackaaa.bump acc ((n : Int) + 1) c) (m + 1) := by
  have e : ((n : Int) + 1 - 1).toNat = n := by omega
  refine ⟨by rw [bump_len, h.len], fun i hi => ?_⟩
  have hi' : i < acc.length := by rw [bump_len] at hi; exact hi
  have hb := h.bd i hi'
  have hnn := h.bd n (by rw [h.len]; exact hn)
  unfold Go.Proofs.Ytchkjiadnackaaa.bump
  simp only [e, List.getElem_set]
  split
  · rw [List.getD_eq_getElem?_getD, List.getElem?_eq_getElem (by rw [h.len]; exact hn), Option.getD_some]
    omega
  · omega
theorem bump_eq {acc : List Int} {m : Nat} (h : Nine acc m) {n : Nat} (hn : n < 9) (c : Int) : encIs (bump acc ((n : Int) + 1) c) = (encIs acc).set n (.int .i64 (acc[n]'(by rw [h.len]; exact hn) + c)) := by
  have e : ((n : Int) + 1 - 1).toNat = n := by omega
  unfold bump encIs
  rw [e, List.getD_eq_getElem?_getD, List.getElem?_eq_getElem (by rw [h.len]; exact hn), Option.getD_some, List.map_set]
theorem rises_at {lo hi : Int} {l : List Int} (h : rises lo hi l = true) {i : Nat} (hi' : i < l.length) : lo ≤ l[i] ∧ l[i] ≤ hi := by
  rw [rises_eq, Bool.and_eq_true, List.all_eq_true] at h
  exact inR_iff.1 (h.2 _ (List.getElem_mem hi'))
theorem fsum_take_succ {l : List Ph} {k s : Nat} (h : k < l.length) (hs : s = fsum (l.take k)) : s + l[k].f.length = fsum (l.take (k + 1)) := by rw [fsum_take h, hs]

set_option maxHeartbeats 2000000 in
theorem implTally_any (A : Option Addr) (c : Nat) (l : List Ph) (w : World) (h : PhsR w w.heap.size A l) (hn : need l ≤ 1048576) :
    Calls Try.prog 19 #[.slice A l.length c] w fun e w' => ∃ A' c', e = .returned (.tuple #[.slice A' (tallyR l).length c', .bool (goodPhs l)]) ∧ OwnS w' w.heap.size 3 1 A' (tallyR l).length (encIs (tallyR l)) ∧ Below w.heap.size w w' := by
  have hl := h.slc.big
  have hrd := h.ph
  have hf : Hid (∀ i (hi : i < l.length), IntsR w w.heap.size l[i].A l[i].f) := fun i hi => h.f hi
  cases hg : goodPhs l
  · have HG := Lib.hid hg; clear hg hrd
    have HF : Hid (tallyR l = []) := by unfold tallyR; rw [HG.out]; rfl
    go_enter Try.func19, Try.ntmps19
    go_wp2_with (go_at_call 32; refine (arePhrases_any A c l _ h).mono ?_; rw [HG.out]; rintro e w1 ⟨rfl, hb1⟩)
    go_ret2
    rw [HF.out]
    exact ⟨_, _, rfl, ⟨rfl, by simp, .inl ⟨rfl, rfl⟩⟩, hb1⟩
  · have h10 := good_len hg
    have HA : Hid (∀ i (hi : i < l.length), l[i].ok = true) := fun i hi => good_at hg hi
    have HF : Hid (tallyFrom (l.drop 0) (List.replicate 9 0) = tallyR l) := by unfold tallyR; rw [hg]; rfl
    have hft : Hid (∀ k, fsum (l.take k) ≤ 1048576) := fun k => by have := fsum_take_le l k; unfold need at hn; omega
    have HG := Lib.hid hg; clear hg
    have hmk : ∀ W : World, (Instr.makeSlice 36 (.int .i64 9) (.int .i64 9)).run Try.prog W = .ok (.slice (some ⟨W.heap.size, 0, none⟩) 9 9) (W.alloc (.cells #[.int .i64 0, .int .i64 0, .int .i64 0, .int .i64 0, .int .i64 0, .int .i64 0, .int .i64 0, .int .i64 0, .int .i64 0] 3)) := fun _ => by kernel_rfl
    go_enter Try.func19, Try.ntmps19
    go_wp2_with (go_at_call 32; refine (arePhrases_any A c l _ h).mono ?_; rw [HG.out]; rintro e w1 ⟨rfl, hb1⟩)
    have hbW := hb1.alloc hb1.size (.cells #[.int .i64 0, .int .i64 0, .int .i64 0, .int .i64 0, .int .i64 0, .int .i64 0, .int .i64 0, .int .i64 0, .int .i64 0] 3)
    have hlW := Lies.new w1 3 #[.int .i64 0, .int .i64 0, .int .i64 0, .int .i64 0, .int .i64 0, .int .i64 0, .int .i64 0, .int .i64 0, .int .i64 0]
    have hgW := hb1.size
    generalize w1.alloc (.cells #[.int .i64 0, .int .i64 0, .int .i64 0, .int .i64 0, .int .i64 0, .int .i64 0, .int .i64 0, .int .i64 0, .int .i64 0] 3) = W at hbW hlW ⊢
    generalize w1.heap.size = g at hlW hgW ⊢
    go_loopw [15] (fun i wr => ∃ (k s : Nat) (acc : List Int), k ≤ l.length ∧ i = .int .i64 k ∧ s ≤ 1048576 ∧ Hid (s = fsum (l.take k)) ∧ Hid (Nine acc s) ∧ Below w.heap.size w wr ∧ Hid (Lies wr g 3 (encIs acc)) ∧ Hid (tallyFrom (l.drop k) acc = tallyR l)) (fun i _ => l.length - (intOf i).toNat)
    case atStart => exact ⟨0, 0, List.replicate 9 0, Nat.zero_le _, rfl, by omega, rfl, nine_zero, hbW, hlW, HF⟩
    case round =>
      clear hb1 hbW hlW
      obtain ⟨k, s, acc, hk, rfl, hs, HS, HN, hbr, HL, HR⟩ := hrel
      by_cases hlt : k < l.length
      · obtain ⟨b, off, rfl, hb, hcell⟩ := hrd (by omega)
        obtain ⟨c0, c1, c2, c3⟩ := hcell k hlt
        have hx := hf.out k hlt
        obtain ⟨_, ⟨xc1, xc2⟩, hrise, _⟩ := Ph.bounds (HA.out k hlt)
        have HT : Hid (tallyFrom (l.drop k) acc = tallyFrom (l.drop (k + 1)) (tallyX l[k].c l[k].f acc)) := tally_step hlt _
        have HS1 : Hid (s + l[k].f.length = fsum (l.take (k + 1))) := fsum_take_succ hlt HS.out
        have hs1 : s + l[k].f.length ≤ 1048576 := by have := hft.out (k + 1); rw [← HS1.out] at this; exact this
        obtain ⟨x, hxe⟩ : ∃ x, x = l[k] := ⟨_, rfl⟩
        rw [← hxe] at c0 c1 c2 c3 xc1 xc2 hrise HT HS1 hs1 hx
        clear hxe hcell hrd
        have hrx := hx.ints
        have hxl := hx.big
        have HRI := Lib.hid hrise; clear hrise
        obtain ⟨q, rfl⟩ : ∃ q : Since w.heap.size w, wr = q.val := ⟨⟨wr, hbr⟩, rfl⟩
        go_wp2
        have hbV := q.below.alloc q.size (.cells #[.int .i64 x.s, .int .i64 x.c, .slice x.A x.f.length x.cap, .int .i64 x.p] 42)
        have hlV := Lies.new q.val 42 #[.int .i64 x.s, .int .i64 x.c, .slice x.A x.f.length x.cap, .int .i64 x.p]
        have hlG := HL.out.alloc (.cells #[.int .i64 x.s, .int .i64 x.c, .slice x.A x.f.length x.cap, .int .i64 x.p] 42)
        have hgl := HL.out.lt
        generalize q.val.alloc (.cells #[.int .i64 x.s, .int .i64 x.c, .slice x.A x.f.length x.cap, .int .i64 x.p] 42) = V at hbV hlV hlG ⊢
        generalize q.val.heap.size = gx at hlV hgl ⊢
        clear c0 c1 c2 c3 HL hbr
        go_loopw [8, 22] (fun _ jj wr => ∃ (j t : Nat) (acc' : List Int), j ≤ x.f.length ∧ jj = .int .i64 j ∧ t = s + j ∧ Hid (Nine acc' t) ∧ Below w.heap.size w wr ∧ Hid (Lies wr gx 42 x.enc) ∧ Hid (Lies wr g 3 (encIs acc')) ∧ Hid (tallyX x.c (x.f.drop j) acc' = tallyX x.c x.f acc)) (fun _ jj _ => x.f.length - (intOf jj).toNat)
        case atStart => exact ⟨0, s, acc, Nat.zero_le _, rfl, rfl, HN, hbV, hlV, hlG, rfl⟩
        case round =>
          clear hbV hlV hlG HN
          obtain ⟨j, t, acc', hj, rfl, ht, HN, hbr, HV, HL, HX⟩ := hrel
          by_cases hlj : j < x.f.length
          · obtain ⟨b', off', hA', hb', hcell'⟩ := hrx (by omega)
            obtain ⟨p, rfl⟩ : ∃ p : Since w.heap.size w, wr = p.val := ⟨⟨wr, hbr⟩, rfl⟩
            have d0 := hcell' j hlj
            have hfb := rises_at HRI.out hlj
            have HXS : Hid (tallyX x.c (x.f.drop j) acc' = tallyX x.c (x.f.drop (j + 1)) (bump acc' x.f[j] x.c)) := tallyX_step hlj _
            obtain ⟨n, hne⟩ : ∃ n : Nat, x.f[j] = (n : Int) + 1 := ⟨(x.f[j] - 1).toNat, by omega⟩
            rw [hne] at d0 hfb HXS
            have hn9 : n < 9 := by omega
            have HN1 : Hid (Nine (bump acc' ((n : Int) + 1) x.c) (t + 1)) := HN.out.bump hn9 xc1 xc2
            have HB1 : Hid (encIs (bump acc' ((n : Int) + 1) x.c) = (encIs acc').set n (.int .i64 (acc'[n]'(by rw [HN.out.len]; exact hn9) + x.c))) := bump_eq HN.out hn9 x.c
            have e0 : p.val.cell? ⟨g, n, none⟩ = some (.int .i64 (acc'[n]'(by rw [HN.out.len]; exact hn9))) := by
              rw [HL.out.cell]; unfold encIs; rw [List.getElem?_map, List.getElem?_eq_getElem (by rw [HN.out.len]; exact hn9)]; rfl
            have hv := HN.out.bd n (by rw [HN.out.len]; exact hn9)
            obtain ⟨v, hve⟩ : ∃ v, v = acc'[n]'(by rw [HN.out.len]; exact hn9) := ⟨_, rfl⟩
            rw [← hve] at e0 hv HB1
            obtain ⟨hv1, hv2⟩ := hv
            clear hve hne hcell' hfb hrx
            have f0 : p.val.frozen? ⟨g, n, none⟩ = false := HL.out.frozen n
            have e1 := HV.out.cell 1
            simp only [Ph.enc, List.getElem?_cons_zero, List.getElem?_cons_succ] at e1
            have HT2 := Lib.hid ht
            have hts : t ≤ 1048576 := by omega
            clear ht
            rw [hA']
            go_wp2
            go_region
            go_wp2
            go_roundw
            case rel =>
              refine ⟨j + 1, t + 1, _, by omega, by go_num, by have := HT2.out; omega, HN1, by go_grown, ?_, ?_, Lib.hid (by have h1 := HX.out; rw [HXS.out] at h1; exact h1)⟩
              · exact (HV.out.other (p := ⟨g, n, none⟩) (by simp only; omega) _)
              · have h1 := HL.out.set n (.int .i64 (v + x.c))
                rw [← HB1.out] at h1; exact h1
            case measure => simp [intOf]; omega
          · have HE : Hid (acc' = tallyX x.c x.f acc) := by
              have h1 := HX.out; rw [List.drop_eq_nil_of_le (by omega)] at h1; exact h1
            have hjl : j = x.f.length := by omega
            have HT2 : Hid (t = s + x.f.length) := by rw [ht, hjl]; rfl
            clear hrx ht hjl
            go_wp2
            go_roundw
            case rel => exact ⟨k + 1, s + x.f.length, acc', by omega, by go_num, hs1, HS1, by rw [← HT2.out]; exact HN, hbr, HL, Lib.hid (by have h1 := HR.out; rw [HT.out, ← HE.out] at h1; exact h1)⟩
            case measure => simp [intOf]; omega
      · have HE : Hid (acc = tallyR l) := by
          have h1 := HR.out; rw [List.drop_eq_nil_of_le (by omega)] at h1; exact h1
        clear hrd
        go_wp2
        go_ret2
        rw [← HE.out, HN.out.len]
        exact ⟨_, _, rfl, ⟨by simp [HN.out.len], by omega, .inr ⟨_, [], rfl, hgW, by simpa using HL.out⟩⟩, hbr⟩
set_option maxHeartbeats 2000000 in
theorem specTally_any (A : Option Addr) (c : Nat) (l : List Ph) (w : World) (h : PhsR w w.heap.size A l) (hn : need l ≤ 1048576) :
    Calls Try.prog 20 #[.slice A l.length c] w fun e w' => ∃ A' c', e = .returned (.tuple #[.slice A' (tallyR l).length c', .bool (goodPhs l)]) ∧ OwnS w' w.heap.size 3 1 A' (tallyR l).length (encIs (tallyR l)) ∧ Below w.heap.size w w' := by
  have hl := h.slc.big
  have hrd := h.ph
  have hf : Hid (∀ i (hi : i < l.length), IntsR w w.heap.size l[i].A l[i].f) := fun i hi => h.f hi
  cases hg : goodPhs l
  · have HG := Lib.hid hg; clear hg hrd
    have HF : Hid (tallyR l = []) := by unfold tallyR; rw [HG.out]; rfl
    go_enter Try.func20, Try.ntmps20
    go_wp2_with (go_at_call 28; refine (l30Good_any A c l _ h).mono ?_; rw [HG.out]; rintro e w1 ⟨rfl, hb1⟩)
    go_ret2
    rw [HF.out]
    exact ⟨_, _, rfl, ⟨rfl, by simp, .inr ⟨_, [], rfl, hb1.size, by simpa using Lies.new w1 3 #[]⟩⟩, hb1.alloc hb1.size _⟩
  · have h10 := good_len hg
    have HA : Hid (∀ i (hi : i < l.length), l[i].ok = true) := fun i hi => good_at hg hi
    have HF : Hid (tallyFrom (l.drop 0) (List.replicate 9 0) = tallyR l) := by unfold tallyR; rw [hg]; rfl
    have hft : Hid (∀ k, fsum (l.take k) ≤ 1048576) := fun k => by have := fsum_take_le l k; unfold need at hn; omega
    have HG := Lib.hid hg; clear hg
    have hmk : ∀ W : World, (Instr.makeSlice 36 (.int .i64 9) (.int .i64 9)).run Try.prog W = .ok (.slice (some ⟨W.heap.size, 0, none⟩) 9 9) (W.alloc (.cells #[.int .i64 0, .int .i64 0, .int .i64 0, .int .i64 0, .int .i64 0, .int .i64 0, .int .i64 0, .int .i64 0, .int .i64 0] 3)) := fun _ => by kernel_rfl
    go_enter Try.func20, Try.ntmps20
    go_wp2_with (go_at_call 28; refine (l30Good_any A c l _ h).mono ?_; rw [HG.out]; rintro e w1 ⟨rfl, hb1⟩)
    have hbW := hb1.alloc hb1.size (.cells #[.int .i64 0, .int .i64 0, .int .i64 0, .int .i64 0, .int .i64 0, .int .i64 0, .int .i64 0, .int .i64 0, .int .i64 0] 3)
    have hlW := Lies.new w1 3 #[.int .i64 0, .int .i64 0, .int .i64 0, .int .i64 0, .int .i64 0, .int .i64 0, .int .i64 0, .int .i64 0, .int .i64 0]
    have hgW := hb1.size
    generalize w1.alloc (.cells #[.int .i64 0, .int .i64 0, .int .i64 0, .int .i64 0, .int .i64 0, .int .i64 0, .int .i64 0, .int .i64 0, .int .i64 0] 3) = W at hbW hlW ⊢
    generalize w1.heap.size = g at hlW hgW ⊢
    go_loopw [5] (fun i wr => ∃ (k s : Nat) (acc : List Int), k ≤ l.length ∧ i = .int .i64 k ∧ s ≤ 1048576 ∧ Hid (s = fsum (l.take k)) ∧ Hid (Nine acc s) ∧ Below w.heap.size w wr ∧ Hid (Lies wr g 3 (encIs acc)) ∧ Hid (tallyFrom (l.drop k) acc = tallyR l)) (fun i _ => l.length - (intOf i).toNat)
    case atStart => exact ⟨0, 0, List.replicate 9 0, Nat.zero_le _, rfl, by omega, rfl, nine_zero, hbW, hlW, HF⟩
    case round =>
      clear hb1 hbW hlW
      obtain ⟨k, s, acc, hk, rfl, hs, HS, HN, hbr, HL, HR⟩ := hrel
      by_cases hlt : k < l.length
      · obtain ⟨b, off, rfl, hb, hcell⟩ := hrd (by omega)
        obtain ⟨c0, c1, c2, c3⟩ := hcell k hlt
        have hx := hf.out k hlt
        obtain ⟨_, ⟨xc1, xc2⟩, hrise, _⟩ := Ph.bounds (HA.out k hlt)
        have HT : Hid (tallyFrom (l.drop k) acc = tallyFrom (l.drop (k + 1)) (tallyX l[k].c l[k].f acc)) := tally_step hlt _
        have HS1 : Hid (s + l[k].f.length = fsum (l.take (k + 1))) := fsum_take_succ hlt HS.out
        have hs1 : s + l[k].f.length ≤ 1048576 := by have := hft.out (k + 1); rw [← HS1.out] at this; exact this
        obtain ⟨x, hxe⟩ : ∃ x, x = l[k] := ⟨_, rfl⟩
        rw [← hxe] at c0 c1 c2 c3 xc1 xc2 hrise HT HS1 hs1 hx
        clear hxe hcell hrd
        have hrx := hx.ints
        have hxl := hx.big
        have HRI := Lib.hid hrise; clear hrise
        obtain ⟨q, rfl⟩ : ∃ q : Since w.heap.size w, wr = q.val := ⟨⟨wr, hbr⟩, rfl⟩
        go_wp2
        have hbV := q.below
        have hlG := HL
        clear HL hbr
        go_loopw [6, 7] (fun jj _ wr => ∃ (j t : Nat) (acc' : List Int), j ≤ x.f.length ∧ jj = .int .i64 j ∧ t = s + j ∧ Hid (Nine acc' t) ∧ Below w.heap.size w wr ∧ Hid (Lies wr g 3 (encIs acc')) ∧ Hid (tallyX x.c (x.f.drop j) acc' = tallyX x.c x.f acc)) (fun jj _ _ => x.f.length - (intOf jj).toNat)
        case atStart => exact ⟨0, s, acc, Nat.zero_le _, rfl, rfl, HN, hbV, hlG, rfl⟩
        case round =>
          clear hbV hlG HN
          obtain ⟨j, t, acc', hj, rfl, ht, HN, hbr, HL, HX⟩ := hrel
          obtain ⟨p, rfl⟩ : ∃ p : Since w.heap.size w, wr = p.val := ⟨⟨wr, hbr⟩, rfl⟩
          by_cases hlj : j < x.f.length
          · obtain ⟨b', off', hA', hb', hcell'⟩ := hrx (by omega)
            have d0 := hcell' j hlj
            have hfb := rises_at HRI.out hlj
            have HXS : Hid (tallyX x.c (x.f.drop j) acc' = tallyX x.c (x.f.drop (j + 1)) (bump acc' x.f[j] x.c)) := tallyX_step hlj _
            obtain ⟨n, hne⟩ : ∃ n : Nat, x.f[j] = (n : Int) + 1 := ⟨(x.f[j] - 1).toNat, by omega⟩
            rw [hne] at d0 hfb HXS
            have hn9 : n < 9 := by omega
            have HN1 : Hid (Nine (bump acc' ((n : Int) + 1) x.c) (t + 1)) := HN.out.bump hn9 xc1 xc2
            have HB1 : Hid (encIs (bump acc' ((n : Int) + 1) x.c) = (encIs acc').set n (.int .i64 (acc'[n]'(by rw [HN.out.len]; exact hn9) + x.c))) := bump_eq HN.out hn9 x.c
            have e0 : p.val.cell? ⟨g, n, none⟩ = some (.int .i64 (acc'[n]'(by rw [HN.out.len]; exact hn9))) := by
              rw [HL.out.cell]; unfold encIs; rw [List.getElem?_map, List.getElem?_eq_getElem (by rw [HN.out.len]; exact hn9)]; rfl
            have hv := HN.out.bd n (by rw [HN.out.len]; exact hn9)
            obtain ⟨v, hve⟩ : ∃ v, v = acc'[n]'(by rw [HN.out.len]; exact hn9) := ⟨_, rfl⟩
            rw [← hve] at e0 hv HB1
            obtain ⟨hv1, hv2⟩ := hv
            clear hve hne hcell' hfb hrx
            have f0 : p.val.frozen? ⟨g, n, none⟩ = false := HL.out.frozen n
            have HT2 := Lib.hid ht
            have hts : t ≤ 1048576 := by omega
            clear ht
            simp only [hA'] at c2
            go_wp2
            go_region
            go_wp2
            go_roundw
            case rel =>
              refine ⟨j + 1, t + 1, _, by omega, by go_num, by have := HT2.out; omega, HN1, by go_grown, ?_, Lib.hid (by have h1 := HX.out; rw [HXS.out] at h1; exact h1)⟩
              · have h1 := HL.out.set n (.int .i64 (v + x.c))
                rw [← HB1.out] at h1; exact h1
            case measure => simp [intOf]; omega
          · have HE : Hid (acc' = tallyX x.c x.f acc) := by
              have h1 := HX.out; rw [List.drop_eq_nil_of_le (by omega)] at h1; exact h1
            have hjl : j = x.f.length := by omega
            have HT2 : Hid (t = s + x.f.length) := by rw [ht, hjl]; rfl
            clear hrx ht hjl
            go_wp2
            go_roundw
            case rel => exact ⟨k + 1, s + x.f.length, acc', by omega, by go_num, hs1, HS1, by rw [← HT2.out]; exact HN, hbr, HL, Lib.hid (by have h1 := HR.out; rw [HT.out, ← HE.out] at h1; exact h1)⟩
            case measure => simp [intOf]; omega
      · have HE : Hid (acc = tallyR l) := by
          have h1 := HR.out; rw [List.drop_eq_nil_of_le (by omega)] at h1; exact h1
        clear hrd
        go_wp2
        go_ret2
        rw [← HE.out, HN.out.len]
        exact ⟨_, _, rfl, ⟨by simp [HN.out.len], by omega, .inr ⟨_, [], rfl, hgW, by simpa using HL.out⟩⟩, hbr⟩
end Go.Proofs.Ytchkjiadnackaaa

/- The law FnExactFaultTally: the walk. -/
namespace Go.Proofs.Ytchkjiadnackaaa
open Go.RowKit

theorem OwnPhs.left {w w' : World} {G lo : Nat} {m : List Ph} (h : OwnPhs w G m []) (hlo : lo ≤ G) (hb : Below w.heap.size w w') : Left w' lo w.heap.size G 0 m :=
  ⟨⟨[], [], rfl, by have := (h.below hb).lies; simpa using this⟩, ⟨hlo, h.lies.lt⟩, fun x hx => by
    obtain ⟨g, hA, hG, hL⟩ := h.fs x hx
    exact ⟨g, hA, hG, hL.lt, hL.below hb hL.lt⟩, h.nd⟩
theorem Mid.ints {lo hi : Nat} {a b : World} (h : Mid lo hi a b) {A : Option Addr} {l : List Int} (hl : IntsR a lo A l) (hlo : lo ≤ a.heap.size) : IntsR b lo A l := hl.below (h.below hlo)

end Go.Proofs.Ytchkjiadnackaaa

/- The law FnExactSortPhrases: the walk. -/
namespace Go.Proofs.Ytchkjiadnackaaa
open Go.RowKit

theorem RowPh.mid {lo hi : Nat} {a b : World} (h : Mid lo hi a b) {v : Value} {l : List Ph} (hr : RowPh a hi v l) : RowPh b hi v l := by
  have hkeep : ∀ g, hi ≤ g → g < a.heap.size → b.heap[g]? = a.heap[g]? := fun g h1 h2 => h.block g h2 (.inr h1)
  obtain ⟨⟨hl, hrow⟩, hfs, hnd⟩ := hr
  refine ⟨⟨hl, ?_⟩, fun x hx => ?_, hnd⟩
  · rcases hrow with h0 | ⟨g, cap, cur, hv, hg, hh, h1⟩
    · exact .inl h0
    · have hlt : g < a.heap.size := by
        rcases Nat.lt_or_ge g a.heap.size with hlt | hge
        · exact hlt
        · rw [Array.getElem?_eq_none hge] at hh; cases hh
      exact .inr ⟨g, cap, cur, hv, hg, (hkeep g hg hlt).trans hh, h1⟩
  · exact h.own (hfs x hx) (Nat.le_refl _)

theorem eqRow_yes {A B : Option Addr} {c d : Nat} {l m : List Ph} {R : List PhD} {w : World} (hA : PhsR w w.heap.size A l) (hB : PhsR w w.heap.size B m) (hl : l.map Ph.ph = R) (hm : m.map Ph.ph = R) :
    Calls Try.prog 9 #[.slice A l.length c, .slice B m.length d] w fun e w' => e = .returned (.bool true) ∧ Below w.heap.size w w' := by
  have := eqPhraseS_any A B c d l m w hA hB
  rwa [show samePhs l m = true by unfold samePhs; rw [hl, hm]; exact decide_eq_true rfl] at this

set_option maxHeartbeats 2000000 in
theorem lawSortPhrases_any (A : Option Addr) (c : Nat) (l : List Ph) (w : World) (h : PhsR w w.heap.size A l) :
    Calls Try.prog 3 #[.slice A l.length c] w fun e w' => e = .returned (.bool true) ∧ Below w.heap.size w w' := by
  by_cases hbig : (need l : Int) ≤ 1048576
  · have HS : lessen 1048576 (need l) = 1048576 - need l := by unfold lessen; rw [if_pos (by omega)]
    have HZ := Lib.hid HS; clear HS
    have hbn : need l ≤ 1048576 := by omega
    have HBN : Hid (∀ m : List Ph, m.map Ph.ph = l.map Ph.ph → need m ≤ 1048576) := fun m hm => by rw [need_ph hm]; exact hbn
    obtain ⟨R, hR⟩ : ∃ R, R = sortA (l.map Ph.ph) := ⟨_, rfl⟩
    have HRN : Hid (∀ m : List Ph, m.map Ph.ph = R.1 → need m ≤ 1048576) := fun m hm => need_goodD hm (by rw [hR]; exact sortA_good _)
    have cS : ∀ (m : List Ph) (_ : m.map Ph.ph = l.map Ph.ph) A c W, PhsR W W.heap.size A m → Calls Try.prog 6 #[.slice A m.length c] W (GivesRow W R) := fun m hm A c W h => by
      have := specSort_any A c m W h
      rw [hm, ← hR] at this; exact this
    have cI : ∀ (m : List Ph) (_ : m.map Ph.ph = l.map Ph.ph) A c W, PhsR W W.heap.size A m → Calls Try.prog 8 #[.slice A m.length c] W (GivesRow W R) := fun m hm A c W h => by
      have := implSort_any A c m W h
      rw [hm, ← hR] at this; exact this
    clear hR
    obtain ⟨vs, ok⟩ := R
    have hbo : (ok != ok) = false := by simp
    go_enter Try.func3, Try.ntmps3
    go_wp2_with fail
    refine (szPhraseS_any A c l _ _ (by omega) (by omega) h).mono ?_
    rintro e w0 ⟨rfl, k0⟩
    rw [HZ.out]
    go_wp2_with fail
    refine (toPhraseS_any A c l _ (h.then k0) hbn).mono ?_
    rintro e w1 ⟨G1, m1, rfl, hg1, hm1, ho1, hb1⟩
    have HM1 := Lib.hid hm1; clear hm1
    have k1 := bthen k0 hb1
    go_wp2_with fail
    refine (cS m1 HM1.out _ _ _ (ho1.phs HM1.out hbn)).mono ?_
    rintro e w2 ⟨A2, c2, r2, rfl, h2, o2, hb2⟩
    have HP2 := Lib.hid h2; clear h2
    have k2 := bthen k1 hb2
    go_wp2_with fail
    refine (toPhraseS_any A c l _ (h.then k2) hbn).mono ?_
    rintro e w3 ⟨G3, m3, rfl, hg3, hm3, ho3, hb3⟩
    have HM3 := Lib.hid hm3; clear hm3
    have k3 := bthen k2 hb3
    go_wp2_with fail
    refine (cI m3 HM3.out _ _ _ (ho3.phs HM3.out hbn)).mono ?_
    rintro e w4 ⟨A4, c4, r4, rfl, h4, o4, hb4⟩
    have HP4 := Lib.hid h4; clear h4
    have k4 := bthen k3 hb4
    have i2 : PhsR w4 w2.heap.size A2 r2 := o2.reads.below (hb3.trans (hb4.mono hb3.size))
    have hs4 : w2.heap.size ≤ w4.heap.size := Nat.le_trans hb3.size hb4.size
    go_wp2_with fail
    refine (eqRow_yes o4.reads (i2.mono hs4) HP4.out HP2.out).mono ?_
    rintro e w5 ⟨rfl, hb5⟩
    have k5 := bthen k4 hb5
    have j2 : PhsR w5 w2.heap.size A2 r2 := i2.below (hb5.mono hs4)
    have p4 := o4.below hb5
    go_wp2_with fail
    refine (toPhraseS_any A c l _ (h.then k5) hbn).mono ?_
    rintro e w6 ⟨G6, m6, rfl, hg6, hm6, ho6, hb6⟩
    have HM6 := Lib.hid hm6; clear hm6
    have k6 := bthen k5 hb6
    have b36 := bthen (bthen hb4 hb5) hb6
    go_wp2_with fail
    refine (eqPhraseS_any _ _ _ _ m3 m6 _ ((ho3.phs HM3.out hbn).then b36) (ho6.phs HM6.out hbn)).mono ?_
    rintro e w7 ⟨rfl, hb7⟩
    have k7 := bthen k6 hb7
    have L7 := ho3.left hg3 (bthen b36 hb7)
    have b57 := bthen hb6 hb7
    have q4 := p4.below b57
    have s57 : w2.heap.size ≤ w5.heap.size := Nat.le_trans hs4 hb5.size
    have q2 : PhsR w7 w2.heap.size A2 r2 := j2.below (b57.mono s57)
    have s57' : w2.heap.size ≤ w7.heap.size := Nat.le_trans s57 b57.size
    rw [samePhs_of HM3.out HM6.out]
    go_wp2_with fail
    refine (markPhraseS_any w2.heap.size w3.heap.size G3 _ 1 m3 _ (by omega) (by omega) (HBN.out m3 HM3.out) L7).mono ?_
    rintro e w8 ⟨⟨k81, rfl, hk81⟩, M8⟩
    have k8 : Below w.heap.size w w8 := k7.trans ((M8.below s57').mono k2.size)
    have r4' := RowPh.mid M8 q4
    have r2' : PhsR w8 w2.heap.size A2 r2 := q2.below (M8.below s57')
    have s8 : w2.heap.size ≤ w8.heap.size := Nat.le_trans s57' M8.size
    have hneg : (k81 < 0) = False := eq_false (by omega)
    go_wp2_with fail
    refine (eqRow_yes r4'.reads (r2'.mono s8) HP4.out HP2.out).mono ?_
    rintro e w9 ⟨rfl, hb9⟩
    have k9 := bthen k8 hb9
    have t4 := r4'.below hb9
    have s9 : w3.heap.size ≤ w9.heap.size := Nat.le_trans (Nat.le_trans hb4.size hb5.size) (Nat.le_trans b57.size (Nat.le_trans M8.size hb9.size))
    go_wp2_with fail
    refine (markRow_any _ _ _ 1 r4 _ (by omega) (by omega) (HRN.out r4 HP4.out) t4).mono ?_
    rintro e w10 ⟨rfl, u4, sz10, hb10⟩
    have k10 : Below w.heap.size w w10 := k9.trans (hb10.mono k3.size)
    have hnn : ¬ (1 + ((3 * r4.length + fsum r4 : Nat) : Int) < 0) := by omega
    have HUR : Hid (PhsR w10 w10.heap.size A4 (marked 1 r4)) := RowPh.reads (c := c4) (by have := u4; rwa [← marked_len 1 r4] at this)
    go_wp2_with fail
    refine (heldRow_any _ _ 1 r4 _ (by omega) (by omega) (HRN.out r4 HP4.out) HUR.out).mono ?_
    rintro e w11 ⟨rfl, hb11⟩
    have k11 := bthen k10 hb11
    have HV := Lib.hid (HUR.out.then hb11)
    go_wp2_with fail
    refine (toPhraseS_any A c l _ (h.then k11) hbn).mono ?_
    rintro e w12 ⟨G12, m12, rfl, hg12, hm12, ho12, hb12⟩
    have HM12 := Lib.hid hm12; clear hm12
    have k12 := bthen k11 hb12
    go_wp2_with fail
    refine (cI m12 HM12.out _ _ _ (ho12.phs HM12.out hbn)).mono ?_
    rintro e w13 ⟨A13, c13, r13, rfl, h13, o13, hb13⟩
    have HP13 := Lib.hid h13; clear h13
    have k13 := bthen k12 hb13
    have b11 := bthen hb12 hb13
    have x4 := Lib.hid (HV.out.then b11)
    have t2 : PhsR w9 w2.heap.size A2 r2 := r2'.below (hb9.mono s8)
    have u2 : PhsR w10 w2.heap.size A2 r2 := t2.below (hb10.mono hb3.size)
    have s10 : w2.heap.size ≤ w10.heap.size := Nat.le_trans hb3.size (Nat.le_trans s9 sz10)
    have x2 : PhsR w13 w2.heap.size A2 r2 := u2.below ((bthen hb11 b11).mono s10)
    have s13 : w2.heap.size ≤ w13.heap.size := Nat.le_trans s10 (bthen hb11 b11).size
    go_wp2_with fail
    refine (eqRow_yes o13.reads (x2.mono s13) HP13.out HP2.out).mono ?_
    rintro e w14 ⟨rfl, hb14⟩
    have k14 := bthen k13 hb14
    have y4 := Lib.hid (x4.out.then hb14)
    go_wp2_with fail
    refine (heldRow_any _ _ 1 r4 _ (by omega) (by omega) (HRN.out r4 HP4.out) y4.out).mono ?_
    rintro e w15 ⟨rfl, hb15⟩
    have k15 := bthen k14 hb15
    go_wp2_with fail
    go_ret
    exact ⟨rfl, k15⟩
  · have HS : lessen 1048576 (need l) = -1 := by unfold lessen; rw [if_neg (by omega)]
    have HZ := Lib.hid HS; clear HS
    go_enter Try.func3, Try.ntmps3
    go_wp2_with fail
    refine (szPhraseS_any A c l _ _ (by omega) (by omega) h).mono ?_
    rintro e w0 ⟨rfl, hb0⟩
    rw [HZ.out]
    go_wp2_with fail
    go_ret
    exact ⟨rfl, hb0⟩
end Go.Proofs.Ytchkjiadnackaaa

/- Arguments that came in: from the reader's own reading to plain words (no program in sight). -/
namespace Go.Proofs.Ytchkjiadnackaaa
open Go.ChangeShapes Go.WideShapes Go.ChangeAt Go.RowKit Go.Deep

section
variable {H : Type} {enc : TypeId × Value → H} {P : Program} {w : World} {base : Nat} {spare : Nat → Bool} {held : Bool}

/-- The fields of a struct of one-cell fields: place by place. -/
theorem trod_fields {e : TypeId} {fs : Array Field} {n : Nat} {cs : List Value} {x : DataW H × List MemPlace} (he : P.underlying e = some (.struct fs)) (hone : oneCellFields P fs = true) (hC : P.cellsOf e = fs.size)
    (h : DataW.trod enc P w base spare held n e cs = some x) :
    cs.length = fs.size ∧ ∀ (j : Nat) (f : Field), fs[j]? = some f → ∃ v m y, cs[j]? = some v ∧ DataW.trod enc P w base spare held m f.type [v] = some y := by
  obtain ⟨ys, n', _, _, hlen, hyl, hf⟩ := DataW.trod_struct he h
  refine ⟨by rw [hlen, hC], fun j f hj => ?_⟩
  obtain ⟨ho, hk⟩ := hone_of hone j f hj
  have hjl : j < fs.size := (Array.getElem?_eq_some_iff.1 hj).1
  have hjc : j < cs.length := by rw [hlen, hC]; exact hjl
  have h1 := hf j f hj
  rw [ho, hk, List.drop_eq_getElem_cons hjc] at h1
  have hys : ys[j]? = some (ys[j]'(by omega)) := List.getElem?_eq_getElem (by omega)
  exact ⟨_, n', _, List.getElem?_eq_getElem hjc, h1.trans hys⟩

theorem cell_spot {w : World} {a : Addr} {u : Value} (h : w.cell? a = some u) : ∃ b off, a = ⟨b, off, none⟩ ∧ b < w.heap.size := by
  obtain ⟨b, off, sp⟩ := a
  cases sp with
  | none => exact ⟨b, off, rfl, block_lt_of_cell h⟩
  | some s =>
    simp only [World.cell?] at h
    split at h <;> simp_all

/-- A slice that came in, whatever its elements: k cells each; what the reader knows of an element's cells. -/
theorem trod_slc {t e : TypeId} {k n : Nat} {v : Value} {x : DataW H × List MemPlace} (ht : P.underlying t = some (.slice e)) (hk : P.cellsOf e = k) (hk0 : 0 < k)
    (h : DataW.trod enc P w base spare held n t [v] = some x) :
    ∃ A len cap, v = .slice A len cap ∧ ∃ css : List (List Value), css.length = len ∧ SlcR w w.heap.size k A len css.flatten ∧
      ∀ cs ∈ css, cs.length = k ∧ ∃ m y, DataW.trod enc P w base spare held m e cs = some y := by
  rcases open_slice ht h with ⟨h0, _⟩ | ⟨a, len, cap, m, n', D, Pl, hcs, hb, hl, hm, hmm, hx, hi⟩
  · have : v = .slice none 0 0 := by simpa using h0
    exact ⟨none, 0, 0, this, [], rfl, SlcR.nil _ _ _ _, by simp⟩
  · have hv : v = .slice (some a) len cap := by simpa using hcs
    have hle : len ≤ m := by rw [hmm]; split <;> omega
    rw [hk] at hi
    have hsel : ∀ i : Nat, ∃ cs : List Value, cs.length = k ∧ (i < len → (∀ j u, cs[j]? = some u → w.cell? ((a.add (i * k)).add j) = some u) ∧ ∃ m y, DataW.trod enc P w base spare held m e cs = some y) := fun i => by
      by_cases hlt : i < len
      · obtain ⟨cs', hc, ht'⟩ := hi i (by omega)
        obtain ⟨_, hcl, hat⟩ := World.cells?_some hc
        exact ⟨cs', hcl, fun _ => ⟨fun j u hu => by
          have hj : j < cs'.length := (List.getElem?_eq_some_iff.1 hu).1
          rw [hat j (by omega), hu], _, _, ht'⟩⟩
      · exact ⟨List.replicate k undef, by simp, fun h => absurd h hlt⟩
    obtain ⟨f, hf⟩ := Classical.axiomOfChoice hsel
    have hfk : ∀ i, (f i).length = k := fun i => (hf i).1
    have hlen := flat_len f k hfk (List.range len)
    rw [List.length_range, List.flatMap_def] at hlen
    refine ⟨some a, len, cap, hv, (List.range len).map f, by simp, ⟨hlen, by unfold maxLen at hm; omega, fun hpos => ?_⟩, ?_⟩
    · have h00 : (f 0)[0]? = some ((f 0)[0]'(by rw [hfk]; exact hk0)) := List.getElem?_eq_getElem _
      have hc0 := ((hf 0).2 hpos).1 0 _ h00
      rw [Nat.zero_mul] at hc0
      obtain ⟨b, off, rfl, hb'⟩ := cell_spot (a := a) hc0
      refine ⟨b, off, rfl, hb', fun j u hu => ?_⟩
      have hj : j < len * k := by rw [← hlen]; exact (List.getElem?_eq_some_iff.1 hu).1
      have hi' : j / k < len := Nat.div_lt_of_lt_mul (by rw [Nat.mul_comm]; exact hj)
      have hr : j % k < k := Nat.mod_lt _ hk0
      have e : j = j / k * k + j % k := by rw [Nat.mul_comm]; exact (Nat.div_add_mod j k).symm
      have hat := flat_at f k hfk (List.range len) (j / k) (by simpa using hi') (j % k) hr
      rw [List.flatMap_def, ← e, List.getElem_range, hu] at hat
      have hc := ((hf (j / k)).2 hi').1 (j % k) u hat.symm
      have hadd : ((⟨b, off, none⟩ : Addr).add (j / k * k)).add (j % k) = ⟨b, off + j, none⟩ := by
        unfold Addr.add
        by_cases h1 : j / k * k = 0 <;> by_cases h2 : j % k = 0 <;> simp [h1, h2] <;> omega
      rw [hadd] at hc
      exact hc
    · intro cs hcs
      obtain ⟨i, hi, rfl⟩ := List.mem_map.1 hcs
      exact ⟨hfk i, ((hf i).2 (List.mem_range.1 hi)).2⟩
end

/-- A list of lists of cells, each the image of something. -/
theorem lift_list {α : Type} (enc : α → List Value) : ∀ css : List (List Value), (∀ cs ∈ css, ∃ x, cs = enc x) → ∃ l : List α, css.flatten = l.flatMap enc ∧ l.length = css.length
  | [], _ => ⟨[], rfl, rfl⟩
  | cs :: css, h => by
    obtain ⟨x, hx⟩ := h cs (by simp)
    obtain ⟨l, hl, hn⟩ := lift_list enc css (fun c hc => h c (by simp [hc]))
    exact ⟨x :: l, by simp [hl, hx], by simp [hn]⟩

section
variable {H : Type} {enc : TypeId × Value → H} {P : Program} {w : World} {base : Nat} {spare : Nat → Bool} {held : Bool}
/-- A field that is an int. -/
theorem trod_i64 {t : TypeId} {n : Nat} {v : Value} {x : DataW H × List MemPlace} (ht : P.underlying t = some (.int .i64)) (h : DataW.trod enc P w base spare held n t [v] = some x) :
    ∃ m : Int, v = .int .i64 m ∧ -9223372036854775808 ≤ m ∧ m ≤ 9223372036854775807 := by
  obtain ⟨m, e, _, hw⟩ := DataW.trod_int ht h
  refine ⟨m, by simpa using e, ?_⟩
  simp [Lit.wf, IntKind.min, IntKind.max, IntKind.signed, IntKind.bits] at hw
  omega
end

/-- Structs of ints alone. -/
def intFields (P : Program) (fs : Array Field) : Bool := fs.all fun f => match P.underlying f.type with | some (.int .i64) => true | _ => false
theorem intFields_at {P : Program} {fs : Array Field} (h : intFields P fs = true) (j : Nat) (f : Field) (hj : fs[j]? = some f) : P.underlying f.type = some (.int .i64) := by
  have := (Array.all_eq_true_iff_forall_mem.1 h) f (Array.mem_of_getElem? hj)
  split at this
  · assumption
  · cases this

section
variable {H : Type} {enc : TypeId × Value → H} {P : Program} {w : World} {base : Nat} {spare : Nat → Bool} {held : Bool}
theorem trod_int_cells {e : TypeId} {fs : Array Field} {n k : Nat} {cs : List Value} {x : DataW H × List MemPlace} (he : P.underlying e = some (.struct fs)) (hone : oneCellFields P fs = true) (hC : P.cellsOf e = fs.size) (hint : intFields P fs = true) (hk : fs.size = k)
    (h : DataW.trod enc P w base spare held n e cs = some x) : ∃ ns : List Int, ns.length = k ∧ cs = ns.map (Value.int .i64) := by
  obtain ⟨hl, hf⟩ := trod_fields he hone hC h
  subst hk
  refine ⟨cs.map fun v => match v with | .int _ m => m | _ => 0, by simpa using hl, List.ext_getElem? fun j => ?_⟩
  rw [List.getElem?_map, List.getElem?_map]
  by_cases hj : j < cs.length
  · obtain ⟨v, m, y, hv, hy⟩ := hf j (fs[j]'(by omega)) (Array.getElem?_eq_getElem (by omega))
    obtain ⟨z, rfl, _, _⟩ := trod_i64 (intFields_at hint j _ (Array.getElem?_eq_getElem (by omega))) hy
    rw [hv]; rfl
  · rw [List.getElem?_eq_none (by omega)]; rfl

/-- A struct of ints, by value. -/
theorem open_int_struct {t : TypeId} {fs : Array Field} {k b0 : Nat} {r : Reach} {v : Value} {d : DataW H} {p : List MemPlace} (he : P.underlying t = some (.struct fs)) (hone : oneCellFields P fs = true) (hC : P.cellsOf t = fs.size) (hint : intFields P fs = true) (hk : fs.size = k)
    (hv : Value.okWide P w r b0 t v) (h : DataW.Trod enc P w base spare held t v d p) : ∃ ns : List Int, ns.length = k ∧ v = .agg (ns.map (Value.int .i64)).toArray := by
  obtain ⟨cs, rfl, hsz⟩ := okWide_struct he hv
  obtain ⟨n, hn⟩ := h
  obtain ⟨ns, hl, hc⟩ := trod_int_cells he hone hC hint hk hn
  refine ⟨ns, hl, ?_⟩
  rw [← hc]; simp [Value.cells]

/-- A slice of structs of ints. -/
theorem open_int_structs {α : Type} (en : α → List Value) {t e : TypeId} {fs : Array Field} {k b0 : Nat} {r : Reach} {v : Value} {d : DataW H} {p : List MemPlace} (ht : P.underlying t = some (.slice e)) (he : P.underlying e = some (.struct fs)) (hone : oneCellFields P fs = true) (hC : P.cellsOf e = fs.size) (hint : intFields P fs = true) (hk : fs.size = k) (hk0 : 0 < k)
    (hen : ∀ ns : List Int, ns.length = k → ∃ x, ns.map (Value.int .i64) = en x)
    (hv : Value.okWide P w r b0 t v) (h : DataW.Trod enc P w base spare held t v d p) : ∃ A c, ∃ l : List α, v = .slice A l.length c ∧ SlcR w w.heap.size k A l.length (l.flatMap en) := by
  obtain ⟨A, len, cap, rfl⟩ := okWide_slice ht hv
  obtain ⟨n, hn⟩ := h
  obtain ⟨A', len', cap', e', css, hl, hS, hcs⟩ := trod_slc ht (hC.trans hk) hk0 hn
  injection e' with e1 e2 e3
  subst e1; subst e2; subst e3
  obtain ⟨l, hfl, hll⟩ := lift_list en css (fun cs hc => by
    obtain ⟨hlen, m, y, hy⟩ := hcs cs hc
    obtain ⟨ns, hn', hc'⟩ := trod_int_cells he hone hC hint hk hy
    obtain ⟨x, hx⟩ := hen ns hn'
    exact ⟨x, by rw [hc', hx]⟩)
  refine ⟨A, cap, l, by rw [hll, hl], ?_⟩
  rw [hll, hl, ← hfl]; exact hS
end
theorem i64_lo {n : Int} (h : (Lit.int .i64 n).wf = true) : -9223372036854775808 ≤ n := by
  simp [Lit.wf, IntKind.min, IntKind.max, IntKind.signed, IntKind.bits] at h; omega
theorem i64_hi {n : Int} (h : (Lit.int .i64 n).wf = true) : n ≤ 9223372036854775807 := by
  simp [Lit.wf, IntKind.min, IntKind.max, IntKind.signed, IntKind.bits] at h; omega
end Go.Proofs.Ytchkjiadnackaaa

/- Arguments that came in: slices of ints, phrases. -/
namespace Go.Proofs.Ytchkjiadnackaaa
open Go.ChangeShapes Go.WideShapes Go.ChangeAt Go.RowKit Go.Deep
section
variable {H : Type} {enc : TypeId × Value → H} {P : Program} {w : World} {base : Nat} {spare : Nat → Bool} {held : Bool}
theorem flat_ints (l : List Int) : l.flatMap encI = encIs l := by
  induction l with
  | nil => rfl
  | cons x l ih => simp [encI, encIs] at ih ⊢; exact ih
theorem trod_ints {t e : TypeId} {n : Nat} {v : Value} {x : DataW H × List MemPlace} (ht : P.underlying t = some (.slice e)) (he : P.underlying e = some (.int .i64)) (hk : P.cellsOf e = 1)
    (h : DataW.trod enc P w base spare held n t [v] = some x) : ∃ A c, ∃ l : List Int, v = .slice A l.length c ∧ IntsR w w.heap.size A l := by
  obtain ⟨A, len, cap, hv, css, hl, hS, hcs⟩ := trod_slc ht hk (by omega) h
  obtain ⟨l, hfl, hll⟩ := lift_list encI css (fun cs hc => by
    obtain ⟨hlen, m, y, hy⟩ := hcs cs hc
    match cs, hlen with
    | [u], _ =>
      obtain ⟨z, rfl, _, _⟩ := trod_i64 he hy
      exact ⟨z, rfl⟩)
  refine ⟨A, cap, l, by rw [hll, hl]; exact hv, ?_⟩
  unfold IntsR
  rw [hll, hl, ← flat_ints, ← hfl]; exact hS
end
section
variable {H : Type} {enc : TypeId × Value → H} {w : World} {base : Nat} {spare : Nat → Bool} {held : Bool}
theorem trod_phrase {n : Nat} {cs : List Value} {x : DataW H × List MemPlace} (h : DataW.trod enc Try.prog w base spare held n 46 cs = some x) : ∃ p : Ph, cs = p.enc ∧ IntsR w w.heap.size p.A p.f := by
  obtain ⟨hl, hf⟩ := trod_fields Try.underlying46 (by kernel_rfl) (by kernel_rfl) h
  match cs, hl with
  | [v0, v1, v2, v3], _ =>
    obtain ⟨u0, _, _, e0, t0⟩ := hf 0 _ rfl
    obtain ⟨u1, _, _, e1, t1⟩ := hf 1 _ rfl
    obtain ⟨u2, _, _, e2, t2⟩ := hf 2 _ rfl
    obtain ⟨u3, _, _, e3, t3⟩ := hf 3 _ rfl
    simp only [List.getElem?_cons_zero, List.getElem?_cons_succ, Option.some.injEq] at e0 e1 e2 e3
    subst e0; subst e1; subst e2; subst e3
    obtain ⟨s, rfl, _, _⟩ := trod_i64 Try.underlying3 t0
    obtain ⟨c, rfl, _, _⟩ := trod_i64 Try.underlying3 t1
    obtain ⟨p, rfl, _, _⟩ := trod_i64 Try.underlying3 t3
    obtain ⟨A, cap, l, rfl, hr⟩ := trod_ints Try.underlying36 Try.underlying3 (by kernel_rfl) t2
    exact ⟨⟨s, c, A, l, cap, p⟩, rfl, hr⟩
set_option maxRecDepth 20000 in
theorem open_phrase {b0 : Nat} {r : Reach} {v : Value} {d : DataW H} {q : List MemPlace} (hv : Value.okWide Try.prog w r b0 46 v) (h : DataW.Trod enc Try.prog w base spare held 46 v d q) : ∃ p : Ph, v = p.val ∧ IntsR w w.heap.size p.A p.f := by
  obtain ⟨cs, rfl, _⟩ := okWide_struct Try.underlying46 hv
  obtain ⟨n, hn⟩ := h
  obtain ⟨p, hp, hr⟩ := trod_phrase hn
  refine ⟨p, ?_, hr⟩
  have hp' : cs.toList = p.enc := by simpa [Value.cells] using hp
  unfold Ph.val
  rw [show cs = cs.toList.toArray from rfl, hp']; rfl
end
end Go.Proofs.Ytchkjiadnackaaa

/- Arguments that came in: lists of phrases. -/
namespace Go.Proofs.Ytchkjiadnackaaa
open Go.ChangeShapes Go.WideShapes Go.ChangeAt Go.RowKit Go.Deep

theorem lift_list_p {α : Type} (enc : α → List Value) (p : α → Prop) : ∀ css : List (List Value), (∀ cs ∈ css, ∃ x, cs = enc x ∧ p x) → ∃ l : List α, css.flatten = l.flatMap enc ∧ l.length = css.length ∧ ∀ x ∈ l, p x
  | [], _ => ⟨[], rfl, rfl, fun x h => by cases h⟩
  | cs :: css, h => by
    obtain ⟨x, hx, hp⟩ := h cs (by simp)
    obtain ⟨l, hl, hn, hl'⟩ := lift_list_p enc p css (fun c hc => h c (by simp [hc]))
    refine ⟨x :: l, by simp [hl, hx], by simp [hn], fun y hy => ?_⟩
    rcases List.mem_cons.1 hy with rfl | hy
    · exact hp
    · exact hl' y hy
section
variable {H : Type} {enc : TypeId × Value → H} {w : World} {base : Nat} {spare : Nat → Bool} {held : Bool}
set_option maxRecDepth 20000 in
theorem open_phrases {b0 : Nat} {r : Reach} {v : Value} {d : DataW H} {q : List MemPlace} (hv : Value.okWide Try.prog w r b0 22 v) (h : DataW.Trod enc Try.prog w base spare held 22 v d q) :
    ∃ A c, ∃ l : List Ph, v = .slice A l.length c ∧ PhsR w w.heap.size A l := by
  obtain ⟨A, len, cap, rfl⟩ := okWide_slice Try.underlying22 hv
  obtain ⟨n, hn⟩ := h
  obtain ⟨A', len', cap', e', css, hl, hS, hcs⟩ := trod_slc (k := 4) Try.underlying22 (by kernel_rfl) (by omega) hn
  injection e' with e1 e2 e3
  subst e1; subst e2; subst e3
  obtain ⟨l, hfl, hll, hp⟩ := lift_list_p Ph.enc (fun p => IntsR w w.heap.size p.A p.f) css (fun cs hc => by
    obtain ⟨_, m, y, hy⟩ := hcs cs hc
    exact trod_phrase hy)
  refine ⟨A, cap, l, by rw [hll, hl], ?_, hp⟩
  rw [hll, hl, ← hfl]; exact hS
end
end Go.Proofs.Ytchkjiadnackaaa
