/- Marks on a row of phrases of the call's own, and their reading. -/
import Derived.Test.YtjdedcalbcnkmaaPhrOwn
import Derived.Test.YtjdedcalbcnkmaaPhrMark
namespace Go.Proofs.Ytjdedcalbcnkmaa
open Go.RowKit

theorem flat_set' {o : Nat} {u : Value} : ∀ {l : List Ph} {i : Nat} {y : Ph} (h : i < l.length), o < 4 → y.enc = l[i].enc.set o u → (l.flatMap Ph.enc).set (i * 4 + o) u = (l.set i y).flatMap Ph.enc
  | x :: l, 0, y, _, ho, he => by
    simp only [List.getElem_cons_zero] at he
    simp only [Nat.zero_mul, Nat.zero_add, List.flatMap_cons, List.set_cons_zero]
    rw [List.set_append_left _ _ (by rw [Ph.enc_len]; exact ho), ← he]
  | x :: l, i + 1, y, h, ho, he => by
    simp only [List.flatMap_cons, List.set_cons_succ]
    have e : (i + 1) * 4 + o = x.enc.length + (i * 4 + o) := by rw [Ph.enc_len]; omega
    rw [e, List.set_append_right _ _ (by omega), Nat.add_sub_cancel_left, flat_set' (l := l) (i := i) (y := y) (by simpa using h) ho (by simpa using he)]

theorem set_A {l : List Ph} {i : Nat} {y : Ph} (h : i < l.length) (hy : y.A = l[i].A) : (l.set i y).map Ph.A = l.map Ph.A := by
  rw [List.map_set, hy]
  have : l[i].A = (l.map Ph.A)[i]'(by simpa using h) := by simp
  rw [this, List.set_getElem_self]
theorem nd_map (m : List Ph) : (m.Pairwise fun x y => x.A = none ∨ x.A ≠ y.A) ↔ (m.map Ph.A).Pairwise fun a b => a = none ∨ a ≠ b := by rw [List.pairwise_map]
theorem mem_set_or {l : List Ph} {i : Nat} {x y : Ph} (h : x ∈ l.set i y) : x = y ∨ ∃ j, ∃ hj : j < l.length, j ≠ i ∧ x = l[j] := by
  obtain ⟨j, hj, e⟩ := List.getElem_of_mem h
  rw [List.getElem_set] at e
  split at e
  · exact .inl e.symm
  · exact .inr ⟨j, by simpa using hj, by omega, e.symm⟩

/-- A field of element i is stored. -/
theorem RowPh.cell {w : World} {B g cap n : Nat} {l : List Ph} {i o : Nat} {u : Value} {y : Ph} (h : RowPh w B (.slice (some ⟨g, 0, none⟩) n cap) l) (hn : n = l.length) (hi : i < l.length) (ho : o < 4)
    (hA : y.A = l[i].A) (hf : y.f = l[i].f) (he : y.enc = l[i].enc.set o u) : RowPh (w.setCell ⟨g, i * 4 + o, none⟩ u) B (.slice (some ⟨g, 0, none⟩) n cap) (l.set i y) := by
  subst hn
  obtain ⟨h1, h2⟩ := h.row.stored (i * 4 + o) u
  rw [flat_set' hi ho he] at h1
  refine ⟨by simpa using h1, fun x hx => ?_, ?_⟩
  · rcases mem_set_or hx with rfl | ⟨j, hj, _, rfl⟩
    · rw [hA, hf]; exact (h.fs _ (List.getElem_mem hi)).grown h.row ne_types h2
    · exact (h.fs _ (List.getElem_mem hj)).grown h.row ne_types h2
  · rw [nd_map, set_A hi hA, ← nd_map]; exact h.nd
theorem RowPh.cell0 {w : World} {B g cap n : Nat} {l : List Ph} {i : Nat} {u : Value} {y : Ph} (h : RowPh w B (.slice (some ⟨g, 0, none⟩) n cap) l) (hn : n = l.length) (hi : i < l.length)
    (hA : y.A = l[i].A) (hf : y.f = l[i].f) (he : y.enc = l[i].enc.set 0 u) : RowPh (w.setCell ⟨g, i * 4, none⟩ u) B (.slice (some ⟨g, 0, none⟩) n cap) (l.set i y) := by
  have := h.cell (o := 0) (u := u) (y := y) hn hi (by omega) hA hf he
  simpa using this

/-- The faults of element i are written anew. -/
theorem RowPh.faults {w w' : World} {B c n : Nat} {A : Option Addr} {l : List Ph} {i : Nat} (h : RowPh w B (.slice A n c) l) (hn : n = l.length) (hi : i < l.length) (f' : List Int) (hl : f'.length = l[i].f.length)
    (hO : OwnS w' B 3 1 l[i].A f'.length (encIs f')) (hg : w.grownBy w' (l[i].A.map (·.block))) : RowPh w' B (.slice A n c) (l.set i { l[i] with f := f' }) := by
  subst hn
  have he : (l.set i { l[i] with f := f' }).flatMap Ph.enc = l.flatMap Ph.enc := by
    have h0 : i * 4 < (l.flatMap Ph.enc).length := by rw [flat_len Ph.enc 4 Ph.enc_len]; omega
    have h1 := flat_set' (o := 0) (u := .int .i64 l[i].s) (y := { l[i] with f := f' }) hi (by omega) (by simp [Ph.enc, hl])
    rw [← h1, Nat.add_zero]
    have h2 : (l.flatMap Ph.enc)[i * 4]? = some (.int .i64 l[i].s) := by
      have := flat_at Ph.enc 4 Ph.enc_len l i hi 0 (by omega)
      rw [Nat.add_zero] at this; rw [this]; rfl
    obtain ⟨h3, h4⟩ := List.getElem?_eq_some_iff.1 h2
    rw [← h4]; exact List.set_getElem_self h3
  have hfi := h.fs _ (List.getElem_mem hi)
  have hrow : w'.ownsRow B 27 4 (.slice A l.length c) l.length (l.flatMap Ph.enc) := by
    refine h.row.kept hg ?_
    obtain ⟨_, _, ⟨h0, _⟩ | ⟨gf, rest, hA, _, hLf⟩⟩ := hfi
    · rw [h0]
      obtain ⟨_, ⟨h1, _⟩ | ⟨g, cap, cur, h1, _⟩⟩ := h.row
      · left; injection h1 with e1; rw [e1]; rfl
      · right; injection h1 with e1; rw [e1]; simp [Value.ownBlock]
    · rw [hA]
      exact .inr fun e => ownsRow_far h.row hLf ne_types (by simpa using e.symm)
  refine ⟨by rw [List.length_set, he]; exact hrow, fun x hx => ?_, ?_⟩
  · rcases mem_set_or hx with rfl | ⟨j, hj, hne, rfl⟩
    · exact hO
    · obtain ⟨hl1, hn1, h0 | ⟨gf, rest, hA, hgB, hLf⟩⟩ := h.fs _ (List.getElem_mem hj)
      · exact ⟨hl1, hn1, .inl h0⟩
      · refine ⟨hl1, hn1, .inr ⟨gf, rest, hA, hgB, hLf.kept hg ?_⟩⟩
        intro e
        have hdiff : l[j].A = none ∨ l[i].A = none ∨ l[j].A ≠ l[i].A := by
          rcases Nat.lt_or_ge j i with hlt | hge
          · rcases List.pairwise_iff_getElem.1 h.nd j i hj hi hlt with h1 | h1
            · exact .inl h1
            · exact .inr (.inr h1)
          · rcases List.pairwise_iff_getElem.1 h.nd i j hi hj (by omega) with h1 | h1
            · exact .inr (.inl h1)
            · exact .inr (.inr (Ne.symm h1))
        rcases hdiff with h1 | h1 | h1
        · rw [hA] at h1; cases h1
        · rw [h1] at e; cases e
        · obtain ⟨_, _, ⟨h2, _⟩ | ⟨g2, _, h2, _, _⟩⟩ := hfi
          · rw [h2] at e; cases e
          · rw [h2] at e
            simp only [Option.map_some, Option.some.injEq] at e
            exact h1 (by rw [hA, h2, e])
  · rw [nd_map, set_A (y := { l[i] with f := f' }) hi rfl, ← nd_map]; exact h.nd

/-- The marked list. -/
def markPh (k : Int) (x : Ph) : Ph := { x with s := k, c := k + 1, f := ramp (k + 2) x.f.length, p := k + 2 + x.f.length }
def marked : Int → List Ph → List Ph
  | _, [] => []
  | k, x :: l => markPh k x :: marked (k + 3 + x.f.length) l
theorem marked_len : ∀ (k : Int) (l : List Ph), (marked k l).length = l.length
  | _, [] => rfl
  | k, x :: l => by simp [marked, marked_len (k + 3 + x.f.length) l]
theorem marked_at : ∀ (k : Int) (l : List Ph) (j : Nat) (h : j < l.length) (h' : j < (marked k l).length), (marked k l)[j] = markPh (k + (3 * j + fsum (l.take j) : Nat)) l[j]
  | k, x :: l, 0, _, _ => by simp [marked, fsum]
  | k, x :: l, j + 1, h, h' => by
    simp only [marked, List.getElem_cons_succ]
    rw [marked_at (k + 3 + x.f.length) l j (by simpa using h) (by simpa [marked] using h')]
    congr 1
    simp only [List.take_succ_cons, fsum]; omega
theorem mix_set {M l : List Ph} {j : Nat} (hM : M.length = l.length) (h : j < l.length) (h' : j < M.length) : (M.take j ++ l.drop j).set j M[j] = M.take (j + 1) ++ l.drop (j + 1) := by
  have e : (M.take j).length = j := by rw [List.length_take]; omega
  rw [List.set_append_right _ _ (by omega), e, Nat.sub_self, List.drop_eq_getElem_cons h, List.set_cons_zero, List.take_succ_eq_append_getElem h', List.append_assoc, List.singleton_append]
theorem mix_at {M l : List Ph} {j : Nat} (hM : M.length = l.length) (h : j < l.length) (h' : j < (M.take j ++ l.drop j).length) : (M.take j ++ l.drop j)[j] = l[j] := by
  have e : (M.take j).length = j := by rw [List.length_take]; omega
  rw [List.getElem_append_right (by omega)]
  simp [e]

set_option maxRecDepth 100000 in
set_option maxHeartbeats 4000000 in
theorem markRow_any (B : Nat) (A : Option Addr) (c : Nat) (k0 : Int) (l : List Ph) (w : World) (hk : 0 ≤ k0) (hk' : k0 ≤ 1000) (hn : need l ≤ 1048576) (h : RowPh w B (.slice A l.length c) l) :
    Calls Try.prog 28 #[.slice A l.length c, .int .i64 k0] w fun e w' => e = .returned (.int .i64 (k0 + (3 * l.length + fsum l : Nat))) ∧ RowPh w' B (.slice A l.length c) (marked k0 l) ∧ w.heap.size ≤ w'.heap.size ∧ Below B w w' := by
  have hlen : l.length ≤ 1048576 := by unfold need at hn; omega
  have hft : Hid (∀ k, fsum (l.take k) ≤ 1048576) := fun k => by have := fsum_take_le l k; unfold need at hn; omega
  go_enter Try.func28, Try.ntmps28
  go_wp2
  go_loopw [1, 5] (fun kk i wr => ∃ (j s : Nat), j ≤ l.length ∧ i = .int .i64 j ∧ kk = .int .i64 (k0 + (3 * j + s : Nat)) ∧ s ≤ 1048576 ∧ Hid (s = fsum (l.take j)) ∧ Hid (RowPh wr B (.slice A l.length c) ((marked k0 l).take j ++ l.drop j)) ∧ w.heap.size ≤ wr.heap.size ∧ Hid (Below B w wr)) (fun _ i _ => l.length - (intOf i).toNat)
  case atStart => exact ⟨0, 0, Nat.zero_le _, rfl, congrArg _ (by simp), Nat.zero_le _, rfl, h, Nat.le_refl _, Below.refl _ _⟩
  case round =>
    obtain ⟨j, s, hj, rfl, rfl, hs, HS, HR, hsz, HBe⟩ := hrel
    by_cases hlt : j < l.length
    · have HN : Hid (s + l[j].f.length = fsum (l.take (j + 1))) := by unfold Hid; rw [fsum_take hlt, HS.out]
      have hs1 : s + l[j].f.length ≤ 1048576 := by have := hft.out (j + 1); rw [← HN.out] at this; exact this
      have hmixl : ((marked k0 l).take j ++ l.drop j).length = l.length := by simp [marked_len]; omega
      have hjm : j < ((marked k0 l).take j ++ l.drop j).length := by omega
      have HMA : Hid (((marked k0 l).take j ++ l.drop j)[j] = l[j]) := mix_at (marked_len k0 l) hlt hjm
      have HFIN : Hid (((marked k0 l).take j ++ l.drop j).set j (markPh (k0 + (3 * j + s : Nat)) l[j]) = (marked k0 l).take (j + 1) ++ l.drop (j + 1)) := by
        have h1 : j < (marked k0 l).length := by rw [marked_len]; exact hlt
        have h2 := mix_set (marked_len k0 l) hlt h1
        rw [marked_at k0 l j hlt h1, ← HS.out] at h2
        exact h2
      obtain ⟨m, hme⟩ : ∃ m, m = (marked k0 l).take j ++ l.drop j := ⟨_, rfl⟩
      obtain ⟨g, rfl⟩ : ∃ g, A = some ⟨g, 0, none⟩ := by
        obtain ⟨_, h0 | ⟨g, cap, cur, hv, _⟩⟩ := HR.out.row
        · have := h0.2; omega
        · injection hv with e1 e2 e3; exact ⟨g, e1⟩
      have HR := HR.out
      simp only [← hme] at HR HFIN hjm hmixl
      have HMA2 : m[j]'hjm = l[j] := by have := HMA.out; simp only [← hme] at this; exact this
      obtain ⟨x, hxe⟩ : ∃ x, x = l[j] := ⟨_, rfl⟩
      rw [← hxe] at HN hs1 HFIN HMA2
      clear hxe HMA hme
      have HRr : wr.ownsRow B 27 4 (.slice (some ⟨g, 0, none⟩) l.length c) l.length (m.flatMap Ph.enc) := by have := HR.row; rwa [hmixl] at this
      have at5 : ∀ o (ho : o < 4) u, (x.enc)[o]? = some u → wr.cell? ⟨g, j * 4 + o, none⟩ = some u := fun o ho u hu => by
        rw [HRr.cellAt _ (by omega), flat_at Ph.enc 4 Ph.enc_len m j hjm o ho, HMA2]; exact hu
      have c0 : wr.cell? ⟨g, j * 4, none⟩ = some (.int .i64 x.s) := at5 0 (by omega) _ rfl
      have c1 := at5 1 (by omega) _ rfl
      have c2 := at5 2 (by omega) _ rfl
      have f0 : wr.frozen? ⟨g, j * 4, none⟩ = false := HRr.frozenAt _
      have f1 : wr.frozen? ⟨g, j * 4 + 1, none⟩ = false := HRr.frozenAt _
      have hgB : B ≤ g := (HRr.lt g rfl).1
      obtain ⟨kj, hkj⟩ : ∃ kj : Int, kj = k0 + ((3 * j + s : Nat) : Int) := ⟨_, rfl⟩
      have HR1 := HR.cell0 (u := .int .i64 kj) (y := { x with s := kj }) hmixl.symm hjm (by rw [HMA2]) (by rw [HMA2]) (by rw [HMA2]; rfl)
      have hj1 : j < (m.set j { x with s := kj }).length := by simpa using hjm
      have HR2 := HR1.cell (o := 1) (u := .int .i64 (kj + 1)) (y := { x with s := kj, c := kj + 1 }) (by simp [hmixl]) hj1 (by omega) (by simp) (by simp) (by simp [Ph.enc])
      rw [List.set_set] at HR2
      have HR3 := Lib.hid HR2
      have hfrom : w.heap.size ≤ ((wr.setCell ⟨g, j * 4, none⟩ (.int .i64 kj)).setCell ⟨g, j * 4 + 1, none⟩ (.int .i64 (kj + 1))).heap.size := by simpa using hsz
      have HBe3 : Hid (Below B w ((wr.setCell ⟨g, j * 4, none⟩ (.int .i64 kj)).setCell ⟨g, j * 4 + 1, none⟩ (.int .i64 (kj + 1)))) := (HBe.out.setCell (p := ⟨g, j * 4, none⟩) hgB _).setCell (p := ⟨g, j * 4 + 1, none⟩) hgB _
      clear HR HR1 HR2 HRr at5 hsz HBe
      have hkb : 0 ≤ kj ∧ kj ≤ 10000000 := by omega
      obtain ⟨hk1, hk2⟩ := hkb
      simp only [← hkj] at HFIN ⊢
      have HKJ := Lib.hid hkj; clear hkj
      go_wp2_with fail
      clear c0 c1 c2 f0 f1
      generalize ((wr.setCell ⟨g, j * 4, none⟩ (.int .i64 kj)).setCell ⟨g, j * 4 + 1, none⟩ (.int .i64 (kj + 1))) = W at HR3 hfrom HBe3 ⊢
      have hj2 : j < (m.set j { x with s := kj, c := kj + 1 }).length := by simpa using hjm
      have hO := HR3.out.fs _ (List.getElem_mem hj2)
      simp only [List.getElem_set_self] at hO
      refine (markIntS_any x.A x.cap x.f.length B (kj + 1 + 1) (encIs x.f) W (by omega) (by omega) (by omega) hO).mono ?_
      rintro e w1 ⟨rfl, hO1, hgr⟩
      have HR4 := HR3.out.faults (by simp [hmixl]) hj2 (ramp (kj + 1 + 1) x.f.length) (by simp [ramp_len]) (by simp only [List.getElem_set_self, ramp_len]; exact hO1) (by simp only [List.getElem_set_self]; exact hgr)
      simp only [List.getElem_set_self, List.set_set] at HR4
      have hBA : ∀ gg, x.A.map (·.block) = some gg → B ≤ gg := fun gg e => by
        cases hA : x.A with
        | none => rw [hA] at e; cases e
        | some a => rw [hA] at e; simp only [Option.map_some, Option.some.injEq] at e; rw [← e]; exact (hO.lt_ hA).1
      have hBe4 := Lib.hid (HBe3.out.grown hgr (Nat.le_trans hgB (Nat.le_of_lt (HR3.out.row.lt g rfl).2)) hBA)
      have hsz1 : w.heap.size ≤ w1.heap.size := Nat.le_trans hfrom hgr.size
      have hj4 : j < (m.set j { s := kj, c := kj + 1, A := x.A, f := ramp (kj + 1 + 1) x.f.length, cap := x.cap, p := x.p }).length := by simpa using hjm
      have HRr4 : w1.ownsRow B 27 4 (.slice (some ⟨g, 0, none⟩) l.length c) l.length ((m.set j { s := kj, c := kj + 1, A := x.A, f := ramp (kj + 1 + 1) x.f.length, cap := x.cap, p := x.p }).flatMap Ph.enc) := by have := HR4.row; rwa [List.length_set, hmixl] at this
      have c3 : w1.cell? ⟨g, j * 4 + 3, none⟩ = some (.int .i64 x.p) := by
        rw [HRr4.cellAt _ (by omega), flat_at Ph.enc 4 Ph.enc_len _ j hj4 3 (by omega)]; simp [Ph.enc]
      have f3 : w1.frozen? ⟨g, j * 4 + 3, none⟩ = false := HRr4.frozenAt _
      have HR5 := HR4.cell (o := 3) (u := .int .i64 (kj + 1 + 1 + x.f.length)) (y := { s := kj, c := kj + 1, A := x.A, f := ramp (kj + 1 + 1) x.f.length, cap := x.cap, p := kj + 1 + 1 + x.f.length }) (by simp [hmixl]) hj4 (by omega) (by simp) (by simp) (by simp [Ph.enc])
      rw [List.set_set] at HR5
      have HR6 := Lib.hid HR5
      clear HR3 HR4 HR5 hO hO1 HRr4 hBA hgr
      go_wp2
      go_roundw
      case rel =>
        refine ⟨j + 1, s + x.f.length, by omega, by go_num, congrArg _ (by have := HKJ.out; omega), by omega, HN.out, ?_, by simpa using hsz1, hBe4.out.setCell (p := ⟨g, j * 4 + 3, none⟩) hgB _⟩
        have h1 := HR6.out
        have e1 : markPh kj x = { s := kj, c := kj + 1, A := x.A, f := ramp (kj + 1 + 1) x.f.length, cap := x.cap, p := kj + 1 + 1 + x.f.length } := by
          have a1 : kj + 2 = kj + 1 + 1 := by omega
          unfold markPh; rw [a1]
        rw [← e1, HFIN.out] at h1
        exact h1
      case measure => simp [intOf]; omega
    · have HJ : Hid ((marked k0 l).take j ++ l.drop j = marked k0 l) := by
        rw [Hid, List.drop_eq_nil_of_le (by omega), List.take_of_length_le (by rw [marked_len]; omega), List.append_nil]
      have HK : Hid (k0 + (3 * (j : Int) + (s : Int)) = k0 + (3 * l.length + fsum l : Nat)) := by
        have h1 := HS.out
        rw [List.take_of_length_le (by omega)] at h1
        unfold Hid; omega
      go_wp2
      go_ret
      exact ⟨by rw [← HK.out]; rfl, by rw [← HJ.out]; exact HR.out, hsz, HBe.out⟩

set_option maxRecDepth 100000 in
set_option maxHeartbeats 4000000 in
theorem heldRow_any (A : Option Addr) (c : Nat) (k0 : Int) (l : List Ph) (w : World) (hk : 0 ≤ k0) (hk' : k0 ≤ 1000) (hn : need l ≤ 1048576) (h : PhsR w w.heap.size A (marked k0 l)) :
    Calls Try.prog 33 #[.slice A l.length c, .int .i64 k0] w fun e w' => e = .returned (.int .i64 (k0 + (3 * l.length + fsum l : Nat))) ∧ Below w.heap.size w w' := by
  have hlen : l.length ≤ 1048576 := by unfold need at hn; omega
  have hft : Hid (∀ k, fsum (l.take k) ≤ 1048576) := fun k => by have := fsum_take_le l k; unfold need at hn; omega
  have hrd := h.ph
  have hml := marked_len k0 l
  have hfi : Hid (∀ i (hi : i < (marked k0 l).length), IntsR w w.heap.size (marked k0 l)[i].A (marked k0 l)[i].f) := fun i hi => h.f hi
  clear h
  go_enter Try.func33, Try.ntmps33
  go_wp2
  go_loopw [1, 5] (fun kk i wr => ∃ (j s : Nat), j ≤ l.length ∧ i = .int .i64 j ∧ kk = .int .i64 (k0 + (3 * j + s : Nat)) ∧ s ≤ 1048576 ∧ Hid (s = fsum (l.take j)) ∧ (∃ q : Since w.heap.size w, wr = q.val)) (fun _ i _ => l.length - (intOf i).toNat)
  case atStart => exact ⟨0, 0, Nat.zero_le _, rfl, congrArg _ (by simp), Nat.zero_le _, rfl, ⟨Since.start _ _, rfl⟩⟩
  case round =>
    obtain ⟨j, s, hj, rfl, rfl, hs, HS, ⟨q, rfl⟩⟩ := hrel
    by_cases hlt : j < l.length
    · have HN : Hid (s + l[j].f.length = fsum (l.take (j + 1))) := by unfold Hid; rw [fsum_take hlt, HS.out]
      have hs1 : s + l[j].f.length ≤ 1048576 := by have := hft.out (j + 1); rw [← HN.out] at this; exact this
      have hjm : j < (marked k0 l).length := by omega
      have hma := marked_at k0 l j hlt hjm
      rw [← HS.out] at hma
      obtain ⟨b, off, rfl, hb, hcell⟩ := hrd (by omega)
      obtain ⟨c0, c1, c2, c3⟩ := hcell j hjm
      have hx : IntsR w w.heap.size (marked k0 l)[j].A (marked k0 l)[j].f := hfi.out j hjm
      rw [hma] at c0 c1 c2 c3 hx
      obtain ⟨x, hxe⟩ : ∃ x, x = l[j] := ⟨_, rfl⟩
      rw [← hxe] at HN hs1 c0 c1 c2 c3 hx
      obtain ⟨kj, hkj⟩ : ∃ kj : Int, kj = k0 + ((3 * j + s : Nat) : Int) := ⟨_, rfl⟩
      have hkb : 0 ≤ kj ∧ kj ≤ 10000000 := by omega
      obtain ⟨hk1, hk2⟩ := hkb
      simp only [← hkj] at c0 c1 c2 c3 hx ⊢
      have HKJ := Lib.hid hkj; clear hkj
      simp only [markPh, ramp_len] at c0 c1 c2 c3 hx
      have e2 : kj + 2 = kj + 1 + 1 := by omega
      rw [e2] at c3 hx
      have hx' : Hid (∀ p : Since w.heap.size w, IntsR p.val p.val.heap.size x.A (ramp (kj + 1 + 1) x.f.length)) := fun p => SlcR.up hx p.below (Nat.le_refl _)
      clear hxe hcell hrd hma hx e2
      go_wp2_with fail
      refine (heldIntS_any x.A x.cap x.f.length (kj + 1 + 1) _ (by omega) (by omega) (by omega) (hx'.out q)).mono ?_
      rintro e w1 ⟨rfl, hb1⟩
      obtain ⟨q1, hq1⟩ : ∃ q1 : Since w.heap.size w, w1 = q1.val := ⟨q.go (Nat.le_refl _) hb1, rfl⟩
      subst hq1
      have hneg : decide (kj + 1 + 1 + (x.f.length : Int) < 0) = false := decide_eq_false (by omega)
      go_wp2
      go_roundw
      case rel => exact ⟨j + 1, s + x.f.length, by omega, by go_num, congrArg _ (by have := HKJ.out; omega), by omega, HN.out, ⟨q1, rfl⟩⟩
      case measure => simp [intOf]; omega
    · have HK : Hid (k0 + (3 * (j : Int) + (s : Int)) = k0 + (3 * l.length + fsum l : Nat)) := by
        have h1 := HS.out
        rw [List.take_of_length_le (by omega)] at h1
        unfold Hid; omega
      clear hrd
      go_wp2
      go_ret
      exact ⟨by rw [← HK.out]; rfl, q.below⟩
end Go.Proofs.Ytjdedcalbcnkmaa
