/- The text of a tray, in the reference and in the program. -/
import Derived.Test.YtdiojhjkcholiaaDoorOffIn
import Derived.Test.YtdiojhjkcholiaaDoorItoa
namespace Go.Proofs.YtdiojhjkcholiaaDoor
open Go.RowKit

abbrev isKind (k : Int) : Outing → Bool := fun o => decide (o.k = k)
def trT (c o : ByteArray) : ByteArray := c ++ ⟨#[32, 105, 110, 32]⟩ ++ o ++ ⟨#[32, 111, 117, 116]⟩
abbrev numT (n : Int) : ByteArray := ⟨(Lib.itoa n).toArray⟩
/-- The text of the tray of a kind. -/
def trayTx (x : Off) (kd : Int) : ByteArray := trT (numT (x.t.getD (trayIx x.t kd).toNat default).c) (numT (outSum (isKind kd) x.o))
def trayT (x : Off) (kd : Int) : ByteArray := if goodOff x && hasTray x.t kd then trayTx x kd else ⟨#[]⟩
theorem idxFrom_ge {α : Type} (f : α → Bool) : ∀ (l : List α) (k : Nat) (i : Nat), idxFrom f k l = (i : Int) → k ≤ i ∧ ∃ h : i - k < l.length, f l[i - k] = true
  | [], k, i, h => by simp [idxFrom] at h
  | x :: l, k, i, h => by
    rw [idxFrom] at h
    split at h
    · rename_i hx
      obtain rfl : k = i := by omega
      exact ⟨Nat.le_refl _, by simp, by simpa using hx⟩
    · obtain ⟨h1, h2, h3⟩ := idxFrom_ge f l (k + 1) i h
      refine ⟨by omega, by simp; omega, ?_⟩
      have e : i - k = (i - (k + 1)) + 1 := by omega
      simp only [e, List.getElem_cons_succ]
      exact h3
theorem trayIx_at {ts : List Tray} {kd : Int} {i : Nat} (h : trayIx ts kd = i) : ∃ hi : i < ts.length, ts[i].k = kd := by
  obtain ⟨_, h2, h3⟩ := idxFrom_ge _ ts 0 i h
  simp only [Nat.sub_zero] at h2 h3
  exact ⟨h2, of_decide_eq_true h3⟩
theorem trayIx_nat {ts : List Tray} {kd : Int} (h : 0 ≤ trayIx ts kd) : ∃ i : Nat, trayIx ts kd = i := ⟨(trayIx ts kd).toNat, by omega⟩

set_option maxRecDepth 100000 in
set_option maxHeartbeats 2000000 in
theorem l32Text_any (x : Off) (i : Nat) (kd : Int) (w : World) (h : OffR w w.heap.size x) (G : Good x) (hi : i < x.t.length) (hk : x.t[i].k = kd) :
    Calls Tryd.prog 32 #[x.val, .int .i64 i] w fun e w' => e = .returned (.string (trT (numT x.t[i].c) (numT (outSum (isKind kd) x.o)))) ∧ Below w.heap.size w w' := by
  have hb0 := (Below.refl w.heap.size w).alloc (Nat.le_refl _) (.cells #[.slice x.TA x.t.length x.tc, .slice x.OA x.o.length x.oc, .int .i64 x.got, .int .i64 x.sold, .int .i64 x.missed] 32)
  have hS := OffS.of (x := x) (Lies.new w 32 #[.slice x.TA x.t.length x.tc, .slice x.OA x.o.length x.oc, .int .i64 x.got, .int .i64 x.sold, .int .i64 x.missed])
  have hR := h.up hb0 (Nat.le_refl _)
  have HO := Lib.hid G.oall
  have ol := G.ol
  have tl := G.tl
  have htb := (Tray.bounds (G.tall i hi)).2
  have hob := outFrom_bd (isKind kd) x.t x.o 0 G.oall
  change 0 ≤ outSum (isKind kd) x.o ∧ outSum (isKind kd) x.o ≤ _ at hob
  have HF : Hid (outFrom (isKind kd) 0 (x.o.drop 0) = outSum (isKind kd) x.o) := rfl
  have HT : Hid (trT (numT x.t[i].c) (numT (outSum (isKind kd) x.o)) = numT x.t[i].c ++ ⟨#[32, 105, 110, 32]⟩ ++ numT (outSum (isKind kd) x.o) ++ ⟨#[32, 111, 117, 116]⟩) := rfl
  obtain ⟨tr, htr⟩ : ∃ tr, x.t[i] = tr := ⟨_, rfl⟩
  rw [htr] at hk htb HT ⊢
  go_enter Tryd.func32, Tryd.ntmps32
  go_wp2
  generalize w.alloc (.cells #[.slice x.TA x.t.length x.tc, .slice x.OA x.o.length x.oc, .int .i64 x.got, .int .i64 x.sold, .int .i64 x.missed] 32) = W at hb0 hS hR ⊢
  obtain ⟨s0, s1, s2, s3, s4⟩ := hS
  obtain ⟨bt, ot, hTA, _, htc⟩ := hR.ts.el (by omega)
  obtain ⟨t0, t1⟩ := htc i hi
  have hro := hR.os.el
  simp only [hTA] at s0
  rw [htr] at t0 t1
  clear htc hTA htr
  subst hk
  obtain ⟨htb1, htb2⟩ := htb
  obtain ⟨hob1, hob2⟩ := hob
  have hz0 : (0 : Int) ≤ (i : Int) := by omega
  have hii : (i : Int) < (x.t.length : Int) := by omega
  go_loopw [5, 6] (fun s k wr => ∃ (j : Nat) (u : Int), j ≤ x.o.length ∧ k = .int .i64 j ∧ s = .int .i64 u ∧ (0 ≤ u ∧ u ≤ 9999 * (j : Int)) ∧ (∃ q : Since W.heap.size W, wr = q.val) ∧ Hid (outFrom (isKind tr.k) u (x.o.drop j) = outSum (isKind tr.k) x.o)) (fun _ k _ => x.o.length - (intOf k).toNat)
  case atStart => exact ⟨0, 0, Nat.zero_le _, rfl, rfl, by omega, ⟨Since.start _ _, rfl⟩, HF⟩
  case round =>
    obtain ⟨j, u, hj, rfl, rfl, ⟨u0, u1⟩, ⟨p, rfl⟩, HU⟩ := hrel
    by_cases hlj : j < x.o.length
    · obtain ⟨b, off, hA, hb, hcell⟩ := hro (by omega)
      obtain ⟨e0, e1, e2⟩ := hcell j hlj
      obtain ⟨_, _, x1, x2⟩ := Outing.bounds (HO.out j hlj)
      have HS : Hid (outFrom (isKind tr.k) u (x.o.drop j) = outFrom (isKind tr.k) (if isKind tr.k x.o[j] then u + x.o[j].c else u) (x.o.drop (j + 1))) := out_step (f := isKind tr.k) hlj u
      obtain ⟨r, hre⟩ : ∃ r, r = x.o[j] := ⟨_, rfl⟩
      rw [← hre] at e0 e1 e2 HS x1 x2
      simp only [hA] at s1
      clear hre hcell hro hA
      by_cases hz : r.k = tr.k
      · have hv : (r.k == tr.k) = true := by simp [hz]
        have HE : Hid (outFrom (isKind tr.k) (u + r.c) (x.o.drop (j + 1)) = outSum (isKind tr.k) x.o) := by
          have h1 := HU.out; rw [HS.out, show isKind tr.k r = true from decide_eq_true hz, if_pos rfl] at h1; exact h1
        clear hz HS
        go_wp2
        refine wp_region_since _ (by kernel_rfl) (by kernel_rfl) ?_
        repeat (any_goals (first | go_big_quiet_step ((fail)) | (refine wpQuiet_step (fun K hK => ?_); go_simp; split <;> (refine hK _ ?_; clear hK K))))
        all_goals (refine wpQuiet_nil ?_; rintro _ ⟨q1, rfl⟩)
        all_goals go_wp2
        go_roundw
        case rel => exact ⟨j + 1, u + r.c, by omega, by go_num, rfl, by omega, ⟨q1, rfl⟩, HE⟩
        case measure => simp [intOf]; omega
      · have hv : (r.k == tr.k) = false := by simp [hz]
        have HE : Hid (outFrom (isKind tr.k) u (x.o.drop (j + 1)) = outSum (isKind tr.k) x.o) := by
          have h1 := HU.out; rw [HS.out, show isKind tr.k r = false from decide_eq_false hz, if_neg (by simp)] at h1; exact h1
        clear hz HS
        go_wp2
        refine wp_region_since _ (by kernel_rfl) (by kernel_rfl) ?_
        repeat (any_goals (first | go_big_quiet_step ((fail)) | (refine wpQuiet_step (fun K hK => ?_); go_simp; split <;> (refine hK _ ?_; clear hK K))))
        all_goals (refine wpQuiet_nil ?_; rintro _ ⟨q1, rfl⟩)
        all_goals go_wp2
        go_roundw
        case rel => exact ⟨j + 1, u, by omega, by go_num, rfl, by omega, ⟨q1, rfl⟩, HE⟩
        case measure => simp [intOf]; omega
    · have HE2 : Hid (u = outSum (isKind tr.k) x.o) := by
        have h1 := HU.out; rw [List.drop_eq_nil_of_le (by omega)] at h1; exact h1
      have z1 := itoa_len htb1 (by omega : tr.c ≤ 1000000000)
      have z2 := itoa_len u0 (by omega : u ≤ 1000000000)
      obtain ⟨SA, hSA⟩ : ∃ SA, numT tr.c = SA := ⟨_, rfl⟩
      obtain ⟨SB, hSB⟩ : ∃ SB, numT u = SB := ⟨_, rfl⟩
      have cA : ∀ W, Calls Tryd.prog 56 #[.int .i64 tr.c] W fun e w' => e = .returned (.string SA) ∧ Below W.heap.size W w' := fun W => by rw [← hSA]; exact l1Num_any tr.c W htb1 (by omega)
      have cB : ∀ W, Calls Tryd.prog 56 #[.int .i64 u] W fun e w' => e = .returned (.string SB) ∧ Below W.heap.size W w' := fun W => by rw [← hSB]; exact l1Num_any u W u0 (by omega)
      have z1' : SA.size ≤ 100 := by rw [← hSA]; exact z1
      have z2' : SB.size ≤ 100 := by rw [← hSB]; exact z2
      have HA := Lib.hid hSA
      have HB := Lib.hid hSB
      clear hro hSA hSB z1 z2
      go_wp2_with fail
      refine (cA _).mono ?_
      rintro e w1 ⟨rfl, hb1⟩
      go_wp2_with fail
      refine (cB _).mono ?_
      rintro e w2 ⟨rfl, hb2⟩
      go_wp2
      go_ret
      exact ⟨by rw [HT.out, ← HE2.out, HA.out, HB.out]; rfl, bthen (bthen (bthen hb0 p.below) hb1) hb2⟩

theorem trayT_no {x : Off} {kd : Int} (h : (goodOff x && hasTray x.t kd) = false) : trayT x kd = ⟨#[]⟩ := by unfold trayT; rw [h]; rfl
theorem trayT_yes {x : Off} {kd : Int} {i : Nat} (hg : goodOff x = true) (hI : trayIx x.t kd = i) (hi : i < x.t.length) : (goodOff x && hasTray x.t kd) = true ∧ trayT x kd = trT (numT x.t[i].c) (numT (outSum (isKind kd) x.o)) := by
  have h1 : hasTray x.t kd = true := by rw [← trayIx_has, hI]; simp
  refine ⟨by rw [hg, h1]; rfl, ?_⟩
  unfold trayT trayTx
  rw [hg, h1, hI, Int.toNat_natCast, List.getD_eq_getElem?_getD, List.getElem?_eq_getElem hi]; rfl
theorem hasTray_no {ts : List Tray} {kd : Int} (h : ¬ 0 ≤ trayIx ts kd) : hasTray ts kd = false := by rw [← trayIx_has, decide_eq_false h]

set_option maxRecDepth 100000 in
set_option maxHeartbeats 2000000 in
theorem specTrayText_any (x : Off) (kd : Int) (w : World) (h : OffR w w.heap.size x) :
    Calls Tryd.prog 6 #[x.val, .int .i64 kd] w fun e w' => e = .returned (.tuple #[.string (trayT x kd), .bool (goodOff x && hasTray x.t kd)]) ∧ Below w.heap.size w w' := by
  have b1 := (Below.refl w.heap.size w).alloc (Nat.le_refl _) (.cells #[.slice x.TA x.t.length x.tc, .slice x.OA x.o.length x.oc, .int .i64 x.got, .int .i64 x.sold, .int .i64 x.missed] 32)
  have hA := box_at h 32
  have cG := fun W hW => l32Good_any x W hW
  have cT := fun W hW => l32Tray_any x kd W hW
  cases hg : goodOff x
  · rw [hg] at cG
    have HN := Lib.hid (trayT_no (x := x) (kd := kd) (by rw [hg]; rfl))
    clear hg
    rw [HN.out]
    generalize trayIx x.t kd = I at cT
    go_enter Tryd.func6, Tryd.ntmps6
    go_wp2_with fail
    generalize w.alloc (.cells #[.slice x.TA x.t.length x.tc, .slice x.OA x.o.length x.oc, .int .i64 x.got, .int .i64 x.sold, .int .i64 x.missed] 32) = W at b1 hA ⊢
    obtain ⟨p0, p1, p2, p3, p4⟩ := hA.s
    refine (calls_since0 (cT _ hA.r)).mono ?_
    rintro e w1 ⟨rfl, q1, rfl⟩
    go_wp2_with fail
    refine (calls_since (Nat.le_refl _) (cG _ (hA.r.at q1))).mono ?_
    rintro e w2 ⟨rfl, q2, rfl⟩
    go_wp2
    go_ret2
    exact ⟨rfl, b1.trans (q2.below.mono b1.size)⟩
  · rw [hg] at cG
    have G := good_iff.1 hg
    by_cases hI : 0 ≤ trayIx x.t kd
    · obtain ⟨i, hi⟩ := trayIx_nat hI
      obtain ⟨hlt, hk⟩ := trayIx_at hi
      have HY := Lib.hid (trayT_yes hg hi hlt).2
      have HT : Hid (hasTray x.t kd = true) := by have := (trayT_yes hg hi hlt).1; rw [hg] at this; exact this
      have cX := fun W hW => l32Text_any x i kd W hW G hlt hk
      rw [hi] at cT
      clear hg hI hi
      rw [HY.out, HT.out]
      generalize trT (numT x.t[i].c) (numT (outSum (isKind kd) x.o)) = TX at cX ⊢
      go_enter Tryd.func6, Tryd.ntmps6
      go_wp2_with fail
      generalize w.alloc (.cells #[.slice x.TA x.t.length x.tc, .slice x.OA x.o.length x.oc, .int .i64 x.got, .int .i64 x.sold, .int .i64 x.missed] 32) = W at b1 hA ⊢
      obtain ⟨p0, p1, p2, p3, p4⟩ := hA.s
      refine (calls_since0 (cT _ hA.r)).mono ?_
      rintro e w1 ⟨rfl, q1, rfl⟩
      go_wp2_with fail
      refine (calls_since (Nat.le_refl _) (cG _ (hA.r.at q1))).mono ?_
      rintro e w2 ⟨rfl, q2, rfl⟩
      go_wp2_with fail
      refine (calls_since (Nat.le_refl _) (cX _ (hA.r.at q2))).mono ?_
      rintro e w3 ⟨rfl, q3, rfl⟩
      go_wp2
      go_ret2
      exact ⟨rfl, b1.trans (q3.below.mono b1.size)⟩
    · have HH := Lib.hid (hasTray_no hI)
      have HN := Lib.hid (trayT_no (x := x) (kd := kd) (by rw [hasTray_no hI, Bool.and_false]))
      clear hg
      rw [HN.out, HH.out]
      generalize trayIx x.t kd = I at cT hI
      go_enter Tryd.func6, Tryd.ntmps6
      go_wp2_with fail
      generalize w.alloc (.cells #[.slice x.TA x.t.length x.tc, .slice x.OA x.o.length x.oc, .int .i64 x.got, .int .i64 x.sold, .int .i64 x.missed] 32) = W at b1 hA ⊢
      obtain ⟨p0, p1, p2, p3, p4⟩ := hA.s
      refine (calls_since0 (cT _ hA.r)).mono ?_
      rintro e w1 ⟨rfl, q1, rfl⟩
      go_wp2_with fail
      refine (calls_since (Nat.le_refl _) (cG _ (hA.r.at q1))).mono ?_
      rintro e w2 ⟨rfl, q2, rfl⟩
      go_wp2
      go_ret2
      exact ⟨rfl, b1.trans (q2.below.mono b1.size)⟩

/-- The closure of trayText. -/
theorem textFn_any (t : Outing) (gk : Nat) (kd : Int) (w : World) (hL : Lies w gk 3 [.int .i64 kd]) :
    Calls Tryd.prog 64 (#[t.val] ++ #[.pointer (some ⟨gk, 0, none⟩)]) w fun e w' => e = .returned (.bool (isKind kd t)) ∧ Below w.heap.size w w' := by
  show Calls Tryd.prog 64 #[t.val, .pointer (some ⟨gk, 0, none⟩)] w _
  have b1 := (Below.refl w.heap.size w).alloc (Nat.le_refl _) (.cells #[.int .i64 t.k, .int .i64 t.p, .int .i64 t.c] 71)
  have c0 := (hL.alloc (.cells #[.int .i64 t.k, .int .i64 t.p, .int .i64 t.c] 71)).cell 0
  simp only [List.getElem?_cons_zero] at c0
  obtain ⟨v, hv⟩ : ∃ v, (t.k == kd) = v := ⟨_, rfl⟩
  have HV : Hid (isKind kd t = v) := by rw [← hv]; unfold Hid; rw [Bool.eq_iff_iff]; simp [isKind]
  go_enter Tryd.func64, Tryd.ntmps64
  go_wp2
  go_ret
  exact ⟨by rw [HV.out]; rfl, b1⟩

set_option maxRecDepth 100000 in
set_option maxHeartbeats 2000000 in
theorem trayText_any (x : Off) (g i : Nat) (kd : Int) (w : World) (h : OffAt w w.heap.size g x) (G : Good x) (hI : trayIx x.t kd = i) (hi : i < x.t.length) (ht : Tab w) :
    Calls Tryd.prog 37 #[.pointer (some ⟨g, 0, none⟩), .int .i64 kd] w fun e w' => e = .returned (.string (trT (numT x.t[i].c) (numT (outSum (isKind kd) x.o)))) ∧ Below w.heap.size w w' := by
  have hmf : ∀ (fn : Fn) (first cap : Array Value) (w : World), (Instr.makeFunc fn first cap).run Tryd.prog w = .ok (.func fn first cap) w := fun _ _ _ _ => rfl
  have b1 := (Below.refl w.heap.size w).alloc (Nat.le_refl _) (.cells #[.int .i64 kd] 3)
  have hL := Lies.new w 3 #[.int .i64 kd]
  have hA := h.then b1 b1.size
  have ht1 := ht.then b1
  have ol := G.ol
  have htb := (Tray.bounds (G.tall i hi)).2
  have hob := outFrom_bd (isKind kd) x.t x.o 0 G.oall
  change 0 ≤ outSum (isKind kd) x.o ∧ outSum (isKind kd) x.o ≤ _ at hob
  have HT : Hid (trT (numT x.t[i].c) (numT (outSum (isKind kd) x.o)) = numT x.t[i].c ++ ⟨#[32, 105, 110, 32]⟩ ++ numT (outSum (isKind kd) x.o) ++ ⟨#[32, 111, 117, 116]⟩) := rfl
  rw [HT.out]
  obtain ⟨tr, htr⟩ : ∃ tr, x.t[i] = tr := ⟨_, rfl⟩
  obtain ⟨S, hS⟩ : ∃ S, outSum (isKind kd) x.o = S := ⟨_, rfl⟩
  rw [htr] at htb
  rw [hS] at hob
  rw [htr, hS]
  go_enter Tryd.func37, Tryd.ntmps37
  go_wp2_with fail
  generalize w.alloc (.cells #[.int .i64 kd] 3) = W at b1 hL hA ht1 ⊢
  have cO := stampsOut_any (isKind kd) 64 #[.pointer (some ⟨w.heap.size, 0, none⟩)] Tryd.call64 x g W (fun o p => textFn_any o w.heap.size kd p.val (hL.below p.below hL.lt)) hA ol G.oall
  rw [hS] at cO
  refine (calls_since0 cO).mono ?_
  rintro e w1 ⟨rfl, q1, rfl⟩
  have hk0 : ∀ q : Since W.heap.size W, q.val.cell? ⟨w.heap.size, 0, none⟩ = some (.int .i64 kd) := fun q => (q.cell hL.lt).trans (hL.cell 0)
  obtain ⟨p0, p1, p2, p3, p4⟩ := hA.s
  obtain ⟨bt, ot, hTA, _, htc⟩ := hA.r.ts.el (by omega)
  obtain ⟨t0, t1⟩ := htc i hi
  simp only [hTA] at p0
  have cA := fun q : Since W.heap.size W => trayAt_any x g kd q.val (hA.at q)
  rw [hI] at cA
  rw [htr] at t1
  obtain ⟨htb1, htb2⟩ := htb
  obtain ⟨hob1, hob2⟩ := hob
  have c1 := fun q : Since W.heap.size W => itoa_any tr.c q.val (by omega) (by omega) (ht1.at q)
  have c2 := fun q : Since W.heap.size W => itoa_any S q.val (by omega) (by omega) (ht1.at q)
  have z1 := itoa_len htb1 (by omega : tr.c ≤ 1000000000)
  have z2 := itoa_len hob1 (by omega : S ≤ 1000000000)
  have HA : Hid (numT tr.c = ⟨(Lib.itoa tr.c).toArray⟩) := rfl
  have HB : Hid (numT S = ⟨(Lib.itoa S).toArray⟩) := rfl
  generalize (⟨(Lib.itoa tr.c).toArray⟩ : ByteArray) = SA at c1 z1 HA
  generalize (⟨(Lib.itoa S).toArray⟩ : ByteArray) = SB at c2 z2 HB
  have hz0 : (0 : Int) ≤ (i : Int) := by omega
  have hii : (i : Int) < (x.t.length : Int) := by omega
  clear htc hTA cO hS t0 HT
  go_wp2
  refine wp_region_since _ (by kernel_rfl) (by kernel_rfl) ?_
  repeat (any_goals (first | go_big_quiet_step ((first | (go_at_call 36; with_reducible refine calls_since (Nat.le_refl _) (cA _)) | (go_at_call 65; with_reducible refine calls_since (Nat.le_refl _) (c1 _)) | (go_at_call 65; with_reducible refine calls_since (Nat.le_refl _) (c2 _)))) | (refine wpQuiet_step (fun K hK => ?_); go_simp; split <;> (refine hK _ ?_; clear hK K))))
  all_goals (refine wpQuiet_nil ?_; rintro _ ⟨q1, rfl⟩)
  all_goals go_wp2
  go_ret
  exact ⟨by rw [HA.out, HB.out]; rfl, bthen b1 q1.below⟩

set_option maxRecDepth 100000 in
set_option maxHeartbeats 2000000 in
theorem implTrayText_any (x : Off) (kd : Int) (_h1 : -9223372036854775808 ≤ kd) (_h2 : kd ≤ 9223372036854775807) (w : World) (h : OffR w w.heap.size x) (ht : Tab w) :
    Calls Tryd.prog 8 #[x.val, .int .i64 kd] w fun e w' => e = .returned (.tuple #[.string (trayT x kd), .bool (goodOff x && hasTray x.t kd)]) ∧ Below w.heap.size w w' := by
  have b1 := (Below.refl w.heap.size w).alloc (Nat.le_refl _) (.cells #[.slice x.TA x.t.length x.tc, .slice x.OA x.o.length x.oc, .int .i64 x.got, .int .i64 x.sold, .int .i64 x.missed] 32)
  have hA := box_at h 32
  have ht1 := ht.then b1
  have cG := fun W hW => isOfficeValid_any x w.heap.size W hW
  have cT := fun W hW => trayAt_any x w.heap.size kd W hW
  cases hg : goodOff x
  · rw [hg] at cG
    have HN := Lib.hid (trayT_no (x := x) (kd := kd) (by rw [hg]; rfl))
    clear hg
    rw [HN.out]
    go_enter Tryd.func8, Tryd.ntmps8
    go_wp2_with fail
    generalize w.alloc (.cells #[.slice x.TA x.t.length x.tc, .slice x.OA x.o.length x.oc, .int .i64 x.got, .int .i64 x.sold, .int .i64 x.missed] 32) = W at b1 hA ⊢
    refine (cG _ hA).mono ?_
    rintro e w1 ⟨rfl, hb⟩
    go_wp2
    go_ret2
    exact ⟨rfl, bthen b1 hb⟩
  · rw [hg] at cG
    have G := good_iff.1 hg
    by_cases hI : 0 ≤ trayIx x.t kd
    · obtain ⟨i, hi⟩ := trayIx_nat hI
      obtain ⟨hlt, hk⟩ := trayIx_at hi
      have HY := Lib.hid (trayT_yes hg hi hlt).2
      have HT : Hid (hasTray x.t kd = true) := by have := (trayT_yes hg hi hlt).1; rw [hg] at this; exact this
      have cX := fun W hW ht => trayText_any x w.heap.size i kd W hW G hi hlt ht
      rw [hi] at cT
      clear hg hI hi
      rw [HY.out, HT.out]
      generalize trT (numT x.t[i].c) (numT (outSum (isKind kd) x.o)) = TX at cX ⊢
      go_enter Tryd.func8, Tryd.ntmps8
      go_wp2_with fail
      generalize w.alloc (.cells #[.slice x.TA x.t.length x.tc, .slice x.OA x.o.length x.oc, .int .i64 x.got, .int .i64 x.sold, .int .i64 x.missed] 32) = W at b1 hA ht1 ⊢
      refine (calls_since0 (cG _ hA)).mono ?_
      rintro e w1 ⟨rfl, q1, rfl⟩
      go_wp2_with fail
      refine (calls_since (Nat.le_refl _) (cT _ (hA.at q1))).mono ?_
      rintro e w2 ⟨rfl, q2, rfl⟩
      go_wp2_with fail
      refine (calls_since (Nat.le_refl _) (cX _ (hA.at q2) (ht1.at q2))).mono ?_
      rintro e w3 ⟨rfl, q3, rfl⟩
      go_wp2
      go_ret2
      exact ⟨rfl, b1.trans (q3.below.mono b1.size)⟩
    · have HH := Lib.hid (hasTray_no hI)
      have HN := Lib.hid (trayT_no (x := x) (kd := kd) (by rw [hasTray_no hI, Bool.and_false]))
      clear hg
      rw [HN.out, HH.out]
      generalize trayIx x.t kd = I at cT hI
      go_enter Tryd.func8, Tryd.ntmps8
      go_wp2_with fail
      generalize w.alloc (.cells #[.slice x.TA x.t.length x.tc, .slice x.OA x.o.length x.oc, .int .i64 x.got, .int .i64 x.sold, .int .i64 x.missed] 32) = W at b1 hA ⊢
      refine (calls_since0 (cG _ hA)).mono ?_
      rintro e w1 ⟨rfl, q1, rfl⟩
      go_wp2_with fail
      refine (calls_since (Nat.le_refl _) (cT _ (hA.at q1))).mono ?_
      rintro e w2 ⟨rfl, q2, rfl⟩
      go_wp2
      go_ret2
      exact ⟨rfl, b1.trans (q2.below.mono b1.size)⟩
end Go.Proofs.YtdiojhjkcholiaaDoor
