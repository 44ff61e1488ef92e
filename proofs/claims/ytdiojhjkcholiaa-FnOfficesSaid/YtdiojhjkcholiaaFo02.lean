/- Fo02: the texts OffTo OffSpec OffSpec2 OffSpec3 OffSpec4 OffImpl1 OffImpl2 OffImpl3 OffImpl4, joined into one file. -/
import Derived.Deep.RegionHeld3
import Derived.Test.YtdiojhjkcholiaaFo01

/- Offices: size, copy, equality. -/
namespace Go.Proofs.Ytdiojhjkcholiaa
open Go.RowKit

/-- It lies at the head of a block, in every world since. -/
structure OffS (B : Nat) (w : World) (b : Nat) (x : Off) : Prop where
  c0 : ∀ p : Since B w, p.val.cell? ⟨b, 0, none⟩ = some (.slice x.TA x.t.length x.tc)
  c1 : ∀ p : Since B w, p.val.cell? ⟨b, 1, none⟩ = some (.slice x.OA x.o.length x.oc)
  c2 : ∀ p : Since B w, p.val.cell? ⟨b, 2, none⟩ = some (.int .i64 x.got)
  c3 : ∀ p : Since B w, p.val.cell? ⟨b, 3, none⟩ = some (.int .i64 x.sold)
  c4 : ∀ p : Since B w, p.val.cell? ⟨b, 4, none⟩ = some (.int .i64 x.missed)
theorem OffS.of {W : World} {g : Nat} {t : TypeId} {x : Off} (h : Lies W g t x.enc) : OffS W.heap.size W g x :=
  ⟨fun p => (p.cell h.lt).trans (h.cell 0), fun p => (p.cell h.lt).trans (h.cell 1), fun p => (p.cell h.lt).trans (h.cell 2), fun p => (p.cell h.lt).trans (h.cell 3), fun p => (p.cell h.lt).trans (h.cell 4)⟩
theorem OffR.at {W : World} {x : Off} (h : OffR W W.heap.size x) (q : Since W.heap.size W) : OffR q.val q.val.heap.size x := h.then q.below

theorem szOffice_any (x : Off) (k : Int) (w : World) (hn : x.t.length ≤ 9223372036854775807) (hm : x.o.length ≤ 9223372036854775807) (hk : 0 ≤ k) (hk' : k ≤ 1048576) :
    Calls Try.prog 12 #[x.val, .int .i64 k] w fun e w' => e = .returned (.int .i64 (lessen k (x.t.length + x.o.length))) ∧ Below w.heap.size w w' := by
  have hb0 := (Below.refl w.heap.size w).alloc (Nat.le_refl _) (.cells #[.slice x.TA x.t.length x.tc, .slice x.OA x.o.length x.oc, .int .i64 x.got, .int .i64 x.sold, .int .i64 x.missed] 38)
  have hc := fun W => szTrays_any x.TA x.t.length x.tc k W hn hk hk'
  by_cases hle : (x.t.length : Int) ≤ k
  · have he : lessen k x.t.length = k - x.t.length := by unfold lessen; rw [if_pos hle]
    have HE := Lib.hid (lessen_yes (b := x.o.length) hle)
    have hd := fun W => szOutings_any x.OA x.o.length x.oc (k - x.t.length) W hm (by omega) (by omega)
    rw [he] at hc
    by_cases hle2 : (x.o.length : Int) ≤ k - x.t.length
    · have he2 : lessen (k - x.t.length) x.o.length = k - x.t.length - x.o.length := by unfold lessen; rw [if_pos hle2]
      rw [he2] at hd
      have HE2 := Lib.hid he2
      clear he he2
      go_enter Try.func12, Try.ntmps12
      go_wp2_with fail
      refine (hc _).mono ?_
      rintro e w1 ⟨rfl, rfl⟩
      go_wp2_with fail
      refine (hd _).mono ?_
      rintro e w1 ⟨rfl, rfl⟩
      go_wp2
      go_ret
      exact ⟨by rw [HE.out, HE2.out]; rfl, hb0⟩
    · have he2 : lessen (k - x.t.length) x.o.length = -1 := by unfold lessen; rw [if_neg hle2]
      rw [he2] at hd
      have HE2 := Lib.hid he2
      clear he he2
      go_enter Try.func12, Try.ntmps12
      go_wp2_with fail
      refine (hc _).mono ?_
      rintro e w1 ⟨rfl, rfl⟩
      go_wp2_with fail
      refine (hd _).mono ?_
      rintro e w1 ⟨rfl, rfl⟩
      go_wp2
      go_ret
      exact ⟨by rw [HE.out, HE2.out]; rfl, hb0⟩
  · have he : lessen k x.t.length = -1 := by unfold lessen; rw [if_neg hle]
    have HE : Hid (lessen k (x.t.length + x.o.length) = -1) := lessen_no (by omega)
    rw [he] at hc
    clear he
    go_enter Try.func12, Try.ntmps12
    go_wp2_with fail
    refine (hc _).mono ?_
    rintro e w1 ⟨rfl, rfl⟩
    go_wp2
    go_ret
    exact ⟨by rw [HE.out]; rfl, hb0⟩

theorem Lies.new1 (w : World) (o : Obj) (t : TypeId) (cs : Array Value) : Lies ((w.alloc o).alloc (.cells cs t)) (w.heap.size + 1) t cs.toList := by
  have h := Lies.new (w.alloc o) t cs
  rwa [show (w.alloc o).heap.size = w.heap.size + 1 from Array.size_push _] at h
theorem Lies.new2 (w : World) (o o' : Obj) (t : TypeId) (cs : Array Value) : Lies (((w.alloc o).alloc o').alloc (.cells cs t)) (w.heap.size + 1 + 1) t cs.toList := by
  have h := Lies.new1 (w.alloc o) o' t cs
  rwa [show (w.alloc o).heap.size = w.heap.size + 1 from Array.size_push _] at h

set_option maxHeartbeats 1000000 in
theorem toOffice_any (x : Off) (w : World) (h : OffR w w.heap.size x) (hn : x.t.length ≤ 1048576) (hm : x.o.length ≤ 1048576) :
    Calls Try.prog 14 #[x.val] w fun e w' => ∃ g1 g2, e = .returned (Off.val { x with TA := some ⟨g1, 0, none⟩, tc := x.t.length, OA := some ⟨g2, 0, none⟩, oc := x.o.length }) ∧ w.heap.size ≤ g1 ∧ g1 < g2 ∧ Lies w' g1 74 (x.t.flatMap Tray.enc) ∧ Lies w' g2 100 (x.o.flatMap Outing.enc) ∧ Below w.heap.size w w' := by
  have L1 := ((Lies.new w 38 #[.slice x.TA x.t.length x.tc, .slice x.OA x.o.length x.oc, .int .i64 x.got, .int .i64 x.sold, .int .i64 x.missed]).alloc (.cells #[.slice none 0 0, .slice none 0 0, .int .i64 0, .int .i64 0, .int .i64 0] 25)).alloc (.cells #[.slice none 0 0, .slice none 0 0, .int .i64 0, .int .i64 0, .int .i64 0] 25)
  have L2 := (Lies.new1 w (.cells #[.slice x.TA x.t.length x.tc, .slice x.OA x.o.length x.oc, .int .i64 x.got, .int .i64 x.sold, .int .i64 x.missed] 38) 25 #[.slice none 0 0, .slice none 0 0, .int .i64 0, .int .i64 0, .int .i64 0]).alloc (.cells #[.slice none 0 0, .slice none 0 0, .int .i64 0, .int .i64 0, .int .i64 0] 25)
  have L3 := Lies.new2 w (.cells #[.slice x.TA x.t.length x.tc, .slice x.OA x.o.length x.oc, .int .i64 x.got, .int .i64 x.sold, .int .i64 x.missed] 38) (.cells #[.slice none 0 0, .slice none 0 0, .int .i64 0, .int .i64 0, .int .i64 0] 25) 25 #[.slice none 0 0, .slice none 0 0, .int .i64 0, .int .i64 0, .int .i64 0]
  have b1 := (Below.refl w.heap.size w).alloc (Nat.le_refl _) (.cells #[.slice x.TA x.t.length x.tc, .slice x.OA x.o.length x.oc, .int .i64 x.got, .int .i64 x.sold, .int .i64 x.missed] 38)
  have b2 := b1.alloc b1.size (.cells #[.slice none 0 0, .slice none 0 0, .int .i64 0, .int .i64 0, .int .i64 0] 25)
  have b3 := b2.alloc b2.size (.cells #[.slice none 0 0, .slice none 0 0, .int .i64 0, .int .i64 0, .int .i64 0] 25)
  clear b1 b2
  go_enter Try.func14, Try.ntmps14
  go_wp2_with fail
  generalize (((w.alloc (.cells #[.slice x.TA x.t.length x.tc, .slice x.OA x.o.length x.oc, .int .i64 x.got, .int .i64 x.sold, .int .i64 x.missed] 38)).alloc (.cells #[.slice none 0 0, .slice none 0 0, .int .i64 0, .int .i64 0, .int .i64 0] 25)).alloc (.cells #[.slice none 0 0, .slice none 0 0, .int .i64 0, .int .i64 0, .int .i64 0] 25)) = W3 at L1 L2 L3 b3 ⊢
  refine (toTrays_any x.TA x.tc x.t W3 (h.up b3 (Nat.le_refl _)).ts hn).mono ?_
  rintro e W4 ⟨g1, rfl, hg1, hL4, hb4⟩
  have hs1 := L1.lt
  have hs2 := L2.lt
  have hs3 := L3.lt
  have b4 := b3.trans (hb4.mono b3.size)
  have c1 := (L1.below hb4 L1.lt).cell 1
  have d0 := (L3.below hb4 L3.lt).cell 0
  have f0 := (L3.below hb4 L3.lt).frozen 0
  simp only [List.getElem?_cons_zero, List.getElem?_cons_succ] at c1 d0
  have M1 := (L1.below hb4 L1.lt).other (p := ⟨w.heap.size + 1 + 1, 0, none⟩) (by simp only; omega) (.slice (some ⟨g1, 0, none⟩) x.t.length x.t.length)
  have M2 := (L2.below hb4 L2.lt).other (p := ⟨w.heap.size + 1 + 1, 0, none⟩) (by simp only; omega) (.slice (some ⟨g1, 0, none⟩) x.t.length x.t.length)
  have M3 := (L3.below hb4 L3.lt).set 0 (.slice (some ⟨g1, 0, none⟩) x.t.length x.t.length)
  have M4 := hL4.other (p := ⟨w.heap.size + 1 + 1, 0, none⟩) (by simp only; omega) (.slice (some ⟨g1, 0, none⟩) x.t.length x.t.length)
  have b5 : Below w.heap.size w (W4.setCell ⟨w.heap.size + 1 + 1, 0, none⟩ (.slice (some ⟨g1, 0, none⟩) x.t.length x.t.length)) := b4.grown (grown_set (World.grownBy.refl W4 (some (w.heap.size + 1 + 1)))) b4.size (by rintro _ ⟨⟩; omega)
  have z5 : W4.heap.size ≤ (W4.setCell ⟨w.heap.size + 1 + 1, 0, none⟩ (.slice (some ⟨g1, 0, none⟩) x.t.length x.t.length)).heap.size := by simp [World.setCell]
  go_wp2_with fail
  clear c1 d0 f0
  generalize W4.setCell ⟨w.heap.size + 1 + 1, 0, none⟩ (.slice (some ⟨g1, 0, none⟩) x.t.length x.t.length) = W5 at M1 M2 M3 M4 b5 z5 ⊢
  refine (toOutings_any x.OA x.oc x.o W5 (h.up b5 (Nat.le_refl _)).os hm).mono ?_
  rintro e W6 ⟨g2, rfl, hg2, hL6, hb6⟩
  have b6 := b5.trans (hb6.mono b5.size)
  have t1 := M1.lt
  have t2 := M2.lt
  have t3 := M3.lt
  have t4 := M4.lt
  have N1 := M1.below hb6 M1.lt
  have N2 := M2.below hb6 M2.lt
  have N3 := M3.below hb6 M3.lt
  have N4 := M4.below hb6 M4.lt
  clear L1 L2 L3 M1 M2 M3 M4 hL4 h
  have c2 := N1.cell 2
  have c3 := N1.cell 3
  have c4 := N1.cell 4
  have d0 := N3.cell 0
  have d1 := N3.cell 1
  have d2 := N3.cell 2
  have d3 := N3.cell 3
  have d4 := N3.cell 4
  have e0 := N2.cell 0
  have e1 := N2.cell 1
  have e2 := N2.cell 2
  have e3 := N2.cell 3
  have e4 := N2.cell 4
  have f1 := N3.frozen 1
  have f2 := N3.frozen 2
  have f3 := N3.frozen 3
  have f4 := N3.frozen 4
  have k0 := N2.frozen 0
  have k1 := N2.frozen 1
  have k2 := N2.frozen 2
  have k3 := N2.frozen 3
  have k4 := N2.frozen 4
  simp only [List.set_cons_zero, List.getElem?_cons_zero, List.getElem?_cons_succ] at c2 c3 c4 d0 d1 d2 d3 d4 e0 e1 e2 e3 e4
  go_wp2
  refine bodyPost_ret (v := Off.val { x with TA := some ⟨g1, 0, none⟩, tc := x.t.length, OA := some ⟨g2, 0, none⟩, oc := x.o.length }) (by simp [results, Try.results14, go_sem, *]) rfl ⟨g1, g2, rfl, Nat.le_trans b3.size hg1, by omega, ?_, ?_, ?_⟩
  · exact ((((((((N4.other (by simp only; omega) _).other (by simp only; omega) _).other (by simp only; omega) _).other (by simp only; omega) _).other (by simp only; omega) _).other (by simp only; omega) _).other (by simp only; omega) _).other (by simp only; omega) _).other (by simp only; omega) _
  · exact ((((((((hL6.other (by simp only; omega) _).other (by simp only; omega) _).other (by simp only; omega) _).other (by simp only; omega) _).other (by simp only; omega) _).other (by simp only; omega) _).other (by simp only; omega) _).other (by simp only; omega) _).other (by simp only; omega) _
  · exact (b6.grown (grown_set (grown_set (grown_set (grown_set (World.grownBy.refl W6 (some (w.heap.size + 1 + 1))))))) b6.size (by rintro _ ⟨⟩; omega)).grown (grown_set (grown_set (grown_set (grown_set (grown_set (World.grownBy.refl _ (some (w.heap.size + 1)))))))) (by simpa using b6.size) (by rintro _ ⟨⟩; omega)

def Off.same (x y : Off) : Bool := sameTrays x.t y.t && sameOutings x.o y.o && decide (x.got = y.got) && decide (x.sold = y.sold) && decide (x.missed = y.missed)

set_option maxHeartbeats 1000000 in
theorem eqOffice_yes (x y : Off) (w : World) (hx : OffR w w.heap.size x) (hy : OffR w w.heap.size y) (ht : sameTrays x.t y.t = true) (ho : sameOutings x.o y.o = true) (hg : x.got = y.got) (hs : x.sold = y.sold) (hm : x.missed = y.missed) :
    Calls Try.prog 17 #[x.val, y.val] w fun e w' => e = .returned (.bool true) ∧ Below w.heap.size w w' := by
  have b1 := (Below.refl w.heap.size w).alloc (Nat.le_refl _) (.cells #[.slice x.TA x.t.length x.tc, .slice x.OA x.o.length x.oc, .int .i64 x.got, .int .i64 x.sold, .int .i64 x.missed] 25)
  have b2 := b1.alloc b1.size (.cells #[.slice y.TA y.t.length y.tc, .slice y.OA y.o.length y.oc, .int .i64 y.got, .int .i64 y.sold, .int .i64 y.missed] 25)
  have L1 := (Lies.new w 25 #[.slice x.TA x.t.length x.tc, .slice x.OA x.o.length x.oc, .int .i64 x.got, .int .i64 x.sold, .int .i64 x.missed]).alloc (.cells #[.slice y.TA y.t.length y.tc, .slice y.OA y.o.length y.oc, .int .i64 y.got, .int .i64 y.sold, .int .i64 y.missed] 25)
  have L2 := Lies.new1 w (.cells #[.slice x.TA x.t.length x.tc, .slice x.OA x.o.length x.oc, .int .i64 x.got, .int .i64 x.sold, .int .i64 x.missed] 25) 25 #[.slice y.TA y.t.length y.tc, .slice y.OA y.o.length y.oc, .int .i64 y.got, .int .i64 y.sold, .int .i64 y.missed]
  clear b1
  have n1 : (x.got != y.got) = false := by simp [hg]
  have n2 : (x.sold != y.sold) = false := by simp [hs]
  have n3 : (x.missed != y.missed) = false := by simp [hm]
  have HT := Lib.hid ht
  have HO := Lib.hid ho
  clear hg hs hm ht ho
  go_enter Try.func17, Try.ntmps17
  go_wp2_with fail
  generalize ((w.alloc (.cells #[.slice x.TA x.t.length x.tc, .slice x.OA x.o.length x.oc, .int .i64 x.got, .int .i64 x.sold, .int .i64 x.missed] 25)).alloc (.cells #[.slice y.TA y.t.length y.tc, .slice y.OA y.o.length y.oc, .int .i64 y.got, .int .i64 y.sold, .int .i64 y.missed] 25)) = W at b2 L1 L2 ⊢
  have hX := hx.up b2 (Nat.le_refl _)
  have hY := hy.up b2 (Nat.le_refl _)
  refine (eqTrays_any x.TA y.TA x.tc y.tc x.t y.t W hX.ts hY.ts).mono ?_
  rw [HT.out]
  rintro e w1 ⟨rfl, hb1⟩
  have c1 := (L1.below hb1 L1.lt).cell 1
  have d1 := (L2.below hb1 L2.lt).cell 1
  simp only [List.getElem?_cons_zero, List.getElem?_cons_succ] at c1 d1
  go_wp2_with fail
  refine (eqOutings_any x.OA y.OA x.oc y.oc x.o y.o _ (hX.then hb1).os (hY.then hb1).os).mono ?_
  rw [HO.out]
  rintro e w2 ⟨rfl, hb2⟩
  have k := bthen hb1 hb2
  clear c1 d1
  have c2 := (L1.below k L1.lt).cell 2
  have c3 := (L1.below k L1.lt).cell 3
  have c4 := (L1.below k L1.lt).cell 4
  have d2 := (L2.below k L2.lt).cell 2
  have d3 := (L2.below k L2.lt).cell 3
  have d4 := (L2.below k L2.lt).cell 4
  simp only [List.getElem?_cons_zero, List.getElem?_cons_succ] at c2 c3 c4 d2 d3 d4
  go_wp2
  go_ret
  exact ⟨rfl, bthen b2 k⟩
end Go.Proofs.Ytdiojhjkcholiaa

/- Validity of an office, in the reference. -/
namespace Go.Proofs.Ytdiojhjkcholiaa
open Go.RowKit

theorem trays_step {n : Nat} {p : Int} {l : List Tray} {k : Nat} (h : k < l.length) : traysFrom n p (l.drop k) = (l[k].ok && (decide (n = 0) || decide (p < l[k].k)) && traysFrom (n + 1) l[k].k (l.drop (k + 1))) := by
  rw [List.drop_eq_getElem_cons h]; rfl

set_option maxHeartbeats 2000000 in
theorem l32Trays_any (x : Off) (w : World) (h : OffR w w.heap.size x) :
    Calls Try.prog 67 #[x.val] w fun e w' => e = .returned (.bool (traysOk x.t && decide (x.t.length ≤ 8))) ∧ Below w.heap.size w w' := by
  have hl := h.ts.big
  go_enter Try.func67, Try.ntmps67
  go_wp2
  have hb0 := (Below.refl w.heap.size w).alloc (Nat.le_refl _) (.cells #[.slice x.TA x.t.length x.tc, .slice x.OA x.o.length x.oc, .int .i64 x.got, .int .i64 x.sold, .int .i64 x.missed] 25)
  have hS := OffS.of (x := x) (Lies.new w 25 #[.slice x.TA x.t.length x.tc, .slice x.OA x.o.length x.oc, .int .i64 x.got, .int .i64 x.sold, .int .i64 x.missed])
  have hR := h.up hb0 (Nat.le_refl _)
  generalize w.alloc (.cells #[.slice x.TA x.t.length x.tc, .slice x.OA x.o.length x.oc, .int .i64 x.got, .int .i64 x.sold, .int .i64 x.missed] 25) = W at hb0 hS hR ⊢
  have c0 := hS.c0
  have hrd := hR.ts.el
  go_loopw [3] (fun i wr => ∃ (k : Nat) (prev : Int), k ≤ x.t.length ∧ i = .int .i64 k ∧ (∃ q : Since W.heap.size W, wr = q.val) ∧ Hid (traysFrom k prev (x.t.drop k) = traysOk x.t) ∧ Hid (∀ (_hk : 0 < k) (h' : k - 1 < x.t.length), prev = x.t[k - 1].k)) (fun i _ => x.t.length - (intOf i).toNat)
  case atStart => exact ⟨0, 0, Nat.zero_le _, rfl, ⟨Since.start _ _, rfl⟩, rfl, fun h => absurd h (by omega)⟩
  case round =>
    obtain ⟨k, prev, hk, rfl, ⟨q, rfl⟩, HR, HP⟩ := hrel
    by_cases hlt : k < x.t.length
    · obtain ⟨b, off, hA, hb, hcell⟩ := hrd (by omega)
      obtain ⟨e0, e1⟩ := hcell k hlt
      have HC : Hid (0 < k → ∀ p : Since W.heap.size W, p.val.cell? ⟨b, off + (k - 1) * 2, none⟩ = some (.int .i64 prev)) := fun h p => by
        rw [HP.out h (by omega)]; exact (hcell (k - 1) (by omega)).c0 p
      have HS := Lib.hid (trays_step (n := k) (p := prev) hlt)
      obtain ⟨r, hre⟩ : ∃ r, r = x.t[k] := ⟨_, rfl⟩
      have HN : Hid (∀ (_hk : 0 < k + 1) (h' : k + 1 - 1 < x.t.length), r.k = x.t[k + 1 - 1].k) := fun _ h' => by rw [hre]; rfl
      rw [← hre] at e0 e1 HS
      simp only [hA] at c0
      clear hre hcell hrd hA
      go_wp2
      have hbV := q.below.alloc q.size (.cells #[.int .i64 r.k, .int .i64 r.c] 74)
      have hlV := Lies.new q.val 74 #[.int .i64 r.k, .int .i64 r.c]
      generalize q.val.alloc (.cells #[.int .i64 r.k, .int .i64 r.c] 74) = V at hbV hlV ⊢
      generalize q.val.heap.size = gv at hlV ⊢
      obtain ⟨d0, d1⟩ := TrayS.of (r := r) hlV
      have c0' : ∀ p : Since V.heap.size V, p.val.cell? ⟨w.heap.size, 0, none⟩ = some (.slice (some ⟨b, off, none⟩) x.t.length x.tc) := fun p => c0 ⟨p.val, hbV.trans (p.below.mono hbV.size)⟩
      have HOK : Hid (r.ok = (inR r.k 1 99 && inR r.c 0 9999)) := rfl
      clear e0 e1 c0
      obtain ⟨v1, hv1⟩ : ∃ v, inR r.k 1 99 = v := ⟨_, rfl⟩
      obtain ⟨v2, hv2⟩ : ∃ v, inR r.c 0 9999 = v := ⟨_, rfl⟩
      rw [hv1, hv2] at HOK
      have HV1 := Lib.hid hv1; clear hv1
      have HV2 := Lib.hid hv2; clear hv2
      rcases Nat.eq_zero_or_pos k with h0 | h0
      · have hd : decide (0 < k) = false := decide_eq_false (by omega)
        have H0 := Lib.hid h0; clear h0
        cases v1
        · refine wp_region_since0 (by kernel_rfl) (by kernel_rfl) ?_
          repeat (any_goals (first | go_big_quiet_step ((go_at_call 71; with_reducible refine calls_sameB HV1 (l1In_any r.k 1 99 _))) | (refine wpQuiet_step (fun K hK => ?_); go_simp; split <;> (refine hK _ ?_; clear hK K))))
          all_goals (refine wpQuiet_nil ?_; rintro _ ⟨q1, rfl⟩)
          all_goals have hb1 := hb0.trans ((hbV.trans (q1.below.mono hbV.size)).mono hb0.size)
          all_goals go_wp2
          go_ret
          refine ⟨?_, hb1⟩
          rw [← HR.out, HS.out, HOK.out]; rfl
        · cases v2
          all_goals
            refine wp_region_since0 (by kernel_rfl) (by kernel_rfl) ?_
            repeat (any_goals (first | go_big_quiet_step ((first | (go_at_call 71; with_reducible refine calls_sameB HV1 (l1In_any r.k 1 99 _)) | (go_at_call 71; with_reducible refine calls_sameB HV2 (l1In_any r.c 0 9999 _)))) | (refine wpQuiet_step (fun K hK => ?_); go_simp; split <;> (refine hK _ ?_; clear hK K))))
            all_goals (refine wpQuiet_nil ?_; rintro _ ⟨q1, rfl⟩)
            all_goals have hb1 := hb0.trans ((hbV.trans (q1.below.mono hbV.size)).mono hb0.size)
            all_goals go_wp2
          · go_ret
            refine ⟨?_, hb1⟩
            rw [← HR.out, HS.out, HOK.out]; rfl
          · go_roundw
            case rel => exact ⟨k + 1, r.k, by omega, by go_num, ⟨⟨_, hbV.trans (q1.below.mono hbV.size)⟩, rfl⟩, by have h1 := HR.out; rw [HS.out, HOK.out, decide_eq_true H0.out] at h1; exact h1, HN⟩
            case measure => simp [intOf]; omega
      · have c5 : ∀ p : Since V.heap.size V, p.val.cell? ⟨b, off + (k - 1) * 2, none⟩ = some (.int .i64 prev) := fun p => HC.out h0 ⟨p.val, hbV.trans (p.below.mono hbV.size)⟩
        have h0' : (0 : Int) < (k : Int) := by omega
        cases v1
        · refine wp_region_since0 (by kernel_rfl) (by kernel_rfl) ?_
          repeat (any_goals (first | go_big_quiet_step ((go_at_call 71; with_reducible refine calls_sameB HV1 (l1In_any r.k 1 99 _))) | (refine wpQuiet_step (fun K hK => ?_); go_simp; split <;> (refine hK _ ?_; clear hK K))))
          all_goals (refine wpQuiet_nil ?_; rintro _ ⟨q1, rfl⟩)
          all_goals have hb1 := hb0.trans ((hbV.trans (q1.below.mono hbV.size)).mono hb0.size)
          all_goals go_wp2
          go_ret
          refine ⟨?_, hb1⟩
          rw [← HR.out, HS.out, HOK.out]; rfl
        · cases v2
          all_goals
            refine wp_region_since0 (by kernel_rfl) (by kernel_rfl) ?_
            repeat (any_goals (first | go_big_quiet_step ((first | (go_at_call 71; with_reducible refine calls_sameB HV1 (l1In_any r.k 1 99 _)) | (go_at_call 71; with_reducible refine calls_sameB HV2 (l1In_any r.c 0 9999 _)))) | (refine wpQuiet_step (fun K hK => ?_); go_simp; split <;> (refine hK _ ?_; clear hK K))))
            all_goals (refine wpQuiet_nil ?_; rintro _ ⟨q1, rfl⟩)
            all_goals have hb1 := hb0.trans ((hbV.trans (q1.below.mono hbV.size)).mono hb0.size)
            all_goals go_wp2
          · go_ret
            refine ⟨?_, hb1⟩
            rw [← HR.out, HS.out, HOK.out]; rfl
          · go_ret
            refine ⟨?_, hb1⟩
            have hm : r.k ≤ prev := by assumption
            rw [← HR.out, HS.out, HOK.out, decide_eq_false (by omega : ¬ k = 0), decide_eq_false (by omega : ¬ prev < r.k)]; rfl
          · have hm : prev < r.k := by assumption
            go_roundw
            case rel => exact ⟨k + 1, r.k, by omega, by go_num, ⟨⟨_, hbV.trans (q1.below.mono hbV.size)⟩, rfl⟩, by have h1 := HR.out; rw [HS.out, HOK.out, decide_eq_true hm, Bool.or_true] at h1; exact h1, HN⟩
            case measure => simp [intOf]; omega
    · have HK : Hid (traysOk x.t = true) := by
        have h1 := HR.out
        rw [List.drop_eq_nil_of_le (by omega)] at h1; exact h1.symm
      clear hrd
      go_wp2
      go_ret
      refine ⟨?_, hb0.trans (q.below.mono hb0.size)⟩
      rw [HK.out, Bool.true_and]
      exact congrArg (fun b => Ending.returned (.bool b)) (decide_eq_decide.2 (by omega))
end Go.Proofs.Ytdiojhjkcholiaa

/- Validity of an office, in the reference: the outings. -/
namespace Go.Proofs.Ytdiojhjkcholiaa
open Go.RowKit

theorem calls_sinceE {P : Program} {f : FuncId} {args : Array Value} {B : Nat} {w : World} {q : Since B w} {v v' : Value} (hv : Hid (v = v')) (hB : B ≤ w.heap.size)
    (h : Calls P f args q.val fun e w' => e = .returned v ∧ Below q.val.heap.size q.val w') : Calls P f args q.val fun e w' => e = .returned v' ∧ ∃ q' : Since B w, w' = q'.val := by
  have := hv.out; subst this; exact calls_since hB h

set_option maxHeartbeats 1000000 in
theorem l32Tray_any (x : Off) (kd : Int) (w : World) (h : OffR w w.heap.size x) :
    Calls Try.prog 73 #[x.val, .int .i64 kd] w fun e w' => e = .returned (.int .i64 (trayIx x.t kd)) ∧ Below w.heap.size w w' := by
  have hl := h.ts.big
  have HF : Hid (idxFrom (fun t : Tray => decide (t.k = kd)) 0 (x.t.drop 0) = trayIx x.t kd) := rfl
  go_enter Try.func73, Try.ntmps73
  go_wp2
  have hb0 := (Below.refl w.heap.size w).alloc (Nat.le_refl _) (.cells #[.slice x.TA x.t.length x.tc, .slice x.OA x.o.length x.oc, .int .i64 x.got, .int .i64 x.sold, .int .i64 x.missed] 25)
  have hS := OffS.of (x := x) (Lies.new w 25 #[.slice x.TA x.t.length x.tc, .slice x.OA x.o.length x.oc, .int .i64 x.got, .int .i64 x.sold, .int .i64 x.missed])
  have hR := h.up hb0 (Nat.le_refl _)
  generalize w.alloc (.cells #[.slice x.TA x.t.length x.tc, .slice x.OA x.o.length x.oc, .int .i64 x.got, .int .i64 x.sold, .int .i64 x.missed] 25) = W at hb0 hS hR ⊢
  have c0 := hS.c0
  have hrd := hR.ts.el
  go_loopw [5] (fun i wr => ∃ (k : Nat), k ≤ x.t.length ∧ i = .int .i64 k ∧ (∃ q : Since W.heap.size W, wr = q.val) ∧ Hid (idxFrom (fun t : Tray => decide (t.k = kd)) k (x.t.drop k) = trayIx x.t kd)) (fun i _ => x.t.length - (intOf i).toNat)
  case atStart => exact ⟨0, Nat.zero_le _, rfl, ⟨Since.start _ _, rfl⟩, HF⟩
  case round =>
    obtain ⟨k, hk, rfl, ⟨q, rfl⟩, HR⟩ := hrel
    by_cases hlt : k < x.t.length
    · obtain ⟨b, off, hA, hb, hcell⟩ := hrd (by omega)
      obtain ⟨e0, e1⟩ := hcell k hlt
      have hy := fun hv => idx_yes (f := fun t : Tray => decide (t.k = kd)) hlt hv
      have hn := fun hv => idx_no (f := fun t : Tray => decide (t.k = kd)) hlt hv
      obtain ⟨r, hre⟩ : ∃ r, r = x.t[k] := ⟨_, rfl⟩
      rw [← hre] at e0 e1 hy hn
      simp only [hA] at c0
      clear hre hcell hrd hA
      by_cases hz : r.k = kd
      · have HE : Hid ((k : Int) = trayIx x.t kd) := by rw [← hy (decide_eq_true hz)]; exact HR.out
        have hv : (r.k == kd) = true := by simp [hz]
        clear hy hn hz
        go_wp2
        go_ret
        exact ⟨by rw [← HE.out]; rfl, hb0.trans (q.below.mono hb0.size)⟩
      · have HE : Hid (idxFrom (fun t : Tray => decide (t.k = kd)) (k + 1) (x.t.drop (k + 1)) = trayIx x.t kd) := by rw [← hn (decide_eq_false hz)]; exact HR.out
        have hv : (r.k == kd) = false := by simp [hz]
        clear hy hn hz
        go_wp2
        go_roundw
        case rel => exact ⟨k + 1, by omega, by go_num, ⟨q, rfl⟩, HE⟩
        case measure => simp [intOf]; omega
    · have HE : Hid (-1 = trayIx x.t kd) := by
        have h1 := HR.out; rw [List.drop_eq_nil_of_le (by omega)] at h1; exact h1
      clear hrd
      go_wp2
      go_ret
      exact ⟨by rw [← HE.out]; rfl, hb0.trans (q.below.mono hb0.size)⟩

theorem l32Key_any (r : Outing) (w : World) (h1 : 1 ≤ r.k ∧ r.k ≤ 99) (h2 : 1 ≤ r.p ∧ r.p ≤ 999) :
    Calls Try.prog 93 #[r.val] w fun e w' => e = .returned (.int .i64 (1000 * r.k + r.p)) ∧ Below w.heap.size w w' := by
  obtain ⟨a1, a2⟩ := h1
  obtain ⟨b1, b2⟩ := h2
  have m : IntKind.i64.wrap (1000 * r.k) = 1000 * r.k := IntWalk.i64_in _ (by omega)
  have s : IntKind.i64.wrap (1000 * r.k + r.p) = 1000 * r.k + r.p := IntWalk.i64_in _ (by omega)
  go_enter Try.func93, Try.ntmps93
  go_wp2
  first
    | (go_ret; exact ⟨rfl, (Below.refl _ _).alloc (Nat.le_refl _) _⟩)
    | (go_quiet (fail); go_wp2; go_ret; exact ⟨rfl, by go_grown⟩)

theorem outs_step {ts : List Tray} {p : Option Outing} {l : List Outing} {k : Nat} (h : k < l.length) : outsFrom ts p (l.drop k) = (l[k].ok ts && (match p with | none => true | some q => before q l[k]) && outsFrom ts (some l[k]) (l.drop (k + 1))) := by
  rw [List.drop_eq_getElem_cons h]; rfl
end Go.Proofs.Ytdiojhjkcholiaa

/- Validity of an office, in the reference: all outings. -/
namespace Go.Proofs.Ytdiojhjkcholiaa
open Go.RowKit

set_option maxHeartbeats 2000000 in
theorem l32Outs_any (x : Off) (w : World) (h : OffR w w.heap.size x) (hall : ∀ i (hi : i < x.t.length), x.t[i].ok = true) :
    Calls Try.prog 68 #[x.val] w fun e w' => e = .returned (.bool (outsOk x.t x.o && decide (x.o.length ≤ 8))) ∧ Below w.heap.size w w' := by
  have hl := h.os.big
  have HALL := Lib.hid hall; clear hall
  go_enter Try.func68, Try.ntmps68
  go_wp2
  have hb0 := (Below.refl w.heap.size w).alloc (Nat.le_refl _) (.cells #[.slice x.TA x.t.length x.tc, .slice x.OA x.o.length x.oc, .int .i64 x.got, .int .i64 x.sold, .int .i64 x.missed] 25)
  have hS := OffS.of (x := x) (Lies.new w 25 #[.slice x.TA x.t.length x.tc, .slice x.OA x.o.length x.oc, .int .i64 x.got, .int .i64 x.sold, .int .i64 x.missed])
  have hR := h.up hb0 (Nat.le_refl _)
  generalize w.alloc (.cells #[.slice x.TA x.t.length x.tc, .slice x.OA x.o.length x.oc, .int .i64 x.got, .int .i64 x.sold, .int .i64 x.missed] 25) = W at hb0 hS hR ⊢
  have hrd := hR.os.el
  go_loopw [3] (fun i wr => ∃ (k : Nat) (prev : Option Outing), k ≤ x.o.length ∧ i = .int .i64 k ∧ (∃ q : Since W.heap.size W, wr = q.val) ∧ Hid (outsFrom x.t prev (x.o.drop k) = outsOk x.t x.o) ∧ Hid ((k = 0 → prev = none) ∧ ∀ (_hk : 0 < k) (h' : k - 1 < x.o.length), prev = some x.o[k - 1] ∧ x.o[k - 1].ok x.t = true)) (fun i _ => x.o.length - (intOf i).toNat)
  case atStart => exact ⟨0, none, Nat.zero_le _, rfl, ⟨Since.start _ _, rfl⟩, rfl, fun _ => rfl, fun h => absurd h (by omega)⟩
  case round =>
    obtain ⟨k, prev, hk, rfl, ⟨q, rfl⟩, HR, HP⟩ := hrel
    obtain ⟨s0, s1, s2, s3, s4⟩ := hS
    by_cases hlt : k < x.o.length
    · obtain ⟨b, off, hA, hb, hcell⟩ := hrd (by omega)
      obtain ⟨e0, e1, e2⟩ := hcell k hlt
      have HS := Lib.hid (outs_step (ts := x.t) (p := prev) hlt)
      obtain ⟨r, hre⟩ : ∃ r, r = x.o[k] := ⟨_, rfl⟩
      have HN : Hid (r.ok x.t = true → (k + 1 = 0 → some r = none) ∧ ∀ (_hk : 0 < k + 1) (h' : k + 1 - 1 < x.o.length), some r = some x.o[k + 1 - 1] ∧ x.o[k + 1 - 1].ok x.t = true) := fun ho => ⟨fun h => by omega, fun _ h' => ⟨by rw [hre]; rfl, by rw [hre] at ho; exact ho⟩⟩
      have HC : Hid (∀ _ : 0 < k, ∃ u : Outing, prev = some u ∧ u.ok x.t = true ∧ OutingS W.heap.size W b (off + (k - 1) * 3) u) := fun h => ⟨x.o[k - 1], (HP.out.2 h (by omega)).1, (HP.out.2 h (by omega)).2, hcell (k - 1) (by omega)⟩
      rw [← hre] at e0 e1 e2 HS
      simp only [hA] at s1
      clear hre hcell hrd
      go_wp2
      have hbV := q.below.alloc q.size (.cells #[.int .i64 r.k, .int .i64 r.p, .int .i64 r.c] 100)
      have hlV := Lies.new q.val 100 #[.int .i64 r.k, .int .i64 r.p, .int .i64 r.c]
      generalize q.val.alloc (.cells #[.int .i64 r.k, .int .i64 r.p, .int .i64 r.c] 100) = V at hbV hlV ⊢
      generalize q.val.heap.size = gv at hlV ⊢
      obtain ⟨d0, d1, d2⟩ := OutingS.of (r := r) hlV
      have up : ∀ {a : Addr} {u : Value}, (∀ p : Since W.heap.size W, p.val.cell? a = some u) → ∀ p : Since V.heap.size V, p.val.cell? a = some u := fun h p => h ⟨p.val, hbV.trans (p.below.mono hbV.size)⟩
      have s0 := up s0
      have s1 := up s1
      have s2 := up s2
      have s3 := up s3
      have s4 := up s4
      have hxe : ({ x with OA := some ⟨b, off, none⟩ } : Off) = x := by rw [← hA]
      have hRV : ∀ p : Since V.heap.size V, OffR p.val p.val.heap.size { x with OA := some ⟨b, off, none⟩ } := fun p => by rw [hxe]; exact hR.at ⟨p.val, hbV.trans (p.below.mono hbV.size)⟩
      clear hxe hA
      have HOK : Hid (r.ok x.t = (hasTray x.t r.k && inR r.p 1 999 && inR r.c 1 9999)) := rfl
      clear e0 e1 e2
      obtain ⟨X, hX⟩ : ∃ X, trayIx x.t r.k = X := ⟨_, rfl⟩
      have HX : Hid (Value.int .i64 (trayIx x.t r.k) = .int .i64 X) := by rw [hX]; rfl
      have HH : Hid (hasTray x.t r.k = decide (0 ≤ X)) := by rw [← hX]; exact (trayIx_has _ _).symm
      obtain ⟨v2, hv2⟩ : ∃ v, inR r.p 1 999 = v := ⟨_, rfl⟩
      obtain ⟨v3, hv3⟩ : ∃ v, inR r.c 1 9999 = v := ⟨_, rfl⟩
      rw [hv2, hv3] at HOK
      have HV2 := Lib.hid hv2; clear hv2
      have HV3 := Lib.hid hv3; clear hv3
      clear hX
      by_cases hX0 : 0 ≤ X
      · have hd0 : decide (X < 0) = false := decide_eq_false (by omega)
        have HXT : Hid (decide (0 ≤ X) = true) := decide_eq_true hX0
        cases v2
        · rcases Nat.eq_zero_or_pos k with h0 | h0
          · have hd : decide (0 < k) = false := decide_eq_false (by omega)
            clear h0
            refine wp_region_since0 (by kernel_rfl) (by kernel_rfl) ?_
            repeat (any_goals (first | go_big_quiet_step ((first | (go_at_call 73; with_reducible refine calls_sinceE HX (Nat.le_refl _) (l32Tray_any { x with OA := some ⟨b, off, none⟩ } r.k _ (hRV _))) | (go_at_call 71; with_reducible refine calls_sameB HV2 (l1In_any r.p 1 999 _)))) | (refine wpQuiet_step (fun K hK => ?_); go_simp; split <;> (refine hK _ ?_; clear hK K))))
            all_goals (refine wpQuiet_nil ?_; rintro _ ⟨q1, rfl⟩)
            all_goals have hb1 := hb0.trans ((hbV.trans (q1.below.mono hbV.size)).mono hb0.size)
            all_goals go_wp2
            go_ret
            refine ⟨?_, hb1⟩
            rw [← HR.out, HS.out, HOK.out, Bool.and_false]; rfl
          · have h0' : (0 : Int) < (k : Int) := by omega
            refine wp_region_since0 (by kernel_rfl) (by kernel_rfl) ?_
            repeat (any_goals (first | go_big_quiet_step ((first | (go_at_call 73; with_reducible refine calls_sinceE HX (Nat.le_refl _) (l32Tray_any { x with OA := some ⟨b, off, none⟩ } r.k _ (hRV _))) | (go_at_call 71; with_reducible refine calls_sameB HV2 (l1In_any r.p 1 999 _)))) | (refine wpQuiet_step (fun K hK => ?_); go_simp; split <;> (refine hK _ ?_; clear hK K))))
            all_goals (refine wpQuiet_nil ?_; rintro _ ⟨q1, rfl⟩)
            all_goals have hb1 := hb0.trans ((hbV.trans (q1.below.mono hbV.size)).mono hb0.size)
            all_goals go_wp2
            go_ret
            refine ⟨?_, hb1⟩
            rw [← HR.out, HS.out, HOK.out, Bool.and_false]; rfl
        · cases v3
          · rcases Nat.eq_zero_or_pos k with h0 | h0
            · have hd : decide (0 < k) = false := decide_eq_false (by omega)
              clear h0
              refine wp_region_since0 (by kernel_rfl) (by kernel_rfl) ?_
              repeat (any_goals (first | go_big_quiet_step ((first | (go_at_call 73; with_reducible refine calls_sinceE HX (Nat.le_refl _) (l32Tray_any { x with OA := some ⟨b, off, none⟩ } r.k _ (hRV _))) | (go_at_call 71; with_reducible refine calls_sameB HV2 (l1In_any r.p 1 999 _)) | (go_at_call 71; with_reducible refine calls_sameB HV3 (l1In_any r.c 1 9999 _)))) | (refine wpQuiet_step (fun K hK => ?_); go_simp; split <;> (refine hK _ ?_; clear hK K))))
              all_goals (refine wpQuiet_nil ?_; rintro _ ⟨q1, rfl⟩)
              all_goals have hb1 := hb0.trans ((hbV.trans (q1.below.mono hbV.size)).mono hb0.size)
              all_goals go_wp2
              go_ret
              refine ⟨?_, hb1⟩
              rw [← HR.out, HS.out, HOK.out, Bool.and_false]; rfl
            · have h0' : (0 : Int) < (k : Int) := by omega
              refine wp_region_since0 (by kernel_rfl) (by kernel_rfl) ?_
              repeat (any_goals (first | go_big_quiet_step ((first | (go_at_call 73; with_reducible refine calls_sinceE HX (Nat.le_refl _) (l32Tray_any { x with OA := some ⟨b, off, none⟩ } r.k _ (hRV _))) | (go_at_call 71; with_reducible refine calls_sameB HV2 (l1In_any r.p 1 999 _)) | (go_at_call 71; with_reducible refine calls_sameB HV3 (l1In_any r.c 1 9999 _)))) | (refine wpQuiet_step (fun K hK => ?_); go_simp; split <;> (refine hK _ ?_; clear hK K))))
              all_goals (refine wpQuiet_nil ?_; rintro _ ⟨q1, rfl⟩)
              all_goals have hb1 := hb0.trans ((hbV.trans (q1.below.mono hbV.size)).mono hb0.size)
              all_goals go_wp2
              go_ret
              refine ⟨?_, hb1⟩
              rw [← HR.out, HS.out, HOK.out, Bool.and_false]; rfl
          · have HRO : Hid (r.ok x.t = true) := by unfold Hid; rw [HOK.out, HH.out, HXT.out]; rfl
            rcases Nat.eq_zero_or_pos k with h0 | h0
            · have hd : decide (0 < k) = false := decide_eq_false (by omega)
              have HP0 : Hid (prev = none) := HP.out.1 h0
              clear h0
              refine wp_region_since0 (by kernel_rfl) (by kernel_rfl) ?_
              repeat (any_goals (first | go_big_quiet_step ((first | (go_at_call 73; with_reducible refine calls_sinceE HX (Nat.le_refl _) (l32Tray_any { x with OA := some ⟨b, off, none⟩ } r.k _ (hRV _))) | (go_at_call 71; with_reducible refine calls_sameB HV2 (l1In_any r.p 1 999 _)) | (go_at_call 71; with_reducible refine calls_sameB HV3 (l1In_any r.c 1 9999 _)))) | (refine wpQuiet_step (fun K hK => ?_); go_simp; split <;> (refine hK _ ?_; clear hK K))))
              all_goals (refine wpQuiet_nil ?_; rintro _ ⟨q1, rfl⟩)
              all_goals have hb1 := hb0.trans ((hbV.trans (q1.below.mono hbV.size)).mono hb0.size)
              all_goals go_wp2
              go_roundw
              case rel => exact ⟨k + 1, some r, by omega, by go_num, ⟨⟨_, hbV.trans (q1.below.mono hbV.size)⟩, rfl⟩, by have h1 := HR.out; rw [HS.out, HRO.out, HP0.out] at h1; exact h1, HN.out HRO.out⟩
              case measure => simp [intOf]; omega
            · have h0' : (0 : Int) < (k : Int) := by omega
              obtain ⟨u, hpu, huo, ⟨t0, t1, t2⟩⟩ := HC.out h0
              have t0 := up t0
              have t1 := up t1
              have t2 := up t2
              subst hpu
              have HS2 : Hid (outsFrom x.t (some u) (x.o.drop k) = (r.ok x.t && before u r && outsFrom x.t (some r) (x.o.drop (k + 1)))) := HS.out
              obtain ⟨hh1, hp1, _⟩ := Outing.bounds huo
              obtain ⟨hh2, hp2, _⟩ := Outing.bounds HRO.out
              have HKU := Lib.hid (And.intro (hasTray_bounds HALL.out hh1) hp1)
              have HKR := Lib.hid (And.intro (hasTray_bounds HALL.out hh2) hp2)
              have HB : Hid (before u r = decide (1000 * u.k + u.p < 1000 * r.k + r.p)) := before_key hp1 hp2
              clear huo hh1 hp1 hh2 hp2 up
              obtain ⟨K1, hK1⟩ : ∃ K, 1000 * u.k + u.p = K := ⟨_, rfl⟩
              obtain ⟨K2, hK2⟩ : ∃ K, 1000 * r.k + r.p = K := ⟨_, rfl⟩
              rw [hK1, hK2] at HB
              have HK1 : Hid (Value.int .i64 (1000 * u.k + u.p) = .int .i64 K1) := by rw [hK1]; rfl
              have HK2 : Hid (Value.int .i64 (1000 * r.k + r.p) = .int .i64 K2) := by rw [hK2]; rfl
              clear hK1 hK2
              refine wp_region_since0 (by kernel_rfl) (by kernel_rfl) ?_
              repeat (any_goals (first | go_big_quiet_step ((first | (go_at_call 73; with_reducible refine calls_sinceE HX (Nat.le_refl _) (l32Tray_any { x with OA := some ⟨b, off, none⟩ } r.k _ (hRV _))) | (go_at_call 71; with_reducible refine calls_sameB HV2 (l1In_any r.p 1 999 _)) | (go_at_call 71; with_reducible refine calls_sameB HV3 (l1In_any r.c 1 9999 _)) | (go_at_call 93; with_reducible refine calls_sinceE HK1 (Nat.le_refl _) (l32Key_any u _ HKU.out.1 HKU.out.2)) | (go_at_call 93; with_reducible refine calls_sinceE HK2 (Nat.le_refl _) (l32Key_any r _ HKR.out.1 HKR.out.2)))) | (refine wpQuiet_step (fun K hK => ?_); go_simp; split <;> (refine hK _ ?_; clear hK K))))
              all_goals (refine wpQuiet_nil ?_; rintro _ ⟨q1, rfl⟩)
              all_goals have hb1 := hb0.trans ((hbV.trans (q1.below.mono hbV.size)).mono hb0.size)
              all_goals go_wp2
              · go_ret
                refine ⟨?_, hb1⟩
                have hm : K2 ≤ K1 := by assumption
                rw [← HR.out, HS2.out, HRO.out, HB.out, decide_eq_false (by omega)]; rfl
              · have hm : K1 < K2 := by assumption
                go_roundw
                case rel => exact ⟨k + 1, some r, by omega, by go_num, ⟨⟨_, hbV.trans (q1.below.mono hbV.size)⟩, rfl⟩, by have h1 := HR.out; rw [HS2.out, HRO.out, HB.out, decide_eq_true hm] at h1; exact h1, HN.out HRO.out⟩
                case measure => simp [intOf]; omega
      · have hd0 : decide (X < 0) = true := decide_eq_true (by omega)
        have HXT : Hid (decide (0 ≤ X) = false) := decide_eq_false hX0
        rcases Nat.eq_zero_or_pos k with h0 | h0
        · have hd : decide (0 < k) = false := decide_eq_false (by omega)
          clear h0
          refine wp_region_since0 (by kernel_rfl) (by kernel_rfl) ?_
          repeat (any_goals (first | go_big_quiet_step ((go_at_call 73; with_reducible refine calls_sinceE HX (Nat.le_refl _) (l32Tray_any { x with OA := some ⟨b, off, none⟩ } r.k _ (hRV _)))) | (refine wpQuiet_step (fun K hK => ?_); go_simp; split <;> (refine hK _ ?_; clear hK K))))
          all_goals (refine wpQuiet_nil ?_; rintro _ ⟨q1, rfl⟩)
          all_goals have hb1 := hb0.trans ((hbV.trans (q1.below.mono hbV.size)).mono hb0.size)
          all_goals go_wp2
          go_ret
          refine ⟨?_, hb1⟩
          rw [← HR.out, HS.out, HOK.out, HH.out, HXT.out]; rfl
        · have h0' : (0 : Int) < (k : Int) := by omega
          refine wp_region_since0 (by kernel_rfl) (by kernel_rfl) ?_
          repeat (any_goals (first | go_big_quiet_step ((go_at_call 73; with_reducible refine calls_sinceE HX (Nat.le_refl _) (l32Tray_any { x with OA := some ⟨b, off, none⟩ } r.k _ (hRV _)))) | (refine wpQuiet_step (fun K hK => ?_); go_simp; split <;> (refine hK _ ?_; clear hK K))))
          all_goals (refine wpQuiet_nil ?_; rintro _ ⟨q1, rfl⟩)
          all_goals have hb1 := hb0.trans ((hbV.trans (q1.below.mono hbV.size)).mono hb0.size)
          all_goals go_wp2
          go_ret
          refine ⟨?_, hb1⟩
          rw [← HR.out, HS.out, HOK.out, HH.out, HXT.out]; rfl
    · have HK : Hid (outsOk x.t x.o = true) := by
        have h1 := HR.out
        rw [List.drop_eq_nil_of_le (by omega)] at h1; exact h1.symm
      clear hrd
      go_wp2
      go_ret
      refine ⟨?_, hb0.trans (q.below.mono hb0.size)⟩
      rw [HK.out, Bool.true_and]
      exact congrArg (fun b => Ending.returned (.bool b)) (decide_eq_decide.2 (by omega))
end Go.Proofs.Ytdiojhjkcholiaa

/- Validity of an office, in the reference: sums, the whole. -/
namespace Go.Proofs.Ytdiojhjkcholiaa
open Go.RowKit

theorem calls_since0B {P : Program} {f : FuncId} {args : Array Value} {W : World} {b b' : Bool} (hb : Hid (b = b'))
    (h : Calls P f args W fun e w' => e = .returned (.bool b) ∧ Below W.heap.size W w') : Calls P f args W fun e w' => e = .returned (.bool b') ∧ ∃ q' : Since W.heap.size W, w' = q'.val := by
  have := hb.out; subst this; exact calls_since0 h
theorem l32All_any (n : Int) (w : World) : Calls Try.prog 69 #[.int .i64 n] w fun e w' => e = .returned (.bool (inR n 0 99999)) ∧ w = w' := by
  go_enter Try.func69, Try.ntmps69
  go_wp2_with fail
  refine (l1In_any n 0 99999 _).mono ?_
  rintro e w' ⟨rfl, rfl⟩
  go_wp2
  go_ret
  exact ⟨rfl, rfl⟩

set_option maxHeartbeats 1000000 in
theorem l32Sums_any (x : Off) (w : World) (h : OffR w w.heap.size x) (tl : x.t.length ≤ 8) (ol : x.o.length ≤ 8) (ht : ∀ i (hi : i < x.t.length), x.t[i].ok = true) (ho : ∀ i (hi : i < x.o.length), x.o[i].ok x.t = true) :
    Calls Try.prog 70 #[x.val] w fun e w' => e = .returned (.tuple #[.int .i64 (inSum x.t), .int .i64 (outSum every x.o)]) ∧ Below w.heap.size w w' := by
  have HT := Lib.hid ht; clear ht
  have HO := Lib.hid ho; clear ho
  have HF : Hid (inFrom 0 (x.t.drop 0) = inSum x.t) := rfl
  have HG : Hid (outFrom every 0 (x.o.drop 0) = outSum every x.o) := rfl
  go_enter Try.func70, Try.ntmps70
  go_wp2
  have hb0 := (Below.refl w.heap.size w).alloc (Nat.le_refl _) (.cells #[.slice x.TA x.t.length x.tc, .slice x.OA x.o.length x.oc, .int .i64 x.got, .int .i64 x.sold, .int .i64 x.missed] 25)
  have hS := OffS.of (x := x) (Lies.new w 25 #[.slice x.TA x.t.length x.tc, .slice x.OA x.o.length x.oc, .int .i64 x.got, .int .i64 x.sold, .int .i64 x.missed])
  have hR := h.up hb0 (Nat.le_refl _)
  generalize w.alloc (.cells #[.slice x.TA x.t.length x.tc, .slice x.OA x.o.length x.oc, .int .i64 x.got, .int .i64 x.sold, .int .i64 x.missed] 25) = W at hb0 hS hR ⊢
  obtain ⟨s0, s1, s2, s3, s4⟩ := hS
  have hrt := hR.ts.el
  have hro := hR.os.el
  go_loopw [4, 6] (fun s i wr => ∃ (k : Nat) (t : Int), k ≤ x.t.length ∧ i = .int .i64 k ∧ s = .int .i64 t ∧ (0 ≤ t ∧ t ≤ 9999 * (k : Int)) ∧ (∃ q : Since W.heap.size W, wr = q.val) ∧ Hid (inFrom t (x.t.drop k) = inSum x.t)) (fun _ i _ => x.t.length - (intOf i).toNat)
  case atStart => exact ⟨0, 0, Nat.zero_le _, rfl, rfl, by omega, ⟨Since.start _ _, rfl⟩, HF⟩
  case round =>
    obtain ⟨k, t, hk, rfl, rfl, ⟨t0, t1⟩, ⟨q, rfl⟩, HR⟩ := hrel
    by_cases hlt : k < x.t.length
    · obtain ⟨b, off, hA, hb, hcell⟩ := hrt (by omega)
      obtain ⟨e0, e1⟩ := hcell k hlt
      obtain ⟨_, x1, x2⟩ := Tray.bounds (HT.out k hlt)
      have HS := Lib.hid (in_step hlt t)
      obtain ⟨r, hre⟩ : ∃ r, r = x.t[k] := ⟨_, rfl⟩
      rw [← hre] at e0 e1 HS x1 x2
      simp only [hA] at s0
      clear hre hcell hrt hro hA
      go_wp2
      go_roundw
      case rel => exact ⟨k + 1, t + r.c, by omega, by go_num, rfl, by omega, ⟨q, rfl⟩, by have h1 := HR.out; rw [HS.out] at h1; exact h1⟩
      case measure => simp [intOf]; omega
    · have HE : Hid (t = inSum x.t) := by
        have h1 := HR.out; rw [List.drop_eq_nil_of_le (by omega)] at h1; exact h1
      clear hrt
      go_wp2
      go_loopw [5, 7] (fun s i wr => ∃ (k : Nat) (u : Int), k ≤ x.o.length ∧ i = .int .i64 k ∧ s = .int .i64 u ∧ (0 ≤ u ∧ u ≤ 9999 * (k : Int)) ∧ (∃ q : Since W.heap.size W, wr = q.val) ∧ Hid (outFrom every u (x.o.drop k) = outSum every x.o)) (fun _ i _ => x.o.length - (intOf i).toNat)
      case atStart => exact ⟨0, 0, Nat.zero_le _, rfl, rfl, by omega, ⟨q, rfl⟩, HG⟩
      case round =>
        obtain ⟨j, u, hj, rfl, rfl, ⟨u0, u1⟩, ⟨p, rfl⟩, HU⟩ := hrel
        by_cases hlj : j < x.o.length
        · obtain ⟨b, off, hA, hb, hcell⟩ := hro (by omega)
          obtain ⟨e0, e1, e2⟩ := hcell j hlj
          obtain ⟨_, _, x1, x2⟩ := Outing.bounds (HO.out j hlj)
          have HS : Hid (outFrom every u (x.o.drop j) = outFrom every (u + x.o[j].c) (x.o.drop (j + 1))) := out_step (f := every) hlj u
          obtain ⟨r, hre⟩ : ∃ r, r = x.o[j] := ⟨_, rfl⟩
          rw [← hre] at e0 e1 e2 HS x1 x2
          simp only [hA] at s1
          clear hre hcell hro hA
          go_wp2
          go_roundw
          case rel => exact ⟨j + 1, u + r.c, by omega, by go_num, rfl, by omega, ⟨p, rfl⟩, by have h1 := HU.out; rw [HS.out] at h1; exact h1⟩
          case measure => simp [intOf]; omega
        · have HE2 : Hid (u = outSum every x.o) := by
            have h1 := HU.out; rw [List.drop_eq_nil_of_le (by omega)] at h1; exact h1
          clear hro
          go_wp2
          go_ret2
          exact ⟨by rw [← HE.out, ← HE2.out]; rfl, hb0.trans (p.below.mono hb0.size)⟩

set_option maxHeartbeats 2000000 in
theorem l32Good_any (x : Off) (w : World) (h : OffR w w.heap.size x) :
    Calls Try.prog 40 #[x.val] w fun e w' => e = .returned (.bool (goodOff x)) ∧ Below w.heap.size w w' := by
  have hb0 := (Below.refl w.heap.size w).alloc (Nat.le_refl _) (.cells #[.slice x.TA x.t.length x.tc, .slice x.OA x.o.length x.oc, .int .i64 x.got, .int .i64 x.sold, .int .i64 x.missed] 25)
  have hS := OffS.of (x := x) (Lies.new w 25 #[.slice x.TA x.t.length x.tc, .slice x.OA x.o.length x.oc, .int .i64 x.got, .int .i64 x.sold, .int .i64 x.missed])
  have hR := h.up hb0 (Nat.le_refl _)
  have HG : Hid (goodOff x = ((traysOk x.t && decide (x.t.length ≤ 8)) && (outsOk x.t x.o && decide (x.o.length ≤ 8)) && inR x.got 0 99999 && inR x.sold 0 99999 && inR x.missed 0 99999 && sumOk x)) := by
    unfold Hid goodOff sizesOk numsOk
    generalize traysOk x.t = a1; generalize outsOk x.t x.o = a2; generalize decide (x.t.length ≤ 8) = a3; generalize decide (x.o.length ≤ 8) = a4; generalize inR x.got 0 99999 = a5; generalize inR x.sold 0 99999 = a6; generalize inR x.missed 0 99999 = a7; generalize sumOk x = a8
    cases a1 <;> cases a2 <;> cases a3 <;> cases a4 <;> cases a5 <;> cases a6 <;> cases a7 <;> rfl
  obtain ⟨v1, hv1⟩ : ∃ v, (traysOk x.t && decide (x.t.length ≤ 8)) = v := ⟨_, rfl⟩
  obtain ⟨v2, hv2⟩ : ∃ v, (outsOk x.t x.o && decide (x.o.length ≤ 8)) = v := ⟨_, rfl⟩
  obtain ⟨v3, hv3⟩ : ∃ v, inR x.got 0 99999 = v := ⟨_, rfl⟩
  obtain ⟨v4, hv4⟩ : ∃ v, inR x.sold 0 99999 = v := ⟨_, rfl⟩
  obtain ⟨v5, hv5⟩ : ∃ v, inR x.missed 0 99999 = v := ⟨_, rfl⟩
  rw [hv1, hv2, hv3, hv4, hv5] at HG
  have cT : ∀ W, OffR W W.heap.size x → Calls Try.prog 67 #[x.val] W fun e w' => e = .returned (.bool v1) ∧ Below W.heap.size W w' := fun W hW => by rw [← hv1]; exact l32Trays_any x W hW
  have c3 := fun W => l32All_any x.got W
  have c4 := fun W => l32All_any x.sold W
  have c5 := fun W => l32All_any x.missed W
  rw [hv3] at c3
  rw [hv4] at c4
  rw [hv5] at c5
  have HV1 := Lib.hid hv1; clear hv1
  have HV2 := Lib.hid hv2; clear hv2
  have HV3 := Lib.hid hv3; clear hv3
  have HV4 := Lib.hid hv4; clear hv4
  have HV5 := Lib.hid hv5; clear hv5
  cases v1
  · go_enter Try.func40, Try.ntmps40
    go_wp2_with fail
    generalize w.alloc (.cells #[.slice x.TA x.t.length x.tc, .slice x.OA x.o.length x.oc, .int .i64 x.got, .int .i64 x.sold, .int .i64 x.missed] 25) = W at hb0 hS hR ⊢
    refine (calls_since0 (cT W hR)).mono ?_
    rintro e w1 ⟨rfl, q1, rfl⟩
    go_wp2
    go_ret
    exact ⟨by rw [HG.out]; rfl, hb0.trans (q1.below.mono hb0.size)⟩
  · have h1 := HV1.out
    rw [Bool.and_eq_true] at h1
    have tl : x.t.length ≤ 8 := of_decide_eq_true h1.2
    have HALL := Lib.hid (traysFrom_all _ _ _ h1.1)
    have cO : ∀ W, OffR W W.heap.size x → Calls Try.prog 68 #[x.val] W fun e w' => e = .returned (.bool v2) ∧ Below W.heap.size W w' := fun W hW => by rw [← HV2.out]; exact l32Outs_any x W hW HALL.out
    clear h1
    cases v2
    · go_enter Try.func40, Try.ntmps40
      go_wp2_with fail
      generalize w.alloc (.cells #[.slice x.TA x.t.length x.tc, .slice x.OA x.o.length x.oc, .int .i64 x.got, .int .i64 x.sold, .int .i64 x.missed] 25) = W at hb0 hS hR ⊢
      obtain ⟨s0, s1, s2, s3, s4⟩ := hS
      refine (calls_since0 (cT W hR)).mono ?_
      rintro e w1 ⟨rfl, q1, rfl⟩
      go_wp2_with fail
      refine (calls_since (Nat.le_refl _) (cO _ (hR.at q1))).mono ?_
      rintro e w2 ⟨rfl, q2, rfl⟩
      go_wp2
      go_ret
      exact ⟨by rw [HG.out]; rfl, hb0.trans (q2.below.mono hb0.size)⟩
    · have h2 := HV2.out
      rw [Bool.and_eq_true] at h2
      have ol : x.o.length ≤ 8 := of_decide_eq_true h2.2
      have HOLL := Lib.hid (outsFrom_all _ _ _ h2.1)
      have cM := fun W hW => l32Sums_any x W hW tl ol HALL.out HOLL.out
      have hi := inFrom_bd x.t 0 HALL.out
      have hj := outFrom_bd every x.t x.o 0 HOLL.out
      have HSM : Hid (sumOk x = decide (x.got = inSum x.t + outSum every x.o + x.sold + x.missed)) := rfl
      change 0 ≤ inSum x.t ∧ inSum x.t ≤ _ at hi
      change 0 ≤ outSum every x.o ∧ outSum every x.o ≤ _ at hj
      generalize inSum x.t = I at cM hi HSM
      generalize outSum every x.o = J at cM hj HSM
      obtain ⟨i1, i2⟩ := hi
      obtain ⟨j1, j2⟩ := hj
      clear h2
      by_cases hall3 : (v3 && v4 && v5) = true
      · rw [Bool.and_eq_true, Bool.and_eq_true] at hall3
        obtain ⟨⟨rfl, rfl⟩, rfl⟩ := hall3
        obtain ⟨g1, g2⟩ := inR_iff.1 HV3.out
        obtain ⟨g3, g4⟩ := inR_iff.1 HV4.out
        obtain ⟨g5, g6⟩ := inR_iff.1 HV5.out
        obtain ⟨z, hz⟩ : ∃ z, decide (x.got = I + J + x.sold + x.missed) = z := ⟨_, rfl⟩
        have hzz : (x.got == I + J + x.sold + x.missed) = z := by rw [← hz, Bool.eq_iff_iff]; simp
        have HZ := Lib.hid hz; clear hz
        cases z
        all_goals
          go_enter Try.func40, Try.ntmps40
          go_wp2_with fail
          generalize w.alloc (.cells #[.slice x.TA x.t.length x.tc, .slice x.OA x.o.length x.oc, .int .i64 x.got, .int .i64 x.sold, .int .i64 x.missed] 25) = W at hb0 hS hR ⊢
          obtain ⟨s0, s1, s2, s3, s4⟩ := hS
          refine (calls_since0 (cT W hR)).mono ?_
          rintro e w1 ⟨rfl, q1, rfl⟩
          go_wp2_with fail
          refine (calls_since (Nat.le_refl _) (cO _ (hR.at q1))).mono ?_
          rintro e w2 ⟨rfl, q2, rfl⟩
          go_wp2_with fail
          refine (c3 _).mono ?_
          rintro e w3 ⟨rfl, rfl⟩
          go_wp2_with fail
          refine (c4 _).mono ?_
          rintro e w3 ⟨rfl, rfl⟩
          go_wp2_with fail
          refine (c5 _).mono ?_
          rintro e w3 ⟨rfl, rfl⟩
          go_wp2_with fail
          refine (calls_since (Nat.le_refl _) (cM _ (hR.at q2))).mono ?_
          rintro e w4 ⟨rfl, q4, rfl⟩
          go_wp2
          go_ret
          exact ⟨by rw [HG.out, HSM.out, HZ.out]; rfl, hb0.trans (q4.below.mono hb0.size)⟩
      · have HGF : Hid (goodOff x = false) := by
          unfold Hid; rw [HG.out]
          cases v3 <;> cases v4 <;> cases v5 <;> first | rfl | exact absurd rfl hall3
        cases v3
        all_goals (try cases v4)
        all_goals (try cases v5)
        all_goals first
          | exact absurd rfl hall3
          | skip
        all_goals
          clear hall3
          go_enter Try.func40, Try.ntmps40
          go_wp2_with fail
          generalize w.alloc (.cells #[.slice x.TA x.t.length x.tc, .slice x.OA x.o.length x.oc, .int .i64 x.got, .int .i64 x.sold, .int .i64 x.missed] 25) = W at hb0 hS hR ⊢
          obtain ⟨s0, s1, s2, s3, s4⟩ := hS
          refine (calls_since0 (cT W hR)).mono ?_
          rintro e w1 ⟨rfl, q1, rfl⟩
          go_wp2_with fail
          refine (calls_since (Nat.le_refl _) (cO _ (hR.at q1))).mono ?_
          rintro e w2 ⟨rfl, q2, rfl⟩
          go_wp2_with fail
          refine (c3 _).mono ?_
          rintro e w3 ⟨rfl, rfl⟩
          go_wp2_with (first | (go_at_call 69; with_reducible refine (c4 _).mono ?_; rintro e w4 ⟨rfl, rfl⟩) | (go_at_call 69; with_reducible refine (c5 _).mono ?_; rintro e w4 ⟨rfl, rfl⟩))
          go_ret
          exact ⟨by rw [HGF.out]; rfl, hb0.trans (q2.below.mono hb0.size)⟩
end Go.Proofs.Ytdiojhjkcholiaa

/- Offices in the program: closures, the place of a tray, sums, the order of outings. -/
namespace Go.Proofs.Ytdiojhjkcholiaa
open Go.RowKit

/-- An office lies at the head of block g, below B, its slices too. -/
structure OffAt (w : World) (B g : Nat) (x : Off) : Prop where
  s : OffS B w g x
  lt : g < B
  r : OffR w B x
theorem OffAt.of {w : World} {g : Nat} {t : TypeId} {x : Off} (h : Lies w g t x.enc) (hr : OffR w w.heap.size x) : OffAt w w.heap.size g x := ⟨OffS.of h, h.lt, hr⟩
theorem OffAt.then {w w' : World} {B g : Nat} {x : Off} (h : OffAt w B g x) (hb : Below B w w') {B' : Nat} (hB : B ≤ B') : OffAt w' B' g x :=
  ⟨⟨fun p => h.s.c0 ⟨p.val, hb.trans (p.below.mono hB)⟩, fun p => h.s.c1 ⟨p.val, hb.trans (p.below.mono hB)⟩, fun p => h.s.c2 ⟨p.val, hb.trans (p.below.mono hB)⟩, fun p => h.s.c3 ⟨p.val, hb.trans (p.below.mono hB)⟩, fun p => h.s.c4 ⟨p.val, hb.trans (p.below.mono hB)⟩⟩, Nat.lt_of_lt_of_le h.lt hB, (h.r.below hb).mono hB⟩
theorem OffAt.at {w : World} {g : Nat} {x : Off} (h : OffAt w w.heap.size g x) (q : Since w.heap.size w) : OffAt q.val q.val.heap.size g x := h.then q.below q.size

/-- slices.IndexFunc over trays, whatever the function value. -/
theorem idxTrays_any (f : Tray → Bool) (g : Nat) (lb : Array Value) (eg : ∀ args w, (callFunc g args).run Try.prog w = .ok (.enter g args) w) (A : Option Addr) (c : Nat) (l : List Tray) (w : World)
    (hf : ∀ (t : Tray) (p : Since w.heap.size w), Calls Try.prog g (#[t.val] ++ lb) p.val fun e w' => e = .returned (.bool (f t)) ∧ Below p.val.heap.size p.val w') (h : TraysR w w.heap.size A l) :
    Calls Try.prog 96 #[.slice A l.length c, .func (.func g) #[] lb] w fun e w' => e = .returned (.int .i64 (idxFrom f 0 l)) ∧ Below w.heap.size w w' := by
  have hl := h.big
  have hrd := h.el
  have HF : Hid (idxFrom f 0 (l.drop 0) = idxFrom f 0 l) := rfl
  have HC := Lib.hid hf; clear hf
  go_enter Try.func96, Try.ntmps96
  go_wp2
  go_loopw [8] (fun i wr => ∃ (k : Nat), k ≤ l.length ∧ i = .int .i64 k ∧ (∃ q : Since w.heap.size w, wr = q.val) ∧ Hid (idxFrom f k (l.drop k) = idxFrom f 0 l)) (fun i _ => l.length - (intOf i).toNat)
  case atStart => exact ⟨0, Nat.zero_le _, rfl, ⟨Since.start _ _, rfl⟩, HF⟩
  case round =>
    obtain ⟨k, hk, rfl, ⟨q, rfl⟩, HR⟩ := hrel
    by_cases hlt : k < l.length
    · obtain ⟨b, off, rfl, hb, hcell⟩ := hrd (by omega)
      obtain ⟨c0, c1⟩ := hcell k hlt
      have hy := fun hv => idx_yes (f := f) hlt hv
      have hn := fun hv => idx_no (f := f) hlt hv
      obtain ⟨x, hxe⟩ : ∃ x, x = l[k] := ⟨_, rfl⟩
      rw [← hxe] at c0 c1 hy hn
      clear hxe hcell hrd
      cases hv : f x
      · have HE : Hid (idxFrom f (k + 1) (l.drop (k + 1)) = idxFrom f 0 l) := by rw [← hn hv]; exact HR.out
        have hcx := fun p => HC.out x p
        rw [hv] at hcx
        clear hy hn hv
        go_wp2_with fail
        refine (calls_since (Nat.le_refl _) (hcx _)).mono ?_
        rintro e w1 ⟨rfl, q1, rfl⟩
        go_wp2
        go_roundw
        case rel => exact ⟨k + 1, by omega, by go_num, ⟨q1, rfl⟩, HE⟩
        case measure => simp [intOf]; omega
      · have HE : Hid ((k : Int) = idxFrom f 0 l) := by rw [← hy hv]; exact HR.out
        have hcx := fun p => HC.out x p
        rw [hv] at hcx
        clear hy hn hv
        go_wp2_with fail
        refine (calls_since (Nat.le_refl _) (hcx _)).mono ?_
        rintro e w1 ⟨rfl, q1, rfl⟩
        go_wp2
        go_ret
        exact ⟨by rw [← HE.out]; rfl, q1.below⟩
    · have HE : Hid (-1 = idxFrom f 0 l) := by
        have h1 := HR.out; rw [List.drop_eq_nil_of_le (by omega)] at h1; exact h1
      clear hrd
      go_wp2
      go_ret
      exact ⟨by rw [← HE.out]; rfl, q.below⟩

/-- The closure of trayAt. -/
theorem ofKind_any (t : Tray) (gk : Nat) (kd : Int) (w : World) (hk : gk < w.heap.size) (hc : w.cell? ⟨gk, 0, none⟩ = some (.int .i64 kd)) :
    Calls Try.prog 97 #[t.val, .pointer (some ⟨gk, 0, none⟩)] w fun e w' => e = .returned (.bool (decide (t.k = kd))) ∧ Below w.heap.size w w' := by
  have hc' : (w.alloc (.cells #[.int .i64 t.k, .int .i64 t.c] 74)).cell? ⟨gk, 0, none⟩ = some (.int .i64 kd) := ((Below.refl w.heap.size w).alloc (Nat.le_refl _) _).cell hk |>.trans hc
  by_cases hz : t.k = kd
  all_goals
    obtain ⟨v, hv⟩ : ∃ v, (t.k == kd) = v := ⟨_, rfl⟩
    have HV : Hid (decide (t.k = kd) = v) := by rw [← hv]; unfold Hid; rw [Bool.eq_iff_iff]; simp
    clear hz
    go_enter Try.func97, Try.ntmps97
    go_wp2
    go_ret
    exact ⟨by rw [HV.out]; rfl, (Below.refl _ _).alloc (Nat.le_refl _) _⟩

theorem trayAt_any (x : Off) (g : Nat) (kd : Int) (w : World) (h : OffAt w w.heap.size g x) :
    Calls Try.prog 77 #[.pointer (some ⟨g, 0, none⟩), .int .i64 kd] w fun e w' => e = .returned (.int .i64 (trayIx x.t kd)) ∧ Below w.heap.size w w' := by
  have hmf : ∀ (fn : Fn) (first cap : Array Value) (w : World), (Instr.makeFunc fn first cap).run Try.prog w = .ok (.func fn first cap) w := fun _ _ _ _ => rfl
  have b1 := (Below.refl w.heap.size w).alloc (Nat.le_refl _) (.cells #[.int .i64 kd] 3)
  have hL := Lies.new w 3 #[.int .i64 kd]
  have hA := h.then (B' := (w.alloc (.cells #[.int .i64 kd] 3)).heap.size) b1 b1.size
  have c0 : (w.alloc (.cells #[.int .i64 kd] 3)).cell? ⟨g, 0, none⟩ = some (.slice x.TA x.t.length x.tc) := hA.s.c0 (Since.start _ _)
  have HI : Hid (idxFrom (fun t : Tray => decide (t.k = kd)) 0 x.t = trayIx x.t kd) := rfl
  go_enter Try.func77, Try.ntmps77
  go_wp2_with fail
  clear c0
  generalize w.alloc (.cells #[.int .i64 kd] 3) = W at b1 hL hA ⊢
  refine (idxTrays_any (fun t : Tray => decide (t.k = kd)) 97 #[.pointer (some ⟨w.heap.size, 0, none⟩)] Try.call97 _ _ _ _ (fun t p => ofKind_any t w.heap.size kd _ (Nat.lt_of_lt_of_le hL.lt p.size) ((p.cell hL.lt).trans (hL.cell 0))) hA.r.ts).mono ?_
  rintro e w1 ⟨rfl, hb1⟩
  rw [HI.out]
  go_wp2
  go_ret
  exact ⟨rfl, bthen b1 hb1⟩

theorem isPerson_any (n : Int) (w : World) : Calls Try.prog 64 #[.int .i64 n] w fun e w' => e = .returned (.bool (inR n 1 999)) ∧ w = w' := by
  go_enter Try.func64, Try.ntmps64
  go_wp2_with fail
  refine (inRange_any n 1 999 _).mono ?_
  rintro e w' ⟨rfl, rfl⟩
  go_wp2
  go_ret
  exact ⟨rfl, rfl⟩

set_option maxHeartbeats 1000000 in
theorem stampsIn_any (x : Off) (g : Nat) (w : World) (h : OffAt w w.heap.size g x) (tl : x.t.length ≤ 8) (ht : ∀ i (hi : i < x.t.length), x.t[i].ok = true) :
    Calls Try.prog 61 #[.pointer (some ⟨g, 0, none⟩)] w fun e w' => e = .returned (.int .i64 (inSum x.t)) ∧ Below w.heap.size w w' := by
  have HT := Lib.hid ht; clear ht
  have HF : Hid (inFrom 0 (x.t.drop 0) = inSum x.t) := rfl
  have s0 : w.cell? ⟨g, 0, none⟩ = some (.slice x.TA x.t.length x.tc) := h.s.c0 (Since.start _ _)
  have hrt := h.r.ts.el
  go_enter Try.func61, Try.ntmps61
  go_wp2
  clear s0
  go_loopw [3, 11] (fun s i wr => ∃ (k : Nat) (t : Int), k ≤ x.t.length ∧ i = .int .i64 k ∧ s = .int .i64 t ∧ (0 ≤ t ∧ t ≤ 9999 * (k : Int)) ∧ (∃ q : Since w.heap.size w, wr = q.val) ∧ Hid (inFrom t (x.t.drop k) = inSum x.t)) (fun _ i _ => x.t.length - (intOf i).toNat)
  case atStart => exact ⟨0, 0, Nat.zero_le _, rfl, rfl, by omega, ⟨Since.start _ _, rfl⟩, HF⟩
  case round =>
    obtain ⟨k, t, hk, rfl, rfl, ⟨t0, t1⟩, ⟨q, rfl⟩, HR⟩ := hrel
    by_cases hlt : k < x.t.length
    · obtain ⟨b, off, hA, hb, hcell⟩ := hrt (by omega)
      obtain ⟨e0, e1⟩ := hcell k hlt
      obtain ⟨_, x1, x2⟩ := Tray.bounds (HT.out k hlt)
      have HS := Lib.hid (in_step hlt t)
      obtain ⟨r, hre⟩ : ∃ r, r = x.t[k] := ⟨_, rfl⟩
      rw [← hre] at e0 e1 HS x1 x2
      clear hre hcell hrt
      go_wp2
      go_roundw
      case rel => exact ⟨k + 1, t + r.c, by omega, by go_num, rfl, by omega, ⟨⟨_, q.below.alloc q.size _⟩, rfl⟩, by have h1 := HR.out; rw [HS.out] at h1; exact h1⟩
      case measure => simp [intOf]; omega
    · have HE : Hid (t = inSum x.t) := by
        have h1 := HR.out; rw [List.drop_eq_nil_of_le (by omega)] at h1; exact h1
      clear hrt
      go_wp2
      go_ret
      exact ⟨by rw [← HE.out]; rfl, q.below⟩

set_option maxHeartbeats 1000000 in
theorem stampsOut_any (f : Outing → Bool) (kf : Nat) (lb : Array Value) (eg : ∀ args w, (callFunc kf args).run Try.prog w = .ok (.enter kf args) w) (x : Off) (g : Nat) (w : World)
    (hf : ∀ (o : Outing) (p : Since w.heap.size w), Calls Try.prog kf (#[o.val] ++ lb) p.val fun e w' => e = .returned (.bool (f o)) ∧ Below p.val.heap.size p.val w')
    (h : OffAt w w.heap.size g x) (ol : x.o.length ≤ 8) (ho : ∀ i (hi : i < x.o.length), x.o[i].ok x.t = true) :
    Calls Try.prog 62 #[.pointer (some ⟨g, 0, none⟩), .func (.func kf) #[] lb] w fun e w' => e = .returned (.int .i64 (outSum f x.o)) ∧ Below w.heap.size w w' := by
  have HO := Lib.hid ho; clear ho
  have HC := Lib.hid hf; clear hf
  have HF : Hid (outFrom f 0 (x.o.drop 0) = outSum f x.o) := rfl
  have s1 : w.cell? ⟨g, 1, none⟩ = some (.slice x.OA x.o.length x.oc) := h.s.c1 (Since.start _ _)
  have hro := h.r.os.el
  generalize x.OA = OA at s1 hro
  go_enter Try.func62, Try.ntmps62
  go_wp2
  clear s1
  go_loopw [5, 13] (fun s i wr => ∃ (k : Nat) (t : Int), k ≤ x.o.length ∧ i = .int .i64 k ∧ s = .int .i64 t ∧ (0 ≤ t ∧ t ≤ 9999 * (k : Int)) ∧ (∃ q : Since w.heap.size w, wr = q.val) ∧ Hid (outFrom f t (x.o.drop k) = outSum f x.o)) (fun _ i _ => x.o.length - (intOf i).toNat)
  case atStart => exact ⟨0, 0, Nat.zero_le _, rfl, rfl, by omega, ⟨Since.start _ _, rfl⟩, HF⟩
  case round =>
    obtain ⟨k, t, hk, rfl, rfl, ⟨t0, t1⟩, ⟨q, rfl⟩, HR⟩ := hrel
    by_cases hlt : k < x.o.length
    · obtain ⟨b, off, rfl, hb, hcell⟩ := hro (by omega)
      obtain ⟨e0, e1, e2⟩ := hcell k hlt
      obtain ⟨_, _, x1, x2⟩ := Outing.bounds (HO.out k hlt)
      have HS := Lib.hid (out_step (f := f) hlt t)
      obtain ⟨r, hre⟩ : ∃ r, r = x.o[k] := ⟨_, rfl⟩
      rw [← hre] at e0 e1 e2 HS x1 x2
      clear hre hcell hro
      have hbV := q.below.alloc q.size (.cells #[.int .i64 r.k, .int .i64 r.p, .int .i64 r.c] 100)
      have hlV := Lies.new q.val 100 #[.int .i64 r.k, .int .i64 r.p, .int .i64 r.c]
      have hcx := fun p => HC.out r p
      cases hv : f r
      all_goals
        rw [hv] at hcx HS
        clear hv
        go_wp2_with fail
        generalize q.val.alloc (.cells #[.int .i64 r.k, .int .i64 r.p, .int .i64 r.c] 100) = V at hbV hlV ⊢
        refine (hcx ⟨V, hbV⟩).mono ?_
        rintro e w1 ⟨rfl, hb1⟩
        have d2 := (hlV.below hb1 hlV.lt).cell 2
        simp only [List.getElem?_cons_zero, List.getElem?_cons_succ] at d2
        go_wp2
      · go_roundw
        case rel => exact ⟨k + 1, t, by omega, by go_num, rfl, by omega, ⟨⟨w1, hbV.trans (hb1.mono hbV.size)⟩, rfl⟩, by have h1 := HR.out; rw [HS.out] at h1; exact h1⟩
        case measure => simp [intOf]; omega
      · go_roundw
        case rel => exact ⟨k + 1, t + r.c, by omega, by go_num, rfl, by omega, ⟨⟨w1, hbV.trans (hb1.mono hbV.size)⟩, rfl⟩, by have h1 := HR.out; rw [HS.out] at h1; exact h1⟩
        case measure => simp [intOf]; omega
    · have HE : Hid (t = outSum f x.o) := by
        have h1 := HR.out; rw [List.drop_eq_nil_of_le (by omega)] at h1; exact h1
      clear hro
      go_wp2
      go_ret
      exact ⟨by rw [← HE.out]; rfl, q.below⟩

theorem every1_any (o : Outing) (w : World) : Calls Try.prog 79 #[o.val] w fun e w' => e = .returned (.bool true) ∧ Below w.heap.size w w' := by
  go_enter Try.func79, Try.ntmps79
  go_wp2
  go_ret
  exact ⟨rfl, (Below.refl _ _).alloc (Nat.le_refl _) _⟩

/-- What the order says of two numbers. -/
def cmpI (a b : Int) : Int := if a < b then -1 else if b < a then 1 else 0
theorem isNaN_any (a : Int) (w : World) : Calls Try.prog 99 #[.int .i64 a] w fun e w' => e = .returned (.bool false) ∧ w = w' := by
  have hv : (a != a) = false := by simp
  go_enter Try.func99, Try.ntmps99
  go_wp2
  go_ret
  exact ⟨rfl, rfl⟩
theorem compare_any (a b : Int) (w : World) : Calls Try.prog 82 #[.int .i64 a, .int .i64 b] w fun e w' => e = .returned (.int .i64 (cmpI a b)) ∧ w = w' := by
  have ha := fun W => isNaN_any a W
  have hb := fun W => isNaN_any b W
  by_cases h1 : a < b
  · have HE : Hid (cmpI a b = -1) := by unfold Hid cmpI; rw [if_pos h1]
    go_enter Try.func82, Try.ntmps82
    go_wp2_with fail
    refine (ha _).mono ?_
    rintro e w' ⟨rfl, rfl⟩
    go_wp2_with fail
    refine (hb _).mono ?_
    rintro e w' ⟨rfl, rfl⟩
    go_wp2
    go_ret
    exact ⟨by rw [HE.out]; rfl, rfl⟩
  · by_cases h2 : b < a
    · have HE : Hid (cmpI a b = 1) := by unfold Hid cmpI; rw [if_neg h1, if_pos h2]
      go_enter Try.func82, Try.ntmps82
      go_wp2_with fail
      refine (ha _).mono ?_
      rintro e w' ⟨rfl, rfl⟩
      go_wp2_with fail
      refine (hb _).mono ?_
      rintro e w' ⟨rfl, rfl⟩
      go_wp2
      go_ret
      exact ⟨by rw [HE.out]; rfl, rfl⟩
    · have HE : Hid (cmpI a b = 0) := by unfold Hid cmpI; rw [if_neg h1, if_neg h2]
      go_enter Try.func82, Try.ntmps82
      go_wp2_with fail
      refine (ha _).mono ?_
      rintro e w' ⟨rfl, rfl⟩
      go_wp2_with fail
      refine (hb _).mono ?_
      rintro e w' ⟨rfl, rfl⟩
      go_wp2
      go_ret
      exact ⟨by rw [HE.out]; rfl, rfl⟩
end Go.Proofs.Ytdiojhjkcholiaa

/- Offices in the program: the order of outings. -/
namespace Go.Proofs.Ytdiojhjkcholiaa
open Go.RowKit

def orI (a b : Int) : Int := if a = 0 then b else a
theorem or2_any (a b : Int) (g c : Nat) (w : World) (h0 : w.cell? ⟨g, 0, none⟩ = some (.int .i64 a)) (h1 : w.cell? ⟨g, 1, none⟩ = some (.int .i64 b)) :
    Calls Try.prog 98 #[.slice (some ⟨g, 0, none⟩) 2 c] w fun e w' => e = .returned (.int .i64 (orI a b)) ∧ w = w' := by
  by_cases ha : a = 0
  · have va : (a != 0) = false := by simp [ha]
    have HE : Hid (orI a b = b) := by unfold Hid orI; rw [if_pos ha]
    clear ha
    by_cases hb : b = 0
    · have vb : (b != 0) = false := by simp [hb]
      have HB := Lib.hid hb; clear hb
      go_enter Try.func98, Try.ntmps98
      go_wp2
      refine wp_loop_rounds 3 ?_
      rw [rounds_succ]
      go_wp2
      rw [rounds_succ]
      go_wp2
      rw [rounds_succ]
      go_wp2
      go_ret
      exact ⟨by rw [HE.out, HB.out]; rfl, rfl⟩
    · have vb : (b != 0) = true := by simp [hb]
      clear hb
      go_enter Try.func98, Try.ntmps98
      go_wp2
      refine wp_loop_rounds 2 ?_
      rw [rounds_succ]
      go_wp2
      rw [rounds_succ]
      go_wp2
      go_ret
      exact ⟨by rw [HE.out]; rfl, rfl⟩
  · have va : (a != 0) = true := by simp [ha]
    have HE : Hid (orI a b = a) := by unfold Hid orI; rw [if_neg ha]
    clear ha
    go_enter Try.func98, Try.ntmps98
    go_wp2
    refine wp_loop_rounds 1 ?_
    rw [rounds_succ]
    go_wp2
    go_ret
    exact ⟨by rw [HE.out]; rfl, rfl⟩

def cmpO (a b : Outing) : Int := orI (cmpI a.k b.k) (cmpI a.p b.p)
theorem cmpO_before (a b : Outing) : decide (0 ≤ cmpO a b) = !(before a b) := by
  unfold cmpO orI cmpI before
  by_cases h1 : a.k < b.k
  · simp [h1]
  · by_cases h2 : b.k < a.k
    · have h3 : a.k ≠ b.k := by omega
      simp [h1, h2, h3]
    · have h3 : a.k = b.k := by omega
      by_cases h4 : a.p < b.p
      · simp [h3, h4]
      · by_cases h5 : b.p < a.p
        · simp [h3, h4, h5]
        · simp [h3, h4, h5]

set_option maxHeartbeats 1000000 in
theorem compareOutings_any (a b : Outing) (w : World) : Calls Try.prog 78 #[a.val, b.val] w fun e w' => e = .returned (.int .i64 (cmpO a b)) ∧ Below w.heap.size w w' := by
  have b1 := (Below.refl w.heap.size w).alloc (Nat.le_refl _) (.cells #[.int .i64 a.k, .int .i64 a.p, .int .i64 a.c] 100)
  have b2 := b1.alloc b1.size (.cells #[.int .i64 b.k, .int .i64 b.p, .int .i64 b.c] 100)
  have L1 := (Lies.new w 100 #[.int .i64 a.k, .int .i64 a.p, .int .i64 a.c]).alloc (.cells #[.int .i64 b.k, .int .i64 b.p, .int .i64 b.c] 100)
  have L2 := Lies.new1 w (.cells #[.int .i64 a.k, .int .i64 a.p, .int .i64 a.c] 100) 100 #[.int .i64 b.k, .int .i64 b.p, .int .i64 b.c]
  clear b1
  obtain ⟨X, hX⟩ : ∃ X, cmpI a.k b.k = X := ⟨_, rfl⟩
  obtain ⟨Y, hY⟩ : ∃ Y, cmpI a.p b.p = Y := ⟨_, rfl⟩
  have HO : Hid (cmpO a b = orI X Y) := by rw [← hX, ← hY]; rfl
  have cX := fun W => compare_any a.k b.k W
  have cY := fun W => compare_any a.p b.p W
  rw [hX] at cX
  rw [hY] at cY
  clear hX hY
  go_enter Try.func78, Try.ntmps78
  go_wp2
  generalize ((w.alloc (.cells #[.int .i64 a.k, .int .i64 a.p, .int .i64 a.c] 100)).alloc (.cells #[.int .i64 b.k, .int .i64 b.p, .int .i64 b.c] 100)) = W at b2 L1 L2 ⊢
  have c0 := L1.cell 0
  have c1 := L1.cell 1
  have d0 := L2.cell 0
  have d1 := L2.cell 1
  simp only [List.getElem?_cons_zero, List.getElem?_cons_succ] at c0 c1 d0 d1
  have HK : ∀ W', Below W.heap.size W W' → (Below W.heap.size W W' ∧ W'.cell? ⟨w.heap.size, 0, none⟩ = some (.int .i64 a.k) ∧ W'.cell? ⟨w.heap.size, 1, none⟩ = some (.int .i64 a.p) ∧ W'.cell? ⟨w.heap.size + 1, 0, none⟩ = some (.int .i64 b.k) ∧ W'.cell? ⟨w.heap.size + 1, 1, none⟩ = some (.int .i64 b.p)) := fun W' hb =>
    ⟨hb, (hb.cell L1.lt).trans c0, (hb.cell L1.lt).trans c1, (hb.cell L2.lt).trans d0, (hb.cell L2.lt).trans d1⟩
  have HL0 : (W.alloc (.cells #[.int .i64 X, .int .i64 Y] 3)).drew.cell? ⟨W.heap.size, 0, none⟩ = some (.int .i64 X) := (Lies.new W 3 #[.int .i64 X, .int .i64 Y]).cell 0
  have HL1 : (W.alloc (.cells #[.int .i64 X, .int .i64 Y] 3)).drew.cell? ⟨W.heap.size, 1, none⟩ = some (.int .i64 Y) := (Lies.new W 3 #[.int .i64 X, .int .i64 Y]).cell 1
  go_region_held3 (fun W' => Below W.heap.size W W' ∧ W'.cell? ⟨w.heap.size, 0, none⟩ = some (.int .i64 a.k) ∧ W'.cell? ⟨w.heap.size, 1, none⟩ = some (.int .i64 a.p) ∧ W'.cell? ⟨w.heap.size + 1, 0, none⟩ = some (.int .i64 b.k) ∧ W'.cell? ⟨w.heap.size + 1, 1, none⟩ = some (.int .i64 b.p)) (first | exact HK _ (Below.refl _ _).drew | exact HK _ (((Below.refl _ _).drew).alloc (by first | exact Nat.le_refl _ | simp) _) | (exact HK _ (by assumption))) (first | (go_at_call 82; with_reducible refine (cX _).mono ?_; rintro e w8 ⟨rfl, rfl⟩) | (go_at_call 82; with_reducible refine (cY _).mono ?_; rintro e w8 ⟨rfl, rfl⟩) | (go_at_call 98; refine (or2_any X Y W.heap.size 2 (W.alloc (.cells #[.int .i64 X, .int .i64 Y] 3)).drew HL0 HL1).mono ?_; rintro e w9 ⟨rfl, rfl⟩))
  all_goals
    go_wp2
    go_ret
    exact ⟨by rw [HO.out]; rfl, bthen b2 ((Below.refl W.heap.size W).alloc (Nat.le_refl _) _).drew⟩
end Go.Proofs.Ytdiojhjkcholiaa

/- Validity of an office, in the program. -/
namespace Go.Proofs.Ytdiojhjkcholiaa
open Go.RowKit

set_option maxRecDepth 100000 in
set_option maxHeartbeats 2000000 in
theorem isOfficeValid_no (x : Off) (g : Nat) (w : World) (h : OffAt w w.heap.size g x) (hno : (sizesOk x && numsOk x) = false) :
    Calls Try.prog 45 #[.pointer (some ⟨g, 0, none⟩)] w fun e w' => e = .returned (.bool (goodOff x)) ∧ Below w.heap.size w w' := by
  have s0 : w.cell? ⟨g, 0, none⟩ = some (.slice x.TA x.t.length x.tc) := h.s.c0 (Since.start _ _)
  have s1 : w.cell? ⟨g, 1, none⟩ = some (.slice x.OA x.o.length x.oc) := h.s.c1 (Since.start _ _)
  have s2 : w.cell? ⟨g, 2, none⟩ = some (.int .i64 x.got) := h.s.c2 (Since.start _ _)
  have s3 : w.cell? ⟨g, 3, none⟩ = some (.int .i64 x.sold) := h.s.c3 (Since.start _ _)
  have s4 : w.cell? ⟨g, 4, none⟩ = some (.int .i64 x.missed) := h.s.c4 (Since.start _ _)
  have hl := h.r.ts.big
  have hm := h.r.os.big
  have c3 := fun W => inRange_any x.got 0 99999 W
  have c4 := fun W => inRange_any x.sold 0 99999 W
  have c5 := fun W => inRange_any x.missed 0 99999 W
  have HNO := Lib.hid hno; clear hno
  have HG : Hid (goodOff x = (sizesOk x && (inR x.got 0 99999 && inR x.sold 0 99999 && inR x.missed 0 99999) && traysOk x.t && outsOk x.t x.o && sumOk x)) := rfl
  by_cases hz : x.t.length ≤ 8 ∧ x.o.length ≤ 8
  · obtain ⟨tl, ol⟩ := hz
    have HZ : Hid (sizesOk x = true) := by unfold Hid sizesOk; rw [decide_eq_true tl, decide_eq_true ol]; rfl
    obtain ⟨v3, hv3⟩ : ∃ v, inR x.got 0 99999 = v := ⟨_, rfl⟩
    obtain ⟨v4, hv4⟩ : ∃ v, inR x.sold 0 99999 = v := ⟨_, rfl⟩
    obtain ⟨v5, hv5⟩ : ∃ v, inR x.missed 0 99999 = v := ⟨_, rfl⟩
    rw [hv3] at c3
    rw [hv4] at c4
    rw [hv5] at c5
    rw [hv3, hv4, hv5] at HG
    have HV3 := Lib.hid hv3; clear hv3
    have HV4 := Lib.hid hv4; clear hv4
    have HV5 := Lib.hid hv5; clear hv5
    by_cases hall3 : (v3 && v4 && v5) = true
    · exfalso
      have hn : numsOk x = true := by unfold numsOk; rw [HV3.out, HV4.out, HV5.out]; exact hall3
      have hno := HNO.out
      rw [HZ.out, hn] at hno; cases hno
    · have HGF : Hid (goodOff x = false) := by
        unfold Hid; rw [HG.out, HZ.out]
        cases v3 <;> cases v4 <;> cases v5 <;> first | rfl | exact absurd rfl hall3
      cases v3
      all_goals (try cases v4)
      all_goals (try cases v5)
      all_goals first
        | exact absurd rfl hall3
        | skip
      all_goals
        clear hall3
        go_enter Try.func45, Try.ntmps45
        go_wp2_with fail
        refine (c3 _).mono ?_
        rintro e w3 ⟨rfl, rfl⟩
        go_wp2_with (first | (go_at_call 36; with_reducible refine (c4 _).mono ?_; rintro e w4 ⟨rfl, rfl⟩) | (go_at_call 36; with_reducible refine (c5 _).mono ?_; rintro e w4 ⟨rfl, rfl⟩))
        go_ret
        exact ⟨by rw [HGF.out]; rfl, Below.refl _ _⟩
  · have HGF : Hid (goodOff x = false) := by
      unfold Hid; rw [HG.out]
      have : sizesOk x = false := by
        unfold sizesOk
        by_cases h1 : x.t.length ≤ 8
        · rw [decide_eq_false (show ¬ x.o.length ≤ 8 from fun h2 => hz ⟨h1, h2⟩), Bool.and_false]
        · rw [decide_eq_false h1, Bool.false_and]
      rw [this]; rfl
    by_cases h1 : x.t.length ≤ 8
    · have h2 : ¬ x.o.length ≤ 8 := fun h2 => hz ⟨h1, h2⟩
      clear hz
      go_enter Try.func45, Try.ntmps45
      go_wp2
      go_ret
      exact ⟨by rw [HGF.out]; rfl, Below.refl _ _⟩
    · clear hz
      go_enter Try.func45, Try.ntmps45
      go_wp2
      go_ret
      exact ⟨by rw [HGF.out]; rfl, Below.refl _ _⟩
end Go.Proofs.Ytdiojhjkcholiaa

/- Validity of an office, in the program: the loops. -/
namespace Go.Proofs.Ytdiojhjkcholiaa
open Go.RowKit

theorem every1_all (o : Outing) (w : World) : Calls Try.prog 79 (#[o.val] ++ #[]) w fun e w' => e = .returned (.bool (every o)) ∧ Below w.heap.size w w' := every1_any o w

set_option maxRecDepth 100000 in
set_option maxHeartbeats 4000000 in
theorem isOfficeValid_yes (x : Off) (g : Nat) (w : World) (h : OffAt w w.heap.size g x) (hyes : (sizesOk x && numsOk x) = true) :
    Calls Try.prog 45 #[.pointer (some ⟨g, 0, none⟩)] w fun e w' => e = .returned (.bool (goodOff x)) ∧ Below w.heap.size w w' := by
  have s0 : w.cell? ⟨g, 0, none⟩ = some (.slice x.TA x.t.length x.tc) := h.s.c0 (Since.start _ _)
  have s1 : w.cell? ⟨g, 1, none⟩ = some (.slice x.OA x.o.length x.oc) := h.s.c1 (Since.start _ _)
  have s2 : w.cell? ⟨g, 2, none⟩ = some (.int .i64 x.got) := h.s.c2 (Since.start _ _)
  have s3 : w.cell? ⟨g, 3, none⟩ = some (.int .i64 x.sold) := h.s.c3 (Since.start _ _)
  have s4 : w.cell? ⟨g, 4, none⟩ = some (.int .i64 x.missed) := h.s.c4 (Since.start _ _)
  have c3 := fun W => inRange_any x.got 0 99999 W
  have c4 := fun W => inRange_any x.sold 0 99999 W
  have c5 := fun W => inRange_any x.missed 0 99999 W
  have HG : Hid (goodOff x = (traysOk x.t && outsOk x.t x.o && sumOk x)) := by
    unfold Hid goodOff; rw [hyes, Bool.true_and]
  rw [Bool.and_eq_true] at hyes
  have hz := hyes.1
  have hn := hyes.2
  unfold sizesOk at hz
  unfold numsOk at hn
  rw [Bool.and_eq_true] at hz hn
  rw [Bool.and_eq_true] at hn
  obtain ⟨⟨hv3, hv4⟩, hv5⟩ := hn
  have tl : x.t.length ≤ 8 := of_decide_eq_true hz.1
  have ol : x.o.length ≤ 8 := of_decide_eq_true hz.2
  clear hz hyes
  rw [hv3] at c3
  rw [hv4] at c4
  rw [hv5] at c5
  obtain ⟨g1, g2⟩ := inR_iff.1 hv3
  obtain ⟨g3, g4⟩ := inR_iff.1 hv4
  obtain ⟨g5, g6⟩ := inR_iff.1 hv5
  clear hv3 hv4 hv5
  have hrt := h.r.ts.el
  have hro := h.r.os.el
  obtain ⟨p0, p1, p2, p3, p4⟩ := h.s
  obtain ⟨TA, hTA⟩ : ∃ A, x.TA = A := ⟨_, rfl⟩
  obtain ⟨OA, hOA⟩ : ∃ A, x.OA = A := ⟨_, rfl⟩
  rw [hTA] at s0 hrt
  rw [hOA] at s1 hro
  simp only [hTA] at p0
  simp only [hOA] at p1
  clear hTA hOA
  go_enter Try.func45, Try.ntmps45
  go_wp2_with fail
  refine (c3 _).mono ?_
  rintro e w3 ⟨rfl, rfl⟩
  go_wp2_with fail
  refine (c4 _).mono ?_
  rintro e w3 ⟨rfl, rfl⟩
  go_wp2_with fail
  refine (c5 _).mono ?_
  rintro e w3 ⟨rfl, rfl⟩
  go_wp2
  clear s0 s1 s2 s3 s4 c3 c4 c5
  go_loopw [50] (fun i wr => ∃ (k : Nat) (prev : Int), k ≤ x.t.length ∧ i = .int .i64 k ∧ (∃ q : Since w.heap.size w, wr = q.val) ∧ Hid (traysFrom k prev (x.t.drop k) = traysOk x.t) ∧ Hid (∀ (_hk : 0 < k) (h' : k - 1 < x.t.length), prev = x.t[k - 1].k)) (fun i _ => x.t.length - (intOf i).toNat)
  case atStart => exact ⟨0, 0, Nat.zero_le _, rfl, ⟨Since.start _ _, rfl⟩, rfl, fun h => absurd h (by omega)⟩
  case round =>
    obtain ⟨k, prev, hk, rfl, ⟨q, rfl⟩, HR, HP⟩ := hrel
    by_cases hlt : k < x.t.length
    · obtain ⟨b, off, rfl, hb, hcell⟩ := hrt (by omega)
      obtain ⟨e0, e1⟩ := hcell k hlt
      have HC : Hid (0 < k → ∀ p : Since w.heap.size w, p.val.cell? ⟨b, off + (k - 1) * 2, none⟩ = some (.int .i64 prev)) := fun h p => by
        rw [HP.out h (by omega)]; exact (hcell (k - 1) (by omega)).c0 p
      have HS := Lib.hid (trays_step (n := k) (p := prev) hlt)
      obtain ⟨r, hre⟩ : ∃ r, r = x.t[k] := ⟨_, rfl⟩
      have HN : Hid (∀ (_hk : 0 < k + 1) (h' : k + 1 - 1 < x.t.length), r.k = x.t[k + 1 - 1].k) := fun _ h' => by rw [hre]; rfl
      rw [← hre] at e0 e1 HS
      clear hre hcell hrt hro
      go_wp2
      have hbV := q.below.alloc q.size (.cells #[.int .i64 r.k, .int .i64 r.c] 74)
      have hlV := Lies.new q.val 74 #[.int .i64 r.k, .int .i64 r.c]
      generalize q.val.alloc (.cells #[.int .i64 r.k, .int .i64 r.c] 74) = V at hbV hlV ⊢
      generalize q.val.heap.size = gv at hlV ⊢
      obtain ⟨d0, d1⟩ := TrayS.of (r := r) hlV
      have p0' : ∀ p : Since V.heap.size V, p.val.cell? ⟨g, 0, none⟩ = some (.slice (some ⟨b, off, none⟩) x.t.length x.tc) := fun p => p0 ⟨p.val, hbV.trans (p.below.mono hbV.size)⟩
      have HOK : Hid (r.ok = (inR r.k 1 99 && inR r.c 0 9999)) := rfl
      clear e0 e1
      obtain ⟨v1, hv1⟩ : ∃ v, inR r.k 1 99 = v := ⟨_, rfl⟩
      obtain ⟨v2, hv2⟩ : ∃ v, inR r.c 0 9999 = v := ⟨_, rfl⟩
      rw [hv1, hv2] at HOK
      have HV1 := Lib.hid hv1; clear hv1
      have HV2 := Lib.hid hv2; clear hv2
      rcases Nat.eq_zero_or_pos k with h0 | h0
      · have hd : decide (0 < k) = false := decide_eq_false (by omega)
        have H0 := Lib.hid h0; clear h0
        cases v1
        · refine wp_region_since0 (by kernel_rfl) (by kernel_rfl) ?_
          repeat (any_goals (first | go_big_quiet_step ((go_at_call 36; with_reducible refine calls_sameB HV1 (inRange_any r.k 1 99 _))) | (refine wpQuiet_step (fun K hK => ?_); go_simp; split <;> (refine hK _ ?_; clear hK K))))
          all_goals (refine wpQuiet_nil ?_; rintro _ ⟨q1, rfl⟩)
          all_goals have hb1 := hbV.trans (q1.below.mono hbV.size)
          all_goals go_wp2
          go_ret
          refine ⟨?_, hb1⟩
          rw [HG.out, ← HR.out, HS.out, HOK.out]; rfl
        · cases v2
          all_goals
            refine wp_region_since0 (by kernel_rfl) (by kernel_rfl) ?_
            repeat (any_goals (first | go_big_quiet_step ((first | (go_at_call 36; with_reducible refine calls_sameB HV1 (inRange_any r.k 1 99 _)) | (go_at_call 36; with_reducible refine calls_sameB HV2 (inRange_any r.c 0 9999 _)))) | (refine wpQuiet_step (fun K hK => ?_); go_simp; split <;> (refine hK _ ?_; clear hK K))))
            all_goals (refine wpQuiet_nil ?_; rintro _ ⟨q1, rfl⟩)
            all_goals have hb1 := hbV.trans (q1.below.mono hbV.size)
            all_goals go_wp2
          · go_ret
            refine ⟨?_, hb1⟩
            rw [HG.out, ← HR.out, HS.out, HOK.out]; rfl
          · go_roundw
            case rel => exact ⟨k + 1, r.k, by omega, by go_num, ⟨⟨_, hbV.trans (q1.below.mono hbV.size)⟩, rfl⟩, by have h1 := HR.out; rw [HS.out, HOK.out, decide_eq_true H0.out] at h1; exact h1, HN⟩
            case measure => simp [intOf]; omega
      · have c5 : ∀ p : Since V.heap.size V, p.val.cell? ⟨b, off + (k - 1) * 2, none⟩ = some (.int .i64 prev) := fun p => HC.out h0 ⟨p.val, hbV.trans (p.below.mono hbV.size)⟩
        have h0' : (0 : Int) < (k : Int) := by omega
        cases v1
        · refine wp_region_since0 (by kernel_rfl) (by kernel_rfl) ?_
          repeat (any_goals (first | go_big_quiet_step ((go_at_call 36; with_reducible refine calls_sameB HV1 (inRange_any r.k 1 99 _))) | (refine wpQuiet_step (fun K hK => ?_); go_simp; split <;> (refine hK _ ?_; clear hK K))))
          all_goals (refine wpQuiet_nil ?_; rintro _ ⟨q1, rfl⟩)
          all_goals have hb1 := hbV.trans (q1.below.mono hbV.size)
          all_goals go_wp2
          go_ret
          refine ⟨?_, hb1⟩
          rw [HG.out, ← HR.out, HS.out, HOK.out]; rfl
        · cases v2
          all_goals
            refine wp_region_since0 (by kernel_rfl) (by kernel_rfl) ?_
            repeat (any_goals (first | go_big_quiet_step ((first | (go_at_call 36; with_reducible refine calls_sameB HV1 (inRange_any r.k 1 99 _)) | (go_at_call 36; with_reducible refine calls_sameB HV2 (inRange_any r.c 0 9999 _)))) | (refine wpQuiet_step (fun K hK => ?_); go_simp; split <;> (refine hK _ ?_; clear hK K))))
            all_goals (refine wpQuiet_nil ?_; rintro _ ⟨q1, rfl⟩)
            all_goals have hb1 := hbV.trans (q1.below.mono hbV.size)
            all_goals go_wp2
          · go_ret
            refine ⟨?_, hb1⟩
            rw [HG.out, ← HR.out, HS.out, HOK.out]; rfl
          · go_ret
            refine ⟨?_, hb1⟩
            have hm : r.k ≤ prev := by assumption
            rw [HG.out, ← HR.out, HS.out, HOK.out, decide_eq_false (by omega : ¬ k = 0), decide_eq_false (by omega : ¬ prev < r.k)]; rfl
          · have hm : prev < r.k := by assumption
            go_roundw
            case rel => exact ⟨k + 1, r.k, by omega, by go_num, ⟨⟨_, hbV.trans (q1.below.mono hbV.size)⟩, rfl⟩, by have h1 := HR.out; rw [HS.out, HOK.out, decide_eq_true hm, Bool.or_true] at h1; exact h1, HN⟩
            case measure => simp [intOf]; omega
    · have hK : traysOk x.t = true := by
        have h1 := HR.out
        rw [List.drop_eq_nil_of_le (by omega)] at h1; exact h1.symm
      have HALL := Lib.hid (traysFrom_all _ _ _ hK)
      have HK := Lib.hid hK; clear hK
      have hq1 := p1 q
      clear hrt
      go_wp2
      go_loopw [89] (fun i wr => ∃ (k : Nat) (prev : Option Outing), k ≤ x.o.length ∧ i = .int .i64 k ∧ (∃ q : Since w.heap.size w, wr = q.val) ∧ Hid (outsFrom x.t prev (x.o.drop k) = outsOk x.t x.o) ∧ Hid ((k = 0 → prev = none) ∧ ∀ (_hk : 0 < k) (h' : k - 1 < x.o.length), prev = some x.o[k - 1] ∧ x.o[k - 1].ok x.t = true)) (fun i _ => x.o.length - (intOf i).toNat)
      case atStart => exact ⟨0, none, Nat.zero_le _, rfl, ⟨q, rfl⟩, rfl, fun _ => rfl, fun h => absurd h (by omega)⟩
      case round =>
        clear hlt HR HP hq1
        obtain ⟨k, prev, hk, rfl, ⟨q, rfl⟩, HR, HP⟩ := hrel
        by_cases hlt : k < x.o.length
        · obtain ⟨b, off, rfl, hb, hcell⟩ := hro (by omega)
          obtain ⟨e0, e1, e2⟩ := hcell k hlt
          have HS := Lib.hid (outs_step (ts := x.t) (p := prev) hlt)
          obtain ⟨r, hre⟩ : ∃ r, r = x.o[k] := ⟨_, rfl⟩
          have HN : Hid (r.ok x.t = true → (k + 1 = 0 → some r = none) ∧ ∀ (_hk : 0 < k + 1) (h' : k + 1 - 1 < x.o.length), some r = some x.o[k + 1 - 1] ∧ x.o[k + 1 - 1].ok x.t = true) := fun ho => ⟨fun h => by omega, fun _ h' => ⟨by rw [hre]; rfl, by rw [hre] at ho; exact ho⟩⟩
          have HC : Hid (∀ _ : 0 < k, ∃ u : Outing, prev = some u ∧ u.ok x.t = true ∧ OutingS w.heap.size w b (off + (k - 1) * 3) u) := fun h => ⟨x.o[k - 1], (HP.out.2 h (by omega)).1, (HP.out.2 h (by omega)).2, hcell (k - 1) (by omega)⟩
          rw [← hre] at e0 e1 e2 HS
          clear hre hcell hro
          go_wp2
          have hbV := q.below.alloc q.size (.cells #[.int .i64 r.k, .int .i64 r.p, .int .i64 r.c] 100)
          have hlV := Lies.new q.val 100 #[.int .i64 r.k, .int .i64 r.p, .int .i64 r.c]
          generalize q.val.alloc (.cells #[.int .i64 r.k, .int .i64 r.p, .int .i64 r.c] 100) = V at hbV hlV ⊢
          generalize q.val.heap.size = gv at hlV ⊢
          obtain ⟨d0, d1, d2⟩ := OutingS.of (r := r) hlV
          have up : ∀ {a : Addr} {u : Value}, (∀ p : Since w.heap.size w, p.val.cell? a = some u) → ∀ p : Since V.heap.size V, p.val.cell? a = some u := fun h p => h ⟨p.val, hbV.trans (p.below.mono hbV.size)⟩
          have z1 := up p1
          have hAV : ∀ p : Since V.heap.size V, OffAt p.val p.val.heap.size g x := fun p => h.at ⟨p.val, hbV.trans (p.below.mono hbV.size)⟩
          have HOK : Hid (r.ok x.t = (hasTray x.t r.k && inR r.p 1 999 && inR r.c 1 9999)) := rfl
          clear e0 e1 e2
          obtain ⟨X, hX⟩ : ∃ X, trayIx x.t r.k = X := ⟨_, rfl⟩
          have HX : Hid (Value.int .i64 (trayIx x.t r.k) = .int .i64 X) := by rw [hX]; rfl
          have HH : Hid (hasTray x.t r.k = decide (0 ≤ X)) := by rw [← hX]; exact (trayIx_has _ _).symm
          obtain ⟨v2, hv2⟩ : ∃ v, inR r.p 1 999 = v := ⟨_, rfl⟩
          obtain ⟨v3, hv3⟩ : ∃ v, inR r.c 1 9999 = v := ⟨_, rfl⟩
          rw [hv2, hv3] at HOK
          have HV2 := Lib.hid hv2; clear hv2
          have HV3 := Lib.hid hv3; clear hv3
          clear hX
          by_cases hX0 : 0 ≤ X
          · have hd0 : decide (X < 0) = false := decide_eq_false (by omega)
            have HXT : Hid (decide (0 ≤ X) = true) := decide_eq_true hX0
            cases v2
            · rcases Nat.eq_zero_or_pos k with h0 | h0
              · have hd : decide (0 < k) = false := decide_eq_false (by omega)
                clear h0
                refine wp_region_since0 (by kernel_rfl) (by kernel_rfl) ?_
                repeat (any_goals (first | go_big_quiet_step ((first | (go_at_call 77; with_reducible refine calls_sinceE HX (Nat.le_refl _) (trayAt_any x g r.k _ (hAV _))) | (go_at_call 64; with_reducible refine calls_sameB HV2 (isPerson_any r.p _)))) | (refine wpQuiet_step (fun K hK => ?_); go_simp; split <;> (refine hK _ ?_; clear hK K))))
                all_goals (refine wpQuiet_nil ?_; rintro _ ⟨q1, rfl⟩)
                all_goals have hb1 := hbV.trans (q1.below.mono hbV.size)
                all_goals go_wp2
                go_ret
                refine ⟨?_, hb1⟩
                rw [HG.out, HK.out, ← HR.out, HS.out, HOK.out, Bool.and_false]; rfl
              · have h0' : (0 : Int) < (k : Int) := by omega
                refine wp_region_since0 (by kernel_rfl) (by kernel_rfl) ?_
                repeat (any_goals (first | go_big_quiet_step ((first | (go_at_call 77; with_reducible refine calls_sinceE HX (Nat.le_refl _) (trayAt_any x g r.k _ (hAV _))) | (go_at_call 64; with_reducible refine calls_sameB HV2 (isPerson_any r.p _)))) | (refine wpQuiet_step (fun K hK => ?_); go_simp; split <;> (refine hK _ ?_; clear hK K))))
                all_goals (refine wpQuiet_nil ?_; rintro _ ⟨q1, rfl⟩)
                all_goals have hb1 := hbV.trans (q1.below.mono hbV.size)
                all_goals go_wp2
                go_ret
                refine ⟨?_, hb1⟩
                rw [HG.out, HK.out, ← HR.out, HS.out, HOK.out, Bool.and_false]; rfl
            · cases v3
              · rcases Nat.eq_zero_or_pos k with h0 | h0
                · have hd : decide (0 < k) = false := decide_eq_false (by omega)
                  clear h0
                  refine wp_region_since0 (by kernel_rfl) (by kernel_rfl) ?_
                  repeat (any_goals (first | go_big_quiet_step ((first | (go_at_call 77; with_reducible refine calls_sinceE HX (Nat.le_refl _) (trayAt_any x g r.k _ (hAV _))) | (go_at_call 64; with_reducible refine calls_sameB HV2 (isPerson_any r.p _)) | (go_at_call 36; with_reducible refine calls_sameB HV3 (inRange_any r.c 1 9999 _)))) | (refine wpQuiet_step (fun K hK => ?_); go_simp; split <;> (refine hK _ ?_; clear hK K))))
                  all_goals (refine wpQuiet_nil ?_; rintro _ ⟨q1, rfl⟩)
                  all_goals have hb1 := hbV.trans (q1.below.mono hbV.size)
                  all_goals go_wp2
                  go_ret
                  refine ⟨?_, hb1⟩
                  rw [HG.out, HK.out, ← HR.out, HS.out, HOK.out, Bool.and_false]; rfl
                · have h0' : (0 : Int) < (k : Int) := by omega
                  refine wp_region_since0 (by kernel_rfl) (by kernel_rfl) ?_
                  repeat (any_goals (first | go_big_quiet_step ((first | (go_at_call 77; with_reducible refine calls_sinceE HX (Nat.le_refl _) (trayAt_any x g r.k _ (hAV _))) | (go_at_call 64; with_reducible refine calls_sameB HV2 (isPerson_any r.p _)) | (go_at_call 36; with_reducible refine calls_sameB HV3 (inRange_any r.c 1 9999 _)))) | (refine wpQuiet_step (fun K hK => ?_); go_simp; split <;> (refine hK _ ?_; clear hK K))))
                  all_goals (refine wpQuiet_nil ?_; rintro _ ⟨q1, rfl⟩)
                  all_goals have hb1 := hbV.trans (q1.below.mono hbV.size)
                  all_goals go_wp2
                  go_ret
                  refine ⟨?_, hb1⟩
                  rw [HG.out, HK.out, ← HR.out, HS.out, HOK.out, Bool.and_false]; rfl
              · have HRO : Hid (r.ok x.t = true) := by unfold Hid; rw [HOK.out, HH.out, HXT.out]; rfl
                rcases Nat.eq_zero_or_pos k with h0 | h0
                · have hd : decide (0 < k) = false := decide_eq_false (by omega)
                  have HP0 : Hid (prev = none) := HP.out.1 h0
                  clear h0
                  refine wp_region_since0 (by kernel_rfl) (by kernel_rfl) ?_
                  repeat (any_goals (first | go_big_quiet_step ((first | (go_at_call 77; with_reducible refine calls_sinceE HX (Nat.le_refl _) (trayAt_any x g r.k _ (hAV _))) | (go_at_call 64; with_reducible refine calls_sameB HV2 (isPerson_any r.p _)) | (go_at_call 36; with_reducible refine calls_sameB HV3 (inRange_any r.c 1 9999 _)))) | (refine wpQuiet_step (fun K hK => ?_); go_simp; split <;> (refine hK _ ?_; clear hK K))))
                  all_goals (refine wpQuiet_nil ?_; rintro _ ⟨q1, rfl⟩)
                  all_goals have hb1 := hbV.trans (q1.below.mono hbV.size)
                  all_goals go_wp2
                  go_roundw
                  case rel => exact ⟨k + 1, some r, by omega, by go_num, ⟨⟨_, hb1⟩, rfl⟩, by have h1 := HR.out; rw [HS.out, HRO.out, HP0.out] at h1; exact h1, HN.out HRO.out⟩
                  case measure => simp [intOf]; omega
                · have h0' : (0 : Int) < (k : Int) := by omega
                  obtain ⟨u, hpu, huo, ⟨t0, t1, t2⟩⟩ := HC.out h0
                  have t0 := up t0
                  have t1 := up t1
                  have t2 := up t2
                  subst hpu
                  have HS2 : Hid (outsFrom x.t (some u) (x.o.drop k) = (r.ok x.t && before u r && outsFrom x.t (some r) (x.o.drop (k + 1)))) := HS.out
                  obtain ⟨C, hC⟩ : ∃ C, cmpO u r = C := ⟨_, rfl⟩
                  have HCM : Hid (Value.int .i64 (cmpO u r) = .int .i64 C) := by rw [hC]; rfl
                  have HB : Hid (decide (0 ≤ C) = !(before u r)) := by rw [← hC]; exact cmpO_before u r
                  clear hC huo up
                  refine wp_region_since0 (by kernel_rfl) (by kernel_rfl) ?_
                  repeat (any_goals (first | go_big_quiet_step ((first | (go_at_call 77; with_reducible refine calls_sinceE HX (Nat.le_refl _) (trayAt_any x g r.k _ (hAV _))) | (go_at_call 64; with_reducible refine calls_sameB HV2 (isPerson_any r.p _)) | (go_at_call 36; with_reducible refine calls_sameB HV3 (inRange_any r.c 1 9999 _)) | (go_at_call 78; with_reducible refine calls_sinceE HCM (Nat.le_refl _) (compareOutings_any u r _)))) | (refine wpQuiet_step (fun K hK => ?_); go_simp; split <;> (refine hK _ ?_; clear hK K))))
                  all_goals (refine wpQuiet_nil ?_; rintro _ ⟨q1, rfl⟩)
                  all_goals have hb1 := hbV.trans (q1.below.mono hbV.size)
                  all_goals go_wp2
                  · go_ret
                    refine ⟨?_, hb1⟩
                    have hm : 0 ≤ C := by assumption
                    have hb0 := HB.out
                    rw [decide_eq_true hm] at hb0
                    have hbf : before u r = false := by
                      cases hbb : before u r with
                      | false => rfl
                      | true => rw [hbb] at hb0; cases hb0
                    rw [HG.out, HK.out, ← HR.out, HS2.out, HRO.out, hbf]; rfl
                  · have hm : C < 0 := by assumption
                    have hb0 := HB.out
                    rw [decide_eq_false (by omega)] at hb0
                    have hbt : before u r = true := by
                      cases hbb : before u r with
                      | true => rfl
                      | false => rw [hbb] at hb0; cases hb0
                    have hbf := Lib.hid hbt
                    clear hbt
                    clear hb0
                    go_roundw
                    case rel => exact ⟨k + 1, some r, by omega, by go_num, ⟨⟨_, hb1⟩, rfl⟩, by have h1 := HR.out; rw [HS2.out, HRO.out, hbf.out] at h1; exact h1, HN.out HRO.out⟩
                    case measure => simp [intOf]; omega
          · have hd0 : decide (X < 0) = true := decide_eq_true (by omega)
            have HXT : Hid (decide (0 ≤ X) = false) := decide_eq_false hX0
            rcases Nat.eq_zero_or_pos k with h0 | h0
            · have hd : decide (0 < k) = false := decide_eq_false (by omega)
              clear h0
              refine wp_region_since0 (by kernel_rfl) (by kernel_rfl) ?_
              repeat (any_goals (first | go_big_quiet_step ((go_at_call 77; with_reducible refine calls_sinceE HX (Nat.le_refl _) (trayAt_any x g r.k _ (hAV _)))) | (refine wpQuiet_step (fun K hK => ?_); go_simp; split <;> (refine hK _ ?_; clear hK K))))
              all_goals (refine wpQuiet_nil ?_; rintro _ ⟨q1, rfl⟩)
              all_goals have hb1 := hbV.trans (q1.below.mono hbV.size)
              all_goals go_wp2
              go_ret
              refine ⟨?_, hb1⟩
              rw [HG.out, HK.out, ← HR.out, HS.out, HOK.out, HH.out, HXT.out]; rfl
            · have h0' : (0 : Int) < (k : Int) := by omega
              refine wp_region_since0 (by kernel_rfl) (by kernel_rfl) ?_
              repeat (any_goals (first | go_big_quiet_step ((go_at_call 77; with_reducible refine calls_sinceE HX (Nat.le_refl _) (trayAt_any x g r.k _ (hAV _)))) | (refine wpQuiet_step (fun K hK => ?_); go_simp; split <;> (refine hK _ ?_; clear hK K))))
              all_goals (refine wpQuiet_nil ?_; rintro _ ⟨q1, rfl⟩)
              all_goals have hb1 := hbV.trans (q1.below.mono hbV.size)
              all_goals go_wp2
              go_ret
              refine ⟨?_, hb1⟩
              rw [HG.out, HK.out, ← HR.out, HS.out, HOK.out, HH.out, HXT.out]; rfl
        · have hKO : outsOk x.t x.o = true := by
            have h1 := HR.out
            rw [List.drop_eq_nil_of_le (by omega)] at h1; exact h1.symm
          have HOLL := Lib.hid (outsFrom_all _ _ _ hKO)
          have HKO := Lib.hid hKO; clear hKO
          have hi := inFrom_bd x.t 0 HALL.out
          have hj := outFrom_bd every x.t x.o 0 HOLL.out
          have HSM : Hid (sumOk x = decide (x.got = inSum x.t + outSum every x.o + x.sold + x.missed)) := rfl
          change 0 ≤ inSum x.t ∧ inSum x.t ≤ _ at hi
          change 0 ≤ outSum every x.o ∧ outSum every x.o ≤ _ at hj
          obtain ⟨I, hI⟩ : ∃ I, inSum x.t = I := ⟨_, rfl⟩
          obtain ⟨J, hJ⟩ : ∃ J, outSum every x.o = J := ⟨_, rfl⟩
          rw [hI] at hi HSM
          rw [hJ] at hj HSM
          have HI : Hid (Value.int .i64 (inSum x.t) = .int .i64 I) := by rw [hI]; rfl
          have HJ : Hid (Value.int .i64 (outSum every x.o) = .int .i64 J) := by rw [hJ]; rfl
          clear hI hJ
          obtain ⟨i1, i2⟩ := hi
          obtain ⟨j1, j2⟩ := hj
          have w1 : IntKind.i64.wrap (I + J) = I + J := IntWalk.i64_in _ (by omega)
          have w2 : IntKind.i64.wrap (I + J + x.sold) = I + J + x.sold := IntWalk.i64_in _ (by omega)
          have w3 : IntKind.i64.wrap (I + J + x.sold + x.missed) = I + J + x.sold + x.missed := IntWalk.i64_in _ (by omega)
          obtain ⟨z, hz⟩ : ∃ z, decide (x.got = I + J + x.sold + x.missed) = z := ⟨_, rfl⟩
          have hzz : (x.got == I + J + x.sold + x.missed) = z := by rw [← hz, Bool.eq_iff_iff]; simp
          have HZ := Lib.hid hz; clear hz
          have hAQ : ∀ p : Since w.heap.size w, OffAt p.val p.val.heap.size g x := fun p => h.at p
          clear hro HR HP
          go_wp2
          refine wp_region_since _ (by kernel_rfl) (by kernel_rfl) ?_
          repeat (any_goals (first | go_big_quiet_step ((first | (go_at_call 61; with_reducible refine calls_sinceE HI (Nat.le_refl _) (stampsIn_any x g _ (hAQ _) tl HALL.out)) | (go_at_call 62; with_reducible refine calls_sinceE HJ (Nat.le_refl _) (stampsOut_any every 79 #[] Try.call79 x g _ (fun o p => every1_all o p.val) (hAQ _) ol HOLL.out)))) | (refine wpQuiet_step (fun K hK => ?_); go_simp; split <;> (refine hK _ ?_; clear hK K))))
          all_goals (refine wpQuiet_nil ?_; rintro _ ⟨q1, rfl⟩)
          go_wp2
          go_ret
          refine ⟨?_, q1.below⟩
          rw [HG.out, HK.out, HKO.out, HSM.out, HZ.out]; rfl
end Go.Proofs.Ytdiojhjkcholiaa
