/- Offices: size, copy, equality. -/
import Derived.Test.YtojceibamgodbaaDoorOffP
namespace Go.Proofs.YtojceibamgodbaaDoor
open Go.RowKit

/-- It lies at the head of a block, in every world since. -/
structure OffS (B : Nat) (w : World) (b : Nat) (x : Off) : Prop where
  c0 : ∀ p : Since B w, p.val.cell? ⟨b, 0, none⟩ = some (.slice x.TA x.t.length x.tc)
  c1 : ∀ p : Since B w, p.val.cell? ⟨b, 1, none⟩ = some (.slice x.OA x.o.length x.oc)
  c2 : ∀ p : Since B w, p.val.cell? ⟨b, 2, none⟩ = some (.int .i64 x.got)
  c3 : ∀ p : Since B w, p.val.cell? ⟨b, 3, none⟩ = some (.int .i64 x.sold)
  c4 : ∀ p : Since B w, p.val.cell? ⟨b, 4, none⟩ = some (.int .i64 x.missed)
theorem OffS.of {W : World} {g : Nat} {t : TypeId} {x : Off} (h : Lies W g t x.enc) : OffS W.heap.size W g x :=
  ⟨fun p => (p.cell h.lt).trans (h.cell 0), fun p => (p.cell h.lt).trans (h.cell 1), fun p => (p.cell h.lt).trans (h.cell 2), fun p => (p.cell h.lt).trans (h.cell 3), fun p => (p.cell h.lt).trans (h.cell 4)⟩
theorem OffR.at {W : World} {x : Off} (h : OffR W W.heap.size x) (q : Since W.heap.size W) : OffR q.val q.val.heap.size x := h.then q.below

theorem szOffice_any (x : Off) (k : Int) (w : World) (hn : x.t.length ≤ 9223372036854775807) (hm : x.o.length ≤ 9223372036854775807) (hk : 0 ≤ k) (hk' : k ≤ 1048576) :
    Calls Tryd.prog 32 #[x.val, .int .i64 k] w fun e w' => e = .returned (.int .i64 (lessen k (x.t.length + x.o.length))) ∧ Below w.heap.size w w' := by
  have hb0 := (Below.refl w.heap.size w).alloc (Nat.le_refl _) (.cells #[.slice x.TA x.t.length x.tc, .slice x.OA x.o.length x.oc, .int .i64 x.got, .int .i64 x.sold, .int .i64 x.missed] 25)
  have hc := fun W => szTrays_any x.TA x.t.length x.tc k W hn hk hk'
  by_cases hle : (x.t.length : Int) ≤ k
  · have he : lessen k x.t.length = k - x.t.length := by unfold lessen; rw [if_pos hle]
    have HE := Lib.hid (lessen_yes (b := x.o.length) hle)
    have hd := fun W => szOutings_any x.OA x.o.length x.oc (k - x.t.length) W hm (by omega) (by omega)
    rw [he] at hc
    by_cases hle2 : (x.o.length : Int) ≤ k - x.t.length
    · have he2 : lessen (k - x.t.length) x.o.length = k - x.t.length - x.o.length := by unfold lessen; rw [if_pos hle2]
      rw [he2] at hd
      have HE2 := Lib.hid he2
      clear he he2
      go_enter Tryd.func32, Tryd.ntmps32
      go_wp2_with fail
      refine (hc _).mono ?_
      rintro e w1 ⟨rfl, rfl⟩
      go_wp2_with fail
      refine (hd _).mono ?_
      rintro e w1 ⟨rfl, rfl⟩
      go_wp2
      go_ret
      exact ⟨by rw [HE.out, HE2.out]; rfl, hb0⟩
    · have he2 : lessen (k - x.t.length) x.o.length = -1 := by unfold lessen; rw [if_neg hle2]
      rw [he2] at hd
      have HE2 := Lib.hid he2
      clear he he2
      go_enter Tryd.func32, Tryd.ntmps32
      go_wp2_with fail
      refine (hc _).mono ?_
      rintro e w1 ⟨rfl, rfl⟩
      go_wp2_with fail
      refine (hd _).mono ?_
      rintro e w1 ⟨rfl, rfl⟩
      go_wp2
      go_ret
      exact ⟨by rw [HE.out, HE2.out]; rfl, hb0⟩
  · have he : lessen k x.t.length = -1 := by unfold lessen; rw [if_neg hle]
    have HE : Hid (lessen k (x.t.length + x.o.length) = -1) := lessen_no (by omega)
    rw [he] at hc
    clear he
    go_enter Tryd.func32, Tryd.ntmps32
    go_wp2_with fail
    refine (hc _).mono ?_
    rintro e w1 ⟨rfl, rfl⟩
    go_wp2
    go_ret
    exact ⟨by rw [HE.out]; rfl, hb0⟩

theorem Lies.new1 (w : World) (o : Obj) (t : TypeId) (cs : Array Value) : Lies ((w.alloc o).alloc (.cells cs t)) (w.heap.size + 1) t cs.toList := by
  have h := Lies.new (w.alloc o) t cs
  rwa [show (w.alloc o).heap.size = w.heap.size + 1 from Array.size_push _] at h
theorem Lies.new2 (w : World) (o o' : Obj) (t : TypeId) (cs : Array Value) : Lies (((w.alloc o).alloc o').alloc (.cells cs t)) (w.heap.size + 1 + 1) t cs.toList := by
  have h := Lies.new1 (w.alloc o) o' t cs
  rwa [show (w.alloc o).heap.size = w.heap.size + 1 from Array.size_push _] at h

set_option maxHeartbeats 1000000 in
theorem toOffice_any (x : Off) (w : World) (h : OffR w w.heap.size x) (hn : x.t.length ≤ 1048576) (hm : x.o.length ≤ 1048576) :
    Calls Tryd.prog 35 #[x.val] w fun e w' => ∃ g1 g2, e = .returned (Off.val { x with TA := some ⟨g1, 0, none⟩, tc := x.t.length, OA := some ⟨g2, 0, none⟩, oc := x.o.length }) ∧ w.heap.size ≤ g1 ∧ g1 < g2 ∧ Lies w' g1 97 (x.t.flatMap Tray.enc) ∧ Lies w' g2 99 (x.o.flatMap Outing.enc) ∧ Below w.heap.size w w' := by
  have L1 := ((Lies.new w 25 #[.slice x.TA x.t.length x.tc, .slice x.OA x.o.length x.oc, .int .i64 x.got, .int .i64 x.sold, .int .i64 x.missed]).alloc (.cells #[.slice none 0 0, .slice none 0 0, .int .i64 0, .int .i64 0, .int .i64 0] 35)).alloc (.cells #[.slice none 0 0, .slice none 0 0, .int .i64 0, .int .i64 0, .int .i64 0] 35)
  have L2 := (Lies.new1 w (.cells #[.slice x.TA x.t.length x.tc, .slice x.OA x.o.length x.oc, .int .i64 x.got, .int .i64 x.sold, .int .i64 x.missed] 25) 35 #[.slice none 0 0, .slice none 0 0, .int .i64 0, .int .i64 0, .int .i64 0]).alloc (.cells #[.slice none 0 0, .slice none 0 0, .int .i64 0, .int .i64 0, .int .i64 0] 35)
  have L3 := Lies.new2 w (.cells #[.slice x.TA x.t.length x.tc, .slice x.OA x.o.length x.oc, .int .i64 x.got, .int .i64 x.sold, .int .i64 x.missed] 25) (.cells #[.slice none 0 0, .slice none 0 0, .int .i64 0, .int .i64 0, .int .i64 0] 35) 35 #[.slice none 0 0, .slice none 0 0, .int .i64 0, .int .i64 0, .int .i64 0]
  have b1 := (Below.refl w.heap.size w).alloc (Nat.le_refl _) (.cells #[.slice x.TA x.t.length x.tc, .slice x.OA x.o.length x.oc, .int .i64 x.got, .int .i64 x.sold, .int .i64 x.missed] 25)
  have b2 := b1.alloc b1.size (.cells #[.slice none 0 0, .slice none 0 0, .int .i64 0, .int .i64 0, .int .i64 0] 35)
  have b3 := b2.alloc b2.size (.cells #[.slice none 0 0, .slice none 0 0, .int .i64 0, .int .i64 0, .int .i64 0] 35)
  clear b1 b2
  go_enter Tryd.func35, Tryd.ntmps35
  go_wp2_with fail
  generalize (((w.alloc (.cells #[.slice x.TA x.t.length x.tc, .slice x.OA x.o.length x.oc, .int .i64 x.got, .int .i64 x.sold, .int .i64 x.missed] 25)).alloc (.cells #[.slice none 0 0, .slice none 0 0, .int .i64 0, .int .i64 0, .int .i64 0] 35)).alloc (.cells #[.slice none 0 0, .slice none 0 0, .int .i64 0, .int .i64 0, .int .i64 0] 35)) = W3 at L1 L2 L3 b3 ⊢
  refine (toTrays_any x.TA x.tc x.t W3 (h.up b3 (Nat.le_refl _)).ts hn).mono ?_
  rintro e W4 ⟨g1, rfl, hg1, hL4, hb4⟩
  have hs1 := L1.lt
  have hs2 := L2.lt
  have hs3 := L3.lt
  have b4 := b3.trans (hb4.mono b3.size)
  have c1 := (L1.below hb4 L1.lt).cell 1
  have d0 := (L3.below hb4 L3.lt).cell 0
  have f0 := (L3.below hb4 L3.lt).frozen 0
  simp only [List.getElem?_cons_zero, List.getElem?_cons_succ] at c1 d0
  have M1 := (L1.below hb4 L1.lt).other (p := ⟨w.heap.size + 1 + 1, 0, none⟩) (by simp only; omega) (.slice (some ⟨g1, 0, none⟩) x.t.length x.t.length)
  have M2 := (L2.below hb4 L2.lt).other (p := ⟨w.heap.size + 1 + 1, 0, none⟩) (by simp only; omega) (.slice (some ⟨g1, 0, none⟩) x.t.length x.t.length)
  have M3 := (L3.below hb4 L3.lt).set 0 (.slice (some ⟨g1, 0, none⟩) x.t.length x.t.length)
  have M4 := hL4.other (p := ⟨w.heap.size + 1 + 1, 0, none⟩) (by simp only; omega) (.slice (some ⟨g1, 0, none⟩) x.t.length x.t.length)
  have b5 : Below w.heap.size w (W4.setCell ⟨w.heap.size + 1 + 1, 0, none⟩ (.slice (some ⟨g1, 0, none⟩) x.t.length x.t.length)) := b4.grown (grown_set (World.grownBy.refl W4 (some (w.heap.size + 1 + 1)))) b4.size (by rintro _ ⟨⟩; omega)
  have z5 : W4.heap.size ≤ (W4.setCell ⟨w.heap.size + 1 + 1, 0, none⟩ (.slice (some ⟨g1, 0, none⟩) x.t.length x.t.length)).heap.size := by simp [World.setCell]
  go_wp2_with fail
  clear c1 d0 f0
  generalize W4.setCell ⟨w.heap.size + 1 + 1, 0, none⟩ (.slice (some ⟨g1, 0, none⟩) x.t.length x.t.length) = W5 at M1 M2 M3 M4 b5 z5 ⊢
  refine (toOutings_any x.OA x.oc x.o W5 (h.up b5 (Nat.le_refl _)).os hm).mono ?_
  rintro e W6 ⟨g2, rfl, hg2, hL6, hb6⟩
  have b6 := b5.trans (hb6.mono b5.size)
  have t1 := M1.lt
  have t2 := M2.lt
  have t3 := M3.lt
  have t4 := M4.lt
  have N1 := M1.below hb6 M1.lt
  have N2 := M2.below hb6 M2.lt
  have N3 := M3.below hb6 M3.lt
  have N4 := M4.below hb6 M4.lt
  clear L1 L2 L3 M1 M2 M3 M4 hL4 h
  have c2 := N1.cell 2
  have c3 := N1.cell 3
  have c4 := N1.cell 4
  have d0 := N3.cell 0
  have d1 := N3.cell 1
  have d2 := N3.cell 2
  have d3 := N3.cell 3
  have d4 := N3.cell 4
  have e0 := N2.cell 0
  have e1 := N2.cell 1
  have e2 := N2.cell 2
  have e3 := N2.cell 3
  have e4 := N2.cell 4
  have f1 := N3.frozen 1
  have f2 := N3.frozen 2
  have f3 := N3.frozen 3
  have f4 := N3.frozen 4
  have k0 := N2.frozen 0
  have k1 := N2.frozen 1
  have k2 := N2.frozen 2
  have k3 := N2.frozen 3
  have k4 := N2.frozen 4
  simp only [List.set_cons_zero, List.getElem?_cons_zero, List.getElem?_cons_succ] at c2 c3 c4 d0 d1 d2 d3 d4 e0 e1 e2 e3 e4
  go_wp2
  refine bodyPost_ret (v := Off.val { x with TA := some ⟨g1, 0, none⟩, tc := x.t.length, OA := some ⟨g2, 0, none⟩, oc := x.o.length }) (by simp [results, Tryd.results35, go_sem, *]) rfl ⟨g1, g2, rfl, Nat.le_trans b3.size hg1, by omega, ?_, ?_, ?_⟩
  · exact ((((((((N4.other (by simp only; omega) _).other (by simp only; omega) _).other (by simp only; omega) _).other (by simp only; omega) _).other (by simp only; omega) _).other (by simp only; omega) _).other (by simp only; omega) _).other (by simp only; omega) _).other (by simp only; omega) _
  · exact ((((((((hL6.other (by simp only; omega) _).other (by simp only; omega) _).other (by simp only; omega) _).other (by simp only; omega) _).other (by simp only; omega) _).other (by simp only; omega) _).other (by simp only; omega) _).other (by simp only; omega) _).other (by simp only; omega) _
  · exact (b6.grown (grown_set (grown_set (grown_set (grown_set (World.grownBy.refl W6 (some (w.heap.size + 1 + 1))))))) b6.size (by rintro _ ⟨⟩; omega)).grown (grown_set (grown_set (grown_set (grown_set (grown_set (World.grownBy.refl _ (some (w.heap.size + 1)))))))) (by simpa using b6.size) (by rintro _ ⟨⟩; omega)

def Off.same (x y : Off) : Bool := sameTrays x.t y.t && sameOutings x.o y.o && decide (x.got = y.got) && decide (x.sold = y.sold) && decide (x.missed = y.missed)

set_option maxHeartbeats 1000000 in
theorem eqOffice_yes (x y : Off) (w : World) (hx : OffR w w.heap.size x) (hy : OffR w w.heap.size y) (ht : sameTrays x.t y.t = true) (ho : sameOutings x.o y.o = true) (hg : x.got = y.got) (hs : x.sold = y.sold) (hm : x.missed = y.missed) :
    Calls Tryd.prog 39 #[x.val, y.val] w fun e w' => e = .returned (.bool true) ∧ Below w.heap.size w w' := by
  have b1 := (Below.refl w.heap.size w).alloc (Nat.le_refl _) (.cells #[.slice x.TA x.t.length x.tc, .slice x.OA x.o.length x.oc, .int .i64 x.got, .int .i64 x.sold, .int .i64 x.missed] 35)
  have b2 := b1.alloc b1.size (.cells #[.slice y.TA y.t.length y.tc, .slice y.OA y.o.length y.oc, .int .i64 y.got, .int .i64 y.sold, .int .i64 y.missed] 35)
  have L1 := (Lies.new w 35 #[.slice x.TA x.t.length x.tc, .slice x.OA x.o.length x.oc, .int .i64 x.got, .int .i64 x.sold, .int .i64 x.missed]).alloc (.cells #[.slice y.TA y.t.length y.tc, .slice y.OA y.o.length y.oc, .int .i64 y.got, .int .i64 y.sold, .int .i64 y.missed] 35)
  have L2 := Lies.new1 w (.cells #[.slice x.TA x.t.length x.tc, .slice x.OA x.o.length x.oc, .int .i64 x.got, .int .i64 x.sold, .int .i64 x.missed] 35) 35 #[.slice y.TA y.t.length y.tc, .slice y.OA y.o.length y.oc, .int .i64 y.got, .int .i64 y.sold, .int .i64 y.missed]
  clear b1
  have n1 : (x.got != y.got) = false := by simp [hg]
  have n2 : (x.sold != y.sold) = false := by simp [hs]
  have n3 : (x.missed != y.missed) = false := by simp [hm]
  have HT := Lib.hid ht
  have HO := Lib.hid ho
  clear hg hs hm ht ho
  go_enter Tryd.func39, Tryd.ntmps39
  go_wp2_with fail
  generalize ((w.alloc (.cells #[.slice x.TA x.t.length x.tc, .slice x.OA x.o.length x.oc, .int .i64 x.got, .int .i64 x.sold, .int .i64 x.missed] 35)).alloc (.cells #[.slice y.TA y.t.length y.tc, .slice y.OA y.o.length y.oc, .int .i64 y.got, .int .i64 y.sold, .int .i64 y.missed] 35)) = W at b2 L1 L2 ⊢
  have hX := hx.up b2 (Nat.le_refl _)
  have hY := hy.up b2 (Nat.le_refl _)
  refine (eqTrays_any x.TA y.TA x.tc y.tc x.t y.t W hX.ts hY.ts).mono ?_
  rw [HT.out]
  rintro e w1 ⟨rfl, hb1⟩
  have c1 := (L1.below hb1 L1.lt).cell 1
  have d1 := (L2.below hb1 L2.lt).cell 1
  simp only [List.getElem?_cons_zero, List.getElem?_cons_succ] at c1 d1
  go_wp2_with fail
  refine (eqOutings_any x.OA y.OA x.oc y.oc x.o y.o _ (hX.then hb1).os (hY.then hb1).os).mono ?_
  rw [HO.out]
  rintro e w2 ⟨rfl, hb2⟩
  have k := bthen hb1 hb2
  clear c1 d1
  have c2 := (L1.below k L1.lt).cell 2
  have c3 := (L1.below k L1.lt).cell 3
  have c4 := (L1.below k L1.lt).cell 4
  have d2 := (L2.below k L2.lt).cell 2
  have d3 := (L2.below k L2.lt).cell 3
  have d4 := (L2.below k L2.lt).cell 4
  simp only [List.getElem?_cons_zero, List.getElem?_cons_succ] at c2 c3 c4 d2 d3 d4
  go_wp2
  go_ret
  exact ⟨rfl, bthen b2 k⟩
end Go.Proofs.YtojceibamgodbaaDoor
