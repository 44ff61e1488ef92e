/- Consoles: an office and a log, in one block of eight cells; validity, size, copy, likeness. (Printed by gen_con.py) -/
import Derived.Test.YtojceibamgodbaaDoorLawOffA
import Derived.Test.YtojceibamgodbaaDoorLgTo
namespace Go.Proofs.YtojceibamgodbaaDoor
open Go.RowKit

abbrev conVal (x : Off) (l : Lg) : Value := .agg #[.slice x.TA x.t.length x.tc, .slice x.OA x.o.length x.oc, .int .i64 x.got, .int .i64 x.sold, .int .i64 x.missed, .string l.D, .string l.P, .int .i64 l.n]
noncomputable def conOk (x : Off) (l : Lg) : Bool := goodOff x && l.ok
/-- An office lies at the head of a longer block. -/
theorem offAt_head {w : World} {g : Nat} {t : TypeId} {x : Off} {l : Lg} (h : Lies w g t [.slice x.TA x.t.length x.tc, .slice x.OA x.o.length x.oc, .int .i64 x.got, .int .i64 x.sold, .int .i64 x.missed, .string l.D, .string l.P, .int .i64 l.n]) (hr : OffR w w.heap.size x) : OffAt w w.heap.size g x :=
  ⟨⟨fun p => (p.cell h.lt).trans (h.cell 0), fun p => (p.cell h.lt).trans (h.cell 1), fun p => (p.cell h.lt).trans (h.cell 2), fun p => (p.cell h.lt).trans (h.cell 3), fun p => (p.cell h.lt).trans (h.cell 4)⟩, h.lt, hr⟩


set_option maxHeartbeats 1000000 in
theorem l34Good_any (x : Off) (l : Lg) (w : World) (h : OffR w w.heap.size x) (hs : l.D.size + l.P.size ≤ 2000000) :
    Calls Tryd.prog 34 #[conVal x l] w fun e w' => e = .returned (.bool (conOk x l)) ∧ Below w.heap.size w w' := by
  have b1 := (Below.refl w.heap.size w).alloc (Nat.le_refl _) (.cells #[.slice x.TA x.t.length x.tc, .slice x.OA x.o.length x.oc, .int .i64 x.got, .int .i64 x.sold, .int .i64 x.missed, .string l.D, .string l.P, .int .i64 l.n] 38)
  have L1 := Lies.new w 38 #[.slice x.TA x.t.length x.tc, .slice x.OA x.o.length x.oc, .int .i64 x.got, .int .i64 x.sold, .int .i64 x.missed, .string l.D, .string l.P, .int .i64 l.n]
  have cO := l32Good_any x _ (h.up b1 (Nat.le_refl _))
  have HC : Hid (conOk x l = (goodOff x && l.ok)) := rfl
  have cL := fun W => l33Log_any l W hs
  generalize goodOff x = v1 at cO HC
  generalize l.ok = v2 at cL HC
  cases v1
  · go_enter Tryd.func34, Tryd.ntmps34
    go_wp2_with fail
    refine cO.mono ?_
    rintro e w1 ⟨rfl, hb1⟩
    go_wp2_with fail
    go_ret
    exact ⟨by rw [HC.out]; rfl, bthen b1 hb1⟩
  · go_enter Tryd.func34, Tryd.ntmps34
    go_wp2_with fail
    refine cO.mono ?_
    rintro e w1 ⟨rfl, hb1⟩
    have M1 := L1.below hb1 L1.lt
    have c5 := M1.cell 5
    have c6 := M1.cell 6
    have c7 := M1.cell 7
    simp only [List.getElem?_cons_zero, List.getElem?_cons_succ] at c5 c6 c7
    go_wp2_with fail
    refine (cL _).mono ?_
    rintro e w2 ⟨rfl, hb2⟩
    go_wp2_with fail
    go_ret
    exact ⟨by rw [HC.out]; rfl, bthen b1 (bthen hb1 hb2)⟩

set_option maxHeartbeats 1000000 in
theorem specIsConsole_any (x : Off) (l : Lg) (w : World) (h : OffR w w.heap.size x) (hs : l.D.size + l.P.size ≤ 2000000) :
    Calls Tryd.prog 8 #[conVal x l] w fun e w' => e = .returned (.bool (conOk x l)) ∧ Below w.heap.size w w' := by
  have b1 := (Below.refl w.heap.size w).alloc (Nat.le_refl _) (.cells #[.slice x.TA x.t.length x.tc, .slice x.OA x.o.length x.oc, .int .i64 x.got, .int .i64 x.sold, .int .i64 x.missed, .string l.D, .string l.P, .int .i64 l.n] 38)
  go_enter Tryd.func8, Tryd.ntmps8
  go_wp2_with fail
  refine (l34Good_any x l _ (h.up b1 (Nat.le_refl _)) hs).mono ?_
  rintro e w1 ⟨rfl, hb⟩
  go_wp2
  go_ret
  exact ⟨rfl, bthen b1 hb⟩

set_option maxHeartbeats 1000000 in
theorem implIsConsole_any (x : Off) (l : Lg) (w : World) (h : OffR w w.heap.size x) (hs : l.D.size + l.P.size ≤ 2000000) (ht : Tab w) :
    Calls Tryd.prog 10 #[conVal x l] w fun e w' => e = .returned (.bool (conOk x l)) ∧ Below w.heap.size w w' := by
  have b1 := (Below.refl w.heap.size w).alloc (Nat.le_refl _) (.cells #[.slice x.TA x.t.length x.tc, .slice x.OA x.o.length x.oc, .int .i64 x.got, .int .i64 x.sold, .int .i64 x.missed, .string l.D, .string l.P, .int .i64 l.n] 38)
  have L1 := Lies.new w 38 #[.slice x.TA x.t.length x.tc, .slice x.OA x.o.length x.oc, .int .i64 x.got, .int .i64 x.sold, .int .i64 x.missed, .string l.D, .string l.P, .int .i64 l.n]
  have ht1 := ht.then b1
  have cO := isOfficeValid_any x _ _ (offAt_head L1 (h.up b1 (Nat.le_refl _)))
  have HC : Hid (conOk x l = (goodOff x && l.ok)) := rfl
  have cL := fun W hW => isLog_any l W hs hW
  generalize goodOff x = v1 at cO HC
  generalize l.ok = v2 at cL HC
  cases v1
  · go_enter Tryd.func10, Tryd.ntmps10
    go_wp2_with fail
    refine cO.mono ?_
    rintro e w1 ⟨rfl, hb1⟩
    go_wp2_with fail
    go_ret
    exact ⟨by rw [HC.out]; rfl, bthen b1 hb1⟩
  · go_enter Tryd.func10, Tryd.ntmps10
    go_wp2_with fail
    refine cO.mono ?_
    rintro e w1 ⟨rfl, hb1⟩
    have M1 := L1.below hb1 L1.lt
    have c5 := M1.cell 5
    have c6 := M1.cell 6
    have c7 := M1.cell 7
    simp only [List.getElem?_cons_zero, List.getElem?_cons_succ] at c5 c6 c7
    go_wp2_with fail
    refine (cL _ (ht1.then hb1)).mono ?_
    rintro e w2 ⟨rfl, hb2⟩
    go_wp2_with fail
    go_ret
    exact ⟨by rw [HC.out]; rfl, bthen b1 (bthen hb1 hb2)⟩


def Off.need (x : Off) : Nat := x.t.length + x.o.length
set_option maxHeartbeats 1000000 in
theorem szConsole_any (x : Off) (l : Lg) (k : Int) (w : World) (hn : x.t.length ≤ 9223372036854775807) (hm : x.o.length ≤ 9223372036854775807) (h1 : l.D.size ≤ 9223372036854775807) (h2 : l.P.size ≤ 9223372036854775807) (hk : 0 ≤ k) (hk' : k ≤ 1048576) :
    Calls Tryd.prog 7 #[conVal x l, .int .i64 k] w fun e w' => e = .returned (.int .i64 (lessR (lessen k (x.t.length + x.o.length)) l.need)) ∧ Below w.heap.size w w' := by
  have b1 := (Below.refl w.heap.size w).alloc (Nat.le_refl _) (.cells #[.slice x.TA x.t.length x.tc, .slice x.OA x.o.length x.oc, .int .i64 x.got, .int .i64 x.sold, .int .i64 x.missed, .string l.D, .string l.P, .int .i64 l.n] 29)
  have L1 := Lies.new w 29 #[.slice x.TA x.t.length x.tc, .slice x.OA x.o.length x.oc, .int .i64 x.got, .int .i64 x.sold, .int .i64 x.missed, .string l.D, .string l.P, .int .i64 l.n]
  have hc := fun W => szOffice_any x k W hn hm hk hk'
  by_cases hle : ((x.t.length + x.o.length : Nat) : Int) ≤ k
  · have he : lessen k (x.t.length + x.o.length) = k - ((x.t.length + x.o.length : Nat) : Int) := by unfold lessen; rw [if_pos hle]
    have hd := fun W => szLog_any l (k - ((x.t.length + x.o.length : Nat) : Int)) W h1 h2 (by omega) (by omega)
    rw [he] at hc
    have HE := Lib.hid he
    clear he
    obtain ⟨k1, hk1⟩ : ∃ k1, k1 = k - ((x.t.length + x.o.length : Nat) : Int) := ⟨_, rfl⟩
    rw [← hk1] at hc hd HE
    have hk2 : decide (k1 < 0) = false := decide_eq_false (by omega)
    clear hk1
    obtain ⟨k3, hk3⟩ : ∃ k3, k3 = lessR k1 l.need := ⟨_, rfl⟩
    rw [← hk3] at hd
    have HR := Lib.hid hk3
    have h3 : -1 ≤ k3 := by rw [hk3]; unfold lessR; split <;> omega
    have h4 : k3 < 0 → k3 = -1 := by rw [hk3]; unfold lessR; split <;> omega
    clear hk3
    by_cases h5 : k3 < 0
    · have h6 : decide (k3 < 0) = true := decide_eq_true h5
      have H7 := Lib.hid (h4 h5)
      clear h4 h3
      go_enter Tryd.func7, Tryd.ntmps7
      go_wp2_with fail
      refine (hc _).mono ?_
      rintro e w1 ⟨rfl, hb1⟩
      have M1 := L1.below hb1 L1.lt
      have c5 := M1.cell 5
      have c6 := M1.cell 6
      have c7 := M1.cell 7
      simp only [List.getElem?_cons_zero, List.getElem?_cons_succ] at c5 c6 c7
      go_wp2_with fail
      refine (hd _).mono ?_
      rintro e w2 ⟨rfl, hb2⟩
      go_wp2_with fail
      go_ret
      exact ⟨by rw [HE.out, ← HR.out, H7.out]; rfl, bthen b1 (bthen hb1 hb2)⟩
    · have h6 : decide (k3 < 0) = false := decide_eq_false h5
      clear h4 h3
      go_enter Tryd.func7, Tryd.ntmps7
      go_wp2_with fail
      refine (hc _).mono ?_
      rintro e w1 ⟨rfl, hb1⟩
      have M1 := L1.below hb1 L1.lt
      have c5 := M1.cell 5
      have c6 := M1.cell 6
      have c7 := M1.cell 7
      simp only [List.getElem?_cons_zero, List.getElem?_cons_succ] at c5 c6 c7
      go_wp2_with fail
      refine (hd _).mono ?_
      rintro e w2 ⟨rfl, hb2⟩
      go_wp2_with fail
      go_ret
      exact ⟨by rw [HE.out, ← HR.out]; rfl, bthen b1 (bthen hb1 hb2)⟩
  · have he : lessen k (x.t.length + x.o.length) = -1 := by unfold lessen; rw [if_neg hle]
    rw [he] at hc
    have HE : Hid (lessR (lessen k (x.t.length + x.o.length)) l.need = -1) := by rw [Hid, he]; unfold lessR; rw [if_neg (by omega)]
    clear he
    go_enter Tryd.func7, Tryd.ntmps7
    go_wp2_with fail
    refine (hc _).mono ?_
    rintro e w1 ⟨rfl, hb1⟩
    go_wp2_with fail
    go_ret
    exact ⟨by rw [HE.out]; rfl, bthen b1 hb1⟩


set_option maxRecDepth 100000 in
set_option maxHeartbeats 4000000 in
theorem toConsole_any (x : Off) (l : Lg) (w : World) (h : OffR w w.heap.size x) (hn : x.t.length ≤ 1048576) (hm : x.o.length ≤ 1048576) :
    Calls Tryd.prog 9 #[conVal x l] w fun e w' => ∃ g1 g2, e = .returned (conVal (x.copy g1 g2) l) ∧ w.heap.size ≤ g1 ∧ g1 < g2 ∧ Lies w' g1 97 (x.t.flatMap Tray.enc) ∧ Lies w' g2 99 (x.o.flatMap Outing.enc) ∧ Below w.heap.size w w' := by
  have L1 := ((Lies.new w 29 #[.slice x.TA x.t.length x.tc, .slice x.OA x.o.length x.oc, .int .i64 x.got, .int .i64 x.sold, .int .i64 x.missed, .string l.D, .string l.P, .int .i64 l.n]).alloc (.cells #[.slice none 0 0, .slice none 0 0, .int .i64 0, .int .i64 0, .int .i64 0, .string ⟨#[]⟩, .string ⟨#[]⟩, .int .i64 0] 38)).alloc (.cells #[.slice none 0 0, .slice none 0 0, .int .i64 0, .int .i64 0, .int .i64 0, .string ⟨#[]⟩, .string ⟨#[]⟩, .int .i64 0] 38)
  have L2 := (Lies.new1 w (.cells #[.slice x.TA x.t.length x.tc, .slice x.OA x.o.length x.oc, .int .i64 x.got, .int .i64 x.sold, .int .i64 x.missed, .string l.D, .string l.P, .int .i64 l.n] 29) 38 #[.slice none 0 0, .slice none 0 0, .int .i64 0, .int .i64 0, .int .i64 0, .string ⟨#[]⟩, .string ⟨#[]⟩, .int .i64 0]).alloc (.cells #[.slice none 0 0, .slice none 0 0, .int .i64 0, .int .i64 0, .int .i64 0, .string ⟨#[]⟩, .string ⟨#[]⟩, .int .i64 0] 38)
  have L3 := Lies.new2 w (.cells #[.slice x.TA x.t.length x.tc, .slice x.OA x.o.length x.oc, .int .i64 x.got, .int .i64 x.sold, .int .i64 x.missed, .string l.D, .string l.P, .int .i64 l.n] 29) (.cells #[.slice none 0 0, .slice none 0 0, .int .i64 0, .int .i64 0, .int .i64 0, .string ⟨#[]⟩, .string ⟨#[]⟩, .int .i64 0] 38) 38 #[.slice none 0 0, .slice none 0 0, .int .i64 0, .int .i64 0, .int .i64 0, .string ⟨#[]⟩, .string ⟨#[]⟩, .int .i64 0]
  have b1 := (Below.refl w.heap.size w).alloc (Nat.le_refl _) (.cells #[.slice x.TA x.t.length x.tc, .slice x.OA x.o.length x.oc, .int .i64 x.got, .int .i64 x.sold, .int .i64 x.missed, .string l.D, .string l.P, .int .i64 l.n] 29)
  have b2 := b1.alloc b1.size (.cells #[.slice none 0 0, .slice none 0 0, .int .i64 0, .int .i64 0, .int .i64 0, .string ⟨#[]⟩, .string ⟨#[]⟩, .int .i64 0] 38)
  have b3 := b2.alloc b2.size (.cells #[.slice none 0 0, .slice none 0 0, .int .i64 0, .int .i64 0, .int .i64 0, .string ⟨#[]⟩, .string ⟨#[]⟩, .int .i64 0] 38)
  clear b1 b2
  go_enter Tryd.func9, Tryd.ntmps9
  go_wp2_with fail
  generalize (((w.alloc (.cells #[.slice x.TA x.t.length x.tc, .slice x.OA x.o.length x.oc, .int .i64 x.got, .int .i64 x.sold, .int .i64 x.missed, .string l.D, .string l.P, .int .i64 l.n] 29)).alloc (.cells #[.slice none 0 0, .slice none 0 0, .int .i64 0, .int .i64 0, .int .i64 0, .string ⟨#[]⟩, .string ⟨#[]⟩, .int .i64 0] 38)).alloc (.cells #[.slice none 0 0, .slice none 0 0, .int .i64 0, .int .i64 0, .int .i64 0, .string ⟨#[]⟩, .string ⟨#[]⟩, .int .i64 0] 38)) = W3 at L1 L2 L3 b3 ⊢
  refine (toOffice_any x W3 (h.up b3 (Nat.le_refl _)) hn hm).mono ?_
  rintro e W4 ⟨g1, g2, rfl, hg1, hg2, hL1, hL2, hb4⟩
  have hs1 := L1.lt
  have hs2 := L2.lt
  have hs3 := L3.lt
  have b4 := b3.trans (hb4.mono b3.size)
  have K1 := L1.below hb4 L1.lt
  have K2 := L2.below hb4 L2.lt
  have K3 := L3.below hb4 L3.lt
  clear L1 L2 L3 h

  have c5 := K1.cell 5
  have c6 := K1.cell 6
  have c7 := K1.cell 7
  have d0 := K3.cell 0
  have f0 := K3.frozen 0
  have d1 := K3.cell 1
  have f1 := K3.frozen 1
  have d2 := K3.cell 2
  have f2 := K3.frozen 2
  have d3 := K3.cell 3
  have f3 := K3.frozen 3
  have d4 := K3.cell 4
  have f4 := K3.frozen 4
  simp only [List.getElem?_cons_zero, List.getElem?_cons_succ] at c5 c6 c7 d0 d1 d2 d3 d4
  have M1 := (((((K1).other (p := ⟨w.heap.size + 1 + 1, 0, none⟩) (by simp only; omega) (.slice (some ⟨g1, 0, none⟩) x.t.length x.t.length)).other (p := ⟨w.heap.size + 1 + 1, 1, none⟩) (by simp only; omega) (.slice (some ⟨g2, 0, none⟩) x.o.length x.o.length)).other (p := ⟨w.heap.size + 1 + 1, 2, none⟩) (by simp only; omega) (.int .i64 x.got)).other (p := ⟨w.heap.size + 1 + 1, 3, none⟩) (by simp only; omega) (.int .i64 x.sold)).other (p := ⟨w.heap.size + 1 + 1, 4, none⟩) (by simp only; omega) (.int .i64 x.missed)
  have M2 := (((((K2).other (p := ⟨w.heap.size + 1 + 1, 0, none⟩) (by simp only; omega) (.slice (some ⟨g1, 0, none⟩) x.t.length x.t.length)).other (p := ⟨w.heap.size + 1 + 1, 1, none⟩) (by simp only; omega) (.slice (some ⟨g2, 0, none⟩) x.o.length x.o.length)).other (p := ⟨w.heap.size + 1 + 1, 2, none⟩) (by simp only; omega) (.int .i64 x.got)).other (p := ⟨w.heap.size + 1 + 1, 3, none⟩) (by simp only; omega) (.int .i64 x.sold)).other (p := ⟨w.heap.size + 1 + 1, 4, none⟩) (by simp only; omega) (.int .i64 x.missed)
  have M3 := (((((K3).set 0 (.slice (some ⟨g1, 0, none⟩) x.t.length x.t.length)).set 1 (.slice (some ⟨g2, 0, none⟩) x.o.length x.o.length)).set 2 (.int .i64 x.got)).set 3 (.int .i64 x.sold)).set 4 (.int .i64 x.missed)
  have M4 := (((((hL1).other (p := ⟨w.heap.size + 1 + 1, 0, none⟩) (by simp only; omega) (.slice (some ⟨g1, 0, none⟩) x.t.length x.t.length)).other (p := ⟨w.heap.size + 1 + 1, 1, none⟩) (by simp only; omega) (.slice (some ⟨g2, 0, none⟩) x.o.length x.o.length)).other (p := ⟨w.heap.size + 1 + 1, 2, none⟩) (by simp only; omega) (.int .i64 x.got)).other (p := ⟨w.heap.size + 1 + 1, 3, none⟩) (by simp only; omega) (.int .i64 x.sold)).other (p := ⟨w.heap.size + 1 + 1, 4, none⟩) (by simp only; omega) (.int .i64 x.missed)
  have M5 := (((((hL2).other (p := ⟨w.heap.size + 1 + 1, 0, none⟩) (by simp only; omega) (.slice (some ⟨g1, 0, none⟩) x.t.length x.t.length)).other (p := ⟨w.heap.size + 1 + 1, 1, none⟩) (by simp only; omega) (.slice (some ⟨g2, 0, none⟩) x.o.length x.o.length)).other (p := ⟨w.heap.size + 1 + 1, 2, none⟩) (by simp only; omega) (.int .i64 x.got)).other (p := ⟨w.heap.size + 1 + 1, 3, none⟩) (by simp only; omega) (.int .i64 x.sold)).other (p := ⟨w.heap.size + 1 + 1, 4, none⟩) (by simp only; omega) (.int .i64 x.missed)
  have b5 : Below w.heap.size w ((((((W4).setCell ⟨w.heap.size + 1 + 1, 0, none⟩ (.slice (some ⟨g1, 0, none⟩) x.t.length x.t.length)).setCell ⟨w.heap.size + 1 + 1, 1, none⟩ (.slice (some ⟨g2, 0, none⟩) x.o.length x.o.length)).setCell ⟨w.heap.size + 1 + 1, 2, none⟩ (.int .i64 x.got)).setCell ⟨w.heap.size + 1 + 1, 3, none⟩ (.int .i64 x.sold)).setCell ⟨w.heap.size + 1 + 1, 4, none⟩ (.int .i64 x.missed)) := b4.grown (grown_set (grown_set (grown_set (grown_set (grown_set (World.grownBy.refl W4 (some (w.heap.size + 1 + 1)))))))) b4.size (by rintro _ ⟨⟩; omega)
  simp only [List.set_cons_zero, List.set_cons_succ] at M3
  clear K1 K2 K3 hL1 hL2
  go_wp2_with fail
  clear c5 c6 c7 d0 f0 d1 f1 d2 f2 d3 f3 d4 f4
  generalize ((((((W4).setCell ⟨w.heap.size + 1 + 1, 0, none⟩ (.slice (some ⟨g1, 0, none⟩) x.t.length x.t.length)).setCell ⟨w.heap.size + 1 + 1, 1, none⟩ (.slice (some ⟨g2, 0, none⟩) x.o.length x.o.length)).setCell ⟨w.heap.size + 1 + 1, 2, none⟩ (.int .i64 x.got)).setCell ⟨w.heap.size + 1 + 1, 3, none⟩ (.int .i64 x.sold)).setCell ⟨w.heap.size + 1 + 1, 4, none⟩ (.int .i64 x.missed)) = W5 at M1 M2 M3 M4 M5 b5 ⊢
  refine (toLog_any l W5).mono ?_
  rintro e W6 ⟨rfl, hb6⟩
  have b6 := b5.trans (hb6.mono b5.size)
  have t1 := M1.lt
  have t2 := M2.lt
  have t3 := M3.lt
  have t4 := M4.lt
  have t5 := M5.lt
  have N2 := M2.below hb6 M2.lt
  have N3 := M3.below hb6 M3.lt
  have N4 := M4.below hb6 M4.lt
  have N5 := M5.below hb6 M5.lt
  clear M1 M2 M3 M4 M5
  have d0 := N3.cell 0
  have e0 := N2.cell 0
  have k0 := N2.frozen 0
  have d1 := N3.cell 1
  have e1 := N2.cell 1
  have k1 := N2.frozen 1
  have d2 := N3.cell 2
  have e2 := N2.cell 2
  have k2 := N2.frozen 2
  have d3 := N3.cell 3
  have e3 := N2.cell 3
  have k3 := N2.frozen 3
  have d4 := N3.cell 4
  have e4 := N2.cell 4
  have k4 := N2.frozen 4
  have d5 := N3.cell 5
  have e5 := N2.cell 5
  have k5 := N2.frozen 5
  have f5 := N3.frozen 5
  have d6 := N3.cell 6
  have e6 := N2.cell 6
  have k6 := N2.frozen 6
  have f6 := N3.frozen 6
  have d7 := N3.cell 7
  have e7 := N2.cell 7
  have k7 := N2.frozen 7
  have f7 := N3.frozen 7
  simp only [List.getElem?_cons_zero, List.getElem?_cons_succ] at d0 d1 d2 d3 d4 d5 d6 d7 e0 e1 e2 e3 e4 e5 e6 e7
  go_wp2
  refine bodyPost_ret (v := conVal (x.copy g1 g2) l) (by simp [results, Tryd.results9, go_sem, *]) rfl ⟨g1, g2, rfl, Nat.le_trans b3.size hg1, hg2, ?_, ?_, ?_⟩
  · exact ((((((((((N4.other (by simp only; omega) _).other (by simp only; omega) _).other (by simp only; omega) _).other (by simp only; omega) _).other (by simp only; omega) _).other (by simp only; omega) _).other (by simp only; omega) _).other (by simp only; omega) _).other (by simp only; omega) _).other (by simp only; omega) _).other (by simp only; omega) _
  · exact ((((((((((N5.other (by simp only; omega) _).other (by simp only; omega) _).other (by simp only; omega) _).other (by simp only; omega) _).other (by simp only; omega) _).other (by simp only; omega) _).other (by simp only; omega) _).other (by simp only; omega) _).other (by simp only; omega) _).other (by simp only; omega) _).other (by simp only; omega) _
  · exact (b6.grown (grown_set (grown_set (grown_set (World.grownBy.refl W6 (some (w.heap.size + 1 + 1)))))) b6.size (by rintro _ ⟨⟩; omega)).grown (grown_set (grown_set (grown_set (grown_set (grown_set (grown_set (grown_set (grown_set (World.grownBy.refl _ (some (w.heap.size + 1))))))))))) (by simpa using b6.size) (by rintro _ ⟨⟩; omega)


set_option maxHeartbeats 1000000 in
theorem eqConsole_yes (x y : Off) (l : Lg) (w : World) (hx : OffR w w.heap.size x) (hy : OffR w w.heap.size y) (ht : sameTrays x.t y.t = true) (ho : sameOutings x.o y.o = true) (hg : x.got = y.got) (hs : x.sold = y.sold) (hm : x.missed = y.missed) :
    Calls Tryd.prog 11 #[conVal x l, conVal y l] w fun e w' => e = .returned (.bool true) ∧ Below w.heap.size w w' := by
  have b1 := (Below.refl w.heap.size w).alloc (Nat.le_refl _) (.cells #[.slice x.TA x.t.length x.tc, .slice x.OA x.o.length x.oc, .int .i64 x.got, .int .i64 x.sold, .int .i64 x.missed, .string l.D, .string l.P, .int .i64 l.n] 38)
  have b2 := b1.alloc b1.size (.cells #[.slice y.TA y.t.length y.tc, .slice y.OA y.o.length y.oc, .int .i64 y.got, .int .i64 y.sold, .int .i64 y.missed, .string l.D, .string l.P, .int .i64 l.n] 38)
  have L1 := (Lies.new w 38 #[.slice x.TA x.t.length x.tc, .slice x.OA x.o.length x.oc, .int .i64 x.got, .int .i64 x.sold, .int .i64 x.missed, .string l.D, .string l.P, .int .i64 l.n]).alloc (.cells #[.slice y.TA y.t.length y.tc, .slice y.OA y.o.length y.oc, .int .i64 y.got, .int .i64 y.sold, .int .i64 y.missed, .string l.D, .string l.P, .int .i64 l.n] 38)
  have L2 := Lies.new1 w (.cells #[.slice x.TA x.t.length x.tc, .slice x.OA x.o.length x.oc, .int .i64 x.got, .int .i64 x.sold, .int .i64 x.missed, .string l.D, .string l.P, .int .i64 l.n] 38) 38 #[.slice y.TA y.t.length y.tc, .slice y.OA y.o.length y.oc, .int .i64 y.got, .int .i64 y.sold, .int .i64 y.missed, .string l.D, .string l.P, .int .i64 l.n]
  clear b1
  have cO := fun W hX hY => eqOffice_yes x y W hX hY ht ho hg hs hm
  clear ht ho hg hs hm
  go_enter Tryd.func11, Tryd.ntmps11
  go_wp2_with fail
  generalize ((w.alloc (.cells #[.slice x.TA x.t.length x.tc, .slice x.OA x.o.length x.oc, .int .i64 x.got, .int .i64 x.sold, .int .i64 x.missed, .string l.D, .string l.P, .int .i64 l.n] 38)).alloc (.cells #[.slice y.TA y.t.length y.tc, .slice y.OA y.o.length y.oc, .int .i64 y.got, .int .i64 y.sold, .int .i64 y.missed, .string l.D, .string l.P, .int .i64 l.n] 38)) = W at b2 L1 L2 ⊢
  refine (cO W (hx.up b2 (Nat.le_refl _)) (hy.up b2 (Nat.le_refl _))).mono ?_
  rintro e w1 ⟨rfl, hb1⟩
  have M1 := L1.below hb1 L1.lt
  have M2 := L2.below hb1 L2.lt
  have c5 := M1.cell 5
  have c6 := M1.cell 6
  have c7 := M1.cell 7
  have d5 := M2.cell 5
  have d6 := M2.cell 6
  have d7 := M2.cell 7
  simp only [List.getElem?_cons_zero, List.getElem?_cons_succ] at c5 c6 c7 d5 d6 d7
  go_wp2_with fail
  refine (eqLog_yes l _).mono ?_
  rintro e w2 ⟨rfl, hb2⟩
  go_wp2_with fail
  go_ret
  exact ⟨rfl, bthen b2 (bthen hb1 hb2)⟩
end Go.Proofs.YtojceibamgodbaaDoor
