/- IsOffice, StampsIn, StampsOut, in the reference and in the program. -/
import Derived.Test.YtdiojhjkcholiaaDoorOffImpl4
namespace Go.Proofs.YtdiojhjkcholiaaDoor
open Go.RowKit

theorem isOfficeValid_any (x : Off) (g : Nat) (w : World) (h : OffAt w w.heap.size g x) :
    Calls Tryd.prog 35 #[.pointer (some ⟨g, 0, none⟩)] w fun e w' => e = .returned (.bool (goodOff x)) ∧ Below w.heap.size w w' := by
  cases hv : (sizesOk x && numsOk x)
  · exact isOfficeValid_no x g w h hv
  · exact isOfficeValid_yes x g w h hv
/-- The box of an office that was handed over by value. -/
theorem box_at {x : Off} {w : World} (h : OffR w w.heap.size x) (t : TypeId) : OffAt (w.alloc (.cells #[.slice x.TA x.t.length x.tc, .slice x.OA x.o.length x.oc, .int .i64 x.got, .int .i64 x.sold, .int .i64 x.missed] t)) (w.alloc (.cells #[.slice x.TA x.t.length x.tc, .slice x.OA x.o.length x.oc, .int .i64 x.got, .int .i64 x.sold, .int .i64 x.missed] t)).heap.size w.heap.size x :=
  OffAt.of (x := x) (Lies.new w t #[.slice x.TA x.t.length x.tc, .slice x.OA x.o.length x.oc, .int .i64 x.got, .int .i64 x.sold, .int .i64 x.missed]) (h.up ((Below.refl w.heap.size w).alloc (Nat.le_refl _) _) (Nat.le_refl _))

theorem implIsOffice_any (x : Off) (w : World) (h : OffR w w.heap.size x) : Calls Tryd.prog 19 #[x.val] w fun e w' => e = .returned (.bool (goodOff x)) ∧ Below w.heap.size w w' := by
  have b1 := (Below.refl w.heap.size w).alloc (Nat.le_refl _) (.cells #[.slice x.TA x.t.length x.tc, .slice x.OA x.o.length x.oc, .int .i64 x.got, .int .i64 x.sold, .int .i64 x.missed] 32)
  have hA := box_at h 32
  go_enter Tryd.func19, Tryd.ntmps19
  go_wp2_with fail
  refine (isOfficeValid_any x _ _ hA).mono ?_
  rintro e w1 ⟨rfl, hb⟩
  go_wp2
  go_ret
  exact ⟨rfl, bthen b1 hb⟩
def okOf (g : Bool) (v : Int) : Int := if g then v else 0
theorem every2_all (o : Outing) (w : World) : Calls Tryd.prog 51 (#[o.val] ++ #[]) w fun e w' => e = .returned (.bool (every o)) ∧ Below w.heap.size w w' := by
  show Calls Tryd.prog 51 #[o.val] w _
  go_enter Tryd.func51, Tryd.ntmps51
  go_wp2
  go_ret
  exact ⟨rfl, (Below.refl _ _).alloc (Nat.le_refl _) _⟩


theorem specStampsIn_any (x : Off) (w : World) (h : OffR w w.heap.size x) : Calls Tryd.prog 22 #[x.val] w fun e w' => e = .returned (.tuple #[.int .i64 (okOf (goodOff x) (inSum x.t)), .bool (goodOff x)]) ∧ Below w.heap.size w w' := by
  have b1 := (Below.refl w.heap.size w).alloc (Nat.le_refl _) (.cells #[.slice x.TA x.t.length x.tc, .slice x.OA x.o.length x.oc, .int .i64 x.got, .int .i64 x.sold, .int .i64 x.missed] 32)
  have hA := box_at h 32
  have cG := fun W hW => l32Good_any x W hW
  cases hg : goodOff x
  · rw [hg] at cG
    clear hg
    go_enter Tryd.func22, Tryd.ntmps22
    go_wp2_with fail
    generalize w.alloc (.cells #[.slice x.TA x.t.length x.tc, .slice x.OA x.o.length x.oc, .int .i64 x.got, .int .i64 x.sold, .int .i64 x.missed] 32) = W at b1 hA ⊢
    refine (cG _ hA.r).mono ?_
    rintro e w1 ⟨rfl, hb⟩
    go_wp2
    go_ret2
    exact ⟨rfl, bthen b1 hb⟩
  · rw [hg] at cG
    have G := good_iff.1 hg
    have cM := fun W hW => l32Sums_any x W hW G.tl G.ol G.tall G.oall
    clear hg G
    go_enter Tryd.func22, Tryd.ntmps22
    go_wp2_with fail
    generalize w.alloc (.cells #[.slice x.TA x.t.length x.tc, .slice x.OA x.o.length x.oc, .int .i64 x.got, .int .i64 x.sold, .int .i64 x.missed] 32) = W at b1 hA ⊢
    obtain ⟨p0, p1, p2, p3, p4⟩ := hA.s
    refine (calls_since0 (cG _ hA.r)).mono ?_
    rintro e w1 ⟨rfl, q1, rfl⟩
    go_wp2_with fail
    refine (calls_since (Nat.le_refl _) (cM _ (hA.r.at q1))).mono ?_
    rintro e w2 ⟨rfl, q2, rfl⟩
    go_wp2
    go_ret2
    exact ⟨rfl, b1.trans (q2.below.mono b1.size)⟩
theorem implStampsIn_any (x : Off) (w : World) (h : OffR w w.heap.size x) : Calls Tryd.prog 21 #[x.val] w fun e w' => e = .returned (.tuple #[.int .i64 (okOf (goodOff x) (inSum x.t)), .bool (goodOff x)]) ∧ Below w.heap.size w w' := by
  have b1 := (Below.refl w.heap.size w).alloc (Nat.le_refl _) (.cells #[.slice x.TA x.t.length x.tc, .slice x.OA x.o.length x.oc, .int .i64 x.got, .int .i64 x.sold, .int .i64 x.missed] 32)
  have hA := box_at h 32
  have cG := fun W hW => isOfficeValid_any x w.heap.size W hW
  cases hg : goodOff x
  · rw [hg] at cG
    clear hg
    go_enter Tryd.func21, Tryd.ntmps21
    go_wp2_with fail
    generalize w.alloc (.cells #[.slice x.TA x.t.length x.tc, .slice x.OA x.o.length x.oc, .int .i64 x.got, .int .i64 x.sold, .int .i64 x.missed] 32) = W at b1 hA ⊢
    refine (cG _ hA).mono ?_
    rintro e w1 ⟨rfl, hb⟩
    go_wp2
    go_ret2
    exact ⟨rfl, bthen b1 hb⟩
  · rw [hg] at cG
    have G := good_iff.1 hg
    have cM := fun W hW => stampsIn_any x w.heap.size W hW G.tl G.tall
    clear hg G
    go_enter Tryd.func21, Tryd.ntmps21
    go_wp2_with fail
    generalize w.alloc (.cells #[.slice x.TA x.t.length x.tc, .slice x.OA x.o.length x.oc, .int .i64 x.got, .int .i64 x.sold, .int .i64 x.missed] 32) = W at b1 hA ⊢
    refine (calls_since0 (cG _ hA)).mono ?_
    rintro e w1 ⟨rfl, q1, rfl⟩
    go_wp2_with fail
    refine (calls_since (Nat.le_refl _) (cM _ (hA.at q1))).mono ?_
    rintro e w2 ⟨rfl, q2, rfl⟩
    go_wp2
    go_ret2
    exact ⟨rfl, b1.trans (q2.below.mono b1.size)⟩

theorem specStampsOut_any (x : Off) (w : World) (h : OffR w w.heap.size x) : Calls Tryd.prog 24 #[x.val] w fun e w' => e = .returned (.tuple #[.int .i64 (okOf (goodOff x) (outSum every x.o)), .bool (goodOff x)]) ∧ Below w.heap.size w w' := by
  have b1 := (Below.refl w.heap.size w).alloc (Nat.le_refl _) (.cells #[.slice x.TA x.t.length x.tc, .slice x.OA x.o.length x.oc, .int .i64 x.got, .int .i64 x.sold, .int .i64 x.missed] 32)
  have hA := box_at h 32
  have cG := fun W hW => l32Good_any x W hW
  cases hg : goodOff x
  · rw [hg] at cG
    clear hg
    go_enter Tryd.func24, Tryd.ntmps24
    go_wp2_with fail
    generalize w.alloc (.cells #[.slice x.TA x.t.length x.tc, .slice x.OA x.o.length x.oc, .int .i64 x.got, .int .i64 x.sold, .int .i64 x.missed] 32) = W at b1 hA ⊢
    refine (cG _ hA.r).mono ?_
    rintro e w1 ⟨rfl, hb⟩
    go_wp2
    go_ret2
    exact ⟨rfl, bthen b1 hb⟩
  · rw [hg] at cG
    have G := good_iff.1 hg
    have cM := fun W hW => l32Sums_any x W hW G.tl G.ol G.tall G.oall
    clear hg G
    go_enter Tryd.func24, Tryd.ntmps24
    go_wp2_with fail
    generalize w.alloc (.cells #[.slice x.TA x.t.length x.tc, .slice x.OA x.o.length x.oc, .int .i64 x.got, .int .i64 x.sold, .int .i64 x.missed] 32) = W at b1 hA ⊢
    obtain ⟨p0, p1, p2, p3, p4⟩ := hA.s
    refine (calls_since0 (cG _ hA.r)).mono ?_
    rintro e w1 ⟨rfl, q1, rfl⟩
    go_wp2_with fail
    refine (calls_since (Nat.le_refl _) (cM _ (hA.r.at q1))).mono ?_
    rintro e w2 ⟨rfl, q2, rfl⟩
    go_wp2
    go_ret2
    exact ⟨rfl, b1.trans (q2.below.mono b1.size)⟩
theorem implStampsOut_any (x : Off) (w : World) (h : OffR w w.heap.size x) : Calls Tryd.prog 23 #[x.val] w fun e w' => e = .returned (.tuple #[.int .i64 (okOf (goodOff x) (outSum every x.o)), .bool (goodOff x)]) ∧ Below w.heap.size w w' := by
  have b1 := (Below.refl w.heap.size w).alloc (Nat.le_refl _) (.cells #[.slice x.TA x.t.length x.tc, .slice x.OA x.o.length x.oc, .int .i64 x.got, .int .i64 x.sold, .int .i64 x.missed] 32)
  have hA := box_at h 32
  have cG := fun W hW => isOfficeValid_any x w.heap.size W hW
  cases hg : goodOff x
  · rw [hg] at cG
    clear hg
    go_enter Tryd.func23, Tryd.ntmps23
    go_wp2_with fail
    generalize w.alloc (.cells #[.slice x.TA x.t.length x.tc, .slice x.OA x.o.length x.oc, .int .i64 x.got, .int .i64 x.sold, .int .i64 x.missed] 32) = W at b1 hA ⊢
    refine (cG _ hA).mono ?_
    rintro e w1 ⟨rfl, hb⟩
    go_wp2
    go_ret2
    exact ⟨rfl, bthen b1 hb⟩
  · rw [hg] at cG
    have G := good_iff.1 hg
    have cM := fun W hW => stampsOut_any every 51 #[] Tryd.call51 x w.heap.size W (fun o p => every2_all o p.val) hW G.ol G.oall
    clear hg G
    go_enter Tryd.func23, Tryd.ntmps23
    go_wp2_with fail
    generalize w.alloc (.cells #[.slice x.TA x.t.length x.tc, .slice x.OA x.o.length x.oc, .int .i64 x.got, .int .i64 x.sold, .int .i64 x.missed] 32) = W at b1 hA ⊢
    refine (calls_since0 (cG _ hA)).mono ?_
    rintro e w1 ⟨rfl, q1, rfl⟩
    go_wp2_with fail
    refine (calls_since (Nat.le_refl _) (cM _ (hA.at q1))).mono ?_
    rintro e w2 ⟨rfl, q2, rfl⟩
    go_wp2
    go_ret2
    exact ⟨rfl, b1.trans (q2.below.mono b1.size)⟩
end Go.Proofs.YtdiojhjkcholiaaDoor
