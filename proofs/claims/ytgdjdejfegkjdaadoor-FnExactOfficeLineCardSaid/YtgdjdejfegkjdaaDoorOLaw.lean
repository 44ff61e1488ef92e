/- OfficeLine: the law. -/
import Derived.Test.YtgdjdejfegkjdaaDoorOLineS
import Derived.Test.YtgdjdejfegkjdaaDoorOLineI
namespace Go.Proofs.YtgdjdejfegkjdaaDoor
open Go.RowKit

def lineV (r : Row) : ByteArray := if r.ok then lineO r else ⟨#[]⟩

set_option maxHeartbeats 1000000 in
theorem specOfficeLine_any (r : Row) (w : World) :
    Calls Tryd.prog 6 #[r.val] w fun e w' => e = .returned (.tuple #[.string (lineV r), .bool r.ok]) ∧ Below w.heap.size w w' := by
  have b1 := (Below.refl w.heap.size w).alloc (Nat.le_refl _) (.cells #[.int .i64 r.m, .int .i64 r.b, .int .i64 r.s, .int .i64 r.c, .int .i64 r.l] 26)
  have L1 := Lies.new w 26 #[.int .i64 r.m, .int .i64 r.b, .int .i64 r.s, .int .i64 r.c, .int .i64 r.l]
  go_enter Tryd.func6, Tryd.ntmps6
  go_wp2_with fail
  generalize w.alloc (.cells #[.int .i64 r.m, .int .i64 r.b, .int .i64 r.s, .int .i64 r.c, .int .i64 r.l] 26) = W at b1 L1 ⊢
  generalize hg : w.heap.size = g at L1 ⊢
  refine (l31One_any r _).mono ?_
  rintro e w2 ⟨rfl, hb2⟩
  have L2 := L1.below hb2 L1.lt
  have c0 := L2.cell 0
  have c1 := L2.cell 1
  have c2 := L2.cell 2
  have c3 := L2.cell 3
  have c4 := L2.cell 4
  simp only [List.getElem?_cons_zero, List.getElem?_cons_succ] at c0 c1 c2 c3 c4
  have hbb : Below w.heap.size w w2 := by rw [← hg] at *; exact bthen b1 hb2
  clear L1 L2
  cases hok : r.ok
  · have HV : Hid (lineV r = ⟨#[]⟩) := by unfold lineV Hid; rw [hok]; rfl
    have HK := Lib.hid hok
    clear hok
    go_wp2_with fail
    go_ret2
    exact ⟨by rw [HK.out, HV.out]; rfl, hbb⟩
  · have HL := Lib.hid (l31Line_any r w2 hok)
    have HV : Hid (lineV r = lineO r) := by unfold lineV Hid; rw [hok]; rfl
    have HK := Lib.hid hok
    clear hok
    go_wp2_with fail
    refine (HL.out).mono ?_
    rintro e w3 ⟨rfl, hb3⟩
    go_wp2_with fail
    go_ret2
    exact ⟨by rw [HK.out, HV.out]; rfl, bthen hbb hb3⟩

set_option maxHeartbeats 1000000 in
theorem implOfficeLine_any (r : Row) (w : World) (ht : Tab w) :
    Calls Tryd.prog 8 #[r.val] w fun e w' => e = .returned (.tuple #[.string (lineV r), .bool r.ok]) ∧ Below w.heap.size w w' := by
  have b1 := (Below.refl w.heap.size w).alloc (Nat.le_refl _) (.cells #[.int .i64 r.m, .int .i64 r.b, .int .i64 r.s, .int .i64 r.c, .int .i64 r.l] 26)
  have L1 := Lies.new w 26 #[.int .i64 r.m, .int .i64 r.b, .int .i64 r.s, .int .i64 r.c, .int .i64 r.l]
  go_enter Tryd.func8, Tryd.ntmps8
  go_wp2_with fail
  generalize w.alloc (.cells #[.int .i64 r.m, .int .i64 r.b, .int .i64 r.s, .int .i64 r.c, .int .i64 r.l] 26) = W at b1 L1 ⊢
  generalize hg : w.heap.size = g at L1 ⊢
  refine (isOfficeRow_any r _).mono ?_
  rintro e w2 ⟨rfl, hb2⟩
  have L2 := L1.below hb2 L1.lt
  have c0 := L2.cell 0
  have c1 := L2.cell 1
  have c2 := L2.cell 2
  have c3 := L2.cell 3
  have c4 := L2.cell 4
  simp only [List.getElem?_cons_zero, List.getElem?_cons_succ] at c0 c1 c2 c3 c4
  have hbb : Below w.heap.size w w2 := by rw [← hg] at *; exact bthen b1 hb2
  clear L1 L2
  cases hok : r.ok
  · have HV : Hid (lineV r = ⟨#[]⟩) := by unfold lineV Hid; rw [hok]; rfl
    have HK := Lib.hid hok
    clear hok
    go_wp2_with fail
    go_ret2
    exact ⟨by rw [HK.out, HV.out]; rfl, hbb⟩
  · have HL := Lib.hid (officeLine_any r w2 hok (ht.then hbb))
    have HV : Hid (lineV r = lineO r) := by unfold lineV Hid; rw [hok]; rfl
    have HK := Lib.hid hok
    clear hok
    go_wp2_with fail
    refine (HL.out).mono ?_
    rintro e w3 ⟨rfl, hb3⟩
    go_wp2_with fail
    go_ret2
    exact ⟨by rw [HK.out, HV.out]; rfl, bthen hbb hb3⟩

set_option maxHeartbeats 1000000 in
theorem lawOfficeLine_any (r : Row) (w : World) (ht : Tab w) :
    Calls Tryd.prog 3 #[r.val] w fun e w' => e = .returned (.bool true) ∧ Below w.heap.size w w' := by
  have b1 := (Below.refl w.heap.size w).alloc (Nat.le_refl _) (.cells #[.int .i64 r.m, .int .i64 r.b, .int .i64 r.s, .int .i64 r.c, .int .i64 r.l] 23)
  have L1 := Lies.new w 23 #[.int .i64 r.m, .int .i64 r.b, .int .i64 r.s, .int .i64 r.c, .int .i64 r.l]
  have cS := fun W => specOfficeLine_any r W
  have cI := fun W hW => implOfficeLine_any r W hW
  generalize lineV r = x at cS cI
  generalize r.ok = ok at cS cI
  have hbo : (ok != ok) = false := by simp
  have hbx : (x.toList != x.toList) = false := by simp
  go_enter Tryd.func3, Tryd.ntmps3
  go_wp2_with fail
  generalize w.alloc (.cells #[.int .i64 r.m, .int .i64 r.b, .int .i64 r.s, .int .i64 r.c, .int .i64 r.l] 23) = W at b1 L1 ⊢
  generalize hg : w.heap.size = g at L1 ⊢
  refine (toRow_any r _).mono ?_
  rintro e w2 ⟨rfl, hb2⟩
  have L2 := L1.below hb2 L1.lt
  go_wp2_with fail
  refine (cS _).mono ?_
  rintro e w3 ⟨rfl, hb3⟩
  have L3 := L2.below hb3 L2.lt
  have k3 : Below w.heap.size w w3 := by rw [← hg] at *; exact bthen b1 (bthen hb2 hb3)
  have c0 := L3.cell 0
  have c1 := L3.cell 1
  have c2 := L3.cell 2
  have c3 := L3.cell 3
  have c4 := L3.cell 4
  simp only [List.getElem?_cons_zero, List.getElem?_cons_succ] at c0 c1 c2 c3 c4
  go_wp2_with fail
  refine (toRow_any r _).mono ?_
  rintro e w4 ⟨rfl, hb4⟩
  go_wp2_with fail
  refine (cI _ (ht.then (bthen k3 hb4))).mono ?_
  rintro e w5 ⟨rfl, hb5⟩
  go_wp2_with fail
  go_ret
  exact ⟨rfl, bthen k3 (bthen hb4 hb5)⟩
end Go.Proofs.YtgdjdejfegkjdaaDoor
