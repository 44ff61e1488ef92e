/- ShortText, in the reference and in the program. -/
import Derived.Test.YtjdedcalbcnkmaaDoorShortI
namespace Go.Proofs.YtjdedcalbcnkmaaDoor
open Go.RowKit

def okT (g : Bool) (t : List UInt8) : ByteArray := if g then ⟨t.toArray⟩ else ⟨#[]⟩

set_option maxHeartbeats 1000000 in
theorem specShortText_any (x : Ph) (w : World) (h : IntsR w w.heap.size x.A x.f) :
    Calls Tryd.prog 9 #[x.val] w fun e w' => e = .returned (.tuple #[.string (okT x.ok (shortT x)), .bool x.ok]) ∧ Below w.heap.size w w' := by
  have b1 := (Below.refl w.heap.size w).alloc (Nat.le_refl _) (.cells #[.int .i64 x.s, .int .i64 x.c, .slice x.A x.f.length x.cap, .int .i64 x.p] 28)
  have L0 := Lies.new w 28 #[.int .i64 x.s, .int .i64 x.c, .slice x.A x.f.length x.cap, .int .i64 x.p]
  have hR := SlcR.up h b1 (Nat.le_refl _)
  cases hok : x.ok
  all_goals
    have HOK := Lib.hid hok; clear hok
    go_enter Tryd.func9, Tryd.ntmps9
    go_wp2_with fail
    generalize w.alloc (.cells #[.int .i64 x.s, .int .i64 x.c, .slice x.A x.f.length x.cap, .int .i64 x.p] 28) = W at b1 L0 hR ⊢
    refine (l30One_any x _ hR).mono ?_
    rw [HOK.out]
    rintro e w1 ⟨rfl, hb1⟩
    have k0 := (L0.below hb1 L0.lt).cell 0
    have k1 := (L0.below hb1 L0.lt).cell 1
    have k2 := (L0.below hb1 L0.lt).cell 2
    have k3 := (L0.below hb1 L0.lt).cell 3
    simp only [List.getElem?_cons_zero, List.getElem?_cons_succ] at k0 k1 k2 k3
  · go_wp2
    go_ret2
    exact ⟨rfl, bthen b1 hb1⟩
  · go_wp2_with (go_at_call 30; refine (l30Short_any x _ (SlcR.then hR hb1) HOK.out).mono ?_; rintro e w2 ⟨rfl, hb2⟩)
    go_ret2
    exact ⟨rfl, bthen b1 (bthen hb1 hb2)⟩
set_option maxHeartbeats 1000000 in
theorem implShortText_any (x : Ph) (w : World) (h : IntsR w w.heap.size x.A x.f) (ht : Tab w) :
    Calls Tryd.prog 11 #[x.val] w fun e w' => e = .returned (.tuple #[.string (okT x.ok (shortT x)), .bool x.ok]) ∧ Below w.heap.size w w' := by
  have b1 := (Below.refl w.heap.size w).alloc (Nat.le_refl _) (.cells #[.int .i64 x.s, .int .i64 x.c, .slice x.A x.f.length x.cap, .int .i64 x.p] 28)
  have L0 := Lies.new w 28 #[.int .i64 x.s, .int .i64 x.c, .slice x.A x.f.length x.cap, .int .i64 x.p]
  have hR := SlcR.up h b1 (Nat.le_refl _)
  have ht1 := ht.then b1
  cases hok : x.ok
  all_goals
    have HOK := Lib.hid hok; clear hok
    go_enter Tryd.func11, Tryd.ntmps11
    go_wp2_with fail
    generalize w.alloc (.cells #[.int .i64 x.s, .int .i64 x.c, .slice x.A x.f.length x.cap, .int .i64 x.p] 28) = W at b1 L0 hR ht1 ⊢
    refine (isPhrase_any x _ hR).mono ?_
    rw [HOK.out]
    rintro e w1 ⟨rfl, hb1⟩
    have k0 := (L0.below hb1 L0.lt).cell 0
    have k1 := (L0.below hb1 L0.lt).cell 1
    have k2 := (L0.below hb1 L0.lt).cell 2
    have k3 := (L0.below hb1 L0.lt).cell 3
    simp only [List.getElem?_cons_zero, List.getElem?_cons_succ] at k0 k1 k2 k3
  · go_wp2
    go_ret2
    exact ⟨rfl, bthen b1 hb1⟩
  · go_wp2_with (go_at_call 33; refine (shortText_any x _ (SlcR.then hR hb1) HOK.out (ht1.then hb1)).mono ?_; rintro e w2 ⟨rfl, hb2⟩)
    go_ret2
    exact ⟨rfl, bthen b1 (bthen hb1 hb2)⟩
end Go.Proofs.YtjdedcalbcnkmaaDoor
