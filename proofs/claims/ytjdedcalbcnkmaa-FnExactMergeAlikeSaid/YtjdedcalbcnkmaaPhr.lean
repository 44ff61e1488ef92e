/- Phrases: the struct, validity of one. -/
import Derived.Test.YtjdedcalbcnkmaaAnyI
import Derived.Test.YtjdedcalbcnkmaaIntsTo
namespace Go.Proofs.Ytjdedcalbcnkmaa
open Go.RowKit

structure Ph where
  s : Int
  c : Int
  A : Option Addr
  f : List Int
  cap : Nat
  p : Int
def Ph.enc (x : Ph) : List Value := [.int .i64 x.s, .int .i64 x.c, .slice x.A x.f.length x.cap, .int .i64 x.p]
abbrev Ph.val (x : Ph) : Value := .agg #[.int .i64 x.s, .int .i64 x.c, .slice x.A x.f.length x.cap, .int .i64 x.p]
theorem Ph.enc_len (x : Ph) : x.enc.length = 4 := rfl
def Ph.ok (x : Ph) : Bool := inR x.s 1 3 && inR x.c 1 99 && rises 1 9 x.f && inR x.p 0 999999
theorem any_not (l : List Int) : (l.any fun y => !inR y 1 9) = !(l.all fun y => inR y 1 9) := by
  induction l with
  | nil => rfl
  | cons x l ih => rw [List.any_cons, List.all_cons, ih]; cases inR x 1 9 <;> simp

theorem notIn_any (x : Int) (w : World) : Calls Try.prog 68 #[.int .i64 x] w fun e w' => e = .returned (.bool (!inR x 1 9)) ∧ Below w.heap.size w w' := by
  have hc := fun W => inRange_any x 1 9 W
  cases hv : inR x 1 9
  all_goals
    rw [hv] at hc
    clear hv
    go_enter Try.func68, Try.ntmps68
    go_wp2_with fail
    refine (hc _).mono ?_
    rintro e w' ⟨rfl, rfl⟩
    go_wp2
    go_ret
    exact ⟨rfl, Below.refl _ _⟩

theorem l30One_any (x : Ph) (w : World) (h : IntsR w w.heap.size x.A x.f) : Calls Try.prog 42 #[x.val] w fun e w' => e = .returned (.bool x.ok) ∧ Below w.heap.size w w' := by
  have hb0 := (Below.refl w.heap.size w).alloc (Nat.le_refl _) (.cells #[.int .i64 x.s, .int .i64 x.c, .slice x.A x.f.length x.cap, .int .i64 x.p] 27)
  have h1 : IntsR (w.alloc (.cells #[.int .i64 x.s, .int .i64 x.c, .slice x.A x.f.length x.cap, .int .i64 x.p] 27)) (w.alloc (.cells #[.int .i64 x.s, .int .i64 x.c, .slice x.A x.f.length x.cap, .int .i64 x.p] 27)).heap.size x.A x.f := SlcR.up h hb0 (Nat.le_refl _)
  have hL := Lies.new w 27 #[.int .i64 x.s, .int .i64 x.c, .slice x.A x.f.length x.cap, .int .i64 x.p]
  go_enter Try.func42, Try.ntmps42
  go_wp2_with (first
    | (go_at_call 47; refine (l1In_any _ _ _ _).mono ?_; rintro e w' ⟨rfl, rfl⟩)
    | (go_at_call 65; refine (l1Rising_any x.A x.cap x.f 1 9 _ h1).mono ?_; rintro e w1 ⟨rfl, hb1⟩; have k3 := (hb1.cell hL.lt).trans (hL.cell 3); simp only [List.getElem?_cons_zero, List.getElem?_cons_succ] at k3))
  all_goals (go_ret; exact ⟨by simp [Ph.ok, *], by first | exact bthen hb0 hb1 | exact hb0⟩)

theorem isPhrase_any (x : Ph) (w : World) (h : IntsR w w.heap.size x.A x.f) : Calls Try.prog 44 #[x.val] w fun e w' => e = .returned (.bool x.ok) ∧ Below w.heap.size w w' := by
  have hb0 := (Below.refl w.heap.size w).alloc (Nat.le_refl _) (.cells #[.int .i64 x.s, .int .i64 x.c, .slice x.A x.f.length x.cap, .int .i64 x.p] 27)
  have h1 : IntsR (w.alloc (.cells #[.int .i64 x.s, .int .i64 x.c, .slice x.A x.f.length x.cap, .int .i64 x.p] 27)) (w.alloc (.cells #[.int .i64 x.s, .int .i64 x.c, .slice x.A x.f.length x.cap, .int .i64 x.p] 27)).heap.size x.A x.f := SlcR.up h hb0 (Nat.le_refl _)
  have hL := Lies.new w 27 #[.int .i64 x.s, .int .i64 x.c, .slice x.A x.f.length x.cap, .int .i64 x.p]
  have HR : Hid (rises 1 9 x.f = (asc x.f && !(x.f.any fun y => !inR y 1 9))) := by
    unfold Hid; rw [rises_eq, any_not, Bool.not_not]
  go_enter Try.func44, Try.ntmps44
  go_wp2_with (first
    | (go_at_call 48; refine (inRange_any _ _ _ _).mono ?_; rintro e w' ⟨rfl, rfl⟩)
    | (go_at_call 66; refine (ascending_any x.A x.cap x.f _ h1).mono ?_; rintro e w1 ⟨rfl, hb1⟩; have k2 := (hb1.cell hL.lt).trans (hL.cell 2); simp only [List.getElem?_cons_zero, List.getElem?_cons_succ] at k2)
    | (go_at_call 67; refine (anyI_any (fun y => !inR y 1 9) notIn_any x.A x.cap x.f _ (h1.then hb1)).mono ?_; rintro e w2 ⟨rfl, hb2⟩; have k3 := ((bthen hb1 hb2).cell hL.lt).trans (hL.cell 3); simp only [List.getElem?_cons_zero, List.getElem?_cons_succ] at k3))
  all_goals (go_ret; exact ⟨by rw [Ph.ok, HR.out]; simp [*], by first | exact bthen hb0 (bthen hb1 hb2) | exact bthen hb0 hb1 | exact hb0⟩)
end Go.Proofs.Ytjdedcalbcnkmaa
