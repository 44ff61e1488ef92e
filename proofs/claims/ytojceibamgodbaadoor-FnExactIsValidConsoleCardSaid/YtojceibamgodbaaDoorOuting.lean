/- Outings: a struct of three ints; its helpers. (Printed by gen_struct.py) -/
import Derived.Test.YtojceibamgodbaaDoorIn
import Derived.Test.YtojceibamgodbaaDoorInts
import Derived.Test.YtojceibamgodbaaDoorMore
namespace Go.Proofs.YtojceibamgodbaaDoor
open Go.RowKit

structure Outing where
  k : Int
  p : Int
  c : Int
  deriving DecidableEq, Inhabited
def Outing.enc (r : Outing) : List Value := [.int .i64 r.k, .int .i64 r.p, .int .i64 r.c]
abbrev Outing.val (r : Outing) : Value := .agg #[.int .i64 r.k, .int .i64 r.p, .int .i64 r.c]
theorem Outing.enc_len (r : Outing) : r.enc.length = 3 := rfl
theorem Outing.of_ints_enc (ns : List Int) (h : ns.length = 3) : ∃ r : Outing, ns.map (Value.int .i64) = r.enc := by
  match ns, h with
  | [v0, v1, v2], _ => exact ⟨⟨v0, v1, v2⟩, rfl⟩
theorem Outing.of_ints (ns : List Int) (h : ns.length = 3) : ∃ r : Outing, Value.agg (ns.map (Value.int .i64)).toArray = r.val := by
  match ns, h with
  | [v0, v1, v2], _ => exact ⟨⟨v0, v1, v2⟩, rfl⟩
/-- It lies at a place, in every world since. -/
structure OutingS (B : Nat) (w : World) (b o : Nat) (r : Outing) : Prop where
  c0 : ∀ p : Since B w, p.val.cell? ⟨b, o, none⟩ = some (.int .i64 r.k)
  c1 : ∀ p : Since B w, p.val.cell? ⟨b, o + 1, none⟩ = some (.int .i64 r.p)
  c2 : ∀ p : Since B w, p.val.cell? ⟨b, o + 2, none⟩ = some (.int .i64 r.c)
theorem OutingS.up {B B' : Nat} {w W : World} {b o : Nat} {r : Outing} (h : OutingS B w b o r) (hb : Below B w W) (hB : B ≤ B') : OutingS B' W b o r :=
  ⟨fun p => h.c0 ⟨p.val, hb.trans (p.below.mono hB)⟩, fun p => h.c1 ⟨p.val, hb.trans (p.below.mono hB)⟩, fun p => h.c2 ⟨p.val, hb.trans (p.below.mono hB)⟩⟩
theorem OutingS.of {W : World} {g : Nat} {t : TypeId} {r : Outing} (h : Lies W g t r.enc) : OutingS W.heap.size W g 0 r :=
  ⟨fun p => (p.cell h.lt).trans (h.cell 0), fun p => (p.cell h.lt).trans (h.cell 1), fun p => (p.cell h.lt).trans (h.cell 2)⟩
/-- A slice of them. -/
abbrev OutingsR (w : World) (B : Nat) (A : Option Addr) (l : List Outing) : Prop := SlcR w B 3 A l.length (l.flatMap Outing.enc)
theorem OutingsR.el {w : World} {B : Nat} {A : Option Addr} {l : List Outing} (h : OutingsR w B A l) (hne : 0 < l.length) : ∃ b off, A = some ⟨b, off, none⟩ ∧ b < B ∧ ∀ i (hi : i < l.length), OutingS B w b (off + i * 3) l[i] := by
  obtain ⟨b, off, e, hb, hc⟩ := h.at_ hne
  refine ⟨b, off, e, hb, fun i hi => ?_⟩
  have key : ∀ j, j < 3 → ∀ u, (l[i].enc)[j]? = some u → ∀ p : Since B w, p.val.cell? ⟨b, off + i * 3 + j, none⟩ = some u := fun j hj u hu p => by
    rw [p.cell hb, Nat.add_assoc]
    exact hc _ u (by rw [flat_at Outing.enc 3 Outing.enc_len l i hi j hj]; exact hu)
  exact ⟨key 0 (by omega) _ rfl, key 1 (by omega) _ rfl, key 2 (by omega) _ rfl⟩
theorem lies_outings {W : World} {g : Nat} {t : TypeId} {l : List Outing} (h : Lies W g t (l.flatMap Outing.enc)) (hn : l.length ≤ 9223372036854775807) : OutingsR W W.heap.size (some ⟨g, 0, none⟩) l :=
  Lies.reads h (flat_len Outing.enc 3 Outing.enc_len l) hn
theorem infoOuting : (Tryd.prog.info? 99).map (fun i => (i.zero, i.size, i.bytes)) = some (some (.agg #[.int .i64 0, .int .i64 0, .int .i64 0]), 3, 24) := by kernel_rfl

theorem toOuting_any (r : Outing) (w : World) : Calls Tryd.prog 91 #[r.val] w fun e w' => e = .returned r.val ∧ Below w.heap.size w w' := by
  go_enter Tryd.func91, Tryd.ntmps91
  go_wp2
  refine bodyPost_ret (v := r.val) (by simp [results, Tryd.results91, go_sem]) rfl ⟨rfl, ?_⟩
  go_grown
theorem eqOuting_any (r r' : Outing) (w : World) : Calls Tryd.prog 98 #[r.val, r'.val] w fun e w' => e = .returned (.bool (decide (r = r'))) ∧ Below w.heap.size w w' := by
  obtain ⟨v0, v1, v2⟩ := r
  obtain ⟨u0, u1, u2⟩ := r'
  go_enter Tryd.func98, Tryd.ntmps98
  go_wp2
  all_goals (go_ret; refine ⟨by simp_all, ?_⟩; go_grown)

theorem szOutings_any (A : Option Addr) (n c : Nat) (k : Int) (w : World) (hn : n ≤ 9223372036854775807) (_hk : 0 ≤ k) (_hk' : k ≤ 1048576) :
    Calls Tryd.prog 58 #[.slice A n c, .int .i64 k] w fun e w' => e = .returned (.int .i64 (lessen k n)) ∧ w = w' := by
  go_enter Tryd.func58, Tryd.ntmps58
  go_wp2
  all_goals (go_ret; refine ⟨?_, rfl⟩; unfold lessen; first | (rw [if_neg (by omega)]; rfl) | (rw [if_pos (by omega)]; rfl))

set_option maxHeartbeats 1000000 in
theorem toOutings_any (A : Option Addr) (c : Nat) (l : List Outing) (w : World) (h : OutingsR w w.heap.size A l) (hn : l.length ≤ 1048576) :
    Calls Tryd.prog 61 #[.slice A l.length c] w fun e w' => ∃ g, e = .returned (.slice (some ⟨g, 0, none⟩) l.length l.length) ∧ w.heap.size ≤ g ∧ Lies w' g 99 (l.flatMap Outing.enc) ∧ Below w.heap.size w w' := by
  have hmk := fun W => run_make_all (P := Tryd.prog) 33 99 _ 3 24 Tryd.underlying33 infoOuting l.length (by omega) (by omega) W
  have hrd := h.el
  go_enter Tryd.func61, Tryd.ntmps61
  go_wp2
  go_loopw [4] (fun i wr => ∃ (k : Nat) (rest : List Value), k ≤ l.length ∧ i = .int .i64 k ∧ Below w.heap.size w wr ∧ Lies wr w.heap.size 99 ((l.take k).flatMap Outing.enc ++ rest) ∧ rest.length = (l.length - k) * 3) (fun i _ => l.length - (intOf i).toNat)
  case atStart =>
    refine ⟨0, _, Nat.zero_le _, rfl, (Below.refl _ _).alloc (Nat.le_refl _) _, by simpa using Lies.new w _ _, by simp [size_madeCells]⟩
  case round =>
    obtain ⟨k, rest, hk, rfl, hbel, hl, hlen⟩ := hrel
    by_cases hlt : k < l.length
    · obtain ⟨b, off, rfl, hb, hcell⟩ := hrd (by omega)
      have HL := Lib.hid hl; clear hl
      have HN := Lib.hid hlen; clear hlen
      obtain ⟨x, hxe⟩ : ∃ x, x = l[k] := ⟨_, rfl⟩
      obtain ⟨c0, c1, c2⟩ := hcell k hlt
      obtain ⟨q, rfl⟩ : ∃ q : Since w.heap.size w, wr = q.val := ⟨⟨wr, hbel⟩, rfl⟩
      rw [← hxe] at c0 c1 c2
      have HX := Lib.hid hxe; clear hxe
      clear hcell hrd hbel
      go_wp2_with (first
        | (go_at_call 91; refine (toOuting_any x _).mono ?_; rintro e w1 ⟨rfl, hb1⟩)
        | (with_reducible refine wpList_store_next (op := ⟨none, .store 99 (.tmp 21) (.tmp 20), _, _, _, _⟩) rfl _ _ _ rfl Outing.enc 3 Outing.enc_len l k hlt rest HN w.heap.size 99 x.enc.toArray ?c1 ?c2 ?c3 ?c4 ?c5 ?c6 ?_; rotate_right; intro w2 old2 hl2 hn2 hg2))
      case c1 => rfl
      case c2 => rfl
      case c3 => rw [HX.out]; rfl
      case c4 => kernel_rfl
      case c5 => simp [Outing.enc, Value.oneCell']
      case c6 => exact HL.out.below hb1 HL.out.lt
      go_wp2
      go_roundw
      case rel => exact ⟨k + 1, old2, by omega, by go_num, (q.below.trans (hb1.mono q.size)).grown hg2 (Nat.le_trans q.size hb1.size) (by rintro _ ⟨⟩; exact Nat.le_refl _), hl2, hn2⟩
      case measure => simp [intOf]; omega
    · have hk' : k = l.length := by omega
      subst hk'
      go_wp2
      go_ret
      refine ⟨w.heap.size, rfl, Nat.le_refl _, ?_, hbel⟩
      have h0 : rest = [] := List.eq_nil_of_length_eq_zero (by omega)
      rw [h0, List.take_of_length_le (Nat.le_refl _), List.append_nil] at hl
      exact hl

def sameOutings (a b : List Outing) : Bool := decide (a = b)
def sameOutingFrom : List Outing → List Outing → Bool
  | [], [] => true
  | x :: a, y :: b => decide (x = y) && sameOutingFrom a b
  | _, _ => false
theorem sameOutingFrom_eq : ∀ a b : List Outing, sameOutingFrom a b = sameOutings a b
  | [], [] => by simp [sameOutingFrom, sameOutings]
  | [], _ :: _ => by simp [sameOutingFrom, sameOutings]
  | _ :: _, [] => by simp [sameOutingFrom, sameOutings]
  | x :: a, y :: b => by simp [sameOutingFrom, sameOutings, sameOutingFrom_eq a b, Bool.decide_and]

set_option maxHeartbeats 1000000 in
theorem eqOutings_any (A B : Option Addr) (c d : Nat) (l m : List Outing) (w : World) (hA : OutingsR w w.heap.size A l) (hB : OutingsR w w.heap.size B m) :
    Calls Tryd.prog 70 #[.slice A l.length c, .slice B m.length d] w fun e w' => e = .returned (.bool (sameOutings l m)) ∧ Below w.heap.size w w' := by
  have hlA := hA.big
  have hlB := hB.big
  have hrA := hA.el
  have hrB := hB.el
  by_cases hne : l.length = m.length
  · have hF : Hid (sameOutingFrom l m = sameOutings l m) := sameOutingFrom_eq l m
    have hbn : ((l.length : Int) != (m.length : Int)) = false := by simp [hne]
    have HE := Lib.hid hne; clear hne
    go_enter Tryd.func70, Tryd.ntmps70
    go_wp2
    go_loopw [5] (fun i wr => ∃ k : Nat, k ≤ l.length ∧ i = .int .i64 k ∧ (∃ q : Since w.heap.size w, wr = q.val) ∧ Hid (sameOutingFrom (l.drop k) (m.drop k) = sameOutings l m)) (fun i _ => l.length - (intOf i).toNat)
    case atStart => exact ⟨0, Nat.zero_le _, rfl, ⟨Since.start _ _, rfl⟩, hF⟩
    case round =>
      obtain ⟨k, hk, rfl, ⟨q, rfl⟩, HR⟩ := hrel
      by_cases hlt : k < l.length
      · have hlt' : k < m.length := by have := HE.out; omega
        obtain ⟨b, off, rfl, hb, hcell⟩ := hrA (by omega)
        obtain ⟨b', off', rfl, hb', hcell'⟩ := hrB (by omega)
        obtain ⟨c0, c1, c2⟩ := hcell k hlt
        obtain ⟨d0, d1, d2⟩ := hcell' k hlt'
        obtain ⟨x, hxe⟩ : ∃ x, x = l[k] := ⟨_, rfl⟩
        obtain ⟨y, hye⟩ : ∃ x, x = m[k] := ⟨_, rfl⟩
        rw [← hxe] at c0 c1 c2
        rw [← hye] at d0 d1 d2
        have HX := Lib.hid hxe; clear hxe
        have HY := Lib.hid hye; clear hye
        clear hcell hcell' hrA hrB
        have hstep : Hid (sameOutingFrom (l.drop k) (m.drop k) = (decide (x = y) && sameOutingFrom (l.drop (k + 1)) (m.drop (k + 1)))) := by
          rw [List.drop_eq_getElem_cons hlt, List.drop_eq_getElem_cons hlt', HX.out, HY.out]; rfl
        obtain ⟨v, hv⟩ : ∃ v, decide (x = y) = v := ⟨_, rfl⟩
        have HV := Lib.hid hv; clear hv
        cases v
        all_goals
          go_wp2
          refine wp_region_since _ (by kernel_rfl) (by kernel_rfl) ?_
          repeat (any_goals (first | go_big_quiet_step ((go_at_call 98; refine calls_sinceB HV (Nat.le_refl _) (eqOuting_any x y _))) | (refine wpQuiet_step (fun K hK => ?_); go_simp; split <;> (refine hK _ ?_; clear hK K))))
          all_goals (refine wpQuiet_nil ?_; rintro _ ⟨q1, rfl⟩)
          all_goals go_wp2
        · go_ret
          refine ⟨?_, q1.below⟩
          rw [← HR.out, hstep.out, HV.out]; rfl
        · go_roundw
          case rel => exact ⟨k + 1, by omega, by go_num, ⟨q1, rfl⟩, by have h1 := HR.out; rw [hstep.out, HV.out] at h1; exact h1⟩
          case measure => simp [intOf]; omega
      · have hk' : k = l.length := by omega
        go_wp2
        go_ret
        refine ⟨?_, q.below⟩
        rw [← HR.out, List.drop_eq_nil_of_le (by omega), List.drop_eq_nil_of_le (by have := HE.out; omega)]; rfl
  · have hbn : ((l.length : Int) != (m.length : Int)) = true := by rw [bne_iff_ne]; omega
    have hF : Hid (sameOutings l m = false) := by
      unfold sameOutings; rw [decide_eq_false_iff_not]; intro h; exact hne (by rw [h])
    go_enter Tryd.func70, Tryd.ntmps70
    go_wp2
    go_ret
    exact ⟨by rw [hF.out]; rfl, Below.refl _ _⟩

end Go.Proofs.YtojceibamgodbaaDoor
