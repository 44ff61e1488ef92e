/- St02: the texts Row RowGood RowLeast RowSums Own RowStock DrawRow Gcd, joined into one file. -/
import Derived.Test.YtpjfidmapnnbkaaProg
import Derived.OwnWalk
import Derived.Maps.AppendAt
import Derived.Test.YtpjfidmapnnbkaaSt01

set_option linter.unusedVariables false

/- Rows of the office: the struct of five ints, its laws' helpers to, sz, eq; in-range tests; validity of one row. -/
namespace Go.Proofs.Ytpjfidmapnnbkaa
open Go.RowKit

def inR (n lo hi : Int) : Bool := decide (lo ≤ n) && decide (n ≤ hi)

theorem l1In_any (n lo hi : Int) (w : World) : Calls Try.prog 47 #[.int .i64 n, .int .i64 lo, .int .i64 hi] w fun e w' => e = .returned (.bool (inR n lo hi)) ∧ w = w' := by
  go_enter Try.func47, Try.ntmps47
  go_wp2
  all_goals (go_ret; exact ⟨by simp [inR, *]; try omega, rfl⟩)
theorem inRange_any (n lo hi : Int) (w : World) : Calls Try.prog 40 #[.int .i64 n, .int .i64 lo, .int .i64 hi] w fun e w' => e = .returned (.bool (inR n lo hi)) ∧ w = w' := by
  go_enter Try.func40, Try.ntmps40
  go_wp2
  all_goals (go_ret; exact ⟨by simp [inR, *]; try omega, rfl⟩)

structure Row where
  m : Int
  b : Int
  s : Int
  c : Int
  l : Int
  deriving DecidableEq, Inhabited
def Row.enc (r : Row) : List Value := [.int .i64 r.m, .int .i64 r.b, .int .i64 r.s, .int .i64 r.c, .int .i64 r.l]
abbrev Row.val (r : Row) : Value := .agg #[.int .i64 r.m, .int .i64 r.b, .int .i64 r.s, .int .i64 r.c, .int .i64 r.l]
theorem Row.enc_len (r : Row) : r.enc.length = 5 := rfl
def Row.ok (r : Row) : Bool := inR r.m 1 1200 && inR r.b 0 9999 && inR r.s 0 9999 && inR r.c (-1000000) 1000000 && inR r.l 0 999
theorem Row.of_ints_enc (ns : List Int) (h : ns.length = 5) : ∃ r : Row, ns.map (Value.int .i64) = r.enc := by
  match ns, h with
  | [m, b, s, c, l], _ => exact ⟨⟨m, b, s, c, l⟩, rfl⟩
theorem Row.of_ints (ns : List Int) (h : ns.length = 5) : ∃ r : Row, Value.agg (ns.map (Value.int .i64)).toArray = r.val := by
  match ns, h with
  | [m, b, s, c, l], _ => exact ⟨⟨m, b, s, c, l⟩, rfl⟩
/-- A row lies at a place, in every world since. -/
structure RowS (B : Nat) (w : World) (b o : Nat) (r : Row) : Prop where
  c0 : ∀ p : Since B w, p.val.cell? ⟨b, o, none⟩ = some (.int .i64 r.m)
  c1 : ∀ p : Since B w, p.val.cell? ⟨b, o + 1, none⟩ = some (.int .i64 r.b)
  c2 : ∀ p : Since B w, p.val.cell? ⟨b, o + 2, none⟩ = some (.int .i64 r.s)
  c3 : ∀ p : Since B w, p.val.cell? ⟨b, o + 3, none⟩ = some (.int .i64 r.c)
  c4 : ∀ p : Since B w, p.val.cell? ⟨b, o + 4, none⟩ = some (.int .i64 r.l)
theorem RowS.up {B B' : Nat} {w W : World} {b o : Nat} {r : Row} (h : RowS B w b o r) (hb : Below B w W) (hB : B ≤ B') : RowS B' W b o r :=
  ⟨fun p => h.c0 ⟨p.val, hb.trans (p.below.mono hB)⟩, fun p => h.c1 ⟨p.val, hb.trans (p.below.mono hB)⟩, fun p => h.c2 ⟨p.val, hb.trans (p.below.mono hB)⟩, fun p => h.c3 ⟨p.val, hb.trans (p.below.mono hB)⟩, fun p => h.c4 ⟨p.val, hb.trans (p.below.mono hB)⟩⟩
theorem RowS.of {W : World} {g : Nat} {t : TypeId} {r : Row} (h : Lies W g t r.enc) : RowS W.heap.size W g 0 r :=
  ⟨fun p => (p.cell h.lt).trans (h.cell 0), fun p => (p.cell h.lt).trans (h.cell 1), fun p => (p.cell h.lt).trans (h.cell 2), fun p => (p.cell h.lt).trans (h.cell 3), fun p => (p.cell h.lt).trans (h.cell 4)⟩
/-- A slice of rows. -/
abbrev RowsR (w : World) (B : Nat) (A : Option Addr) (l : List Row) : Prop := SlcR w B 5 A l.length (l.flatMap Row.enc)
theorem RowsR.row {w : World} {B : Nat} {A : Option Addr} {l : List Row} (h : RowsR w B A l) (hne : 0 < l.length) : ∃ b off, A = some ⟨b, off, none⟩ ∧ b < B ∧ ∀ i (hi : i < l.length), RowS B w b (off + i * 5) l[i] := by
  obtain ⟨b, off, e, hb, hc⟩ := h.at_ hne
  refine ⟨b, off, e, hb, fun i hi => ?_⟩
  have key : ∀ j, j < 5 → ∀ u, (l[i].enc)[j]? = some u → ∀ p : Since B w, p.val.cell? ⟨b, off + i * 5 + j, none⟩ = some u := fun j hj u hu p => by
    rw [p.cell hb, Nat.add_assoc]
    exact hc _ u (by rw [flat_at Row.enc 5 Row.enc_len l i hi j hj]; exact hu)
  exact ⟨key 0 (by omega) _ rfl, key 1 (by omega) _ rfl, key 2 (by omega) _ rfl, key 3 (by omega) _ rfl, key 4 (by omega) _ rfl⟩

theorem l31One_any (r : Row) (w : World) : Calls Try.prog 48 #[r.val] w fun e w' => e = .returned (.bool r.ok) ∧ Below w.heap.size w w' := by
  go_enter Try.func48, Try.ntmps48
  go_wp2_with (go_at_call 47; refine (l1In_any _ _ _ _).mono ?_; rintro e w' ⟨rfl, rfl⟩)
  all_goals (go_ret; exact ⟨by simp [Row.ok, *], (Below.refl _ _).alloc (Nat.le_refl _) _⟩)
theorem isOfficeRow_any (r : Row) (w : World) : Calls Try.prog 49 #[r.val] w fun e w' => e = .returned (.bool r.ok) ∧ Below w.heap.size w w' := by
  go_enter Try.func49, Try.ntmps49
  go_wp2_with (go_at_call 40; refine (inRange_any _ _ _ _).mono ?_; rintro e w' ⟨rfl, rfl⟩)
  all_goals (go_ret; exact ⟨by simp [Row.ok, *], (Below.refl _ _).alloc (Nat.le_refl _) _⟩)
theorem toRow_any (r : Row) (w : World) : Calls Try.prog 30 #[r.val] w fun e w' => e = .returned r.val ∧ Below w.heap.size w w' := by
  go_enter Try.func30, Try.ntmps30
  go_wp2
  refine bodyPost_ret (v := r.val) (by simp [results, Try.results30, go_sem]) rfl ⟨rfl, ?_⟩
  go_grown
theorem eqRow_any (r r' : Row) (w : World) : Calls Try.prog 37 #[r.val, r'.val] w fun e w' => e = .returned (.bool (decide (r = r'))) ∧ Below w.heap.size w w' := by
  obtain ⟨m, b, s, c, l⟩ := r
  obtain ⟨m', b', s', c', l'⟩ := r'
  go_enter Try.func37, Try.ntmps37
  go_wp2
  all_goals (go_ret; refine ⟨by simp_all, ?_⟩; go_grown)

def lessen (k : Int) (n : Nat) : Int := if (n : Int) ≤ k then k - n else -1
theorem szRows_any (A : Option Addr) (n c : Nat) (k : Int) (w : World) (hn : n ≤ 9223372036854775807) (_hk : 0 ≤ k) (_hk' : k ≤ 1048576) :
    Calls Try.prog 5 #[.slice A n c, .int .i64 k] w fun e w' => e = .returned (.int .i64 (lessen k n)) ∧ w = w' := by
  go_enter Try.func5, Try.ntmps5
  go_wp2
  all_goals (go_ret; refine ⟨?_, rfl⟩; unfold lessen; first | (rw [if_neg (by omega)]; rfl) | (rw [if_pos (by omega)]; rfl))

theorem infoRow : (Try.prog.info? 42).map (fun i => (i.zero, i.size, i.bytes)) = some (some (.agg #[.int .i64 0, .int .i64 0, .int .i64 0, .int .i64 0, .int .i64 0]), 5, 40) := by kernel_rfl

set_option maxHeartbeats 1000000 in
theorem toRows_any (A : Option Addr) (c : Nat) (l : List Row) (w : World) (h : RowsR w w.heap.size A l) (hn : l.length ≤ 1048576) :
    Calls Try.prog 7 #[.slice A l.length c] w fun e w' => ∃ g, e = .returned (.slice (some ⟨g, 0, none⟩) l.length l.length) ∧ w.heap.size ≤ g ∧ Lies w' g 42 (l.flatMap Row.enc) ∧ Below w.heap.size w w' := by
  have hmk := fun W => run_make_all (P := Try.prog) 24 42 _ 5 40 Try.underlying24 infoRow l.length (by omega) (by omega) W
  have hrd := h.row
  go_enter Try.func7, Try.ntmps7
  go_wp2
  go_loopw [4] (fun i wr => ∃ (k : Nat) (rest : List Value), k ≤ l.length ∧ i = .int .i64 k ∧ Below w.heap.size w wr ∧ Lies wr w.heap.size 42 ((l.take k).flatMap Row.enc ++ rest) ∧ rest.length = (l.length - k) * 5) (fun i _ => l.length - (intOf i).toNat)
  case atStart =>
    refine ⟨0, _, Nat.zero_le _, rfl, (Below.refl _ _).alloc (Nat.le_refl _) _, by simpa using Lies.new w _ _, by simp [size_madeCells]⟩
  case round =>
    obtain ⟨k, rest, hk, rfl, hbel, hl, hlen⟩ := hrel
    by_cases hlt : k < l.length
    · obtain ⟨b, off, rfl, hb, hcell⟩ := hrd (by omega)
      have HL := Lib.hid hl; clear hl
      have HN := Lib.hid hlen; clear hlen
      obtain ⟨x, hxe⟩ : ∃ x, x = l[k] := ⟨_, rfl⟩
      obtain ⟨c0, c1, c2, c3, c4⟩ := hcell k hlt
      obtain ⟨q, rfl⟩ : ∃ q : Since w.heap.size w, wr = q.val := ⟨⟨wr, hbel⟩, rfl⟩
      rw [← hxe] at c0 c1 c2 c3 c4
      have HX := Lib.hid hxe; clear hxe
      clear hcell hrd hbel
      go_wp2_with (first
        | (go_at_call 30; refine (toRow_any x _).mono ?_; rintro e w1 ⟨rfl, hb1⟩)
        | (with_reducible refine wpList_store_next (op := ⟨none, .store 42 (.tmp 21) (.tmp 20), _, _, _, _⟩) rfl _ _ _ rfl Row.enc 5 Row.enc_len l k hlt rest HN w.heap.size 42 x.enc.toArray ?c1 ?c2 ?c3 ?c4 ?c5 ?c6 ?_; rotate_right; intro w2 old2 hl2 hn2 hg2))
      case c1 => rfl
      case c2 => rfl
      case c3 => rw [HX.out]; rfl
      case c4 => kernel_rfl
      case c5 => simp [Row.enc, Value.oneCell']
      case c6 => exact HL.out.below hb1 HL.out.lt
      go_wp2
      go_roundw
      case rel => exact ⟨k + 1, old2, by omega, by go_num, (q.below.trans (hb1.mono q.size)).grown hg2 (Nat.le_trans q.size hb1.size) (by rintro _ ⟨⟩; exact Nat.le_refl _), hl2, hn2⟩
      case measure => simp [intOf]; omega
    · have hk' : k = l.length := by omega
      subst hk'
      go_wp2
      go_ret
      refine ⟨w.heap.size, rfl, Nat.le_refl _, ?_, hbel⟩
      have h0 : rest = [] := List.eq_nil_of_length_eq_zero (by omega)
      rw [h0, List.take_of_length_le (Nat.le_refl _), List.append_nil] at hl
      exact hl

end Go.Proofs.Ytpjfidmapnnbkaa

/- Rows of the office: equality of slices, validity of a list, in the reference and in the program. -/
namespace Go.Proofs.Ytpjfidmapnnbkaa
open Go.RowKit

/-- Two lists of rows are the same. -/
def sameRows (a b : List Row) : Bool := decide (a = b)
def sameFrom : List Row → List Row → Bool
  | [], [] => true
  | x :: a, y :: b => decide (x = y) && sameFrom a b
  | _, _ => false
theorem sameFrom_eq : ∀ a b : List Row, sameFrom a b = sameRows a b
  | [], [] => by simp [sameFrom, sameRows]
  | [], _ :: _ => by simp [sameFrom, sameRows]
  | _ :: _, [] => by simp [sameFrom, sameRows]
  | x :: a, y :: b => by simp [sameFrom, sameRows, sameFrom_eq a b, Bool.decide_and]

set_option maxHeartbeats 1000000 in
theorem eqRows_any (A B : Option Addr) (c d : Nat) (l m : List Row) (w : World) (hA : RowsR w w.heap.size A l) (hB : RowsR w w.heap.size B m) :
    Calls Try.prog 9 #[.slice A l.length c, .slice B m.length d] w fun e w' => e = .returned (.bool (sameRows l m)) ∧ Below w.heap.size w w' := by
  have hlA := hA.big
  have hlB := hB.big
  have hrA := hA.row
  have hrB := hB.row
  by_cases hne : l.length = m.length
  · have hF : Hid (sameFrom l m = sameRows l m) := sameFrom_eq l m
    have hbn : ((l.length : Int) != (m.length : Int)) = false := by simp [hne]
    have HE := Lib.hid hne; clear hne
    go_enter Try.func9, Try.ntmps9
    go_wp2
    go_loopw [5] (fun i wr => ∃ k : Nat, k ≤ l.length ∧ i = .int .i64 k ∧ (∃ q : Since w.heap.size w, wr = q.val) ∧ Hid (sameFrom (l.drop k) (m.drop k) = sameRows l m)) (fun i _ => l.length - (intOf i).toNat)
    case atStart => exact ⟨0, Nat.zero_le _, rfl, ⟨Since.start _ _, rfl⟩, hF⟩
    case round =>
      obtain ⟨k, hk, rfl, ⟨q, rfl⟩, HR⟩ := hrel
      by_cases hlt : k < l.length
      · have hlt' : k < m.length := by have := HE.out; omega
        obtain ⟨b, off, rfl, hb, hcell⟩ := hrA (by omega)
        obtain ⟨b', off', rfl, hb', hcell'⟩ := hrB (by omega)
        obtain ⟨c0, c1, c2, c3, c4⟩ := hcell k hlt
        obtain ⟨d0, d1, d2, d3, d4⟩ := hcell' k hlt'
        obtain ⟨x, hxe⟩ : ∃ x, x = l[k] := ⟨_, rfl⟩
        obtain ⟨y, hye⟩ : ∃ x, x = m[k] := ⟨_, rfl⟩
        rw [← hxe] at c0 c1 c2 c3 c4
        rw [← hye] at d0 d1 d2 d3 d4
        have HX := Lib.hid hxe; clear hxe
        have HY := Lib.hid hye; clear hye
        clear hcell hcell' hrA hrB
        have hstep : Hid (sameFrom (l.drop k) (m.drop k) = (decide (x = y) && sameFrom (l.drop (k + 1)) (m.drop (k + 1)))) := by
          rw [List.drop_eq_getElem_cons hlt, List.drop_eq_getElem_cons hlt', HX.out, HY.out]; rfl
        obtain ⟨v, hv⟩ : ∃ v, decide (x = y) = v := ⟨_, rfl⟩
        have HV := Lib.hid hv; clear hv
        cases v
        all_goals
          go_wp2
          refine wp_region_since _ (by kernel_rfl) (by kernel_rfl) ?_
          repeat (any_goals (first | go_big_quiet_step ((go_at_call 37; refine calls_sinceB HV (Nat.le_refl _) (eqRow_any x y _))) | (refine wpQuiet_step (fun K hK => ?_); go_simp; split <;> (refine hK _ ?_; clear hK K))))
          all_goals (refine wpQuiet_nil ?_; rintro _ ⟨q1, rfl⟩)
          all_goals go_wp2
        · go_ret
          refine ⟨?_, q1.below⟩
          rw [← HR.out, hstep.out, HV.out]; rfl
        · go_roundw
          case rel => exact ⟨k + 1, by omega, by go_num, ⟨q1, rfl⟩, by have h1 := HR.out; rw [hstep.out, HV.out] at h1; exact h1⟩
          case measure => simp [intOf]; omega
      · have hk' : k = l.length := by omega
        go_wp2
        go_ret
        refine ⟨?_, q.below⟩
        rw [← HR.out, List.drop_eq_nil_of_le (by omega), List.drop_eq_nil_of_le (by have := HE.out; omega)]; rfl
  · have hbn : ((l.length : Int) != (m.length : Int)) = true := by rw [bne_iff_ne]; omega
    have hF : Hid (sameRows l m = false) := by
      unfold sameRows; rw [decide_eq_false_iff_not]; intro h; exact hne (by rw [h])
    go_enter Try.func9, Try.ntmps9
    go_wp2
    go_ret
    exact ⟨by rw [hF.out]; rfl, Below.refl _ _⟩

/-- Validity of a list: the rest of it, from place n on, behind a row of the month prev. -/
def goodFrom : Nat → Int → List Row → Bool
  | n, _, [] => decide (n ≤ 12)
  | n, prev, r :: rest => r.ok && (decide (n = 0) || decide (prev < r.m)) && goodFrom (n + 1) r.m rest
def goodRows (l : List Row) : Bool := goodFrom 0 0 l

set_option maxHeartbeats 1000000 in
theorem l31Good_any (A : Option Addr) (c : Nat) (l : List Row) (w : World) (h : RowsR w w.heap.size A l) :
    Calls Try.prog 29 #[.slice A l.length c] w fun e w' => e = .returned (.bool (goodRows l)) ∧ Below w.heap.size w w' := by
  have hl := h.big
  have hrd := h.row
  go_enter Try.func29, Try.ntmps29
  go_wp2
  go_loopw [3] (fun i wr => ∃ (k : Nat) (prev : Int), k ≤ l.length ∧ i = .int .i64 k ∧ (∃ q : Since w.heap.size w, wr = q.val) ∧ Hid (goodFrom k prev (l.drop k) = goodRows l) ∧ Hid (∀ (_hk : 0 < k) (h' : k - 1 < l.length), prev = l[k - 1].m)) (fun i _ => l.length - (intOf i).toNat)
  case atStart => exact ⟨0, 0, Nat.zero_le _, rfl, ⟨Since.start _ _, rfl⟩, rfl, fun h => absurd h (by omega)⟩
  case round =>
    obtain ⟨k, prev, hk, rfl, ⟨q, rfl⟩, HR, HP⟩ := hrel
    by_cases hlt : k < l.length
    · obtain ⟨b, off, rfl, hb, hcell⟩ := hrd (by omega)
      obtain ⟨c0, c1, c2, c3, c4⟩ := hcell k hlt
      have HC : Hid (0 < k → ∀ p : Since w.heap.size w, p.val.cell? ⟨b, off + (k - 1) * 5, none⟩ = some (.int .i64 prev)) := fun h p => by
        rw [HP.out h (by omega)]; exact (hcell (k - 1) (by omega)).c0 p
      obtain ⟨x, hxe⟩ : ∃ x, x = l[k] := ⟨_, rfl⟩
      rw [← hxe] at c0 c1 c2 c3 c4
      have HX := Lib.hid hxe; clear hxe
      clear hcell hrd
      have hstep : Hid (goodFrom k prev (l.drop k) = (x.ok && (decide (k = 0) || decide (prev < x.m)) && goodFrom (k + 1) x.m (l.drop (k + 1)))) := by
        rw [List.drop_eq_getElem_cons hlt, HX.out]; rfl
      have HN : Hid (∀ (_hk : 0 < k + 1) (h' : k + 1 - 1 < l.length), x.m = l[k + 1 - 1].m) := fun _ h' => by rw [HX.out]; rfl
      obtain ⟨v, hv⟩ : ∃ v, x.ok = v := ⟨_, rfl⟩
      have HV := Lib.hid hv; clear hv
      rcases Nat.eq_zero_or_pos k with h0 | h0
      · have hd : decide (0 < k) = false := decide_eq_false (by omega)
        have H0 := Lib.hid h0; clear h0
        cases v
        all_goals
          go_wp2
          refine wp_region_since _ (by kernel_rfl) (by kernel_rfl) ?_
          repeat (any_goals (first | go_big_quiet_step ((go_at_call 48; refine calls_sinceB HV (Nat.le_refl _) (l31One_any x _))) | (refine wpQuiet_step (fun K hK => ?_); go_simp; split <;> (refine hK _ ?_; clear hK K))))
          all_goals (refine wpQuiet_nil ?_; rintro _ ⟨q1, rfl⟩)
          all_goals go_wp2
        · go_ret
          refine ⟨?_, q1.below⟩
          rw [← HR.out, hstep.out, HV.out]; rfl
        · go_roundw
          case rel => exact ⟨k + 1, x.m, by omega, by go_num, ⟨q1, rfl⟩, by have h1 := HR.out; rw [hstep.out, HV.out, decide_eq_true H0.out] at h1; exact h1, HN⟩
          case measure => simp [intOf]; omega
      · have c5 := HC.out h0
        have h0' : (0 : Int) < (k : Int) := by omega
        cases v
        all_goals
          go_wp2
          refine wp_region_since _ (by kernel_rfl) (by kernel_rfl) ?_
          repeat (any_goals (first | go_big_quiet_step ((go_at_call 48; refine calls_sinceB HV (Nat.le_refl _) (l31One_any x _))) | (refine wpQuiet_step (fun K hK => ?_); go_simp; split <;> (refine hK _ ?_; clear hK K))))
          all_goals (refine wpQuiet_nil ?_; rintro _ ⟨q1, rfl⟩)
          all_goals go_wp2
        · go_ret
          refine ⟨?_, q1.below⟩
          rw [← HR.out, hstep.out, HV.out]; rfl
        · go_ret
          refine ⟨?_, q1.below⟩
          have hm : x.m ≤ prev := by assumption
          rw [← HR.out, hstep.out, HV.out, decide_eq_false (by omega : ¬ k = 0), decide_eq_false (by omega : ¬ prev < x.m)]; rfl
        · have hm : prev < x.m := by assumption
          go_roundw
          case rel => exact ⟨k + 1, x.m, by omega, by go_num, ⟨q1, rfl⟩, by have h1 := HR.out; rw [hstep.out, HV.out, decide_eq_true hm, Bool.or_true] at h1; exact h1, HN⟩
          case measure => simp [intOf]; omega
    · have HK : Hid (k = l.length) := by unfold Hid; omega
      clear hrd
      go_wp2
      all_goals
        go_ret
        refine ⟨?_, q.below⟩
        rw [← HR.out, List.drop_eq_nil_of_le (by omega), HK.out]
        show _ = Ending.returned (.bool (decide (l.length ≤ 12)))
        simp; omega

set_option maxHeartbeats 1000000 in
theorem areOfficeRows_any (A : Option Addr) (c : Nat) (l : List Row) (w : World) (h : RowsR w w.heap.size A l) :
    Calls Try.prog 31 #[.slice A l.length c] w fun e w' => e = .returned (.bool (goodRows l)) ∧ Below w.heap.size w w' := by
  have hl := h.big
  have hrd := h.row
  go_enter Try.func31, Try.ntmps31
  go_wp2
  go_loopw [7] (fun i wr => ∃ (k : Nat) (prev : Int), k ≤ l.length ∧ i = .int .i64 k ∧ (∃ q : Since w.heap.size w, wr = q.val) ∧ Hid (goodFrom k prev (l.drop k) = goodRows l) ∧ Hid (∀ (_hk : 0 < k) (h' : k - 1 < l.length), prev = l[k - 1].m)) (fun i _ => l.length - (intOf i).toNat)
  case atStart => exact ⟨0, 0, Nat.zero_le _, rfl, ⟨Since.start _ _, rfl⟩, rfl, fun h => absurd h (by omega)⟩
  case round =>
    obtain ⟨k, prev, hk, rfl, ⟨q, rfl⟩, HR, HP⟩ := hrel
    by_cases hlt : k < l.length
    · obtain ⟨b, off, rfl, hb, hcell⟩ := hrd (by omega)
      obtain ⟨x, hxe⟩ : ∃ x, x = l[k] := ⟨_, rfl⟩
      obtain ⟨c0, c1, c2, c3, c4⟩ := hcell k hlt
      rw [← hxe] at c0 c1 c2 c3 c4
      have HC : Hid (0 < k → ∀ p : Since w.heap.size w, p.val.cell? ⟨b, off + (k - 1) * 5, none⟩ = some (.int .i64 prev)) := fun h p => by
        rw [HP.out h (by omega)]; exact (hcell (k - 1) (by omega)).c0 p
      have HX := Lib.hid hxe; clear hxe
      clear hcell hrd
      have hstep : Hid (goodFrom k prev (l.drop k) = (x.ok && (decide (k = 0) || decide (prev < x.m)) && goodFrom (k + 1) x.m (l.drop (k + 1)))) := by
        rw [List.drop_eq_getElem_cons hlt, HX.out]; rfl
      have HN : Hid (∀ (_hk : 0 < k + 1) (h' : k + 1 - 1 < l.length), x.m = l[k + 1 - 1].m) := fun _ h' => by rw [HX.out]; rfl
      obtain ⟨v, hv⟩ : ∃ v, x.ok = v := ⟨_, rfl⟩
      have HV := Lib.hid hv; clear hv
      go_wp2
      have hbW := (q.below.alloc q.size (.cells #[.int .i64 x.m, .int .i64 x.b, .int .i64 x.s, .int .i64 x.c, .int .i64 x.l] 42))
      have hlW := Lies.new q.val 42 #[.int .i64 x.m, .int .i64 x.b, .int .i64 x.s, .int .i64 x.c, .int .i64 x.l]
      generalize q.val.alloc (.cells #[.int .i64 x.m, .int .i64 x.b, .int .i64 x.s, .int .i64 x.c, .int .i64 x.l] 42) = W at hbW hlW ⊢
      generalize q.val.heap.size = g at hlW ⊢
      obtain ⟨d0, d1, d2, d3, d4⟩ := RowS.of (r := x) hlW
      clear c0 c1 c2 c3 c4
      rcases Nat.eq_zero_or_pos k with h0 | h0
      · have hd : decide (0 < k) = false := decide_eq_false (by omega)
        have H0 := Lib.hid h0; clear h0
        cases v
        all_goals
          refine wp_region_since0 (by kernel_rfl) (by kernel_rfl) ?_
          repeat (any_goals (first | go_big_quiet_step ((go_at_call 49; refine calls_sinceB HV (Nat.le_refl _) (isOfficeRow_any x _))) | (refine wpQuiet_step (fun K hK => ?_); go_simp; split <;> (refine hK _ ?_; clear hK K))))
          all_goals (refine wpQuiet_nil ?_; rintro _ ⟨q1, rfl⟩)
          all_goals have hb1 := hbW.trans (q1.below.mono hbW.size)
          all_goals go_wp2
        · go_ret
          refine ⟨?_, hb1⟩
          rw [← HR.out, hstep.out, HV.out]; rfl
        · go_roundw
          case rel => exact ⟨k + 1, x.m, by omega, by go_num, ⟨⟨_, hb1⟩, rfl⟩, by have h1 := HR.out; rw [hstep.out, HV.out, decide_eq_true H0.out] at h1; exact h1, HN⟩
          case measure => simp [intOf]; omega
      · have c5 : ∀ p : Since W.heap.size W, p.val.cell? ⟨b, off + (k - 1) * 5, none⟩ = some (.int .i64 prev) := fun p => HC.out h0 ⟨p.val, hbW.trans (p.below.mono hbW.size)⟩
        have h0' : (0 : Int) < (k : Int) := by omega
        cases v
        all_goals
          refine wp_region_since0 (by kernel_rfl) (by kernel_rfl) ?_
          repeat (any_goals (first | go_big_quiet_step ((go_at_call 49; refine calls_sinceB HV (Nat.le_refl _) (isOfficeRow_any x _))) | (refine wpQuiet_step (fun K hK => ?_); go_simp; split <;> (refine hK _ ?_; clear hK K))))
          all_goals (refine wpQuiet_nil ?_; rintro _ ⟨q1, rfl⟩)
          all_goals have hb1 := hbW.trans (q1.below.mono hbW.size)
          all_goals go_wp2
        · go_ret
          refine ⟨?_, hb1⟩
          rw [← HR.out, hstep.out, HV.out]; rfl
        · go_ret
          refine ⟨?_, hb1⟩
          have hm : x.m ≤ prev := by assumption
          rw [← HR.out, hstep.out, HV.out, decide_eq_false (by omega : ¬ k = 0), decide_eq_false (by omega : ¬ prev < x.m)]; rfl
        · have hm : prev < x.m := by assumption
          go_roundw
          case rel => exact ⟨k + 1, x.m, by omega, by go_num, ⟨⟨_, hb1⟩, rfl⟩, by have h1 := HR.out; rw [hstep.out, HV.out, decide_eq_true hm, Bool.or_true] at h1; exact h1, HN⟩
          case measure => simp [intOf]; omega
    · have HK : Hid (k = l.length) := by unfold Hid; omega
      clear hrd
      go_wp2
      all_goals
        go_ret
        refine ⟨?_, q.below⟩
        rw [← HR.out, List.drop_eq_nil_of_le (by omega), HK.out]
        show _ = Ending.returned (.bool (decide (l.length ≤ 12)))
        simp; omega

/-- What a call lays on top of one block of our own. -/
theorem below_alloc {w w1 : World} {o : Obj} (h : Below (w.alloc o).heap.size (w.alloc o) w1) : Below w.heap.size w w1 :=
  ((Below.refl _ _).alloc (Nat.le_refl _) o).trans (h.mono (by simp))

end Go.Proofs.Ytpjfidmapnnbkaa

/- Rows of the office: the least start, in the reference and in the program. -/
namespace Go.Proofs.Ytpjfidmapnnbkaa
open Go.RowKit

theorem inR_iff {n lo hi : Int} : inR n lo hi = true ↔ lo ≤ n ∧ n ≤ hi := by simp [inR]
theorem Row.bounds {r : Row} (h : r.ok = true) : (1 ≤ r.m ∧ r.m ≤ 1200) ∧ (0 ≤ r.b ∧ r.b ≤ 9999) ∧ (0 ≤ r.s ∧ r.s ≤ 9999) ∧ (-1000000 ≤ r.c ∧ r.c ≤ 1000000) ∧ (0 ≤ r.l ∧ r.l ≤ 999) := by
  simp only [Row.ok, Bool.and_eq_true, inR_iff] at h
  exact ⟨h.1.1.1.1, h.1.1.1.2, h.1.1.2, h.1.2, h.2⟩
theorem goodFrom_all : ∀ (l : List Row) (n : Nat) (p : Int), goodFrom n p l = true → n + l.length ≤ 12 ∧ ∀ x ∈ l, x.ok = true
  | [], n, p, h => by simp [goodFrom] at h; simpa using h
  | r :: l, n, p, h => by
    simp only [goodFrom, Bool.and_eq_true] at h
    obtain ⟨h1, h2⟩ := goodFrom_all l _ _ h.2
    refine ⟨by simp; omega, fun x hx => ?_⟩
    rcases List.mem_cons.1 hx with rfl | hx
    · exact h.1.1
    · exact h2 x hx
theorem good_len {l : List Row} (h : goodRows l = true) : l.length ≤ 12 := by have := (goodFrom_all l 0 0 h).1; omega
theorem good_at {l : List Row} (h : goodRows l = true) {i : Nat} (hi : i < l.length) : l[i].ok = true := (goodFrom_all l 0 0 h).2 _ (List.getElem_mem hi)

theorem l1MostR_any (a b : Int) (w : World) : Calls Try.prog 39 #[.int .i64 a, .int .i64 b] w fun e w' => e = .returned (.int .i64 (max a b)) ∧ w = w' := by
  have h1 : Hid (b < a → max a b = a) := fun h => by omega
  have h2 : Hid (a ≤ b → max a b = b) := fun h => by omega
  go_enter Try.func39, Try.ntmps39
  go_wp2
  · go_ret
    exact ⟨by rw [h1.out (by assumption)]; rfl, rfl⟩
  · go_ret
    exact ⟨by rw [h2.out (by assumption)]; rfl, rfl⟩

def leastFrom : Int → Int → List Row → Int
  | _, need, [] => need
  | now, need, r :: rest => leastFrom (now + r.b - r.s) (max need (-(now + r.b - r.s))) rest
theorem leastFrom_step {l : List Row} {k : Nat} (h : k < l.length) (a b : Int) : leastFrom a b (l.drop k) = leastFrom (a + l[k].b - l[k].s) (max b (-(a + l[k].b - l[k].s))) (l.drop (k + 1)) := by
  rw [List.drop_eq_getElem_cons h]; rfl
def leastStart (l : List Row) : Int := if goodRows l then leastFrom 0 0 l else 0

set_option maxHeartbeats 1000000 in
theorem specLeast_any (A : Option Addr) (c : Nat) (l : List Row) (w : World) (h : RowsR w w.heap.size A l) :
    Calls Try.prog 15 #[.slice A l.length c] w fun e w' => e = .returned (.tuple #[.int .i64 (leastStart l), .bool (goodRows l)]) ∧ Below w.heap.size w w' := by
  have hl := h.big
  have hrd := h.row
  cases hg : goodRows l
  · have HG := Lib.hid hg; clear hg hrd
    have HF : Hid (leastStart l = 0) := by unfold leastStart; rw [HG.out]; rfl
    go_enter Try.func15, Try.ntmps15
    go_wp2_with (go_at_call 29; refine (l31Good_any A c l _ h).mono ?_; rw [HG.out]; rintro e w1 ⟨rfl, hb1⟩)
    go_ret2
    exact ⟨by rw [HF.out]; rfl, hb1⟩
  · have h12 := good_len hg
    have HA : Hid (∀ i (hi : i < l.length), l[i].ok = true) := fun i hi => good_at hg hi
    have HF : Hid (leastFrom 0 0 (l.drop 0) = leastStart l) := by unfold leastStart; rw [hg]; rfl
    have HG := Lib.hid hg; clear hg
    go_enter Try.func15, Try.ntmps15
    go_wp2_with (go_at_call 29; refine (l31Good_any A c l _ h).mono ?_; rw [HG.out]; rintro e w1 ⟨rfl, hb1⟩; obtain ⟨q, rfl⟩ : ∃ q : Since w.heap.size w, w1 = q.val := ⟨⟨w1, hb1⟩, rfl⟩)
    go_loopw [4, 5, 6] (fun a n i wr => ∃ (k : Nat) (now need : Int), k ≤ l.length ∧ i = .int .i64 k ∧ a = .int .i64 now ∧ n = .int .i64 need ∧ (-(9999 * (k : Int)) ≤ now ∧ now ≤ 9999 * (k : Int)) ∧ (0 ≤ need ∧ need ≤ 9999 * (k : Int)) ∧ (∃ q : Since w.heap.size w, wr = q.val) ∧ Hid (leastFrom now need (l.drop k) = leastStart l)) (fun _ _ i _ => l.length - (intOf i).toNat)
    case atStart => exact ⟨0, 0, 0, Nat.zero_le _, rfl, rfl, rfl, by omega, by omega, ⟨q, rfl⟩, HF⟩
    case round =>
      obtain ⟨k, now, need, hk, rfl, rfl, rfl, hnow, hneed, ⟨q, rfl⟩, HR⟩ := hrel
      by_cases hlt : k < l.length
      · obtain ⟨b, off, rfl, hb, hcell⟩ := hrd (by omega)
        obtain ⟨c0, c1, c2, c3, c4⟩ := hcell k hlt
        obtain ⟨_, hxb, hxs, _, _⟩ := Row.bounds (HA.out k hlt)
        have HS : Hid (leastFrom now need (l.drop k) = leastFrom (now + l[k].b - l[k].s) (max need (-(now + l[k].b - l[k].s))) (l.drop (k + 1))) := leastFrom_step hlt _ _
        obtain ⟨x, hxe⟩ : ∃ x, x = l[k] := ⟨_, rfl⟩
        rw [← hxe] at c0 c1 c2 c3 c4 hxb hxs HS
        have HX := Lib.hid hxe; clear hxe hcell hrd
        obtain ⟨b1, b2⟩ := hxb
        obtain ⟨s1, s2⟩ := hxs
        obtain ⟨n1, n2⟩ := hnow
        obtain ⟨m1, m2⟩ := hneed
        go_wp2
        refine wp_region_since _ (by kernel_rfl) (by kernel_rfl) ?_
        repeat (any_goals (first | go_big_quiet_step ((fail)) | (refine wpQuiet_step (fun K hK => ?_); go_simp; split <;> (refine hK _ ?_; clear hK K))))
        all_goals (refine wpQuiet_nil ?_; rintro _ ⟨q1, rfl⟩)
        go_wp2_with (go_at_call 39; refine (l1MostR_any _ _ _).mono ?_; rintro e w2 ⟨rfl, rfl⟩)
        go_roundw
        case rel => exact ⟨k + 1, now + x.b - x.s, max need (-(now + x.b - x.s)), by omega, by go_num, rfl, rfl, by omega, by omega, ⟨q1, rfl⟩, by rw [← HS.out]; exact HR.out⟩
        case measure => simp [intOf]; omega
      · have HE : Hid (need = leastStart l) := by
          have h1 := HR.out; rw [List.drop_eq_nil_of_le (by omega)] at h1; exact h1
        clear hrd
        go_wp2
        go_ret2
        exact ⟨by rw [← HE.out]; rfl, q.below⟩

set_option maxHeartbeats 1000000 in
theorem implLeast_any (A : Option Addr) (c : Nat) (l : List Row) (w : World) (h : RowsR w w.heap.size A l) :
    Calls Try.prog 14 #[.slice A l.length c] w fun e w' => e = .returned (.tuple #[.int .i64 (leastStart l), .bool (goodRows l)]) ∧ Below w.heap.size w w' := by
  have hl := h.big
  have hrd := h.row
  cases hg : goodRows l
  · have HG := Lib.hid hg; clear hg hrd
    have HF : Hid (leastStart l = 0) := by unfold leastStart; rw [HG.out]; rfl
    go_enter Try.func14, Try.ntmps14
    go_wp2_with (go_at_call 31; refine (areOfficeRows_any A c l _ h).mono ?_; rw [HG.out]; rintro e w1 ⟨rfl, hb1⟩)
    go_ret2
    exact ⟨by rw [HF.out]; rfl, hb1⟩
  · have h12 := good_len hg
    have HA : Hid (∀ i (hi : i < l.length), l[i].ok = true) := fun i hi => good_at hg hi
    have HF : Hid (leastFrom 0 0 (l.drop 0) = leastStart l) := by unfold leastStart; rw [hg]; rfl
    have HG := Lib.hid hg; clear hg
    go_enter Try.func14, Try.ntmps14
    go_wp2_with (go_at_call 31; refine (areOfficeRows_any A c l _ h).mono ?_; rw [HG.out]; rintro e w1 ⟨rfl, hb1⟩; obtain ⟨q, rfl⟩ : ∃ q : Since w.heap.size w, w1 = q.val := ⟨⟨w1, hb1⟩, rfl⟩)
    go_loopw [4, 5, 13] (fun n a i wr => ∃ (k : Nat) (now need : Int), k ≤ l.length ∧ i = .int .i64 k ∧ a = .int .i64 now ∧ n = .int .i64 need ∧ (-(9999 * (k : Int)) ≤ now ∧ now ≤ 9999 * (k : Int)) ∧ (0 ≤ need ∧ need ≤ 9999 * (k : Int)) ∧ (∃ q : Since w.heap.size w, wr = q.val) ∧ Hid (leastFrom now need (l.drop k) = leastStart l)) (fun _ _ i _ => l.length - (intOf i).toNat)
    case atStart => exact ⟨0, 0, 0, Nat.zero_le _, rfl, rfl, rfl, by omega, by omega, ⟨q, rfl⟩, HF⟩
    case round =>
      obtain ⟨k, now, need, hk, rfl, rfl, rfl, hnow, hneed, ⟨q, rfl⟩, HR⟩ := hrel
      by_cases hlt : k < l.length
      · obtain ⟨b, off, rfl, hb, hcell⟩ := hrd (by omega)
        obtain ⟨c0, c1, c2, c3, c4⟩ := hcell k hlt
        obtain ⟨_, hxb, hxs, _, _⟩ := Row.bounds (HA.out k hlt)
        have HS : Hid (leastFrom now need (l.drop k) = leastFrom (now + l[k].b - l[k].s) (max need (-(now + l[k].b - l[k].s))) (l.drop (k + 1))) := leastFrom_step hlt _ _
        obtain ⟨x, hxe⟩ : ∃ x, x = l[k] := ⟨_, rfl⟩
        rw [← hxe] at c0 c1 c2 c3 c4 hxb hxs HS
        have HX := Lib.hid hxe; clear hxe hcell hrd
        obtain ⟨b1, b2⟩ := hxb
        obtain ⟨s1, s2⟩ := hxs
        obtain ⟨n1, n2⟩ := hnow
        obtain ⟨m1, m2⟩ := hneed
        go_wp2
        go_roundw
        case rel => exact ⟨k + 1, now + x.b - x.s, max need (-(now + x.b - x.s)), by omega, by go_num, congrArg _ (by omega), congrArg _ (by split <;> omega), by omega, by omega, ⟨⟨_, q.below.alloc q.size _⟩, rfl⟩, by rw [← HS.out]; exact HR.out⟩
        case measure => simp [intOf]; omega
      · have HE : Hid (need = leastStart l) := by
          have h1 := HR.out; rw [List.drop_eq_nil_of_le (by omega)] at h1; exact h1
        clear hrd
        go_wp2
        go_ret2
        exact ⟨by rw [← HE.out]; rfl, q.below⟩
end Go.Proofs.Ytpjfidmapnnbkaa

/- Rows of the office: marks on a copy; the sums, in the reference and in the program. -/
namespace Go.Proofs.Ytpjfidmapnnbkaa
open Go.RowKit

set_option maxHeartbeats 1000000 in
theorem markRows_any (g n c : Nat) (k0 : Int) (cs : List Value) (w : World) (hk : -1000000000 ≤ k0) (hk' : k0 ≤ 1000000000) (hn : n ≤ 1000000000) (h : Lies w g 42 cs) (hl : cs.length = n * 5) :
    Calls Try.prog 10 #[.slice (some ⟨g, 0, none⟩) n c, .int .i64 k0] w fun e w' => e = .returned (.int .i64 (k0 + 5 * n)) ∧ w.grownBy w' (some g) := by
  have HL : Hid (cs.length = n * 5) := hl
  clear hl
  go_enter Try.func10, Try.ntmps10
  go_wp2
  go_loopw [1, 5] (fun kk i wr => ∃ (j : Nat) (cs : List Value), j ≤ n ∧ i = .int .i64 j ∧ kk = .int .i64 (k0 + 5 * j) ∧ Hid (Lies wr g 42 cs ∧ cs.length = n * 5) ∧ w.grownBy wr (some g)) (fun _ i _ => n - (intOf i).toNat)
  case atStart => exact ⟨0, cs, Nat.zero_le _, rfl, congrArg _ (by simp), ⟨h, HL.out⟩, World.grownBy.refl w _⟩
  case round =>
    obtain ⟨j, cs', hj, rfl, rfl, HR, hgr⟩ := hrel
    by_cases hlt : j < n
    · have key : ∀ i, i < 5 → ∃ u, wr.cell? ⟨g, j * 5 + i, none⟩ = some u := fun i hi => by
        rw [HR.out.1.cell]
        have : j * 5 + i < cs'.length := by rw [HR.out.2]; omega
        exact ⟨_, List.getElem?_eq_getElem this⟩
      obtain ⟨u0, c0⟩ := key 0 (by omega)
      obtain ⟨u1, c1⟩ := key 1 (by omega)
      obtain ⟨u2, c2⟩ := key 2 (by omega)
      obtain ⟨u3, c3⟩ := key 3 (by omega)
      obtain ⟨u4, c4⟩ := key 4 (by omega)
      rw [Nat.add_zero] at c0
      have f0 : wr.frozen? ⟨g, j * 5, none⟩ = false := HR.out.1.frozen _
      have f1 : wr.frozen? ⟨g, j * 5 + 1, none⟩ = false := HR.out.1.frozen _
      have f2 : wr.frozen? ⟨g, j * 5 + 2, none⟩ = false := HR.out.1.frozen _
      have f3 : wr.frozen? ⟨g, j * 5 + 3, none⟩ = false := HR.out.1.frozen _
      have f4 : wr.frozen? ⟨g, j * 5 + 4, none⟩ = false := HR.out.1.frozen _
      clear key h
      go_wp2
      go_roundw
      case rel => exact ⟨j + 1, _, by omega, by go_num, congrArg _ (by omega), ⟨((((HR.out.1.set (j * 5) _).set (j * 5 + 1) _).set (j * 5 + 2) _).set (j * 5 + 3) _).set (j * 5 + 4) _, by simpa using HR.out.2⟩, grown_set (grown_set (grown_set (grown_set (grown_set hgr))))⟩
      case measure => simp [intOf]; omega
    · have HJ : Hid (j = n) := by unfold Hid; omega
      go_wp2
      go_ret
      exact ⟨by rw [← HJ.out]; rfl, hgr⟩

def sumsFrom : Int → Int → Int → Int → List Row → List Int
  | b, s, c, l, [] => [b, s, c, l]
  | b, s, c, l, r :: rest => sumsFrom (b + r.b) (s + r.s) (c + r.c) (l + r.l) rest
theorem sums_step {l : List Row} {k : Nat} (h : k < l.length) (b s c m : Int) : sumsFrom b s c m (l.drop k) = sumsFrom (b + l[k].b) (s + l[k].s) (c + l[k].c) (m + l[k].l) (l.drop (k + 1)) := by
  rw [List.drop_eq_getElem_cons h]; rfl
def sumsR (l : List Row) : List Int := if goodRows l then sumsFrom 0 0 0 0 l else []

set_option maxHeartbeats 1000000 in
theorem specSums_any (A : Option Addr) (c : Nat) (l : List Row) (w : World) (h : RowsR w w.heap.size A l) :
    Calls Try.prog 25 #[.slice A l.length c] w fun e w' => ∃ A' c', e = .returned (.tuple #[.slice A' (sumsR l).length c', .bool (goodRows l)]) ∧ OwnS w' w.heap.size 3 1 A' (sumsR l).length (encIs (sumsR l)) ∧ Below w.heap.size w w' := by
  have hl := h.big
  have hrd := h.row
  cases hg : goodRows l
  · have HG := Lib.hid hg; clear hg hrd
    have HF : Hid (sumsR l = []) := by unfold sumsR; rw [HG.out]; rfl
    go_enter Try.func25, Try.ntmps25
    go_wp2_with (go_at_call 29; refine (l31Good_any A c l _ h).mono ?_; rw [HG.out]; rintro e w1 ⟨rfl, hb1⟩)
    go_ret2
    rw [HF.out]
    exact ⟨_, _, rfl, ⟨rfl, by simp, .inr ⟨_, [], rfl, hb1.size, by simpa using Lies.new w1 3 #[]⟩⟩, hb1.alloc hb1.size _⟩
  · have h12 := good_len hg
    have HA : Hid (∀ i (hi : i < l.length), l[i].ok = true) := fun i hi => good_at hg hi
    have HF : Hid (sumsFrom 0 0 0 0 (l.drop 0) = sumsR l) := by unfold sumsR; rw [hg]; rfl
    have HG := Lib.hid hg; clear hg
    go_enter Try.func25, Try.ntmps25
    go_wp2_with (go_at_call 29; refine (l31Good_any A c l _ h).mono ?_; rw [HG.out]; rintro e w1 ⟨rfl, hb1⟩)
    go_loopw [4, 5, 6, 7, 8] (fun b s m ln i wr => ∃ (k : Nat) (tb ts tc tl : Int), k ≤ l.length ∧ i = .int .i64 k ∧ b = .int .i64 tb ∧ s = .int .i64 ts ∧ m = .int .i64 tc ∧ ln = .int .i64 tl ∧ (0 ≤ tb ∧ tb ≤ 9999 * (k : Int)) ∧ (0 ≤ ts ∧ ts ≤ 9999 * (k : Int)) ∧ (-(1000000 * (k : Int)) ≤ tc ∧ tc ≤ 1000000 * (k : Int)) ∧ (0 ≤ tl ∧ tl ≤ 999 * (k : Int)) ∧ Below w.heap.size w wr ∧ Hid (sumsFrom tb ts tc tl (l.drop k) = sumsR l)) (fun _ _ _ _ i _ => l.length - (intOf i).toNat)
    case atStart => exact ⟨0, 0, 0, 0, 0, Nat.zero_le _, rfl, rfl, rfl, rfl, rfl, by omega, by omega, by omega, by omega, hb1, HF⟩
    case round =>
      clear hb1
      obtain ⟨k, tb, ts, tc, tl, hk, rfl, rfl, rfl, rfl, rfl, ⟨b1, b2⟩, ⟨s1, s2⟩, ⟨m1, m2⟩, ⟨n1, n2⟩, hbr, HR⟩ := hrel
      by_cases hlt : k < l.length
      · obtain ⟨b, off, rfl, hb, hcell⟩ := hrd (by omega)
        obtain ⟨c0, c1, c2, c3, c4⟩ := hcell k hlt
        obtain ⟨_, hxb, hxs, hxc, hxl⟩ := Row.bounds (HA.out k hlt)
        have HS : Hid (sumsFrom tb ts tc tl (l.drop k) = sumsFrom (tb + l[k].b) (ts + l[k].s) (tc + l[k].c) (tl + l[k].l) (l.drop (k + 1))) := sums_step hlt _ _ _ _
        obtain ⟨x, hxe⟩ : ∃ x, x = l[k] := ⟨_, rfl⟩
        rw [← hxe] at c0 c1 c2 c3 c4 hxb hxs hxc hxl HS
        clear hxe hcell hrd
        obtain ⟨xb1, xb2⟩ := hxb
        obtain ⟨xs1, xs2⟩ := hxs
        obtain ⟨xc1, xc2⟩ := hxc
        obtain ⟨xl1, xl2⟩ := hxl
        obtain ⟨q, rfl⟩ : ∃ q : Since w.heap.size w, wr = q.val := ⟨⟨wr, hbr⟩, rfl⟩
        go_wp2
        go_roundw
        case rel => exact ⟨k + 1, tb + x.b, ts + x.s, tc + x.c, tl + x.l, by omega, by go_num, rfl, rfl, rfl, rfl, by omega, by omega, by omega, by omega, q.below, Lib.hid (by rw [← HS.out]; exact HR.out)⟩
        case measure => simp [intOf]; omega
      · have HE : Hid ([tb, ts, tc, tl] = sumsR l) := by
          have h1 := HR.out; rw [List.drop_eq_nil_of_le (by omega)] at h1; exact h1
        clear hrd
        go_wp2
        go_ret2
        rw [← HE.out]
        exact ⟨_, _, rfl, ⟨rfl, by simp, .inr ⟨_, [], rfl, hbr.size, by simpa using Lies.new wr 3 #[.int .i64 tb, .int .i64 ts, .int .i64 tc, .int .i64 tl]⟩⟩, hbr.alloc hbr.size _⟩

set_option maxHeartbeats 1000000 in
theorem implSums_any (A : Option Addr) (c : Nat) (l : List Row) (w : World) (h : RowsR w w.heap.size A l) :
    Calls Try.prog 24 #[.slice A l.length c] w fun e w' => ∃ A' c', e = .returned (.tuple #[.slice A' (sumsR l).length c', .bool (goodRows l)]) ∧ OwnS w' w.heap.size 3 1 A' (sumsR l).length (encIs (sumsR l)) ∧ Below w.heap.size w w' := by
  have hl := h.big
  have hrd := h.row
  cases hg : goodRows l
  · have HG := Lib.hid hg; clear hg hrd
    have HF : Hid (sumsR l = []) := by unfold sumsR; rw [HG.out]; rfl
    go_enter Try.func24, Try.ntmps24
    go_wp2_with (go_at_call 31; refine (areOfficeRows_any A c l _ h).mono ?_; rw [HG.out]; rintro e w1 ⟨rfl, hb1⟩)
    go_ret2
    rw [HF.out]
    exact ⟨_, _, rfl, ⟨rfl, by simp, .inl ⟨rfl, rfl⟩⟩, hb1⟩
  · have h12 := good_len hg
    have HA : Hid (∀ i (hi : i < l.length), l[i].ok = true) := fun i hi => good_at hg hi
    have HF : Hid (sumsFrom 0 0 0 0 (l.drop 0) = sumsR l) := by unfold sumsR; rw [hg]; rfl
    have HG := Lib.hid hg; clear hg
    have hmk : ∀ W : World, (Instr.makeSlice 36 (.int .i64 4) (.int .i64 4)).run Try.prog W = .ok (.slice (some ⟨W.heap.size, 0, none⟩) 4 4) (W.alloc (.cells #[.int .i64 0, .int .i64 0, .int .i64 0, .int .i64 0] 3)) := fun _ => by kernel_rfl
    go_enter Try.func24, Try.ntmps24
    go_wp2_with (go_at_call 31; refine (areOfficeRows_any A c l _ h).mono ?_; rw [HG.out]; rintro e w1 ⟨rfl, hb1⟩)
    have hbW := hb1.alloc hb1.size (.cells #[.int .i64 0, .int .i64 0, .int .i64 0, .int .i64 0] 3)
    have hlW := Lies.new w1 3 #[.int .i64 0, .int .i64 0, .int .i64 0, .int .i64 0]
    have hgW := hb1.size
    generalize w1.alloc (.cells #[.int .i64 0, .int .i64 0, .int .i64 0, .int .i64 0] 3) = W at hbW hlW ⊢
    generalize w1.heap.size = g at hlW hgW ⊢
    go_loopw [13] (fun i wr => ∃ (k : Nat) (tb ts tc tl : Int), k ≤ l.length ∧ i = .int .i64 k ∧ (0 ≤ tb ∧ tb ≤ 9999 * (k : Int)) ∧ (0 ≤ ts ∧ ts ≤ 9999 * (k : Int)) ∧ (-(1000000 * (k : Int)) ≤ tc ∧ tc ≤ 1000000 * (k : Int)) ∧ (0 ≤ tl ∧ tl ≤ 999 * (k : Int)) ∧ Below w.heap.size w wr ∧ Hid (Lies wr g 3 (encIs [tb, ts, tc, tl])) ∧ Hid (sumsFrom tb ts tc tl (l.drop k) = sumsR l)) (fun i _ => l.length - (intOf i).toNat)
    case atStart => exact ⟨0, 0, 0, 0, 0, Nat.zero_le _, rfl, by omega, by omega, by omega, by omega, hbW, hlW, HF⟩
    case round =>
      clear hb1 hbW hlW
      obtain ⟨k, tb, ts, tc, tl, hk, rfl, ⟨b1, b2⟩, ⟨s1, s2⟩, ⟨m1, m2⟩, ⟨n1, n2⟩, hbr, HL, HR⟩ := hrel
      by_cases hlt : k < l.length
      · obtain ⟨b, off, rfl, hb, hcell⟩ := hrd (by omega)
        obtain ⟨c0, c1, c2, c3, c4⟩ := hcell k hlt
        obtain ⟨_, hxb, hxs, hxc, hxl⟩ := Row.bounds (HA.out k hlt)
        have HS : Hid (sumsFrom tb ts tc tl (l.drop k) = sumsFrom (tb + l[k].b) (ts + l[k].s) (tc + l[k].c) (tl + l[k].l) (l.drop (k + 1))) := sums_step hlt _ _ _ _
        obtain ⟨x, hxe⟩ : ∃ x, x = l[k] := ⟨_, rfl⟩
        rw [← hxe] at c0 c1 c2 c3 c4 hxb hxs hxc hxl HS
        clear hxe hcell hrd
        obtain ⟨xb1, xb2⟩ := hxb
        obtain ⟨xs1, xs2⟩ := hxs
        obtain ⟨xc1, xc2⟩ := hxc
        obtain ⟨xl1, xl2⟩ := hxl
        obtain ⟨q, rfl⟩ : ∃ q : Since w.heap.size w, wr = q.val := ⟨⟨wr, hbr⟩, rfl⟩
        go_wp2
        have hbW := q.below.alloc q.size (.cells #[.int .i64 x.m, .int .i64 x.b, .int .i64 x.s, .int .i64 x.c, .int .i64 x.l] 42)
        have hlW := Lies.new q.val 42 #[.int .i64 x.m, .int .i64 x.b, .int .i64 x.s, .int .i64 x.c, .int .i64 x.l]
        have hlG := HL.out.alloc (.cells #[.int .i64 x.m, .int .i64 x.b, .int .i64 x.s, .int .i64 x.c, .int .i64 x.l] 42)
        have hgl := HL.out.lt
        generalize q.val.alloc (.cells #[.int .i64 x.m, .int .i64 x.b, .int .i64 x.s, .int .i64 x.c, .int .i64 x.l] 42) = V at hbW hlW hlG ⊢
        generalize q.val.heap.size = gx at hlW hgl ⊢
        clear c0 c1 c2 c3 c4 HL
        have d1 := hlW.cell 1
        have d2 := hlW.cell 2
        have d3 := hlW.cell 3
        have d4 := hlW.cell 4
        have e0 := hlG.cell 0
        have e1 := hlG.cell 1
        have e2 := hlG.cell 2
        have e3 := hlG.cell 3
        have f0 := hlG.frozen 0
        have f1 := hlG.frozen 1
        have f2 := hlG.frozen 2
        have f3 := hlG.frozen 3
        simp only [List.getElem?_cons_zero, List.getElem?_cons_succ, List.map_cons] at d1 d2 d3 d4 e0 e1 e2 e3
        go_region
        go_wp2
        go_region
        go_wp2
        go_region
        go_wp2
        go_region
        go_wp2
        go_roundw
        case rel => exact ⟨k + 1, tb + x.b, ts + x.s, tc + x.c, tl + x.l, by omega, by go_num, by omega, by omega, by omega, by omega, by go_grown, (((hlG.set 0 _).set 1 _).set 2 _).set 3 _, Lib.hid (by rw [← HS.out]; exact HR.out)⟩
        case measure => simp [intOf]; omega
      · have HE : Hid ([tb, ts, tc, tl] = sumsR l) := by
          have h1 := HR.out; rw [List.drop_eq_nil_of_le (by omega)] at h1; exact h1
        clear hrd
        go_wp2
        go_ret2
        rw [← HE.out]
        exact ⟨_, _, rfl, ⟨rfl, by simp, .inr ⟨_, [], rfl, hgW, by simpa using HL.out⟩⟩, hbr⟩
end Go.Proofs.Ytpjfidmapnnbkaa

/- Own slices that grow by one element (no program in sight). -/
namespace Go.Proofs.Ytpjfidmapnnbkaa
open Go.RowKit

theorem cells_new (w : World) (vs : Array Value) (t : TypeId) : ∀ j u, vs.toList[j]? = some u → (w.alloc (.cells vs t)).cell? ((⟨w.heap.size, 0, none⟩ : Addr).add j) = some u := by
  intro j u hj
  have e : ((⟨w.heap.size, 0, none⟩ : Addr).add j) = ⟨w.heap.size, j, none⟩ := by unfold Addr.add; by_cases h : j = 0 <;> simp [h]
  rw [e, (Lies.new w t vs).cell]; exact hj

theorem ownsRow_heap {w w' : World} {B : Nat} {e : TypeId} {k : Nat} {v : Value} {n : Nat} {xs : List Value} (h : w'.heap = w.heap) (ho : w.ownsRow B e k v n xs) : w'.ownsRow B e k v n xs := by
  unfold World.ownsRow at *; rw [h]; exact ho

/-- 'append(s, x)': s the call's own, x one element of k cells. -/
theorem wpList_push {P : Program} {ops : Array Oper} {rest : List Oper} {o : Oper} {a : Act} {w0 wA : World} {Q : Exit → Act → World → Prop} (hgd : o.guard = none) (s x : Operand) (t : TypeId)
    (ho : o.op = .call { callee := .builtin .append, args := #[s, x], argTypes := #[t, t] })
    (e : TypeId) (z : Value) (k bytes : Nat) (ht : P.underlying t = some (.slice e)) (hinfo : (P.info? e).map (fun i => (i.zero, i.size, i.bytes)) = some (some z, k, bytes)) (hzs : z.cells.size = k) (hsz : 0 < k) (hby : bytes ≤ 1000)
    (B : Nat) (v : Value) (n : Nat) (xs : List Value) (hs : a.eval s = v) (hown : Hid (w0.ownsRow B e k v n xs))
    (vs : Array Value) (c g : Nat) (hx : a.eval x = .slice (some ⟨g, 0, none⟩) 1 c) (hg : w0.heap.size = g) (hvs : vs.size = k) (h1 : vs.all (·.oneCell') = true) (hn : n < 1000000000) (hbase : B ≤ w0.heap.size)
    (hheap : wA.heap = (w0.alloc (.cells vs e)).heap) (hos : wA.os = w0.os) (htape : wA.tape = w0.tape) (hout : wA.output = w0.output)
    (h : ∀ v' w', Hid (w'.ownsRow B e k v' (n + 1) (xs ++ vs.toList)) → w0.grownBy w' v.ownBlock → Below B w0 w' → wpList P ops Q rest (a.put o.dst v') w') : wpList P ops Q (o :: rest) a wA := by
  subst hg
  obtain ⟨i, hi, hz, hs', hb⟩ := info_parts hinfo
  have hown' := hown.out
  have hsize : wA.heap.size = w0.heap.size + 1 := by rw [hheap]; exact Array.size_push _
  have hblock : ∀ j, j < w0.heap.size → wA.heap[j]? = w0.heap[j]? := fun j hj => by rw [hheap]; exact Below.heap_alloc w0 _ j hj
  have h4 : w0.grownBy wA v.ownBlock := ⟨hos, htape, hout, by omega, fun j hj _ => hblock j hj⟩
  refine wpList_append_own (w := wA) hgd s x t ho B e i z k bytes ht hi hz hs' hb hzs hsz v n xs hs (ownsRow_heap hheap (hown'.alloc _)) ⟨w0.heap.size, 0, none⟩ 1 c vs.toList hx (by simp [hvs]) ?_ (fun u hu => (Array.all_eq_true_iff_forall_mem.1 h1) u (by simpa using hu)) (by unfold maxLen; omega) ?_ (by omega) fun v' w' h2 h3 _ => h v' w' h2 ?_ ?_
  · intro j u hj
    have := cells_new w0 vs e j u hj
    rw [← this]; exact World.cell?_of_block (by rw [hheap])
  · have := Nat.mul_le_mul (show n + 1 ≤ 1000000000 by omega) hby
    omega
  · exact ⟨h3.os.trans h4.os, h3.tape.trans h4.tape, h3.output.trans h4.output, Nat.le_trans h4.size h3.size, fun j hj hne => (h3.block j (Nat.lt_of_lt_of_le hj h4.size) hne).trans (h4.block j hj hne)⟩
  · exact ((Below.refl B w0).grown h4 hbase (fun j hj => (hown'.lt j hj).1)).grown h3 (by omega) (fun j hj => (hown'.lt j hj).1)

theorem ownsRow_slice {w : World} {B : Nat} {e : TypeId} {k : Nat} {v : Value} {n : Nat} {xs : List Value} (h : w.ownsRow B e k v n xs) : ∃ A c, v = .slice A n c := by
  obtain ⟨_, ⟨rfl, rfl⟩ | ⟨g, cap, _, rfl, _⟩⟩ := h
  · exact ⟨_, _, rfl⟩
  · exact ⟨_, _, rfl⟩
end Go.Proofs.Ytpjfidmapnnbkaa

/- Rows of the office: the stock month by month, in the reference and in the program. -/
namespace Go.Proofs.Ytpjfidmapnnbkaa
open Go.RowKit

def stockGo : List Int → Int → List Row → List Int × Bool
  | acc, _, [] => (acc, true)
  | acc, now, r :: rest => if now + r.b - r.s < 0 then ([], false) else stockGo (acc ++ [now + r.b - r.s]) (now + r.b - r.s) rest
theorem stock_neg {l : List Row} {k : Nat} (h : k < l.length) (acc : List Int) (now : Int) (hn : now + l[k].b - l[k].s < 0) : stockGo acc now (l.drop k) = ([], false) := by
  rw [List.drop_eq_getElem_cons h, stockGo, if_pos hn]
theorem stock_pos {l : List Row} {k : Nat} (h : k < l.length) (acc : List Int) (now : Int) (hn : ¬ now + l[k].b - l[k].s < 0) : stockGo acc now (l.drop k) = stockGo (acc ++ [now + l[k].b - l[k].s]) (now + l[k].b - l[k].s) (l.drop (k + 1)) := by
  rw [List.drop_eq_getElem_cons h, stockGo, if_neg hn]
theorem stock_len : ∀ (l : List Row) (acc : List Int) (now : Int), (stockGo acc now l).1.length ≤ acc.length + l.length
  | [], acc, _ => by simp [stockGo]
  | r :: l, acc, now => by
    rw [stockGo]; split
    · simp
    · have := stock_len l (acc ++ [now + r.b - r.s]) (now + r.b - r.s)
      simp only [List.length_append, List.length_cons, List.length_nil] at this ⊢; omega
def stockBoth (l : List Row) (x : Int) : List Int × Bool := if goodRows l && inR x 0 1000000 then stockGo [] x l else ([], false)
def stockR (l : List Row) (x : Int) : List Int := (stockBoth l x).1
def stockOk (l : List Row) (x : Int) : Bool := (stockBoth l x).2
theorem stockR_len (l : List Row) (x : Int) (h : l.length ≤ 1048576) : (stockR l x).length ≤ 1048577 := by
  unfold stockR stockBoth; split
  · have := stock_len l [] x
    simp only [List.length_nil] at this; omega
  · simp
theorem stock_no {l : List Row} {x : Int} (h : (goodRows l && inR x 0 1000000) = false) : stockR l x = [] ∧ stockOk l x = false := by
  unfold stockR stockOk stockBoth; rw [h]; exact ⟨rfl, rfl⟩
theorem stock_yes {l : List Row} {x : Int} (h : (goodRows l && inR x 0 1000000) = true) : stockGo [] x (l.drop 0) = (stockR l x, stockOk l x) := by
  unfold stockR stockOk stockBoth; rw [h]; rfl
theorem infoInt : (Try.prog.info? 3).map (fun i => (i.zero, i.size, i.bytes)) = some (some (.int .i64 0), 1, 8) := by kernel_rfl

set_option maxHeartbeats 2000000 in
theorem specStock_any (A : Option Addr) (c : Nat) (l : List Row) (s : Int) (w : World) (_ : -9223372036854775808 ≤ s) (_ : s ≤ 9223372036854775807) (h : RowsR w w.heap.size A l) :
    Calls Try.prog 28 #[.slice A l.length c, .int .i64 s] w fun e w' => ∃ A' c', e = .returned (.tuple #[.slice A' (stockR l s).length c', .bool (stockOk l s)]) ∧ OwnS w' w.heap.size 3 1 A' (stockR l s).length (encIs (stockR l s)) ∧ Below w.heap.size w w' := by
  have hl := h.big
  cases hy : (goodRows l && inR s 0 1000000)
  · have HF := Lib.hid (stock_no hy)
    have hb0 := (Below.refl w.heap.size w).alloc (Nat.le_refl _) (.cells #[] 3)
    have hl0 := Lies.new w 3 #[]
    have hc := fun W => l31Good_any A c l W
    have hz : w.heap.size ≤ (w.alloc (.cells #[] 3)).heap.size := hb0.size
    have h1 : RowsR (w.alloc (.cells #[] 3)) (w.alloc (.cells #[] 3)).heap.size A l := h.up hb0 (Nat.le_refl _)
    cases hg : goodRows l
    · rw [hg] at hc
      clear hg hy
      go_enter Try.func28, Try.ntmps28
      go_wp2_with fail
      generalize w.alloc (.cells #[] 3) = W at hb0 hl0 h1 hz ⊢
      refine (hc W h1).mono ?_
      rintro e w1 ⟨rfl, hb1⟩
      go_wp2
      go_ret2
      rw [HF.out.1, HF.out.2]
      exact ⟨_, _, rfl, ⟨rfl, by simp, .inr ⟨_, [], rfl, Nat.le_refl _, by simpa using hl0.below hb1 hl0.lt⟩⟩, bthen hb0 hb1⟩
    · have hi : inR s 0 1000000 = false := by rw [hg] at hy; simpa using hy
      rw [hg] at hc
      clear hg hy
      go_enter Try.func28, Try.ntmps28
      go_wp2_with fail
      generalize w.alloc (.cells #[] 3) = W at hb0 hl0 h1 hz ⊢
      refine (hc W h1).mono ?_
      rintro e w1 ⟨rfl, hb1⟩
      go_wp2_with fail
      refine (l1In_any _ _ _ _).mono ?_
      rw [hi]
      rintro e w1 ⟨rfl, rfl⟩
      go_wp2
      go_ret2
      rw [HF.out.1, HF.out.2]
      exact ⟨_, _, rfl, ⟨rfl, by simp, .inr ⟨_, [], rfl, Nat.le_refl _, by simpa using hl0.below hb1 hl0.lt⟩⟩, bthen hb0 hb1⟩
  · have hg : goodRows l = true := by simp at hy; exact hy.1
    have hi : inR s 0 1000000 = true := by simp at hy; exact hy.2
    have hrd := h.row
    obtain ⟨hs0, hs1⟩ := inR_iff.1 hi
    have h12 := good_len hg
    have HA : Hid (∀ i (hi : i < l.length), l[i].ok = true) := fun i hi => good_at hg hi
    have HF := Lib.hid (stock_yes hy)
    have hb0 := (Below.refl w.heap.size w).alloc (Nat.le_refl _) (.cells #[] 3)
    have hl0 := Lies.new w 3 #[]
    have hc := fun W => l31Good_any A c l W
    have hz : w.heap.size ≤ (w.alloc (.cells #[] 3)).heap.size := hb0.size
    have h1 : RowsR (w.alloc (.cells #[] 3)) (w.alloc (.cells #[] 3)).heap.size A l := h.up hb0 (Nat.le_refl _)
    rw [hg] at hc
    have HI := Lib.hid hi; clear hi hg hy
    go_enter Try.func28, Try.ntmps28
    go_wp2_with fail
    generalize w.alloc (.cells #[] 3) = W at hb0 hl0 h1 hz ⊢
    refine (hc W h1).mono ?_
    rintro e w1 ⟨rfl, hb1⟩
    have hl1 := hl0.below hb1 hl0.lt
    have hk1 := bthen hb0 hb1
    clear hb0 hb1 hl0 hc h1 hz W
    go_wp2_with fail
    refine (l1In_any _ _ _ _).mono ?_
    rw [HI.out]
    rintro e w1 ⟨rfl, rfl⟩
    go_wp2
    go_loopw [6, 7, 8] (fun out now i wr => ∃ (k : Nat) (n : Int) (acc : List Int), k ≤ l.length ∧ i = .int .i64 k ∧ now = .int .i64 n ∧ (0 ≤ n ∧ n ≤ 1000000 + 9999 * (k : Int)) ∧ acc.length = k ∧ Hid (wr.ownsRow w.heap.size 3 1 out acc.length (encIs acc)) ∧ Below w.heap.size w wr ∧ Hid (stockGo acc n (l.drop k) = (stockR l s, stockOk l s))) (fun _ _ i _ => l.length - (intOf i).toNat)
    case atStart => exact ⟨0, s, [], Nat.zero_le _, rfl, rfl, by omega, rfl, ⟨by simp, .inr ⟨_, 0, _, rfl, Nat.le_refl _, hl1, by simp, by decide, rfl, rfl⟩⟩, hk1, HF⟩
    case round =>
      clear hl1 hk1
      obtain ⟨k, n, acc, hk, rfl, rfl, ⟨n1, n2⟩, hacc, HO, hbr, HR⟩ := hrel
      by_cases hlt : k < l.length
      · obtain ⟨b, off, rfl, hb, hcell⟩ := hrd (by omega)
        obtain ⟨c0, c1, c2, c3, c4⟩ := hcell k hlt
        obtain ⟨_, hxb, hxs, _, _⟩ := Row.bounds (HA.out k hlt)
        have hN := fun hn => stock_neg hlt acc n hn
        have hP := fun hn => stock_pos hlt acc n hn
        obtain ⟨x, hxe⟩ : ∃ x, x = l[k] := ⟨_, rfl⟩
        rw [← hxe] at c0 c1 c2 c3 c4 hxb hxs hN hP
        clear hxe hcell hrd c0 c3 c4
        obtain ⟨xb1, xb2⟩ := hxb
        obtain ⟨xs1, xs2⟩ := hxs
        obtain ⟨q, rfl⟩ : ∃ q : Since w.heap.size w, wr = q.val := ⟨⟨wr, hbr⟩, rfl⟩
        by_cases hneg : n + x.b - x.s < 0
        · have HE : Hid (stockR l s = [] ∧ stockOk l s = false) := by
            have h1 := HR.out; rw [hN hneg] at h1; injection h1 with e1 e2; exact ⟨e1.symm, e2.symm⟩
          clear hN hP
          go_wp2
          refine wp_region_since _ (by kernel_rfl) (by kernel_rfl) ?_
          repeat (any_goals (first | go_big_quiet_step ((fail)) | (refine wpQuiet_step (fun K hK => ?_); go_simp; split <;> (refine hK _ ?_; clear hK K))))
          all_goals (refine wpQuiet_nil ?_; rintro _ ⟨q1, rfl⟩)
          go_wp2
          go_ret2
          rw [HE.out.1, HE.out.2]
          exact ⟨_, _, rfl, ⟨rfl, by simp, .inr ⟨_, [], rfl, q1.size, by simpa using Lies.new q1.val 3 #[]⟩⟩, q1.below.alloc q1.size _⟩
        · have HE : Hid (stockGo (acc ++ [n + x.b - x.s]) (n + x.b - x.s) (l.drop (k + 1)) = (stockR l s, stockOk l s)) := by rw [← hP hneg]; exact HR.out
          clear hN hP HR
          go_wp2
          go_region
          go_wp2_with (at_builtin; refine wpList_push rfl _ _ 36 rfl 3 (.int .i64 0) 1 8 Try.underlying36 infoInt rfl (by decide) (by omega) w.heap.size _ _ _ rfl HO #[.int .i64 (n + x.b - x.s)] 1 _ rfl (by first | rfl | exact Array.size_push _) rfl (by simp [Value.oneCell']) (by omega) q.size rfl rfl rfl rfl ?_; intro v' w3 HO3 hg3 hb3)
          go_wp2
          go_roundw
          case rel => exact ⟨k + 1, n + x.b - x.s, acc ++ [n + x.b - x.s], by omega, by go_num, rfl, by omega, by simp [hacc], Lib.hid (by have := HO3.out; simpa using this), q.below.trans hb3, HE⟩
          case measure => simp [intOf]; omega
      · have HE : Hid (acc = stockR l s ∧ true = stockOk l s) := by
          have h1 := HR.out; rw [List.drop_eq_nil_of_le (by omega)] at h1; injection h1 with e1 e2; exact ⟨e1, e2⟩
        clear hrd
        obtain ⟨A', c', rfl⟩ := ownsRow_slice HO.out
        have HW := Lib.hid (OwnS.of HO.out)
        go_wp2
        go_ret2
        rw [← HE.out.1, ← HE.out.2]
        exact ⟨_, _, rfl, HW.out, hbr⟩

set_option maxHeartbeats 2000000 in
theorem implStock_any (A : Option Addr) (c : Nat) (l : List Row) (s : Int) (w : World) (_ : -9223372036854775808 ≤ s) (_ : s ≤ 9223372036854775807) (h : RowsR w w.heap.size A l) :
    Calls Try.prog 16 #[.slice A l.length c, .int .i64 s] w fun e w' => ∃ A' c', e = .returned (.tuple #[.slice A' (stockR l s).length c', .bool (stockOk l s)]) ∧ OwnS w' w.heap.size 3 1 A' (stockR l s).length (encIs (stockR l s)) ∧ Below w.heap.size w w' := by
  have hl := h.big
  cases hy : (goodRows l && inR s 0 1000000)
  · have HF := Lib.hid (stock_no hy)
    have hc := areOfficeRows_any A c l w h
    cases hg : goodRows l
    · rw [hg] at hc
      clear hg hy
      go_enter Try.func16, Try.ntmps16
      go_wp2_with fail
      refine hc.mono ?_
      rintro e w1 ⟨rfl, hb1⟩
      go_wp2
      go_ret2
      rw [HF.out.1, HF.out.2]
      exact ⟨_, _, rfl, ⟨rfl, by simp, .inl ⟨rfl, rfl⟩⟩, hb1⟩
    · have hi : inR s 0 1000000 = false := by rw [hg] at hy; simpa using hy
      rw [hg] at hc
      clear hg hy
      go_enter Try.func16, Try.ntmps16
      go_wp2_with fail
      refine hc.mono ?_
      rintro e w1 ⟨rfl, hb1⟩
      go_wp2_with fail
      refine (inRange_any _ _ _ _).mono ?_
      rw [hi]
      rintro e w1 ⟨rfl, rfl⟩
      go_wp2
      go_ret2
      rw [HF.out.1, HF.out.2]
      exact ⟨_, _, rfl, ⟨rfl, by simp, .inl ⟨rfl, rfl⟩⟩, hb1⟩
  · have hg : goodRows l = true := by simp at hy; exact hy.1
    have hi : inR s 0 1000000 = true := by simp at hy; exact hy.2
    have hrd := h.row
    obtain ⟨hs0, hs1⟩ := inR_iff.1 hi
    have h12 := good_len hg
    have HA : Hid (∀ i (hi : i < l.length), l[i].ok = true) := fun i hi => good_at hg hi
    have HF := Lib.hid (stock_yes hy)
    have hc := areOfficeRows_any A c l w h
    rw [hg] at hc
    have HI := Lib.hid hi; clear hi hg hy
    go_enter Try.func16, Try.ntmps16
    go_wp2_with fail
    refine hc.mono ?_
    rintro e w1 ⟨rfl, hk1⟩
    clear hc
    go_wp2_with fail
    refine (inRange_any _ _ _ _).mono ?_
    rw [HI.out]
    rintro e w1 ⟨rfl, rfl⟩
    go_wp2
    go_loopw [1, 6, 19] (fun now out i wr => ∃ (k : Nat) (n : Int) (acc : List Int), k ≤ l.length ∧ i = .int .i64 k ∧ now = .int .i64 n ∧ (0 ≤ n ∧ n ≤ 1000000 + 9999 * (k : Int)) ∧ acc.length = k ∧ Hid (wr.ownsRow w.heap.size 3 1 out acc.length (encIs acc)) ∧ Below w.heap.size w wr ∧ Hid (stockGo acc n (l.drop k) = (stockR l s, stockOk l s))) (fun _ _ i _ => l.length - (intOf i).toNat)
    case atStart => exact ⟨0, s, [], Nat.zero_le _, rfl, rfl, by simp; omega, rfl, World.ownsRow_nil _ _ _ _, hk1, HF⟩
    case round =>
      clear hk1
      obtain ⟨k, n, acc, hk, rfl, rfl, ⟨n1, n2⟩, hacc, HO, hbr, HR⟩ := hrel
      by_cases hlt : k < l.length
      · obtain ⟨b, off, rfl, hb, hcell⟩ := hrd (by omega)
        obtain ⟨c0, c1, c2, c3, c4⟩ := hcell k hlt
        obtain ⟨_, hxb, hxs, _, _⟩ := Row.bounds (HA.out k hlt)
        have hN := fun hn => stock_neg hlt acc n hn
        have hP := fun hn => stock_pos hlt acc n hn
        obtain ⟨x, hxe⟩ : ∃ x, x = l[k] := ⟨_, rfl⟩
        rw [← hxe] at c0 c1 c2 c3 c4 hxb hxs hN hP
        clear hxe hcell hrd
        obtain ⟨xb1, xb2⟩ := hxb
        obtain ⟨xs1, xs2⟩ := hxs
        have hsp : n + x.b - x.s = n + (x.b - x.s) := by omega
        rw [hsp] at hN hP
        have HSP := Lib.hid hsp; clear hsp
        obtain ⟨q, rfl⟩ : ∃ q : Since w.heap.size w, wr = q.val := ⟨⟨wr, hbr⟩, rfl⟩
        by_cases hneg : n + (x.b - x.s) < 0
        · have HE : Hid (stockR l s = [] ∧ stockOk l s = false) := by
            have h1 := HR.out; rw [hN hneg] at h1; injection h1 with e1 e2; exact ⟨e1.symm, e2.symm⟩
          clear hN hP
          have hbW := q.below.alloc q.size (.cells #[.int .i64 x.m, .int .i64 x.b, .int .i64 x.s, .int .i64 x.c, .int .i64 x.l] 42)
          go_wp2
          go_ret2
          rw [HE.out.1, HE.out.2]
          exact ⟨_, _, rfl, ⟨rfl, by simp, .inl ⟨rfl, rfl⟩⟩, hbW⟩
        · have HE : Hid (stockGo (acc ++ [n + (x.b - x.s)]) (n + (x.b - x.s)) (l.drop (k + 1)) = (stockR l s, stockOk l s)) := by rw [← hP (by omega)]; exact HR.out
          clear hN hP HR
          have hbW := q.below.alloc q.size (.cells #[.int .i64 x.m, .int .i64 x.b, .int .i64 x.s, .int .i64 x.c, .int .i64 x.l] 42)
          have HOW := Lib.hid (HO.out.alloc (.cells #[.int .i64 x.m, .int .i64 x.b, .int .i64 x.s, .int .i64 x.c, .int .i64 x.l] 42))
          have hsz := hbW.size
          clear HO
          go_wp2_with (at_builtin; refine wpList_push (w0 := q.val.alloc (.cells #[.int .i64 x.m, .int .i64 x.b, .int .i64 x.s, .int .i64 x.c, .int .i64 x.l] 42)) rfl _ _ 36 rfl 3 (.int .i64 0) 1 8 Try.underlying36 infoInt rfl (by decide) (by omega) w.heap.size _ _ _ rfl HOW #[.int .i64 (n + (x.b - x.s))] 1 _ rfl (by first | rfl | exact Array.size_push _) rfl (by simp [Value.oneCell']) (by omega) hsz rfl rfl rfl rfl ?_; intro v' w3 HO3 hg3 hb3)
          go_wp2
          go_roundw
          case rel => exact ⟨k + 1, n + (x.b - x.s), acc ++ [n + (x.b - x.s)], by omega, by go_num, rfl, by omega, by simp [hacc], Lib.hid (by have := HO3.out; simpa using this), hbW.trans hb3, HE⟩
          case measure => simp [intOf]; omega
      · have HE : Hid (acc = stockR l s ∧ true = stockOk l s) := by
          have h1 := HR.out; rw [List.drop_eq_nil_of_le (by omega)] at h1; injection h1 with e1 e2; exact ⟨e1, e2⟩
        clear hrd
        obtain ⟨A', c', rfl⟩ := ownsRow_slice HO.out
        have HW := Lib.hid (OwnS.of HO.out)
        go_wp2
        go_ret2
        rw [← HE.out.1, ← HE.out.2]
        exact ⟨_, _, rfl, HW.out, hbr⟩
end Go.Proofs.Ytpjfidmapnnbkaa

/- The reference draws a row of the office. (Printed by gen_drow.py) -/
namespace Go.Proofs.Ytpjfidmapnnbkaa
open Go.RowKit

theorem Lies.newB (w : World) (o : Obj) (t : TypeId) (cs : Array Value) : Lies ((w.alloc o).alloc (.cells cs t)) (w.heap.size + 1) t cs.toList := by
  have h := Lies.new (w.alloc o) t cs
  rwa [show (w.alloc o).heap.size = w.heap.size + 1 from Array.size_push _] at h

set_option maxHeartbeats 4000000 in
set_option linter.unusedVariables false in
theorem officeRow_any (g : Nat) (A : Option Addr) (bs : List UInt8) (cap m : Nat) (mo : Int) (w W : World) (hm : m ≤ 800000000) (E0 : Env w W g A bs cap m) :
    Calls Try.prog 54 #[.pointer (some ⟨g, 0, none⟩), .int .i64 mo] W fun e w' => ∃ r : Row, e = .returned r.val ∧ Env w w' g A bs cap (m + 12) ∧ W.grownBy w' (some g) := by
  have hgW := E0.lt
  have hwW := E0.gr.size
  go_enter Try.func54, Try.ntmps54
  go_wp2_with fail
  have E1 := (E0.alloc (.cells #[.int .i64 0, .int .i64 0, .int .i64 0, .int .i64 0, .int .i64 0] 42)).alloc (.cells #[.int .i64 0, .int .i64 5, .int .i64 30, .int .i64 9999] 3)
  have L4 := (Lies.new W 42 #[.int .i64 0, .int .i64 0, .int .i64 0, .int .i64 0, .int .i64 0]).alloc (.cells #[.int .i64 0, .int .i64 5, .int .i64 30, .int .i64 9999] 3)
  have Li := Lies.newB W (.cells #[.int .i64 0, .int .i64 0, .int .i64 0, .int .i64 0, .int .i64 0] 42) 3 #[.int .i64 0, .int .i64 5, .int .i64 30, .int .i64 9999]
  have G1 := grown_trans (World.grownBy_alloc W (.cells #[.int .i64 0, .int .i64 0, .int .i64 0, .int .i64 0, .int .i64 0] 42) (some g)) (World.grownBy_alloc _ (.cells #[.int .i64 0, .int .i64 5, .int .i64 30, .int .i64 9999] 3) (some g))
  generalize (W.alloc (.cells #[.int .i64 0, .int .i64 0, .int .i64 0, .int .i64 0, .int .i64 0] 42)).alloc (.cells #[.int .i64 0, .int .i64 5, .int .i64 30, .int .i64 9999] 3) = W1 at E1 L4 Li G1 ⊢
  have HG := Lib.hid G1; clear G1 E0
  obtain ⟨g4, hg4⟩ : ∃ g4, W.heap.size = g4 := ⟨_, rfl⟩
  have h4 : g < g4 ∧ w.heap.size ≤ g4 := by omega
  rw [hg4] at L4 Li
  rw [hg4]
  have HQ := Lib.hid hg4
  clear hg4 hgW hwW
  refine (among_lies E1 (g4 + 1) 4 [0, 5, 30, 9999] rfl Li (by omega) (by omega) (by omega) (by omega)).mono ?_
  rintro e W2 ⟨x1, rfl, E2, gr⟩
  replace L4 := L4.kept gr (by intro e; injection e; omega)
  replace HG := Lib.hid (grown_trans HG.out gr)
  clear gr E1 Li
  go_wp2_with fail
  have Li := Lies.new W2 3 #[.int .i64 0, .int .i64 5, .int .i64 20, .int .i64 9999]
  have Ei := E2.alloc (.cells #[.int .i64 0, .int .i64 5, .int .i64 20, .int .i64 9999] 3)
  replace L4 := L4.alloc (.cells #[.int .i64 0, .int .i64 5, .int .i64 20, .int .i64 9999] 3)
  replace HG := Lib.hid (grown_trans HG.out (World.grownBy_alloc W2 (.cells #[.int .i64 0, .int .i64 5, .int .i64 20, .int .i64 9999] 3) (some g)))
  have hl := E2.lt
  generalize W2.alloc (.cells #[.int .i64 0, .int .i64 5, .int .i64 20, .int .i64 9999] 3) = Wi at Li Ei HG L4 ⊢
  generalize W2.heap.size = gi at Li hl ⊢
  refine (among_lies Ei gi 4 [0, 5, 20, 9999] rfl Li (by omega) (by omega) (by omega) (by omega)).mono ?_
  rintro e W3 ⟨x2, rfl, E3, gr⟩
  replace L4 := L4.kept gr (by intro e; injection e; omega)
  replace HG := Lib.hid (grown_trans HG.out gr)
  clear gr Ei Li hl E2
  go_wp2_with fail
  have Li := Lies.new W3 3 #[.int .i64 0, .int .i64 5, .int .i64 (-5), .int .i64 40, .int .i64 (-130), .int .i64 1250, .int .i64 (-1000000), .int .i64 1000000]
  have Ei := E3.alloc (.cells #[.int .i64 0, .int .i64 5, .int .i64 (-5), .int .i64 40, .int .i64 (-130), .int .i64 1250, .int .i64 (-1000000), .int .i64 1000000] 3)
  replace L4 := L4.alloc (.cells #[.int .i64 0, .int .i64 5, .int .i64 (-5), .int .i64 40, .int .i64 (-130), .int .i64 1250, .int .i64 (-1000000), .int .i64 1000000] 3)
  replace HG := Lib.hid (grown_trans HG.out (World.grownBy_alloc W3 (.cells #[.int .i64 0, .int .i64 5, .int .i64 (-5), .int .i64 40, .int .i64 (-130), .int .i64 1250, .int .i64 (-1000000), .int .i64 1000000] 3) (some g)))
  have hl := E3.lt
  generalize W3.alloc (.cells #[.int .i64 0, .int .i64 5, .int .i64 (-5), .int .i64 40, .int .i64 (-130), .int .i64 1250, .int .i64 (-1000000), .int .i64 1000000] 3) = Wi at Li Ei HG L4 ⊢
  generalize W3.heap.size = gi at Li hl ⊢
  refine (among_lies Ei gi 8 [0, 5, -5, 40, -130, 1250, -1000000, 1000000] rfl Li (by omega) (by omega) (by omega) (by omega)).mono ?_
  rintro e W4 ⟨x3, rfl, E4, gr⟩
  replace L4 := L4.kept gr (by intro e; injection e; omega)
  replace HG := Lib.hid (grown_trans HG.out gr)
  clear gr Ei Li hl E3
  go_wp2_with fail
  have Li := Lies.new W4 3 #[.int .i64 0, .int .i64 0, .int .i64 3, .int .i64 999]
  have Ei := E4.alloc (.cells #[.int .i64 0, .int .i64 0, .int .i64 3, .int .i64 999] 3)
  replace L4 := L4.alloc (.cells #[.int .i64 0, .int .i64 0, .int .i64 3, .int .i64 999] 3)
  replace HG := Lib.hid (grown_trans HG.out (World.grownBy_alloc W4 (.cells #[.int .i64 0, .int .i64 0, .int .i64 3, .int .i64 999] 3) (some g)))
  have hl := E4.lt
  generalize W4.alloc (.cells #[.int .i64 0, .int .i64 0, .int .i64 3, .int .i64 999] 3) = Wi at Li Ei HG L4 ⊢
  generalize W4.heap.size = gi at Li hl ⊢
  refine (among_lies Ei gi 4 [0, 0, 3, 999] rfl Li (by omega) (by omega) (by omega) (by omega)).mono ?_
  rintro e W5 ⟨x4, rfl, E5, gr⟩
  replace L4 := L4.kept gr (by intro e; injection e; omega)
  replace HG := Lib.hid (grown_trans HG.out gr)
  clear gr Ei Li hl E4
  go_wp2_with fail
  have E6 := E5.alloc (.cells #[.int .i64 mo, .int .i64 x1, .int .i64 x2, .int .i64 x3, .int .i64 x4] 42)
  have L5 := Lies.new W5 42 #[.int .i64 mo, .int .i64 x1, .int .i64 x2, .int .i64 x3, .int .i64 x4]
  have h45 := L4.lt
  replace L4 := L4.alloc (.cells #[.int .i64 mo, .int .i64 x1, .int .i64 x2, .int .i64 x3, .int .i64 x4] 42)
  replace HG := Lib.hid (grown_trans HG.out (World.grownBy_alloc W5 (.cells #[.int .i64 mo, .int .i64 x1, .int .i64 x2, .int .i64 x3, .int .i64 x4] 42) (some g)))
  generalize W5.alloc (.cells #[.int .i64 mo, .int .i64 x1, .int .i64 x2, .int .i64 x3, .int .i64 x4] 42) = W6 at E6 L5 L4 HG ⊢
  generalize W5.heap.size = g5 at L5 h45 ⊢
  clear E5
  refine (pick_env E6 80 (by omega) (by omega)).mono ?_
  rintro e W7 ⟨x, rfl, hx, E7, gr⟩
  replace L4 := L4.kept gr (by intro e; injection e; omega)
  replace L5 := L5.kept gr (by intro e; injection e; omega)
  replace HG := Lib.hid (grown_trans HG.out gr)
  have hw5 : w.heap.size ≤ g5 := by omega
  clear gr E6
  have hc : x = 0 ∨ x = 1 ∨ x = 2 ∨ x = 3 ∨ x = 4 ∨ 5 ≤ x := by omega
  clear hx
  rcases hc with rfl | rfl | rfl | rfl | rfl | h5
  · go_wp2_with fail
    have Li := Lies.new W7 3 #[.int .i64 0, .int .i64 1200, .int .i64 1201]
    have Ei := E7.alloc (.cells #[.int .i64 0, .int .i64 1200, .int .i64 1201] 3)
    replace L4 := L4.alloc (.cells #[.int .i64 0, .int .i64 1200, .int .i64 1201] 3)
    replace L5 := L5.alloc (.cells #[.int .i64 0, .int .i64 1200, .int .i64 1201] 3)
    replace HG := Lib.hid (grown_trans HG.out (World.grownBy_alloc W7 (.cells #[.int .i64 0, .int .i64 1200, .int .i64 1201] 3) (some g)))
    have hl := E7.lt
    generalize W7.alloc (.cells #[.int .i64 0, .int .i64 1200, .int .i64 1201] 3) = Wi at Li Ei HG L4 L5 ⊢
    generalize W7.heap.size = gi at Li hl ⊢
    refine (among_lies Ei gi 3 [0, 1200, 1201] rfl Li (by omega) (by omega) (by omega) (by omega)).mono ?_
    rintro e W8 ⟨y, rfl, E8, gr⟩
    replace L4 := L4.kept gr (by intro e; injection e; omega)
    replace L5 := L5.kept gr (by intro e; injection e; omega)
    replace HG := Lib.hid (grown_trans HG.out gr)
    clear gr Ei Li hl E7
    have HE := Lib.hid E8
    clear E8
    have d0 := L5.cell 0
    have d1 := L5.cell 1
    have d2 := L5.cell 2
    have d3 := L5.cell 3
    have d4 := L5.cell 4
    simp only [List.getElem?_cons_zero, List.getElem?_cons_succ] at d0 d1 d2 d3 d4
    have e0 := L4.cell 0
    have e1 := L4.cell 1
    have e2 := L4.cell 2
    have e3 := L4.cell 3
    have e4 := L4.cell 4
    simp only [List.getElem?_cons_zero, List.getElem?_cons_succ] at e0 e1 e2 e3 e4
    have f0 := L4.frozen 0
    have f1 := L4.frozen 1
    have f2 := L4.frozen 2
    have f3 := L4.frozen 3
    have f4 := L4.frozen 4
    have p0 := L5.frozen 0
    have HL := Lib.hid (And.intro h4 (And.intro h45 hw5))
    clear h4 hw5
    repeat (first | go_values | go_skip | go_guarded | go_step | go_upon | simp only [])
    refine bodyPost_ret (v := (Row.mk y x1 x2 x3 x4).val) (by simp [results, Try.results54, go_sem, *]) rfl ⟨⟨y, x1, x2, x3, x4⟩, rfl, ?_, ?_⟩
    · exact ((HE.out.wrote (h := g5) (grown_set (World.grownBy.refl _ _)) HL.out.2.2 (by have := HL.out; omega)).wrote (h := g4) (grown_set (grown_set (grown_set (grown_set (grown_set (World.grownBy.refl _ _)))))) HL.out.1.2 HL.out.1.1).mono (by omega)
    · exact grown_own (grown_own HG.out (grown_set (g := g5) (World.grownBy.refl _ _)) (by have := HL.out; have := HQ.out; omega)) (grown_set (g := g4) (grown_set (grown_set (grown_set (grown_set (World.grownBy.refl _ _)))))) (by have := HQ.out; omega)
  · go_wp2_with fail
    have Li := Lies.new W7 3 #[.int .i64 (-1), .int .i64 10000]
    have Ei := E7.alloc (.cells #[.int .i64 (-1), .int .i64 10000] 3)
    replace L4 := L4.alloc (.cells #[.int .i64 (-1), .int .i64 10000] 3)
    replace L5 := L5.alloc (.cells #[.int .i64 (-1), .int .i64 10000] 3)
    replace HG := Lib.hid (grown_trans HG.out (World.grownBy_alloc W7 (.cells #[.int .i64 (-1), .int .i64 10000] 3) (some g)))
    have hl := E7.lt
    generalize W7.alloc (.cells #[.int .i64 (-1), .int .i64 10000] 3) = Wi at Li Ei HG L4 L5 ⊢
    generalize W7.heap.size = gi at Li hl ⊢
    refine (among_lies Ei gi 2 [-1, 10000] rfl Li (by omega) (by omega) (by omega) (by omega)).mono ?_
    rintro e W8 ⟨y, rfl, E8, gr⟩
    replace L4 := L4.kept gr (by intro e; injection e; omega)
    replace L5 := L5.kept gr (by intro e; injection e; omega)
    replace HG := Lib.hid (grown_trans HG.out gr)
    clear gr Ei Li hl E7
    have HE := Lib.hid E8
    clear E8
    have d0 := L5.cell 0
    have d1 := L5.cell 1
    have d2 := L5.cell 2
    have d3 := L5.cell 3
    have d4 := L5.cell 4
    simp only [List.getElem?_cons_zero, List.getElem?_cons_succ] at d0 d1 d2 d3 d4
    have e0 := L4.cell 0
    have e1 := L4.cell 1
    have e2 := L4.cell 2
    have e3 := L4.cell 3
    have e4 := L4.cell 4
    simp only [List.getElem?_cons_zero, List.getElem?_cons_succ] at e0 e1 e2 e3 e4
    have f0 := L4.frozen 0
    have f1 := L4.frozen 1
    have f2 := L4.frozen 2
    have f3 := L4.frozen 3
    have f4 := L4.frozen 4
    have p1 := L5.frozen 1
    have HL := Lib.hid (And.intro h4 (And.intro h45 hw5))
    clear h4 hw5
    repeat (first | go_values | go_skip | go_guarded | go_step | go_upon | simp only [])
    refine bodyPost_ret (v := (Row.mk mo y x2 x3 x4).val) (by simp [results, Try.results54, go_sem, *]) rfl ⟨⟨mo, y, x2, x3, x4⟩, rfl, ?_, ?_⟩
    · exact ((HE.out.wrote (h := g5) (grown_set (World.grownBy.refl _ _)) HL.out.2.2 (by have := HL.out; omega)).wrote (h := g4) (grown_set (grown_set (grown_set (grown_set (grown_set (World.grownBy.refl _ _)))))) HL.out.1.2 HL.out.1.1).mono (by omega)
    · exact grown_own (grown_own HG.out (grown_set (g := g5) (World.grownBy.refl _ _)) (by have := HL.out; have := HQ.out; omega)) (grown_set (g := g4) (grown_set (grown_set (grown_set (grown_set (World.grownBy.refl _ _)))))) (by have := HQ.out; omega)
  · go_wp2_with fail
    have Li := Lies.new W7 3 #[.int .i64 (-1), .int .i64 10000]
    have Ei := E7.alloc (.cells #[.int .i64 (-1), .int .i64 10000] 3)
    replace L4 := L4.alloc (.cells #[.int .i64 (-1), .int .i64 10000] 3)
    replace L5 := L5.alloc (.cells #[.int .i64 (-1), .int .i64 10000] 3)
    replace HG := Lib.hid (grown_trans HG.out (World.grownBy_alloc W7 (.cells #[.int .i64 (-1), .int .i64 10000] 3) (some g)))
    have hl := E7.lt
    generalize W7.alloc (.cells #[.int .i64 (-1), .int .i64 10000] 3) = Wi at Li Ei HG L4 L5 ⊢
    generalize W7.heap.size = gi at Li hl ⊢
    refine (among_lies Ei gi 2 [-1, 10000] rfl Li (by omega) (by omega) (by omega) (by omega)).mono ?_
    rintro e W8 ⟨y, rfl, E8, gr⟩
    replace L4 := L4.kept gr (by intro e; injection e; omega)
    replace L5 := L5.kept gr (by intro e; injection e; omega)
    replace HG := Lib.hid (grown_trans HG.out gr)
    clear gr Ei Li hl E7
    have HE := Lib.hid E8
    clear E8
    have d0 := L5.cell 0
    have d1 := L5.cell 1
    have d2 := L5.cell 2
    have d3 := L5.cell 3
    have d4 := L5.cell 4
    simp only [List.getElem?_cons_zero, List.getElem?_cons_succ] at d0 d1 d2 d3 d4
    have e0 := L4.cell 0
    have e1 := L4.cell 1
    have e2 := L4.cell 2
    have e3 := L4.cell 3
    have e4 := L4.cell 4
    simp only [List.getElem?_cons_zero, List.getElem?_cons_succ] at e0 e1 e2 e3 e4
    have f0 := L4.frozen 0
    have f1 := L4.frozen 1
    have f2 := L4.frozen 2
    have f3 := L4.frozen 3
    have f4 := L4.frozen 4
    have p2 := L5.frozen 2
    have HL := Lib.hid (And.intro h4 (And.intro h45 hw5))
    clear h4 hw5
    repeat (first | go_values | go_skip | go_guarded | go_step | go_upon | simp only [])
    refine bodyPost_ret (v := (Row.mk mo x1 y x3 x4).val) (by simp [results, Try.results54, go_sem, *]) rfl ⟨⟨mo, x1, y, x3, x4⟩, rfl, ?_, ?_⟩
    · exact ((HE.out.wrote (h := g5) (grown_set (World.grownBy.refl _ _)) HL.out.2.2 (by have := HL.out; omega)).wrote (h := g4) (grown_set (grown_set (grown_set (grown_set (grown_set (World.grownBy.refl _ _)))))) HL.out.1.2 HL.out.1.1).mono (by omega)
    · exact grown_own (grown_own HG.out (grown_set (g := g5) (World.grownBy.refl _ _)) (by have := HL.out; have := HQ.out; omega)) (grown_set (g := g4) (grown_set (grown_set (grown_set (grown_set (World.grownBy.refl _ _)))))) (by have := HQ.out; omega)
  · go_wp2_with fail
    have Li := Lies.new W7 3 #[.int .i64 (-1000001), .int .i64 1000001]
    have Ei := E7.alloc (.cells #[.int .i64 (-1000001), .int .i64 1000001] 3)
    replace L4 := L4.alloc (.cells #[.int .i64 (-1000001), .int .i64 1000001] 3)
    replace L5 := L5.alloc (.cells #[.int .i64 (-1000001), .int .i64 1000001] 3)
    replace HG := Lib.hid (grown_trans HG.out (World.grownBy_alloc W7 (.cells #[.int .i64 (-1000001), .int .i64 1000001] 3) (some g)))
    have hl := E7.lt
    generalize W7.alloc (.cells #[.int .i64 (-1000001), .int .i64 1000001] 3) = Wi at Li Ei HG L4 L5 ⊢
    generalize W7.heap.size = gi at Li hl ⊢
    refine (among_lies Ei gi 2 [-1000001, 1000001] rfl Li (by omega) (by omega) (by omega) (by omega)).mono ?_
    rintro e W8 ⟨y, rfl, E8, gr⟩
    replace L4 := L4.kept gr (by intro e; injection e; omega)
    replace L5 := L5.kept gr (by intro e; injection e; omega)
    replace HG := Lib.hid (grown_trans HG.out gr)
    clear gr Ei Li hl E7
    have HE := Lib.hid E8
    clear E8
    have d0 := L5.cell 0
    have d1 := L5.cell 1
    have d2 := L5.cell 2
    have d3 := L5.cell 3
    have d4 := L5.cell 4
    simp only [List.getElem?_cons_zero, List.getElem?_cons_succ] at d0 d1 d2 d3 d4
    have e0 := L4.cell 0
    have e1 := L4.cell 1
    have e2 := L4.cell 2
    have e3 := L4.cell 3
    have e4 := L4.cell 4
    simp only [List.getElem?_cons_zero, List.getElem?_cons_succ] at e0 e1 e2 e3 e4
    have f0 := L4.frozen 0
    have f1 := L4.frozen 1
    have f2 := L4.frozen 2
    have f3 := L4.frozen 3
    have f4 := L4.frozen 4
    have p3 := L5.frozen 3
    have HL := Lib.hid (And.intro h4 (And.intro h45 hw5))
    clear h4 hw5
    repeat (first | go_values | go_skip | go_guarded | go_step | go_upon | simp only [])
    refine bodyPost_ret (v := (Row.mk mo x1 x2 y x4).val) (by simp [results, Try.results54, go_sem, *]) rfl ⟨⟨mo, x1, x2, y, x4⟩, rfl, ?_, ?_⟩
    · exact ((HE.out.wrote (h := g5) (grown_set (World.grownBy.refl _ _)) HL.out.2.2 (by have := HL.out; omega)).wrote (h := g4) (grown_set (grown_set (grown_set (grown_set (grown_set (World.grownBy.refl _ _)))))) HL.out.1.2 HL.out.1.1).mono (by omega)
    · exact grown_own (grown_own HG.out (grown_set (g := g5) (World.grownBy.refl _ _)) (by have := HL.out; have := HQ.out; omega)) (grown_set (g := g4) (grown_set (grown_set (grown_set (grown_set (World.grownBy.refl _ _)))))) (by have := HQ.out; omega)
  · go_wp2_with fail
    have Li := Lies.new W7 3 #[.int .i64 (-1), .int .i64 1000]
    have Ei := E7.alloc (.cells #[.int .i64 (-1), .int .i64 1000] 3)
    replace L4 := L4.alloc (.cells #[.int .i64 (-1), .int .i64 1000] 3)
    replace L5 := L5.alloc (.cells #[.int .i64 (-1), .int .i64 1000] 3)
    replace HG := Lib.hid (grown_trans HG.out (World.grownBy_alloc W7 (.cells #[.int .i64 (-1), .int .i64 1000] 3) (some g)))
    have hl := E7.lt
    generalize W7.alloc (.cells #[.int .i64 (-1), .int .i64 1000] 3) = Wi at Li Ei HG L4 L5 ⊢
    generalize W7.heap.size = gi at Li hl ⊢
    refine (among_lies Ei gi 2 [-1, 1000] rfl Li (by omega) (by omega) (by omega) (by omega)).mono ?_
    rintro e W8 ⟨y, rfl, E8, gr⟩
    replace L4 := L4.kept gr (by intro e; injection e; omega)
    replace L5 := L5.kept gr (by intro e; injection e; omega)
    replace HG := Lib.hid (grown_trans HG.out gr)
    clear gr Ei Li hl E7
    have HE := Lib.hid E8
    clear E8
    have d0 := L5.cell 0
    have d1 := L5.cell 1
    have d2 := L5.cell 2
    have d3 := L5.cell 3
    have d4 := L5.cell 4
    simp only [List.getElem?_cons_zero, List.getElem?_cons_succ] at d0 d1 d2 d3 d4
    have e0 := L4.cell 0
    have e1 := L4.cell 1
    have e2 := L4.cell 2
    have e3 := L4.cell 3
    have e4 := L4.cell 4
    simp only [List.getElem?_cons_zero, List.getElem?_cons_succ] at e0 e1 e2 e3 e4
    have f0 := L4.frozen 0
    have f1 := L4.frozen 1
    have f2 := L4.frozen 2
    have f3 := L4.frozen 3
    have f4 := L4.frozen 4
    have p4 := L5.frozen 4
    have HL := Lib.hid (And.intro h4 (And.intro h45 hw5))
    clear h4 hw5
    repeat (first | go_values | go_skip | go_guarded | go_step | go_upon | simp only [])
    refine bodyPost_ret (v := (Row.mk mo x1 x2 x3 y).val) (by simp [results, Try.results54, go_sem, *]) rfl ⟨⟨mo, x1, x2, x3, y⟩, rfl, ?_, ?_⟩
    · exact ((HE.out.wrote (h := g5) (grown_set (World.grownBy.refl _ _)) HL.out.2.2 (by have := HL.out; omega)).wrote (h := g4) (grown_set (grown_set (grown_set (grown_set (grown_set (World.grownBy.refl _ _)))))) HL.out.1.2 HL.out.1.1).mono (by omega)
    · exact grown_own (grown_own HG.out (grown_set (g := g5) (World.grownBy.refl _ _)) (by have := HL.out; have := HQ.out; omega)) (grown_set (g := g4) (grown_set (grown_set (grown_set (grown_set (World.grownBy.refl _ _)))))) (by have := HQ.out; omega)
  · have b0 : ((x : Int) == 0) = false := by rw [beq_eq_false_iff_ne]; omega
    have b1 : ((x : Int) == 1) = false := by rw [beq_eq_false_iff_ne]; omega
    have b2 : ((x : Int) == 2) = false := by rw [beq_eq_false_iff_ne]; omega
    have b3 : ((x : Int) == 3) = false := by rw [beq_eq_false_iff_ne]; omega
    have b4 : ((x : Int) == 4) = false := by rw [beq_eq_false_iff_ne]; omega
    have E8 := E7.mono (show _ ≤ m + 2 + 2 + 2 + 2 + 2 + 2 by omega)
    clear h5
    have HE := Lib.hid E8
    clear E8
    have d0 := L5.cell 0
    have d1 := L5.cell 1
    have d2 := L5.cell 2
    have d3 := L5.cell 3
    have d4 := L5.cell 4
    simp only [List.getElem?_cons_zero, List.getElem?_cons_succ] at d0 d1 d2 d3 d4
    have e0 := L4.cell 0
    have e1 := L4.cell 1
    have e2 := L4.cell 2
    have e3 := L4.cell 3
    have e4 := L4.cell 4
    simp only [List.getElem?_cons_zero, List.getElem?_cons_succ] at e0 e1 e2 e3 e4
    have f0 := L4.frozen 0
    have f1 := L4.frozen 1
    have f2 := L4.frozen 2
    have f3 := L4.frozen 3
    have f4 := L4.frozen 4
    have p4 := L5.frozen 4
    have HL := Lib.hid (And.intro h4 (And.intro h45 hw5))
    clear h4 hw5
    repeat (first | go_values | go_skip | go_guarded | go_step | go_upon | simp only [])
    refine bodyPost_ret (v := (Row.mk mo x1 x2 x3 x4).val) (by simp [results, Try.results54, go_sem, *]) rfl ⟨⟨mo, x1, x2, x3, x4⟩, rfl, ?_, ?_⟩
    · exact (HE.out.wrote (h := g4) (grown_set (grown_set (grown_set (grown_set (grown_set (World.grownBy.refl _ _)))))) HL.out.1.2 HL.out.1.1).mono (by omega)
    · exact grown_own HG.out (grown_set (g := g4) (grown_set (grown_set (grown_set (grown_set (World.grownBy.refl _ _)))))) (by have := HQ.out; omega)
end Go.Proofs.Ytpjfidmapnnbkaa

/- Greatest common divisors and fractions. -/
namespace Go.Proofs.Ytpjfidmapnnbkaa
open Go.RowKit

set_option maxHeartbeats 1000000 in
theorem gcd_any (x y : Nat) (w : World) (hx : x ≤ 1000000000000) (hy : y ≤ 1000000000000) :
    Calls Try.prog 53 #[.int .i64 x, .int .i64 y] w fun e w' => e = .returned (.int .i64 (Nat.gcd x y)) ∧ Below w.heap.size w w' := by
  go_enter Try.func53, Try.ntmps53
  go_wp2
  go_loopw [0, 1] (fun a b wr => ∃ (p r : Nat), a = .int .i64 p ∧ b = .int .i64 r ∧ p ≤ 1000000000000 ∧ r ≤ 1000000000000 ∧ Below w.heap.size w wr ∧ Hid (Nat.gcd p r = Nat.gcd x y)) (fun _ b _ => (intOf b).toNat)
  case atStart => exact ⟨x, y, rfl, rfl, hx, hy, Below.refl _ _, rfl⟩
  case round =>
    obtain ⟨p, r, rfl, rfl, hp, hr, hbr, HR⟩ := hrel
    obtain ⟨q, rfl⟩ : ∃ q : Since w.heap.size w, wr = q.val := ⟨⟨wr, hbr⟩, rfl⟩
    by_cases h0 : r = 0
    · have hz : ((r : Int) != 0) = false := by simp [h0]
      have HE : Hid (p = Nat.gcd x y) := by have h1 := HR.out; rw [h0, Nat.gcd_zero_right] at h1; exact h1
      clear h0
      go_wp2
      go_ret
      exact ⟨by rw [← HE.out]; rfl, q.below⟩
    · have hz : ((r : Int) != 0) = true := by simp [h0]
      have hz' : ((r : Int) == 0) = false := by simp [h0]
      have hz2 : (r : Int) ≠ 0 := by omega
      have HE : Hid (Nat.gcd r (p % r) = Nat.gcd x y) := by have h1 := HR.out; rw [Nat.gcd_comm p r, Nat.gcd_rec, Nat.gcd_comm] at h1; exact h1
      have hlt : p % r < r := Nat.mod_lt _ (by omega)
      go_wp2
      refine wp_region_since _ (by kernel_rfl) (by kernel_rfl) ?_
      repeat (any_goals (first | go_big_quiet_step ((fail)) | (refine wpQuiet_step (fun K hK => ?_); go_simp; split <;> (refine hK _ ?_; clear hK K))))
      all_goals (refine wpQuiet_nil ?_; rintro _ ⟨q1, rfl⟩)
      go_wp2
      go_roundw
      case rel => exact ⟨r, p % r, rfl, by rw [Int.natCast_emod], hr, by omega, q1.below, HE⟩
      case measure => simp only [intOf, ← Int.natCast_emod]; simp; omega

/-- Both parts of a fraction. -/
theorem fraction_any (n : Int) (y : Nat) (w : World) (hn : -1000000000000 ≤ n) (hn' : n ≤ 1000000000000) (hy : y ≤ 1000000000000) (hy0 : 0 < y) :
    Calls Try.prog 41 #[.int .i64 n, .int .i64 y] w fun e w' => e = .returned (.tuple #[.int .i64 (n.tdiv (Nat.gcd n.natAbs y)), .int .i64 ((y : Int).tdiv (Nat.gcd n.natAbs y))]) ∧ Below w.heap.size w w' := by
  have hg : 0 < Nat.gcd n.natAbs y := Nat.gcd_pos_of_pos_right _ hy0
  have hgy : Nat.gcd n.natAbs y ≤ y := Nat.gcd_le_right _ hy0
  have HC : ∀ (m : Int) (hm : m = n.natAbs) (w : World), Calls Try.prog 53 #[.int .i64 m, .int .i64 y] w fun e w' => e = .returned (.int .i64 (Nat.gcd n.natAbs y)) ∧ Below w.heap.size w w' := fun m hm w => by subst hm; exact gcd_any n.natAbs y w (by omega) hy
  generalize Nat.gcd n.natAbs y = g at HC hg hgy ⊢
  have hb0 : 0 ≤ (y : Int) / (g : Int) := Int.ediv_nonneg (by omega) (by omega)
  have hb1' : (y : Int) / (g : Int) ≤ y := Int.ediv_le_self _ (by omega)
  have HT : Hid ((y : Int).tdiv g = (y : Int) / g) := Int.tdiv_eq_ediv_of_nonneg (by omega)
  have HN : Hid (0 ≤ n → n.tdiv g = n / g) := fun h => Int.tdiv_eq_ediv_of_nonneg h
  have hz : ((g : Int) == 0) = false := by rw [beq_eq_false_iff_ne]; omega
  have hz2 : (g : Int) ≠ 0 := by omega
  go_enter Try.func41, Try.ntmps41
  go_wp2_with fail
  all_goals
    refine (HC _ (by omega) _).mono ?_
    rintro e w1 ⟨rfl, hb1⟩
    obtain ⟨q, rfl⟩ : ∃ q : Since w.heap.size w, w1 = q.val := ⟨⟨w1, hb1⟩, rfl⟩
    go_wp2
    refine wp_region_since _ (by kernel_rfl) (by kernel_rfl) ?_
    repeat (any_goals (first | go_big_quiet_step ((fail)) | (refine wpQuiet_step (fun K hK => ?_); go_simp; split <;> (refine hK _ ?_; clear hK K))))
    all_goals (refine wpQuiet_nil ?_; rintro _ ⟨q1, rfl⟩)
    go_wp2
    go_ret2
    exact ⟨by rw [HT.out]; first | rfl | (rw [HN.out (by omega)]; rfl), q1.below⟩

set_option maxHeartbeats 1000000 in
theorem l2Reduce_any (n : Int) (y : Nat) (w : World) (hn : -1000000000000 ≤ n) (hn' : n ≤ 1000000000000) (hy : y ≤ 1000000000000) (hy0 : 0 < y) :
    Calls Try.prog 42 #[.int .i64 n, .int .i64 y] w fun e w' => e = .returned (.tuple #[.int .i64 (n.tdiv (Nat.gcd n.natAbs y)), .int .i64 ((y : Int).tdiv (Nat.gcd n.natAbs y))]) ∧ Below w.heap.size w w' := by
  have hg : 0 < Nat.gcd n.natAbs y := Nat.gcd_pos_of_pos_right _ hy0
  have hgy : Nat.gcd n.natAbs y ≤ y := Nat.gcd_le_right _ hy0
  have HM : Hid (max n (-n) = (n.natAbs : Int)) := by unfold Hid; omega
  have hx : n.natAbs ≤ 1000000000000 := by omega
  generalize hge : Nat.gcd n.natAbs y = g at hg hgy ⊢
  have hb0 : 0 ≤ (y : Int) / (g : Int) := Int.ediv_nonneg (by omega) (by omega)
  have hb1' : (y : Int) / (g : Int) ≤ y := Int.ediv_le_self _ (by omega)
  have HT : Hid ((y : Int).tdiv g = (y : Int) / g) := Int.tdiv_eq_ediv_of_nonneg (by omega)
  have HN : Hid (0 ≤ n → n.tdiv g = n / g) := fun h => Int.tdiv_eq_ediv_of_nonneg h
  have HG := Lib.hid hge; clear hge
  go_enter Try.func42, Try.ntmps42
  go_wp2_with fail
  refine (l1MostR_any _ _ _).mono ?_
  rw [HM.out]
  rintro e w1 ⟨rfl, rfl⟩
  go_wp2
  go_loopw [6, 7] (fun a b wr => ∃ (p r : Nat), a = .int .i64 p ∧ b = .int .i64 r ∧ p ≤ 1000000000000 ∧ r ≤ 1000000000000 ∧ Below w.heap.size w wr ∧ Hid (Nat.gcd p r = g)) (fun _ b _ => (intOf b).toNat)
  case atStart => exact ⟨n.natAbs, y, rfl, rfl, hx, hy, Below.refl _ _, HG⟩
  case round =>
    obtain ⟨p, r, rfl, rfl, hp, hr, hbr, HR⟩ := hrel
    obtain ⟨q, rfl⟩ : ∃ q : Since w.heap.size w, wr = q.val := ⟨⟨wr, hbr⟩, rfl⟩
    by_cases h0 : r = 0
    · have hz : ((r : Int) != 0) = false := by simp [h0]
      have HE : Hid (p = g) := by have h1 := HR.out; rw [h0, Nat.gcd_zero_right] at h1; exact h1
      have hz1 : ((p : Int) == 0) = false := by rw [beq_eq_false_iff_ne, HE.out]; omega
      have hz2 : (p : Int) ≠ 0 := by rw [HE.out]; omega
      have hp0 : 0 < p := by have := HE.out; omega
      have hb2 : 0 ≤ (y : Int) / (p : Int) := by rw [HE.out]; exact hb0
      have hb3 : (y : Int) / (p : Int) ≤ y := by rw [HE.out]; exact hb1'
      clear h0
      go_wp2
      refine wp_region_since _ (by kernel_rfl) (by kernel_rfl) ?_
      repeat (any_goals (first | go_big_quiet_step ((fail)) | (refine wpQuiet_step (fun K hK => ?_); go_simp; split <;> (refine hK _ ?_; clear hK K))))
      all_goals (refine wpQuiet_nil ?_; rintro _ ⟨q1, rfl⟩)
      go_wp2
      go_ret2
      exact ⟨by rw [HT.out, ← HE.out]; first | rfl | (rw [HE.out, HN.out (by omega), ← HE.out]; rfl), q1.below⟩
    · have hz : ((r : Int) != 0) = true := by simp [h0]
      have hz' : ((r : Int) == 0) = false := by simp [h0]
      have hz2 : (r : Int) ≠ 0 := by omega
      have HE : Hid (Nat.gcd r (p % r) = g) := by have h1 := HR.out; rw [Nat.gcd_comm p r, Nat.gcd_rec, Nat.gcd_comm] at h1; exact h1
      have hlt : p % r < r := Nat.mod_lt _ (by omega)
      go_wp2
      go_roundw
      case rel => exact ⟨r, p % r, rfl, by rw [Int.natCast_emod], hr, by omega, hbr, HE⟩
      case measure => simp only [intOf, ← Int.natCast_emod]; simp; omega
end Go.Proofs.Ytpjfidmapnnbkaa
