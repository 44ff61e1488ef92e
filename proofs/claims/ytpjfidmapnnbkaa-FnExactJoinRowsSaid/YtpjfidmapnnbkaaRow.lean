/- Rows of the office: the struct of five ints, its laws' helpers to, sz, eq; in-range tests; validity of one row. -/
import Derived.Test.YtpjfidmapnnbkaaProg
import Derived.Test.YtpjfidmapnnbkaaBase
namespace Go.Proofs.Ytpjfidmapnnbkaa
open Go.RowKit

def inR (n lo hi : Int) : Bool := decide (lo ≤ n) && decide (n ≤ hi)

theorem l1In_any (n lo hi : Int) (w : World) : Calls Try.prog 47 #[.int .i64 n, .int .i64 lo, .int .i64 hi] w fun e w' => e = .returned (.bool (inR n lo hi)) ∧ w = w' := by
  go_enter Try.func47, Try.ntmps47
  go_wp2
  all_goals (go_ret; exact ⟨by simp [inR, *]; try omega, rfl⟩)
theorem inRange_any (n lo hi : Int) (w : World) : Calls Try.prog 40 #[.int .i64 n, .int .i64 lo, .int .i64 hi] w fun e w' => e = .returned (.bool (inR n lo hi)) ∧ w = w' := by
  go_enter Try.func40, Try.ntmps40
  go_wp2
  all_goals (go_ret; exact ⟨by simp [inR, *]; try omega, rfl⟩)

structure Row where
  m : Int
  b : Int
  s : Int
  c : Int
  l : Int
  deriving DecidableEq, Inhabited
def Row.enc (r : Row) : List Value := [.int .i64 r.m, .int .i64 r.b, .int .i64 r.s, .int .i64 r.c, .int .i64 r.l]
abbrev Row.val (r : Row) : Value := .agg #[.int .i64 r.m, .int .i64 r.b, .int .i64 r.s, .int .i64 r.c, .int .i64 r.l]
theorem Row.enc_len (r : Row) : r.enc.length = 5 := rfl
def Row.ok (r : Row) : Bool := inR r.m 1 1200 && inR r.b 0 9999 && inR r.s 0 9999 && inR r.c (-1000000) 1000000 && inR r.l 0 999
theorem Row.of_ints_enc (ns : List Int) (h : ns.length = 5) : ∃ r : Row, ns.map (Value.int .i64) = r.enc := by
  match ns, h with
  | [m, b, s, c, l], _ => exact ⟨⟨m, b, s, c, l⟩, rfl⟩
theorem Row.of_ints (ns : List Int) (h : ns.length = 5) : ∃ r : Row, Value.agg (ns.map (Value.int .i64)).toArray = r.val := by
  match ns, h with
  | [m, b, s, c, l], _ => exact ⟨⟨m, b, s, c, l⟩, rfl⟩
/-- A row lies at a place, in every world since. -/
structure RowS (B : Nat) (w : World) (b o : Nat) (r : Row) : Prop where
  c0 : ∀ p : Since B w, p.val.cell? ⟨b, o, none⟩ = some (.int .i64 r.m)
  c1 : ∀ p : Since B w, p.val.cell? ⟨b, o + 1, none⟩ = some (.int .i64 r.b)
  c2 : ∀ p : Since B w, p.val.cell? ⟨b, o + 2, none⟩ = some (.int .i64 r.s)
  c3 : ∀ p : Since B w, p.val.cell? ⟨b, o + 3, none⟩ = some (.int .i64 r.c)
  c4 : ∀ p : Since B w, p.val.cell? ⟨b, o + 4, none⟩ = some (.int .i64 r.l)
theorem RowS.up {B B' : Nat} {w W : World} {b o : Nat} {r : Row} (h : RowS B w b o r) (hb : Below B w W) (hB : B ≤ B') : RowS B' W b o r :=
  ⟨fun p => h.c0 ⟨p.val, hb.trans (p.below.mono hB)⟩, fun p => h.c1 ⟨p.val, hb.trans (p.below.mono hB)⟩, fun p => h.c2 ⟨p.val, hb.trans (p.below.mono hB)⟩, fun p => h.c3 ⟨p.val, hb.trans (p.below.mono hB)⟩, fun p => h.c4 ⟨p.val, hb.trans (p.below.mono hB)⟩⟩
theorem RowS.of {W : World} {g : Nat} {t : TypeId} {r : Row} (h : Lies W g t r.enc) : RowS W.heap.size W g 0 r :=
  ⟨fun p => (p.cell h.lt).trans (h.cell 0), fun p => (p.cell h.lt).trans (h.cell 1), fun p => (p.cell h.lt).trans (h.cell 2), fun p => (p.cell h.lt).trans (h.cell 3), fun p => (p.cell h.lt).trans (h.cell 4)⟩
/-- A slice of rows. -/
abbrev RowsR (w : World) (B : Nat) (A : Option Addr) (l : List Row) : Prop := SlcR w B 5 A l.length (l.flatMap Row.enc)
theorem RowsR.row {w : World} {B : Nat} {A : Option Addr} {l : List Row} (h : RowsR w B A l) (hne : 0 < l.length) : ∃ b off, A = some ⟨b, off, none⟩ ∧ b < B ∧ ∀ i (hi : i < l.length), RowS B w b (off + i * 5) l[i] := by
  obtain ⟨b, off, e, hb, hc⟩ := h.at_ hne
  refine ⟨b, off, e, hb, fun i hi => ?_⟩
  have key : ∀ j, j < 5 → ∀ u, (l[i].enc)[j]? = some u → ∀ p : Since B w, p.val.cell? ⟨b, off + i * 5 + j, none⟩ = some u := fun j hj u hu p => by
    rw [p.cell hb, Nat.add_assoc]
    exact hc _ u (by rw [flat_at Row.enc 5 Row.enc_len l i hi j hj]; exact hu)
  exact ⟨key 0 (by omega) _ rfl, key 1 (by omega) _ rfl, key 2 (by omega) _ rfl, key 3 (by omega) _ rfl, key 4 (by omega) _ rfl⟩

theorem l31One_any (r : Row) (w : World) : Calls Try.prog 48 #[r.val] w fun e w' => e = .returned (.bool r.ok) ∧ Below w.heap.size w w' := by
  go_enter Try.func48, Try.ntmps48
  go_wp2_with (go_at_call 47; refine (l1In_any _ _ _ _).mono ?_; rintro e w' ⟨rfl, rfl⟩)
  all_goals (go_ret; exact ⟨by simp [Row.ok, *], (Below.refl _ _).alloc (Nat.le_refl _) _⟩)
theorem isOfficeRow_any (r : Row) (w : World) : Calls Try.prog 49 #[r.val] w fun e w' => e = .returned (.bool r.ok) ∧ Below w.heap.size w w' := by
  go_enter Try.func49, Try.ntmps49
  go_wp2_with (go_at_call 40; refine (inRange_any _ _ _ _).mono ?_; rintro e w' ⟨rfl, rfl⟩)
  all_goals (go_ret; exact ⟨by simp [Row.ok, *], (Below.refl _ _).alloc (Nat.le_refl _) _⟩)
theorem toRow_any (r : Row) (w : World) : Calls Try.prog 30 #[r.val] w fun e w' => e = .returned r.val ∧ Below w.heap.size w w' := by
  go_enter Try.func30, Try.ntmps30
  go_wp2
  refine bodyPost_ret (v := r.val) (by simp [results, Try.results30, go_sem]) rfl ⟨rfl, ?_⟩
  go_grown
theorem eqRow_any (r r' : Row) (w : World) : Calls Try.prog 37 #[r.val, r'.val] w fun e w' => e = .returned (.bool (decide (r = r'))) ∧ Below w.heap.size w w' := by
  obtain ⟨m, b, s, c, l⟩ := r
  obtain ⟨m', b', s', c', l'⟩ := r'
  go_enter Try.func37, Try.ntmps37
  go_wp2
  all_goals (go_ret; refine ⟨by simp_all, ?_⟩; go_grown)

def lessen (k : Int) (n : Nat) : Int := if (n : Int) ≤ k then k - n else -1
theorem szRows_any (A : Option Addr) (n c : Nat) (k : Int) (w : World) (hn : n ≤ 9223372036854775807) (_hk : 0 ≤ k) (_hk' : k ≤ 1048576) :
    Calls Try.prog 5 #[.slice A n c, .int .i64 k] w fun e w' => e = .returned (.int .i64 (lessen k n)) ∧ w = w' := by
  go_enter Try.func5, Try.ntmps5
  go_wp2
  all_goals (go_ret; refine ⟨?_, rfl⟩; unfold lessen; first | (rw [if_neg (by omega)]; rfl) | (rw [if_pos (by omega)]; rfl))

theorem infoRow : (Try.prog.info? 42).map (fun i => (i.zero, i.size, i.bytes)) = some (some (.agg #[.int .i64 0, .int .i64 0, .int .i64 0, .int .i64 0, .int .i64 0]), 5, 40) := by kernel_rfl

set_option maxHeartbeats 1000000 in
theorem toRows_any (A : Option Addr) (c : Nat) (l : List Row) (w : World) (h : RowsR w w.heap.size A l) (hn : l.length ≤ 1048576) :
    Calls Try.prog 7 #[.slice A l.length c] w fun e w' => ∃ g, e = .returned (.slice (some ⟨g, 0, none⟩) l.length l.length) ∧ w.heap.size ≤ g ∧ Lies w' g 42 (l.flatMap Row.enc) ∧ Below w.heap.size w w' := by
  have hmk := fun W => run_make_all (P := Try.prog) 24 42 _ 5 40 Try.underlying24 infoRow l.length (by omega) (by omega) W
  have hrd := h.row
  go_enter Try.func7, Try.ntmps7
  go_wp2
  go_loopw [4] (fun i wr => ∃ (k : Nat) (rest : List Value), k ≤ l.length ∧ i = .int .i64 k ∧ Below w.heap.size w wr ∧ Lies wr w.heap.size 42 ((l.take k).flatMap Row.enc ++ rest) ∧ rest.length = (l.length - k) * 5) (fun i _ => l.length - (intOf i).toNat)
  case atStart =>
    refine ⟨0, _, Nat.zero_le _, rfl, (Below.refl _ _).alloc (Nat.le_refl _) _, by simpa using Lies.new w _ _, by simp [size_madeCells]⟩
  case round =>
    obtain ⟨k, rest, hk, rfl, hbel, hl, hlen⟩ := hrel
    by_cases hlt : k < l.length
    · obtain ⟨b, off, rfl, hb, hcell⟩ := hrd (by omega)
      have HL := Lib.hid hl; clear hl
      have HN := Lib.hid hlen; clear hlen
      obtain ⟨x, hxe⟩ : ∃ x, x = l[k] := ⟨_, rfl⟩
      obtain ⟨c0, c1, c2, c3, c4⟩ := hcell k hlt
      obtain ⟨q, rfl⟩ : ∃ q : Since w.heap.size w, wr = q.val := ⟨⟨wr, hbel⟩, rfl⟩
      rw [← hxe] at c0 c1 c2 c3 c4
      have HX := Lib.hid hxe; clear hxe
      clear hcell hrd hbel
      go_wp2_with (first
        | (go_at_call 30; refine (toRow_any x _).mono ?_; rintro e w1 ⟨rfl, hb1⟩)
        | (with_reducible refine wpList_store_next (op := ⟨none, .store 42 (.tmp 21) (.tmp 20), _, _, _, _⟩) rfl _ _ _ rfl Row.enc 5 Row.enc_len l k hlt rest HN w.heap.size 42 x.enc.toArray ?c1 ?c2 ?c3 ?c4 ?c5 ?c6 ?_; rotate_right; intro w2 old2 hl2 hn2 hg2))
      case c1 => rfl
      case c2 => rfl
      case c3 => rw [HX.out]; rfl
      case c4 => kernel_rfl
      case c5 => simp [Row.enc, Value.oneCell']
      case c6 => exact HL.out.below hb1 HL.out.lt
      go_wp2
      go_roundw
      case rel => exact ⟨k + 1, old2, by omega, by go_num, (q.below.trans (hb1.mono q.size)).grown hg2 (Nat.le_trans q.size hb1.size) (by rintro _ ⟨⟩; exact Nat.le_refl _), hl2, hn2⟩
      case measure => simp [intOf]; omega
    · have hk' : k = l.length := by omega
      subst hk'
      go_wp2
      go_ret
      refine ⟨w.heap.size, rfl, Nat.le_refl _, ?_, hbel⟩
      have h0 : rest = [] := List.eq_nil_of_length_eq_zero (by omega)
      rw [h0, List.take_of_length_le (Nat.le_refl _), List.append_nil] at hl
      exact hl

end Go.Proofs.Ytpjfidmapnnbkaa
