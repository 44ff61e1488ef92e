/- Tr02: the texts Tray Outing OffP StepP OffTo OffSpec OffSpec2 OffSpec3, joined into one file. -/
import Derived.Test.YtdiojhjkcholiaaDoorTr01

set_option linter.unusedVariables false

/- Trays: a struct of two ints; its helpers. (Printed by gen_struct.py) -/
namespace Go.Proofs.YtdiojhjkcholiaaDoor
open Go.RowKit

structure Tray where
  k : Int
  c : Int
  deriving DecidableEq, Inhabited
def Tray.enc (r : Tray) : List Value := [.int .i64 r.k, .int .i64 r.c]
abbrev Tray.val (r : Tray) : Value := .agg #[.int .i64 r.k, .int .i64 r.c]
theorem Tray.enc_len (r : Tray) : r.enc.length = 2 := rfl
theorem Tray.of_ints_enc (ns : List Int) (h : ns.length = 2) : ∃ r : Tray, ns.map (Value.int .i64) = r.enc := by
  match ns, h with
  | [v0, v1], _ => exact ⟨⟨v0, v1⟩, rfl⟩
theorem Tray.of_ints (ns : List Int) (h : ns.length = 2) : ∃ r : Tray, Value.agg (ns.map (Value.int .i64)).toArray = r.val := by
  match ns, h with
  | [v0, v1], _ => exact ⟨⟨v0, v1⟩, rfl⟩
/-- It lies at a place, in every world since. -/
structure TrayS (B : Nat) (w : World) (b o : Nat) (r : Tray) : Prop where
  c0 : ∀ p : Since B w, p.val.cell? ⟨b, o, none⟩ = some (.int .i64 r.k)
  c1 : ∀ p : Since B w, p.val.cell? ⟨b, o + 1, none⟩ = some (.int .i64 r.c)
theorem TrayS.up {B B' : Nat} {w W : World} {b o : Nat} {r : Tray} (h : TrayS B w b o r) (hb : Below B w W) (hB : B ≤ B') : TrayS B' W b o r :=
  ⟨fun p => h.c0 ⟨p.val, hb.trans (p.below.mono hB)⟩, fun p => h.c1 ⟨p.val, hb.trans (p.below.mono hB)⟩⟩
theorem TrayS.of {W : World} {g : Nat} {t : TypeId} {r : Tray} (h : Lies W g t r.enc) : TrayS W.heap.size W g 0 r :=
  ⟨fun p => (p.cell h.lt).trans (h.cell 0), fun p => (p.cell h.lt).trans (h.cell 1)⟩
/-- A slice of them. -/
abbrev TraysR (w : World) (B : Nat) (A : Option Addr) (l : List Tray) : Prop := SlcR w B 2 A l.length (l.flatMap Tray.enc)
theorem TraysR.el {w : World} {B : Nat} {A : Option Addr} {l : List Tray} (h : TraysR w B A l) (hne : 0 < l.length) : ∃ b off, A = some ⟨b, off, none⟩ ∧ b < B ∧ ∀ i (hi : i < l.length), TrayS B w b (off + i * 2) l[i] := by
  obtain ⟨b, off, e, hb, hc⟩ := h.at_ hne
  refine ⟨b, off, e, hb, fun i hi => ?_⟩
  have key : ∀ j, j < 2 → ∀ u, (l[i].enc)[j]? = some u → ∀ p : Since B w, p.val.cell? ⟨b, off + i * 2 + j, none⟩ = some u := fun j hj u hu p => by
    rw [p.cell hb, Nat.add_assoc]
    exact hc _ u (by rw [flat_at Tray.enc 2 Tray.enc_len l i hi j hj]; exact hu)
  exact ⟨key 0 (by omega) _ rfl, key 1 (by omega) _ rfl⟩
theorem lies_trays {W : World} {g : Nat} {t : TypeId} {l : List Tray} (h : Lies W g t (l.flatMap Tray.enc)) (hn : l.length ≤ 9223372036854775807) : TraysR W W.heap.size (some ⟨g, 0, none⟩) l :=
  Lies.reads h (flat_len Tray.enc 2 Tray.enc_len l) hn
theorem infoTray : (Tryd.prog.info? 68).map (fun i => (i.zero, i.size, i.bytes)) = some (some (.agg #[.int .i64 0, .int .i64 0]), 2, 16) := by kernel_rfl

theorem toTray_any (r : Tray) (w : World) : Calls Tryd.prog 57 #[r.val] w fun e w' => e = .returned r.val ∧ Below w.heap.size w w' := by
  go_enter Tryd.func57, Tryd.ntmps57
  go_wp2
  refine bodyPost_ret (v := r.val) (by simp [results, Tryd.results57, go_sem]) rfl ⟨rfl, ?_⟩
  go_grown
theorem eqTray_any (r r' : Tray) (w : World) : Calls Tryd.prog 66 #[r.val, r'.val] w fun e w' => e = .returned (.bool (decide (r = r'))) ∧ Below w.heap.size w w' := by
  obtain ⟨v0, v1⟩ := r
  obtain ⟨u0, u1⟩ := r'
  go_enter Tryd.func66, Tryd.ntmps66
  go_wp2
  all_goals (go_ret; refine ⟨by simp_all, ?_⟩; go_grown)

theorem szTrays_any (A : Option Addr) (n c : Nat) (k : Int) (w : World) (hn : n ≤ 9223372036854775807) (_hk : 0 ≤ k) (_hk' : k ≤ 1048576) :
    Calls Tryd.prog 28 #[.slice A n c, .int .i64 k] w fun e w' => e = .returned (.int .i64 (lessen k n)) ∧ w = w' := by
  go_enter Tryd.func28, Tryd.ntmps28
  go_wp2
  all_goals (go_ret; refine ⟨?_, rfl⟩; unfold lessen; first | (rw [if_neg (by omega)]; rfl) | (rw [if_pos (by omega)]; rfl))

set_option maxHeartbeats 1000000 in
theorem toTrays_any (A : Option Addr) (c : Nat) (l : List Tray) (w : World) (h : TraysR w w.heap.size A l) (hn : l.length ≤ 1048576) :
    Calls Tryd.prog 33 #[.slice A l.length c] w fun e w' => ∃ g, e = .returned (.slice (some ⟨g, 0, none⟩) l.length l.length) ∧ w.heap.size ≤ g ∧ Lies w' g 68 (l.flatMap Tray.enc) ∧ Below w.heap.size w w' := by
  have hmk := fun W => run_make_all (P := Tryd.prog) 29 68 _ 2 16 Tryd.underlying29 infoTray l.length (by omega) (by omega) W
  have hrd := h.el
  go_enter Tryd.func33, Tryd.ntmps33
  go_wp2
  go_loopw [4] (fun i wr => ∃ (k : Nat) (rest : List Value), k ≤ l.length ∧ i = .int .i64 k ∧ Below w.heap.size w wr ∧ Lies wr w.heap.size 68 ((l.take k).flatMap Tray.enc ++ rest) ∧ rest.length = (l.length - k) * 2) (fun i _ => l.length - (intOf i).toNat)
  case atStart =>
    refine ⟨0, _, Nat.zero_le _, rfl, (Below.refl _ _).alloc (Nat.le_refl _) _, by simpa using Lies.new w _ _, by simp [size_madeCells]⟩
  case round =>
    obtain ⟨k, rest, hk, rfl, hbel, hl, hlen⟩ := hrel
    by_cases hlt : k < l.length
    · obtain ⟨b, off, rfl, hb, hcell⟩ := hrd (by omega)
      have HL := Lib.hid hl; clear hl
      have HN := Lib.hid hlen; clear hlen
      obtain ⟨x, hxe⟩ : ∃ x, x = l[k] := ⟨_, rfl⟩
      obtain ⟨c0, c1⟩ := hcell k hlt
      obtain ⟨q, rfl⟩ : ∃ q : Since w.heap.size w, wr = q.val := ⟨⟨wr, hbel⟩, rfl⟩
      rw [← hxe] at c0 c1
      have HX := Lib.hid hxe; clear hxe
      clear hcell hrd hbel
      go_wp2_with (first
        | (go_at_call 57; refine (toTray_any x _).mono ?_; rintro e w1 ⟨rfl, hb1⟩)
        | (with_reducible refine wpList_store_next (op := ⟨none, .store 68 (.tmp 21) (.tmp 20), _, _, _, _⟩) rfl _ _ _ rfl Tray.enc 2 Tray.enc_len l k hlt rest HN w.heap.size 68 x.enc.toArray ?c1 ?c2 ?c3 ?c4 ?c5 ?c6 ?_; rotate_right; intro w2 old2 hl2 hn2 hg2))
      case c1 => rfl
      case c2 => rfl
      case c3 => rw [HX.out]; rfl
      case c4 => kernel_rfl
      case c5 => simp [Tray.enc, Value.oneCell']
      case c6 => exact HL.out.below hb1 HL.out.lt
      go_wp2
      go_roundw
      case rel => exact ⟨k + 1, old2, by omega, by go_num, (q.below.trans (hb1.mono q.size)).grown hg2 (Nat.le_trans q.size hb1.size) (by rintro _ ⟨⟩; exact Nat.le_refl _), hl2, hn2⟩
      case measure => simp [intOf]; omega
    · have hk' : k = l.length := by omega
      subst hk'
      go_wp2
      go_ret
      refine ⟨w.heap.size, rfl, Nat.le_refl _, ?_, hbel⟩
      have h0 : rest = [] := List.eq_nil_of_length_eq_zero (by omega)
      rw [h0, List.take_of_length_le (Nat.le_refl _), List.append_nil] at hl
      exact hl

def sameTrays (a b : List Tray) : Bool := decide (a = b)
def sameTrayFrom : List Tray → List Tray → Bool
  | [], [] => true
  | x :: a, y :: b => decide (x = y) && sameTrayFrom a b
  | _, _ => false
theorem sameTrayFrom_eq : ∀ a b : List Tray, sameTrayFrom a b = sameTrays a b
  | [], [] => by simp [sameTrayFrom, sameTrays]
  | [], _ :: _ => by simp [sameTrayFrom, sameTrays]
  | _ :: _, [] => by simp [sameTrayFrom, sameTrays]
  | x :: a, y :: b => by simp [sameTrayFrom, sameTrays, sameTrayFrom_eq a b, Bool.decide_and]

set_option maxHeartbeats 1000000 in
theorem eqTrays_any (A B : Option Addr) (c d : Nat) (l m : List Tray) (w : World) (hA : TraysR w w.heap.size A l) (hB : TraysR w w.heap.size B m) :
    Calls Tryd.prog 38 #[.slice A l.length c, .slice B m.length d] w fun e w' => e = .returned (.bool (sameTrays l m)) ∧ Below w.heap.size w w' := by
  have hlA := hA.big
  have hlB := hB.big
  have hrA := hA.el
  have hrB := hB.el
  by_cases hne : l.length = m.length
  · have hF : Hid (sameTrayFrom l m = sameTrays l m) := sameTrayFrom_eq l m
    have hbn : ((l.length : Int) != (m.length : Int)) = false := by simp [hne]
    have HE := Lib.hid hne; clear hne
    go_enter Tryd.func38, Tryd.ntmps38
    go_wp2
    go_loopw [5] (fun i wr => ∃ k : Nat, k ≤ l.length ∧ i = .int .i64 k ∧ (∃ q : Since w.heap.size w, wr = q.val) ∧ Hid (sameTrayFrom (l.drop k) (m.drop k) = sameTrays l m)) (fun i _ => l.length - (intOf i).toNat)
    case atStart => exact ⟨0, Nat.zero_le _, rfl, ⟨Since.start _ _, rfl⟩, hF⟩
    case round =>
      obtain ⟨k, hk, rfl, ⟨q, rfl⟩, HR⟩ := hrel
      by_cases hlt : k < l.length
      · have hlt' : k < m.length := by have := HE.out; omega
        obtain ⟨b, off, rfl, hb, hcell⟩ := hrA (by omega)
        obtain ⟨b', off', rfl, hb', hcell'⟩ := hrB (by omega)
        obtain ⟨c0, c1⟩ := hcell k hlt
        obtain ⟨d0, d1⟩ := hcell' k hlt'
        obtain ⟨x, hxe⟩ : ∃ x, x = l[k] := ⟨_, rfl⟩
        obtain ⟨y, hye⟩ : ∃ x, x = m[k] := ⟨_, rfl⟩
        rw [← hxe] at c0 c1
        rw [← hye] at d0 d1
        have HX := Lib.hid hxe; clear hxe
        have HY := Lib.hid hye; clear hye
        clear hcell hcell' hrA hrB
        have hstep : Hid (sameTrayFrom (l.drop k) (m.drop k) = (decide (x = y) && sameTrayFrom (l.drop (k + 1)) (m.drop (k + 1)))) := by
          rw [List.drop_eq_getElem_cons hlt, List.drop_eq_getElem_cons hlt', HX.out, HY.out]; rfl
        obtain ⟨v, hv⟩ : ∃ v, decide (x = y) = v := ⟨_, rfl⟩
        have HV := Lib.hid hv; clear hv
        cases v
        all_goals
          go_wp2
          refine wp_region_since _ (by kernel_rfl) (by kernel_rfl) ?_
          repeat (any_goals (first | go_big_quiet_step ((go_at_call 66; refine calls_sinceB HV (Nat.le_refl _) (eqTray_any x y _))) | (refine wpQuiet_step (fun K hK => ?_); go_simp; split <;> (refine hK _ ?_; clear hK K))))
          all_goals (refine wpQuiet_nil ?_; rintro _ ⟨q1, rfl⟩)
          all_goals go_wp2
        · go_ret
          refine ⟨?_, q1.below⟩
          rw [← HR.out, hstep.out, HV.out]; rfl
        · go_roundw
          case rel => exact ⟨k + 1, by omega, by go_num, ⟨q1, rfl⟩, by have h1 := HR.out; rw [hstep.out, HV.out] at h1; exact h1⟩
          case measure => simp [intOf]; omega
      · have hk' : k = l.length := by omega
        go_wp2
        go_ret
        refine ⟨?_, q.below⟩
        rw [← HR.out, List.drop_eq_nil_of_le (by omega), List.drop_eq_nil_of_le (by have := HE.out; omega)]; rfl
  · have hbn : ((l.length : Int) != (m.length : Int)) = true := by rw [bne_iff_ne]; omega
    have hF : Hid (sameTrays l m = false) := by
      unfold sameTrays; rw [decide_eq_false_iff_not]; intro h; exact hne (by rw [h])
    go_enter Tryd.func38, Tryd.ntmps38
    go_wp2
    go_ret
    exact ⟨by rw [hF.out]; rfl, Below.refl _ _⟩

end Go.Proofs.YtdiojhjkcholiaaDoor

/- Outings: a struct of three ints; its helpers. (Printed by gen_struct.py) -/
namespace Go.Proofs.YtdiojhjkcholiaaDoor
open Go.RowKit

structure Outing where
  k : Int
  p : Int
  c : Int
  deriving DecidableEq, Inhabited
def Outing.enc (r : Outing) : List Value := [.int .i64 r.k, .int .i64 r.p, .int .i64 r.c]
abbrev Outing.val (r : Outing) : Value := .agg #[.int .i64 r.k, .int .i64 r.p, .int .i64 r.c]
theorem Outing.enc_len (r : Outing) : r.enc.length = 3 := rfl
theorem Outing.of_ints_enc (ns : List Int) (h : ns.length = 3) : ∃ r : Outing, ns.map (Value.int .i64) = r.enc := by
  match ns, h with
  | [v0, v1, v2], _ => exact ⟨⟨v0, v1, v2⟩, rfl⟩
theorem Outing.of_ints (ns : List Int) (h : ns.length = 3) : ∃ r : Outing, Value.agg (ns.map (Value.int .i64)).toArray = r.val := by
  match ns, h with
  | [v0, v1, v2], _ => exact ⟨⟨v0, v1, v2⟩, rfl⟩
/-- It lies at a place, in every world since. -/
structure OutingS (B : Nat) (w : World) (b o : Nat) (r : Outing) : Prop where
  c0 : ∀ p : Since B w, p.val.cell? ⟨b, o, none⟩ = some (.int .i64 r.k)
  c1 : ∀ p : Since B w, p.val.cell? ⟨b, o + 1, none⟩ = some (.int .i64 r.p)
  c2 : ∀ p : Since B w, p.val.cell? ⟨b, o + 2, none⟩ = some (.int .i64 r.c)
theorem OutingS.up {B B' : Nat} {w W : World} {b o : Nat} {r : Outing} (h : OutingS B w b o r) (hb : Below B w W) (hB : B ≤ B') : OutingS B' W b o r :=
  ⟨fun p => h.c0 ⟨p.val, hb.trans (p.below.mono hB)⟩, fun p => h.c1 ⟨p.val, hb.trans (p.below.mono hB)⟩, fun p => h.c2 ⟨p.val, hb.trans (p.below.mono hB)⟩⟩
theorem OutingS.of {W : World} {g : Nat} {t : TypeId} {r : Outing} (h : Lies W g t r.enc) : OutingS W.heap.size W g 0 r :=
  ⟨fun p => (p.cell h.lt).trans (h.cell 0), fun p => (p.cell h.lt).trans (h.cell 1), fun p => (p.cell h.lt).trans (h.cell 2)⟩
/-- A slice of them. -/
abbrev OutingsR (w : World) (B : Nat) (A : Option Addr) (l : List Outing) : Prop := SlcR w B 3 A l.length (l.flatMap Outing.enc)
theorem OutingsR.el {w : World} {B : Nat} {A : Option Addr} {l : List Outing} (h : OutingsR w B A l) (hne : 0 < l.length) : ∃ b off, A = some ⟨b, off, none⟩ ∧ b < B ∧ ∀ i (hi : i < l.length), OutingS B w b (off + i * 3) l[i] := by
  obtain ⟨b, off, e, hb, hc⟩ := h.at_ hne
  refine ⟨b, off, e, hb, fun i hi => ?_⟩
  have key : ∀ j, j < 3 → ∀ u, (l[i].enc)[j]? = some u → ∀ p : Since B w, p.val.cell? ⟨b, off + i * 3 + j, none⟩ = some u := fun j hj u hu p => by
    rw [p.cell hb, Nat.add_assoc]
    exact hc _ u (by rw [flat_at Outing.enc 3 Outing.enc_len l i hi j hj]; exact hu)
  exact ⟨key 0 (by omega) _ rfl, key 1 (by omega) _ rfl, key 2 (by omega) _ rfl⟩
theorem lies_outings {W : World} {g : Nat} {t : TypeId} {l : List Outing} (h : Lies W g t (l.flatMap Outing.enc)) (hn : l.length ≤ 9223372036854775807) : OutingsR W W.heap.size (some ⟨g, 0, none⟩) l :=
  Lies.reads h (flat_len Outing.enc 3 Outing.enc_len l) hn
theorem infoOuting : (Tryd.prog.info? 71).map (fun i => (i.zero, i.size, i.bytes)) = some (some (.agg #[.int .i64 0, .int .i64 0, .int .i64 0]), 3, 24) := by kernel_rfl

theorem toOuting_any (r : Outing) (w : World) : Calls Tryd.prog 58 #[r.val] w fun e w' => e = .returned r.val ∧ Below w.heap.size w w' := by
  go_enter Tryd.func58, Tryd.ntmps58
  go_wp2
  refine bodyPost_ret (v := r.val) (by simp [results, Tryd.results58, go_sem]) rfl ⟨rfl, ?_⟩
  go_grown
theorem eqOuting_any (r r' : Outing) (w : World) : Calls Tryd.prog 67 #[r.val, r'.val] w fun e w' => e = .returned (.bool (decide (r = r'))) ∧ Below w.heap.size w w' := by
  obtain ⟨v0, v1, v2⟩ := r
  obtain ⟨u0, u1, u2⟩ := r'
  go_enter Tryd.func67, Tryd.ntmps67
  go_wp2
  all_goals (go_ret; refine ⟨by simp_all, ?_⟩; go_grown)

theorem szOutings_any (A : Option Addr) (n c : Nat) (k : Int) (w : World) (hn : n ≤ 9223372036854775807) (_hk : 0 ≤ k) (_hk' : k ≤ 1048576) :
    Calls Tryd.prog 29 #[.slice A n c, .int .i64 k] w fun e w' => e = .returned (.int .i64 (lessen k n)) ∧ w = w' := by
  go_enter Tryd.func29, Tryd.ntmps29
  go_wp2
  all_goals (go_ret; refine ⟨?_, rfl⟩; unfold lessen; first | (rw [if_neg (by omega)]; rfl) | (rw [if_pos (by omega)]; rfl))

set_option maxHeartbeats 1000000 in
theorem toOutings_any (A : Option Addr) (c : Nat) (l : List Outing) (w : World) (h : OutingsR w w.heap.size A l) (hn : l.length ≤ 1048576) :
    Calls Tryd.prog 34 #[.slice A l.length c] w fun e w' => ∃ g, e = .returned (.slice (some ⟨g, 0, none⟩) l.length l.length) ∧ w.heap.size ≤ g ∧ Lies w' g 71 (l.flatMap Outing.enc) ∧ Below w.heap.size w w' := by
  have hmk := fun W => run_make_all (P := Tryd.prog) 30 71 _ 3 24 Tryd.underlying30 infoOuting l.length (by omega) (by omega) W
  have hrd := h.el
  go_enter Tryd.func34, Tryd.ntmps34
  go_wp2
  go_loopw [4] (fun i wr => ∃ (k : Nat) (rest : List Value), k ≤ l.length ∧ i = .int .i64 k ∧ Below w.heap.size w wr ∧ Lies wr w.heap.size 71 ((l.take k).flatMap Outing.enc ++ rest) ∧ rest.length = (l.length - k) * 3) (fun i _ => l.length - (intOf i).toNat)
  case atStart =>
    refine ⟨0, _, Nat.zero_le _, rfl, (Below.refl _ _).alloc (Nat.le_refl _) _, by simpa using Lies.new w _ _, by simp [size_madeCells]⟩
  case round =>
    obtain ⟨k, rest, hk, rfl, hbel, hl, hlen⟩ := hrel
    by_cases hlt : k < l.length
    · obtain ⟨b, off, rfl, hb, hcell⟩ := hrd (by omega)
      have HL := Lib.hid hl; clear hl
      have HN := Lib.hid hlen; clear hlen
      obtain ⟨x, hxe⟩ : ∃ x, x = l[k] := ⟨_, rfl⟩
      obtain ⟨c0, c1, c2⟩ := hcell k hlt
      obtain ⟨q, rfl⟩ : ∃ q : Since w.heap.size w, wr = q.val := ⟨⟨wr, hbel⟩, rfl⟩
      rw [← hxe] at c0 c1 c2
      have HX := Lib.hid hxe; clear hxe
      clear hcell hrd hbel
      go_wp2_with (first
        | (go_at_call 58; refine (toOuting_any x _).mono ?_; rintro e w1 ⟨rfl, hb1⟩)
        | (with_reducible refine wpList_store_next (op := ⟨none, .store 71 (.tmp 21) (.tmp 20), _, _, _, _⟩) rfl _ _ _ rfl Outing.enc 3 Outing.enc_len l k hlt rest HN w.heap.size 71 x.enc.toArray ?c1 ?c2 ?c3 ?c4 ?c5 ?c6 ?_; rotate_right; intro w2 old2 hl2 hn2 hg2))
      case c1 => rfl
      case c2 => rfl
      case c3 => rw [HX.out]; rfl
      case c4 => kernel_rfl
      case c5 => simp [Outing.enc, Value.oneCell']
      case c6 => exact HL.out.below hb1 HL.out.lt
      go_wp2
      go_roundw
      case rel => exact ⟨k + 1, old2, by omega, by go_num, (q.below.trans (hb1.mono q.size)).grown hg2 (Nat.le_trans q.size hb1.size) (by rintro _ ⟨⟩; exact Nat.le_refl _), hl2, hn2⟩
      case measure => simp [intOf]; omega
    · have hk' : k = l.length := by omega
      subst hk'
      go_wp2
      go_ret
      refine ⟨w.heap.size, rfl, Nat.le_refl _, ?_, hbel⟩
      have h0 : rest = [] := List.eq_nil_of_length_eq_zero (by omega)
      rw [h0, List.take_of_length_le (Nat.le_refl _), List.append_nil] at hl
      exact hl

def sameOutings (a b : List Outing) : Bool := decide (a = b)
def sameOutingFrom : List Outing → List Outing → Bool
  | [], [] => true
  | x :: a, y :: b => decide (x = y) && sameOutingFrom a b
  | _, _ => false
theorem sameOutingFrom_eq : ∀ a b : List Outing, sameOutingFrom a b = sameOutings a b
  | [], [] => by simp [sameOutingFrom, sameOutings]
  | [], _ :: _ => by simp [sameOutingFrom, sameOutings]
  | _ :: _, [] => by simp [sameOutingFrom, sameOutings]
  | x :: a, y :: b => by simp [sameOutingFrom, sameOutings, sameOutingFrom_eq a b, Bool.decide_and]

set_option maxHeartbeats 1000000 in
theorem eqOutings_any (A B : Option Addr) (c d : Nat) (l m : List Outing) (w : World) (hA : OutingsR w w.heap.size A l) (hB : OutingsR w w.heap.size B m) :
    Calls Tryd.prog 39 #[.slice A l.length c, .slice B m.length d] w fun e w' => e = .returned (.bool (sameOutings l m)) ∧ Below w.heap.size w w' := by
  have hlA := hA.big
  have hlB := hB.big
  have hrA := hA.el
  have hrB := hB.el
  by_cases hne : l.length = m.length
  · have hF : Hid (sameOutingFrom l m = sameOutings l m) := sameOutingFrom_eq l m
    have hbn : ((l.length : Int) != (m.length : Int)) = false := by simp [hne]
    have HE := Lib.hid hne; clear hne
    go_enter Tryd.func39, Tryd.ntmps39
    go_wp2
    go_loopw [5] (fun i wr => ∃ k : Nat, k ≤ l.length ∧ i = .int .i64 k ∧ (∃ q : Since w.heap.size w, wr = q.val) ∧ Hid (sameOutingFrom (l.drop k) (m.drop k) = sameOutings l m)) (fun i _ => l.length - (intOf i).toNat)
    case atStart => exact ⟨0, Nat.zero_le _, rfl, ⟨Since.start _ _, rfl⟩, hF⟩
    case round =>
      obtain ⟨k, hk, rfl, ⟨q, rfl⟩, HR⟩ := hrel
      by_cases hlt : k < l.length
      · have hlt' : k < m.length := by have := HE.out; omega
        obtain ⟨b, off, rfl, hb, hcell⟩ := hrA (by omega)
        obtain ⟨b', off', rfl, hb', hcell'⟩ := hrB (by omega)
        obtain ⟨c0, c1, c2⟩ := hcell k hlt
        obtain ⟨d0, d1, d2⟩ := hcell' k hlt'
        obtain ⟨x, hxe⟩ : ∃ x, x = l[k] := ⟨_, rfl⟩
        obtain ⟨y, hye⟩ : ∃ x, x = m[k] := ⟨_, rfl⟩
        rw [← hxe] at c0 c1 c2
        rw [← hye] at d0 d1 d2
        have HX := Lib.hid hxe; clear hxe
        have HY := Lib.hid hye; clear hye
        clear hcell hcell' hrA hrB
        have hstep : Hid (sameOutingFrom (l.drop k) (m.drop k) = (decide (x = y) && sameOutingFrom (l.drop (k + 1)) (m.drop (k + 1)))) := by
          rw [List.drop_eq_getElem_cons hlt, List.drop_eq_getElem_cons hlt', HX.out, HY.out]; rfl
        obtain ⟨v, hv⟩ : ∃ v, decide (x = y) = v := ⟨_, rfl⟩
        have HV := Lib.hid hv; clear hv
        cases v
        all_goals
          go_wp2
          refine wp_region_since _ (by kernel_rfl) (by kernel_rfl) ?_
          repeat (any_goals (first | go_big_quiet_step ((go_at_call 67; refine calls_sinceB HV (Nat.le_refl _) (eqOuting_any x y _))) | (refine wpQuiet_step (fun K hK => ?_); go_simp; split <;> (refine hK _ ?_; clear hK K))))
          all_goals (refine wpQuiet_nil ?_; rintro _ ⟨q1, rfl⟩)
          all_goals go_wp2
        · go_ret
          refine ⟨?_, q1.below⟩
          rw [← HR.out, hstep.out, HV.out]; rfl
        · go_roundw
          case rel => exact ⟨k + 1, by omega, by go_num, ⟨q1, rfl⟩, by have h1 := HR.out; rw [hstep.out, HV.out] at h1; exact h1⟩
          case measure => simp [intOf]; omega
      · have hk' : k = l.length := by omega
        go_wp2
        go_ret
        refine ⟨?_, q.below⟩
        rw [← HR.out, List.drop_eq_nil_of_le (by omega), List.drop_eq_nil_of_le (by have := HE.out; omega)]; rfl
  · have hbn : ((l.length : Int) != (m.length : Int)) = true := by rw [bne_iff_ne]; omega
    have hF : Hid (sameOutings l m = false) := by
      unfold sameOutings; rw [decide_eq_false_iff_not]; intro h; exact hne (by rw [h])
    go_enter Tryd.func39, Tryd.ntmps39
    go_wp2
    go_ret
    exact ⟨by rw [hF.out]; rfl, Below.refl _ _⟩

end Go.Proofs.YtdiojhjkcholiaaDoor

/- Offices: what they hold, when they are valid, sums (no program's function in sight). -/
namespace Go.Proofs.YtdiojhjkcholiaaDoor
open Go.RowKit

structure Off where
  TA : Option Addr
  t : List Tray
  tc : Nat
  OA : Option Addr
  o : List Outing
  oc : Nat
  got : Int
  sold : Int
  missed : Int
def Off.enc (x : Off) : List Value := [.slice x.TA x.t.length x.tc, .slice x.OA x.o.length x.oc, .int .i64 x.got, .int .i64 x.sold, .int .i64 x.missed]
abbrev Off.val (x : Off) : Value := .agg #[.slice x.TA x.t.length x.tc, .slice x.OA x.o.length x.oc, .int .i64 x.got, .int .i64 x.sold, .int .i64 x.missed]
theorem Off.enc_len (x : Off) : x.enc.length = 5 := rfl
/-- Its slices read. -/
structure OffR (w : World) (B : Nat) (x : Off) : Prop where
  ts : TraysR w B x.TA x.t
  os : OutingsR w B x.OA x.o
section
variable {w w' : World} {B : Nat} {x : Off}
theorem OffR.below (h : OffR w B x) (hb : Below B w w') : OffR w' B x := ⟨SlcR.below h.ts hb, SlcR.below h.os hb⟩
theorem OffR.mono {B' : Nat} (h : OffR w B x) (hB : B ≤ B') : OffR w B' x := ⟨SlcR.mono h.ts hB, SlcR.mono h.os hB⟩
theorem OffR.up (h : OffR w B x) (hb : Below B w w') (hB : B ≤ w.heap.size) : OffR w' w'.heap.size x := ⟨SlcR.up h.ts hb hB, SlcR.up h.os hb hB⟩
theorem OffR.then (h : OffR w w.heap.size x) (hb : Below w.heap.size w w') : OffR w' w'.heap.size x := h.up hb (Nat.le_refl _)
end

def Tray.ok (r : Tray) : Bool := inR r.k 1 99 && inR r.c 0 9999
theorem Tray.bounds {r : Tray} (h : r.ok = true) : (1 ≤ r.k ∧ r.k ≤ 99) ∧ 0 ≤ r.c ∧ r.c ≤ 9999 := by
  unfold Tray.ok at h; rw [Bool.and_eq_true, inR_iff, inR_iff] at h; exact h
/-- Trays from place n on, behind one of the kind p. -/
def traysFrom : Nat → Int → List Tray → Bool
  | _, _, [] => true
  | n, p, r :: l => r.ok && (decide (n = 0) || decide (p < r.k)) && traysFrom (n + 1) r.k l
def traysOk (l : List Tray) : Bool := traysFrom 0 0 l
theorem traysFrom_all : ∀ (l : List Tray) (n : Nat) (p : Int), traysFrom n p l = true → ∀ i (h : i < l.length), l[i].ok = true
  | r :: l, n, p, hg, i, hi => by
    simp only [traysFrom, Bool.and_eq_true] at hg
    cases i with
    | zero => exact hg.1.1
    | succ i => exact traysFrom_all l (n + 1) r.k hg.2 i (by simpa using hi)

/-- Whether there is a tray of a kind. -/
def hasTray (ts : List Tray) (k : Int) : Bool := ts.any fun t => decide (t.k = k)
def trayIx (ts : List Tray) (k : Int) : Int := idxFrom (fun t : Tray => decide (t.k = k)) 0 ts
theorem trayIx_has (ts : List Tray) (k : Int) : decide (0 ≤ trayIx ts k) = hasTray ts k := idxFrom_any _ ts 0
def Outing.ok (ts : List Tray) (r : Outing) : Bool := hasTray ts r.k && inR r.p 1 999 && inR r.c 1 9999
theorem Outing.bounds {ts : List Tray} {r : Outing} (h : r.ok ts = true) : hasTray ts r.k = true ∧ (1 ≤ r.p ∧ r.p ≤ 999) ∧ 1 ≤ r.c ∧ r.c ≤ 9999 := by
  unfold Outing.ok at h; rw [Bool.and_eq_true, Bool.and_eq_true, inR_iff, inR_iff] at h; exact ⟨h.1.1, h.1.2, h.2⟩
/-- One outing comes before another one. -/
def before (a b : Outing) : Bool := decide (a.k < b.k) || decide (a.k = b.k) && decide (a.p < b.p)
/-- Outings, behind the one p if there is one. -/
def outsFrom (ts : List Tray) : Option Outing → List Outing → Bool
  | _, [] => true
  | p, r :: l => r.ok ts && (match p with | none => true | some q => before q r) && outsFrom ts (some r) l
def outsOk (ts : List Tray) (l : List Outing) : Bool := outsFrom ts none l
theorem outsFrom_all (ts : List Tray) : ∀ (l : List Outing) (p : Option Outing), outsFrom ts p l = true → ∀ i (h : i < l.length), l[i].ok ts = true
  | r :: l, p, hg, i, hi => by
    simp only [outsFrom, Bool.and_eq_true] at hg
    cases i with
    | zero => exact hg.1.1
    | succ i => exact outsFrom_all ts l (some r) hg.2 i (by simpa using hi)
theorem hasTray_bounds {ts : List Tray} {k : Int} (hall : ∀ i (h : i < ts.length), ts[i].ok = true) (h : hasTray ts k = true) : 1 ≤ k ∧ k ≤ 99 := by
  unfold hasTray at h
  rw [List.any_eq_true] at h
  obtain ⟨t, ht, hk⟩ := h
  obtain ⟨i, hi, rfl⟩ := List.getElem_of_mem ht
  have := (Tray.bounds (hall i hi)).1
  have e := of_decide_eq_true hk
  omega
/-- The reference's key puts valid outings in the same order. -/
theorem before_key {a b : Outing} (ha : 1 ≤ a.p ∧ a.p ≤ 999) (hb : 1 ≤ b.p ∧ b.p ≤ 999) : before a b = decide (1000 * a.k + a.p < 1000 * b.k + b.p) := by
  unfold before
  by_cases h1 : a.k < b.k
  · rw [decide_eq_true h1, Bool.true_or]; exact (decide_eq_true (by omega)).symm
  · rw [decide_eq_false h1, Bool.false_or]
    by_cases h2 : a.k = b.k
    · rw [decide_eq_true h2, Bool.true_and]
      by_cases h3 : a.p < b.p
      · rw [decide_eq_true h3]; exact (decide_eq_true (by omega)).symm
      · rw [decide_eq_false h3]; exact (decide_eq_false (by omega)).symm
    · rw [decide_eq_false h2, Bool.false_and]; exact (decide_eq_false (by omega)).symm

def inFrom : Int → List Tray → Int
  | s, [] => s
  | s, r :: l => inFrom (s + r.c) l
def outFrom (f : Outing → Bool) : Int → List Outing → Int
  | s, [] => s
  | s, r :: l => outFrom f (if f r then s + r.c else s) l
def inSum (l : List Tray) : Int := inFrom 0 l
def outSum (f : Outing → Bool) (l : List Outing) : Int := outFrom f 0 l
abbrev every : Outing → Bool := fun _ => true
theorem in_step {l : List Tray} {k : Nat} (h : k < l.length) (s : Int) : inFrom s (l.drop k) = inFrom (s + l[k].c) (l.drop (k + 1)) := by
  rw [List.drop_eq_getElem_cons h]; rfl
theorem out_step {f : Outing → Bool} {l : List Outing} {k : Nat} (h : k < l.length) (s : Int) : outFrom f s (l.drop k) = outFrom f (if f l[k] then s + l[k].c else s) (l.drop (k + 1)) := by
  rw [List.drop_eq_getElem_cons h]; rfl
theorem inFrom_bd : ∀ (l : List Tray) (s : Int), (∀ i (h : i < l.length), l[i].ok = true) → s ≤ inFrom s l ∧ inFrom s l ≤ s + 9999 * l.length
  | [], s, _ => by simp [inFrom]
  | r :: l, s, h => by
    have hr := (Tray.bounds (h 0 (by simp))).2
    simp only [List.getElem_cons_zero] at hr
    have := inFrom_bd l (s + r.c) (fun i hi => by have := h (i + 1) (by simpa using hi); simpa using this)
    simp only [inFrom, List.length_cons]
    omega
theorem outFrom_bd (f : Outing → Bool) (ts : List Tray) : ∀ (l : List Outing) (s : Int), (∀ i (h : i < l.length), l[i].ok ts = true) → s ≤ outFrom f s l ∧ outFrom f s l ≤ s + 9999 * l.length
  | [], s, _ => by simp [outFrom]
  | r :: l, s, h => by
    have hr := (Outing.bounds (h 0 (by simp))).2.2
    simp only [List.getElem_cons_zero] at hr
    have := outFrom_bd f ts l (if f r then s + r.c else s) (fun i hi => by have := h (i + 1) (by simpa using hi); simpa using this)
    simp only [outFrom, List.length_cons]
    cases hf : f r <;> simp only [hf, if_true, if_false, Bool.false_eq_true] at this ⊢ <;> omega

def sizesOk (x : Off) : Bool := decide (x.t.length ≤ 8) && decide (x.o.length ≤ 8)
def numsOk (x : Off) : Bool := inR x.got 0 99999 && inR x.sold 0 99999 && inR x.missed 0 99999
def sumOk (x : Off) : Bool := decide (x.got = inSum x.t + outSum every x.o + x.sold + x.missed)
def goodOff (x : Off) : Bool := sizesOk x && numsOk x && traysOk x.t && outsOk x.t x.o && sumOk x
structure Good (x : Off) : Prop where
  tl : x.t.length ≤ 8
  ol : x.o.length ≤ 8
  g : 0 ≤ x.got ∧ x.got ≤ 99999
  s : 0 ≤ x.sold ∧ x.sold ≤ 99999
  m : 0 ≤ x.missed ∧ x.missed ≤ 99999
  ts : traysOk x.t = true
  os : outsOk x.t x.o = true
  sum : x.got = inSum x.t + outSum every x.o + x.sold + x.missed
theorem good_iff {x : Off} : goodOff x = true ↔ Good x := by
  unfold goodOff sizesOk numsOk sumOk
  simp only [Bool.and_eq_true, inR_iff, decide_eq_true_eq]
  constructor
  · rintro ⟨⟨⟨⟨⟨h1, h2⟩, ⟨h3, h4⟩, h5⟩, h6⟩, h7⟩, h8⟩
    exact ⟨h1, h2, h3, h4, h5, h6, h7, h8⟩
  · rintro ⟨h1, h2, h3, h4, h5, h6, h7, h8⟩
    exact ⟨⟨⟨⟨⟨h1, h2⟩, ⟨h3, h4⟩, h5⟩, h6⟩, h7⟩, h8⟩
theorem Good.tall {x : Off} (h : Good x) : ∀ i (hi : i < x.t.length), x.t[i].ok = true := traysFrom_all _ _ _ h.ts
theorem Good.oall {x : Off} (h : Good x) : ∀ i (hi : i < x.o.length), x.o[i].ok x.t = true := outsFrom_all _ _ _ h.os
end Go.Proofs.YtdiojhjkcholiaaDoor

/- Steps of an office: the plain law (no program's function in sight). -/
namespace Go.Proofs.YtdiojhjkcholiaaDoor
open Go.RowKit

/-- What an office holds, its memory aside. -/
structure Oc where
  t : List Tray
  o : List Outing
  got : Int
  sold : Int
  missed : Int
  deriving DecidableEq, Inhabited
def Off.c (x : Off) : Oc := ⟨x.t, x.o, x.got, x.sold, x.missed⟩
def Oc.at (y : Oc) (TA : Option Addr) (tc : Nat) (OA : Option Addr) (oc : Nat) : Off := ⟨TA, y.t, tc, OA, y.o, oc, y.got, y.sold, y.missed⟩
def Oc.good (y : Oc) : Bool := goodOff (y.at none 0 none 0)
theorem Oc.good_at (y : Oc) (TA : Option Addr) (tc : Nat) (OA : Option Addr) (oc : Nat) : goodOff (y.at TA tc OA oc) = y.good := rfl
theorem Off.good_c (x : Off) : x.c.good = goodOff x := rfl

structure Stp where
  kind : Int
  stamp : Int
  person : Int
  value : Int
  deriving DecidableEq, Inhabited
def Stp.enc (s : Stp) : List Value := [.int .i64 s.kind, .int .i64 s.stamp, .int .i64 s.person, .int .i64 s.value]
abbrev Stp.val (s : Stp) : Value := .agg #[.int .i64 s.kind, .int .i64 s.stamp, .int .i64 s.person, .int .i64 s.value]
theorem Stp.enc_len (s : Stp) : s.enc.length = 4 := rfl

/-- The reference's test of a step. -/
def Stp.okS (s : Stp) : Bool :=
  (if s.kind = 1 then decide (s.person = 0) && inR s.value 1 9999
   else if s.kind = 2 ∨ s.kind = 3 then inR s.person 1 999 && inR s.value 1 9999
   else if s.kind = 4 then (inR s.person 1 999 || decide (s.person = 0)) && inR s.value 1 9999
   else if s.kind = 5 then inR s.person 1 999 && decide (s.value = 0)
   else if s.kind = 6 then inR s.person 1 999 && inR s.value 1 999
   else false) && inR s.stamp 1 99
/-- The program's test of a step. -/
def Stp.ok (s : Stp) : Bool :=
  inR s.stamp 1 99 &&
  (if s.kind = 1 then decide (s.person = 0) && inR s.value 1 9999
   else if s.kind = 2 ∨ s.kind = 3 then inR s.person 1 999 && inR s.value 1 9999
   else if s.kind = 4 then inR s.person 0 999 && inR s.value 1 9999
   else if s.kind = 5 then inR s.person 1 999 && decide (s.value = 0)
   else if s.kind = 6 then inR s.person 1 999 && inR s.value 1 999 && decide (s.value ≠ s.person)
   else false)
/-- What a valid step is, in words of its numbers. -/
inductive Stp.Is (s : Stp) : Prop
  | get (hk : s.kind = 1) (hp : s.person = 0) (hv : 1 ≤ s.value ∧ s.value ≤ 9999)
  | show_ (hk : s.kind = 2) (hp : 1 ≤ s.person ∧ s.person ≤ 999) (hv : 1 ≤ s.value ∧ s.value ≤ 9999)
  | back (hk : s.kind = 3) (hp : 1 ≤ s.person ∧ s.person ≤ 999) (hv : 1 ≤ s.value ∧ s.value ≤ 9999)
  | sell0 (hk : s.kind = 4) (hp : s.person = 0) (hv : 1 ≤ s.value ∧ s.value ≤ 9999)
  | sell (hk : s.kind = 4) (hp : 1 ≤ s.person ∧ s.person ≤ 999) (hv : 1 ≤ s.value ∧ s.value ≤ 9999)
  | miss (hk : s.kind = 5) (hp : 1 ≤ s.person ∧ s.person ≤ 999) (hv : s.value = 0)
  | move (hk : s.kind = 6) (hp : 1 ≤ s.person ∧ s.person ≤ 999) (hv : 1 ≤ s.value ∧ s.value ≤ 999)
theorem Stp.okS_is {s : Stp} (h : s.okS = true) : (1 ≤ s.stamp ∧ s.stamp ≤ 99) ∧ s.Is := by
  unfold Stp.okS at h
  rw [Bool.and_eq_true, inR_iff] at h
  refine ⟨h.2, ?_⟩
  have h := h.1
  split at h
  · rename_i hk; simp only [Bool.and_eq_true, inR_iff, decide_eq_true_eq] at h; exact .get hk h.1 h.2
  · split at h
    · rename_i hk; simp only [Bool.and_eq_true, inR_iff] at h
      rcases hk with hk | hk
      · exact .show_ hk h.1 h.2
      · exact .back hk h.1 h.2
    · split at h
      · rename_i hk; simp only [Bool.and_eq_true, Bool.or_eq_true, inR_iff, decide_eq_true_eq] at h
        rcases h.1 with hp | hp
        · exact .sell hk hp h.2
        · exact .sell0 hk hp h.2
      · split at h
        · rename_i hk; simp only [Bool.and_eq_true, inR_iff, decide_eq_true_eq] at h; exact .miss hk h.1 h.2
        · split at h
          · rename_i hk; simp only [Bool.and_eq_true, inR_iff] at h; exact .move hk h.1 h.2
          · cases h
/-- The program's test is the reference's, but for a move to the same person. -/
theorem Stp.ok_okS (s : Stp) : s.ok = (s.okS && !(decide (s.kind = 6) && decide (s.value = s.person))) := by
  unfold Stp.ok Stp.okS
  generalize hst : inR s.stamp 1 99 = st
  by_cases h1 : s.kind = 1
  · have e : decide (s.kind = 6) = false := decide_eq_false (by omega)
    rw [if_pos h1, if_pos h1, e]; cases st <;> simp
  · rw [if_neg h1, if_neg h1]
    by_cases h2 : s.kind = 2 ∨ s.kind = 3
    · have e : decide (s.kind = 6) = false := decide_eq_false (by omega)
      rw [if_pos h2, if_pos h2, e]; cases st <;> simp
    · rw [if_neg h2, if_neg h2]
      by_cases h4 : s.kind = 4
      · have e : decide (s.kind = 6) = false := decide_eq_false (by omega)
        have e2 : inR s.person 0 999 = (inR s.person 1 999 || decide (s.person = 0)) := by
          rw [Bool.eq_iff_iff, Bool.or_eq_true, inR_iff, inR_iff, decide_eq_true_eq]; omega
        rw [if_pos h4, if_pos h4, e, e2]; cases st <;> simp
      · rw [if_neg h4, if_neg h4]
        by_cases h5 : s.kind = 5
        · have e : decide (s.kind = 6) = false := decide_eq_false (by omega)
          rw [if_pos h5, if_pos h5, e]; cases st <;> simp
        · rw [if_neg h5, if_neg h5]
          by_cases h6 : s.kind = 6
          · rw [if_pos h6, if_pos h6, decide_eq_true h6]
            by_cases h7 : s.value = s.person
            · simp [h7]
            · simp [h7]; cases st <;> simp
          · rw [if_neg h6, if_neg h6]; cases st <;> rfl

/-! ### Trays -/
def posT (ts : List Tray) (kd : Int) : Nat := (ts.takeWhile fun t => decide (t.k < kd)).length
theorem posT_le (ts : List Tray) (kd : Int) : posT ts kd ≤ ts.length := by
  unfold posT; exact (List.takeWhile_prefix _).length_le
theorem posT_cons (t : Tray) (ts : List Tray) (kd : Int) : posT (t :: ts) kd = if t.k < kd then posT ts kd + 1 else 0 := by
  unfold posT; rw [List.takeWhile_cons]; by_cases h : t.k < kd <;> simp [h]
theorem posT_lt : ∀ (ts : List Tray) (kd : Int) (i : Nat) (h : i < ts.length), i < posT ts kd → ts[i].k < kd
  | t :: ts, kd, i, h, hi => by
    rw [posT_cons] at hi
    split at hi
    · cases i with
      | zero => assumption
      | succ i => exact posT_lt ts kd i (by simpa using h) (by omega)
    · omega
theorem posT_at : ∀ (ts : List Tray) (kd : Int) (h : posT ts kd < ts.length), ¬ ts[posT ts kd].k < kd
  | t :: ts, kd, h => by
    by_cases hk : t.k < kd
    · have e : posT (t :: ts) kd = posT ts kd + 1 := by rw [posT_cons, if_pos hk]
      simp only [e, List.getElem_cons_succ]
      exact posT_at ts kd (by simpa [e] using h)
    · have e : posT (t :: ts) kd = 0 := by rw [posT_cons, if_neg hk]
      simp only [e, List.getElem_cons_zero]; exact hk
/-- Trays ascend. -/
def Asc (ts : List Tray) : Prop := ts.Pairwise fun a b => a.k < b.k
theorem traysFrom_asc : ∀ (ts : List Tray) (n : Nat) (p : Int), traysFrom n p ts = true → Asc ts ∧ (n ≠ 0 → ∀ t ∈ ts, p < t.k)
  | [], _, _, _ => ⟨List.Pairwise.nil, fun _ t ht => by cases ht⟩
  | r :: l, n, p, h => by
    simp only [traysFrom, Bool.and_eq_true, Bool.or_eq_true, decide_eq_true_eq] at h
    obtain ⟨h1, h2⟩ := traysFrom_asc l (n + 1) r.k h.2
    have h3 := h2 (by omega)
    refine ⟨List.pairwise_cons.2 ⟨h3, h1⟩, fun hn t ht => ?_⟩
    have hp : p < r.k := by rcases h.1.2 with h0 | h0; exact absurd h0 hn; exact h0
    rcases List.mem_cons.1 ht with rfl | ht
    · exact hp
    · have := h3 t ht; omega
theorem posT_ge (ts : List Tray) (kd : Int) (ha : Asc ts) (i : Nat) (h : i < ts.length) (hi : posT ts kd ≤ i) : ¬ ts[i].k < kd := by
  have h0 := posT_at ts kd (by omega)
  rcases Nat.lt_or_ge (posT ts kd) i with hlt | hge
  · have := List.pairwise_iff_getElem.1 ha (posT ts kd) i (by omega) h hlt
    omega
  · have e : posT ts kd = i := by omega
    simp only [e] at h0; exact h0

/-- The trays with n more stamps of a kind. -/
def inTrays (ts : List Tray) (kd n : Int) : List Tray :=
  if 0 ≤ trayIx ts kd then ts.set (trayIx ts kd).toNat ⟨(ts.getD (trayIx ts kd).toNat default).k, (ts.getD (trayIx ts kd).toNat default).c + n⟩
  else ts.take (posT ts kd) ++ ⟨kd, n⟩ :: ts.drop (posT ts kd)
/-- The trays with an empty one of a kind more. -/
def newTray (ts : List Tray) (kd : Int) : List Tray := ts.take (posT ts kd) ++ ⟨kd, 0⟩ :: ts.drop (posT ts kd)
theorem idxFrom_none {α : Type} (f : α → Bool) : ∀ (l : List α) (k : Nat), (∀ x ∈ l, f x = false) → idxFrom f k l = -1
  | [], _, _ => rfl
  | x :: l, k, h => by rw [idxFrom, h x (by simp)]; exact idxFrom_none f l (k + 1) fun y hy => h y (by simp [hy])
theorem idxFrom_behind {α : Type} (f : α → Bool) (y : α) (r : List α) (hy : f y = true) : ∀ (l : List α) (k : Nat), (∀ x ∈ l, f x = false) → idxFrom f k (l ++ y :: r) = (k + l.length : Nat)
  | [], k, _ => by simp [idxFrom, hy]
  | x :: l, k, h => by
    rw [List.cons_append, idxFrom, h x (by simp)]
    rw [if_neg (by simp), idxFrom_behind f y r hy l (k + 1) fun y hy => h y (by simp [hy])]
    simp; omega
theorem idxFrom_lt {α : Type} (f : α → Bool) : ∀ (l : List α) (k : Nat), idxFrom f k l < k + l.length
  | [], _ => by simp [idxFrom]; omega
  | x :: l, k => by
    rw [idxFrom]; split
    · simp; omega
    · have := idxFrom_lt f l (k + 1); simp only [List.length_cons]; omega
theorem trayIx_lt {ts : List Tray} {kd : Int} (h : 0 ≤ trayIx ts kd) : (trayIx ts kd).toNat < ts.length := by
  have := idxFrom_lt (fun t : Tray => decide (t.k = kd)) ts 0
  change trayIx ts kd < _ at this; omega
theorem trayIx_none {ts : List Tray} {kd : Int} (h : ¬ 0 ≤ trayIx ts kd) : ∀ t ∈ ts, t.k ≠ kd := by
  have h1 := trayIx_has ts kd
  rw [decide_eq_false h] at h1
  intro t ht e
  have : hasTray ts kd = true := by unfold hasTray; rw [List.any_eq_true]; exact ⟨t, ht, decide_eq_true e⟩
  rw [this] at h1; cases h1
theorem trayIx_new {ts : List Tray} {kd : Int} (h : ¬ 0 ≤ trayIx ts kd) : trayIx (newTray ts kd) kd = posT ts kd := by
  have h0 := trayIx_none h
  unfold trayIx newTray
  rw [idxFrom_behind _ _ _ (by simp) _ 0 fun t ht => by simpa using h0 t (List.mem_of_mem_take ht)]
  simp [List.length_take, Nat.min_eq_left (posT_le ts kd)]
/-- An empty tray, then n stamps into it. -/
theorem inTrays_new {ts : List Tray} {kd : Int} (n : Int) (h : ¬ 0 ≤ trayIx ts kd) :
    inTrays ts kd n = (newTray ts kd).set (posT ts kd) ⟨((newTray ts kd).getD (posT ts kd) default).k, ((newTray ts kd).getD (posT ts kd) default).c + n⟩ := by
  unfold inTrays
  rw [if_neg h]
  have hl : (ts.take (posT ts kd)).length = posT ts kd := by rw [List.length_take, Nat.min_eq_left (posT_le ts kd)]
  have e : (newTray ts kd).getD (posT ts kd) default = ⟨kd, 0⟩ := by
    unfold newTray
    rw [List.getD_eq_getElem?_getD, List.getElem?_append_right (by omega), hl, Nat.sub_self]; rfl
  rw [e]
  unfold newTray
  rw [List.set_append_right _ _ (by omega), hl, Nat.sub_self, List.set_cons_zero, Int.zero_add]

/-! ### Outings -/
theorem before_iff {a b : Outing} : before a b = true ↔ a.k < b.k ∨ a.k = b.k ∧ a.p < b.p := by
  unfold before; simp
theorem before_no {a b : Outing} : before a b = false ↔ ¬ (a.k < b.k ∨ a.k = b.k ∧ a.p < b.p) := by
  rw [← before_iff]; simp
/-- Outings ascend. -/
def AscO (os : List Outing) : Prop := os.Pairwise fun a b => before a b = true
theorem outsFrom_asc (ts : List Tray) : ∀ (os : List Outing) (p : Option Outing), outsFrom ts p os = true → AscO os ∧ ∀ q, p = some q → ∀ o ∈ os, before q o = true
  | [], _, _ => ⟨List.Pairwise.nil, fun _ _ o ho => by cases ho⟩
  | r :: l, p, h => by
    simp only [outsFrom, Bool.and_eq_true] at h
    obtain ⟨h1, h2⟩ := outsFrom_asc ts l (some r) h.2
    have h3 := h2 r rfl
    refine ⟨List.pairwise_cons.2 ⟨h3, h1⟩, ?_⟩
    rintro q rfl o ho
    have hq : before q r = true := h.1.2
    rcases List.mem_cons.1 ho with rfl | ho
    · exact hq
    · have := h3 o ho
      rw [before_iff] at this hq ⊢; omega

def isAt (k p : Int) (o : Outing) : Bool := decide (o.k = k) && decide (o.p = p)
theorem isAt_iff {k p : Int} {o : Outing} : isAt k p o = true ↔ o.k = k ∧ o.p = p := by unfold isAt; simp
/-- How many stamps of a kind are at a person. -/
def outAt (k p : Int) : List Outing → Int
  | [] => 0
  | o :: l => if isAt k p o then o.c else outAt k p l
/-- The outings with another count for one. -/
def atO (k p : Int) : Int → List Outing → List Outing
  | c, [] => if c ≠ 0 then [⟨k, p, c⟩] else []
  | c, o :: l =>
    if before ⟨k, p, 0⟩ o = true ∧ c ≠ 0 then ⟨k, p, c⟩ :: (if isAt k p o then atO k p 0 l else o :: atO k p 0 l)
    else if isAt k p o then atO k p c l else o :: atO k p c l
theorem atO_zero {k p : Int} : ∀ l : List Outing, (∀ o ∈ l, isAt k p o = false) → atO k p 0 l = l
  | [], _ => by simp [atO]
  | o :: l, h => by
    rw [atO, if_neg (by simp), h o (by simp), if_neg (by simp), atO_zero l fun q hq => h q (by simp [hq])]
theorem isAt_no {k p : Int} {o : Outing} (h : before ⟨k, p, 0⟩ o = true) : isAt k p o = false := by
  rw [before_iff] at h; simp only at h
  rw [Bool.eq_false_iff]; intro e; rw [isAt_iff] at e; omega
theorem atO_ahead {k p c : Int} (hc : c ≠ 0) : ∀ l : List Outing, (∀ o ∈ l, before ⟨k, p, 0⟩ o = true) → atO k p c l = ⟨k, p, c⟩ :: l
  | [], _ => by simp [atO, hc]
  | o :: l, h => by
    have ho := h o (by simp)
    rw [atO, if_pos ⟨ho, hc⟩, isAt_no ho, if_neg (by simp), atO_zero l fun q hq => isAt_no (h q (by simp [hq]))]

/-- What the program makes of the outings: by more for one, which may be new or go. -/
def chgO (k p by_ : Int) : List Outing → List Outing
  | [] => [⟨k, p, by_⟩]
  | o :: l => if before o ⟨k, p, 0⟩ then o :: chgO k p by_ l else if isAt k p o then (if o.c + by_ = 0 then l else ⟨o.k, o.p, o.c + by_⟩ :: l) else ⟨k, p, by_⟩ :: o :: l
theorem chgO_atO {k p by_ : Int} : ∀ l : List Outing, AscO l → (outAt k p l = 0 → by_ ≠ 0) → chgO k p by_ l = atO k p (outAt k p l + by_) l
  | [], _, h => by
    have hb : by_ ≠ 0 := h rfl
    simp [chgO, atO, outAt, hb]
  | o :: l, ha, h => by
    obtain ⟨h1, h2⟩ := List.pairwise_cons.1 ha
    rw [chgO]
    by_cases hb : before o ⟨k, p, 0⟩ = true
    · have hn : isAt k p o = false := by
        rw [before_iff] at hb; simp only at hb
        rw [Bool.eq_false_iff]; intro e; rw [isAt_iff] at e; omega
      have hr : ¬ before ⟨k, p, 0⟩ o = true := by rw [before_iff] at hb ⊢; simp only at hb ⊢; omega
      have eo : outAt k p (o :: l) = outAt k p l := by rw [outAt, hn, if_neg (by simp)]
      rw [eo] at h ⊢
      rw [if_pos hb, chgO_atO l h2 h, atO, if_neg (fun e => hr e.1), hn, if_neg (by simp)]
    · rw [if_neg hb]
      by_cases hi : isAt k p o = true
      · have hi' := isAt_iff.1 hi
        have eo : outAt k p (o :: l) = o.c := by rw [outAt, if_pos hi]
        have hr : ¬ before ⟨k, p, 0⟩ o = true := by rw [before_iff]; simp only; omega
        have hl : ∀ q ∈ l, before ⟨k, p, 0⟩ q = true := fun q hq => by
          have := h1 q hq; rw [before_iff] at this ⊢; simp only at this ⊢; omega
        have eA : atO k p (o.c + by_) (o :: l) = atO k p (o.c + by_) l := by rw [atO, if_neg (fun e => hr e.1), if_pos hi]
        rw [eo, if_pos hi, eA]
        by_cases hz : o.c + by_ = 0
        · rw [if_pos hz, hz, atO_zero l fun q hq => isAt_no (hl q hq)]
        · rw [if_neg hz, atO_ahead hz l hl, hi'.1, hi'.2]
      · have hi0 : isAt k p o = false := Bool.eq_false_iff.2 hi
        have hr : before ⟨k, p, 0⟩ o = true := by
          rw [before_iff] at hb ⊢; simp only at hb ⊢
          rw [isAt_iff] at hi; omega
        have hl : ∀ q ∈ l, before ⟨k, p, 0⟩ q = true := fun q hq => by
          have := h1 q hq; rw [before_iff] at this hr ⊢; simp only at this hr ⊢; omega
        have hall : ∀ q ∈ l, isAt k p q = false := fun q hq => isAt_no (hl q hq)
        have e0 : outAt k p (o :: l) = 0 := by
          have : ∀ m : List Outing, (∀ q ∈ m, isAt k p q = false) → outAt k p m = 0 := by
            intro m; induction m with
            | nil => intro _; rfl
            | cons q m ih => intro hm; rw [outAt, hm q (by simp), if_neg (by simp)]; exact ih fun r hr => hm r (by simp [hr])
          exact this _ (by intro q hq; rcases List.mem_cons.1 hq with rfl | hq; exact hi0; exact hall q hq)
        have hb0 := h e0
        rw [if_neg hi, e0, Int.zero_add, atO_ahead hb0 (o :: l) (by intro q hq; rcases List.mem_cons.1 hq with rfl | hq; exact hr; exact hl q hq)]
/-- Each outing of the changed list is of the old one, or that one. -/
theorem atO_mem {k p : Int} : ∀ (l : List Outing) (c : Int) (o : Outing), o ∈ atO k p c l → o ∈ l ∨ o = ⟨k, p, c⟩
  | [], c, o, h => by
    rw [atO] at h; split at h
    · simp at h; exact .inr h
    · cases h
  | q :: l, c, o, h => by
    have up0 : ∀ o, o ∈ (if isAt k p q = true then atO k p 0 l else q :: atO k p 0 l) → o ∈ q :: l := by
      intro o ho
      have hz : ∀ m : List Outing, ∀ o ∈ atO k p 0 m, o ∈ m := by
        intro m; induction m with
        | nil => intro o ho; simp [atO] at ho
        | cons r m ih =>
          intro o ho
          rw [atO, if_neg (by simp)] at ho
          split at ho
          · exact List.mem_cons_of_mem _ (ih o ho)
          · rcases List.mem_cons.1 ho with rfl | ho
            · simp
            · exact List.mem_cons_of_mem _ (ih o ho)
      split at ho
      · exact List.mem_cons_of_mem _ (hz l o ho)
      · rcases List.mem_cons.1 ho with rfl | ho
        · simp
        · exact List.mem_cons_of_mem _ (hz l o ho)
    rw [atO] at h
    split at h
    · rcases List.mem_cons.1 h with rfl | h
      · exact .inr rfl
      · exact .inl (up0 o h)
    · split at h
      · rcases atO_mem l c o h with h | h
        · exact .inl (List.mem_cons_of_mem _ h)
        · exact .inr h
      · rcases List.mem_cons.1 h with rfl | h
        · exact .inl (by simp)
        · rcases atO_mem l c o h with h | h
          · exact .inl (List.mem_cons_of_mem _ h)
          · exact .inr h
theorem atO_zero_sub {k p : Int} : ∀ l : List Outing, (atO k p 0 l).Sublist l
  | [] => by simp [atO]
  | o :: l => by
    rw [atO, if_neg (by simp)]
    split
    · exact (atO_zero_sub l).cons o
    · exact (atO_zero_sub l).cons_cons o
theorem outAt_mem {k p : Int} : ∀ l : List Outing, outAt k p l = 0 ∨ ∃ o ∈ l, isAt k p o = true ∧ o.c = outAt k p l
  | [] => .inl rfl
  | o :: l => by
    rw [outAt]; split
    · rename_i h; exact .inr ⟨o, by simp, h, rfl⟩
    · rcases outAt_mem (k := k) (p := p) l with h | ⟨q, hq, h⟩
      · exact .inl h
      · exact .inr ⟨q, by simp [hq], h⟩
theorem outAt_none {k p : Int} : ∀ l : List Outing, (∀ o ∈ l, isAt k p o = false) → outAt k p l = 0
  | [], _ => rfl
  | o :: l, h => by rw [outAt, h o (by simp), if_neg (by simp)]; exact outAt_none l fun q hq => h q (by simp [hq])
/-- The sum at a person is the one count, where the outings ascend. -/
theorem outSum_at {k p : Int} : ∀ (l : List Outing) (s : Int), AscO l → outFrom (isAt k p) s l = s + outAt k p l
  | [], s, _ => by simp [outFrom, outAt]
  | o :: l, s, ha => by
    obtain ⟨h1, h2⟩ := List.pairwise_cons.1 ha
    rw [outFrom, outAt]
    by_cases hi : isAt k p o = true
    · rw [if_pos hi, if_pos hi, outSum_at l _ h2, outAt_none l, Int.add_zero]
      intro q hq
      have := h1 q hq
      rw [before_iff] at this
      have hi' := isAt_iff.1 hi
      rw [Bool.eq_false_iff]; intro e; rw [isAt_iff] at e; omega
    · rw [if_neg hi, if_neg hi]; exact outSum_at l s h2
end Go.Proofs.YtdiojhjkcholiaaDoor

/- Offices: size, copy, equality. -/
namespace Go.Proofs.YtdiojhjkcholiaaDoor
open Go.RowKit

/-- It lies at the head of a block, in every world since. -/
structure OffS (B : Nat) (w : World) (b : Nat) (x : Off) : Prop where
  c0 : ∀ p : Since B w, p.val.cell? ⟨b, 0, none⟩ = some (.slice x.TA x.t.length x.tc)
  c1 : ∀ p : Since B w, p.val.cell? ⟨b, 1, none⟩ = some (.slice x.OA x.o.length x.oc)
  c2 : ∀ p : Since B w, p.val.cell? ⟨b, 2, none⟩ = some (.int .i64 x.got)
  c3 : ∀ p : Since B w, p.val.cell? ⟨b, 3, none⟩ = some (.int .i64 x.sold)
  c4 : ∀ p : Since B w, p.val.cell? ⟨b, 4, none⟩ = some (.int .i64 x.missed)
theorem OffS.of {W : World} {g : Nat} {t : TypeId} {x : Off} (h : Lies W g t x.enc) : OffS W.heap.size W g x :=
  ⟨fun p => (p.cell h.lt).trans (h.cell 0), fun p => (p.cell h.lt).trans (h.cell 1), fun p => (p.cell h.lt).trans (h.cell 2), fun p => (p.cell h.lt).trans (h.cell 3), fun p => (p.cell h.lt).trans (h.cell 4)⟩
theorem OffR.at {W : World} {x : Off} (h : OffR W W.heap.size x) (q : Since W.heap.size W) : OffR q.val q.val.heap.size x := h.then q.below

theorem szOffice_any (x : Off) (k : Int) (w : World) (hn : x.t.length ≤ 9223372036854775807) (hm : x.o.length ≤ 9223372036854775807) (hk : 0 ≤ k) (hk' : k ≤ 1048576) :
    Calls Tryd.prog 5 #[x.val, .int .i64 k] w fun e w' => e = .returned (.int .i64 (lessen k (x.t.length + x.o.length))) ∧ Below w.heap.size w w' := by
  have hb0 := (Below.refl w.heap.size w).alloc (Nat.le_refl _) (.cells #[.slice x.TA x.t.length x.tc, .slice x.OA x.o.length x.oc, .int .i64 x.got, .int .i64 x.sold, .int .i64 x.missed] 25)
  have hc := fun W => szTrays_any x.TA x.t.length x.tc k W hn hk hk'
  by_cases hle : (x.t.length : Int) ≤ k
  · have he : lessen k x.t.length = k - x.t.length := by unfold lessen; rw [if_pos hle]
    have HE := Lib.hid (lessen_yes (b := x.o.length) hle)
    have hd := fun W => szOutings_any x.OA x.o.length x.oc (k - x.t.length) W hm (by omega) (by omega)
    rw [he] at hc
    by_cases hle2 : (x.o.length : Int) ≤ k - x.t.length
    · have he2 : lessen (k - x.t.length) x.o.length = k - x.t.length - x.o.length := by unfold lessen; rw [if_pos hle2]
      rw [he2] at hd
      have HE2 := Lib.hid he2
      clear he he2
      go_enter Tryd.func5, Tryd.ntmps5
      go_wp2_with fail
      refine (hc _).mono ?_
      rintro e w1 ⟨rfl, rfl⟩
      go_wp2_with fail
      refine (hd _).mono ?_
      rintro e w1 ⟨rfl, rfl⟩
      go_wp2
      go_ret
      exact ⟨by rw [HE.out, HE2.out]; rfl, hb0⟩
    · have he2 : lessen (k - x.t.length) x.o.length = -1 := by unfold lessen; rw [if_neg hle2]
      rw [he2] at hd
      have HE2 := Lib.hid he2
      clear he he2
      go_enter Tryd.func5, Tryd.ntmps5
      go_wp2_with fail
      refine (hc _).mono ?_
      rintro e w1 ⟨rfl, rfl⟩
      go_wp2_with fail
      refine (hd _).mono ?_
      rintro e w1 ⟨rfl, rfl⟩
      go_wp2
      go_ret
      exact ⟨by rw [HE.out, HE2.out]; rfl, hb0⟩
  · have he : lessen k x.t.length = -1 := by unfold lessen; rw [if_neg hle]
    have HE : Hid (lessen k (x.t.length + x.o.length) = -1) := lessen_no (by omega)
    rw [he] at hc
    clear he
    go_enter Tryd.func5, Tryd.ntmps5
    go_wp2_with fail
    refine (hc _).mono ?_
    rintro e w1 ⟨rfl, rfl⟩
    go_wp2
    go_ret
    exact ⟨by rw [HE.out]; rfl, hb0⟩

theorem Lies.new1 (w : World) (o : Obj) (t : TypeId) (cs : Array Value) : Lies ((w.alloc o).alloc (.cells cs t)) (w.heap.size + 1) t cs.toList := by
  have h := Lies.new (w.alloc o) t cs
  rwa [show (w.alloc o).heap.size = w.heap.size + 1 from Array.size_push _] at h
theorem Lies.new2 (w : World) (o o' : Obj) (t : TypeId) (cs : Array Value) : Lies (((w.alloc o).alloc o').alloc (.cells cs t)) (w.heap.size + 1 + 1) t cs.toList := by
  have h := Lies.new1 (w.alloc o) o' t cs
  rwa [show (w.alloc o).heap.size = w.heap.size + 1 from Array.size_push _] at h

set_option maxHeartbeats 1000000 in
theorem toOffice_any (x : Off) (w : World) (h : OffR w w.heap.size x) (hn : x.t.length ≤ 1048576) (hm : x.o.length ≤ 1048576) :
    Calls Tryd.prog 7 #[x.val] w fun e w' => ∃ g1 g2, e = .returned (Off.val { x with TA := some ⟨g1, 0, none⟩, tc := x.t.length, OA := some ⟨g2, 0, none⟩, oc := x.o.length }) ∧ w.heap.size ≤ g1 ∧ g1 < g2 ∧ Lies w' g1 68 (x.t.flatMap Tray.enc) ∧ Lies w' g2 71 (x.o.flatMap Outing.enc) ∧ Below w.heap.size w w' := by
  have L1 := ((Lies.new w 25 #[.slice x.TA x.t.length x.tc, .slice x.OA x.o.length x.oc, .int .i64 x.got, .int .i64 x.sold, .int .i64 x.missed]).alloc (.cells #[.slice none 0 0, .slice none 0 0, .int .i64 0, .int .i64 0, .int .i64 0] 32)).alloc (.cells #[.slice none 0 0, .slice none 0 0, .int .i64 0, .int .i64 0, .int .i64 0] 32)
  have L2 := (Lies.new1 w (.cells #[.slice x.TA x.t.length x.tc, .slice x.OA x.o.length x.oc, .int .i64 x.got, .int .i64 x.sold, .int .i64 x.missed] 25) 32 #[.slice none 0 0, .slice none 0 0, .int .i64 0, .int .i64 0, .int .i64 0]).alloc (.cells #[.slice none 0 0, .slice none 0 0, .int .i64 0, .int .i64 0, .int .i64 0] 32)
  have L3 := Lies.new2 w (.cells #[.slice x.TA x.t.length x.tc, .slice x.OA x.o.length x.oc, .int .i64 x.got, .int .i64 x.sold, .int .i64 x.missed] 25) (.cells #[.slice none 0 0, .slice none 0 0, .int .i64 0, .int .i64 0, .int .i64 0] 32) 32 #[.slice none 0 0, .slice none 0 0, .int .i64 0, .int .i64 0, .int .i64 0]
  have b1 := (Below.refl w.heap.size w).alloc (Nat.le_refl _) (.cells #[.slice x.TA x.t.length x.tc, .slice x.OA x.o.length x.oc, .int .i64 x.got, .int .i64 x.sold, .int .i64 x.missed] 25)
  have b2 := b1.alloc b1.size (.cells #[.slice none 0 0, .slice none 0 0, .int .i64 0, .int .i64 0, .int .i64 0] 32)
  have b3 := b2.alloc b2.size (.cells #[.slice none 0 0, .slice none 0 0, .int .i64 0, .int .i64 0, .int .i64 0] 32)
  clear b1 b2
  go_enter Tryd.func7, Tryd.ntmps7
  go_wp2_with fail
  generalize (((w.alloc (.cells #[.slice x.TA x.t.length x.tc, .slice x.OA x.o.length x.oc, .int .i64 x.got, .int .i64 x.sold, .int .i64 x.missed] 25)).alloc (.cells #[.slice none 0 0, .slice none 0 0, .int .i64 0, .int .i64 0, .int .i64 0] 32)).alloc (.cells #[.slice none 0 0, .slice none 0 0, .int .i64 0, .int .i64 0, .int .i64 0] 32)) = W3 at L1 L2 L3 b3 ⊢
  refine (toTrays_any x.TA x.tc x.t W3 (h.up b3 (Nat.le_refl _)).ts hn).mono ?_
  rintro e W4 ⟨g1, rfl, hg1, hL4, hb4⟩
  have hs1 := L1.lt
  have hs2 := L2.lt
  have hs3 := L3.lt
  have b4 := b3.trans (hb4.mono b3.size)
  have c1 := (L1.below hb4 L1.lt).cell 1
  have d0 := (L3.below hb4 L3.lt).cell 0
  have f0 := (L3.below hb4 L3.lt).frozen 0
  simp only [List.getElem?_cons_zero, List.getElem?_cons_succ] at c1 d0
  have M1 := (L1.below hb4 L1.lt).other (p := ⟨w.heap.size + 1 + 1, 0, none⟩) (by simp only; omega) (.slice (some ⟨g1, 0, none⟩) x.t.length x.t.length)
  have M2 := (L2.below hb4 L2.lt).other (p := ⟨w.heap.size + 1 + 1, 0, none⟩) (by simp only; omega) (.slice (some ⟨g1, 0, none⟩) x.t.length x.t.length)
  have M3 := (L3.below hb4 L3.lt).set 0 (.slice (some ⟨g1, 0, none⟩) x.t.length x.t.length)
  have M4 := hL4.other (p := ⟨w.heap.size + 1 + 1, 0, none⟩) (by simp only; omega) (.slice (some ⟨g1, 0, none⟩) x.t.length x.t.length)
  have b5 : Below w.heap.size w (W4.setCell ⟨w.heap.size + 1 + 1, 0, none⟩ (.slice (some ⟨g1, 0, none⟩) x.t.length x.t.length)) := b4.grown (grown_set (World.grownBy.refl W4 (some (w.heap.size + 1 + 1)))) b4.size (by rintro _ ⟨⟩; omega)
  have z5 : W4.heap.size ≤ (W4.setCell ⟨w.heap.size + 1 + 1, 0, none⟩ (.slice (some ⟨g1, 0, none⟩) x.t.length x.t.length)).heap.size := by simp [World.setCell]
  go_wp2_with fail
  clear c1 d0 f0
  generalize W4.setCell ⟨w.heap.size + 1 + 1, 0, none⟩ (.slice (some ⟨g1, 0, none⟩) x.t.length x.t.length) = W5 at M1 M2 M3 M4 b5 z5 ⊢
  refine (toOutings_any x.OA x.oc x.o W5 (h.up b5 (Nat.le_refl _)).os hm).mono ?_
  rintro e W6 ⟨g2, rfl, hg2, hL6, hb6⟩
  have b6 := b5.trans (hb6.mono b5.size)
  have t1 := M1.lt
  have t2 := M2.lt
  have t3 := M3.lt
  have t4 := M4.lt
  have N1 := M1.below hb6 M1.lt
  have N2 := M2.below hb6 M2.lt
  have N3 := M3.below hb6 M3.lt
  have N4 := M4.below hb6 M4.lt
  clear L1 L2 L3 M1 M2 M3 M4 hL4 h
  have c2 := N1.cell 2
  have c3 := N1.cell 3
  have c4 := N1.cell 4
  have d0 := N3.cell 0
  have d1 := N3.cell 1
  have d2 := N3.cell 2
  have d3 := N3.cell 3
  have d4 := N3.cell 4
  have e0 := N2.cell 0
  have e1 := N2.cell 1
  have e2 := N2.cell 2
  have e3 := N2.cell 3
  have e4 := N2.cell 4
  have f1 := N3.frozen 1
  have f2 := N3.frozen 2
  have f3 := N3.frozen 3
  have f4 := N3.frozen 4
  have k0 := N2.frozen 0
  have k1 := N2.frozen 1
  have k2 := N2.frozen 2
  have k3 := N2.frozen 3
  have k4 := N2.frozen 4
  simp only [List.set_cons_zero, List.getElem?_cons_zero, List.getElem?_cons_succ] at c2 c3 c4 d0 d1 d2 d3 d4 e0 e1 e2 e3 e4
  go_wp2
  refine bodyPost_ret (v := Off.val { x with TA := some ⟨g1, 0, none⟩, tc := x.t.length, OA := some ⟨g2, 0, none⟩, oc := x.o.length }) (by simp [results, Tryd.results7, go_sem, *]) rfl ⟨g1, g2, rfl, Nat.le_trans b3.size hg1, by omega, ?_, ?_, ?_⟩
  · exact ((((((((N4.other (by simp only; omega) _).other (by simp only; omega) _).other (by simp only; omega) _).other (by simp only; omega) _).other (by simp only; omega) _).other (by simp only; omega) _).other (by simp only; omega) _).other (by simp only; omega) _).other (by simp only; omega) _
  · exact ((((((((hL6.other (by simp only; omega) _).other (by simp only; omega) _).other (by simp only; omega) _).other (by simp only; omega) _).other (by simp only; omega) _).other (by simp only; omega) _).other (by simp only; omega) _).other (by simp only; omega) _).other (by simp only; omega) _
  · exact (b6.grown (grown_set (grown_set (grown_set (grown_set (World.grownBy.refl W6 (some (w.heap.size + 1 + 1))))))) b6.size (by rintro _ ⟨⟩; omega)).grown (grown_set (grown_set (grown_set (grown_set (grown_set (World.grownBy.refl _ (some (w.heap.size + 1)))))))) (by simpa using b6.size) (by rintro _ ⟨⟩; omega)

def Off.same (x y : Off) : Bool := sameTrays x.t y.t && sameOutings x.o y.o && decide (x.got = y.got) && decide (x.sold = y.sold) && decide (x.missed = y.missed)

set_option maxHeartbeats 1000000 in
theorem eqOffice_yes (x y : Off) (w : World) (hx : OffR w w.heap.size x) (hy : OffR w w.heap.size y) (ht : sameTrays x.t y.t = true) (ho : sameOutings x.o y.o = true) (hg : x.got = y.got) (hs : x.sold = y.sold) (hm : x.missed = y.missed) :
    Calls Tryd.prog 9 #[x.val, y.val] w fun e w' => e = .returned (.bool true) ∧ Below w.heap.size w w' := by
  have b1 := (Below.refl w.heap.size w).alloc (Nat.le_refl _) (.cells #[.slice x.TA x.t.length x.tc, .slice x.OA x.o.length x.oc, .int .i64 x.got, .int .i64 x.sold, .int .i64 x.missed] 32)
  have b2 := b1.alloc b1.size (.cells #[.slice y.TA y.t.length y.tc, .slice y.OA y.o.length y.oc, .int .i64 y.got, .int .i64 y.sold, .int .i64 y.missed] 32)
  have L1 := (Lies.new w 32 #[.slice x.TA x.t.length x.tc, .slice x.OA x.o.length x.oc, .int .i64 x.got, .int .i64 x.sold, .int .i64 x.missed]).alloc (.cells #[.slice y.TA y.t.length y.tc, .slice y.OA y.o.length y.oc, .int .i64 y.got, .int .i64 y.sold, .int .i64 y.missed] 32)
  have L2 := Lies.new1 w (.cells #[.slice x.TA x.t.length x.tc, .slice x.OA x.o.length x.oc, .int .i64 x.got, .int .i64 x.sold, .int .i64 x.missed] 32) 32 #[.slice y.TA y.t.length y.tc, .slice y.OA y.o.length y.oc, .int .i64 y.got, .int .i64 y.sold, .int .i64 y.missed]
  clear b1
  have n1 : (x.got != y.got) = false := by simp [hg]
  have n2 : (x.sold != y.sold) = false := by simp [hs]
  have n3 : (x.missed != y.missed) = false := by simp [hm]
  have HT := Lib.hid ht
  have HO := Lib.hid ho
  clear hg hs hm ht ho
  go_enter Tryd.func9, Tryd.ntmps9
  go_wp2_with fail
  generalize ((w.alloc (.cells #[.slice x.TA x.t.length x.tc, .slice x.OA x.o.length x.oc, .int .i64 x.got, .int .i64 x.sold, .int .i64 x.missed] 32)).alloc (.cells #[.slice y.TA y.t.length y.tc, .slice y.OA y.o.length y.oc, .int .i64 y.got, .int .i64 y.sold, .int .i64 y.missed] 32)) = W at b2 L1 L2 ⊢
  have hX := hx.up b2 (Nat.le_refl _)
  have hY := hy.up b2 (Nat.le_refl _)
  refine (eqTrays_any x.TA y.TA x.tc y.tc x.t y.t W hX.ts hY.ts).mono ?_
  rw [HT.out]
  rintro e w1 ⟨rfl, hb1⟩
  have c1 := (L1.below hb1 L1.lt).cell 1
  have d1 := (L2.below hb1 L2.lt).cell 1
  simp only [List.getElem?_cons_zero, List.getElem?_cons_succ] at c1 d1
  go_wp2_with fail
  refine (eqOutings_any x.OA y.OA x.oc y.oc x.o y.o _ (hX.then hb1).os (hY.then hb1).os).mono ?_
  rw [HO.out]
  rintro e w2 ⟨rfl, hb2⟩
  have k := bthen hb1 hb2
  clear c1 d1
  have c2 := (L1.below k L1.lt).cell 2
  have c3 := (L1.below k L1.lt).cell 3
  have c4 := (L1.below k L1.lt).cell 4
  have d2 := (L2.below k L2.lt).cell 2
  have d3 := (L2.below k L2.lt).cell 3
  have d4 := (L2.below k L2.lt).cell 4
  simp only [List.getElem?_cons_zero, List.getElem?_cons_succ] at c2 c3 c4 d2 d3 d4
  go_wp2
  go_ret
  exact ⟨rfl, bthen b2 k⟩
end Go.Proofs.YtdiojhjkcholiaaDoor

/- Validity of an office, in the reference. -/
namespace Go.Proofs.YtdiojhjkcholiaaDoor
open Go.RowKit

theorem trays_step {n : Nat} {p : Int} {l : List Tray} {k : Nat} (h : k < l.length) : traysFrom n p (l.drop k) = (l[k].ok && (decide (n = 0) || decide (p < l[k].k)) && traysFrom (n + 1) l[k].k (l.drop (k + 1))) := by
  rw [List.drop_eq_getElem_cons h]; rfl

set_option maxHeartbeats 2000000 in
theorem l32Trays_any (x : Off) (w : World) (h : OffR w w.heap.size x) :
    Calls Tryd.prog 53 #[x.val] w fun e w' => e = .returned (.bool (traysOk x.t && decide (x.t.length ≤ 8))) ∧ Below w.heap.size w w' := by
  have hl := h.ts.big
  go_enter Tryd.func53, Tryd.ntmps53
  go_wp2
  have hb0 := (Below.refl w.heap.size w).alloc (Nat.le_refl _) (.cells #[.slice x.TA x.t.length x.tc, .slice x.OA x.o.length x.oc, .int .i64 x.got, .int .i64 x.sold, .int .i64 x.missed] 32)
  have hS := OffS.of (x := x) (Lies.new w 32 #[.slice x.TA x.t.length x.tc, .slice x.OA x.o.length x.oc, .int .i64 x.got, .int .i64 x.sold, .int .i64 x.missed])
  have hR := h.up hb0 (Nat.le_refl _)
  generalize w.alloc (.cells #[.slice x.TA x.t.length x.tc, .slice x.OA x.o.length x.oc, .int .i64 x.got, .int .i64 x.sold, .int .i64 x.missed] 32) = W at hb0 hS hR ⊢
  have c0 := hS.c0
  have hrd := hR.ts.el
  go_loopw [3] (fun i wr => ∃ (k : Nat) (prev : Int), k ≤ x.t.length ∧ i = .int .i64 k ∧ (∃ q : Since W.heap.size W, wr = q.val) ∧ Hid (traysFrom k prev (x.t.drop k) = traysOk x.t) ∧ Hid (∀ (_hk : 0 < k) (h' : k - 1 < x.t.length), prev = x.t[k - 1].k)) (fun i _ => x.t.length - (intOf i).toNat)
  case atStart => exact ⟨0, 0, Nat.zero_le _, rfl, ⟨Since.start _ _, rfl⟩, rfl, fun h => absurd h (by omega)⟩
  case round =>
    obtain ⟨k, prev, hk, rfl, ⟨q, rfl⟩, HR, HP⟩ := hrel
    by_cases hlt : k < x.t.length
    · obtain ⟨b, off, hA, hb, hcell⟩ := hrd (by omega)
      obtain ⟨e0, e1⟩ := hcell k hlt
      have HC : Hid (0 < k → ∀ p : Since W.heap.size W, p.val.cell? ⟨b, off + (k - 1) * 2, none⟩ = some (.int .i64 prev)) := fun h p => by
        rw [HP.out h (by omega)]; exact (hcell (k - 1) (by omega)).c0 p
      have HS := Lib.hid (trays_step (n := k) (p := prev) hlt)
      obtain ⟨r, hre⟩ : ∃ r, r = x.t[k] := ⟨_, rfl⟩
      have HN : Hid (∀ (_hk : 0 < k + 1) (h' : k + 1 - 1 < x.t.length), r.k = x.t[k + 1 - 1].k) := fun _ h' => by rw [hre]; rfl
      rw [← hre] at e0 e1 HS
      simp only [hA] at c0
      clear hre hcell hrd hA
      go_wp2
      have hbV := q.below.alloc q.size (.cells #[.int .i64 r.k, .int .i64 r.c] 68)
      have hlV := Lies.new q.val 68 #[.int .i64 r.k, .int .i64 r.c]
      generalize q.val.alloc (.cells #[.int .i64 r.k, .int .i64 r.c] 68) = V at hbV hlV ⊢
      generalize q.val.heap.size = gv at hlV ⊢
      obtain ⟨d0, d1⟩ := TrayS.of (r := r) hlV
      have c0' : ∀ p : Since V.heap.size V, p.val.cell? ⟨w.heap.size, 0, none⟩ = some (.slice (some ⟨b, off, none⟩) x.t.length x.tc) := fun p => c0 ⟨p.val, hbV.trans (p.below.mono hbV.size)⟩
      have HOK : Hid (r.ok = (inR r.k 1 99 && inR r.c 0 9999)) := rfl
      clear e0 e1 c0
      obtain ⟨v1, hv1⟩ : ∃ v, inR r.k 1 99 = v := ⟨_, rfl⟩
      obtain ⟨v2, hv2⟩ : ∃ v, inR r.c 0 9999 = v := ⟨_, rfl⟩
      rw [hv1, hv2] at HOK
      have HV1 := Lib.hid hv1; clear hv1
      have HV2 := Lib.hid hv2; clear hv2
      rcases Nat.eq_zero_or_pos k with h0 | h0
      · have hd : decide (0 < k) = false := decide_eq_false (by omega)
        have H0 := Lib.hid h0; clear h0
        cases v1
        · refine wp_region_since0 (by kernel_rfl) (by kernel_rfl) ?_
          repeat (any_goals (first | go_big_quiet_step ((go_at_call 52; with_reducible refine calls_sameB HV1 (l1In_any r.k 1 99 _))) | (refine wpQuiet_step (fun K hK => ?_); go_simp; split <;> (refine hK _ ?_; clear hK K))))
          all_goals (refine wpQuiet_nil ?_; rintro _ ⟨q1, rfl⟩)
          all_goals have hb1 := hb0.trans ((hbV.trans (q1.below.mono hbV.size)).mono hb0.size)
          all_goals go_wp2
          go_ret
          refine ⟨?_, hb1⟩
          rw [← HR.out, HS.out, HOK.out]; rfl
        · cases v2
          all_goals
            refine wp_region_since0 (by kernel_rfl) (by kernel_rfl) ?_
            repeat (any_goals (first | go_big_quiet_step ((first | (go_at_call 52; with_reducible refine calls_sameB HV1 (l1In_any r.k 1 99 _)) | (go_at_call 52; with_reducible refine calls_sameB HV2 (l1In_any r.c 0 9999 _)))) | (refine wpQuiet_step (fun K hK => ?_); go_simp; split <;> (refine hK _ ?_; clear hK K))))
            all_goals (refine wpQuiet_nil ?_; rintro _ ⟨q1, rfl⟩)
            all_goals have hb1 := hb0.trans ((hbV.trans (q1.below.mono hbV.size)).mono hb0.size)
            all_goals go_wp2
          · go_ret
            refine ⟨?_, hb1⟩
            rw [← HR.out, HS.out, HOK.out]; rfl
          · go_roundw
            case rel => exact ⟨k + 1, r.k, by omega, by go_num, ⟨⟨_, hbV.trans (q1.below.mono hbV.size)⟩, rfl⟩, by have h1 := HR.out; rw [HS.out, HOK.out, decide_eq_true H0.out] at h1; exact h1, HN⟩
            case measure => simp [intOf]; omega
      · have c5 : ∀ p : Since V.heap.size V, p.val.cell? ⟨b, off + (k - 1) * 2, none⟩ = some (.int .i64 prev) := fun p => HC.out h0 ⟨p.val, hbV.trans (p.below.mono hbV.size)⟩
        have h0' : (0 : Int) < (k : Int) := by omega
        cases v1
        · refine wp_region_since0 (by kernel_rfl) (by kernel_rfl) ?_
          repeat (any_goals (first | go_big_quiet_step ((go_at_call 52; with_reducible refine calls_sameB HV1 (l1In_any r.k 1 99 _))) | (refine wpQuiet_step (fun K hK => ?_); go_simp; split <;> (refine hK _ ?_; clear hK K))))
          all_goals (refine wpQuiet_nil ?_; rintro _ ⟨q1, rfl⟩)
          all_goals have hb1 := hb0.trans ((hbV.trans (q1.below.mono hbV.size)).mono hb0.size)
          all_goals go_wp2
          go_ret
          refine ⟨?_, hb1⟩
          rw [← HR.out, HS.out, HOK.out]; rfl
        · cases v2
          all_goals
            refine wp_region_since0 (by kernel_rfl) (by kernel_rfl) ?_
            repeat (any_goals (first | go_big_quiet_step ((first | (go_at_call 52; with_reducible refine calls_sameB HV1 (l1In_any r.k 1 99 _)) | (go_at_call 52; with_reducible refine calls_sameB HV2 (l1In_any r.c 0 9999 _)))) | (refine wpQuiet_step (fun K hK => ?_); go_simp; split <;> (refine hK _ ?_; clear hK K))))
            all_goals (refine wpQuiet_nil ?_; rintro _ ⟨q1, rfl⟩)
            all_goals have hb1 := hb0.trans ((hbV.trans (q1.below.mono hbV.size)).mono hb0.size)
            all_goals go_wp2
          · go_ret
            refine ⟨?_, hb1⟩
            rw [← HR.out, HS.out, HOK.out]; rfl
          · go_ret
            refine ⟨?_, hb1⟩
            have hm : r.k ≤ prev := by assumption
            rw [← HR.out, HS.out, HOK.out, decide_eq_false (by omega : ¬ k = 0), decide_eq_false (by omega : ¬ prev < r.k)]; rfl
          · have hm : prev < r.k := by assumption
            go_roundw
            case rel => exact ⟨k + 1, r.k, by omega, by go_num, ⟨⟨_, hbV.trans (q1.below.mono hbV.size)⟩, rfl⟩, by have h1 := HR.out; rw [HS.out, HOK.out, decide_eq_true hm, Bool.or_true] at h1; exact h1, HN⟩
            case measure => simp [intOf]; omega
    · have HK : Hid (traysOk x.t = true) := by
        have h1 := HR.out
        rw [List.drop_eq_nil_of_le (by omega)] at h1; exact h1.symm
      clear hrd
      go_wp2
      go_ret
      refine ⟨?_, hb0.trans (q.below.mono hb0.size)⟩
      rw [HK.out, Bool.true_and]
      exact congrArg (fun b => Ending.returned (.bool b)) (decide_eq_decide.2 (by omega))
end Go.Proofs.YtdiojhjkcholiaaDoor

/- Validity of an office, in the reference: the outings. -/
namespace Go.Proofs.YtdiojhjkcholiaaDoor
open Go.RowKit

theorem calls_sinceE {P : Program} {f : FuncId} {args : Array Value} {B : Nat} {w : World} {q : Since B w} {v v' : Value} (hv : Hid (v = v')) (hB : B ≤ w.heap.size)
    (h : Calls P f args q.val fun e w' => e = .returned v ∧ Below q.val.heap.size q.val w') : Calls P f args q.val fun e w' => e = .returned v' ∧ ∃ q' : Since B w, w' = q'.val := by
  have := hv.out; subst this; exact calls_since hB h

set_option maxHeartbeats 1000000 in
theorem l32Tray_any (x : Off) (kd : Int) (w : World) (h : OffR w w.heap.size x) :
    Calls Tryd.prog 30 #[x.val, .int .i64 kd] w fun e w' => e = .returned (.int .i64 (trayIx x.t kd)) ∧ Below w.heap.size w w' := by
  have hl := h.ts.big
  have HF : Hid (idxFrom (fun t : Tray => decide (t.k = kd)) 0 (x.t.drop 0) = trayIx x.t kd) := rfl
  go_enter Tryd.func30, Tryd.ntmps30
  go_wp2
  have hb0 := (Below.refl w.heap.size w).alloc (Nat.le_refl _) (.cells #[.slice x.TA x.t.length x.tc, .slice x.OA x.o.length x.oc, .int .i64 x.got, .int .i64 x.sold, .int .i64 x.missed] 32)
  have hS := OffS.of (x := x) (Lies.new w 32 #[.slice x.TA x.t.length x.tc, .slice x.OA x.o.length x.oc, .int .i64 x.got, .int .i64 x.sold, .int .i64 x.missed])
  have hR := h.up hb0 (Nat.le_refl _)
  generalize w.alloc (.cells #[.slice x.TA x.t.length x.tc, .slice x.OA x.o.length x.oc, .int .i64 x.got, .int .i64 x.sold, .int .i64 x.missed] 32) = W at hb0 hS hR ⊢
  have c0 := hS.c0
  have hrd := hR.ts.el
  go_loopw [5] (fun i wr => ∃ (k : Nat), k ≤ x.t.length ∧ i = .int .i64 k ∧ (∃ q : Since W.heap.size W, wr = q.val) ∧ Hid (idxFrom (fun t : Tray => decide (t.k = kd)) k (x.t.drop k) = trayIx x.t kd)) (fun i _ => x.t.length - (intOf i).toNat)
  case atStart => exact ⟨0, Nat.zero_le _, rfl, ⟨Since.start _ _, rfl⟩, HF⟩
  case round =>
    obtain ⟨k, hk, rfl, ⟨q, rfl⟩, HR⟩ := hrel
    by_cases hlt : k < x.t.length
    · obtain ⟨b, off, hA, hb, hcell⟩ := hrd (by omega)
      obtain ⟨e0, e1⟩ := hcell k hlt
      have hy := fun hv => idx_yes (f := fun t : Tray => decide (t.k = kd)) hlt hv
      have hn := fun hv => idx_no (f := fun t : Tray => decide (t.k = kd)) hlt hv
      obtain ⟨r, hre⟩ : ∃ r, r = x.t[k] := ⟨_, rfl⟩
      rw [← hre] at e0 e1 hy hn
      simp only [hA] at c0
      clear hre hcell hrd hA
      by_cases hz : r.k = kd
      · have HE : Hid ((k : Int) = trayIx x.t kd) := by rw [← hy (decide_eq_true hz)]; exact HR.out
        have hv : (r.k == kd) = true := by simp [hz]
        clear hy hn hz
        go_wp2
        go_ret
        exact ⟨by rw [← HE.out]; rfl, hb0.trans (q.below.mono hb0.size)⟩
      · have HE : Hid (idxFrom (fun t : Tray => decide (t.k = kd)) (k + 1) (x.t.drop (k + 1)) = trayIx x.t kd) := by rw [← hn (decide_eq_false hz)]; exact HR.out
        have hv : (r.k == kd) = false := by simp [hz]
        clear hy hn hz
        go_wp2
        go_roundw
        case rel => exact ⟨k + 1, by omega, by go_num, ⟨q, rfl⟩, HE⟩
        case measure => simp [intOf]; omega
    · have HE : Hid (-1 = trayIx x.t kd) := by
        have h1 := HR.out; rw [List.drop_eq_nil_of_le (by omega)] at h1; exact h1
      clear hrd
      go_wp2
      go_ret
      exact ⟨by rw [← HE.out]; rfl, hb0.trans (q.below.mono hb0.size)⟩

theorem l32Key_any (r : Outing) (w : World) (h1 : 1 ≤ r.k ∧ r.k ≤ 99) (h2 : 1 ≤ r.p ∧ r.p ≤ 999) :
    Calls Tryd.prog 71 #[r.val] w fun e w' => e = .returned (.int .i64 (1000 * r.k + r.p)) ∧ Below w.heap.size w w' := by
  obtain ⟨a1, a2⟩ := h1
  obtain ⟨b1, b2⟩ := h2
  have m : IntKind.i64.wrap (1000 * r.k) = 1000 * r.k := IntWalk.i64_in _ (by omega)
  have s : IntKind.i64.wrap (1000 * r.k + r.p) = 1000 * r.k + r.p := IntWalk.i64_in _ (by omega)
  go_enter Tryd.func71, Tryd.ntmps71
  go_wp2
  first
    | (go_ret; exact ⟨rfl, (Below.refl _ _).alloc (Nat.le_refl _) _⟩)
    | (go_quiet (fail); go_wp2; go_ret; exact ⟨rfl, by go_grown⟩)

theorem outs_step {ts : List Tray} {p : Option Outing} {l : List Outing} {k : Nat} (h : k < l.length) : outsFrom ts p (l.drop k) = (l[k].ok ts && (match p with | none => true | some q => before q l[k]) && outsFrom ts (some l[k]) (l.drop (k + 1))) := by
  rw [List.drop_eq_getElem_cons h]; rfl
end Go.Proofs.YtdiojhjkcholiaaDoor

/- Validity of an office, in the reference: all outings. -/
namespace Go.Proofs.YtdiojhjkcholiaaDoor
open Go.RowKit

set_option maxHeartbeats 2000000 in
theorem l32Outs_any (x : Off) (w : World) (h : OffR w w.heap.size x) (hall : ∀ i (hi : i < x.t.length), x.t[i].ok = true) :
    Calls Tryd.prog 54 #[x.val] w fun e w' => e = .returned (.bool (outsOk x.t x.o && decide (x.o.length ≤ 8))) ∧ Below w.heap.size w w' := by
  have hl := h.os.big
  have HALL := Lib.hid hall; clear hall
  go_enter Tryd.func54, Tryd.ntmps54
  go_wp2
  have hb0 := (Below.refl w.heap.size w).alloc (Nat.le_refl _) (.cells #[.slice x.TA x.t.length x.tc, .slice x.OA x.o.length x.oc, .int .i64 x.got, .int .i64 x.sold, .int .i64 x.missed] 32)
  have hS := OffS.of (x := x) (Lies.new w 32 #[.slice x.TA x.t.length x.tc, .slice x.OA x.o.length x.oc, .int .i64 x.got, .int .i64 x.sold, .int .i64 x.missed])
  have hR := h.up hb0 (Nat.le_refl _)
  generalize w.alloc (.cells #[.slice x.TA x.t.length x.tc, .slice x.OA x.o.length x.oc, .int .i64 x.got, .int .i64 x.sold, .int .i64 x.missed] 32) = W at hb0 hS hR ⊢
  have hrd := hR.os.el
  go_loopw [3] (fun i wr => ∃ (k : Nat) (prev : Option Outing), k ≤ x.o.length ∧ i = .int .i64 k ∧ (∃ q : Since W.heap.size W, wr = q.val) ∧ Hid (outsFrom x.t prev (x.o.drop k) = outsOk x.t x.o) ∧ Hid ((k = 0 → prev = none) ∧ ∀ (_hk : 0 < k) (h' : k - 1 < x.o.length), prev = some x.o[k - 1] ∧ x.o[k - 1].ok x.t = true)) (fun i _ => x.o.length - (intOf i).toNat)
  case atStart => exact ⟨0, none, Nat.zero_le _, rfl, ⟨Since.start _ _, rfl⟩, rfl, fun _ => rfl, fun h => absurd h (by omega)⟩
  case round =>
    obtain ⟨k, prev, hk, rfl, ⟨q, rfl⟩, HR, HP⟩ := hrel
    obtain ⟨s0, s1, s2, s3, s4⟩ := hS
    by_cases hlt : k < x.o.length
    · obtain ⟨b, off, hA, hb, hcell⟩ := hrd (by omega)
      obtain ⟨e0, e1, e2⟩ := hcell k hlt
      have HS := Lib.hid (outs_step (ts := x.t) (p := prev) hlt)
      obtain ⟨r, hre⟩ : ∃ r, r = x.o[k] := ⟨_, rfl⟩
      have HN : Hid (r.ok x.t = true → (k + 1 = 0 → some r = none) ∧ ∀ (_hk : 0 < k + 1) (h' : k + 1 - 1 < x.o.length), some r = some x.o[k + 1 - 1] ∧ x.o[k + 1 - 1].ok x.t = true) := fun ho => ⟨fun h => by omega, fun _ h' => ⟨by rw [hre]; rfl, by rw [hre] at ho; exact ho⟩⟩
      have HC : Hid (∀ _ : 0 < k, ∃ u : Outing, prev = some u ∧ u.ok x.t = true ∧ OutingS W.heap.size W b (off + (k - 1) * 3) u) := fun h => ⟨x.o[k - 1], (HP.out.2 h (by omega)).1, (HP.out.2 h (by omega)).2, hcell (k - 1) (by omega)⟩
      rw [← hre] at e0 e1 e2 HS
      simp only [hA] at s1
      clear hre hcell hrd
      go_wp2
      have hbV := q.below.alloc q.size (.cells #[.int .i64 r.k, .int .i64 r.p, .int .i64 r.c] 71)
      have hlV := Lies.new q.val 71 #[.int .i64 r.k, .int .i64 r.p, .int .i64 r.c]
      generalize q.val.alloc (.cells #[.int .i64 r.k, .int .i64 r.p, .int .i64 r.c] 71) = V at hbV hlV ⊢
      generalize q.val.heap.size = gv at hlV ⊢
      obtain ⟨d0, d1, d2⟩ := OutingS.of (r := r) hlV
      have up : ∀ {a : Addr} {u : Value}, (∀ p : Since W.heap.size W, p.val.cell? a = some u) → ∀ p : Since V.heap.size V, p.val.cell? a = some u := fun h p => h ⟨p.val, hbV.trans (p.below.mono hbV.size)⟩
      have s0 := up s0
      have s1 := up s1
      have s2 := up s2
      have s3 := up s3
      have s4 := up s4
      have hxe : ({ x with OA := some ⟨b, off, none⟩ } : Off) = x := by rw [← hA]
      have hRV : ∀ p : Since V.heap.size V, OffR p.val p.val.heap.size { x with OA := some ⟨b, off, none⟩ } := fun p => by rw [hxe]; exact hR.at ⟨p.val, hbV.trans (p.below.mono hbV.size)⟩
      clear hxe hA
      have HOK : Hid (r.ok x.t = (hasTray x.t r.k && inR r.p 1 999 && inR r.c 1 9999)) := rfl
      clear e0 e1 e2
      obtain ⟨X, hX⟩ : ∃ X, trayIx x.t r.k = X := ⟨_, rfl⟩
      have HX : Hid (Value.int .i64 (trayIx x.t r.k) = .int .i64 X) := by rw [hX]; rfl
      have HH : Hid (hasTray x.t r.k = decide (0 ≤ X)) := by rw [← hX]; exact (trayIx_has _ _).symm
      obtain ⟨v2, hv2⟩ : ∃ v, inR r.p 1 999 = v := ⟨_, rfl⟩
      obtain ⟨v3, hv3⟩ : ∃ v, inR r.c 1 9999 = v := ⟨_, rfl⟩
      rw [hv2, hv3] at HOK
      have HV2 := Lib.hid hv2; clear hv2
      have HV3 := Lib.hid hv3; clear hv3
      clear hX
      by_cases hX0 : 0 ≤ X
      · have hd0 : decide (X < 0) = false := decide_eq_false (by omega)
        have HXT : Hid (decide (0 ≤ X) = true) := decide_eq_true hX0
        cases v2
        · rcases Nat.eq_zero_or_pos k with h0 | h0
          · have hd : decide (0 < k) = false := decide_eq_false (by omega)
            clear h0
            refine wp_region_since0 (by kernel_rfl) (by kernel_rfl) ?_
            repeat (any_goals (first | go_big_quiet_step ((first | (go_at_call 30; with_reducible refine calls_sinceE HX (Nat.le_refl _) (l32Tray_any { x with OA := some ⟨b, off, none⟩ } r.k _ (hRV _))) | (go_at_call 52; with_reducible refine calls_sameB HV2 (l1In_any r.p 1 999 _)))) | (refine wpQuiet_step (fun K hK => ?_); go_simp; split <;> (refine hK _ ?_; clear hK K))))
            all_goals (refine wpQuiet_nil ?_; rintro _ ⟨q1, rfl⟩)
            all_goals have hb1 := hb0.trans ((hbV.trans (q1.below.mono hbV.size)).mono hb0.size)
            all_goals go_wp2
            go_ret
            refine ⟨?_, hb1⟩
            rw [← HR.out, HS.out, HOK.out, Bool.and_false]; rfl
          · have h0' : (0 : Int) < (k : Int) := by omega
            refine wp_region_since0 (by kernel_rfl) (by kernel_rfl) ?_
            repeat (any_goals (first | go_big_quiet_step ((first | (go_at_call 30; with_reducible refine calls_sinceE HX (Nat.le_refl _) (l32Tray_any { x with OA := some ⟨b, off, none⟩ } r.k _ (hRV _))) | (go_at_call 52; with_reducible refine calls_sameB HV2 (l1In_any r.p 1 999 _)))) | (refine wpQuiet_step (fun K hK => ?_); go_simp; split <;> (refine hK _ ?_; clear hK K))))
            all_goals (refine wpQuiet_nil ?_; rintro _ ⟨q1, rfl⟩)
            all_goals have hb1 := hb0.trans ((hbV.trans (q1.below.mono hbV.size)).mono hb0.size)
            all_goals go_wp2
            go_ret
            refine ⟨?_, hb1⟩
            rw [← HR.out, HS.out, HOK.out, Bool.and_false]; rfl
        · cases v3
          · rcases Nat.eq_zero_or_pos k with h0 | h0
            · have hd : decide (0 < k) = false := decide_eq_false (by omega)
              clear h0
              refine wp_region_since0 (by kernel_rfl) (by kernel_rfl) ?_
              repeat (any_goals (first | go_big_quiet_step ((first | (go_at_call 30; with_reducible refine calls_sinceE HX (Nat.le_refl _) (l32Tray_any { x with OA := some ⟨b, off, none⟩ } r.k _ (hRV _))) | (go_at_call 52; with_reducible refine calls_sameB HV2 (l1In_any r.p 1 999 _)) | (go_at_call 52; with_reducible refine calls_sameB HV3 (l1In_any r.c 1 9999 _)))) | (refine wpQuiet_step (fun K hK => ?_); go_simp; split <;> (refine hK _ ?_; clear hK K))))
              all_goals (refine wpQuiet_nil ?_; rintro _ ⟨q1, rfl⟩)
              all_goals have hb1 := hb0.trans ((hbV.trans (q1.below.mono hbV.size)).mono hb0.size)
              all_goals go_wp2
              go_ret
              refine ⟨?_, hb1⟩
              rw [← HR.out, HS.out, HOK.out, Bool.and_false]; rfl
            · have h0' : (0 : Int) < (k : Int) := by omega
              refine wp_region_since0 (by kernel_rfl) (by kernel_rfl) ?_
              repeat (any_goals (first | go_big_quiet_step ((first | (go_at_call 30; with_reducible refine calls_sinceE HX (Nat.le_refl _) (l32Tray_any { x with OA := some ⟨b, off, none⟩ } r.k _ (hRV _))) | (go_at_call 52; with_reducible refine calls_sameB HV2 (l1In_any r.p 1 999 _)) | (go_at_call 52; with_reducible refine calls_sameB HV3 (l1In_any r.c 1 9999 _)))) | (refine wpQuiet_step (fun K hK => ?_); go_simp; split <;> (refine hK _ ?_; clear hK K))))
              all_goals (refine wpQuiet_nil ?_; rintro _ ⟨q1, rfl⟩)
              all_goals have hb1 := hb0.trans ((hbV.trans (q1.below.mono hbV.size)).mono hb0.size)
              all_goals go_wp2
              go_ret
              refine ⟨?_, hb1⟩
              rw [← HR.out, HS.out, HOK.out, Bool.and_false]; rfl
          · have HRO : Hid (r.ok x.t = true) := by unfold Hid; rw [HOK.out, HH.out, HXT.out]; rfl
            rcases Nat.eq_zero_or_pos k with h0 | h0
            · have hd : decide (0 < k) = false := decide_eq_false (by omega)
              have HP0 : Hid (prev = none) := HP.out.1 h0
              clear h0
              refine wp_region_since0 (by kernel_rfl) (by kernel_rfl) ?_
              repeat (any_goals (first | go_big_quiet_step ((first | (go_at_call 30; with_reducible refine calls_sinceE HX (Nat.le_refl _) (l32Tray_any { x with OA := some ⟨b, off, none⟩ } r.k _ (hRV _))) | (go_at_call 52; with_reducible refine calls_sameB HV2 (l1In_any r.p 1 999 _)) | (go_at_call 52; with_reducible refine calls_sameB HV3 (l1In_any r.c 1 9999 _)))) | (refine wpQuiet_step (fun K hK => ?_); go_simp; split <;> (refine hK _ ?_; clear hK K))))
              all_goals (refine wpQuiet_nil ?_; rintro _ ⟨q1, rfl⟩)
              all_goals have hb1 := hb0.trans ((hbV.trans (q1.below.mono hbV.size)).mono hb0.size)
              all_goals go_wp2
              go_roundw
              case rel => exact ⟨k + 1, some r, by omega, by go_num, ⟨⟨_, hbV.trans (q1.below.mono hbV.size)⟩, rfl⟩, by have h1 := HR.out; rw [HS.out, HRO.out, HP0.out] at h1; exact h1, HN.out HRO.out⟩
              case measure => simp [intOf]; omega
            · have h0' : (0 : Int) < (k : Int) := by omega
              obtain ⟨u, hpu, huo, ⟨t0, t1, t2⟩⟩ := HC.out h0
              have t0 := up t0
              have t1 := up t1
              have t2 := up t2
              subst hpu
              have HS2 : Hid (outsFrom x.t (some u) (x.o.drop k) = (r.ok x.t && before u r && outsFrom x.t (some r) (x.o.drop (k + 1)))) := HS.out
              obtain ⟨hh1, hp1, _⟩ := Outing.bounds huo
              obtain ⟨hh2, hp2, _⟩ := Outing.bounds HRO.out
              have HKU := Lib.hid (And.intro (hasTray_bounds HALL.out hh1) hp1)
              have HKR := Lib.hid (And.intro (hasTray_bounds HALL.out hh2) hp2)
              have HB : Hid (before u r = decide (1000 * u.k + u.p < 1000 * r.k + r.p)) := before_key hp1 hp2
              clear huo hh1 hp1 hh2 hp2 up
              obtain ⟨K1, hK1⟩ : ∃ K, 1000 * u.k + u.p = K := ⟨_, rfl⟩
              obtain ⟨K2, hK2⟩ : ∃ K, 1000 * r.k + r.p = K := ⟨_, rfl⟩
              rw [hK1, hK2] at HB
              have HK1 : Hid (Value.int .i64 (1000 * u.k + u.p) = .int .i64 K1) := by rw [hK1]; rfl
              have HK2 : Hid (Value.int .i64 (1000 * r.k + r.p) = .int .i64 K2) := by rw [hK2]; rfl
              clear hK1 hK2
              refine wp_region_since0 (by kernel_rfl) (by kernel_rfl) ?_
              repeat (any_goals (first | go_big_quiet_step ((first | (go_at_call 30; with_reducible refine calls_sinceE HX (Nat.le_refl _) (l32Tray_any { x with OA := some ⟨b, off, none⟩ } r.k _ (hRV _))) | (go_at_call 52; with_reducible refine calls_sameB HV2 (l1In_any r.p 1 999 _)) | (go_at_call 52; with_reducible refine calls_sameB HV3 (l1In_any r.c 1 9999 _)) | (go_at_call 71; with_reducible refine calls_sinceE HK1 (Nat.le_refl _) (l32Key_any u _ HKU.out.1 HKU.out.2)) | (go_at_call 71; with_reducible refine calls_sinceE HK2 (Nat.le_refl _) (l32Key_any r _ HKR.out.1 HKR.out.2)))) | (refine wpQuiet_step (fun K hK => ?_); go_simp; split <;> (refine hK _ ?_; clear hK K))))
              all_goals (refine wpQuiet_nil ?_; rintro _ ⟨q1, rfl⟩)
              all_goals have hb1 := hb0.trans ((hbV.trans (q1.below.mono hbV.size)).mono hb0.size)
              all_goals go_wp2
              · go_ret
                refine ⟨?_, hb1⟩
                have hm : K2 ≤ K1 := by assumption
                rw [← HR.out, HS2.out, HRO.out, HB.out, decide_eq_false (by omega)]; rfl
              · have hm : K1 < K2 := by assumption
                go_roundw
                case rel => exact ⟨k + 1, some r, by omega, by go_num, ⟨⟨_, hbV.trans (q1.below.mono hbV.size)⟩, rfl⟩, by have h1 := HR.out; rw [HS2.out, HRO.out, HB.out, decide_eq_true hm] at h1; exact h1, HN.out HRO.out⟩
                case measure => simp [intOf]; omega
      · have hd0 : decide (X < 0) = true := decide_eq_true (by omega)
        have HXT : Hid (decide (0 ≤ X) = false) := decide_eq_false hX0
        rcases Nat.eq_zero_or_pos k with h0 | h0
        · have hd : decide (0 < k) = false := decide_eq_false (by omega)
          clear h0
          refine wp_region_since0 (by kernel_rfl) (by kernel_rfl) ?_
          repeat (any_goals (first | go_big_quiet_step ((go_at_call 30; with_reducible refine calls_sinceE HX (Nat.le_refl _) (l32Tray_any { x with OA := some ⟨b, off, none⟩ } r.k _ (hRV _)))) | (refine wpQuiet_step (fun K hK => ?_); go_simp; split <;> (refine hK _ ?_; clear hK K))))
          all_goals (refine wpQuiet_nil ?_; rintro _ ⟨q1, rfl⟩)
          all_goals have hb1 := hb0.trans ((hbV.trans (q1.below.mono hbV.size)).mono hb0.size)
          all_goals go_wp2
          go_ret
          refine ⟨?_, hb1⟩
          rw [← HR.out, HS.out, HOK.out, HH.out, HXT.out]; rfl
        · have h0' : (0 : Int) < (k : Int) := by omega
          refine wp_region_since0 (by kernel_rfl) (by kernel_rfl) ?_
          repeat (any_goals (first | go_big_quiet_step ((go_at_call 30; with_reducible refine calls_sinceE HX (Nat.le_refl _) (l32Tray_any { x with OA := some ⟨b, off, none⟩ } r.k _ (hRV _)))) | (refine wpQuiet_step (fun K hK => ?_); go_simp; split <;> (refine hK _ ?_; clear hK K))))
          all_goals (refine wpQuiet_nil ?_; rintro _ ⟨q1, rfl⟩)
          all_goals have hb1 := hb0.trans ((hbV.trans (q1.below.mono hbV.size)).mono hb0.size)
          all_goals go_wp2
          go_ret
          refine ⟨?_, hb1⟩
          rw [← HR.out, HS.out, HOK.out, HH.out, HXT.out]; rfl
    · have HK : Hid (outsOk x.t x.o = true) := by
        have h1 := HR.out
        rw [List.drop_eq_nil_of_le (by omega)] at h1; exact h1.symm
      clear hrd
      go_wp2
      go_ret
      refine ⟨?_, hb0.trans (q.below.mono hb0.size)⟩
      rw [HK.out, Bool.true_and]
      exact congrArg (fun b => Ending.returned (.bool b)) (decide_eq_decide.2 (by omega))
end Go.Proofs.YtdiojhjkcholiaaDoor
