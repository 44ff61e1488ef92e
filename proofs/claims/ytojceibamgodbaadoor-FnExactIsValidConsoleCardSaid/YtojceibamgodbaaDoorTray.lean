/- Trays: a struct of two ints; its helpers. (Printed by gen_struct.py) -/
import Derived.Test.YtojceibamgodbaaDoorIn
import Derived.Test.YtojceibamgodbaaDoorInts
import Derived.Test.YtojceibamgodbaaDoorMore
namespace Go.Proofs.YtojceibamgodbaaDoor
open Go.RowKit

structure Tray where
  k : Int
  c : Int
  deriving DecidableEq, Inhabited
def Tray.enc (r : Tray) : List Value := [.int .i64 r.k, .int .i64 r.c]
abbrev Tray.val (r : Tray) : Value := .agg #[.int .i64 r.k, .int .i64 r.c]
theorem Tray.enc_len (r : Tray) : r.enc.length = 2 := rfl
theorem Tray.of_ints_enc (ns : List Int) (h : ns.length = 2) : ∃ r : Tray, ns.map (Value.int .i64) = r.enc := by
  match ns, h with
  | [v0, v1], _ => exact ⟨⟨v0, v1⟩, rfl⟩
theorem Tray.of_ints (ns : List Int) (h : ns.length = 2) : ∃ r : Tray, Value.agg (ns.map (Value.int .i64)).toArray = r.val := by
  match ns, h with
  | [v0, v1], _ => exact ⟨⟨v0, v1⟩, rfl⟩
/-- It lies at a place, in every world since. -/
structure TrayS (B : Nat) (w : World) (b o : Nat) (r : Tray) : Prop where
  c0 : ∀ p : Since B w, p.val.cell? ⟨b, o, none⟩ = some (.int .i64 r.k)
  c1 : ∀ p : Since B w, p.val.cell? ⟨b, o + 1, none⟩ = some (.int .i64 r.c)
theorem TrayS.up {B B' : Nat} {w W : World} {b o : Nat} {r : Tray} (h : TrayS B w b o r) (hb : Below B w W) (hB : B ≤ B') : TrayS B' W b o r :=
  ⟨fun p => h.c0 ⟨p.val, hb.trans (p.below.mono hB)⟩, fun p => h.c1 ⟨p.val, hb.trans (p.below.mono hB)⟩⟩
theorem TrayS.of {W : World} {g : Nat} {t : TypeId} {r : Tray} (h : Lies W g t r.enc) : TrayS W.heap.size W g 0 r :=
  ⟨fun p => (p.cell h.lt).trans (h.cell 0), fun p => (p.cell h.lt).trans (h.cell 1)⟩
/-- A slice of them. -/
abbrev TraysR (w : World) (B : Nat) (A : Option Addr) (l : List Tray) : Prop := SlcR w B 2 A l.length (l.flatMap Tray.enc)
theorem TraysR.el {w : World} {B : Nat} {A : Option Addr} {l : List Tray} (h : TraysR w B A l) (hne : 0 < l.length) : ∃ b off, A = some ⟨b, off, none⟩ ∧ b < B ∧ ∀ i (hi : i < l.length), TrayS B w b (off + i * 2) l[i] := by
  obtain ⟨b, off, e, hb, hc⟩ := h.at_ hne
  refine ⟨b, off, e, hb, fun i hi => ?_⟩
  have key : ∀ j, j < 2 → ∀ u, (l[i].enc)[j]? = some u → ∀ p : Since B w, p.val.cell? ⟨b, off + i * 2 + j, none⟩ = some u := fun j hj u hu p => by
    rw [p.cell hb, Nat.add_assoc]
    exact hc _ u (by rw [flat_at Tray.enc 2 Tray.enc_len l i hi j hj]; exact hu)
  exact ⟨key 0 (by omega) _ rfl, key 1 (by omega) _ rfl⟩
theorem lies_trays {W : World} {g : Nat} {t : TypeId} {l : List Tray} (h : Lies W g t (l.flatMap Tray.enc)) (hn : l.length ≤ 9223372036854775807) : TraysR W W.heap.size (some ⟨g, 0, none⟩) l :=
  Lies.reads h (flat_len Tray.enc 2 Tray.enc_len l) hn
theorem infoTray : (Tryd.prog.info? 97).map (fun i => (i.zero, i.size, i.bytes)) = some (some (.agg #[.int .i64 0, .int .i64 0]), 2, 16) := by kernel_rfl

theorem toTray_any (r : Tray) (w : World) : Calls Tryd.prog 90 #[r.val] w fun e w' => e = .returned r.val ∧ Below w.heap.size w w' := by
  go_enter Tryd.func90, Tryd.ntmps90
  go_wp2
  refine bodyPost_ret (v := r.val) (by simp [results, Tryd.results90, go_sem]) rfl ⟨rfl, ?_⟩
  go_grown
theorem eqTray_any (r r' : Tray) (w : World) : Calls Tryd.prog 97 #[r.val, r'.val] w fun e w' => e = .returned (.bool (decide (r = r'))) ∧ Below w.heap.size w w' := by
  obtain ⟨v0, v1⟩ := r
  obtain ⟨u0, u1⟩ := r'
  go_enter Tryd.func97, Tryd.ntmps97
  go_wp2
  all_goals (go_ret; refine ⟨by simp_all, ?_⟩; go_grown)

theorem szTrays_any (A : Option Addr) (n c : Nat) (k : Int) (w : World) (hn : n ≤ 9223372036854775807) (_hk : 0 ≤ k) (_hk' : k ≤ 1048576) :
    Calls Tryd.prog 57 #[.slice A n c, .int .i64 k] w fun e w' => e = .returned (.int .i64 (lessen k n)) ∧ w = w' := by
  go_enter Tryd.func57, Tryd.ntmps57
  go_wp2
  all_goals (go_ret; refine ⟨?_, rfl⟩; unfold lessen; first | (rw [if_neg (by omega)]; rfl) | (rw [if_pos (by omega)]; rfl))

set_option maxHeartbeats 1000000 in
theorem toTrays_any (A : Option Addr) (c : Nat) (l : List Tray) (w : World) (h : TraysR w w.heap.size A l) (hn : l.length ≤ 1048576) :
    Calls Tryd.prog 60 #[.slice A l.length c] w fun e w' => ∃ g, e = .returned (.slice (some ⟨g, 0, none⟩) l.length l.length) ∧ w.heap.size ≤ g ∧ Lies w' g 97 (l.flatMap Tray.enc) ∧ Below w.heap.size w w' := by
  have hmk := fun W => run_make_all (P := Tryd.prog) 32 97 _ 2 16 Tryd.underlying32 infoTray l.length (by omega) (by omega) W
  have hrd := h.el
  go_enter Tryd.func60, Tryd.ntmps60
  go_wp2
  go_loopw [4] (fun i wr => ∃ (k : Nat) (rest : List Value), k ≤ l.length ∧ i = .int .i64 k ∧ Below w.heap.size w wr ∧ Lies wr w.heap.size 97 ((l.take k).flatMap Tray.enc ++ rest) ∧ rest.length = (l.length - k) * 2) (fun i _ => l.length - (intOf i).toNat)
  case atStart =>
    refine ⟨0, _, Nat.zero_le _, rfl, (Below.refl _ _).alloc (Nat.le_refl _) _, by simpa using Lies.new w _ _, by simp [size_madeCells]⟩
  case round =>
    obtain ⟨k, rest, hk, rfl, hbel, hl, hlen⟩ := hrel
    by_cases hlt : k < l.length
    · obtain ⟨b, off, rfl, hb, hcell⟩ := hrd (by omega)
      have HL := Lib.hid hl; clear hl
      have HN := Lib.hid hlen; clear hlen
      obtain ⟨x, hxe⟩ : ∃ x, x = l[k] := ⟨_, rfl⟩
      obtain ⟨c0, c1⟩ := hcell k hlt
      obtain ⟨q, rfl⟩ : ∃ q : Since w.heap.size w, wr = q.val := ⟨⟨wr, hbel⟩, rfl⟩
      rw [← hxe] at c0 c1
      have HX := Lib.hid hxe; clear hxe
      clear hcell hrd hbel
      go_wp2_with (first
        | (go_at_call 90; refine (toTray_any x _).mono ?_; rintro e w1 ⟨rfl, hb1⟩)
        | (with_reducible refine wpList_store_next (op := ⟨none, .store 97 (.tmp 21) (.tmp 20), _, _, _, _⟩) rfl _ _ _ rfl Tray.enc 2 Tray.enc_len l k hlt rest HN w.heap.size 97 x.enc.toArray ?c1 ?c2 ?c3 ?c4 ?c5 ?c6 ?_; rotate_right; intro w2 old2 hl2 hn2 hg2))
      case c1 => rfl
      case c2 => rfl
      case c3 => rw [HX.out]; rfl
      case c4 => kernel_rfl
      case c5 => simp [Tray.enc, Value.oneCell']
      case c6 => exact HL.out.below hb1 HL.out.lt
      go_wp2
      go_roundw
      case rel => exact ⟨k + 1, old2, by omega, by go_num, (q.below.trans (hb1.mono q.size)).grown hg2 (Nat.le_trans q.size hb1.size) (by rintro _ ⟨⟩; exact Nat.le_refl _), hl2, hn2⟩
      case measure => simp [intOf]; omega
    · have hk' : k = l.length := by omega
      subst hk'
      go_wp2
      go_ret
      refine ⟨w.heap.size, rfl, Nat.le_refl _, ?_, hbel⟩
      have h0 : rest = [] := List.eq_nil_of_length_eq_zero (by omega)
      rw [h0, List.take_of_length_le (Nat.le_refl _), List.append_nil] at hl
      exact hl

def sameTrays (a b : List Tray) : Bool := decide (a = b)
def sameTrayFrom : List Tray → List Tray → Bool
  | [], [] => true
  | x :: a, y :: b => decide (x = y) && sameTrayFrom a b
  | _, _ => false
theorem sameTrayFrom_eq : ∀ a b : List Tray, sameTrayFrom a b = sameTrays a b
  | [], [] => by simp [sameTrayFrom, sameTrays]
  | [], _ :: _ => by simp [sameTrayFrom, sameTrays]
  | _ :: _, [] => by simp [sameTrayFrom, sameTrays]
  | x :: a, y :: b => by simp [sameTrayFrom, sameTrays, sameTrayFrom_eq a b, Bool.decide_and]

set_option maxHeartbeats 1000000 in
theorem eqTrays_any (A B : Option Addr) (c d : Nat) (l m : List Tray) (w : World) (hA : TraysR w w.heap.size A l) (hB : TraysR w w.heap.size B m) :
    Calls Tryd.prog 69 #[.slice A l.length c, .slice B m.length d] w fun e w' => e = .returned (.bool (sameTrays l m)) ∧ Below w.heap.size w w' := by
  have hlA := hA.big
  have hlB := hB.big
  have hrA := hA.el
  have hrB := hB.el
  by_cases hne : l.length = m.length
  · have hF : Hid (sameTrayFrom l m = sameTrays l m) := sameTrayFrom_eq l m
    have hbn : ((l.length : Int) != (m.length : Int)) = false := by simp [hne]
    have HE := Lib.hid hne; clear hne
    go_enter Tryd.func69, Tryd.ntmps69
    go_wp2
    go_loopw [5] (fun i wr => ∃ k : Nat, k ≤ l.length ∧ i = .int .i64 k ∧ (∃ q : Since w.heap.size w, wr = q.val) ∧ Hid (sameTrayFrom (l.drop k) (m.drop k) = sameTrays l m)) (fun i _ => l.length - (intOf i).toNat)
    case atStart => exact ⟨0, Nat.zero_le _, rfl, ⟨Since.start _ _, rfl⟩, hF⟩
    case round =>
      obtain ⟨k, hk, rfl, ⟨q, rfl⟩, HR⟩ := hrel
      by_cases hlt : k < l.length
      · have hlt' : k < m.length := by have := HE.out; omega
        obtain ⟨b, off, rfl, hb, hcell⟩ := hrA (by omega)
        obtain ⟨b', off', rfl, hb', hcell'⟩ := hrB (by omega)
        obtain ⟨c0, c1⟩ := hcell k hlt
        obtain ⟨d0, d1⟩ := hcell' k hlt'
        obtain ⟨x, hxe⟩ : ∃ x, x = l[k] := ⟨_, rfl⟩
        obtain ⟨y, hye⟩ : ∃ x, x = m[k] := ⟨_, rfl⟩
        rw [← hxe] at c0 c1
        rw [← hye] at d0 d1
        have HX := Lib.hid hxe; clear hxe
        have HY := Lib.hid hye; clear hye
        clear hcell hcell' hrA hrB
        have hstep : Hid (sameTrayFrom (l.drop k) (m.drop k) = (decide (x = y) && sameTrayFrom (l.drop (k + 1)) (m.drop (k + 1)))) := by
          rw [List.drop_eq_getElem_cons hlt, List.drop_eq_getElem_cons hlt', HX.out, HY.out]; rfl
        obtain ⟨v, hv⟩ : ∃ v, decide (x = y) = v := ⟨_, rfl⟩
        have HV := Lib.hid hv; clear hv
        cases v
        all_goals
          go_wp2
          refine wp_region_since _ (by kernel_rfl) (by kernel_rfl) ?_
          repeat (any_goals (first | go_big_quiet_step ((go_at_call 97; refine calls_sinceB HV (Nat.le_refl _) (eqTray_any x y _))) | (refine wpQuiet_step (fun K hK => ?_); go_simp; split <;> (refine hK _ ?_; clear hK K))))
          all_goals (refine wpQuiet_nil ?_; rintro _ ⟨q1, rfl⟩)
          all_goals go_wp2
        · go_ret
          refine ⟨?_, q1.below⟩
          rw [← HR.out, hstep.out, HV.out]; rfl
        · go_roundw
          case rel => exact ⟨k + 1, by omega, by go_num, ⟨q1, rfl⟩, by have h1 := HR.out; rw [hstep.out, HV.out] at h1; exact h1⟩
          case measure => simp [intOf]; omega
      · have hk' : k = l.length := by omega
        go_wp2
        go_ret
        refine ⟨?_, q.below⟩
        rw [← HR.out, List.drop_eq_nil_of_le (by omega), List.drop_eq_nil_of_le (by have := HE.out; omega)]; rfl
  · have hbn : ((l.length : Int) != (m.length : Int)) = true := by rw [bne_iff_ne]; omega
    have hF : Hid (sameTrays l m = false) := by
      unfold sameTrays; rw [decide_eq_false_iff_not]; intro h; exact hne (by rw [h])
    go_enter Tryd.func69, Tryd.ntmps69
    go_wp2
    go_ret
    exact ⟨by rw [hF.out]; rfl, Below.refl _ _⟩

end Go.Proofs.YtojceibamgodbaaDoor
