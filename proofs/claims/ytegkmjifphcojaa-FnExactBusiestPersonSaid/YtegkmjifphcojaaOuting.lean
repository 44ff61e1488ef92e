/- Outings: a struct of three ints; its helpers. (Printed by gen_struct.py) -/
import Derived.Test.YtegkmjifphcojaaIn
import Derived.Test.YtegkmjifphcojaaInts
import Derived.Test.YtegkmjifphcojaaMore
namespace Go.Proofs.Ytegkmjifphcojaa
open Go.RowKit

structure Outing where
  k : Int
  p : Int
  c : Int
  deriving DecidableEq, Inhabited
def Outing.enc (r : Outing) : List Value := [.int .i64 r.k, .int .i64 r.p, .int .i64 r.c]
abbrev Outing.val (r : Outing) : Value := .agg #[.int .i64 r.k, .int .i64 r.p, .int .i64 r.c]
theorem Outing.enc_len (r : Outing) : r.enc.length = 3 := rfl
theorem Outing.of_ints_enc (ns : List Int) (h : ns.length = 3) : ∃ r : Outing, ns.map (Value.int .i64) = r.enc := by
  match ns, h with
  | [v0, v1, v2], _ => exact ⟨⟨v0, v1, v2⟩, rfl⟩
theorem Outing.of_ints (ns : List Int) (h : ns.length = 3) : ∃ r : Outing, Value.agg (ns.map (Value.int .i64)).toArray = r.val := by
  match ns, h with
  | [v0, v1, v2], _ => exact ⟨⟨v0, v1, v2⟩, rfl⟩
/-- It lies at a place, in every world since. -/
structure OutingS (B : Nat) (w : World) (b o : Nat) (r : Outing) : Prop where
  c0 : ∀ p : Since B w, p.val.cell? ⟨b, o, none⟩ = some (.int .i64 r.k)
  c1 : ∀ p : Since B w, p.val.cell? ⟨b, o + 1, none⟩ = some (.int .i64 r.p)
  c2 : ∀ p : Since B w, p.val.cell? ⟨b, o + 2, none⟩ = some (.int .i64 r.c)
theorem OutingS.up {B B' : Nat} {w W : World} {b o : Nat} {r : Outing} (h : OutingS B w b o r) (hb : Below B w W) (hB : B ≤ B') : OutingS B' W b o r :=
  ⟨fun p => h.c0 ⟨p.val, hb.trans (p.below.mono hB)⟩, fun p => h.c1 ⟨p.val, hb.trans (p.below.mono hB)⟩, fun p => h.c2 ⟨p.val, hb.trans (p.below.mono hB)⟩⟩
theorem OutingS.of {W : World} {g : Nat} {t : TypeId} {r : Outing} (h : Lies W g t r.enc) : OutingS W.heap.size W g 0 r :=
  ⟨fun p => (p.cell h.lt).trans (h.cell 0), fun p => (p.cell h.lt).trans (h.cell 1), fun p => (p.cell h.lt).trans (h.cell 2)⟩
/-- A slice of them. -/
abbrev OutingsR (w : World) (B : Nat) (A : Option Addr) (l : List Outing) : Prop := SlcR w B 3 A l.length (l.flatMap Outing.enc)
theorem OutingsR.el {w : World} {B : Nat} {A : Option Addr} {l : List Outing} (h : OutingsR w B A l) (hne : 0 < l.length) : ∃ b off, A = some ⟨b, off, none⟩ ∧ b < B ∧ ∀ i (hi : i < l.length), OutingS B w b (off + i * 3) l[i] := by
  obtain ⟨b, off, e, hb, hc⟩ := h.at_ hne
  refine ⟨b, off, e, hb, fun i hi => ?_⟩
  have key : ∀ j, j < 3 → ∀ u, (l[i].enc)[j]? = some u → ∀ p : Since B w, p.val.cell? ⟨b, off + i * 3 + j, none⟩ = some u := fun j hj u hu p => by
    rw [p.cell hb, Nat.add_assoc]
    exact hc _ u (by rw [flat_at Outing.enc 3 Outing.enc_len l i hi j hj]; exact hu)
  exact ⟨key 0 (by omega) _ rfl, key 1 (by omega) _ rfl, key 2 (by omega) _ rfl⟩
theorem lies_outings {W : World} {g : Nat} {t : TypeId} {l : List Outing} (h : Lies W g t (l.flatMap Outing.enc)) (hn : l.length ≤ 9223372036854775807) : OutingsR W W.heap.size (some ⟨g, 0, none⟩) l :=
  Lies.reads h (flat_len Outing.enc 3 Outing.enc_len l) hn
theorem infoOuting : (Try.prog.info? 104).map (fun i => (i.zero, i.size, i.bytes)) = some (some (.agg #[.int .i64 0, .int .i64 0, .int .i64 0]), 3, 24) := by kernel_rfl

theorem toOuting_any (r : Outing) (w : World) : Calls Try.prog 116 #[r.val] w fun e w' => e = .returned r.val ∧ Below w.heap.size w w' := by
  go_enter Try.func116, Try.ntmps116
  go_wp2
  refine bodyPost_ret (v := r.val) (by simp [results, Try.results116, go_sem]) rfl ⟨rfl, ?_⟩
  go_grown
theorem eqOuting_any (r r' : Outing) (w : World) : Calls Try.prog 120 #[r.val, r'.val] w fun e w' => e = .returned (.bool (decide (r = r'))) ∧ Below w.heap.size w w' := by
  obtain ⟨v0, v1, v2⟩ := r
  obtain ⟨u0, u1, u2⟩ := r'
  go_enter Try.func120, Try.ntmps120
  go_wp2
  all_goals (go_ret; refine ⟨by simp_all, ?_⟩; go_grown)

theorem szOutings_any (A : Option Addr) (n c : Nat) (k : Int) (w : World) (hn : n ≤ 9223372036854775807) (_hk : 0 ≤ k) (_hk' : k ≤ 1048576) :
    Calls Try.prog 65 #[.slice A n c, .int .i64 k] w fun e w' => e = .returned (.int .i64 (lessen k n)) ∧ w = w' := by
  go_enter Try.func65, Try.ntmps65
  go_wp2
  all_goals (go_ret; refine ⟨?_, rfl⟩; unfold lessen; first | (rw [if_neg (by omega)]; rfl) | (rw [if_pos (by omega)]; rfl))

set_option maxHeartbeats 1000000 in
theorem toOutings_any (A : Option Addr) (c : Nat) (l : List Outing) (w : World) (h : OutingsR w w.heap.size A l) (hn : l.length ≤ 1048576) :
    Calls Try.prog 68 #[.slice A l.length c] w fun e w' => ∃ g, e = .returned (.slice (some ⟨g, 0, none⟩) l.length l.length) ∧ w.heap.size ≤ g ∧ Lies w' g 104 (l.flatMap Outing.enc) ∧ Below w.heap.size w w' := by
  have hmk := fun W => run_make_all (P := Try.prog) 29 104 _ 3 24 Try.underlying29 infoOuting l.length (by omega) (by omega) W
  have hrd := h.el
  go_enter Try.func68, Try.ntmps68
  go_wp2
  go_loopw [4] (fun i wr => ∃ (k : Nat) (rest : List Value), k ≤ l.length ∧ i = .int .i64 k ∧ Below w.heap.size w wr ∧ Lies wr w.heap.size 104 ((l.take k).flatMap Outing.enc ++ rest) ∧ rest.length = (l.length - k) * 3) (fun i _ => l.length - (intOf i).toNat)
  case atStart =>
    refine ⟨0, _, Nat.zero_le _, rfl, (Below.refl _ _).alloc (Nat.le_refl _) _, by simpa using Lies.new w _ _, by simp [size_madeCells]⟩
  case round =>
    obtain ⟨k, rest, hk, rfl, hbel, hl, hlen⟩ := hrel
    by_cases hlt : k < l.length
    · obtain ⟨b, off, rfl, hb, hcell⟩ := hrd (by omega)
      have HL := Lib.hid hl; clear hl
      have HN := Lib.hid hlen; clear hlen
      obtain ⟨x, hxe⟩ : ∃ x, x = l[k] := ⟨_, rfl⟩
      obtain ⟨c0, c1, c2⟩ := hcell k hlt
      obtain ⟨q, rfl⟩ : ∃ q : Since w.heap.size w, wr = q.val := ⟨⟨wr, hbel⟩, rfl⟩
      rw [← hxe] at c0 c1 c2
      have HX := Lib.hid hxe; clear hxe
      clear hcell hrd hbel
      go_wp2_with (first
        | (go_at_call 116; refine (toOuting_any x _).mono ?_; rintro e w1 ⟨rfl, hb1⟩)
        | (with_reducible refine wpList_store_next (op := ⟨none, .store 104 (.tmp 21) (.tmp 20), _, _, _, _⟩) rfl _ _ _ rfl Outing.enc 3 Outing.enc_len l k hlt rest HN w.heap.size 104 x.enc.toArray ?c1 ?c2 ?c3 ?c4 ?c5 ?c6 ?_; rotate_right; intro w2 old2 hl2 hn2 hg2))
      case c1 => rfl
      case c2 => rfl
      case c3 => rw [HX.out]; rfl
      case c4 => kernel_rfl
      case c5 => simp [Outing.enc, Value.oneCell']
      case c6 => exact HL.out.below hb1 HL.out.lt
      go_wp2
      go_roundw
      case rel => exact ⟨k + 1, old2, by omega, by go_num, (q.below.trans (hb1.mono q.size)).grown hg2 (Nat.le_trans q.size hb1.size) (by rintro _ ⟨⟩; exact Nat.le_refl _), hl2, hn2⟩
      case measure => simp [intOf]; omega
    · have hk' : k = l.length := by omega
      subst hk'
      go_wp2
      go_ret
      refine ⟨w.heap.size, rfl, Nat.le_refl _, ?_, hbel⟩
      have h0 : rest = [] := List.eq_nil_of_length_eq_zero (by omega)
      rw [h0, List.take_of_length_le (Nat.le_refl _), List.append_nil] at hl
      exact hl

def sameOutings (a b : List Outing) : Bool := decide (a = b)
def sameOutingFrom : List Outing → List Outing → Bool
  | [], [] => true
  | x :: a, y :: b => decide (x = y) && sameOutingFrom a b
  | _, _ => false
theorem sameOutingFrom_eq : ∀ a b : List Outing, sameOutingFrom a b = sameOutings a b
  | [], [] => by simp [sameOutingFrom, sameOutings]
  | [], _ :: _ => by simp [sameOutingFrom, sameOutings]
  | _ :: _, [] => by simp [sameOutingFrom, sameOutings]
  | x :: a, y :: b => by simp [sameOutingFrom, sameOutings, sameOutingFrom_eq a b, Bool.decide_and]

set_option maxHeartbeats 1000000 in
theorem eqOutings_any (A B : Option Addr) (c d : Nat) (l m : List Outing) (w : World) (hA : OutingsR w w.heap.size A l) (hB : OutingsR w w.heap.size B m) :
    Calls Try.prog 71 #[.slice A l.length c, .slice B m.length d] w fun e w' => e = .returned (.bool (sameOutings l m)) ∧ Below w.heap.size w w' := by
  have hlA := hA.big
  have hlB := hB.big
  have hrA := hA.el
  have hrB := hB.el
  by_cases hne : l.length = m.length
  · have hF : Hid (sameOutingFrom l m = sameOutings l m) := sameOutingFrom_eq l m
    have hbn : ((l.length : Int) != (m.length : Int)) = false := by simp [hne]
    have HE := Lib.hid hne; clear hne
    go_enter Try.func71, Try.ntmps71
    go_wp2
    go_loopw [5] (fun i wr => ∃ k : Nat, k ≤ l.length ∧ i = .int .i64 k ∧ (∃ q : Since w.heap.size w, wr = q.val) ∧ Hid (sameOutingFrom (l.drop k) (m.drop k) = sameOutings l m)) (fun i _ => l.length - (intOf i).toNat)
    case atStart => exact ⟨0, Nat.zero_le _, rfl, ⟨Since.start _ _, rfl⟩, hF⟩
    case round =>
      obtain ⟨k, hk, rfl, ⟨q, rfl⟩, HR⟩ := hrel
      by_cases hlt : k < l.length
      · have hlt' : k < m.length := by have := HE.out; omega
        obtain ⟨b, off, rfl, hb, hcell⟩ := hrA (by omega)
        obtain ⟨b', off', rfl, hb', hcell'⟩ := hrB (by omega)
        obtain ⟨c0, c1, c2⟩ := hcell k hlt
        obtain ⟨d0, d1, d2⟩ := hcell' k hlt'
        obtain ⟨x, hxe⟩ : ∃ x, x = l[k] := ⟨_, rfl⟩
        obtain ⟨y, hye⟩ : ∃ x, x = m[k] := ⟨_, rfl⟩
        rw [← hxe] at c0 c1 c2
        rw [← hye] at d0 d1 d2
        have HX := Lib.hid hxe; clear hxe
        have HY := Lib.hid hye; clear hye
        clear hcell hcell' hrA hrB
        have hstep : Hid (sameOutingFrom (l.drop k) (m.drop k) = (decide (x = y) && sameOutingFrom (l.drop (k + 1)) (m.drop (k + 1)))) := by
          rw [List.drop_eq_getElem_cons hlt, List.drop_eq_getElem_cons hlt', HX.out, HY.out]; rfl
        obtain ⟨v, hv⟩ : ∃ v, decide (x = y) = v := ⟨_, rfl⟩
        have HV := Lib.hid hv; clear hv
        cases v
        all_goals
          go_wp2
          refine wp_region_since _ (by kernel_rfl) (by kernel_rfl) ?_
          repeat (any_goals (first | go_big_quiet_step ((go_at_call 120; refine calls_sinceB HV (Nat.le_refl _) (eqOuting_any x y _))) | (refine wpQuiet_step (fun K hK => ?_); go_simp; split <;> (refine hK _ ?_; clear hK K))))
          all_goals (refine wpQuiet_nil ?_; rintro _ ⟨q1, rfl⟩)
          all_goals go_wp2
        · go_ret
          refine ⟨?_, q1.below⟩
          rw [← HR.out, hstep.out, HV.out]; rfl
        · go_roundw
          case rel => exact ⟨k + 1, by omega, by go_num, ⟨q1, rfl⟩, by have h1 := HR.out; rw [hstep.out, HV.out] at h1; exact h1⟩
          case measure => simp [intOf]; omega
      · have hk' : k = l.length := by omega
        go_wp2
        go_ret
        refine ⟨?_, q.below⟩
        rw [← HR.out, List.drop_eq_nil_of_le (by omega), List.drop_eq_nil_of_le (by have := HE.out; omega)]; rfl
  · have hbn : ((l.length : Int) != (m.length : Int)) = true := by rw [bne_iff_ne]; omega
    have hF : Hid (sameOutings l m = false) := by
      unfold sameOutings; rw [decide_eq_false_iff_not]; intro h; exact hne (by rw [h])
    go_enter Try.func71, Try.ntmps71
    go_wp2
    go_ret
    exact ⟨by rw [hF.out]; rfl, Below.refl _ _⟩

set_option maxHeartbeats 1000000 in
theorem markOutings_any (A : Option Addr) (c n B : Nat) (k0 : Int) (cs : List Value) (w : World) (hk : -1000000000 ≤ k0) (hk' : k0 ≤ 1000000000) (hn : n ≤ 100000000) (h : OwnS w B 104 3 A n cs) :
    Calls Try.prog 81 #[.slice A n c, .int .i64 k0] w fun e w' => e = .returned (.int .i64 (k0 + 3 * n)) ∧ OwnS w' B 104 3 A n (encIs (ramp k0 (n * 3))) ∧ w.grownBy w' (A.map (·.block)) := by
  obtain ⟨hl, hn', h0 | ⟨g, rest, rfl, hg, hh⟩⟩ := h
  · obtain ⟨rfl, rfl⟩ := h0
    go_enter Try.func81, Try.ntmps81
    go_wp2
    refine wp_loop_rounds 1 ?_
    rw [rounds_succ]
    go_wp2
    go_ret
    exact ⟨by simp, ⟨by simp [ramp], by omega, .inl ⟨rfl, rfl⟩⟩, World.grownBy.refl w _⟩
  · have HF : Hid (Lies w g 104 (encIs (ramp k0 (0 * 3)) ++ (cs ++ rest)) ∧ n * 3 ≤ (cs ++ rest).length) := ⟨by simpa [ramp] using hh, by simp; omega⟩
    clear hh hl
    go_enter Try.func81, Try.ntmps81
    go_wp2
    go_loopw [1, 5] (fun kk i wr => ∃ (j : Nat) (more : List Value), j ≤ n ∧ i = .int .i64 j ∧ kk = .int .i64 (k0 + 3 * j) ∧ Hid (Lies wr g 104 (encIs (ramp k0 (j * 3)) ++ more) ∧ n * 3 ≤ j * 3 + more.length) ∧ w.grownBy wr (some g)) (fun _ i _ => n - (intOf i).toNat)
    case atStart => exact ⟨0, cs ++ rest, Nat.zero_le _, rfl, congrArg _ (by simp), ⟨HF.out.1, by have := HF.out.2; omega⟩, World.grownBy.refl w _⟩
    case round =>
      obtain ⟨j, more, hj, rfl, rfl, HR, hgr⟩ := hrel
      by_cases hlt : j < n
      · obtain ⟨u0, u1, u2, more', rfl⟩ : ∃ u0 u1 u2 more', more = u0 :: u1 :: u2 :: more' := by
          have h2 := HR.out.2
          have hle : 3 ≤ more.length := by omega
          clear HR HF
          exact split_3 hle
        have HE : Hid ((encIs (ramp k0 (j * 3))).length = j * 3) := by unfold Hid encIs; rw [List.length_map, ramp_len]
        have c0 : wr.cell? ⟨g, j * 3, none⟩ = some u0 := (HR.out.1.cell _).trans (at_behind HE.out 0)
        have f0 : wr.frozen? ⟨g, j * 3, none⟩ = false := HR.out.1.frozen _
        have c1 : wr.cell? ⟨g, j * 3 + 1, none⟩ = some u1 := (HR.out.1.cell _).trans (at_behind HE.out 1)
        have f1 : wr.frozen? ⟨g, j * 3 + 1, none⟩ = false := HR.out.1.frozen _
        have c2 : wr.cell? ⟨g, j * 3 + 2, none⟩ = some u2 := (HR.out.1.cell _).trans (at_behind HE.out 2)
        have f2 : wr.frozen? ⟨g, j * 3 + 2, none⟩ = false := HR.out.1.frozen _
        go_wp2
        go_roundw
        case rel =>
          refine ⟨j + 1, more', by omega, by go_num, congrArg _ (by omega), ⟨?_, by have := HR.out.2; simp only [List.length_cons] at this; omega⟩, grown_set (grown_set (grown_set (hgr)))⟩
          have h1 := HR.out.1
          have h1 := h1.set (j * 3) (.int .i64 (k0 + 3 * (j : Int)))
          have e0 := fun r u => set_behind (r := r) HE.out 0 (u : Value)
          rw [Nat.add_zero] at e0
          rw [e0] at h1
          have h1 := h1.set (j * 3 + 1) (.int .i64 (k0 + 3 * (j : Int) + 1))
          rw [set_behind HE.out 1] at h1
          have h1 := h1.set (j * 3 + 2) (.int .i64 (k0 + 3 * (j : Int) + 1 + 1))
          rw [set_behind HE.out 2] at h1
          have e : ramp k0 ((j + 1) * 3) = ramp k0 (j * 3) ++ [k0 + 3 * (j : Int), k0 + 3 * (j : Int) + 1, k0 + 3 * (j : Int) + 1 + 1] := by
            rw [show (j + 1) * 3 = j * 3 + 3 by omega]
            simp only [ramp_snoc, List.append_assoc, List.cons_append, List.nil_append]
            simp
            omega
          rw [e]
          unfold encIs at h1 ⊢
          rw [List.map_append, List.append_assoc]
          exact h1
        case measure => simp [intOf]; omega
      · have HJ : Hid (j = n) := by unfold Hid; omega
        go_wp2
        go_ret
        refine ⟨by rw [← HJ.out]; rfl, ⟨by rw [encIs_len, ramp_len, Nat.mul_one], hn', .inr ⟨g, more, rfl, hg, by rw [← HJ.out]; exact HR.out.1⟩⟩, hgr⟩

set_option maxHeartbeats 1000000 in
theorem heldOutings_any (A : Option Addr) (c n : Nat) (k0 : Int) (w : World) (hk : -1000000000 ≤ k0) (hk' : k0 ≤ 1000000000) (hn : n ≤ 100000000) (h : SlcR w w.heap.size 3 A n (encIs (ramp k0 (n * 3)))) :
    Calls Try.prog 99 #[.slice A n c, .int .i64 k0] w fun e w' => e = .returned (.int .i64 (k0 + 3 * n)) ∧ Below w.heap.size w w' := by
  have hrd := h.at_
  go_enter Try.func99, Try.ntmps99
  go_wp2
  go_loopw [1, 5] (fun kk i wr => ∃ j : Nat, j ≤ n ∧ i = .int .i64 j ∧ kk = .int .i64 (k0 + 3 * j) ∧ Below w.heap.size w wr) (fun _ i _ => n - (intOf i).toNat)
  case atStart => exact ⟨0, Nat.zero_le _, rfl, congrArg _ (by simp), Below.refl _ _⟩
  case round =>
    obtain ⟨j, hj, rfl, rfl, hbr⟩ := hrel
    by_cases hlt : j < n
    · obtain ⟨b, off, rfl, hb, hcell⟩ := hrd (by omega)
      obtain ⟨q, rfl⟩ : ∃ q : Since w.heap.size w, wr = q.val := ⟨⟨wr, hbr⟩, rfl⟩
      have key : ∀ (i : Nat), i < 3 → ∀ p : Since w.heap.size w, p.val.cell? ⟨b, off + j * 3 + i, none⟩ = some (.int .i64 (k0 + 3 * (j : Int) + i)) := fun i hi p => by
        rw [p.cell hb, Nat.add_assoc, hcell (j * 3 + i) _ (enc_ramp_at (by omega))]
        congr 2
        omega
      have c0 : ∀ p : Since w.heap.size w, p.val.cell? ⟨b, off + j * 3, none⟩ = some (.int .i64 (k0 + 3 * (j : Int))) := fun p => by
        have := key 0 (by omega) p
        simpa using this
      have c1 : ∀ p : Since w.heap.size w, p.val.cell? ⟨b, off + j * 3 + 1, none⟩ = some (.int .i64 (k0 + 3 * (j : Int) + 1)) := fun p => by
        have := key 1 (by omega) p
        rw [this]; congr 2 <;> omega
      have c2 : ∀ p : Since w.heap.size w, p.val.cell? ⟨b, off + j * 3 + 2, none⟩ = some (.int .i64 (k0 + 3 * (j : Int) + 1 + 1)) := fun p => by
        have := key 2 (by omega) p
        rw [this]; congr 2 <;> omega
      clear key hcell hrd
      go_wp2
      go_roundw
      case rel => exact ⟨j + 1, by omega, by go_num, congrArg _ (by omega), q.below⟩
      case measure => simp [intOf]; omega
    · have HJ : Hid (j = n) := by unfold Hid; omega
      clear hrd
      go_wp2
      go_ret
      exact ⟨by rw [← HJ.out]; rfl, hbr⟩

end Go.Proofs.Ytegkmjifphcojaa
