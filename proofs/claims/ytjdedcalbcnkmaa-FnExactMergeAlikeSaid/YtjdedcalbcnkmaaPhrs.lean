/- Lists of phrases: how they read; size, copy, equality. -/
import Derived.Test.YtjdedcalbcnkmaaPhrTo
namespace Go.Proofs.Ytjdedcalbcnkmaa
open Go.RowKit

/-- A phrase lies at a place, in every world since. -/
structure PhS (B : Nat) (w : World) (b o : Nat) (x : Ph) : Prop where
  c0 : ∀ p : Since B w, p.val.cell? ⟨b, o, none⟩ = some (.int .i64 x.s)
  c1 : ∀ p : Since B w, p.val.cell? ⟨b, o + 1, none⟩ = some (.int .i64 x.c)
  c2 : ∀ p : Since B w, p.val.cell? ⟨b, o + 2, none⟩ = some (.slice x.A x.f.length x.cap)
  c3 : ∀ p : Since B w, p.val.cell? ⟨b, o + 3, none⟩ = some (.int .i64 x.p)
theorem PhS.of {W : World} {g : Nat} {t : TypeId} {x : Ph} (h : Lies W g t x.enc) : PhS W.heap.size W g 0 x :=
  ⟨fun p => (p.cell h.lt).trans (h.cell 0), fun p => (p.cell h.lt).trans (h.cell 1), fun p => (p.cell h.lt).trans (h.cell 2), fun p => (p.cell h.lt).trans (h.cell 3)⟩
/-- A slice of phrases reads, and so do their faults. -/
structure PhsR (w : World) (B : Nat) (A : Option Addr) (l : List Ph) : Prop where
  slc : SlcR w B 4 A l.length (l.flatMap Ph.enc)
  fs : ∀ x ∈ l, IntsR w B x.A x.f
section
variable {w w' : World} {B : Nat} {A : Option Addr} {l : List Ph}
theorem PhsR.keep (h : PhsR w B A l) (hk : ∀ p : Addr, p.block < B → w'.cell? p = w.cell? p) : PhsR w' B A l := ⟨h.slc.keep hk, fun x hx => (h.fs x hx).keep hk⟩
theorem PhsR.mono {B' : Nat} (h : PhsR w B A l) (hB : B ≤ B') : PhsR w B' A l := ⟨h.slc.mono hB, fun x hx => (h.fs x hx).mono hB⟩
theorem PhsR.below (h : PhsR w B A l) (hb : Below B w w') : PhsR w' B A l := h.keep fun _ hp => hb.cell hp
theorem PhsR.then (h : PhsR w w.heap.size A l) (hb : Below w.heap.size w w') : PhsR w' w'.heap.size A l := (h.below hb).mono hb.size
theorem PhsR.ph (h : PhsR w B A l) (hne : 0 < l.length) : ∃ b off, A = some ⟨b, off, none⟩ ∧ b < B ∧ ∀ i (hi : i < l.length), PhS B w b (off + i * 4) l[i] := by
  obtain ⟨b, off, e, hb, hc⟩ := h.slc.at_ hne
  refine ⟨b, off, e, hb, fun i hi => ?_⟩
  have key : ∀ j, j < 4 → ∀ u, (l[i].enc)[j]? = some u → ∀ p : Since B w, p.val.cell? ⟨b, off + i * 4 + j, none⟩ = some u := fun j hj u hu p => by
    rw [p.cell hb, Nat.add_assoc]
    exact hc _ u (by rw [flat_at Ph.enc 4 Ph.enc_len l i hi j hj]; exact hu)
  exact ⟨key 0 (by omega) _ rfl, key 1 (by omega) _ rfl, key 2 (by omega) _ rfl, key 3 (by omega) _ rfl⟩
theorem PhsR.f (h : PhsR w B A l) {i : Nat} (hi : i < l.length) : IntsR w B l[i].A l[i].f := h.fs _ (List.getElem_mem hi)
end

/-- What a phrase holds. -/
def Ph.ph (x : Ph) : Int × Int × List Int × Int := (x.s, x.c, x.f, x.p)
theorem Ph.same_ph (x y : Ph) : Ph.same x y = decide (x.ph = y.ph) := by
  unfold Ph.same Ph.ph sameInts
  simp only [Prod.mk.injEq, Bool.decide_and]
  cases decide (x.s = y.s) <;> cases decide (x.c = y.c) <;> cases decide (x.f = y.f) <;> simp
def samePhs (a b : List Ph) : Bool := decide (a.map Ph.ph = b.map Ph.ph)
def samePhsFrom : List Ph → List Ph → Bool
  | [], [] => true
  | x :: a, y :: b => Ph.same x y && samePhsFrom a b
  | _, _ => false
theorem samePhsFrom_eq : ∀ a b : List Ph, samePhsFrom a b = samePhs a b
  | [], [] => by simp [samePhsFrom, samePhs]
  | [], _ :: _ => by simp [samePhsFrom, samePhs]
  | _ :: _, [] => by simp [samePhsFrom, samePhs]
  | x :: a, y :: b => by simp [samePhsFrom, samePhs, samePhsFrom_eq a b, Ph.same_ph, Bool.decide_and]

/-! ### Sizes -/
def fsum : List Ph → Nat
  | [] => 0
  | x :: l => x.f.length + fsum l
def need (l : List Ph) : Nat := l.length + fsum l
theorem fsum_step {l : List Ph} {k : Nat} (h : k < l.length) : fsum (l.drop k) = l[k].f.length + fsum (l.drop (k + 1)) := by
  rw [List.drop_eq_getElem_cons h]; rfl
theorem lessen_no {k : Int} {a b : Nat} (h : k < a) : lessen k (a + b) = -1 := by unfold lessen; rw [if_neg (by omega)]
theorem lessen_yes {k : Int} {a b : Nat} (_h : (a : Int) ≤ k) : lessen k (a + b) = lessen (k - a) b := by
  unfold lessen
  by_cases h : ((a + b : Nat) : Int) ≤ k
  · rw [if_pos h, if_pos (by omega)]; omega
  · rw [if_neg h, if_neg (by omega)]

set_option maxHeartbeats 1000000 in
theorem szPhraseS_any (A : Option Addr) (c : Nat) (l : List Ph) (k0 : Int) (w : World) (hk : 0 ≤ k0) (hk' : k0 ≤ 1048576) (h : PhsR w w.heap.size A l) :
    Calls Try.prog 16 #[.slice A l.length c, .int .i64 k0] w fun e w' => e = .returned (.int .i64 (lessen k0 (need l))) ∧ Below w.heap.size w w' := by
  have hl := h.slc.big
  have hrd := h.ph
  have hfb : Hid (∀ i (hi : i < l.length), l[i].f.length ≤ 9223372036854775807) := fun i hi => (h.f hi).big
  by_cases hle : (l.length : Int) ≤ k0
  · have HF : Hid (lessen (k0 - l.length) (fsum (l.drop 0)) = lessen k0 (need l)) := (lessen_yes hle).symm
    go_enter Try.func16, Try.ntmps16
    go_wp2
    go_loopw [1, 5] (fun m i wr => ∃ (k : Nat) (left : Int), k ≤ l.length ∧ i = .int .i64 k ∧ m = .int .i64 left ∧ 0 ≤ left ∧ left ≤ 1048576 ∧ Below w.heap.size w wr ∧ Hid (lessen left (fsum (l.drop k)) = lessen k0 (need l))) (fun _ i _ => l.length - (intOf i).toNat)
    case atStart => exact ⟨0, _, Nat.zero_le _, rfl, rfl, by omega, by omega, Below.refl _ _, HF⟩
    case round =>
      obtain ⟨k, left, hk1, rfl, rfl, l0, l1, hbr, HR⟩ := hrel
      obtain ⟨q, rfl⟩ : ∃ q : Since w.heap.size w, wr = q.val := ⟨⟨wr, hbr⟩, rfl⟩
      by_cases hlt : k < l.length
      · obtain ⟨b, off, rfl, hb, hcell⟩ := hrd (by omega)
        obtain ⟨c0, c1, c2, c3⟩ := hcell k hlt
        have hxl := hfb.out k hlt
        have hs := fsum_step hlt
        obtain ⟨x, hxe⟩ : ∃ x, x = l[k] := ⟨_, rfl⟩
        rw [← hxe] at c0 c1 c2 c3 hxl hs
        have HS := Lib.hid hs
        clear hxe hcell hrd hs
        have hsz := fun W => szPhrase_any x left W hxl l0 l1
        by_cases hle2 : (x.f.length : Int) ≤ left
        · have hv : lessen left x.f.length = left - x.f.length := by unfold lessen; rw [if_pos hle2]
          have HE : Hid (lessen (left - x.f.length) (fsum (l.drop (k + 1))) = lessen k0 (need l)) := by
            have h1 := HR.out; rw [HS.out, lessen_yes hle2] at h1; exact h1
          rw [hv] at hsz
          clear hv
          go_wp2_with (go_at_call 11; refine (hsz _).mono ?_; rintro e w1 ⟨rfl, hb1⟩)
          go_roundw
          case rel => exact ⟨k + 1, left - x.f.length, by omega, by go_num, rfl, by omega, by omega, q.below.trans (hb1.mono q.size), HE⟩
          case measure => simp [intOf]; omega
        · have hv : lessen left x.f.length = -1 := by unfold lessen; rw [if_neg hle2]
          have HE : Hid (-1 = lessen k0 (need l)) := by
            have h1 := HR.out; rw [HS.out, lessen_no (by omega)] at h1; exact h1
          rw [hv] at hsz
          clear hv
          go_wp2_with (go_at_call 11; refine (hsz _).mono ?_; rintro e w1 ⟨rfl, hb1⟩)
          go_ret
          exact ⟨by rw [← HE.out]; rfl, q.below.trans (hb1.mono q.size)⟩
      · have HE : Hid (left = lessen k0 (need l)) := by
          have h1 := HR.out; rw [List.drop_eq_nil_of_le (by omega)] at h1
          have h2 : lessen left (fsum []) = left := by unfold lessen fsum; rw [if_pos (by omega)]; omega
          rw [h2] at h1; exact h1
        clear hrd
        go_wp2
        go_ret
        exact ⟨by rw [← HE.out]; rfl, q.below⟩
  · have HF : Hid (lessen k0 (need l) = -1) := lessen_no (by omega)
    have hk0 : k0 - (l.length : Int) < 0 := by omega
    have hk1 : -9223372036854775808 ≤ k0 - (l.length : Int) := by omega
    go_enter Try.func16, Try.ntmps16
    go_wp2
    go_ret
    exact ⟨by rw [HF.out]; rfl, Below.refl _ _⟩

theorem splice_end (a rest vs : List Value) : splice (a ++ rest) a.length vs = a ++ vs ++ rest.drop vs.length := by
  unfold splice
  rw [List.take_left, List.drop_append, List.drop_eq_nil_of_le (by omega), List.nil_append, Nat.add_sub_cancel_left]

theorem infoPh : (Try.prog.info? 27).map (fun i => (i.zero, i.size, i.bytes)) = some (some (.agg #[.int .i64 0, .int .i64 0, .slice none 0 0, .int .i64 0]), 4, 48) := by kernel_rfl

/-- Phrases of the call's own at block G, whose faults lie in blocks of their own behind it, in ascending order. -/
structure OwnPhs (w : World) (G : Nat) (l : List Ph) (rest : List Value) : Prop where
  lies : Lies w G 27 (l.flatMap Ph.enc ++ rest)
  fs : ∀ x ∈ l, ∃ g, x.A = some ⟨g, 0, none⟩ ∧ G < g ∧ Lies w g 3 (encIs x.f)
  nd : l.Pairwise fun x y => x.A ≠ y.A
theorem OwnPhs.reads {w : World} {G : Nat} {l : List Ph} {rest : List Value} (h : OwnPhs w G l rest) (hn : l.length ≤ 9223372036854775807) (hf : ∀ x ∈ l, x.f.length ≤ 9223372036854775807) : PhsR w w.heap.size (some ⟨G, 0, none⟩) l :=
  ⟨⟨flat_len Ph.enc 4 Ph.enc_len l, hn, fun _ => ⟨G, 0, rfl, h.lies.lt, fun j u hu => by
      rw [Nat.zero_add, h.lies.cell, List.getElem?_append_left (List.getElem?_eq_some_iff.1 hu).1]; exact hu⟩⟩,
   fun x hx => by
    obtain ⟨g, hA, _, hL⟩ := h.fs x hx
    rw [hA]; exact hL.reads (encIs_len _) (hf x hx)⟩
theorem OwnPhs.below {w w' : World} {G : Nat} {l : List Ph} {rest : List Value} (h : OwnPhs w G l rest) (hb : Below w.heap.size w w') : OwnPhs w' G l rest :=
  ⟨h.lies.below hb h.lies.lt, fun x hx => by
    obtain ⟨g, hA, hG, hL⟩ := h.fs x hx
    exact ⟨g, hA, hG, hL.below hb hL.lt⟩, h.nd⟩

set_option maxHeartbeats 2000000 in
theorem toPhraseS_any (A : Option Addr) (c : Nat) (l : List Ph) (w : World) (h : PhsR w w.heap.size A l) (hn : need l ≤ 1048576) :
    Calls Try.prog 18 #[.slice A l.length c] w fun e w' => ∃ G, ∃ m : List Ph, e = .returned (.slice (some ⟨G, 0, none⟩) m.length m.length) ∧ w.heap.size ≤ G ∧ m.map Ph.ph = l.map Ph.ph ∧ OwnPhs w' G m [] ∧ Below w.heap.size w w' := by
  have hlen : l.length ≤ 1048576 := by unfold need at hn; omega
  have hmk := fun W => run_make_all (P := Try.prog) 35 27 _ 4 48 Try.underlying35 infoPh l.length (by omega) (by omega) W
  have hrd := h.ph
  have hfl : ∀ (l : List Ph) (i : Nat) (hi : i < l.length), l[i].f.length ≤ fsum l := by
    intro l
    induction l with
    | nil => intro i hi; simp at hi
    | cons x l ih =>
      intro i hi
      cases i with
      | zero => simp [fsum]
      | succ i => have := ih i (by simpa using hi); simp only [List.getElem_cons_succ, fsum]; omega
  have HFL : Hid (∀ i (hi : i < l.length), l[i].f.length ≤ 1048576) := fun i hi => by have := hfl l i hi; unfold need at hn; omega
  clear hfl
  go_enter Try.func18, Try.ntmps18
  go_wp2
  go_loopw [4] (fun i wr => ∃ (k : Nat) (m : List Ph) (rest : List Value), k ≤ l.length ∧ i = .int .i64 k ∧ Below w.heap.size w wr ∧ Hid (m.length = k ∧ m.map Ph.ph = (l.take k).map Ph.ph ∧ OwnPhs wr w.heap.size m rest ∧ rest.length = (l.length - k) * 4)) (fun i _ => l.length - (intOf i).toNat)
  case atStart =>
    refine ⟨0, [], _, Nat.zero_le _, rfl, (Below.refl _ _).alloc (Nat.le_refl _) _, ⟨rfl, rfl, ⟨by simpa using Lies.new w _ _, by simp, List.Pairwise.nil⟩, by simp [size_madeCells]⟩⟩
  case round =>
    obtain ⟨k, m, rest, hk, rfl, hbel, HR⟩ := hrel
    obtain ⟨q, rfl⟩ : ∃ q : Since w.heap.size w, wr = q.val := ⟨⟨wr, hbel⟩, rfl⟩
    by_cases hlt : k < l.length
    · obtain ⟨b, off, rfl, hb, hcell⟩ := hrd (by omega)
      obtain ⟨c0, c1, c2, c3⟩ := hcell k hlt
      have hfx : IntsR q.val q.val.heap.size l[k].A l[k].f := ((h.f hlt).below q.below).mono q.size
      have hxl := HFL.out k hlt
      have HT : Hid ((l.take (k + 1)).map Ph.ph = (l.take k).map Ph.ph ++ [l[k].ph]) := by
        unfold Hid; rw [List.take_succ_eq_append_getElem hlt, List.map_append]; rfl
      obtain ⟨x, hxe⟩ : ∃ x, x = l[k] := ⟨_, rfl⟩
      rw [← hxe] at c0 c1 c2 c3 hfx hxl HT
      clear hxe hcell hrd
      go_wp2_with (first
        | (go_at_call 13; refine (toPhrase_any x _ hfx hxl).mono ?_; rintro e w1 ⟨g, rfl, hg, hLg, hb1⟩)
        | (with_reducible refine wpList_store_row (op := ⟨none, .store 27 (.tmp 21) (.tmp 20), _, _, _, _⟩) rfl _ _ _ rfl w.heap.size (k * 4) 27 (Ph.enc { x with A := some ⟨g, 0, none⟩, cap := x.f.length }).toArray ?c1 ?c2 (m.flatMap Ph.enc ++ rest) ?c3 ?c4 ?c5 ?c6 ?_; rotate_right; intro w2 hl2 hg2))
      case c1 => rfl
      case c2 => rfl
      case c3 => exact HR.out.2.2.1.lies.below hb1 HR.out.2.2.1.lies.lt
      case c4 => have h1 := HR.out.2.2.2; have h2 := HR.out.1; simp [flat_len Ph.enc 4 Ph.enc_len, Ph.enc, h2, h1]; omega
      case c5 => kernel_rfl
      case c6 => simp [Ph.enc, Value.oneCell']
      have hL2 := Lib.hid hl2; clear hl2
      go_wp2
      go_roundw
      case rel =>
        refine ⟨k + 1, m ++ [{ x with A := some ⟨g, 0, none⟩, cap := x.f.length }], rest.drop 4, by omega, by go_num, (q.below.trans (hb1.mono q.size)).grown hg2 (Nat.le_trans q.size hb1.size) (by rintro _ ⟨⟩; exact Nat.le_refl _), ⟨by simp [HR.out.1], by rw [HT.out, List.map_append, HR.out.2.1]; rfl, ⟨?_, ?_, ?_⟩, by have h1 := HR.out.2.2.2; rw [List.length_drop, h1]; omega⟩⟩
        · have h3 := hL2.out
          have h2 : (m.flatMap Ph.enc).length = k * 4 := by rw [flat_len Ph.enc 4 Ph.enc_len, HR.out.1]
          rw [← h2] at h3
          rw [splice_end] at h3
          simpa [Ph.enc] using h3
        · intro y hy
          rcases List.mem_append.1 hy with hy | hy
          · obtain ⟨g0, hA, hG, hL⟩ := HR.out.2.2.1.fs y hy
            exact ⟨g0, hA, hG, (hL.below hb1 hL.lt).kept hg2 (by intro e; injection e; omega)⟩
          · obtain rfl := List.mem_singleton.1 hy
            exact ⟨g, rfl, Nat.lt_of_lt_of_le HR.out.2.2.1.lies.lt hg, hLg.kept hg2 (by intro e; injection e with e; have := HR.out.2.2.1.lies.lt; omega)⟩
        · refine List.pairwise_append.2 ⟨HR.out.2.2.1.nd, List.pairwise_singleton _ _, fun y hy z hz => ?_⟩
          obtain rfl := List.mem_singleton.1 hz
          obtain ⟨g0, hA, _, hL⟩ := HR.out.2.2.1.fs y hy
          rw [hA]
          intro e; injection e with e; injection e with e; have := hL.lt; omega
      case measure => simp [intOf]; omega
    · have HK : Hid (k = l.length) := by unfold Hid; omega
      clear hrd
      go_wp2
      go_ret
      have h0 : rest = [] := List.eq_nil_of_length_eq_zero (by have := HR.out.2.2.2; have := HK.out; omega)
      have h1 := HR.out
      rw [h0, List.take_of_length_le (by have := HK.out; omega)] at h1
      exact ⟨w.heap.size, m, by rw [h1.1, HK.out]; rfl, Nat.le_refl _, h1.2.1, h1.2.2.1, q.below⟩

theorem len_of_ph {a b : List Ph} (h : a.map Ph.ph = b.map Ph.ph) : a.length = b.length := by simpa using congrArg List.length h

set_option maxHeartbeats 1000000 in
theorem eqPhraseS_any (A B : Option Addr) (c d : Nat) (l m : List Ph) (w : World) (hA : PhsR w w.heap.size A l) (hB : PhsR w w.heap.size B m) :
    Calls Try.prog 20 #[.slice A l.length c, .slice B m.length d] w fun e w' => e = .returned (.bool (samePhs l m)) ∧ Below w.heap.size w w' := by
  have hlA := hA.slc.big
  have hlB := hB.slc.big
  have hrA := hA.ph
  have hrB := hB.ph
  have hfA : Hid (∀ i (hi : i < l.length), IntsR w w.heap.size l[i].A l[i].f) := fun i hi => hA.f hi
  have hfB : Hid (∀ i (hi : i < m.length), IntsR w w.heap.size m[i].A m[i].f) := fun i hi => hB.f hi
  by_cases hne : l.length = m.length
  · have hF : Hid (samePhsFrom l m = samePhs l m) := samePhsFrom_eq l m
    have hbn : ((l.length : Int) != (m.length : Int)) = false := by simp [hne]
    have HE := Lib.hid hne; clear hne
    go_enter Try.func20, Try.ntmps20
    go_wp2
    go_loopw [5] (fun i wr => ∃ k : Nat, k ≤ l.length ∧ i = .int .i64 k ∧ (∃ q : Since w.heap.size w, wr = q.val) ∧ Hid (samePhsFrom (l.drop k) (m.drop k) = samePhs l m)) (fun i _ => l.length - (intOf i).toNat)
    case atStart => exact ⟨0, Nat.zero_le _, rfl, ⟨Since.start _ _, rfl⟩, hF⟩
    case round =>
      obtain ⟨k, hk, rfl, ⟨q, rfl⟩, HR⟩ := hrel
      by_cases hlt : k < l.length
      · have hlt' : k < m.length := by have := HE.out; omega
        obtain ⟨b, off, rfl, hb, hcell⟩ := hrA (by omega)
        obtain ⟨b', off', rfl, hb', hcell'⟩ := hrB (by omega)
        obtain ⟨c0, c1, c2, c3⟩ := hcell k hlt
        obtain ⟨d0, d1, d2, d3⟩ := hcell' k hlt'
        have hx : ∀ p : Since w.heap.size w, IntsR p.val p.val.heap.size l[k].A l[k].f := fun p => SlcR.up (hfA.out k hlt) p.below (Nat.le_refl _)
        have hy : ∀ p : Since w.heap.size w, IntsR p.val p.val.heap.size m[k].A m[k].f := fun p => SlcR.up (hfB.out k hlt') p.below (Nat.le_refl _)
        have hstep : Hid (samePhsFrom (l.drop k) (m.drop k) = (Ph.same l[k] m[k] && samePhsFrom (l.drop (k + 1)) (m.drop (k + 1)))) := by
          rw [List.drop_eq_getElem_cons hlt, List.drop_eq_getElem_cons hlt']; rfl
        obtain ⟨x, hxe⟩ : ∃ x, x = l[k] := ⟨_, rfl⟩
        obtain ⟨y, hye⟩ : ∃ x, x = m[k] := ⟨_, rfl⟩
        rw [← hxe] at c0 c1 c2 c3 hx hstep
        rw [← hye] at d0 d1 d2 d3 hy hstep
        clear hxe hye hcell hcell' hrA hrB
        obtain ⟨v, hv⟩ : ∃ v, Ph.same x y = v := ⟨_, rfl⟩
        have HV := Lib.hid hv; clear hv
        cases v
        all_goals
          go_wp2
          refine wp_region_since _ (by kernel_rfl) (by kernel_rfl) ?_
          repeat (any_goals (first | go_big_quiet_step ((go_at_call 15; refine calls_sinceB HV (Nat.le_refl _) (eqPhrase_any x y _ (hx _) (hy _)))) | (refine wpQuiet_step (fun K hK => ?_); go_simp; split <;> (refine hK _ ?_; clear hK K))))
          all_goals (refine wpQuiet_nil ?_; rintro _ ⟨q1, rfl⟩)
          all_goals go_wp2
        · go_ret
          refine ⟨?_, q1.below⟩
          rw [← HR.out, hstep.out, HV.out]; rfl
        · go_roundw
          case rel => exact ⟨k + 1, by omega, by go_num, ⟨q1, rfl⟩, by have h1 := HR.out; rw [hstep.out, HV.out] at h1; exact h1⟩
          case measure => simp [intOf]; omega
      · have HK : Hid (samePhs l m = true) := by
          have h1 := HR.out
          rw [List.drop_eq_nil_of_le (by omega), List.drop_eq_nil_of_le (by have := HE.out; omega)] at h1; exact h1.symm
        clear hrA hrB
        go_wp2
        go_ret
        exact ⟨by rw [HK.out]; rfl, q.below⟩
  · have hbn : ((l.length : Int) != (m.length : Int)) = true := by rw [bne_iff_ne]; omega
    have hF : Hid (samePhs l m = false) := by
      unfold samePhs; show decide _ = false; rw [decide_eq_false_iff_not]; intro h; exact hne (len_of_ph h)
    go_enter Try.func20, Try.ntmps20
    go_wp2
    go_ret
    exact ⟨by rw [hF.out]; rfl, Below.refl _ _⟩
end Go.Proofs.Ytjdedcalbcnkmaa
