/- Fc03: the texts Alike MergeM PhrOwn SortP SortC SortI SortT SortB, joined into one file. -/
import Derived.Laws.OwnMore
import Derived.Deep.DeepCutAuto
import Derived.Test.YtchkjiadnackaaaFc01
import Derived.Test.YtchkjiadnackaaaFc02

set_option linter.unusedVariables false

/- Are two phrases alike? In the reference and in the program (slices.Equal). -/
namespace Go.Proofs.Ytchkjiadnackaaa
open Go.RowKit

set_option maxHeartbeats 1000000 in
theorem equalInts_any (A B : Option Addr) (c d : Nat) (l m : List Int) (w : World) (hA : IntsR w w.heap.size A l) (hB : IntsR w w.heap.size B m) :
    Calls Try.prog 62 #[.slice A l.length c, .slice B m.length d] w fun e w' => e = .returned (.bool (sameInts l m)) ∧ Below w.heap.size w w' := by
  have hlA := hA.big
  have hlB := hB.big
  have hrA := hA.ints
  have hrB := hB.ints
  by_cases hne : l.length = m.length
  · have hF : Hid (sameIntsFrom l m = sameInts l m) := sameIntsFrom_eq l m
    have hbn : ((l.length : Int) != (m.length : Int)) = false := by simp [hne]
    have HE := Lib.hid hne; clear hne
    go_enter Try.func62, Try.ntmps62
    go_wp2
    go_loopw [5, 13] (fun _ i wr => ∃ k : Nat, k ≤ l.length ∧ i = .int .i64 k ∧ Below w.heap.size w wr ∧ Hid (sameIntsFrom (l.drop k) (m.drop k) = sameInts l m)) (fun _ i _ => l.length - (intOf i).toNat)
    case atStart => exact ⟨0, Nat.zero_le _, rfl, Below.refl _ _, hF⟩
    case round =>
      obtain ⟨k, hk, rfl, hbr, HR⟩ := hrel
      by_cases hlt : k < l.length
      · have hlt' : k < m.length := by have := HE.out; omega
        obtain ⟨b, off, rfl, hb, hcell⟩ := hrA (by omega)
        obtain ⟨b', off', rfl, hb', hcell'⟩ := hrB (by omega)
        have c0 := hcell k hlt
        have d0 := hcell' k hlt'
        have hstep : Hid (sameIntsFrom (l.drop k) (m.drop k) = (decide (l[k] = m[k]) && sameIntsFrom (l.drop (k + 1)) (m.drop (k + 1)))) := by
          rw [List.drop_eq_getElem_cons hlt, List.drop_eq_getElem_cons hlt']; rfl
        obtain ⟨x, hxe⟩ : ∃ x, x = l[k] := ⟨_, rfl⟩
        obtain ⟨y, hye⟩ : ∃ x, x = m[k] := ⟨_, rfl⟩
        rw [← hxe] at c0 hstep
        rw [← hye] at d0 hstep
        clear hxe hye
        clear hcell hcell' hrA hrB
        obtain ⟨q, rfl⟩ : ∃ q : Since w.heap.size w, wr = q.val := ⟨⟨wr, hbr⟩, rfl⟩
        by_cases hxy : x = y
        · have hv : (x != y) = false := by simp [hxy]
          have HV : Hid (decide (x = y) = true) := decide_eq_true hxy
          clear hxy
          go_wp2
          refine wp_region_since _ (by kernel_rfl) (by kernel_rfl) ?_
          repeat (any_goals (first | go_big_quiet_step ((fail)) | (refine wpQuiet_step (fun K hK => ?_); go_simp; split <;> (refine hK _ ?_; clear hK K))))
          all_goals (refine wpQuiet_nil ?_; rintro _ ⟨q1, rfl⟩)
          go_wp2
          go_roundw
          case rel => exact ⟨k + 1, by omega, by go_num, q1.below, by have h1 := HR.out; rw [hstep.out, HV.out] at h1; exact h1⟩
          case measure => simp [intOf]; omega
        · have hv : (x != y) = true := by simp [hxy]
          have HV : Hid (decide (x = y) = false) := decide_eq_false hxy
          clear hxy
          go_wp2
          refine wp_region_since _ (by kernel_rfl) (by kernel_rfl) ?_
          repeat (any_goals (first | go_big_quiet_step ((fail)) | (refine wpQuiet_step (fun K hK => ?_); go_simp; split <;> (refine hK _ ?_; clear hK K))))
          all_goals (refine wpQuiet_nil ?_; rintro _ ⟨q1, rfl⟩)
          go_wp2
          go_ret
          refine ⟨?_, q1.below⟩
          rw [← HR.out, hstep.out, HV.out]; rfl
      · have HK : Hid (sameInts l m = true) := by
          have h1 := HR.out
          rw [List.drop_eq_nil_of_le (by omega), List.drop_eq_nil_of_le (by have := HE.out; omega)] at h1; exact h1.symm
        clear hrA hrB
        go_wp2
        go_ret
        exact ⟨by rw [HK.out]; rfl, hbr⟩
  · have hbn : ((l.length : Int) != (m.length : Int)) = true := by rw [bne_iff_ne]; omega
    have hF : Hid (sameInts l m = false) := by
      unfold sameInts; show decide (l = m) = false; rw [decide_eq_false_iff_not]; intro h; exact hne (by rw [h])
    go_enter Try.func62, Try.ntmps62
    go_wp2
    go_ret
    exact ⟨by rw [hF.out]; rfl, Below.refl _ _⟩

/-- The same state, faults and price. -/
def Ph.alike (x y : Ph) : Bool := decide (x.s = y.s) && sameInts x.f y.f && decide (x.p = y.p)

set_option maxHeartbeats 2000000 in
theorem alike_any (x y : Ph) (w : World) (hx : IntsR w w.heap.size x.A x.f) (hy : IntsR w w.heap.size y.A y.f) :
    Calls Try.prog 44 #[x.val, y.val] w fun e w' => e = .returned (.bool (Ph.alike x y)) ∧ Below w.heap.size w w' := by
  have L1 := (Lies.new w 42 #[.int .i64 x.s, .int .i64 x.c, .slice x.A x.f.length x.cap, .int .i64 x.p]).alloc (.cells #[.int .i64 y.s, .int .i64 y.c, .slice y.A y.f.length y.cap, .int .i64 y.p] 42)
  have L2 := Lies.new1 w (.cells #[.int .i64 x.s, .int .i64 x.c, .slice x.A x.f.length x.cap, .int .i64 x.p] 42) 42 #[.int .i64 y.s, .int .i64 y.c, .slice y.A y.f.length y.cap, .int .i64 y.p]
  have b1 := (Below.refl w.heap.size w).alloc (Nat.le_refl _) (.cells #[.int .i64 x.s, .int .i64 x.c, .slice x.A x.f.length x.cap, .int .i64 x.p] 42)
  have b2 := b1.alloc b1.size (.cells #[.int .i64 y.s, .int .i64 y.c, .slice y.A y.f.length y.cap, .int .i64 y.p] 42)
  clear b1
  have hRx := SlcR.up hx b2 (Nat.le_refl _)
  have hRy := SlcR.up hy b2 (Nat.le_refl _)
  have HA : Hid (Ph.alike x y = (decide (x.s = y.s) && sameInts x.f y.f && decide (x.p = y.p))) := rfl
  by_cases h1 : x.s = y.s
  · have n1 : (x.s == y.s) = true := by simp [h1]
    have n1' : decide (x.s = y.s) = true := decide_eq_true h1
    have D1 := Lib.hid h1; clear h1
    cases hv : sameInts x.f y.f
    · rw [hv] at HA
      have HV := Lib.hid hv; clear hv
      go_enter Try.func44, Try.ntmps44
      go_wp2_with (go_at_call 62; refine (equalInts_any x.A y.A x.cap y.cap x.f y.f _ hRx hRy).mono ?_; rw [HV.out]; rintro e w1 ⟨rfl, hb1⟩)
      go_ret
      exact ⟨by rw [HA.out, n1']; rfl, bthen b2 hb1⟩
    · rw [hv] at HA
      have HV := Lib.hid hv; clear hv
      go_enter Try.func44, Try.ntmps44
      go_wp2_with fail
      generalize ((w.alloc (.cells #[.int .i64 x.s, .int .i64 x.c, .slice x.A x.f.length x.cap, .int .i64 x.p] 42)).alloc (.cells #[.int .i64 y.s, .int .i64 y.c, .slice y.A y.f.length y.cap, .int .i64 y.p] 42)) = W at L1 L2 b2 hRx hRy ⊢
      refine (equalInts_any x.A y.A x.cap y.cap x.f y.f _ hRx hRy).mono ?_
      rw [HV.out]; rintro e w1 ⟨rfl, hb1⟩
      have d3 := (L1.below hb1 L1.lt).cell 3
      have e3 := (L2.below hb1 L2.lt).cell 3
      simp only [List.getElem?_cons_zero, List.getElem?_cons_succ] at d3 e3
      by_cases h2 : x.p = y.p
      · have n2 : (x.p == y.p) = true := by simp [h2]
        have n2' : decide (x.p = y.p) = true := decide_eq_true h2
        clear h2
        go_wp2
        go_ret
        exact ⟨by rw [HA.out, n1', n2']; rfl, bthen b2 hb1⟩
      · have n2 : (x.p == y.p) = false := by simp [h2]
        have n2' : decide (x.p = y.p) = false := decide_eq_false h2
        clear h2
        go_wp2
        go_ret
        exact ⟨by rw [HA.out, n1', n2']; rfl, bthen b2 hb1⟩
  · have n1 : (x.s == y.s) = false := by simp [h1]
    have n1' : decide (x.s = y.s) = false := decide_eq_false h1
    clear h1
    go_enter Try.func44, Try.ntmps44
    go_wp2
    go_ret
    exact ⟨by rw [HA.out, n1']; rfl, b2⟩

set_option maxHeartbeats 2000000 in
theorem l30Alike_any (x y : Ph) (w : World) (hx : IntsR w w.heap.size x.A x.f) (hy : IntsR w w.heap.size y.A y.f) :
    Calls Try.prog 45 #[x.val, y.val] w fun e w' => e = .returned (.bool (Ph.alike x y)) ∧ Below w.heap.size w w' := by
  have L1 := (Lies.new w 42 #[.int .i64 x.s, .int .i64 x.c, .slice x.A x.f.length x.cap, .int .i64 x.p]).alloc (.cells #[.int .i64 y.s, .int .i64 y.c, .slice y.A y.f.length y.cap, .int .i64 y.p] 42)
  have L2 := Lies.new1 w (.cells #[.int .i64 x.s, .int .i64 x.c, .slice x.A x.f.length x.cap, .int .i64 x.p] 42) 42 #[.int .i64 y.s, .int .i64 y.c, .slice y.A y.f.length y.cap, .int .i64 y.p]
  have b1 := (Below.refl w.heap.size w).alloc (Nat.le_refl _) (.cells #[.int .i64 x.s, .int .i64 x.c, .slice x.A x.f.length x.cap, .int .i64 x.p] 42)
  have b2 := b1.alloc b1.size (.cells #[.int .i64 y.s, .int .i64 y.c, .slice y.A y.f.length y.cap, .int .i64 y.p] 42)
  clear b1
  have hRx := SlcR.up hx b2 (Nat.le_refl _)
  have hRy := SlcR.up hy b2 (Nat.le_refl _)
  have HA : Hid (Ph.alike x y = (decide (x.s = y.s) && sameInts x.f y.f && decide (x.p = y.p))) := rfl
  have hlA := hx.big
  have hlB := hy.big
  by_cases h1 : x.s = y.s
  · have n1 : (x.s != y.s) = false := by simp [h1]
    have n1' : decide (x.s = y.s) = true := decide_eq_true h1
    have D1 := Lib.hid h1; clear h1
    by_cases h2 : x.p = y.p
    · have n2 : (x.p != y.p) = false := by simp [h2]
      have n2' : decide (x.p = y.p) = true := decide_eq_true h2
      have D2 := Lib.hid h2; clear h2
      by_cases h3 : x.f.length = y.f.length
      · have n3 : ((x.f.length : Int) != (y.f.length : Int)) = false := by simp [h3]
        have HE := Lib.hid h3; clear h3
        have hF : Hid (sameIntsFrom x.f y.f = sameInts x.f y.f) := sameIntsFrom_eq x.f y.f
        go_enter Try.func45, Try.ntmps45
        go_wp2
        generalize ((w.alloc (.cells #[.int .i64 x.s, .int .i64 x.c, .slice x.A x.f.length x.cap, .int .i64 x.p] 42)).alloc (.cells #[.int .i64 y.s, .int .i64 y.c, .slice y.A y.f.length y.cap, .int .i64 y.p] 42)) = W at L1 L2 b2 hRx hRy ⊢
        generalize w.heap.size = g at L1 L2 ⊢
        have k2 : ∀ p : Since W.heap.size W, p.val.cell? ⟨g, 2, none⟩ = some (.slice x.A x.f.length x.cap) := fun p => (p.cell L1.lt).trans (L1.cell 2)
        have j2 : ∀ p : Since W.heap.size W, p.val.cell? ⟨g + 1, 2, none⟩ = some (.slice y.A y.f.length y.cap) := fun p => (p.cell L2.lt).trans (L2.cell 2)
        have hrA := IntsR.ints hRx
        have hrB := IntsR.ints hRy
        clear L1 L2 hx hy hRx hRy
        go_loopw [5] (fun i wr => ∃ k : Nat, k ≤ x.f.length ∧ i = .int .i64 k ∧ (∃ q : Since W.heap.size W, wr = q.val) ∧ Hid (sameIntsFrom (x.f.drop k) (y.f.drop k) = sameInts x.f y.f)) (fun i _ => x.f.length - (intOf i).toNat)
        case atStart => exact ⟨0, Nat.zero_le _, rfl, ⟨Since.start _ _, rfl⟩, hF⟩
        case round =>
          obtain ⟨k, hk, rfl, ⟨q, rfl⟩, HR⟩ := hrel
          by_cases hlt : k < x.f.length
          · have hlt' : k < y.f.length := by have := HE.out; omega
            obtain ⟨b, off, hAx, hb, hcell⟩ := hrA (by omega)
            obtain ⟨b', off', hAy, hb', hcell'⟩ := hrB (by omega)
            have c0 := hcell k hlt
            have d0 := hcell' k hlt'
            have hstep : Hid (sameIntsFrom (x.f.drop k) (y.f.drop k) = (decide (x.f[k] = y.f[k]) && sameIntsFrom (x.f.drop (k + 1)) (y.f.drop (k + 1)))) := by
              rw [List.drop_eq_getElem_cons hlt, List.drop_eq_getElem_cons hlt']; rfl
            obtain ⟨u, hxe⟩ : ∃ u, u = x.f[k] := ⟨_, rfl⟩
            obtain ⟨v, hye⟩ : ∃ v, v = y.f[k] := ⟨_, rfl⟩
            rw [← hxe] at c0 hstep
            rw [← hye] at d0 hstep
            rw [hAx] at k2
            rw [hAy] at j2
            clear hxe hye hAx hAy
            clear hcell hcell' hrA hrB
            by_cases hxy : u = v
            · have hv : (u != v) = false := by simp [hxy]
              have HV : Hid (decide (u = v) = true) := decide_eq_true hxy
              clear hxy
              go_wp2
              refine wp_region_since _ (by kernel_rfl) (by kernel_rfl) ?_
              repeat (any_goals (first | go_big_quiet_step ((fail)) | (refine wpQuiet_step (fun K hK => ?_); go_simp; split <;> (refine hK _ ?_; clear hK K))))
              all_goals (refine wpQuiet_nil ?_; rintro _ ⟨q1, rfl⟩)
              go_wp2
              go_roundw
              case rel => exact ⟨k + 1, by omega, by go_num, ⟨q1, rfl⟩, by have h1 := HR.out; rw [hstep.out, HV.out] at h1; exact h1⟩
              case measure => simp [intOf]; omega
            · have hv : (u != v) = true := by simp [hxy]
              have HV : Hid (decide (u = v) = false) := decide_eq_false hxy
              clear hxy
              go_wp2
              refine wp_region_since _ (by kernel_rfl) (by kernel_rfl) ?_
              repeat (any_goals (first | go_big_quiet_step ((fail)) | (refine wpQuiet_step (fun K hK => ?_); go_simp; split <;> (refine hK _ ?_; clear hK K))))
              all_goals (refine wpQuiet_nil ?_; rintro _ ⟨q1, rfl⟩)
              go_wp2
              go_ret
              refine ⟨?_, b2.trans (q1.below.mono b2.size)⟩
              have hz : sameInts x.f y.f = false := by rw [← HR.out, hstep.out, HV.out]; rfl
              rw [HA.out, hz]; simp
          · have HK : Hid (sameInts x.f y.f = true) := by
              have h1 := HR.out
              rw [List.drop_eq_nil_of_le (by omega), List.drop_eq_nil_of_le (by have := HE.out; omega)] at h1; exact h1.symm
            clear hrA hrB
            go_wp2
            go_ret
            exact ⟨by rw [HA.out, HK.out, n1', n2']; rfl, b2.trans (q.below.mono b2.size)⟩
      · have n3 : ((x.f.length : Int) != (y.f.length : Int)) = true := by rw [bne_iff_ne]; omega
        have hF : Hid (sameInts x.f y.f = false) := by
          unfold sameInts; show decide (x.f = y.f) = false; rw [decide_eq_false_iff_not]; intro h; exact h3 (by rw [h])
        clear h3
        go_enter Try.func45, Try.ntmps45
        go_wp2
        go_ret
        exact ⟨by rw [HA.out, hF.out, n1']; rfl, b2⟩
    · have n2 : (x.p != y.p) = true := by simp [h2]
      have n2' : decide (x.p = y.p) = false := decide_eq_false h2
      clear h2
      go_enter Try.func45, Try.ntmps45
      go_wp2
      go_ret
      exact ⟨by rw [HA.out, n2']; simp, b2⟩
  · have n1 : (x.s != y.s) = true := by simp [h1]
    have n1' : decide (x.s = y.s) = false := decide_eq_false h1
    clear h1
    go_enter Try.func45, Try.ntmps45
    go_wp2
    go_ret
    exact ⟨by rw [HA.out, n1']; rfl, b2⟩
end Go.Proofs.Ytchkjiadnackaaa

/- Merging phrases that are alike: the plain law. -/
namespace Go.Proofs.Ytchkjiadnackaaa
open Go.RowKit

abbrev PhD := Int × Int × List Int × Int
def alikeD (a b : PhD) : Bool := decide (a.1 = b.1) && decide (a.2.2.1 = b.2.2.1) && decide (a.2.2.2 = b.2.2.2)
theorem Ph.alike_ph (x y : Ph) : Ph.alike x y = alikeD x.ph y.ph := by unfold Ph.alike alikeD Ph.ph sameInts; rfl
theorem alikeD_iff {a b : PhD} : alikeD a b = true ↔ a.1 = b.1 ∧ a.2.2.1 = b.2.2.1 ∧ a.2.2.2 = b.2.2.2 := by unfold alikeD; simp [Bool.and_eq_true, and_assoc]
theorem alikeD_symm (a b : PhD) : alikeD a b = alikeD b a := by
  rw [Bool.eq_iff_iff, alikeD_iff, alikeD_iff]
  constructor <;> (rintro ⟨h1, h2, h3⟩; exact ⟨h1.symm, h2.symm, h3.symm⟩)
theorem alikeD_trans {a b c : PhD} (h : alikeD a b = true) (h' : alikeD a c = true) : alikeD b c = true := by
  rw [alikeD_iff] at *
  exact ⟨h.1.symm.trans h'.1, h.2.1.symm.trans h'.2.1, h.2.2.symm.trans h'.2.2⟩

/-- The copies of the one at place i grow by c. -/
def addAt (c : Int) : Nat → List PhD → List PhD
  | _, [] => []
  | 0, q :: l => (q.1, q.2.1 + c, q.2.2) :: l
  | i + 1, q :: l => q :: addAt c i l
theorem addAt_len (c : Int) : ∀ (i : Nat) (l : List PhD), (addAt c i l).length = l.length
  | _, [] => by cases ‹Nat› <;> rfl
  | 0, _ :: _ => rfl
  | i + 1, _ :: l => by simp [addAt, addAt_len c i l]
/-- Step: p is put to the first one alike, or behind. -/
def putD (out : List PhD) (p : PhD) : List PhD := if idxFrom (alikeD p) 0 out < 0 then out ++ [p] else addAt p.2.1 (idxFrom (alikeD p) 0 out).toNat out
def mergeD (l : List PhD) : List PhD := l.foldl putD []

/-- No two are alike. -/
def Apart (l : List PhD) : Prop := l.Pairwise fun a b => alikeD a b = false
theorem addAt_keys {p : PhD → Prop} (hp : ∀ a b : PhD, alikeD a b = true → (p a ↔ p b)) (c : Int) : ∀ (i : Nat) (l : List PhD), (∀ x ∈ addAt c i l, p x) ↔ ∀ x ∈ l, p x
  | _, [] => by cases ‹Nat› <;> simp [addAt]
  | 0, q :: l => by
    have := hp q (q.1, q.2.1 + c, q.2.2) (alikeD_iff.2 ⟨rfl, rfl, rfl⟩)
    simp [addAt, this]
  | i + 1, q :: l => by
    simp only [addAt, List.mem_cons, forall_eq_or_imp]
    rw [addAt_keys hp c i l]
theorem alikeD_same {a b x : PhD} (h : alikeD a b = true) : alikeD x a = alikeD x b := by
  rw [Bool.eq_iff_iff]
  constructor
  · intro h'; exact alikeD_trans (alikeD_symm x a ▸ h') h
  · intro h'; exact alikeD_trans (alikeD_symm x b ▸ h') (alikeD_symm a b ▸ h)
theorem Apart.add {l : List PhD} (h : Apart l) (c : Int) : ∀ i, Apart (addAt c i l) := by
  induction l with
  | nil => intro i; cases i <;> exact h
  | cons q l ih =>
    unfold Apart at h
    rw [List.pairwise_cons] at h
    intro i
    cases i with
    | zero =>
      unfold Apart addAt
      rw [List.pairwise_cons]
      refine ⟨fun b hb => ?_, h.2⟩
      have := h.1 b hb
      rw [alikeD_symm] at this ⊢
      rw [← this]
      exact (alikeD_same (alikeD_iff.2 ⟨rfl, rfl, rfl⟩)).symm
    | succ i =>
      unfold Apart addAt
      rw [List.pairwise_cons]
      refine ⟨?_, ih h.2 i⟩
      exact (addAt_keys (p := fun b => alikeD q b = false) (fun a b hab => by rw [alikeD_same hab]) c i l).2 h.1
theorem idx_neg {α : Type} {f : α → Bool} : ∀ (l : List α) (k : Nat), idxFrom f k l < 0 → ∀ x ∈ l, f x = false
  | [], _, _, _, hx => by cases hx
  | y :: l, k, h, x, hx => by
    unfold idxFrom at h
    split at h
    · omega
    · rename_i hy
      rcases List.mem_cons.1 hx with rfl | hx'
      · simpa using hy
      · exact idx_neg l (k + 1) h x hx'
theorem Apart.put {l : List PhD} (h : Apart l) (p : PhD) : Apart (putD l p) := by
  unfold putD
  split
  · rename_i hn
    unfold Apart
    rw [List.pairwise_append]
    refine ⟨h, List.pairwise_singleton _ _, fun a ha b hb => ?_⟩
    rw [List.mem_singleton] at hb; subst hb
    rw [alikeD_symm]; exact idx_neg l 0 hn a ha
  · exact h.add _ _

/-- The last one alike among the first k. -/
def lastTo (p : PhD) (out : List PhD) : Nat → Int
  | 0 => -1
  | k + 1 => if h : k < out.length then (if alikeD out[k] p = true then (k : Int) else lastTo p out k) else lastTo p out k
theorem lastTo_bounds (p : PhD) (out : List PhD) : ∀ k, -1 ≤ lastTo p out k ∧ lastTo p out k < k ∧ lastTo p out k < (out.length : Int)
  | 0 => by simp [lastTo]; omega
  | k + 1 => by
    have := lastTo_bounds p out k
    unfold lastTo
    split
    · split <;> omega
    · omega
theorem lastTo_none {p : PhD} {out : List PhD} : ∀ k, (∀ x ∈ out, alikeD p x = false) → lastTo p out k = -1
  | 0, _ => rfl
  | k + 1, h => by
    unfold lastTo
    split
    · rename_i hk
      rw [alikeD_symm, h _ (List.getElem_mem hk)]
      simpa using lastTo_none k h
    · exact lastTo_none k h
theorem idx_spec {α : Type} {f : α → Bool} : ∀ (l : List α) (k : Nat), (idxFrom f k l = -1 ∧ ∀ x ∈ l, f x = false) ∨ ∃ i, ∃ h : i < l.length, idxFrom f k l = ((k + i : Nat) : Int) ∧ f l[i] = true
  | [], k => .inl ⟨rfl, by simp⟩
  | y :: l, k => by
    unfold idxFrom
    split
    · rename_i hy; exact .inr ⟨0, by simp, by simp, by simpa using hy⟩
    · rename_i hy
      rcases idx_spec (f := f) l (k + 1) with ⟨h1, h2⟩ | ⟨i, hi, h1, h2⟩
      · refine .inl ⟨h1, fun x hx => ?_⟩
        rcases List.mem_cons.1 hx with rfl | hx'
        · simpa using hy
        · exact h2 x hx'
      · exact .inr ⟨i + 1, by simpa using hi, by rw [h1]; congr 1; omega, by simpa using h2⟩
theorem lastTo_only {p : PhD} {out : List PhD} (h : Apart out) {i : Nat} (hi : i < out.length) (ha : alikeD p out[i] = true) : ∀ k, i < k → lastTo p out k = i
  | 0, hk => absurd hk (by omega)
  | k + 1, hk => by
    unfold lastTo
    by_cases hki : k = i
    · subst hki; rw [dif_pos hi, alikeD_symm, ha]; simp
    · have ih := lastTo_only h hi ha k (by omega)
      split
      · rename_i hkl
        have hne : alikeD out[k] p = false := by
          rcases hb : alikeD out[k] p with _ | _
          · rfl
          · exfalso
            rw [alikeD_symm] at hb
            have h1 := alikeD_trans ha hb
            have h2 := List.pairwise_iff_getElem.1 h i k hi hkl (by omega)
            rw [h1] at h2; cases h2
        rw [hne]; simpa using ih
      · exact ih
theorem lastTo_idx {p : PhD} {out : List PhD} (h : Apart out) : lastTo p out out.length = idxFrom (alikeD p) 0 out := by
  rcases idx_spec (f := alikeD p) out 0 with ⟨h1, h2⟩ | ⟨i, hi, h1, h2⟩
  · rw [h1]; exact lastTo_none _ h2
  · rw [h1, Nat.zero_add]; exact lastTo_only h hi h2 _ hi

/-- The phrases, and whether they are valid. -/
def okD (a : PhD) : Bool := inR a.1 1 3 && inR a.2.1 1 99 && rises 1 9 a.2.2.1 && inR a.2.2.2 0 999999
theorem ok_okD (x : Ph) : x.ok = okD x.ph := rfl
def goodD (l : List PhD) : Bool := decide (l.length ≤ 10) && l.all okD
theorem good_goodD (l : List Ph) : goodPhs l = goodD (l.map Ph.ph) := by
  unfold goodPhs goodD
  rw [List.length_map, List.all_map]; rfl
/-- What MergeAlike answers. -/
def mergeA (l : List PhD) : List PhD × Bool := if goodD l = true then (if goodD (mergeD l) = true then (mergeD l, true) else ([], false)) else ([], false)

theorem rises_len9 {lo hi : Int} : ∀ {l : List Int} {n : Nat} {p : Int}, riseFrom lo hi (n + 1) p l = true → lo ≤ p → (l.length : Int) ≤ hi - p ∨ l = []
  | [], _, _, _, _ => .inr rfl
  | x :: l, n, p, h, hp => by
    simp only [riseFrom, Bool.and_eq_true, inR_iff, Bool.or_eq_true, decide_eq_true_eq] at h
    obtain ⟨⟨⟨h1, h2⟩, h3⟩, h4⟩ := h
    have h5 : p < x := by omega
    left
    rcases rises_len9 h4 (by omega) with h6 | h6
    · simp only [List.length_cons]; omega
    · rw [h6]; simp; omega
theorem faults9 {l : List Int} (h : rises 1 9 l = true) : l.length ≤ 9 := by
  cases l with
  | nil => simp
  | cons x l =>
    unfold rises at h
    simp only [riseFrom, Bool.and_eq_true, inR_iff] at h
    rcases rises_len9 h.2 (by omega) with h1 | h1
    · simp only [List.length_cons]; omega
    · rw [h1]; simp
/-- Bounds while merging. -/
def Slim (n : Nat) (l : List PhD) : Prop := l.length ≤ n ∧ ∀ q ∈ l, 0 ≤ q.2.1 ∧ q.2.1 ≤ 99 * (n : Int) ∧ q.2.2.1.length ≤ 9
theorem slim_add {c : Int} {b : Int} (hc : 0 ≤ c ∧ c ≤ 99) : ∀ (i : Nat) (l : List PhD), (∀ q ∈ l, 0 ≤ q.2.1 ∧ q.2.1 ≤ b ∧ q.2.2.1.length ≤ 9) → ∀ q ∈ addAt c i l, 0 ≤ q.2.1 ∧ q.2.1 ≤ b + 99 ∧ q.2.2.1.length ≤ 9
  | i, [], _, q, hq => by cases i <;> simp [addAt] at hq
  | 0, x :: l, h, q, hq => by
    simp only [addAt, List.mem_cons] at hq
    rcases hq with rfl | hq
    · have := h x (List.mem_cons_self ..); simp only; omega
    · have := h q (List.mem_cons_of_mem _ hq); omega
  | i + 1, x :: l, h, q, hq => by
    simp only [addAt, List.mem_cons] at hq
    rcases hq with rfl | hq
    · have := h q (List.mem_cons_self ..); omega
    · exact slim_add hc i l (fun y hy => h y (List.mem_cons_of_mem _ hy)) q hq
theorem Slim.put {n : Nat} {l : List PhD} (h : Slim n l) {p : PhD} (hc : 0 ≤ p.2.1 ∧ p.2.1 ≤ 99) (hf : p.2.2.1.length ≤ 9) : Slim (n + 1) (putD l p) := by
  obtain ⟨h1, h2⟩ := h
  unfold putD
  split
  · refine ⟨by simp; omega, fun q hq => ?_⟩
    rcases List.mem_append.1 hq with hq | hq
    · have := h2 q hq; omega
    · rw [List.mem_singleton] at hq; subst hq; omega
  · refine ⟨by rw [addAt_len]; omega, fun q hq => ?_⟩
    have := slim_add hc _ l h2 q hq
    omega
theorem putD_new {out : List PhD} {p : PhD} (h : idxFrom (alikeD p) 0 out < 0) : putD out p = out ++ [p] := by unfold putD; rw [if_pos h]
theorem putD_old {out : List PhD} {p : PhD} {i : Nat} (h : idxFrom (alikeD p) 0 out = i) : putD out p = addAt p.2.1 i out := by unfold putD; rw [if_neg (by omega), h, Int.toNat_natCast]
theorem addAt_split {c : Int} : ∀ (i : Nat) (l : List PhD) (h : i < l.length), addAt c i l = l.take i ++ (l[i].1, l[i].2.1 + c, l[i].2.2) :: l.drop (i + 1)
  | 0, q :: l, _ => by simp [addAt]
  | i + 1, q :: l, h => by simp only [addAt, List.take_succ_cons, List.cons_append, List.getElem_cons_succ, List.drop_succ_cons]; rw [addAt_split i l (by simpa using h)]
theorem fsum_le9 : ∀ m : List Ph, (∀ x ∈ m, x.f.length ≤ 9) → fsum m ≤ 9 * m.length
  | [], _ => by simp [fsum]
  | x :: m, h => by
    have h1 := h x (List.mem_cons_self ..)
    have h2 := fsum_le9 m fun y hy => h y (List.mem_cons_of_mem _ hy)
    simp only [fsum, List.length_cons]; omega
theorem need_goodD {m : List Ph} {R : List PhD} (hm : m.map Ph.ph = R) (h : goodD R = true) : need m ≤ 1048576 := by
  subst hm
  unfold goodD at h
  simp only [Bool.and_eq_true, List.length_map] at h
  have h1 := of_decide_eq_true h.1
  have h2 := fsum_le9 m fun x hx => by
    have := List.all_eq_true.1 h.2 x.ph (List.mem_map.2 ⟨x, hx, rfl⟩)
    unfold okD at this
    simp only [Bool.and_eq_true] at this
    exact faults9 this.1.2
  unfold need; omega
theorem mergeA_good (l : List PhD) : goodD (mergeA l).1 = true := by
  unfold mergeA
  split
  · split
    · assumption
    · rfl
  · rfl
end Go.Proofs.Ytchkjiadnackaaa

/- Rows of phrases of the call's own. -/
namespace Go.Proofs.Ytchkjiadnackaaa
open Go.RowKit

theorem OwnS.big {w : World} {B : Nat} {t : TypeId} {k : Nat} {A : Option Addr} {n : Nat} {cs : List Value} (h : OwnS w B t k A n cs) : n ≤ 9223372036854775807 := h.2.1
theorem OwnS.below' {w w' : World} {B : Nat} {t : TypeId} {k : Nat} {A : Option Addr} {n : Nat} {cs : List Value} (h : OwnS w B t k A n cs) (hb : Below w.heap.size w w') : OwnS w' B t k A n cs := h.then hb
theorem ownsRow_below {w w' : World} {B : Nat} {e : TypeId} {k : Nat} {v : Value} {n : Nat} {xs : List Value} (h : w.ownsRow B e k v n xs) (hb : Below w.heap.size w w') : w'.ownsRow B e k v n xs := by
  obtain ⟨hl, h0 | ⟨g, cap, cur, hv, hg, hh, h1, h2, h3, h4⟩⟩ := h
  · exact ⟨hl, .inl h0⟩
  · have hlt : g < w.heap.size := by
      rcases Nat.lt_or_ge g w.heap.size with hlt | hge
      · exact hlt
      · rw [Array.getElem?_eq_none hge] at hh; cases hh
    exact ⟨hl, .inr ⟨g, cap, cur, hv, hg, (hb.block g hlt).trans hh, h1, h2, h3, h4⟩⟩
/-- Rows of other types lie elsewhere. -/
theorem ownsRow_far {w : World} {B : Nat} {e t : TypeId} {k : Nat} {v : Value} {n : Nat} {xs cs : List Value} (h : w.ownsRow B e k v n xs) {g : Nat} (hg : Lies w g t cs) (hne : e ≠ t) : some g ≠ v.ownBlock := by
  obtain ⟨_, ⟨rfl, _⟩ | ⟨g', cap, cur, rfl, _, hh, _⟩⟩ := h
  · simp [Value.ownBlock]
  · intro he
    simp only [Value.ownBlock, Option.some.injEq] at he
    subst he
    unfold Lies at hg
    rw [hg] at hh
    injection hh with hh; injection hh with _ h2; exact hne h2.symm
theorem OwnS.grown {w w' : World} {B : Nat} {t : TypeId} {k : Nat} {A : Option Addr} {n : Nat} {cs : List Value} (h : OwnS w B t k A n cs) {e : TypeId} {B' k' n' : Nat} {v : Value} {xs : List Value} (ho : w.ownsRow B' e k' v n' xs) (hne : e ≠ t) (hg : w.grownBy w' v.ownBlock) : OwnS w' B t k A n cs := by
  obtain ⟨hl, hn, h0 | ⟨g', rest, hA, hg', hh⟩⟩ := h
  · exact ⟨hl, hn, .inl h0⟩
  · exact ⟨hl, hn, .inr ⟨g', rest, hA, hg', hh.kept hg (ownsRow_far ho hh hne)⟩⟩
theorem OwnS.lt_ {w : World} {B : Nat} {t : TypeId} {k : Nat} {A : Option Addr} {n : Nat} {cs : List Value} (h : OwnS w B t k A n cs) {g : Addr} (hA : A = some g) : B ≤ g.block ∧ g.block < w.heap.size := by
  obtain ⟨_, _, ⟨h0, _⟩ | ⟨g', rest, hA', hg', hh⟩⟩ := h
  · rw [h0] at hA; cases hA
  · rw [hA'] at hA; injection hA with hA; subst hA; exact ⟨hg', hh.lt⟩

/-- A row of phrases of the call's own; the faults of each its own too. -/
structure RowPh (w : World) (B : Nat) (v : Value) (l : List Ph) : Prop where
  row : w.ownsRow B 42 4 v l.length (l.flatMap Ph.enc)
  fs : ∀ x ∈ l, OwnS w B 3 1 x.A x.f.length (encIs x.f)
  nd : l.Pairwise fun x y => x.A = none ∨ x.A ≠ y.A
theorem ne_types : 42 ≠ 3 := by decide
theorem RowPh.nil (w : World) (B : Nat) : RowPh w B (.slice none 0 0) [] := ⟨World.ownsRow_nil _ _ _ _, by simp, List.Pairwise.nil⟩
theorem RowPh.below {w w' : World} {B : Nat} {v : Value} {l : List Ph} (h : RowPh w B v l) (hb : Below w.heap.size w w') : RowPh w' B v l :=
  ⟨ownsRow_below h.row hb, fun x hx => (h.fs x hx).then hb, h.nd⟩
theorem ownsRow_lower {w : World} {B B' : Nat} {e : TypeId} {k : Nat} {v : Value} {n : Nat} {xs : List Value} (h : w.ownsRow B e k v n xs) (hB : B' ≤ B) : w.ownsRow B' e k v n xs := by
  obtain ⟨hl, h0 | ⟨g, cap, cur, hv, hg, hh⟩⟩ := h
  · exact ⟨hl, .inl h0⟩
  · exact ⟨hl, .inr ⟨g, cap, cur, hv, Nat.le_trans hB hg, hh⟩⟩
theorem RowPh.lower {w : World} {B B' : Nat} {v : Value} {l : List Ph} (h : RowPh w B v l) (hB : B' ≤ B) : RowPh w B' v l :=
  ⟨ownsRow_lower h.row hB, fun x hx => (h.fs x hx).lower hB, h.nd⟩
theorem RowPh.reads {w : World} {B : Nat} {A : Option Addr} {c : Nat} {l : List Ph} (h : RowPh w B (.slice A l.length c) l) : PhsR w w.heap.size A l :=
  ⟨(OwnS.of h.row).reads, fun x hx => (h.fs x hx).reads⟩
theorem RowPh.form {w : World} {B : Nat} {v : Value} {l : List Ph} (h : RowPh w B v l) : ∃ A c, v = .slice A l.length c := ownsRow_slice h.row
/-- One more, whose faults are new. -/
theorem RowPh.push {w w0 w' : World} {B : Nat} {v v' : Value} {l : List Ph} {x : Ph} (h : RowPh w B v l) (hb : Below w.heap.size w w0) (hx : OwnS w0 w.heap.size 3 1 x.A x.f.length (encIs x.f)) (hB : B ≤ w.heap.size)
    (ho : w'.ownsRow B 42 4 v' (l.length + 1) (l.flatMap Ph.enc ++ x.enc)) (hg : w0.grownBy w' v.ownBlock) : RowPh w' B v' (l ++ [x]) := by
  have hr := ownsRow_below h.row hb
  refine ⟨by simpa using ho, fun y hy => ?_, ?_⟩
  · rcases List.mem_append.1 hy with hy | hy
    · exact ((h.fs y hy).then hb).grown hr ne_types hg
    · rw [List.mem_singleton] at hy; subst hy
      exact (hx.lower hB).grown hr ne_types hg
  · rw [List.pairwise_append]
    refine ⟨h.nd, List.pairwise_singleton _ _, fun a ha b hb' => ?_⟩
    rw [List.mem_singleton] at hb'; subst hb'
    cases hA : a.A with
    | none => exact .inl rfl
    | some g =>
      refine .inr fun e => ?_
      have h1 := ((h.fs a ha).lt_ hA).2
      have h2 := (hx.lt_ e.symm).1
      omega
/-- The copies of the phrase at place i. -/
def setC (i : Nat) (c : Int) (l : List Ph) : List Ph := l.modify i fun x => { x with c := c }
theorem setC_len (i : Nat) (c : Int) (l : List Ph) : (setC i c l).length = l.length := by simp [setC]
theorem setC_split {i : Nat} {c : Int} {l : List Ph} (h : i < l.length) : setC i c l = l.take i ++ { l[i] with c := c } :: l.drop (i + 1) := by
  unfold setC; rw [List.modify_eq_take_cons_drop h]
theorem flat_set {i : Nat} {c : Int} {l : List Ph} (h : i < l.length) : (l.flatMap Ph.enc).set (i * 4 + 1) (.int .i64 c) = (setC i c l).flatMap Ph.enc := by
  have e1 : l = l.take i ++ l[i] :: l.drop (i + 1) := by rw [List.getElem_cons_drop, List.take_append_drop]
  rw [setC_split h]
  have e2 : l.flatMap Ph.enc = (l.take i).flatMap Ph.enc ++ (l[i].enc ++ (l.drop (i + 1)).flatMap Ph.enc) := by
    rw [show l.flatMap Ph.enc = (l.take i ++ l[i] :: l.drop (i + 1)).flatMap Ph.enc from congrArg _ e1, List.flatMap_append, List.flatMap_cons]
  have e3 : ((l.take i).flatMap Ph.enc).length = i * 4 := by rw [flat_len Ph.enc 4 Ph.enc_len, List.length_take, Nat.min_eq_left (by omega)]
  rw [e2, List.set_append, if_neg (by omega), e3]
  simp [Ph.enc]
theorem RowPh.bump {w : World} {B g cap : Nat} {l : List Ph} {i : Nat} {c : Int} (h : RowPh w B (.slice (some ⟨g, 0, none⟩) l.length cap) l) (hi : i < l.length) : RowPh (w.setCell ⟨g, i * 4 + 1, none⟩ (.int .i64 c)) B (.slice (some ⟨g, 0, none⟩) l.length cap) (setC i c l) := by
  obtain ⟨h1, h2⟩ := h.row.stored (i * 4 + 1) (.int .i64 c)
  have hmem : ∀ {y}, y ∈ setC i c l → ∃ x ∈ l, y.A = x.A ∧ y.f = x.f := by
    intro y hy
    rw [setC_split hi] at hy
    rcases List.mem_append.1 hy with hy | hy
    · exact ⟨y, List.mem_of_mem_take hy, rfl, rfl⟩
    · rcases List.mem_cons.1 hy with rfl | hy
      · exact ⟨l[i], List.getElem_mem hi, rfl, rfl⟩
      · exact ⟨y, List.mem_of_mem_drop hy, rfl, rfl⟩
  refine ⟨by rw [flat_set hi] at h1; rw [setC_len]; exact h1, fun y hy => ?_, ?_⟩
  · obtain ⟨x, hx, e1, e2⟩ := hmem hy
    rw [e1, e2]
    exact (h.fs x hx).grown h.row ne_types h2
  · have e : (setC i c l).map Ph.A = l.map Ph.A := by
      have e1 : l = l.take i ++ l[i] :: l.drop (i + 1) := by rw [List.getElem_cons_drop, List.take_append_drop]
      rw [setC_split hi, show l.map Ph.A = (l.take i ++ l[i] :: l.drop (i + 1)).map Ph.A from congrArg _ e1]
      simp only [List.map_append, List.map_cons]
    have hp : ∀ m : List Ph, (m.Pairwise fun x y => x.A = none ∨ x.A ≠ y.A) ↔ (m.map Ph.A).Pairwise fun a b => a = none ∨ a ≠ b := fun m => by rw [List.pairwise_map]
    rw [hp, e, ← hp]; exact h.nd
theorem setC_ph {i : Nat} {c : Int} {l : List Ph} (h : i < l.length) : (setC i c l).map Ph.ph = (l.map Ph.ph).take i ++ (l[i].s, c, l[i].f, l[i].p) :: (l.map Ph.ph).drop (i + 1) := by
  rw [setC_split h]; simp [Ph.ph, List.map_take, List.map_drop]
end Go.Proofs.Ytchkjiadnackaaa

/- SortPhrases: the plain law. -/
namespace Go.Proofs.Ytchkjiadnackaaa
open Go.RowKit

/-- A phrase comes before another one. -/
def beforeD (a b : PhD) : Bool :=
  if a.1 = b.1 then (if a.2.2.1.length = b.2.2.1.length then decide (b.2.2.2 < a.2.2.2) else decide (a.2.2.1.length < b.2.2.1.length)) else decide (a.1 < b.1)
/-- The place at which x is put, from the right. -/
def posD (x : PhD) (l : List PhD) : Nat → Nat
  | 0 => 0
  | k + 1 => if beforeD x (l.getD k x) = true then posD x l k else k + 1
theorem posD_le (x : PhD) (l : List PhD) : ∀ k, posD x l k ≤ k
  | 0 => Nat.le_refl _
  | k + 1 => by rw [posD]; split; have := posD_le x l k; omega; exact Nat.le_refl _
def insD (l : List PhD) (x : PhD) : List PhD := l.take (posD x l l.length) ++ x :: l.drop (posD x l l.length)
def sortD (l : List PhD) : List PhD := l.foldl insD []
def sortA (l : List PhD) : List PhD × Bool := if goodD l = true then (sortD l, true) else ([], false)
theorem sortD_step {l : List PhD} {k : Nat} (h : k < l.length) : sortD (l.take (k + 1)) = insD (sortD (l.take k)) l[k] := by
  unfold sortD; rw [List.take_succ_eq_append_getElem h, List.foldl_append]; rfl
theorem insD_len (l : List PhD) (x : PhD) : (insD l x).length = l.length + 1 := by
  unfold insD
  have := posD_le x l l.length
  rw [List.length_append, List.length_cons, List.length_take, List.length_drop]; omega
theorem sortD_len (l : List PhD) : (sortD l).length = l.length := by
  have : ∀ (l acc : List PhD), (l.foldl insD acc).length = acc.length + l.length := by
    intro l
    induction l with
    | nil => intro acc; rfl
    | cons x l ih => intro acc; rw [List.foldl_cons, ih, insD_len, List.length_cons]; omega
  have h := this l []
  rw [List.length_nil, Nat.zero_add] at h
  exact h
theorem insD_mem {l : List PhD} {x y : PhD} (h : y ∈ insD l x) : y = x ∨ y ∈ l := by
  unfold insD at h
  rcases List.mem_append.1 h with h | h
  · exact .inr (List.mem_of_mem_take h)
  · rcases List.mem_cons.1 h with h | h
    · exact .inl h
    · exact .inr (List.mem_of_mem_drop h)
theorem sortD_mem {l : List PhD} {y : PhD} (h : y ∈ sortD l) : y ∈ l := by
  have : ∀ (l acc : List PhD), y ∈ l.foldl insD acc → y ∈ acc ∨ y ∈ l := by
    intro l
    induction l with
    | nil => intro acc h; exact .inl h
    | cons x l ih =>
      intro acc h
      rcases ih _ h with h | h
      · rcases insD_mem h with h | h
        · exact .inr (h ▸ List.mem_cons_self ..)
        · exact .inl h
      · exact .inr (List.mem_cons_of_mem _ h)
  rcases this l [] h with h | h
  · cases h
  · exact h
theorem sortA_good (l : List PhD) : goodD (sortA l).1 = true := by
  unfold sortA
  split
  · rename_i h
    unfold goodD at h ⊢
    rw [Bool.and_eq_true, decide_eq_true_eq, List.all_eq_true] at h ⊢
    simp only
    rw [sortD_len]
    exact ⟨h.1, fun x hx => h.2 x (sortD_mem hx)⟩
  · rfl
/-- In place: x stands at place j of the row. -/
def rowAt (acc : List Ph) (x : Ph) (rest : List Ph) (j : Nat) : List Ph := acc.take j ++ x :: (acc.drop j ++ rest)
theorem rowAt_len {acc rest : List Ph} {x : Ph} {j : Nat} (h : j ≤ acc.length) : (rowAt acc x rest j).length = acc.length + 1 + rest.length := by
  unfold rowAt
  rw [List.length_append, List.length_cons, List.length_append, List.length_take, List.length_drop]; omega
theorem rowAt_split {acc rest : List Ph} {x : Ph} {j : Nat} (h : j < acc.length) : rowAt acc x rest (j + 1) = acc.take j ++ acc[j] :: x :: (acc.drop (j + 1) ++ rest) ∧ rowAt acc x rest j = acc.take j ++ x :: acc[j] :: (acc.drop (j + 1) ++ rest) := by
  unfold rowAt
  constructor
  · rw [List.take_succ_eq_append_getElem h, List.append_assoc]; rfl
  · rw [List.drop_eq_getElem_cons h]; rfl
theorem rowAt_x {acc rest : List Ph} {x : Ph} {j : Nat} (h : j ≤ acc.length) : (rowAt acc x rest j)[j]? = some x := by
  unfold rowAt
  have e : (acc.take j).length = j := by rw [List.length_take]; omega
  rw [List.getElem?_append_right (by omega), e, Nat.sub_self]; rfl
theorem rowAt_y {acc rest : List Ph} {x : Ph} {j : Nat} (h : j < acc.length) : (rowAt acc x rest (j + 1))[j]? = some acc[j] := by
  unfold rowAt
  rw [List.getElem?_append_left (by rw [List.length_take]; omega), List.getElem?_take, if_pos (by omega), List.getElem?_eq_getElem h]
theorem pos_step {acc : List Ph} {x : Ph} {j : Nat} (h : j < acc.length) : posD x.ph (acc.map Ph.ph) (j + 1) = if beforeD x.ph acc[j].ph = true then posD x.ph (acc.map Ph.ph) j else j + 1 := by
  rw [posD]
  have : (acc.map Ph.ph).getD j x.ph = acc[j].ph := by
    rw [List.getD_eq_getElem?_getD, List.getElem?_map, List.getElem?_eq_getElem h]; rfl
  rw [this]
/-- Two phrases of a row change places. -/
theorem RowPh.swapped {w w' : World} {B g cap n : Nat} {a b : List Ph} {x y : Ph} (h : RowPh w B (.slice (some ⟨g, 0, none⟩) n cap) (a ++ y :: x :: b)) (ho : w'.ownsRow B 42 4 (.slice (some ⟨g, 0, none⟩) n cap) (a ++ x :: y :: b).length ((a ++ x :: y :: b).flatMap Ph.enc)) (hg : w.grownBy w' (some g)) : RowPh w' B (.slice (some ⟨g, 0, none⟩) n cap) (a ++ x :: y :: b) := by
  have hp : ∀ z, z ∈ a ++ x :: y :: b → z ∈ a ++ y :: x :: b := fun z hz => by
    simp only [List.mem_append, List.mem_cons] at hz ⊢
    rcases hz with hz | hz | hz | hz
    · exact .inl hz
    · exact .inr (.inr (.inl hz))
    · exact .inr (.inl hz)
    · exact .inr (.inr (.inr hz))
  refine ⟨ho, fun z hz => (h.fs z (hp z hz)).grown h.row ne_types hg, ?_⟩
  have hn := h.nd
  rw [List.pairwise_append, List.pairwise_cons, List.pairwise_cons] at hn ⊢
  obtain ⟨n1, ⟨n2, n3, n4⟩, n5⟩ := hn
  have sym : ∀ {u v : Ph}, (u.A = none ∨ u.A ≠ v.A) → (v.A = none ∨ v.A ≠ u.A) := fun {u v} h => by
    rcases h with h | h
    · by_cases e : v.A = none
      · exact .inl e
      · exact .inr (by rw [h]; exact e)
    · exact .inr (Ne.symm h)
  refine ⟨n1, ⟨fun z hz => ?_, fun z hz => n2 z (List.mem_cons_of_mem _ hz), n4⟩, fun u hu v hv => n5 u hu v ?_⟩
  · rcases List.mem_cons.1 hz with rfl | hz
    · exact sym (n2 x (List.mem_cons_self ..))
    · exact n3 z hz
  · simp only [List.mem_cons] at hv ⊢
    rcases hv with hv | hv | hv
    · exact .inr (.inl hv)
    · exact .inl hv
    · exact .inr (.inr hv)
end Go.Proofs.Ytchkjiadnackaaa

/- The order of SortPhrases, in the program: the comparing closure. (Printed by gen_sortc.py) -/
namespace Go.Proofs.Ytchkjiadnackaaa
open Go.RowKit

def cmpI (a b : Int) : Int := if a < b then -1 else if b < a then 1 else 0
theorem isNaN_any (a : Int) (w : World) : Calls Try.prog 60 #[.int .i64 a] w fun e w' => e = .returned (.bool false) ∧ w = w' := by
  have hv : (a != a) = false := by simp
  go_enter Try.func60, Try.ntmps60
  go_wp2
  go_ret
  exact ⟨rfl, rfl⟩
theorem compare_any (a b : Int) (w : World) : Calls Try.prog 37 #[.int .i64 a, .int .i64 b] w fun e w' => e = .returned (.int .i64 (cmpI a b)) ∧ w = w' := by
  have ha := fun W => isNaN_any a W
  have hb := fun W => isNaN_any b W
  by_cases h1 : a < b
  · have HE : Hid (cmpI a b = -1) := by unfold Hid cmpI; rw [if_pos h1]
    go_enter Try.func37, Try.ntmps37
    go_wp2_with fail
    refine (ha _).mono ?_
    rintro e w' ⟨rfl, rfl⟩
    go_wp2_with fail
    refine (hb _).mono ?_
    rintro e w' ⟨rfl, rfl⟩
    go_wp2
    go_ret
    exact ⟨by rw [HE.out]; rfl, rfl⟩
  · by_cases h2 : b < a
    · have HE : Hid (cmpI a b = 1) := by unfold Hid cmpI; rw [if_neg h1, if_pos h2]
      go_enter Try.func37, Try.ntmps37
      go_wp2_with fail
      refine (ha _).mono ?_
      rintro e w' ⟨rfl, rfl⟩
      go_wp2_with fail
      refine (hb _).mono ?_
      rintro e w' ⟨rfl, rfl⟩
      go_wp2
      go_ret
      exact ⟨by rw [HE.out]; rfl, rfl⟩
    · have HE : Hid (cmpI a b = 0) := by unfold Hid cmpI; rw [if_neg h1, if_neg h2]
      go_enter Try.func37, Try.ntmps37
      go_wp2_with fail
      refine (ha _).mono ?_
      rintro e w' ⟨rfl, rfl⟩
      go_wp2_with fail
      refine (hb _).mono ?_
      rintro e w' ⟨rfl, rfl⟩
      go_wp2
      go_ret
      exact ⟨by rw [HE.out]; rfl, rfl⟩
def orI (a b : Int) : Int := if a = 0 then b else a
theorem or3_any (a b c : Int) (g k : Nat) (w : World) (h0 : w.cell? ⟨g, 0, none⟩ = some (.int .i64 a)) (h1 : w.cell? ⟨g, 1, none⟩ = some (.int .i64 b)) (h2 : w.cell? ⟨g, 2, none⟩ = some (.int .i64 c)) :
    Calls Try.prog 36 #[.slice (some ⟨g, 0, none⟩) 3 k] w fun e w' => e = .returned (.int .i64 (orI a (orI b c))) ∧ w = w' := by
  by_cases ha : a = 0
  · have va : (a != 0) = false := by simp [ha]
    by_cases hb : b = 0
    · have vb : (b != 0) = false := by simp [hb]
      have HE : Hid (orI a (orI b c) = c) := by unfold Hid orI; rw [if_pos ha, if_pos hb]
      clear ha hb
      by_cases hc : c = 0
      · have vc : (c != 0) = false := by simp [hc]
        have HC := Lib.hid hc; clear hc
        go_enter Try.func36, Try.ntmps36
        go_wp2
        refine wp_loop_rounds 4 ?_
        rw [rounds_succ]
        go_wp2
        rw [rounds_succ]
        go_wp2
        rw [rounds_succ]
        go_wp2
        rw [rounds_succ]
        go_wp2
        go_ret
        exact ⟨by rw [HE.out, HC.out]; rfl, rfl⟩
      · have vc : (c != 0) = true := by simp [hc]
        clear hc
        go_enter Try.func36, Try.ntmps36
        go_wp2
        refine wp_loop_rounds 3 ?_
        rw [rounds_succ]
        go_wp2
        rw [rounds_succ]
        go_wp2
        rw [rounds_succ]
        go_wp2
        go_ret
        exact ⟨by rw [HE.out]; rfl, rfl⟩
    · have vb : (b != 0) = true := by simp [hb]
      have HE : Hid (orI a (orI b c) = b) := by unfold Hid orI; rw [if_pos ha, if_neg hb]
      clear ha hb
      go_enter Try.func36, Try.ntmps36
      go_wp2
      refine wp_loop_rounds 2 ?_
      rw [rounds_succ]
      go_wp2
      rw [rounds_succ]
      go_wp2
      go_ret
      exact ⟨by rw [HE.out]; rfl, rfl⟩
  · have va : (a != 0) = true := by simp [ha]
    have HE : Hid (orI a (orI b c) = a) := by unfold Hid; unfold orI; rw [if_neg ha]
    clear ha
    go_enter Try.func36, Try.ntmps36
    go_wp2
    refine wp_loop_rounds 1 ?_
    rw [rounds_succ]
    go_wp2
    go_ret
    exact ⟨by rw [HE.out]; rfl, rfl⟩
def sortC (a b : Ph) : Int := orI (cmpI a.s b.s) (orI (cmpI a.f.length b.f.length) (cmpI b.p a.p))
theorem sortC_before (a b : Ph) : decide (sortC a b < 0) = beforeD a.ph b.ph := by
  unfold sortC beforeD orI cmpI Ph.ph
  simp only
  by_cases h1 : a.s < b.s
  · have : ¬ a.s = b.s := by omega
    simp [h1, this]
  · by_cases h2 : b.s < a.s
    · have : ¬ a.s = b.s := by omega
      simp [h1, h2, this]
    · have h3 : a.s = b.s := by omega
      by_cases h4 : a.f.length < b.f.length
      · have : ¬ a.f.length = b.f.length := by omega
        simp [h3, h4, this]
      · by_cases h5 : b.f.length < a.f.length
        · have : ¬ a.f.length = b.f.length := by omega
          simp [h3, h4, h5, this]
        · have h6 : a.f.length = b.f.length := by omega
          by_cases h7 : b.p < a.p
          · simp [h3, h6, h7]
          · by_cases h8 : a.p < b.p
            · simp [h3, h6, h7, h8]
            · simp [h3, h6, h7, h8]

set_option maxRecDepth 100000 in
set_option maxHeartbeats 4000000 in
theorem sortFn_any (a b : Ph) (w : World) : Calls Try.prog 35 #[a.val, b.val] w fun e w' => e = .returned (.int .i64 (sortC a b)) ∧ Below w.heap.size w w' := by
  have LA := (Lies.new w 42 #[.int .i64 a.s, .int .i64 a.c, .slice a.A a.f.length a.cap, .int .i64 a.p]).alloc (.cells #[.int .i64 b.s, .int .i64 b.c, .slice b.A b.f.length b.cap, .int .i64 b.p] 42)
  have LB : Lies ((w.alloc (.cells #[.int .i64 a.s, .int .i64 a.c, .slice a.A a.f.length a.cap, .int .i64 a.p] 42)).alloc (.cells #[.int .i64 b.s, .int .i64 b.c, .slice b.A b.f.length b.cap, .int .i64 b.p] 42)) (w.heap.size + 1) 42 [.int .i64 b.s, .int .i64 b.c, .slice b.A b.f.length b.cap, .int .i64 b.p] := Lies.new1 w (.cells #[.int .i64 a.s, .int .i64 a.c, .slice a.A a.f.length a.cap, .int .i64 a.p] 42) 42 #[.int .i64 b.s, .int .i64 b.c, .slice b.A b.f.length b.cap, .int .i64 b.p]
  have b2 : Below w.heap.size w ((w.alloc (.cells #[.int .i64 a.s, .int .i64 a.c, .slice a.A a.f.length a.cap, .int .i64 a.p] 42)).alloc (.cells #[.int .i64 b.s, .int .i64 b.c, .slice b.A b.f.length b.cap, .int .i64 b.p] 42)) := ((Below.refl w.heap.size w).alloc (Nat.le_refl _) (.cells #[.int .i64 a.s, .int .i64 a.c, .slice a.A a.f.length a.cap, .int .i64 a.p] 42)).alloc (by simp) (.cells #[.int .i64 b.s, .int .i64 b.c, .slice b.A b.f.length b.cap, .int .i64 b.p] 42)
  go_enter Try.func35, Try.ntmps35
  go_upto_region 1 with fail
  generalize (w.alloc (.cells #[.int .i64 a.s, .int .i64 a.c, .slice a.A a.f.length a.cap, .int .i64 a.p] 42)).alloc (.cells #[.int .i64 b.s, .int .i64 b.c, .slice b.A b.f.length b.cap, .int .i64 b.p] 42) = W at LA LB b2 ⊢
  refine wp_region_factsR (fun _ => (fun W9 => Below W.heap.size W W9)) (fun _ w1 w2 => Below w1.heap.size w1 w2) (by kernel_rfl) (by kernel_rfl) (by kernel_rfl) (Below.refl _ _).drew ?_
  simp only [fillOps, Act.put, List.setIfInBounds_toArray, List.set_cons_zero, List.set_cons_succ, Nat.zero_add, Nat.reduceAdd]
  apply wpFactsR_val
  case h1 =>
    intro vs L9 w9 hG9 hC9 hB K9 hK9
    simp only [Act.put, List.setIfInBounds_toArray, List.set_cons_zero, List.set_cons_succ] at hK9
    go_simp
    exact hK9 _ _ rfl hC9 (Below.refl _ _)
  apply wpFactsR_val
  case h1 =>
    intro vs L9 w9 hG9 hC9 hB K9 hK9
    have d0 := FactN.eq (hB 0 _ (by kernel_rfl) (by kernel_rfl) rfl (by decide))
    simp only [d0] at hK9 ⊢
    have q0 : w9.cell? ⟨w.heap.size, 0, none⟩ = some (.int .i64 a.s) := (LA.below hC9 LA.lt).cell 0
    simp only [Act.put, List.setIfInBounds_toArray, List.set_cons_zero, List.set_cons_succ] at hK9
    go_simp
    exact hK9 _ _ rfl hC9 (Below.refl _ _)
  apply wpFactsR_val
  case h1 =>
    intro vs L9 w9 hG9 hC9 hB K9 hK9
    simp only [Act.put, List.setIfInBounds_toArray, List.set_cons_zero, List.set_cons_succ] at hK9
    go_simp
    exact hK9 _ _ rfl hC9 (Below.refl _ _)
  apply wpFactsR_val
  case h1 =>
    intro vs L9 w9 hG9 hC9 hB K9 hK9
    have d2 := FactN.eq (hB 2 _ (by kernel_rfl) (by kernel_rfl) rfl (by decide))
    simp only [d2] at hK9 ⊢
    have q0 : w9.cell? ⟨(w.heap.size + 1), 0, none⟩ = some (.int .i64 b.s) := (LB.below hC9 LB.lt).cell 0
    simp only [Act.put, List.setIfInBounds_toArray, List.set_cons_zero, List.set_cons_succ] at hK9
    go_simp
    exact hK9 _ _ rfl hC9 (Below.refl _ _)
  refine wpFactsR_val (.int .i64 (cmpI a.s b.s)) (fun vs L9 w9 hG9 hC9 hB K9 hK9 => ?_) ?_
  next =>
    have d1 := FactN.eq (hB 1 _ (by kernel_rfl) (by kernel_rfl) rfl (by decide))
    have d3 := FactN.eq (hB 3 _ (by kernel_rfl) (by kernel_rfl) rfl (by decide))
    simp only [d1, d3] at hK9 ⊢
    go_simp
    refine (compare_any _ _ w9).mono ?_
    rintro en w8 ⟨rfl, rfl⟩
    exact hK9 _ _ rfl hC9 (Below.refl _ _)
  apply wpFactsR_val
  case h1 =>
    intro vs L9 w9 hG9 hC9 hB K9 hK9
    simp only [Act.put, List.setIfInBounds_toArray, List.set_cons_zero, List.set_cons_succ] at hK9
    go_simp
    exact hK9 _ _ rfl hC9 (Below.refl _ _)
  apply wpFactsR_val
  case h1 =>
    intro vs L9 w9 hG9 hC9 hB K9 hK9
    have d5 := FactN.eq (hB 5 _ (by kernel_rfl) (by kernel_rfl) rfl (by decide))
    simp only [d5] at hK9 ⊢
    have q0 : w9.cell? ⟨w.heap.size, 2, none⟩ = some (.slice a.A a.f.length a.cap) := (LA.below hC9 LA.lt).cell 2
    simp only [Act.put, List.setIfInBounds_toArray, List.set_cons_zero, List.set_cons_succ] at hK9
    go_simp
    exact hK9 _ _ rfl hC9 (Below.refl _ _)
  apply wpFactsR_val
  case h1 =>
    intro vs L9 w9 hG9 hC9 hB K9 hK9
    have d6 := FactN.eq (hB 6 _ (by kernel_rfl) (by kernel_rfl) rfl (by decide))
    simp only [d6] at hK9 ⊢
    simp only [Act.put, List.setIfInBounds_toArray, List.set_cons_zero, List.set_cons_succ] at hK9
    go_simp
    exact hK9 _ _ rfl hC9 (Below.refl _ _)
  apply wpFactsR_val
  case h1 =>
    intro vs L9 w9 hG9 hC9 hB K9 hK9
    simp only [Act.put, List.setIfInBounds_toArray, List.set_cons_zero, List.set_cons_succ] at hK9
    go_simp
    exact hK9 _ _ rfl hC9 (Below.refl _ _)
  apply wpFactsR_val
  case h1 =>
    intro vs L9 w9 hG9 hC9 hB K9 hK9
    have d8 := FactN.eq (hB 8 _ (by kernel_rfl) (by kernel_rfl) rfl (by decide))
    simp only [d8] at hK9 ⊢
    have q0 : w9.cell? ⟨(w.heap.size + 1), 2, none⟩ = some (.slice b.A b.f.length b.cap) := (LB.below hC9 LB.lt).cell 2
    simp only [Act.put, List.setIfInBounds_toArray, List.set_cons_zero, List.set_cons_succ] at hK9
    go_simp
    exact hK9 _ _ rfl hC9 (Below.refl _ _)
  apply wpFactsR_val
  case h1 =>
    intro vs L9 w9 hG9 hC9 hB K9 hK9
    have d9 := FactN.eq (hB 9 _ (by kernel_rfl) (by kernel_rfl) rfl (by decide))
    simp only [d9] at hK9 ⊢
    simp only [Act.put, List.setIfInBounds_toArray, List.set_cons_zero, List.set_cons_succ] at hK9
    go_simp
    exact hK9 _ _ rfl hC9 (Below.refl _ _)
  refine wpFactsR_val (.int .i64 (cmpI a.f.length b.f.length)) (fun vs L9 w9 hG9 hC9 hB K9 hK9 => ?_) ?_
  next =>
    have d7 := FactN.eq (hB 7 _ (by kernel_rfl) (by kernel_rfl) rfl (by decide))
    have d10 := FactN.eq (hB 10 _ (by kernel_rfl) (by kernel_rfl) rfl (by decide))
    simp only [d7, d10] at hK9 ⊢
    go_simp
    refine (compare_any _ _ w9).mono ?_
    rintro en w8 ⟨rfl, rfl⟩
    exact hK9 _ _ rfl hC9 (Below.refl _ _)
  apply wpFactsR_val
  case h1 =>
    intro vs L9 w9 hG9 hC9 hB K9 hK9
    simp only [Act.put, List.setIfInBounds_toArray, List.set_cons_zero, List.set_cons_succ] at hK9
    go_simp
    exact hK9 _ _ rfl hC9 (Below.refl _ _)
  apply wpFactsR_val
  case h1 =>
    intro vs L9 w9 hG9 hC9 hB K9 hK9
    have d12 := FactN.eq (hB 12 _ (by kernel_rfl) (by kernel_rfl) rfl (by decide))
    simp only [d12] at hK9 ⊢
    have q0 : w9.cell? ⟨(w.heap.size + 1), 3, none⟩ = some (.int .i64 b.p) := (LB.below hC9 LB.lt).cell 3
    simp only [Act.put, List.setIfInBounds_toArray, List.set_cons_zero, List.set_cons_succ] at hK9
    go_simp
    exact hK9 _ _ rfl hC9 (Below.refl _ _)
  apply wpFactsR_val
  case h1 =>
    intro vs L9 w9 hG9 hC9 hB K9 hK9
    simp only [Act.put, List.setIfInBounds_toArray, List.set_cons_zero, List.set_cons_succ] at hK9
    go_simp
    exact hK9 _ _ rfl hC9 (Below.refl _ _)
  apply wpFactsR_val
  case h1 =>
    intro vs L9 w9 hG9 hC9 hB K9 hK9
    have d14 := FactN.eq (hB 14 _ (by kernel_rfl) (by kernel_rfl) rfl (by decide))
    simp only [d14] at hK9 ⊢
    have q0 : w9.cell? ⟨w.heap.size, 3, none⟩ = some (.int .i64 a.p) := (LA.below hC9 LA.lt).cell 3
    simp only [Act.put, List.setIfInBounds_toArray, List.set_cons_zero, List.set_cons_succ] at hK9
    go_simp
    exact hK9 _ _ rfl hC9 (Below.refl _ _)
  refine wpFactsR_val (.int .i64 (cmpI b.p a.p)) (fun vs L9 w9 hG9 hC9 hB K9 hK9 => ?_) ?_
  next =>
    have d13 := FactN.eq (hB 13 _ (by kernel_rfl) (by kernel_rfl) rfl (by decide))
    have d15 := FactN.eq (hB 15 _ (by kernel_rfl) (by kernel_rfl) rfl (by decide))
    simp only [d13, d15] at hK9 ⊢
    go_simp
    refine (compare_any _ _ w9).mono ?_
    rintro en w8 ⟨rfl, rfl⟩
    exact hK9 _ _ rfl hC9 (Below.refl _ _)
  refine wpFactsR_some [] (fun v w9 => ∃ g, v = .slice (some ⟨g, 0, none⟩) 3 3 ∧ Lies w9 g 3 [.int .i64 (cmpI a.s b.s), .int .i64 (cmpI a.f.length b.f.length), .int .i64 (cmpI b.p a.p)]) ?_ (fun vs L9 w9 hG9 hC9 hB K9 hK9 => ?_) ?_
  next =>
    intro i9 hi9 hb9 ha9 v w1 w2 hv hT9
    have hb := hT9
    obtain ⟨g, q1, q2⟩ := hv
    exact ⟨g, q1, q2.below hb q2.lt⟩
  next =>
    have d4 := FactN.eq (hB 4 _ (by kernel_rfl) (by kernel_rfl) rfl (by decide))
    have d11 := FactN.eq (hB 11 _ (by kernel_rfl) (by kernel_rfl) rfl (by decide))
    have d16 := FactN.eq (hB 16 _ (by kernel_rfl) (by kernel_rfl) rfl (by decide))
    simp only [d4, d11, d16] at hK9 ⊢
    simp only [Act.put, List.setIfInBounds_toArray, List.set_cons_zero, List.set_cons_succ] at hK9
    go_simp
    have hb8 := (Below.refl w9.heap.size w9).alloc (Nat.le_refl _) (.cells #[.int .i64 (cmpI a.s b.s), .int .i64 (cmpI a.f.length b.f.length), .int .i64 (cmpI b.p a.p)] 3)
    exact hK9 _ _ _ rfl ⟨_, rfl, Lies.new w9 3 #[.int .i64 (cmpI a.s b.s), .int .i64 (cmpI a.f.length b.f.length), .int .i64 (cmpI b.p a.p)]⟩ (hC9.trans (hb8.mono hC9.size)) (hb8)
  refine wpFactsR_val (.int .i64 (sortC a b)) (fun vs L9 w9 hG9 hC9 hB K9 hK9 => ?_) ?_
  next =>
    obtain ⟨g, e17, hL⟩ := hB 17 _ (by kernel_rfl) (by kernel_rfl) rfl (by decide)
    simp only [e17] at hK9 ⊢
    go_simp
    refine (or3_any _ _ _ g 3 w9 (hL.cell 0) (hL.cell 1) (hL.cell 2)).mono ?_
    rintro en w8 ⟨rfl, rfl⟩
    exact hK9 _ _ rfl hC9 (Below.refl _ _)
  apply wpFactsR_val
  case h1 =>
    intro vs L9 w9 hG9 hC9 hB K9 hK9
    have d18 := FactN.eq (hB 18 _ (by kernel_rfl) (by kernel_rfl) rfl (by decide))
    simp only [d18] at hK9 ⊢
    simp only [Act.put, List.setIfInBounds_toArray, List.set_cons_zero, List.set_cons_succ] at hK9
    go_simp
    exact hK9 _ _ rfl hC9 (Below.refl _ _)
  refine wpFactsR_nil fun vs Lq wd hL9 hbd hB => ?_
  have dl := FactN.eq (hB 19 _ rfl rfl (by decide))
  simp only [dl]
  clear hB hL9 dl
  go_wp2
  go_ret
  exact ⟨rfl, b2.trans (hbd.mono b2.size)⟩
end Go.Proofs.Ytchkjiadnackaaa

/- The library's insertion sort at phrases. (Printed by gen_sorti.py) -/
namespace Go.Proofs.Ytchkjiadnackaaa
open Go.RowKit

theorem ownsRow_capP {w : World} {B k n : Nat} {e : TypeId} {A : Option Addr} {c m : Nat} {xs : List Value} (h : w.ownsRow B e k (.slice A m c) n xs) (hn : m = n) : m ≤ c := by
  subst hn
  obtain ⟨_, ⟨h0, h1⟩ | ⟨g, cap, cur, hv, _, _, hc, _⟩⟩ := h
  · injection h0 with _ h2 h3; omega
  · injection hv with _ _ h3; omega
theorem row_cells {w : World} {B g cap n : Nat} {l : List Ph} (h : RowPh w B (.slice (some ⟨g, 0, none⟩) n cap) l) (hn : n = l.length) {j : Nat} {x : Ph} (hx : l[j]? = some x) (p : Since w.heap.size w) :
    p.val.cell? ⟨g, j * 4, none⟩ = some (.int .i64 x.s) ∧ p.val.cell? ⟨g, j * 4 + 1, none⟩ = some (.int .i64 x.c) ∧ p.val.cell? ⟨g, j * 4 + 2, none⟩ = some (.slice x.A x.f.length x.cap) ∧ p.val.cell? ⟨g, j * 4 + 3, none⟩ = some (.int .i64 x.p) := by
  subst hn
  have hj : j < l.length := (List.getElem?_eq_some_iff.1 hx).1
  have hlt := (h.row.lt g rfl).2
  have key : ∀ o u, (x.enc)[o]? = some u → o < 4 → p.val.cell? ⟨g, j * 4 + o, none⟩ = some u := fun o u hu ho => by
    rw [p.cell hlt, h.row.cellAt (j * 4 + o) (by omega), flat_at Ph.enc 4 Ph.enc_len l j hj o ho]
    have e := (List.getElem?_eq_some_iff.1 hx).2
    rw [e]; exact hu
  exact ⟨key 0 _ rfl (by omega), key 1 _ rfl (by omega), key 2 _ rfl (by omega), key 3 _ rfl (by omega)⟩
theorem insert_done {acc : List Ph} {x : Ph} {j : Nat} (_hj : j ≤ acc.length) (h : posD x.ph (acc.map Ph.ph) acc.length = j) : (rowAt acc x [] j).map Ph.ph = insD (acc.map Ph.ph) x.ph := by
  unfold rowAt insD
  rw [List.length_map, h]
  simp [List.map_take, List.map_drop]

theorem rowAt_app (acc rest : List Ph) (x : Ph) (j : Nat) : rowAt acc x [] j ++ rest = rowAt acc x rest j := by unfold rowAt; simp
def put4 (cs : List Value) (o : Nat) (x : Ph) : List Value := (((cs.set o (.int .i64 x.s)).set (o + 1) (.int .i64 x.c)).set (o + 2) (.slice x.A x.f.length x.cap)).set (o + 3) (.int .i64 x.p)
def put4W (W : World) (g o : Nat) (x : Ph) : World := (((W.setCell ⟨g, o, none⟩ (.int .i64 x.s)).setCell ⟨g, o + 1, none⟩ (.int .i64 x.c)).setCell ⟨g, o + 2, none⟩ (.slice x.A x.f.length x.cap)).setCell ⟨g, o + 3, none⟩ (.int .i64 x.p)
theorem put4_row {W : World} {B g cap n : Nat} {xs : List Value} (h : W.ownsRow B 42 4 (.slice (some ⟨g, 0, none⟩) n cap) n xs) (o : Nat) (x : Ph) : (put4W W g o x).ownsRow B 42 4 (.slice (some ⟨g, 0, none⟩) n cap) n (put4 xs o x) ∧ W.grownBy (put4W W g o x) (some g) := by
  obtain ⟨h1, g1⟩ := h.stored o (.int .i64 x.s)
  obtain ⟨h2, g2⟩ := h1.stored (o + 1) (.int .i64 x.c)
  obtain ⟨h3, g3⟩ := h2.stored (o + 2) (.slice x.A x.f.length x.cap)
  obtain ⟨h4, g4⟩ := h3.stored (o + 3) (.int .i64 x.p)
  exact ⟨h4, grown_trans (grown_trans (grown_trans g1 g2) g3) g4⟩
theorem put4_swap (a b : List Ph) (x y : Ph) : put4 (put4 ((a ++ y :: x :: b).flatMap Ph.enc) ((a.length + 1) * 4) y) (a.length * 4) x = (a ++ x :: y :: b).flatMap Ph.enc := by
  have hA : (a.flatMap Ph.enc).length = a.length * 4 := flat_len Ph.enc 4 Ph.enc_len a
  simp only [List.flatMap_append, List.flatMap_cons]
  rw [show (a.length + 1) * 4 = a.length * 4 + 4 by omega]
  generalize a.flatMap Ph.enc = A at hA ⊢
  generalize b.flatMap Ph.enc = R
  rw [← hA]
  unfold put4 Ph.enc
  simp only [Nat.add_assoc, List.cons_append, List.nil_append]
  have hs : ∀ (i : Nat) (u : Value) (r : List Value), (A ++ r).set (A.length + i) u = A ++ r.set i u := fun i u r => by rw [List.set_append, if_neg (by omega), Nat.add_sub_cancel_left]
  have hs0 : ∀ (u : Value) (r : List Value), (A ++ r).set A.length u = A ++ r.set 0 u := fun u r => by have := hs 0 u r; rwa [Nat.add_zero] at this
  simp only [hs, hs0, Nat.reduceAdd, List.set_cons_succ, List.set_cons_zero]
theorem row_frozen {w : World} {B g cap n : Nat} {e : TypeId} {xs : List Value} (h : w.ownsRow B e 4 (.slice (some ⟨g, 0, none⟩) n cap) n xs) (i : Nat) : w.frozen? ⟨g, i, none⟩ = false := by
  obtain ⟨_, h0 | ⟨g', c', cur, hv, _, hh, _⟩⟩ := h
  · cases h0.1
  · injection hv with e1 e2 e3
    injection e1 with e1; injection e1 with e1; subst e1
    exact (Lies.of hh).frozen i
/-- The cells of place o of a row. -/
theorem row_some {w : World} {B g cap n : Nat} {e : TypeId} {xs : List Value} (h : w.ownsRow B e 4 (.slice (some ⟨g, 0, none⟩) n cap) n xs) (j : Nat) (hj : j < n * 4) : ∃ u, w.cell? ⟨g, j, none⟩ = some u := by
  rw [h.cellAt j hj, List.getElem?_eq_getElem (by rw [h.1]; exact hj)]
  exact ⟨_, rfl⟩

set_option maxRecDepth 100000 in
set_option maxHeartbeats 4000000 in
set_option linter.unusedVariables false in
theorem insertion_any (l : List Ph) (g cap B : Nat) (w : World) (hB : B ≤ w.heap.size) (hl0 : 1 ≤ l.length) (hl : l.length ≤ 1000) (h : RowPh w B (.slice (some ⟨g, 0, none⟩) l.length cap) l) :
    Calls Try.prog 70 #[.slice (some ⟨g, 0, none⟩) l.length cap, .int .i64 0, .int .i64 l.length, .func (.func 35) #[] #[]] w fun e w' => ∃ (v : Value) (m : List Ph), e = .returned v ∧ m.map Ph.ph = sortD (l.map Ph.ph) ∧ RowPh w' B (.slice (some ⟨g, 0, none⟩) l.length cap) m ∧ Below B w w' := by
  have eg := Try.call35
  have hBg : B ≤ g := (h.row.lt g rfl).1
  have HH := Lib.hid h
  have HT1 : Hid ((l.take 1).map Ph.ph = sortD ((l.map Ph.ph).take 1)) := by
    cases l with
    | nil => simp at hl0
    | cons a l => rfl
  have hcap : l.length ≤ cap := ownsRow_capP h.row rfl
  clear h
  go_enter Try.func70, Try.ntmps70
  go_wp2_with fail
  go_loopw [8, 9] (fun i _ wr => ∃ (k : Nat) (acc : List Ph), (1 ≤ k ∧ k ≤ l.length) ∧ i = .int .i64 k ∧ acc.length = k ∧ Hid (acc.map Ph.ph = sortD ((l.map Ph.ph).take k)) ∧ Hid (RowPh wr B (.slice (some ⟨g, 0, none⟩) l.length cap) (acc ++ l.drop k)) ∧ Below B w wr) (fun i _ _ => l.length - (intOf i).toNat)
  case atStart => exact ⟨1, l.take 1, ⟨Nat.le_refl _, hl0⟩, rfl, by rw [List.length_take]; omega, HT1, by rw [List.take_append_drop]; exact HH, Below.refl _ _⟩
  case round =>
    clear HH HT1
    obtain ⟨k, acc, ⟨hk1, hk2⟩, rfl, hacc, HM, HR, hbr⟩ := hrel
    by_cases hlt : k < l.length
    · obtain ⟨x, hx⟩ : ∃ x, x = l[k] := ⟨_, rfl⟩
      have HR0 : Hid (RowPh wr B (.slice (some ⟨g, 0, none⟩) l.length cap) (rowAt acc x (l.drop (k + 1)) k)) := by
        have h1 := HR.out
        rw [List.drop_eq_getElem_cons hlt, ← hx] at h1
        unfold rowAt
        rw [List.take_of_length_le (by omega), List.drop_eq_nil_of_le (by omega)]
        exact h1
      have HST : Hid (sortD ((l.map Ph.ph).take (k + 1)) = insD (acc.map Ph.ph) x.ph) := by
        rw [Hid, sortD_step (by simpa using hlt), ← HM.out, hx]; simp
      have hbw := hbr.size
      clear HR HM hx
      go_wp2_with fail
      go_loopw [9] (fun jv wr2 => ∃ j : Nat, j ≤ k ∧ jv = .int .i64 j ∧ Hid (RowPh wr2 B (.slice (some ⟨g, 0, none⟩) l.length cap) (rowAt acc x (l.drop (k + 1)) j)) ∧ Hid (posD x.ph (acc.map Ph.ph) j = posD x.ph (acc.map Ph.ph) acc.length) ∧ Below B wr wr2) (fun jv _ => (intOf jv).toNat)
      case atStart => exact ⟨k, Nat.le_refl _, rfl, HR0, by rw [Hid, hacc], Below.refl _ _⟩
      case round =>
        clear HR0
        obtain ⟨j, hj, rfl, HR, HP, hb2⟩ := hrel
        have hlen : l.length = (rowAt acc x (l.drop (k + 1)) j).length := by rw [rowAt_len (by omega), List.length_drop]; omega
        by_cases hj0 : 0 < j
        · obtain ⟨j, rfl⟩ : ∃ q, j = q + 1 := ⟨j - 1, by omega⟩
          have hjl : j < acc.length := by omega
          have cx := fun p => row_cells HR.out hlen (rowAt_x (by omega)) p
          have cy := fun p => row_cells HR.out hlen (rowAt_y hjl) p
          have HPS := Lib.hid (pos_step (x := x) hjl)
          have HSP := Lib.hid (rowAt_split (x := x) (rest := l.drop (k + 1)) hjl)
          obtain ⟨y, hy⟩ : ∃ y, y = acc[j] := ⟨_, rfl⟩
          have HY : Hid ((rowAt acc x (l.drop (k + 1)) (j + 1))[j]? = some y) := by rw [Hid, hy]; exact rowAt_y hjl
          rw [← hy] at cy HPS HSP
          obtain ⟨x0, x1, x2, x3⟩ : (∀ p : Since wr.heap.size wr, p.val.cell? ⟨g, (j + 1) * 4, none⟩ = some (.int .i64 x.s)) ∧ (∀ p : Since wr.heap.size wr, p.val.cell? ⟨g, (j + 1) * 4 + 1, none⟩ = some (.int .i64 x.c)) ∧ (∀ p : Since wr.heap.size wr, p.val.cell? ⟨g, (j + 1) * 4 + 2, none⟩ = some (.slice x.A x.f.length x.cap)) ∧ (∀ p : Since wr.heap.size wr, p.val.cell? ⟨g, (j + 1) * 4 + 3, none⟩ = some (.int .i64 x.p)) := ⟨fun p => (cx p).1, fun p => (cx p).2.1, fun p => (cx p).2.2.1, fun p => (cx p).2.2.2⟩
          obtain ⟨y0, y1, y2, y3⟩ : (∀ p : Since wr.heap.size wr, p.val.cell? ⟨g, j * 4, none⟩ = some (.int .i64 y.s)) ∧ (∀ p : Since wr.heap.size wr, p.val.cell? ⟨g, j * 4 + 1, none⟩ = some (.int .i64 y.c)) ∧ (∀ p : Since wr.heap.size wr, p.val.cell? ⟨g, j * 4 + 2, none⟩ = some (.slice y.A y.f.length y.cap)) ∧ (∀ p : Since wr.heap.size wr, p.val.cell? ⟨g, j * 4 + 3, none⟩ = some (.int .i64 y.p)) := ⟨fun p => (cy p).1, fun p => (cy p).2.1, fun p => (cy p).2.2.1, fun p => (cy p).2.2.2⟩
          have HC := Lib.hid (fun p : Since wr.heap.size wr => sortFn_any x y p.val)
          have hbf := sortC_before x y
          obtain ⟨bf, hbf2⟩ : ∃ b, beforeD x.ph y.ph = b := ⟨_, rfl⟩
          rw [hbf2] at hbf HPS
          clear cx cy hy hbf2 hlen
          obtain ⟨sc, hsc⟩ : ∃ z, sortC x y = z := ⟨_, rfl⟩
          rw [hsc] at hbf
          simp only [hsc] at HC
          clear hsc
          cases bf
          · have hb' : ¬ sc < 0 := of_decide_eq_false hbf
            clear hbf
            go_wp2_with fail
            refine wp_region_since0 (by kernel_rfl) (by kernel_rfl) ?_
            repeat (any_goals (first | go_big_quiet_step ((refine calls_since (Nat.le_refl _) (HC.out _))) | (refine wpQuiet_step (fun K hK => ?_); go_simp; split <;> (refine hK _ ?_; clear hK K))))
            all_goals (refine wpQuiet_nil ?_; rintro _ ⟨q1, rfl⟩)
            have HPJ : posD x.ph (acc.map Ph.ph) acc.length = j + 1 := by
              have h1 := HPS.out
              rw [if_neg (by decide)] at h1
              rw [← HP.out, h1]
            have HM2 : Hid ((rowAt acc x [] (j + 1)).map Ph.ph = sortD ((l.map Ph.ph).take (k + 1))) := by rw [Hid, HST.out, insert_done (by omega) HPJ]
            have HR2 : Hid (RowPh q1.val B (.slice (some ⟨g, 0, none⟩) l.length cap) (rowAt acc x [] (j + 1) ++ l.drop (k + 1))) := by rw [Hid, rowAt_app]; exact HR.out.below q1.below
            have hb9 := (hbr.trans hb2).trans (q1.below.mono (by have := hb2.size; omega))
            have hln : (rowAt acc x [] (j + 1)).length = k + 1 := by rw [rowAt_len (by omega)]; simp; omega
            clear HPJ HPS HP HSP HR HST HC x0 x1 x2 x3 y0 y1 y2 y3
            go_wp2_with fail
            exact ⟨⟨k + 1, rowAt acc x [] (j + 1), ⟨by omega, by omega⟩, by go_num, hln, HM2, HR2, hb9⟩, by simp [intOf]; omega⟩
          · have hb' : sc < 0 := of_decide_eq_true hbf
            clear hbf
            go_wp2_with fail
            refine wp_region_since0 (by kernel_rfl) (by kernel_rfl) ?_
            repeat (any_goals (first | go_big_quiet_step ((refine calls_since (Nat.le_refl _) (HC.out _))) | (refine wpQuiet_step (fun K hK => ?_); go_simp; split <;> (refine hK _ ?_; clear hK K))))
            all_goals (refine wpQuiet_nil ?_; rintro _ ⟨q1, rfl⟩)
            go_wp2_with fail
            have HR6 := Lib.hid (HR.out.below q1.below)
            have hb6 := (hbr.trans hb2).trans (q1.below.mono (by have := hb2.size; omega))
            have hb26 := hb2.trans (q1.below.mono (by have := hb2.size; omega))
            have hPJ : posD x.ph (acc.map Ph.ph) j = posD x.ph (acc.map Ph.ph) acc.length := by
              have h1 := HPS.out
              rw [if_pos trivial] at h1
              rw [← HP.out, h1]
            have HPJ := Lib.hid hPJ
            have hlen6 : Hid (l.length = (rowAt acc x (l.drop (k + 1)) (j + 1)).length) := by rw [Hid]; rw [rowAt_len (by omega), List.length_drop]; omega
            have hw6 : w.heap.size ≤ q1.val.heap.size := hb6.size
            have hwr6 := q1.size
            have HSP2 := HSP
            clear HPS HP HSP HR HC x0 x1 x2 x3 y0 y1 y2 y3 hPJ hb' hb2
            generalize q1.val = W6 at HR6 hb6 hb26 hw6 hwr6 ⊢
            have yx : Hid (∀ W9, Below W6.heap.size W6 W9 → ∀ p : Since W9.heap.size W9, True) := fun _ _ _ => trivial
            clear yx
            have ROW : Hid (∀ W9, Below W6.heap.size W6 W9 → W9.ownsRow B 42 4 (.slice (some ⟨g, 0, none⟩) l.length cap) l.length ((rowAt acc x (l.drop (k + 1)) (j + 1)).flatMap Ph.enc)) := fun W9 h9 => by
              have h1 := (HR6.out.below h9).row
              rw [← hlen6.out] at h1
              exact h1
            have YC : Hid (∀ W9, Below W6.heap.size W6 W9 → W9.cell? ⟨g, j * 4, none⟩ = some (.int .i64 y.s) ∧ W9.cell? ⟨g, j * 4 + 1, none⟩ = some (.int .i64 y.c) ∧ W9.cell? ⟨g, j * 4 + 2, none⟩ = some (.slice y.A y.f.length y.cap) ∧ W9.cell? ⟨g, j * 4 + 3, none⟩ = some (.int .i64 y.p)) := fun W9 h9 =>
              row_cells (HR6.out.below h9) hlen6.out HY.out (Since.start _ _)
            have XC : Hid (∀ W9, Below W6.heap.size W6 W9 → W9.cell? ⟨g, (j + 1) * 4, none⟩ = some (.int .i64 x.s) ∧ W9.cell? ⟨g, (j + 1) * 4 + 1, none⟩ = some (.int .i64 x.c) ∧ W9.cell? ⟨g, (j + 1) * 4 + 2, none⟩ = some (.slice x.A x.f.length x.cap) ∧ W9.cell? ⟨g, (j + 1) * 4 + 3, none⟩ = some (.int .i64 x.p)) := fun W9 h9 =>
              row_cells (HR6.out.below h9) hlen6.out (rowAt_x (by omega)) (Since.start _ _)
            have hjn : j + 1 < l.length := by omega
            have hj2 : j < l.length := by omega
            refine wp_region_factsR (Sw 15 (fun W9 => Below W6.heap.size W6 W9) (fun W9 => W6.grownBy W9 (some g))) (fun i w1 w2 => i ∉ [15, 17] → Below w1.heap.size w1 w2) (by kernel_rfl) (by kernel_rfl) (by kernel_rfl) (Sw.start (Below.refl _ _).drew) ?_
            simp only [fillOps, Act.put, List.setIfInBounds_toArray, List.set_cons_zero, List.set_cons_succ, Nat.zero_add, Nat.reduceAdd]
            apply wpFactsR_val
            case h1 =>
              intro vs L9 w9 hG9 hC9 hB K9 hK9
              replace hC9 := hC9.before hG9 (by kernel_rfl)
              simp only [Act.put, List.setIfInBounds_toArray, List.set_cons_zero, List.set_cons_succ] at hK9
              go_simp
              exact hK9 _ _ rfl (Sw.stay hG9 (by kernel_rfl) (by decide) hC9) (fun _ => Below.refl _ _)
            apply wpFactsR_val
            case h1 =>
              intro vs L9 w9 hG9 hC9 hB K9 hK9
              replace hC9 := hC9.before hG9 (by kernel_rfl)
              simp only [Act.put, List.setIfInBounds_toArray, List.set_cons_zero, List.set_cons_succ] at hK9
              go_simp
              exact hK9 _ _ rfl (Sw.stay hG9 (by kernel_rfl) (by decide) hC9) (fun _ => Below.refl _ _)
            apply wpFactsR_val
            case h1 =>
              intro vs L9 w9 hG9 hC9 hB K9 hK9
              simp only [Act.put, List.setIfInBounds_toArray, List.set_cons_zero, List.set_cons_succ] at hK9
              have HC9 := Lib.hid hC9
              clear hC9
              go_simp
              exact hK9 _ _ rfl (Sw.both (by decide) (fun h => h) (fun h => h) HC9.out) (fun _ => Below.refl _ _)
            apply wpFactsR_val
            case h1 =>
              intro vs L9 w9 hG9 hC9 hB K9 hK9
              simp only [Act.put, List.setIfInBounds_toArray, List.set_cons_zero, List.set_cons_succ] at hK9
              have HC9 := Lib.hid hC9
              clear hC9
              go_simp
              exact hK9 _ _ rfl (Sw.both (by decide) (fun h => h) (fun h => h) HC9.out) (fun _ => Below.refl _ _)
            refine wpFactsR_val (.int .i64 (j : Int)) (fun vs L9 w9 hG9 hC9 hB K9 hK9 => ?_) ?_
            next =>
              have d3 := FactN.eq (hB 3 _ (by kernel_rfl) (by kernel_rfl) rfl (by decide))
              simp only [d3] at hK9 ⊢
              have hwj : IntKind.i64.wrap (j : Int) = (j : Int) := IntWalk.i64_in _ (by omega)
              have HC9 := Lib.hid hC9
              clear hC9
              go_simp
              exact hK9 _ _ rfl (Sw.both (by decide) (fun h => h) (fun h => h) HC9.out) (fun _ => Below.refl _ _)
            apply wpFactsR_val
            case h1 =>
              intro vs L9 w9 hG9 hC9 hB K9 hK9
              replace hC9 := hC9.before hG9 (by kernel_rfl)
              simp only [Act.put, List.setIfInBounds_toArray, List.set_cons_zero, List.set_cons_succ] at hK9
              go_simp
              exact hK9 _ _ rfl (Sw.stay hG9 (by kernel_rfl) (by decide) hC9) (fun _ => Below.refl _ _)
            apply wpFactsR_val
            case h1 =>
              intro vs L9 w9 hG9 hC9 hB K9 hK9
              replace hC9 := hC9.before hG9 (by kernel_rfl)
              simp only [Act.put, List.setIfInBounds_toArray, List.set_cons_zero, List.set_cons_succ] at hK9
              go_simp
              exact hK9 _ _ rfl (Sw.stay hG9 (by kernel_rfl) (by decide) hC9) (fun _ => Below.refl _ _)
            refine wpFactsR_val (.int .i64 (j : Int)) (fun vs L9 w9 hG9 hC9 hB K9 hK9 => ?_) ?_
            next =>
              replace hC9 := hC9.before hG9 (by kernel_rfl)
              have d6 := FactN.eq (hB 6 _ (by kernel_rfl) (by kernel_rfl) rfl (by decide))
              simp only [d6] at hK9 ⊢
              have hwj : IntKind.i64.wrap (j : Int) = (j : Int) := IntWalk.i64_in _ (by omega)
              go_simp
              exact hK9 _ _ rfl (Sw.stay hG9 (by kernel_rfl) (by decide) hC9) (fun _ => Below.refl _ _)
            refine wpFactsR_val (.pointer (some ⟨g, j * 4, none⟩)) (fun vs L9 w9 hG9 hC9 hB K9 hK9 => ?_) ?_
            next =>
              replace hC9 := hC9.before hG9 (by kernel_rfl)
              have d5 := FactN.eq (hB 5 _ (by kernel_rfl) (by kernel_rfl) rfl (by decide))
              have d7 := FactN.eq (hB 7 _ (by kernel_rfl) (by kernel_rfl) rfl (by decide))
              simp only [d5, d7] at hK9 ⊢
              go_simp
              exact hK9 _ _ rfl (Sw.stay hG9 (by kernel_rfl) (by decide) hC9) (fun _ => Below.refl _ _)
            refine wpFactsR_val (.agg #[.int .i64 y.s, .int .i64 y.c, .slice y.A y.f.length y.cap, .int .i64 y.p]) (fun vs L9 w9 hG9 hC9 hB K9 hK9 => ?_) ?_
            next =>
              replace hC9 := hC9.before hG9 (by kernel_rfl)
              have d8 := FactN.eq (hB 8 _ (by kernel_rfl) (by kernel_rfl) rfl (by decide))
              simp only [d8] at hK9 ⊢
              obtain ⟨q0, q1, q2, q3⟩ := YC.out w9 hC9
              go_simp
              exact hK9 _ _ rfl (Sw.stay hG9 (by kernel_rfl) (by decide) hC9) (fun _ => Below.refl _ _)
            apply wpFactsR_val
            case h1 =>
              intro vs L9 w9 hG9 hC9 hB K9 hK9
              replace hC9 := hC9.before hG9 (by kernel_rfl)
              simp only [Act.put, List.setIfInBounds_toArray, List.set_cons_zero, List.set_cons_succ] at hK9
              go_simp
              exact hK9 _ _ rfl (Sw.stay hG9 (by kernel_rfl) (by decide) hC9) (fun _ => Below.refl _ _)
            apply wpFactsR_val
            case h1 =>
              intro vs L9 w9 hG9 hC9 hB K9 hK9
              replace hC9 := hC9.before hG9 (by kernel_rfl)
              simp only [Act.put, List.setIfInBounds_toArray, List.set_cons_zero, List.set_cons_succ] at hK9
              go_simp
              exact hK9 _ _ rfl (Sw.stay hG9 (by kernel_rfl) (by decide) hC9) (fun _ => Below.refl _ _)
            refine wpFactsR_val (.pointer (some ⟨g, (j + 1) * 4, none⟩)) (fun vs L9 w9 hG9 hC9 hB K9 hK9 => ?_) ?_
            next =>
              replace hC9 := hC9.before hG9 (by kernel_rfl)
              have d10 := FactN.eq (hB 10 _ (by kernel_rfl) (by kernel_rfl) rfl (by decide))
              have d11 := FactN.eq (hB 11 _ (by kernel_rfl) (by kernel_rfl) rfl (by decide))
              simp only [d10, d11] at hK9 ⊢
              have hq1 : (0 : Int) ≤ (j : Int) + 1 := by omega
              have hq2 : (j : Int) + 1 < (l.length : Int) := by omega
              go_simp
              exact hK9 _ _ rfl (Sw.stay hG9 (by kernel_rfl) (by decide) hC9) (fun _ => Below.refl _ _)
            refine wpFactsR_val (.agg #[.int .i64 x.s, .int .i64 x.c, .slice x.A x.f.length x.cap, .int .i64 x.p]) (fun vs L9 w9 hG9 hC9 hB K9 hK9 => ?_) ?_
            next =>
              replace hC9 := hC9.before hG9 (by kernel_rfl)
              have d12 := FactN.eq (hB 12 _ (by kernel_rfl) (by kernel_rfl) rfl (by decide))
              simp only [d12] at hK9 ⊢
              obtain ⟨q0, q1, q2, q3⟩ := XC.out w9 hC9
              go_simp
              exact hK9 _ _ rfl (Sw.stay hG9 (by kernel_rfl) (by decide) hC9) (fun _ => Below.refl _ _)
            refine wpFactsR_val (.pointer (some ⟨g, (j + 1) * 4, none⟩)) (fun vs L9 w9 hG9 hC9 hB K9 hK9 => ?_) ?_
            next =>
              replace hC9 := hC9.before hG9 (by kernel_rfl)
              have d0 := FactN.eq (hB 0 _ (by kernel_rfl) (by kernel_rfl) rfl (by decide))
              have d1 := FactN.eq (hB 1 _ (by kernel_rfl) (by kernel_rfl) rfl (by decide))
              simp only [d0, d1] at hK9 ⊢
              have hq1 : (0 : Int) ≤ (j : Int) + 1 := by omega
              have hq2 : (j : Int) + 1 < (l.length : Int) := by omega
              go_simp
              exact hK9 _ _ rfl (Sw.stay hG9 (by kernel_rfl) (by decide) hC9) (fun _ => Below.refl _ _)
            refine wpFactsR_some [17] (fun _ w9 => w9.ownsRow B 42 4 (.slice (some ⟨g, 0, none⟩) l.length cap) l.length (put4 ((rowAt acc x (l.drop (k + 1)) (j + 1)).flatMap Ph.enc) ((j + 1) * 4) y)) ?_ (fun vs L9 w9 hG9 hC9 hB K9 hK9 => ?_) ?_
            next =>
              intro i9 hi9 hb9 ha9 v w1 w2 hv hT9
              have hb := hT9 (fun hm => by
                simp only [List.mem_cons, List.not_mem_nil, or_false] at hm hb9
                rcases hm with rfl | rfl
                · exact hi9 rfl
                · exact hb9 (by simp))
              exact ownsRow_below hv hb
            next =>
              replace hC9 := hC9.here hG9
              have d9 := FactN.eq (hB 9 _ (by kernel_rfl) (by kernel_rfl) rfl (by decide))
              have d14 := FactN.eq (hB 14 _ (by kernel_rfl) (by kernel_rfl) rfl (by decide))
              simp only [d9, d14] at hK9 ⊢
              simp only [Act.put] at hK9
              have ho := ROW.out w9 hC9
              obtain ⟨q0, q1, q2, q3⟩ : (∃ u, w9.cell? ⟨g, (j + 1) * 4, none⟩ = some u) ∧ (∃ u, w9.cell? ⟨g, (j + 1) * 4 + 1, none⟩ = some u) ∧ (∃ u, w9.cell? ⟨g, (j + 1) * 4 + 2, none⟩ = some u) ∧ (∃ u, w9.cell? ⟨g, (j + 1) * 4 + 3, none⟩ = some u) := ⟨row_some ho _ (by omega), row_some ho _ (by omega), row_some ho _ (by omega), row_some ho _ (by omega)⟩
              obtain ⟨u0, q0⟩ := q0
              obtain ⟨u1, q1⟩ := q1
              obtain ⟨u2, q2⟩ := q2
              obtain ⟨u3, q3⟩ := q3
              have f0 := row_frozen ho ((j + 1) * 4)
              have f1 := row_frozen ho ((j + 1) * 4 + 1)
              have f2 := row_frozen ho ((j + 1) * 4 + 2)
              have f3 := row_frozen ho ((j + 1) * 4 + 3)
              have hst := put4_row ho ((j + 1) * 4) y
              have HST9 := Lib.hid hst
              clear hst ho
              unfold put4W at HST9
              go_simp
              exact hK9 _ undef _ rfl HST9.out.1 (Sw.turn (grown_trans (grownAny hC9 (some g)) HST9.out.2)) (fun hq => (hq (by decide)).elim)
            refine wpFactsR_val (.pointer (some ⟨g, j * 4, none⟩)) (fun vs L9 w9 hG9 hC9 hB K9 hK9 => ?_) ?_
            next =>
              replace hC9 := hC9.after hG9 (by kernel_rfl)
              have d2 := FactN.eq (hB 2 _ (by kernel_rfl) (by kernel_rfl) rfl (by decide))
              have d4 := FactN.eq (hB 4 _ (by kernel_rfl) (by kernel_rfl) rfl (by decide))
              simp only [d2, d4] at hK9 ⊢
              go_simp
              exact hK9 _ _ rfl (Sw.on hG9 (by kernel_rfl) hC9) (fun _ => Below.refl _ _)
            refine wpFactsR_some [] (fun _ w9 => w9.ownsRow B 42 4 (.slice (some ⟨g, 0, none⟩) l.length cap) l.length (put4 (put4 ((rowAt acc x (l.drop (k + 1)) (j + 1)).flatMap Ph.enc) ((j + 1) * 4) y) (j * 4) x)) ?_ (fun vs L9 w9 hG9 hC9 hB K9 hK9 => ?_) ?_
            next =>
              intro i9 hi9 hb9 ha9 v w1 w2 hv hT9
              have hb := hT9 (fun hm => by
                simp only [List.mem_cons, List.not_mem_nil, or_false] at hm hb9
                rcases hm with rfl | rfl
                · exact absurd (ha9.symm.trans (show ahead .any _ _ _ _ = true by kernel_rfl)) (by decide)
                · exact hi9 rfl)
              exact ownsRow_below hv hb
            next =>
              replace hC9 := hC9.after hG9 (by kernel_rfl)
              have d13 := FactN.eq (hB 13 _ (by kernel_rfl) (by kernel_rfl) rfl (by decide))
              have d16 := FactN.eq (hB 16 _ (by kernel_rfl) (by kernel_rfl) rfl (by decide))
              simp only [d13, d16] at hK9 ⊢
              simp only [Act.put] at hK9
              have ho := (show w9.ownsRow B 42 4 (.slice (some ⟨g, 0, none⟩) l.length cap) l.length (put4 ((rowAt acc x (l.drop (k + 1)) (j + 1)).flatMap Ph.enc) ((j + 1) * 4) y) from hB 15 _ (by kernel_rfl) (by kernel_rfl) rfl (by decide))
              obtain ⟨q0, q1, q2, q3⟩ : (∃ u, w9.cell? ⟨g, j * 4, none⟩ = some u) ∧ (∃ u, w9.cell? ⟨g, j * 4 + 1, none⟩ = some u) ∧ (∃ u, w9.cell? ⟨g, j * 4 + 2, none⟩ = some u) ∧ (∃ u, w9.cell? ⟨g, j * 4 + 3, none⟩ = some u) := ⟨row_some ho _ (by omega), row_some ho _ (by omega), row_some ho _ (by omega), row_some ho _ (by omega)⟩
              obtain ⟨u0, q0⟩ := q0
              obtain ⟨u1, q1⟩ := q1
              obtain ⟨u2, q2⟩ := q2
              obtain ⟨u3, q3⟩ := q3
              have f0 := row_frozen ho (j * 4)
              have f1 := row_frozen ho (j * 4 + 1)
              have f2 := row_frozen ho (j * 4 + 2)
              have f3 := row_frozen ho (j * 4 + 3)
              have hst := put4_row ho (j * 4) x
              have HST9 := Lib.hid hst
              clear hst ho
              unfold put4W at HST9
              go_simp
              exact hK9 _ undef _ rfl HST9.out.1 (Sw.on hG9 (by kernel_rfl) (grown_trans hC9 HST9.out.2)) (fun hq => (hq (by decide)).elim)
            refine wpFactsR_nil fun vs Lq W7 hL9 hC7 hB => ?_
            have hR7 := hB 17 _ rfl rfl (by decide)
            replace hC7 := hC7.done hL9 (by decide)
            clear hB hL9
            have HR8 : Hid (RowPh W7 B (.slice (some ⟨g, 0, none⟩) l.length cap) (rowAt acc x (l.drop (k + 1)) j)) := by
              have h1 := hR7
              rw [HSP2.out.1] at h1
              have hjt : (acc.take j).length = j := by rw [List.length_take]; omega
              have e := put4_swap (acc.take j) (acc.drop (j + 1) ++ l.drop (k + 1)) x y
              rw [hjt] at e
              rw [e] at h1
              have h2 := HR6.out
              have h3 := hlen6.out
              rw [HSP2.out.1] at h2 h3
              have h4 : l.length = (acc.take j ++ x :: y :: (acc.drop (j + 1) ++ l.drop (k + 1))).length := by rw [h3]; simp
              rw [Hid, HSP2.out.2]
              refine h2.swapped ?_ hC7
              rw [← h4]
              exact h1
            have hb9 := hb26.grown hC7 (by omega) (by rintro _ ⟨⟩; exact hBg)
            clear hR7 hC7 HR6 hlen6 HSP2 ROW YC XC HY HST hb26 hb6
            go_wp2_with fail
            exact ⟨⟨j, by omega, rfl, HR8, HPJ, hb9⟩, by simp [intOf]⟩
        · obtain rfl : j = 0 := by omega
          have HPJ : posD x.ph (acc.map Ph.ph) acc.length = 0 := by rw [← HP.out]; rfl
          have HM2 : Hid ((rowAt acc x [] 0).map Ph.ph = sortD ((l.map Ph.ph).take (k + 1))) := by rw [Hid, HST.out, insert_done (by omega) HPJ]
          have hln : (rowAt acc x [] 0).length = k + 1 := by rw [rowAt_len (by omega)]; simp; omega
          have HR1 := Lib.hid HR.out
          clear HPJ HP HST hlen
          go_wp2_with fail
          refine wp_region_since0 (by kernel_rfl) (by kernel_rfl) ?_
          repeat (any_goals (first | go_big_quiet_step ((fail)) | (refine wpQuiet_step (fun K hK => ?_); go_simp; split <;> (refine hK _ ?_; clear hK K))))
          all_goals (refine wpQuiet_nil ?_; rintro _ ⟨q1, rfl⟩)
          have HR2 : Hid (RowPh q1.val B (.slice (some ⟨g, 0, none⟩) l.length cap) (rowAt acc x [] 0 ++ l.drop (k + 1))) := by rw [Hid, rowAt_app]; exact HR.out.below q1.below
          have hb9 := (hbr.trans hb2).trans (q1.below.mono (by have := hb2.size; omega))
          go_wp2_with fail
          exact ⟨⟨k + 1, rowAt acc x [] 0, ⟨by omega, by omega⟩, by go_num, hln, HM2, HR2, hb9⟩, by simp [intOf]; omega⟩
    · obtain rfl : k = l.length := by omega
      have h1 := HM.out
      have h2 := HR.out
      rw [List.take_of_length_le (by simp)] at h1
      rw [List.drop_eq_nil_of_le (Nat.le_refl _), List.append_nil] at h2
      have HM9 := Lib.hid h1
      have HR9 := Lib.hid h2
      clear h1 h2 HM HR
      go_wp2_with fail
      go_end0
      exact ⟨_, acc, rfl, HM9.out, HR9.out, hbr⟩
end Go.Proofs.Ytchkjiadnackaaa

/- The library's stable sort at phrases, short rows. -/
namespace Go.Proofs.Ytchkjiadnackaaa
open Go.RowKit

theorem insertion_none (v : Value) (w : World) : Calls Try.prog 70 #[v, .int .i64 0, .int .i64 0, .func (.func 35) #[] #[]] w fun e w' => ∃ u : Value, e = .returned u ∧ w' = w := by
  go_enter Try.func70, Try.ntmps70
  go_wp2_with fail
  go_loopw [8, 9] (fun i _ wr => i = .int .i64 1 ∧ wr = w) (fun _ _ _ => 0)
  case atStart => exact ⟨rfl, rfl⟩
  case round =>
    obtain ⟨rfl, hw⟩ := hrel
    subst hw
    go_wp2_with fail
    go_end0
    exact ⟨_, rfl, rfl⟩
/-- What a sort of a row gives. -/
def Sorts (w : World) (B : Nat) (v : Value) (l : List Ph) (e : Ending) (w' : World) : Prop := ∃ (u : Value) (m : List Ph), e = .returned u ∧ m.map Ph.ph = sortD (l.map Ph.ph) ∧ RowPh w' B v m ∧ Below B w w'
theorem insert_all (v : Value) (l : List Ph) (B : Nat) (w : World) (hB : B ≤ w.heap.size) (hl : l.length ≤ 1000) (h : RowPh w B v l) :
    Calls Try.prog 70 #[v, .int .i64 0, .int .i64 l.length, .func (.func 35) #[] #[]] w (Sorts w B v l) := by
  by_cases h0 : l = []
  · subst h0
    refine (insertion_none v w).mono ?_
    rintro e w' ⟨u, rfl, rfl⟩
    exact ⟨u, [], rfl, rfl, h, Below.refl _ _⟩
  · have hp : 0 < l.length := List.length_pos_iff.2 h0
    obtain ⟨g, cap, rfl⟩ : ∃ g cap, v = .slice (some ⟨g, 0, none⟩) l.length cap := by
      obtain ⟨_, h1 | ⟨g, cap, cur, hv, _⟩⟩ := h.row
      · have := h1.2; omega
      · exact ⟨g, cap, hv⟩
    refine (insertion_any l g cap B w hB hp hl h).mono ?_
    rintro e w' ⟨u, m, rfl, h1, h2, h3⟩
    exact ⟨u, m, rfl, h1, h2, h3⟩
theorem stable_any (v : Value) (l : List Ph) (B : Nat) (w : World) (hB : B ≤ w.heap.size) (hl : l.length ≤ 19) (h : RowPh w B v l) :
    Calls Try.prog 59 #[v, .int .i64 l.length, .func (.func 35) #[] #[]] w (Sorts w B v l) := by
  have HC := Lib.hid (insert_all v l B w hB (by omega) h)
  have HS : Hid (∀ e w', Sorts w B v l e w' → Sorts w B v l (.returned (.tuple #[])) w') := fun e w' h => by obtain ⟨u, m, _, h2⟩ := h; exact ⟨_, m, rfl, h2⟩
  have HE : Hid (∀ e w', Sorts w B v l e w' → ∃ u, e = .returned u) := fun e w' h => by obtain ⟨u, m, e, _⟩ := h; exact ⟨u, e⟩
  generalize Sorts w B v l = S at HC HS HE ⊢
  obtain ⟨n, hn⟩ : ∃ n : Nat, l.length = n := ⟨_, rfl⟩
  rw [hn] at HC hl ⊢
  have h1 : ¬ (20 : Int) ≤ (n : Int) := by omega
  have h2 : ¬ (20 : Int) < (n : Int) := by omega
  clear hn h
  go_enter Try.func59, Try.ntmps59
  go_wp2_with fail
  go_loopw [7, 8] (fun a b wr => a = .int .i64 0 ∧ b = .int .i64 20 ∧ wr = w) (fun _ _ _ => 0)
  case atStart => exact ⟨rfl, rfl, rfl⟩
  case round =>
    obtain ⟨rfl, rfl, hw⟩ := hrel
    subst hw
    go_wp2_with fail
    refine HC.out.mono ?_
    intro e w2 he
    obtain ⟨u, rfl⟩ := HE.out e w2 he
    have HR := Lib.hid (HS.out _ _ he)
    clear HC HS HE he
    go_wp2_with fail
    go_loopw [6] (fun a wr => a = .int .i64 20 ∧ wr = w2) (fun _ _ => 0)
    case atStart => exact ⟨rfl, rfl⟩
    case round =>
      obtain ⟨rfl, hw⟩ := hrel
      subst hw
      go_wp2_with fail
      go_end0
      exact HR.out
theorem sortStable_any (v : Value) (l : List Ph) (B : Nat) (w : World) (hB : B ≤ w.heap.size) (hl : l.length ≤ 19) (h : RowPh w B v l) :
    Calls Try.prog 34 #[v, .func (.func 35) #[] #[]] w (Sorts w B v l) := by
  have HC := Lib.hid (stable_any v l B w hB hl h)
  obtain ⟨A, c, rfl⟩ := ownsRow_slice h.row
  have HS : Hid (∀ e w', Sorts w B (.slice A l.length c) l e w' → Sorts w B (.slice A l.length c) l (.returned (.tuple #[])) w') := fun e w' h => by obtain ⟨u, m, _, h2⟩ := h; exact ⟨_, m, rfl, h2⟩
  have HE : Hid (∀ e w', Sorts w B (.slice A l.length c) l e w' → ∃ u, e = .returned u) := fun e w' h => by obtain ⟨u, m, e, _⟩ := h; exact ⟨u, e⟩
  generalize Sorts w B (.slice A l.length c) l = S at HC HS HE ⊢
  go_enter Try.func34, Try.ntmps34
  go_wp2_with fail
  refine HC.out.mono ?_
  intro e w2 he
  obtain ⟨u, rfl⟩ := HE.out e w2 he
  have HR := Lib.hid (HS.out _ _ he)
  go_wp2_with fail
  go_end0
  exact HR.out
end Go.Proofs.Ytchkjiadnackaaa

/- The order of SortPhrases, in the reference. (Printed by gen_sortb.py) -/
namespace Go.Proofs.Ytchkjiadnackaaa
open Go.RowKit

set_option maxRecDepth 100000 in
set_option maxHeartbeats 4000000 in
theorem before_any (a b : Ph) (w : World) : Calls Try.prog 30 #[a.val, b.val] w fun e w' => e = .returned (.bool (beforeD a.ph b.ph)) ∧ Below w.heap.size w w' := by
  have LA := (Lies.new w 42 #[.int .i64 a.s, .int .i64 a.c, .slice a.A a.f.length a.cap, .int .i64 a.p]).alloc (.cells #[.int .i64 b.s, .int .i64 b.c, .slice b.A b.f.length b.cap, .int .i64 b.p] 42)
  have LB : Lies ((w.alloc (.cells #[.int .i64 a.s, .int .i64 a.c, .slice a.A a.f.length a.cap, .int .i64 a.p] 42)).alloc (.cells #[.int .i64 b.s, .int .i64 b.c, .slice b.A b.f.length b.cap, .int .i64 b.p] 42)) (w.heap.size + 1) 42 [.int .i64 b.s, .int .i64 b.c, .slice b.A b.f.length b.cap, .int .i64 b.p] := Lies.new1 w (.cells #[.int .i64 a.s, .int .i64 a.c, .slice a.A a.f.length a.cap, .int .i64 a.p] 42) 42 #[.int .i64 b.s, .int .i64 b.c, .slice b.A b.f.length b.cap, .int .i64 b.p]
  have bb : Below w.heap.size w ((w.alloc (.cells #[.int .i64 a.s, .int .i64 a.c, .slice a.A a.f.length a.cap, .int .i64 a.p] 42)).alloc (.cells #[.int .i64 b.s, .int .i64 b.c, .slice b.A b.f.length b.cap, .int .i64 b.p] 42)) := ((Below.refl w.heap.size w).alloc (Nat.le_refl _) (.cells #[.int .i64 a.s, .int .i64 a.c, .slice a.A a.f.length a.cap, .int .i64 a.p] 42)).alloc (by simp) (.cells #[.int .i64 b.s, .int .i64 b.c, .slice b.A b.f.length b.cap, .int .i64 b.p] 42)
  have a0 := LA.cell 0
  have a2 := LA.cell 2
  have a3 := LA.cell 3
  have b0 := LB.cell 0
  have b2 := LB.cell 2
  have b3 := LB.cell 3
  simp only [List.getElem?_cons_zero, List.getElem?_cons_succ] at a0 a2 a3 b0 b2 b3
  clear LA LB
  by_cases h1 : a.s = b.s
  · have v1 : (a.s != b.s) = false := by simp [h1]
    by_cases h2 : a.f.length = b.f.length
    · have v2 : ((a.f.length : Int) != (b.f.length : Int)) = false := by simp [h2]
      have HE : Hid (beforeD a.ph b.ph = decide (b.p < a.p)) := by unfold Hid beforeD Ph.ph; simp [h1, h2]
      clear h1 h2
      go_enter Try.func30, Try.ntmps30
      go_upto_region 1 with fail
      generalize ((w.alloc (.cells #[.int .i64 a.s, .int .i64 a.c, .slice a.A a.f.length a.cap, .int .i64 a.p] 42)).alloc (.cells #[.int .i64 b.s, .int .i64 b.c, .slice b.A b.f.length b.cap, .int .i64 b.p] 42)) = W at a0 a2 a3 b0 b2 b3 bb ⊢
      go_wp2_with fail
      go_ret
      exact ⟨by rw [HE.out]; rfl, bb⟩
    · have v2 : ((a.f.length : Int) != (b.f.length : Int)) = true := by simp; omega
      have HE : Hid (beforeD a.ph b.ph = decide (a.f.length < b.f.length)) := by unfold Hid beforeD Ph.ph; simp [h1, h2]
      clear h1 h2
      go_enter Try.func30, Try.ntmps30
      go_upto_region 1 with fail
      generalize ((w.alloc (.cells #[.int .i64 a.s, .int .i64 a.c, .slice a.A a.f.length a.cap, .int .i64 a.p] 42)).alloc (.cells #[.int .i64 b.s, .int .i64 b.c, .slice b.A b.f.length b.cap, .int .i64 b.p] 42)) = W at a0 a2 a3 b0 b2 b3 bb ⊢
      go_wp2_with fail
      go_ret
      exact ⟨by rw [HE.out]; rfl, bb⟩
  · have v1 : (a.s != b.s) = true := by simp [h1]
    have HE : Hid (beforeD a.ph b.ph = decide (a.s < b.s)) := by unfold Hid beforeD Ph.ph; simp [h1]
    clear h1
    go_enter Try.func30, Try.ntmps30
    go_upto_region 1 with fail
    generalize ((w.alloc (.cells #[.int .i64 a.s, .int .i64 a.c, .slice a.A a.f.length a.cap, .int .i64 a.p] 42)).alloc (.cells #[.int .i64 b.s, .int .i64 b.c, .slice b.A b.f.length b.cap, .int .i64 b.p] 42)) = W at a0 a2 a3 b0 b2 b3 bb ⊢
    go_wp2_with fail
    go_ret
    exact ⟨by rw [HE.out]; rfl, bb⟩
end Go.Proofs.Ytchkjiadnackaaa
