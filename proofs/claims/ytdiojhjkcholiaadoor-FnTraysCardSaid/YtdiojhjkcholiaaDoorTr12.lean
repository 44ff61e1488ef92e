/- Tr12: the texts OffBusy2 VInts TraysP OffBusy3 Num Itoab Itoa TrayTx LawTrays Open OpenCode, joined into one file. -/
import Derived.Test.YtdiojhjkcholiaaDoorProg
import Derived.Lib.ItoaNum
import Derived.Lib.ItoaLen
import Derived.Shelf.LaysM
import Derived.Shelf.Strconv.Itoa3
import Derived.WalkSmall
import Derived.Lib.AppendIntMem
import Derived.ProofKit
import Derived.ChangeOld
import Derived.ShutString
import Derived.OpenShut
import Derived.Deep.Slices
import Derived.Deep.Fields
import Derived.Test.YtdiojhjkcholiaaDoorTr01
import Derived.Test.YtdiojhjkcholiaaDoorTr03
import Derived.Test.YtdiojhjkcholiaaDoorTr11

set_option linter.unusedVariables false

/- BusiestPerson, in the reference and in the program. -/
namespace Go.Proofs.YtdiojhjkcholiaaDoor
open Go.RowKit

def busyOk (x : Off) : Bool := goodOff x && decide (0 < x.o.length)
def busyV (x : Off) : Int := if busyOk x then (specBest x.o x.o (0, 0)).1 else 0
theorem specBest_step {l m : List Outing} {k : Nat} (h : k < m.length) (b : Int × Int) : specBest l (m.drop k) b = specBest l (m.drop (k + 1)) (if b.2 < atP l m[k].p ∨ atP l m[k].p = b.2 ∧ m[k].p < b.1 then (m[k].p, atP l m[k].p) else b) := by
  rw [List.drop_eq_getElem_cons h]; rfl

set_option maxHeartbeats 1000000 in
theorem l32Sum_any (x : Off) (st : Int) (w : World) (h : OffR w w.heap.size x) (ol : x.o.length ≤ 8) (ho : ∀ i (hi : i < x.o.length), x.o[i].ok x.t = true) :
    Calls Tryd.prog 47 #[x.val, .int .i64 st] w fun e w' => e = .returned (.int .i64 (atP x.o st)) ∧ Below w.heap.size w w' := by
  have HO := Lib.hid ho; clear ho
  have HG : Hid (outFrom (fun o => decide (o.p = st)) 0 (x.o.drop 0) = atP x.o st) := rfl
  go_enter Tryd.func47, Tryd.ntmps47
  go_wp2
  have hb0 := (Below.refl w.heap.size w).alloc (Nat.le_refl _) (.cells #[.slice x.TA x.t.length x.tc, .slice x.OA x.o.length x.oc, .int .i64 x.got, .int .i64 x.sold, .int .i64 x.missed] 32)
  have hA := box_at h 32
  generalize w.alloc (.cells #[.slice x.TA x.t.length x.tc, .slice x.OA x.o.length x.oc, .int .i64 x.got, .int .i64 x.sold, .int .i64 x.missed] 32) = W at hb0 hA ⊢
  obtain ⟨s0, s1, s2, s3, s4⟩ := hA.s
  have hro := hA.r.os.el
  obtain ⟨OA, hOA⟩ : ∃ A, x.OA = A := ⟨_, rfl⟩
  rw [hOA] at hro
  simp only [hOA] at s1
  clear hOA
  go_loopw [5, 6] (fun s i wr => ∃ (k : Nat) (u : Int), k ≤ x.o.length ∧ i = .int .i64 k ∧ s = .int .i64 u ∧ (0 ≤ u ∧ u ≤ 9999 * (k : Int)) ∧ (∃ q : Since W.heap.size W, wr = q.val) ∧ Hid (outFrom (fun o => decide (o.p = st)) u (x.o.drop k) = atP x.o st)) (fun _ i _ => x.o.length - (intOf i).toNat)
  case atStart => exact ⟨0, 0, Nat.zero_le _, rfl, rfl, by omega, ⟨Since.start _ _, rfl⟩, HG⟩
  case round =>
    obtain ⟨j, u, hj, rfl, rfl, ⟨u0, u1⟩, ⟨p, rfl⟩, HU⟩ := hrel
    by_cases hlj : j < x.o.length
    · obtain ⟨b, off, rfl, hb, hcell⟩ := hro (by omega)
      obtain ⟨e0, e1, e2⟩ := hcell j hlj
      obtain ⟨_, _, x1, x2⟩ := Outing.bounds (HO.out j hlj)
      have HS := Lib.hid (out_step (f := fun o : Outing => decide (o.p = st)) hlj u)
      obtain ⟨r, hre⟩ : ∃ r, r = x.o[j] := ⟨_, rfl⟩
      rw [← hre] at e0 e1 e2 HS x1 x2
      clear hre hcell hro
      by_cases hz : r.p = st
      · have hv : (r.p == st) = true := by simp [hz]
        have HE : Hid (outFrom (fun o => decide (o.p = st)) (u + r.c) (x.o.drop (j + 1)) = atP x.o st) := by
          have h1 := HU.out; rw [HS.out, if_pos (decide_eq_true hz)] at h1; exact h1
        clear hz
        go_wp2
        go_roundw
        case rel => exact ⟨j + 1, u + r.c, by omega, by go_num, rfl, by omega, ⟨p, rfl⟩, HE⟩
        case measure => simp [intOf]; omega
      · have hv : (r.p == st) = false := by simp [hz]
        have HE : Hid (outFrom (fun o => decide (o.p = st)) u (x.o.drop (j + 1)) = atP x.o st) := by
          have h1 := HU.out; rw [HS.out, if_neg (by rw [decide_eq_false hz]; exact Bool.false_ne_true)] at h1; exact h1
        clear hz
        go_wp2
        go_roundw
        case rel => exact ⟨j + 1, u, by omega, by go_num, rfl, by omega, ⟨p, rfl⟩, HE⟩
        case measure => simp [intOf]; omega
    · have HE2 : Hid (u = atP x.o st) := by
        have h1 := HU.out; rw [List.drop_eq_nil_of_le (by omega)] at h1; exact h1
      clear hro
      go_wp2
      go_ret
      exact ⟨by rw [← HE2.out]; rfl, hb0.trans (p.below.mono hb0.size)⟩

set_option maxHeartbeats 2000000 in
theorem specBusiestPerson_any (x : Off) (w : World) (h : OffR w w.heap.size x) :
    Calls Tryd.prog 18 #[x.val] w fun e w' => e = .returned (.tuple #[.int .i64 (busyV x), .bool (busyOk x)]) ∧ Below w.heap.size w w' := by
  have b1 := (Below.refl w.heap.size w).alloc (Nat.le_refl _) (.cells #[.slice x.TA x.t.length x.tc, .slice x.OA x.o.length x.oc, .int .i64 x.got, .int .i64 x.sold, .int .i64 x.missed] 32)
  have hA := box_at h 32
  have cG := fun W hW => l32Good_any x W hW
  cases hg : goodOff x
  · have HF : Hid (busyV x = 0 ∧ busyOk x = false) := by unfold busyV busyOk; rw [hg]; exact ⟨rfl, rfl⟩
    rw [hg] at cG
    clear hg
    go_enter Tryd.func18, Tryd.ntmps18
    go_wp2_with fail
    generalize w.alloc (.cells #[.slice x.TA x.t.length x.tc, .slice x.OA x.o.length x.oc, .int .i64 x.got, .int .i64 x.sold, .int .i64 x.missed] 32) = W at b1 hA ⊢
    refine (cG _ hA.r).mono ?_
    rintro e w1 ⟨rfl, hb⟩
    go_wp2
    go_ret2
    exact ⟨by rw [HF.out.1, HF.out.2]; rfl, bthen b1 hb⟩
  · have G := good_iff.1 hg
    have ol := G.ol
    have cM := fun st W hW => l32Sum_any x st W hW G.ol G.oall
    have HGD : Hid (goodOff x = true) := hg
    rw [hg] at cG
    clear hg G
    by_cases hlen : 0 < x.o.length
    · have HF : Hid (busyV x = (specBest x.o x.o (0, 0)).1 ∧ busyOk x = true) := by
        have : busyOk x = true := by unfold busyOk; rw [HGD.out, decide_eq_true hlen]; rfl
        unfold busyV; rw [this]; exact ⟨rfl, rfl⟩
      have hne : ((x.o.length : Int) == 0) = false := by rw [beq_eq_false_iff_ne]; omega
      have HS0 : Hid (specBest x.o (x.o.drop 0) (0, 0) = specBest x.o x.o (0, 0)) := rfl
      go_enter Tryd.func18, Tryd.ntmps18
      go_wp2_with fail
      generalize w.alloc (.cells #[.slice x.TA x.t.length x.tc, .slice x.OA x.o.length x.oc, .int .i64 x.got, .int .i64 x.sold, .int .i64 x.missed] 32) = W at b1 hA ⊢
      obtain ⟨s0, s1, s2, s3, s4⟩ := hA.s
      have hro := hA.r.os.el
      refine (calls_since0 (cG _ hA.r)).mono ?_
      rintro e w1 ⟨rfl, q1, rfl⟩
      go_wp2
      go_loopw [4, 5, 6] (fun bb mm i wr => ∃ (k : Nat) (b : Int × Int), k ≤ x.o.length ∧ i = .int .i64 k ∧ bb = .int .i64 b.1 ∧ mm = .int .i64 b.2 ∧ (∃ q : Since W.heap.size W, wr = q.val) ∧ Hid (specBest x.o (x.o.drop k) b = specBest x.o x.o (0, 0))) (fun _ _ i _ => x.o.length - (intOf i).toNat)
      case atStart => exact ⟨0, (0, 0), Nat.zero_le _, rfl, rfl, rfl, ⟨q1, rfl⟩, HS0⟩
      case round =>
        obtain ⟨k, ⟨b1', b2'⟩, hk, rfl, rfl, rfl, ⟨q, rfl⟩, HR⟩ := hrel
        by_cases hlt : k < x.o.length
        · obtain ⟨b, off, hOA, hb, hcell⟩ := hro (by omega)
          obtain ⟨e0, e1, e2⟩ := hcell k hlt
          have HS := Lib.hid (specBest_step (l := x.o) hlt (b1', b2'))
          obtain ⟨r, hre⟩ : ∃ r, r = x.o[k] := ⟨_, rfl⟩
          rw [← hre] at e0 e1 e2 HS
          have hxe : ({ x with OA := some ⟨b, off, none⟩ } : Off) = x := by rw [← hOA]
          have hRV : ∀ p : Since W.heap.size W, OffR p.val p.val.heap.size { x with OA := some ⟨b, off, none⟩ } := fun p => by rw [hxe]; exact hA.r.at p
          have cM' : ∀ W', OffR W' W'.heap.size { x with OA := some ⟨b, off, none⟩ } → Calls Tryd.prog 47 #[Off.val { x with OA := some ⟨b, off, none⟩ }, .int .i64 r.p] W' fun e w' => e = .returned (.int .i64 (atP x.o r.p)) ∧ Below W'.heap.size W' w' := fun W' hW' => by rw [hxe] at hW' ⊢; exact cM r.p W' hW'
          simp only [hOA] at s1
          clear hre hcell hro hOA hxe
          simp only at HS
          go_wp2_with fail
          refine (calls_since (Nat.le_refl _) (cM' _ (hRV q))).mono ?_
          rintro e w2 ⟨rfl, q2, rfl⟩
          obtain ⟨V, hV⟩ : ∃ V, atP x.o r.p = V := ⟨_, rfl⟩
          rw [hV] at HS
          rw [hV]
          clear hV
          by_cases h1 : b2' < V
          · rw [if_pos (Or.inl h1)] at HS
            go_wp2
            go_roundw
            case rel => exact ⟨k + 1, (r.p, V), by omega, by go_num, rfl, rfl, ⟨q2, rfl⟩, by have h1 := HR.out; rw [HS.out] at h1; exact h1⟩
            case measure => simp [intOf]; omega
          · by_cases h2 : V = b2' ∧ r.p < b1'
            · rw [if_pos (Or.inr h2)] at HS
              obtain ⟨h3, h4⟩ := h2
              have hv : (V == b2') = true := by simp [h3]
              have H3 := Lib.hid h3; clear h3
              go_wp2
              go_roundw
              case rel => exact ⟨k + 1, (r.p, V), by omega, by go_num, rfl, rfl, ⟨q2, rfl⟩, by have h1 := HR.out; rw [HS.out] at h1; exact h1⟩
              case measure => simp [intOf]; omega
            · rw [if_neg (by intro h; rcases h with h | h; exact h1 h; exact h2 h)] at HS
              by_cases h3 : V = b2'
              · have h4 : ¬ r.p < b1' := fun h => h2 ⟨h3, h⟩
                have hv : (V == b2') = true := by simp [h3]
                clear h2 h3
                go_wp2
                go_roundw
                case rel => exact ⟨k + 1, (b1', b2'), by omega, by go_num, rfl, rfl, ⟨q2, rfl⟩, by have h1 := HR.out; rw [HS.out] at h1; exact h1⟩
                case measure => simp [intOf]; omega
              · have hv : (V == b2') = false := by simp [h3]
                clear h2 h3
                go_wp2
                go_roundw
                case rel => exact ⟨k + 1, (b1', b2'), by omega, by go_num, rfl, rfl, ⟨q2, rfl⟩, by have h1 := HR.out; rw [HS.out] at h1; exact h1⟩
                case measure => simp [intOf]; omega
        · have HE : Hid ((b1', b2') = specBest x.o x.o (0, 0)) := by
            have h1 := HR.out; rw [List.drop_eq_nil_of_le (by omega)] at h1; exact h1
          clear hro
          go_wp2
          go_ret2
          exact ⟨by rw [HF.out.1, HF.out.2, ← HE.out]; rfl, b1.trans (q.below.mono b1.size)⟩
    · have HF : Hid (busyV x = 0 ∧ busyOk x = false) := by
        have : busyOk x = false := by unfold busyOk; rw [decide_eq_false hlen, Bool.and_false]
        unfold busyV; rw [this]; exact ⟨rfl, rfl⟩
      have hne : ((x.o.length : Int) == 0) = true := by rw [beq_iff_eq]; omega
      go_enter Tryd.func18, Tryd.ntmps18
      go_wp2_with fail
      generalize w.alloc (.cells #[.slice x.TA x.t.length x.tc, .slice x.OA x.o.length x.oc, .int .i64 x.got, .int .i64 x.sold, .int .i64 x.missed] 32) = W at b1 hA ⊢
      obtain ⟨s0, s1, s2, s3, s4⟩ := hA.s
      refine (calls_since0 (cG _ hA.r)).mono ?_
      rintro e w1 ⟨rfl, q1, rfl⟩
      go_wp2
      go_ret2
      exact ⟨by rw [HF.out.1, HF.out.2]; rfl, b1.trans (q1.below.mono b1.size)⟩
end Go.Proofs.YtdiojhjkcholiaaDoor

/- What laws.vHas and laws.vInts answer. -/
namespace Go.Proofs.YtdiojhjkcholiaaDoor
open Go.RowKit

def hasFrom (x : Int) (l : List Int) : Bool := l.any (fun y => decide (y = x))
set_option maxHeartbeats 1000000 in
theorem vHas_any (A : Option Addr) (c : Nat) (l : List Int) (x : Int) (w : World) (hA : IntsR w w.heap.size A l) :
    Calls Tryd.prog 16 #[.slice A l.length c, .int .i64 x] w fun e w' => e = .returned (.bool (hasFrom x l)) ∧ Below w.heap.size w w' := by
  have hlA := hA.big
  have hrA := hA.ints
  go_enter Tryd.func16, Tryd.ntmps16
  go_wp2
  go_loopw [5] (fun i wr => ∃ k : Nat, k ≤ l.length ∧ i = .int .i64 k ∧ w = wr ∧ Hid (hasFrom x (l.drop k) = hasFrom x l)) (fun i _ => l.length - (intOf i).toNat)
  case atStart => exact ⟨0, Nat.zero_le _, rfl, rfl, rfl⟩
  case round =>
    obtain ⟨k, hk, rfl, rfl, HR⟩ := hrel
    by_cases hlt : k < l.length
    · obtain ⟨b, off, rfl, hb, hcell⟩ := hrA (by omega)
      have c0 := hcell k hlt (Since.start _ _)
      have HS : Hid (hasFrom x (l.drop k) = (decide (l[k] = x) || hasFrom x (l.drop (k + 1)))) := by
        show hasFrom x (l.drop k) = _
        rw [List.drop_eq_getElem_cons hlt]; rfl
      generalize l[k] = y at c0 HS
      simp only [Since.start] at c0
      clear hcell hrA
      by_cases e : y = x
      · subst e
        go_wp2
        go_ret
        exact ⟨by rw [← HR.out, HS.out]; simp, Below.refl _ _⟩
      · have hne : (y == x) = false := by simpa using e
        go_wp2
        go_roundw
        case rel => exact ⟨k + 1, by omega, by go_num, trivial, by have h1 := HR.out; rw [HS.out, decide_eq_false e, Bool.false_or] at h1; exact h1⟩
        case measure => simp [intOf]; omega
    · go_wp2
      go_ret
      exact ⟨by rw [← HR.out, List.drop_eq_nil_of_le (by omega)]; rfl, Below.refl _ _⟩
set_option maxHeartbeats 1000000 in
theorem vInts_any (A B : Option Addr) (c d : Nat) (l : List Int) (w : World) (hA : IntsR w w.heap.size A l) (hB : IntsR w w.heap.size B l) :
    Calls Tryd.prog 14 #[.slice A l.length c, .slice B l.length d] w fun e w' => e = .returned (.bool true) ∧ Below w.heap.size w w' := by
  have hlA := hA.big
  have hrA := hA.ints
  have hrB := hB.ints
  have hbn : ((l.length : Int) != (l.length : Int)) = false := by simp
  go_enter Tryd.func14, Tryd.ntmps14
  go_wp2
  go_loopw [5] (fun i wr => ∃ k : Nat, k ≤ l.length ∧ i = .int .i64 k ∧ (∃ q : Since w.heap.size w, wr = q.val)) (fun i _ => l.length - (intOf i).toNat)
  case atStart => exact ⟨0, Nat.zero_le _, rfl, ⟨Since.start _ _, rfl⟩⟩
  case round =>
    obtain ⟨k, hk, rfl, ⟨q, rfl⟩⟩ := hrel
    by_cases hlt : k < l.length
    · obtain ⟨b, off, rfl, hb, hcell⟩ := hrA (by omega)
      obtain ⟨b', off', rfl, hb', hcell'⟩ := hrB (by omega)
      have c0 := hcell k hlt
      have d0 := hcell' k hlt
      generalize l[k] = y at c0 d0
      clear hcell hcell' hrA hrB
      go_wp2
      refine wp_region_since _ (by kernel_rfl) (by kernel_rfl) ?_
      repeat (any_goals (first | go_big_quiet_step ((fail)) | (refine wpQuiet_step (fun K hK => ?_); go_simp; split <;> (refine hK _ ?_; clear hK K))))
      all_goals (refine wpQuiet_nil ?_; rintro _ ⟨q1, rfl⟩)
      go_wp2
      go_roundw
      case rel => exact ⟨k + 1, by omega, by go_num, ⟨q1, rfl⟩⟩
      case measure => simp [intOf]; omega
    · go_wp2
      go_ret
      exact ⟨rfl, q.below⟩
end Go.Proofs.YtdiojhjkcholiaaDoor

/- FnTrays: the plain law. -/
namespace Go.Proofs.YtdiojhjkcholiaaDoor
open Go.RowKit

theorem picks_mem {sel : Outing → Bool} {get : Outing → Int} {p : Int} : ∀ {l : List Outing}, p ∈ picks sel get l ↔ ∃ r ∈ l, sel r = true ∧ get r = p
  | [] => by simp [picks]
  | r :: l => by
    unfold picks
    have ih := picks_mem (sel := sel) (get := get) (p := p) (l := l)
    split
    · rename_i h
      rw [List.mem_cons, ih]
      constructor
      · rintro (rfl | ⟨q, h1, h2⟩)
        · exact ⟨r, List.mem_cons_self .., h, rfl⟩
        · exact ⟨q, List.mem_cons_of_mem _ h1, h2⟩
      · rintro ⟨q, h1, h2, rfl⟩
        rcases List.mem_cons.1 h1 with rfl | h1
        · exact .inl rfl
        · exact .inr ⟨q, h1, h2, rfl⟩
    · rename_i h
      rw [ih]
      constructor
      · rintro ⟨q, h1, h2⟩; exact ⟨q, List.mem_cons_of_mem _ h1, h2⟩
      · rintro ⟨q, h1, h2, h3⟩
        rcases List.mem_cons.1 h1 with rfl | h1
        · exact absurd h2 h
        · exact ⟨q, h1, h2, h3⟩
theorem out_ok {x : Off} (G : Good x) {r : Outing} (h : r ∈ x.o) : r.ok x.t = true := by
  obtain ⟨i, hi, rfl⟩ := List.getElem_of_mem h
  exact G.oall i hi
theorem hasFrom_iff {x : Int} {l : List Int} : hasFrom x l = true ↔ x ∈ l := by
  simp [hasFrom]
/-- A person with stamps of a kind has it. -/
theorem person_has {x : Off} {ok : Bool} {kd p : Int} (hok : ok = true → Good x) (h : p ∈ listOf ok (picks (fun r : Outing => decide (r.k = kd)) Outing.p x.o)) :
    (goodOff x && inR p 1 999) = true ∧ hasFrom kd (listOf (goodOff x && inR p 1 999) (picks (fun r : Outing => decide (r.p = p)) Outing.k x.o)) = true := by
  unfold listOf at h
  split at h
  · rename_i ho
    have G := hok ho
    obtain ⟨r, h1, h2, rfl⟩ := picks_mem.1 h
    have hb := (Outing.bounds (out_ok G h1)).2.1
    have e : (goodOff x && inR r.p 1 999) = true := by rw [good_iff.2 G, inR_iff.2 hb]; rfl
    refine ⟨e, ?_⟩
    rw [e, listOf, if_pos rfl, hasFrom_iff]
    exact picks_mem.2 ⟨r, h1, decide_eq_true rfl, of_decide_eq_true h2⟩
  · cases h
/-- The busiest person has some stamps. -/
theorem busy_has {x : Off} (h : busyOk x = true) :
    (goodOff x && inR (busyV x) 1 999) = true ∧ 0 < (listOf (goodOff x && inR (busyV x) 1 999) (picks (fun r : Outing => decide (r.p = busyV x)) Outing.k x.o)).length := by
  have h' := h
  unfold busyOk at h'
  rw [Bool.and_eq_true, decide_eq_true_eq] at h'
  have G := good_iff.1 h'.1
  have hc : ∀ r ∈ x.o, 1 ≤ r.c := fun r hr => (Outing.bounds (out_ok G hr)).2.2.1
  have B := specBest_is x.o hc x.o (fun _ => False) (0, 0) (fun _ h => h) (Best.nil _ fun _ h => h)
  have hv : busyV x = (specBest x.o x.o (0, 0)).1 := by unfold busyV; rw [if_pos h]
  have key : ∃ r ∈ x.o, r.p = busyV x := by
    rw [hv]
    rcases B.is with ⟨_, h0⟩ | ⟨h1, _⟩
    · have hm : x.o[0]'h'.2 ∈ x.o := List.getElem_mem _
      have h1 := h0 _ (.inr ⟨_, hm, rfl⟩)
      have h2 : 0 < atP x.o (x.o[0]'h'.2).p := outFrom_pos _ _ 0 hc ⟨_, hm, decide_eq_true rfl⟩
      omega
    · rcases h1 with h1 | h1
      · exact h1.elim
      · exact h1
  obtain ⟨r, h1, h2⟩ := key
  have hb := (Outing.bounds (out_ok G h1)).2.1
  rw [h2] at hb
  have e : (goodOff x && inR (busyV x) 1 999) = true := by rw [h'.1, inR_iff.2 hb]; rfl
  refine ⟨e, ?_⟩
  rw [e, listOf, if_pos rfl]
  exact List.length_pos_of_mem (picks_mem.2 ⟨r, h1, decide_eq_true h2, rfl⟩)
end Go.Proofs.YtdiojhjkcholiaaDoor

/- BusiestPerson, in the program. -/
namespace Go.Proofs.YtdiojhjkcholiaaDoor
open Go.RowKit

theorem atPerson_all (o : Outing) (gk : Nat) (kd : Int) (w : World) (hk : gk < w.heap.size) (hc : w.cell? ⟨gk, 0, none⟩ = some (.int .i64 kd)) :
    Calls Tryd.prog 46 (#[o.val] ++ #[.pointer (some ⟨gk, 0, none⟩)]) w fun e w' => e = .returned (.bool (decide (o.p = kd))) ∧ Below w.heap.size w w' := by
  show Calls Tryd.prog 46 #[o.val, .pointer (some ⟨gk, 0, none⟩)] w _
  have hc' : (w.alloc (.cells #[.int .i64 o.k, .int .i64 o.p, .int .i64 o.c] 71)).cell? ⟨gk, 0, none⟩ = some (.int .i64 kd) := ((Below.refl w.heap.size w).alloc (Nat.le_refl _) _).cell hk |>.trans hc
  obtain ⟨v, hv⟩ : ∃ v, (o.p == kd) = v := ⟨_, rfl⟩
  have HV : Hid (decide (o.p = kd) = v) := by rw [← hv]; unfold Hid; rw [Bool.eq_iff_iff]; simp
  cases v
  all_goals
    go_enter Tryd.func46, Tryd.ntmps46
    go_wp2
    go_ret
    exact ⟨by rw [HV.out]; rfl, (Below.refl _ _).alloc (Nat.le_refl _) _⟩

/-- How far the counter in a cell is from 1000. -/
def cellLeft (pp : Value) (w : World) : Nat :=
  match pp with
  | .pointer (some a) => (match w.cell? a with | some (.int _ p) => (1000 - p).toNat | _ => 0)
  | _ => 0
theorem cellLeft_of {w : World} {g : Nat} {t : TypeId} {p : Int} (h : Lies w g t [.int .i64 p]) : cellLeft (.pointer (some ⟨g, 0, none⟩)) w = (1000 - p).toNat := by
  unfold cellLeft
  simp only [h.cell 0, List.getElem?_cons_zero]

set_option maxRecDepth 20000 in
set_option maxHeartbeats 2000000 in
theorem implBusiestPerson_any (x : Off) (w : World) (h : OffR w w.heap.size x) :
    Calls Tryd.prog 17 #[x.val] w fun e w' => e = .returned (.tuple #[.int .i64 (busyV x), .bool (busyOk x)]) ∧ Below w.heap.size w w' := by
  have hmf : ∀ (fn : Fn) (first cap : Array Value) (w : World), (Instr.makeFunc fn first cap).run Tryd.prog w = .ok (.func fn first cap) w := fun _ _ _ _ => rfl
  have b1 := (Below.refl w.heap.size w).alloc (Nat.le_refl _) (.cells #[.slice x.TA x.t.length x.tc, .slice x.OA x.o.length x.oc, .int .i64 x.got, .int .i64 x.sold, .int .i64 x.missed] 32)
  have hA := box_at h 32
  have cG := fun W hW => isOfficeValid_any x w.heap.size W hW
  cases hg : goodOff x
  · have HF : Hid (busyV x = 0 ∧ busyOk x = false) := by unfold busyV busyOk; rw [hg]; exact ⟨rfl, rfl⟩
    rw [hg] at cG
    clear hg
    go_enter Tryd.func17, Tryd.ntmps17
    go_wp2_with fail
    generalize w.alloc (.cells #[.slice x.TA x.t.length x.tc, .slice x.OA x.o.length x.oc, .int .i64 x.got, .int .i64 x.sold, .int .i64 x.missed] 32) = W at b1 hA ⊢
    refine (cG _ hA).mono ?_
    rintro e w1 ⟨rfl, hb⟩
    go_wp2
    go_ret2
    exact ⟨by rw [HF.out.1, HF.out.2]; rfl, bthen b1 hb⟩
  · have G := good_iff.1 hg
    have ol := G.ol
    have HOLL := Lib.hid G.oall
    have HGD : Hid (goodOff x = true) := hg
    have hc1 : ∀ r ∈ x.o, 1 ≤ r.c := fun r hr => by
      obtain ⟨i, hi, rfl⟩ := List.getElem_of_mem hr
      exact (Outing.bounds (G.oall i hi)).2.2.1
    have hp1 : ∀ r ∈ x.o, 1 ≤ r.p ∧ r.p ≤ 999 := fun r hr => by
      obtain ⟨i, hi, rfl⟩ := List.getElem_of_mem hr
      exact (Outing.bounds (G.oall i hi)).2.1
    have HSM := Lib.hid (best_same x.o hc1 hp1)
    rw [hg] at cG
    clear hg G hc1 hp1
    by_cases hlen : 0 < x.o.length
    · have HF : Hid (busyV x = (specBest x.o x.o (0, 0)).1 ∧ busyOk x = true) := by
        have : busyOk x = true := by unfold busyOk; rw [HGD.out, decide_eq_true hlen]; rfl
        unfold busyV; rw [this]; exact ⟨rfl, rfl⟩
      have hne : ((x.o.length : Int) == 0) = false := by rw [beq_eq_false_iff_ne]; omega
      go_enter Tryd.func17, Tryd.ntmps17
      go_wp2_with fail
      generalize w.alloc (.cells #[.slice x.TA x.t.length x.tc, .slice x.OA x.o.length x.oc, .int .i64 x.got, .int .i64 x.sold, .int .i64 x.missed] 32) = W at b1 hA ⊢
      obtain ⟨s0, s1, s2, s3, s4⟩ := hA.s
      refine (calls_since0 (cG _ hA)).mono ?_
      rintro e w1 ⟨rfl, q1, rfl⟩
      have hL0 := Lies.new q1.val 3 #[.int .i64 1]
      have hB0 := q1.below.alloc q1.size (.cells #[.int .i64 1] 3)
      have hs0 := q1.size
      go_wp2
      go_loopw [4, 5, 6] (fun bb mm pp wr => ∃ (k g : Nat) (p : Int) (b : Int × Int), (k : Int) + p = 1000 ∧ 1 ≤ p ∧ pp = .pointer (some ⟨g, 0, none⟩) ∧ bb = .int .i64 b.1 ∧ mm = .int .i64 b.2 ∧ W.heap.size ≤ g ∧ Hid (Lies wr g 3 [.int .i64 p]) ∧ Below W.heap.size W wr ∧ Hid (implBest x.o k p b = specBest x.o x.o (0, 0))) (fun _ _ pp wr => cellLeft pp wr)
      case atStart => exact ⟨999, q1.val.heap.size, 1, (0, 0), by omega, by omega, rfl, rfl, rfl, hs0, hL0, hB0, HSM.out⟩
      case round =>
        obtain ⟨k, g, p, ⟨b1', b2'⟩, hkp, hp1, rfl, rfl, rfl, hg, HL, hbr, HR⟩ := hrel
        have c0 : wr.cell? ⟨g, 0, none⟩ = some (.int .i64 p) := HL.out.cell 0
        cases k with
        | zero =>
          have hp : p = 1000 := by omega
          subst hp
          have HE : Hid ((b1', b2') = specBest x.o x.o (0, 0)) := HR.out
          go_wp2
          go_ret2
          exact ⟨by rw [HF.out.1, HF.out.2, ← HE.out]; rfl, b1.trans (hbr.mono b1.size)⟩
        | succ k =>
          have hle : p ≤ 999 := by omega
          have hk1 : (k : Int) + p ≤ 999 := by omega
          have hk2 : 999 ≤ (k : Int) + p := by omega
          clear hkp
          have HS : Hid (implBest x.o (k + 1) p (b1', b2') = implBest x.o k (p + 1) (if b2' < atP x.o p then (p, atP x.o p) else (b1', b2'))) := rfl
          have hlt := HL.out.lt
          have HM := cellLeft_of HL.out
          go_wp2_with fail
          refine (stampsOut_any (fun o => decide (o.p = p)) 46 #[.pointer (some ⟨g, 0, none⟩)] Tryd.call46 x w.heap.size wr (fun o q => atPerson_all o g p q.val (Nat.lt_of_lt_of_le hlt q.size) ((q.cell hlt).trans c0)) (hA.at ⟨wr, hbr⟩) ol HOLL.out).mono ?_
          rintro e w2 ⟨rfl, hb2⟩
          have c1 : w2.cell? ⟨g, 0, none⟩ = some (.int .i64 p) := (hb2.cell hlt).trans c0
          have hB2 := hbr.trans (hb2.mono hbr.size)
          have hL3 := Lies.new w2 3 #[.int .i64 (p + 1)]
          have hB3 := hB2.alloc hB2.size (.cells #[.int .i64 (p + 1)] 3)
          have hs3 := hB2.size
          have hVe : outSum (fun o => decide (o.p = p)) x.o = atP x.o p := rfl
          rw [hVe]
          clear hVe
          obtain ⟨V, hV⟩ : ∃ V, atP x.o p = V := ⟨_, rfl⟩
          rw [hV] at HS
          rw [hV]
          clear hV c0
          have HM3 := Lib.hid (cellLeft_of hL3)
          have HML := Lib.hid HM; clear HM
          by_cases hlt2 : b2' < V
          · rw [if_pos hlt2] at HS
            go_wp2
            go_roundw
            case rel => exact ⟨k, w2.heap.size, p + 1, (p, V), by omega, by omega, rfl, rfl, rfl, hs3, hL3, hB3, by have h1 := HR.out; rw [HS.out] at h1; exact h1⟩
            case measure => show cellLeft _ _ < cellLeft _ _; rw [HML.out, HM3.out]; omega
          · rw [if_neg hlt2] at HS
            have hv : V ≤ b2' := by omega
            clear hlt2
            go_wp2
            go_roundw
            case rel => exact ⟨k, w2.heap.size, p + 1, (b1', b2'), by omega, by omega, rfl, rfl, rfl, hs3, hL3, hB3, by have h1 := HR.out; rw [HS.out] at h1; exact h1⟩
            case measure => show cellLeft _ _ < cellLeft _ _; rw [HML.out, HM3.out]; omega
    · have HF : Hid (busyV x = 0 ∧ busyOk x = false) := by
        have : busyOk x = false := by unfold busyOk; rw [decide_eq_false hlen, Bool.and_false]
        unfold busyV; rw [this]; exact ⟨rfl, rfl⟩
      have hne : ((x.o.length : Int) == 0) = true := by rw [beq_iff_eq]; omega
      go_enter Tryd.func17, Tryd.ntmps17
      go_wp2_with fail
      generalize w.alloc (.cells #[.slice x.TA x.t.length x.tc, .slice x.OA x.o.length x.oc, .int .i64 x.got, .int .i64 x.sold, .int .i64 x.missed] 32) = W at b1 hA ⊢
      obtain ⟨s0, s1, s2, s3, s4⟩ := hA.s
      refine (calls_since0 (cG _ hA)).mono ?_
      rintro e w1 ⟨rfl, q1, rfl⟩
      go_wp2
      go_ret2
      exact ⟨by rw [HF.out.1, HF.out.2]; rfl, b1.trans (q1.below.mono b1.size)⟩
end Go.Proofs.YtdiojhjkcholiaaDoor

/- The text of a number, in the reference (l1Num). -/
namespace Go.Proofs.YtdiojhjkcholiaaDoor
open Go.RowKit

theorem dec_small {n : Nat} (h : n < 10) : Lib.decDigits n = [UInt8.ofNat (48 + n)] := by rw [Lib.decDigits, dif_pos h]
theorem dec_big {n : Nat} (h : ¬ n < 10) : Lib.decDigits n = Lib.decDigits (n / 10) ++ [UInt8.ofNat (48 + n % 10)] := by rw [Lib.decDigits, dif_neg h]

theorem digit_at : ∀ {n : Nat}, n < 10 → (⟨#[48, 49, 50, 51, 52, 53, 54, 55, 56, 57]⟩ : ByteArray).extract n (n + 1) = ⟨[UInt8.ofNat (48 + n)].toArray⟩
  | 0, _ => by decide | 1, _ => by decide | 2, _ => by decide | 3, _ => by decide | 4, _ => by decide
  | 5, _ => by decide | 6, _ => by decide | 7, _ => by decide | 8, _ => by decide | 9, _ => by decide

theorem dec_len {n : Nat} (h : n ≤ 1000000000) : (⟨(Lib.decDigits n).toArray⟩ : ByteArray).size ≤ 100 := by
  show (Lib.decDigits n).toArray.size ≤ 100
  rw [List.size_toArray, Lib.decDigits_length]
  have := Lib.nDigits_le20 n (by omega)
  omega

set_option maxHeartbeats 1000000 in
theorem l1Num_nat (k : Nat) : ∀ (n : Nat) (w : World), n < 10 ^ k → n ≤ 1000000000 →
    Calls Tryd.prog 56 #[.int .i64 (n : Int)] w fun e w' => e = .returned (.string ⟨(Lib.decDigits n).toArray⟩) ∧ Below w.heap.size w w' := by
  induction k with
  | zero =>
    intro n w hn _
    have h0 : n = 0 := by simpa using hn
    subst h0
    have HD := Lib.hid (dec_small (n := 0) (by omega))
    have HE := Lib.hid (digit_at (n := 0) (by omega))
    go_enter Tryd.func56, Tryd.ntmps56
    go_wp2
    go_ret
    exact ⟨by rw [HD.out, ← HE.out]; rfl, Below.refl _ _⟩
  | succ k ih =>
    intro n w hn hb
    by_cases h10 : n < 10
    · have HD := Lib.hid (dec_small h10)
      have HE := Lib.hid (digit_at h10)
      go_enter Tryd.func56, Tryd.ntmps56
      go_wp2
      go_ret
      exact ⟨by rw [HD.out, ← HE.out]; rfl, Below.refl _ _⟩
    · have HD := Lib.hid (dec_big h10)
      have hr : n % 10 < 10 := Nat.mod_lt _ (by omega)
      have HE := Lib.hid (digit_at hr)
      have hk : n / 10 < 10 ^ k := Nat.div_lt_of_lt_mul (by rw [Nat.mul_comm, ← Nat.pow_succ]; exact hn)
      obtain ⟨sv, hsv⟩ : ∃ s : ByteArray, s = ⟨(Lib.decDigits (n / 10)).toArray⟩ := ⟨_, rfl⟩
      obtain ⟨dv, hdv⟩ : ∃ s : ByteArray, s = (⟨#[48, 49, 50, 51, 52, 53, 54, 55, 56, 57]⟩ : ByteArray).extract (n % 10) (n % 10 + 1) := ⟨_, rfl⟩
      have hss : sv.size ≤ 100 := by rw [hsv]; exact dec_len (by omega)
      have hds : dv.size ≤ 10 := by rw [hdv, HE.out]; exact (by decide : (1 : Nat) ≤ 10)
      have ih' : ∀ W : World, Calls Tryd.prog 56 #[.int .i64 ((n : Int) / 10)] W fun e w' => e = .returned (.string sv) ∧ Below W.heap.size W w' := fun W => by
        have := ih (n / 10) W hk (by omega)
        rw [Int.natCast_ediv] at this; rw [hsv]; exact this
      have IH := Lib.hid ih'; clear ih' ih
      have hex := hdv.symm
      have HSV := Lib.hid hsv; clear hsv
      have HDV := Lib.hid hdv; clear hdv
      have e1 : (n : Int).tdiv 10 = (n : Int) / 10 := Int.tdiv_eq_ediv_of_nonneg (by omega)
      have e2 : (n : Int).tmod 10 = (n : Int) % 10 := Int.tmod_eq_emod_of_nonneg (by omega)
      go_enter Tryd.func56, Tryd.ntmps56
      go_wp2_with fail
      refine wp_region_since0 (by kernel_rfl) (by kernel_rfl) ?_
      repeat (any_goals (first | go_big_quiet_step ((go_at_call 56; refine calls_since (Nat.le_refl _) (IH.out _))) | (refine wpQuiet_step (fun K hK => ?_); go_simp; split <;> (refine hK _ ?_; clear hK K))))
      all_goals (refine wpQuiet_nil ?_; rintro _ ⟨q1, rfl⟩)
      go_wp2
      go_ret
      exact ⟨by rw [HD.out, HSV.out, HDV.out, HE.out, ByteArray.mk_append_mk]; rfl, q1.below⟩
/-- Every number up to a thousand millions. -/
theorem l1Num_any (n : Int) (w : World) (h0 : 0 ≤ n) (h1 : n ≤ 1000000000) :
    Calls Tryd.prog 56 #[.int .i64 n] w fun e w' => e = .returned (.string ⟨(Lib.itoa n).toArray⟩) ∧ Below w.heap.size w w' := by
  obtain ⟨m, rfl⟩ := Int.eq_ofNat_of_zero_le h0
  have e : Lib.itoa (m : Int) = Lib.decDigits m := by unfold Lib.itoa; rw [if_neg (by omega), Int.toNat_natCast]
  have e' : Lib.itoa (Int.ofNat m) = Lib.decDigits m := e
  first | rw [e] | rw [e']
  exact l1Num_nat 10 m w (by omega) (by omega)
theorem itoa_len {n : Int} (h0 : 0 ≤ n) (h1 : n ≤ 1000000000) : (⟨(Lib.itoa n).toArray⟩ : ByteArray).size ≤ 100 := by
  unfold Lib.itoa
  rw [if_neg (by omega)]
  exact dec_len (by omega)
end Go.Proofs.YtdiojhjkcholiaaDoor

/- Contracts of the library at this dump, as the kit's own tool lays them (plain), the few that are wanted here. -/
namespace Go.Proofs
open Go.Shelf
def Tryd.laysM171_ren : Go.Shelf.Ren := ⟨fun | 171 => 65 | 243 => 74 | 246 => 79 | 283 => 83 | 284 => 84 | 285 => 85 | 286 => 86 | 129 => 90 | 317 => 89 | 318 => 91 | 319 => 92 | 320 => 93 | 337 => 94 | 338 => 95 | n => n, fun | 3 => 3 | 9 => 9 | 2 => 2 | 4 => 4 | 171 => 100 | 0 => 0 | 53 => 62 | 37 => 36 | 5 => 5 | 173 => 103 | 212 => 108 | 51 => 109 | 20 => 20 | 213 => 110 | 46 => 96 | 232 => 113 | 233 => 114 | n => n, fun | 17 => 0 | 18 => 1 | 19 => 2 | n => n⟩
theorem Tryd.laysM171 : Go.Proofs.LaysM.n171 Tryd.prog Tryd.laysM171_ren := {
  mixed := by kernel_rfl
  f129 := Tryd.func90.trans (congrArg some (by kernel_rfl))
  f171 := Tryd.func65.trans (congrArg some (by kernel_rfl))
  f243 := Tryd.func74.trans (congrArg some (by kernel_rfl))
  f246 := Tryd.func79.trans (congrArg some (by kernel_rfl))
  f283 := Tryd.func83.trans (congrArg some (by kernel_rfl))
  f284 := Tryd.func84.trans (congrArg some (by kernel_rfl))
  f285 := Tryd.func85.trans (congrArg some (by kernel_rfl))
  f286 := Tryd.func86.trans (congrArg some (by kernel_rfl))
  f317 := Tryd.func89.trans (congrArg some (by kernel_rfl))
  f318 := Tryd.func91.trans (congrArg some (by kernel_rfl))
  f319 := Tryd.func92.trans (congrArg some (by kernel_rfl))
  f320 := Tryd.func93.trans (congrArg some (by kernel_rfl))
  f337 := Tryd.func94.trans (congrArg some (by kernel_rfl))
  f338 := Tryd.func95.trans (congrArg some (by kernel_rfl))
  t0 := Tryd.underlying0
  a0 := Tryd.isAgg0
  z0 := Tryd.sizeOf0
  v0 := Tryd.zeroValue0
  t2 := Tryd.underlying2
  a2 := Tryd.isAgg2
  z2 := Tryd.sizeOf2
  v2 := Tryd.zeroValue2
  t3 := Tryd.underlying3
  a3 := Tryd.isAgg3
  z3 := Tryd.sizeOf3
  v3 := Tryd.zeroValue3
  t4 := Tryd.underlying4
  a4 := Tryd.isAgg4
  z4 := Tryd.sizeOf4
  v4 := Tryd.zeroValue4
  t5 := Tryd.underlying5
  a5 := Tryd.isAgg5
  z5 := Tryd.sizeOf5
  v5 := Tryd.zeroValue5
  t9 := Tryd.underlying9
  a9 := Tryd.isAgg9
  z9 := Tryd.sizeOf9
  v9 := Tryd.zeroValue9
  t20 := Tryd.underlying20
  a20 := Tryd.isAgg20
  z20 := Tryd.sizeOf20
  v20 := Tryd.zeroValue20
  t37 := Tryd.underlying36
  a37 := Tryd.isAgg36
  z37 := Tryd.sizeOf36
  v37 := Tryd.zeroValue36
  t46 := Tryd.underlying96
  a46 := Tryd.isAgg96
  z46 := Tryd.sizeOf96
  v46 := Tryd.zeroValue96
  t51 := Tryd.underlying109
  a51 := Tryd.isAgg109
  z51 := Tryd.sizeOf109
  v51 := Tryd.zeroValue109
  t53 := Tryd.underlying62
  a53 := Tryd.isAgg62
  z53 := Tryd.sizeOf62
  v53 := Tryd.zeroValue62
  t171 := Tryd.underlying100
  a171 := Tryd.isAgg100
  z171 := Tryd.sizeOf100
  v171 := Tryd.zeroValue100
  t173 := Tryd.underlying103
  a173 := Tryd.isAgg103
  z173 := Tryd.sizeOf103
  v173 := Tryd.zeroValue103
  t212 := Tryd.underlying108
  a212 := Tryd.isAgg108
  z212 := Tryd.sizeOf108
  v212 := Tryd.zeroValue108
  t213 := Tryd.underlying110
  a213 := Tryd.isAgg110
  z213 := Tryd.sizeOf110
  t232 := Tryd.underlying113
  a232 := Tryd.isAgg113
  z232 := Tryd.sizeOf113
  v232 := Tryd.zeroValue113
  t233 := Tryd.underlying114
  a233 := Tryd.isAgg114
  z233 := Tryd.sizeOf114
  v233 := Tryd.zeroValue114
  g17 := by kernel_rfl
  g18 := by kernel_rfl
  g19 := by kernel_rfl
  i0 := by kernel_rfl
  i2 := by kernel_rfl
  i3 := by kernel_rfl
  i4 := by kernel_rfl
  i5 := by kernel_rfl
  i9 := by kernel_rfl
  i20 := by kernel_rfl
  i37 := by kernel_rfl
  i46 := by kernel_rfl
  i51 := by kernel_rfl
  i53 := by kernel_rfl
  i171 := by kernel_rfl
  i173 := by kernel_rfl
  i212 := by kernel_rfl
  i232 := by kernel_rfl
  i233 := by kernel_rfl
  m17 := by kernel_rfl
  m18 := by kernel_rfl
  m19 := by kernel_rfl }
open Go.RowKit Go.Sort Go.Lib in
theorem Tryd.strconv_Itoa (n : Int) (h0 : -9223372036854775808 ≤ n) (h1 : n ≤ 9223372036854775807) (w : World) (htab : Lib.TabIs Tryd.prog w "internal/strconv.uint64pow10" .u64 Lib.pow10Tab) :
    Calls Tryd.prog 65 #[.int .i64 n] w fun e w' => e = .returned (.string ⟨(Lib.itoa n).toArray⟩) ∧ ∃ k os, w' = grow (w.drewN k) os := Any.strconv_Itoa Tryd.laysM171 n h0 h1 w htab
end Go.Proofs

/- The text of a number, in the program (strconv.Itoa), and what its table asks of the world. -/
namespace Go.Proofs.YtdiojhjkcholiaaDoor
open Go.RowKit

theorem below_grow (w : World) (k : Nat) (os : Array Obj) : Below w.heap.size w (Sort.grow (w.drewN k) os) := by
  have h1 : Below w.heap.size w (w.drewN k) := below_drewN (Below.refl _ _) k
  refine h1.trans ⟨rfl, rfl, rfl, by simp [Sort.grow], fun i hi => ?_⟩
  have hs : (w.drewN k).heap = w.heap := by simp
  simp only [Sort.grow]
  rw [Array.getElem?_append_left (by rw [hs]; exact hi)]
/-- The table of the powers of ten lies, now and in every world since. -/
abbrev Tab (w : World) : Prop := Lib.TabBelow Tryd.prog w.heap.size w "internal/strconv.uint64pow10" .u64 Lib.pow10Tab
theorem Tab.is {w : World} (h : Tab w) : Lib.TabIs Tryd.prog w "internal/strconv.uint64pow10" .u64 Lib.pow10Tab := h w (Below.refl _ _)
theorem Tab.then {w w' : World} (h : Tab w) (hb : Below w.heap.size w w') : Tab w' := fun w'' h'' => h w'' (hb.trans (h''.mono hb.size))
theorem Tab.at {w : World} (h : Tab w) (q : Since w.heap.size w) : Tab q.val := h.then q.below

theorem itoa_any (n : Int) (w : World) (h0 : -9223372036854775808 ≤ n) (h1 : n ≤ 9223372036854775807) (ht : Tab w) :
    Calls Tryd.prog 65 #[.int .i64 n] w fun e w' => e = .returned (.string ⟨(Lib.itoa n).toArray⟩) ∧ Below w.heap.size w w' :=
  (Tryd.strconv_Itoa n h0 h1 w ht.is).mono fun e w' ⟨he, k, os, hw⟩ => ⟨he, by rw [hw]; exact below_grow w k os⟩
end Go.Proofs.YtdiojhjkcholiaaDoor

/- The text of a tray, in the reference and in the program. -/
namespace Go.Proofs.YtdiojhjkcholiaaDoor
open Go.RowKit

abbrev isKind (k : Int) : Outing → Bool := fun o => decide (o.k = k)
def trT (c o : ByteArray) : ByteArray := c ++ ⟨#[32, 105, 110, 32]⟩ ++ o ++ ⟨#[32, 111, 117, 116]⟩
abbrev numT (n : Int) : ByteArray := ⟨(Lib.itoa n).toArray⟩
/-- The text of the tray of a kind. -/
def trayTx (x : Off) (kd : Int) : ByteArray := trT (numT (x.t.getD (trayIx x.t kd).toNat default).c) (numT (outSum (isKind kd) x.o))
def trayT (x : Off) (kd : Int) : ByteArray := if goodOff x && hasTray x.t kd then trayTx x kd else ⟨#[]⟩
theorem idxFrom_ge {α : Type} (f : α → Bool) : ∀ (l : List α) (k : Nat) (i : Nat), idxFrom f k l = (i : Int) → k ≤ i ∧ ∃ h : i - k < l.length, f l[i - k] = true
  | [], k, i, h => by simp [idxFrom] at h
  | x :: l, k, i, h => by
    rw [idxFrom] at h
    split at h
    · rename_i hx
      obtain rfl : k = i := by omega
      exact ⟨Nat.le_refl _, by simp, by simpa using hx⟩
    · obtain ⟨h1, h2, h3⟩ := idxFrom_ge f l (k + 1) i h
      refine ⟨by omega, by simp; omega, ?_⟩
      have e : i - k = (i - (k + 1)) + 1 := by omega
      simp only [e, List.getElem_cons_succ]
      exact h3
theorem trayIx_at {ts : List Tray} {kd : Int} {i : Nat} (h : trayIx ts kd = i) : ∃ hi : i < ts.length, ts[i].k = kd := by
  obtain ⟨_, h2, h3⟩ := idxFrom_ge _ ts 0 i h
  simp only [Nat.sub_zero] at h2 h3
  exact ⟨h2, of_decide_eq_true h3⟩
theorem trayIx_nat {ts : List Tray} {kd : Int} (h : 0 ≤ trayIx ts kd) : ∃ i : Nat, trayIx ts kd = i := ⟨(trayIx ts kd).toNat, by omega⟩

set_option maxRecDepth 100000 in
set_option maxHeartbeats 2000000 in
theorem l32Text_any (x : Off) (i : Nat) (kd : Int) (w : World) (h : OffR w w.heap.size x) (G : Good x) (hi : i < x.t.length) (hk : x.t[i].k = kd) :
    Calls Tryd.prog 32 #[x.val, .int .i64 i] w fun e w' => e = .returned (.string (trT (numT x.t[i].c) (numT (outSum (isKind kd) x.o)))) ∧ Below w.heap.size w w' := by
  have hb0 := (Below.refl w.heap.size w).alloc (Nat.le_refl _) (.cells #[.slice x.TA x.t.length x.tc, .slice x.OA x.o.length x.oc, .int .i64 x.got, .int .i64 x.sold, .int .i64 x.missed] 32)
  have hS := OffS.of (x := x) (Lies.new w 32 #[.slice x.TA x.t.length x.tc, .slice x.OA x.o.length x.oc, .int .i64 x.got, .int .i64 x.sold, .int .i64 x.missed])
  have hR := h.up hb0 (Nat.le_refl _)
  have HO := Lib.hid G.oall
  have ol := G.ol
  have tl := G.tl
  have htb := (Tray.bounds (G.tall i hi)).2
  have hob := outFrom_bd (isKind kd) x.t x.o 0 G.oall
  change 0 ≤ outSum (isKind kd) x.o ∧ outSum (isKind kd) x.o ≤ _ at hob
  have HF : Hid (outFrom (isKind kd) 0 (x.o.drop 0) = outSum (isKind kd) x.o) := rfl
  have HT : Hid (trT (numT x.t[i].c) (numT (outSum (isKind kd) x.o)) = numT x.t[i].c ++ ⟨#[32, 105, 110, 32]⟩ ++ numT (outSum (isKind kd) x.o) ++ ⟨#[32, 111, 117, 116]⟩) := rfl
  obtain ⟨tr, htr⟩ : ∃ tr, x.t[i] = tr := ⟨_, rfl⟩
  rw [htr] at hk htb HT ⊢
  go_enter Tryd.func32, Tryd.ntmps32
  go_wp2
  generalize w.alloc (.cells #[.slice x.TA x.t.length x.tc, .slice x.OA x.o.length x.oc, .int .i64 x.got, .int .i64 x.sold, .int .i64 x.missed] 32) = W at hb0 hS hR ⊢
  obtain ⟨s0, s1, s2, s3, s4⟩ := hS
  obtain ⟨bt, ot, hTA, _, htc⟩ := hR.ts.el (by omega)
  obtain ⟨t0, t1⟩ := htc i hi
  have hro := hR.os.el
  simp only [hTA] at s0
  rw [htr] at t0 t1
  clear htc hTA htr
  subst hk
  obtain ⟨htb1, htb2⟩ := htb
  obtain ⟨hob1, hob2⟩ := hob
  have hz0 : (0 : Int) ≤ (i : Int) := by omega
  have hii : (i : Int) < (x.t.length : Int) := by omega
  go_loopw [5, 6] (fun s k wr => ∃ (j : Nat) (u : Int), j ≤ x.o.length ∧ k = .int .i64 j ∧ s = .int .i64 u ∧ (0 ≤ u ∧ u ≤ 9999 * (j : Int)) ∧ (∃ q : Since W.heap.size W, wr = q.val) ∧ Hid (outFrom (isKind tr.k) u (x.o.drop j) = outSum (isKind tr.k) x.o)) (fun _ k _ => x.o.length - (intOf k).toNat)
  case atStart => exact ⟨0, 0, Nat.zero_le _, rfl, rfl, by omega, ⟨Since.start _ _, rfl⟩, HF⟩
  case round =>
    obtain ⟨j, u, hj, rfl, rfl, ⟨u0, u1⟩, ⟨p, rfl⟩, HU⟩ := hrel
    by_cases hlj : j < x.o.length
    · obtain ⟨b, off, hA, hb, hcell⟩ := hro (by omega)
      obtain ⟨e0, e1, e2⟩ := hcell j hlj
      obtain ⟨_, _, x1, x2⟩ := Outing.bounds (HO.out j hlj)
      have HS : Hid (outFrom (isKind tr.k) u (x.o.drop j) = outFrom (isKind tr.k) (if isKind tr.k x.o[j] then u + x.o[j].c else u) (x.o.drop (j + 1))) := out_step (f := isKind tr.k) hlj u
      obtain ⟨r, hre⟩ : ∃ r, r = x.o[j] := ⟨_, rfl⟩
      rw [← hre] at e0 e1 e2 HS x1 x2
      simp only [hA] at s1
      clear hre hcell hro hA
      by_cases hz : r.k = tr.k
      · have hv : (r.k == tr.k) = true := by simp [hz]
        have HE : Hid (outFrom (isKind tr.k) (u + r.c) (x.o.drop (j + 1)) = outSum (isKind tr.k) x.o) := by
          have h1 := HU.out; rw [HS.out, show isKind tr.k r = true from decide_eq_true hz, if_pos rfl] at h1; exact h1
        clear hz HS
        go_wp2
        refine wp_region_since _ (by kernel_rfl) (by kernel_rfl) ?_
        repeat (any_goals (first | go_big_quiet_step ((fail)) | (refine wpQuiet_step (fun K hK => ?_); go_simp; split <;> (refine hK _ ?_; clear hK K))))
        all_goals (refine wpQuiet_nil ?_; rintro _ ⟨q1, rfl⟩)
        all_goals go_wp2
        go_roundw
        case rel => exact ⟨j + 1, u + r.c, by omega, by go_num, rfl, by omega, ⟨q1, rfl⟩, HE⟩
        case measure => simp [intOf]; omega
      · have hv : (r.k == tr.k) = false := by simp [hz]
        have HE : Hid (outFrom (isKind tr.k) u (x.o.drop (j + 1)) = outSum (isKind tr.k) x.o) := by
          have h1 := HU.out; rw [HS.out, show isKind tr.k r = false from decide_eq_false hz, if_neg (by simp)] at h1; exact h1
        clear hz HS
        go_wp2
        refine wp_region_since _ (by kernel_rfl) (by kernel_rfl) ?_
        repeat (any_goals (first | go_big_quiet_step ((fail)) | (refine wpQuiet_step (fun K hK => ?_); go_simp; split <;> (refine hK _ ?_; clear hK K))))
        all_goals (refine wpQuiet_nil ?_; rintro _ ⟨q1, rfl⟩)
        all_goals go_wp2
        go_roundw
        case rel => exact ⟨j + 1, u, by omega, by go_num, rfl, by omega, ⟨q1, rfl⟩, HE⟩
        case measure => simp [intOf]; omega
    · have HE2 : Hid (u = outSum (isKind tr.k) x.o) := by
        have h1 := HU.out; rw [List.drop_eq_nil_of_le (by omega)] at h1; exact h1
      have z1 := itoa_len htb1 (by omega : tr.c ≤ 1000000000)
      have z2 := itoa_len u0 (by omega : u ≤ 1000000000)
      obtain ⟨SA, hSA⟩ : ∃ SA, numT tr.c = SA := ⟨_, rfl⟩
      obtain ⟨SB, hSB⟩ : ∃ SB, numT u = SB := ⟨_, rfl⟩
      have cA : ∀ W, Calls Tryd.prog 56 #[.int .i64 tr.c] W fun e w' => e = .returned (.string SA) ∧ Below W.heap.size W w' := fun W => by rw [← hSA]; exact l1Num_any tr.c W htb1 (by omega)
      have cB : ∀ W, Calls Tryd.prog 56 #[.int .i64 u] W fun e w' => e = .returned (.string SB) ∧ Below W.heap.size W w' := fun W => by rw [← hSB]; exact l1Num_any u W u0 (by omega)
      have z1' : SA.size ≤ 100 := by rw [← hSA]; exact z1
      have z2' : SB.size ≤ 100 := by rw [← hSB]; exact z2
      have HA := Lib.hid hSA
      have HB := Lib.hid hSB
      clear hro hSA hSB z1 z2
      go_wp2_with fail
      refine (cA _).mono ?_
      rintro e w1 ⟨rfl, hb1⟩
      go_wp2_with fail
      refine (cB _).mono ?_
      rintro e w2 ⟨rfl, hb2⟩
      go_wp2
      go_ret
      exact ⟨by rw [HT.out, ← HE2.out, HA.out, HB.out]; rfl, bthen (bthen (bthen hb0 p.below) hb1) hb2⟩

theorem trayT_no {x : Off} {kd : Int} (h : (goodOff x && hasTray x.t kd) = false) : trayT x kd = ⟨#[]⟩ := by unfold trayT; rw [h]; rfl
theorem trayT_yes {x : Off} {kd : Int} {i : Nat} (hg : goodOff x = true) (hI : trayIx x.t kd = i) (hi : i < x.t.length) : (goodOff x && hasTray x.t kd) = true ∧ trayT x kd = trT (numT x.t[i].c) (numT (outSum (isKind kd) x.o)) := by
  have h1 : hasTray x.t kd = true := by rw [← trayIx_has, hI]; simp
  refine ⟨by rw [hg, h1]; rfl, ?_⟩
  unfold trayT trayTx
  rw [hg, h1, hI, Int.toNat_natCast, List.getD_eq_getElem?_getD, List.getElem?_eq_getElem hi]; rfl
theorem hasTray_no {ts : List Tray} {kd : Int} (h : ¬ 0 ≤ trayIx ts kd) : hasTray ts kd = false := by rw [← trayIx_has, decide_eq_false h]

set_option maxRecDepth 100000 in
set_option maxHeartbeats 2000000 in
theorem specTrayText_any (x : Off) (kd : Int) (w : World) (h : OffR w w.heap.size x) :
    Calls Tryd.prog 6 #[x.val, .int .i64 kd] w fun e w' => e = .returned (.tuple #[.string (trayT x kd), .bool (goodOff x && hasTray x.t kd)]) ∧ Below w.heap.size w w' := by
  have b1 := (Below.refl w.heap.size w).alloc (Nat.le_refl _) (.cells #[.slice x.TA x.t.length x.tc, .slice x.OA x.o.length x.oc, .int .i64 x.got, .int .i64 x.sold, .int .i64 x.missed] 32)
  have hA := box_at h 32
  have cG := fun W hW => l32Good_any x W hW
  have cT := fun W hW => l32Tray_any x kd W hW
  cases hg : goodOff x
  · rw [hg] at cG
    have HN := Lib.hid (trayT_no (x := x) (kd := kd) (by rw [hg]; rfl))
    clear hg
    rw [HN.out]
    generalize trayIx x.t kd = I at cT
    go_enter Tryd.func6, Tryd.ntmps6
    go_wp2_with fail
    generalize w.alloc (.cells #[.slice x.TA x.t.length x.tc, .slice x.OA x.o.length x.oc, .int .i64 x.got, .int .i64 x.sold, .int .i64 x.missed] 32) = W at b1 hA ⊢
    obtain ⟨p0, p1, p2, p3, p4⟩ := hA.s
    refine (calls_since0 (cT _ hA.r)).mono ?_
    rintro e w1 ⟨rfl, q1, rfl⟩
    go_wp2_with fail
    refine (calls_since (Nat.le_refl _) (cG _ (hA.r.at q1))).mono ?_
    rintro e w2 ⟨rfl, q2, rfl⟩
    go_wp2
    go_ret2
    exact ⟨rfl, b1.trans (q2.below.mono b1.size)⟩
  · rw [hg] at cG
    have G := good_iff.1 hg
    by_cases hI : 0 ≤ trayIx x.t kd
    · obtain ⟨i, hi⟩ := trayIx_nat hI
      obtain ⟨hlt, hk⟩ := trayIx_at hi
      have HY := Lib.hid (trayT_yes hg hi hlt).2
      have HT : Hid (hasTray x.t kd = true) := by have := (trayT_yes hg hi hlt).1; rw [hg] at this; exact this
      have cX := fun W hW => l32Text_any x i kd W hW G hlt hk
      rw [hi] at cT
      clear hg hI hi
      rw [HY.out, HT.out]
      generalize trT (numT x.t[i].c) (numT (outSum (isKind kd) x.o)) = TX at cX ⊢
      go_enter Tryd.func6, Tryd.ntmps6
      go_wp2_with fail
      generalize w.alloc (.cells #[.slice x.TA x.t.length x.tc, .slice x.OA x.o.length x.oc, .int .i64 x.got, .int .i64 x.sold, .int .i64 x.missed] 32) = W at b1 hA ⊢
      obtain ⟨p0, p1, p2, p3, p4⟩ := hA.s
      refine (calls_since0 (cT _ hA.r)).mono ?_
      rintro e w1 ⟨rfl, q1, rfl⟩
      go_wp2_with fail
      refine (calls_since (Nat.le_refl _) (cG _ (hA.r.at q1))).mono ?_
      rintro e w2 ⟨rfl, q2, rfl⟩
      go_wp2_with fail
      refine (calls_since (Nat.le_refl _) (cX _ (hA.r.at q2))).mono ?_
      rintro e w3 ⟨rfl, q3, rfl⟩
      go_wp2
      go_ret2
      exact ⟨rfl, b1.trans (q3.below.mono b1.size)⟩
    · have HH := Lib.hid (hasTray_no hI)
      have HN := Lib.hid (trayT_no (x := x) (kd := kd) (by rw [hasTray_no hI, Bool.and_false]))
      clear hg
      rw [HN.out, HH.out]
      generalize trayIx x.t kd = I at cT hI
      go_enter Tryd.func6, Tryd.ntmps6
      go_wp2_with fail
      generalize w.alloc (.cells #[.slice x.TA x.t.length x.tc, .slice x.OA x.o.length x.oc, .int .i64 x.got, .int .i64 x.sold, .int .i64 x.missed] 32) = W at b1 hA ⊢
      obtain ⟨p0, p1, p2, p3, p4⟩ := hA.s
      refine (calls_since0 (cT _ hA.r)).mono ?_
      rintro e w1 ⟨rfl, q1, rfl⟩
      go_wp2_with fail
      refine (calls_since (Nat.le_refl _) (cG _ (hA.r.at q1))).mono ?_
      rintro e w2 ⟨rfl, q2, rfl⟩
      go_wp2
      go_ret2
      exact ⟨rfl, b1.trans (q2.below.mono b1.size)⟩

/-- The closure of trayText. -/
theorem textFn_any (t : Outing) (gk : Nat) (kd : Int) (w : World) (hL : Lies w gk 3 [.int .i64 kd]) :
    Calls Tryd.prog 64 (#[t.val] ++ #[.pointer (some ⟨gk, 0, none⟩)]) w fun e w' => e = .returned (.bool (isKind kd t)) ∧ Below w.heap.size w w' := by
  show Calls Tryd.prog 64 #[t.val, .pointer (some ⟨gk, 0, none⟩)] w _
  have b1 := (Below.refl w.heap.size w).alloc (Nat.le_refl _) (.cells #[.int .i64 t.k, .int .i64 t.p, .int .i64 t.c] 71)
  have c0 := (hL.alloc (.cells #[.int .i64 t.k, .int .i64 t.p, .int .i64 t.c] 71)).cell 0
  simp only [List.getElem?_cons_zero] at c0
  obtain ⟨v, hv⟩ : ∃ v, (t.k == kd) = v := ⟨_, rfl⟩
  have HV : Hid (isKind kd t = v) := by rw [← hv]; unfold Hid; rw [Bool.eq_iff_iff]; simp [isKind]
  go_enter Tryd.func64, Tryd.ntmps64
  go_wp2
  go_ret
  exact ⟨by rw [HV.out]; rfl, b1⟩

set_option maxRecDepth 100000 in
set_option maxHeartbeats 2000000 in
theorem trayText_any (x : Off) (g i : Nat) (kd : Int) (w : World) (h : OffAt w w.heap.size g x) (G : Good x) (hI : trayIx x.t kd = i) (hi : i < x.t.length) (ht : Tab w) :
    Calls Tryd.prog 37 #[.pointer (some ⟨g, 0, none⟩), .int .i64 kd] w fun e w' => e = .returned (.string (trT (numT x.t[i].c) (numT (outSum (isKind kd) x.o)))) ∧ Below w.heap.size w w' := by
  have hmf : ∀ (fn : Fn) (first cap : Array Value) (w : World), (Instr.makeFunc fn first cap).run Tryd.prog w = .ok (.func fn first cap) w := fun _ _ _ _ => rfl
  have b1 := (Below.refl w.heap.size w).alloc (Nat.le_refl _) (.cells #[.int .i64 kd] 3)
  have hL := Lies.new w 3 #[.int .i64 kd]
  have hA := h.then b1 b1.size
  have ht1 := ht.then b1
  have ol := G.ol
  have htb := (Tray.bounds (G.tall i hi)).2
  have hob := outFrom_bd (isKind kd) x.t x.o 0 G.oall
  change 0 ≤ outSum (isKind kd) x.o ∧ outSum (isKind kd) x.o ≤ _ at hob
  have HT : Hid (trT (numT x.t[i].c) (numT (outSum (isKind kd) x.o)) = numT x.t[i].c ++ ⟨#[32, 105, 110, 32]⟩ ++ numT (outSum (isKind kd) x.o) ++ ⟨#[32, 111, 117, 116]⟩) := rfl
  rw [HT.out]
  obtain ⟨tr, htr⟩ : ∃ tr, x.t[i] = tr := ⟨_, rfl⟩
  obtain ⟨S, hS⟩ : ∃ S, outSum (isKind kd) x.o = S := ⟨_, rfl⟩
  rw [htr] at htb
  rw [hS] at hob
  rw [htr, hS]
  go_enter Tryd.func37, Tryd.ntmps37
  go_wp2_with fail
  generalize w.alloc (.cells #[.int .i64 kd] 3) = W at b1 hL hA ht1 ⊢
  have cO := stampsOut_any (isKind kd) 64 #[.pointer (some ⟨w.heap.size, 0, none⟩)] Tryd.call64 x g W (fun o p => textFn_any o w.heap.size kd p.val (hL.below p.below hL.lt)) hA ol G.oall
  rw [hS] at cO
  refine (calls_since0 cO).mono ?_
  rintro e w1 ⟨rfl, q1, rfl⟩
  have hk0 : ∀ q : Since W.heap.size W, q.val.cell? ⟨w.heap.size, 0, none⟩ = some (.int .i64 kd) := fun q => (q.cell hL.lt).trans (hL.cell 0)
  obtain ⟨p0, p1, p2, p3, p4⟩ := hA.s
  obtain ⟨bt, ot, hTA, _, htc⟩ := hA.r.ts.el (by omega)
  obtain ⟨t0, t1⟩ := htc i hi
  simp only [hTA] at p0
  have cA := fun q : Since W.heap.size W => trayAt_any x g kd q.val (hA.at q)
  rw [hI] at cA
  rw [htr] at t1
  obtain ⟨htb1, htb2⟩ := htb
  obtain ⟨hob1, hob2⟩ := hob
  have c1 := fun q : Since W.heap.size W => itoa_any tr.c q.val (by omega) (by omega) (ht1.at q)
  have c2 := fun q : Since W.heap.size W => itoa_any S q.val (by omega) (by omega) (ht1.at q)
  have z1 := itoa_len htb1 (by omega : tr.c ≤ 1000000000)
  have z2 := itoa_len hob1 (by omega : S ≤ 1000000000)
  have HA : Hid (numT tr.c = ⟨(Lib.itoa tr.c).toArray⟩) := rfl
  have HB : Hid (numT S = ⟨(Lib.itoa S).toArray⟩) := rfl
  generalize (⟨(Lib.itoa tr.c).toArray⟩ : ByteArray) = SA at c1 z1 HA
  generalize (⟨(Lib.itoa S).toArray⟩ : ByteArray) = SB at c2 z2 HB
  have hz0 : (0 : Int) ≤ (i : Int) := by omega
  have hii : (i : Int) < (x.t.length : Int) := by omega
  clear htc hTA cO hS t0 HT
  go_wp2
  refine wp_region_since _ (by kernel_rfl) (by kernel_rfl) ?_
  repeat (any_goals (first | go_big_quiet_step ((first | (go_at_call 36; with_reducible refine calls_since (Nat.le_refl _) (cA _)) | (go_at_call 65; with_reducible refine calls_since (Nat.le_refl _) (c1 _)) | (go_at_call 65; with_reducible refine calls_since (Nat.le_refl _) (c2 _)))) | (refine wpQuiet_step (fun K hK => ?_); go_simp; split <;> (refine hK _ ?_; clear hK K))))
  all_goals (refine wpQuiet_nil ?_; rintro _ ⟨q1, rfl⟩)
  all_goals go_wp2
  go_ret
  exact ⟨by rw [HA.out, HB.out]; rfl, bthen b1 q1.below⟩

set_option maxRecDepth 100000 in
set_option maxHeartbeats 2000000 in
theorem implTrayText_any (x : Off) (kd : Int) (w : World) (h : OffR w w.heap.size x) (ht : Tab w) :
    Calls Tryd.prog 8 #[x.val, .int .i64 kd] w fun e w' => e = .returned (.tuple #[.string (trayT x kd), .bool (goodOff x && hasTray x.t kd)]) ∧ Below w.heap.size w w' := by
  have b1 := (Below.refl w.heap.size w).alloc (Nat.le_refl _) (.cells #[.slice x.TA x.t.length x.tc, .slice x.OA x.o.length x.oc, .int .i64 x.got, .int .i64 x.sold, .int .i64 x.missed] 32)
  have hA := box_at h 32
  have ht1 := ht.then b1
  have cG := fun W hW => isOfficeValid_any x w.heap.size W hW
  have cT := fun W hW => trayAt_any x w.heap.size kd W hW
  cases hg : goodOff x
  · rw [hg] at cG
    have HN := Lib.hid (trayT_no (x := x) (kd := kd) (by rw [hg]; rfl))
    clear hg
    rw [HN.out]
    go_enter Tryd.func8, Tryd.ntmps8
    go_wp2_with fail
    generalize w.alloc (.cells #[.slice x.TA x.t.length x.tc, .slice x.OA x.o.length x.oc, .int .i64 x.got, .int .i64 x.sold, .int .i64 x.missed] 32) = W at b1 hA ⊢
    refine (cG _ hA).mono ?_
    rintro e w1 ⟨rfl, hb⟩
    go_wp2
    go_ret2
    exact ⟨rfl, bthen b1 hb⟩
  · rw [hg] at cG
    have G := good_iff.1 hg
    by_cases hI : 0 ≤ trayIx x.t kd
    · obtain ⟨i, hi⟩ := trayIx_nat hI
      obtain ⟨hlt, hk⟩ := trayIx_at hi
      have HY := Lib.hid (trayT_yes hg hi hlt).2
      have HT : Hid (hasTray x.t kd = true) := by have := (trayT_yes hg hi hlt).1; rw [hg] at this; exact this
      have cX := fun W hW ht => trayText_any x w.heap.size i kd W hW G hi hlt ht
      rw [hi] at cT
      clear hg hI hi
      rw [HY.out, HT.out]
      generalize trT (numT x.t[i].c) (numT (outSum (isKind kd) x.o)) = TX at cX ⊢
      go_enter Tryd.func8, Tryd.ntmps8
      go_wp2_with fail
      generalize w.alloc (.cells #[.slice x.TA x.t.length x.tc, .slice x.OA x.o.length x.oc, .int .i64 x.got, .int .i64 x.sold, .int .i64 x.missed] 32) = W at b1 hA ht1 ⊢
      refine (calls_since0 (cG _ hA)).mono ?_
      rintro e w1 ⟨rfl, q1, rfl⟩
      go_wp2_with fail
      refine (calls_since (Nat.le_refl _) (cT _ (hA.at q1))).mono ?_
      rintro e w2 ⟨rfl, q2, rfl⟩
      go_wp2_with fail
      refine (calls_since (Nat.le_refl _) (cX _ (hA.at q2) (ht1.at q2))).mono ?_
      rintro e w3 ⟨rfl, q3, rfl⟩
      go_wp2
      go_ret2
      exact ⟨rfl, b1.trans (q3.below.mono b1.size)⟩
    · have HH := Lib.hid (hasTray_no hI)
      have HN := Lib.hid (trayT_no (x := x) (kd := kd) (by rw [hasTray_no hI, Bool.and_false]))
      clear hg
      rw [HN.out, HH.out]
      generalize trayIx x.t kd = I at cT hI
      go_enter Tryd.func8, Tryd.ntmps8
      go_wp2_with fail
      generalize w.alloc (.cells #[.slice x.TA x.t.length x.tc, .slice x.OA x.o.length x.oc, .int .i64 x.got, .int .i64 x.sold, .int .i64 x.missed] 32) = W at b1 hA ⊢
      refine (calls_since0 (cG _ hA)).mono ?_
      rintro e w1 ⟨rfl, q1, rfl⟩
      go_wp2_with fail
      refine (calls_since (Nat.le_refl _) (cT _ (hA.at q1))).mono ?_
      rintro e w2 ⟨rfl, q2, rfl⟩
      go_wp2
      go_ret2
      exact ⟨rfl, b1.trans (q2.below.mono b1.size)⟩
end Go.Proofs.YtdiojhjkcholiaaDoor

/- FnTrays: the walk. (Printed by gen_lawtrays.py) -/
namespace Go.Proofs.YtdiojhjkcholiaaDoor
open Go.RowKit

theorem vBig_any (A : Option Addr) (n c : Nat) (w : World) : Calls Tryd.prog 10 #[.slice A n c] w fun e w' => e = .returned (.bool (decide (65536 < n))) ∧ w = w' := by
  by_cases h : 65536 < n
  · have h1 : (65536 : Int) < n := by omega
    rw [decide_eq_true h]
    go_enter Tryd.func10, Tryd.ntmps10
    go_wp2
    go_ret
    exact ⟨by simp [h1], rfl⟩
  · have h1 : ¬ (65536 : Int) < n := by omega
    rw [decide_eq_false h]
    go_enter Tryd.func10, Tryd.ntmps10
    go_wp2
    go_ret
    exact ⟨by simp [h1], rfl⟩
/-- An office drawn, in a variable of the law's own. -/
structure TS (w W : World) (X : Off) (g : Nat) : Prop where
  tab : Tab W
  bl : Below w.heap.size w W
  x : OffR W W.heap.size X
  k : Lies W g 32 [.slice X.TA X.t.length X.tc, .slice X.OA X.o.length X.oc, .int .i64 X.got, .int .i64 X.sold, .int .i64 X.missed]
theorem TS.then {w W W' : World} {X : Off} {g : Nat} (h : TS w W X g) (hb : Below W.heap.size W W') : TS w W' X g :=
  ⟨h.tab.then hb, h.bl.trans (hb.mono h.bl.size), h.x.then hb, h.k.below hb h.k.lt⟩
theorem TS.new {w W : World} {X : Off} (ht : Tab W) (hb : Below w.heap.size w W) (hx : OffR W W.heap.size X) : TS w (W.alloc (.cells #[.slice X.TA X.t.length X.tc, .slice X.OA X.o.length X.oc, .int .i64 X.got, .int .i64 X.sold, .int .i64 X.missed] 32)) X W.heap.size :=
  have h1 : Below W.heap.size W (W.alloc (.cells #[.slice X.TA X.t.length X.tc, .slice X.OA X.o.length X.oc, .int .i64 X.got, .int .i64 X.sold, .int .i64 X.missed] 32)) := (Below.refl W.heap.size W).alloc (Nat.le_refl _) (.cells #[.slice X.TA X.t.length X.tc, .slice X.OA X.o.length X.oc, .int .i64 X.got, .int .i64 X.sold, .int .i64 X.missed] 32)
  ⟨ht.then h1, hb.trans (h1.mono hb.size), hx.then h1, Lies.new W 32 #[.slice X.TA X.t.length X.tc, .slice X.OA X.o.length X.oc, .int .i64 X.got, .int .i64 X.sold, .int .i64 X.missed]⟩
theorem ints_then {w w' : World} {A : Option Addr} {l : List Int} (h : IntsR w w.heap.size A l) (hb : Below w.heap.size w w') : IntsR w' w'.heap.size A l := (SlcR.below h hb).mono hb.size
/-- A drawn office and an int, by values. -/
def DrawnOne (w : World) (e : Ending) (w' : World) : Prop := ∃ X : Off, e = .returned (.agg #[.slice X.TA X.t.length X.tc, .slice X.OA X.o.length X.oc, .int .i64 X.got, .int .i64 X.sold, .int .i64 X.missed]) ∧ OffR w' w'.heap.size X ∧ Below w.heap.size w w'
def DrawnTwo (w : World) (e : Ending) (w' : World) : Prop := ∃ (X : Off) (z : Int), e = .returned (.tuple #[.agg #[.slice X.TA X.t.length X.tc, .slice X.OA X.o.length X.oc, .int .i64 X.got, .int .i64 X.sold, .int .i64 X.missed], .int .i64 z]) ∧ OffR w' w'.heap.size X ∧ Below w.heap.size w w'
theorem drawnOne {w w' : World} {e : Ending} (h : ∃ (y : Oc) (v : Value), e = .returned v ∧ OwnV w' w.heap.size y v ∧ Below w.heap.size w w') : DrawnOne w e w' := by
  obtain ⟨y, v, rfl, ⟨TA, tc, OA, oc, rfl, hT, hO⟩, hb⟩ := h
  exact ⟨y.at TA tc OA oc, rfl, ⟨ownsRow_reads hT, ownsRow_reads hO⟩, hb⟩
theorem drawnTwo {w w' : World} {e : Ending} (h : ∃ (y : Oc) (v : Value) (z : Int), e = .returned (.tuple #[v, .int .i64 z]) ∧ OwnV w' w.heap.size y v ∧ Below w.heap.size w w') : DrawnTwo w e w' := by
  obtain ⟨y, v, z, rfl, ⟨TA, tc, OA, oc, rfl, hT, hO⟩, hb⟩ := h
  exact ⟨y.at TA tc OA oc, z, rfl, ⟨ownsRow_reads hT, ownsRow_reads hO⟩, hb⟩

set_option maxRecDepth 100000 in
set_option maxHeartbeats 8000000 in
set_option linter.unusedVariables false in
theorem lawTrays_any (A : Option Addr) (cap : Nat) (bs : List UInt8) (w : World) (hr : BytesR w w.heap.size A bs) (ht : Tab w) :
    Calls Tryd.prog 4 #[.slice A bs.length cap] w fun e w' => e = .returned (.bool true) ∧ Below w.heap.size w w' := by
  by_cases hbig : 65536 < bs.length
  · have hb' : decide (65536 < bs.length) = true := decide_eq_true hbig
    go_enter Tryd.func4, Tryd.ntmps4
    go_wp2_with (go_at_call 10; refine (vBig_any _ _ _ _).mono ?_; rintro e w' ⟨rfl, rfl⟩)
    go_ret
    exact ⟨rfl, Below.refl _ _⟩
  · have hb' : decide (65536 < bs.length) = false := decide_eq_false hbig
    go_enter Tryd.func4, Tryd.ntmps4
    go_wp2_with fail
    refine (vBig_any _ _ _ _).mono ?_
    rintro e w' ⟨rfl, rfl⟩
    go_wp2_with fail
    clear hb' hbig
    have HBR := Lib.hid hr
    have HTB := Lib.hid ht
    clear ht
    refine (drawPersonsWith_any A cap bs w hr).mono ?_
    intro e w1 hD
    obtain ⟨X, kd, rfl, hX1, hb1⟩ := drawnTwo hD
    have S0 := TS.new (HTB.out.then hb1) (hb1) hX1
    clear hb1 hX1
    go_upto_region 4 with fail
    generalize w1.alloc (.cells #[.slice X.TA X.t.length X.tc, .slice X.OA X.o.length X.oc, .int .i64 X.got, .int .i64 X.sold, .int .i64 X.missed] 32) = v0 at S0 ⊢
    generalize w1.heap.size = gX at S0 ⊢
    obtain ⟨ok, hok⟩ : ∃ b, (goodOff X && hasTray X.t kd) = b := ⟨_, rfl⟩
    obtain ⟨l, hl⟩ : ∃ l, listOf ok (picks (fun r : Outing => decide (r.k = kd)) Outing.p X.o) = l := ⟨_, rfl⟩
    have cI := fun W h => implPersonsWith_any X kd W h
    have cS := fun W h => specPersonsWith_any X kd W h
    simp only [hok, hl] at cI cS
    have HL : Hid (∀ q ∈ l, (goodOff X && inR q 1 999) = true ∧ hasFrom kd (listOf (goodOff X && inR q 1 999) (picks (fun r : Outing => decide (r.p = q)) Outing.k X.o)) = true) := fun q hq => person_has (ok := ok) (fun h => by rw [h, Bool.and_eq_true] at hok; exact good_iff.1 hok.1) (by rw [hl]; exact hq)
    clear hok hl
    have hbn : (ok != ok) = false := by cases ok <;> rfl
    have c0 := S0.k.cell 0
    have c1 := S0.k.cell 1
    have c2 := S0.k.cell 2
    have c3 := S0.k.cell 3
    have c4 := S0.k.cell 4
    simp only [List.getElem?_cons_zero, List.getElem?_cons_succ] at c0 c1 c2 c3 c4
    go_wp2_with fail
    refine (cI v0 S0.x).mono ?_
    rintro e v1 ⟨P, pc, rfl, hP, hb1⟩
    have I1 : IntsR v1 v1.heap.size P l := hP.reads
    have S1 := S0.then hb1
    clear hP hb1 S0 cI
    clear c0 c1 c2 c3 c4
    have c0 := S1.k.cell 0
    have c1 := S1.k.cell 1
    have c2 := S1.k.cell 2
    have c3 := S1.k.cell 3
    have c4 := S1.k.cell 4
    simp only [List.getElem?_cons_zero, List.getElem?_cons_succ] at c0 c1 c2 c3 c4
    go_wp2_with fail
    refine (cS v1 S1.x).mono ?_
    rintro e v2 ⟨P', pc', rfl, hP, hb1⟩
    have J2 : IntsR v2 v2.heap.size P' l := hP.reads
    have I2 := ints_then I1 hb1
    have S2 := S1.then hb1
    clear hP hb1 S1 I1 cS
    clear c0 c1 c2 c3 c4
    go_wp2_with fail
    refine (vInts_any P P' pc pc' l v2 I2 J2).mono ?_
    rintro e v3 ⟨rfl, hb1⟩
    have I3 := ints_then I2 hb1
    have S3 := S2.then hb1
    clear hb1 S2 I2 J2 hbn
    have hbg := I3.big
    go_wp2_with fail
    go_loopw [9] (fun i wr => ∃ k : Nat, k ≤ l.length ∧ i = .int .i64 k ∧ TS w wr X gX ∧ Below v3.heap.size v3 wr) (fun i _ => l.length - (intOf i).toNat)
    case atStart => exact ⟨0, Nat.zero_le _, rfl, S3, Below.refl _ _⟩
    case round =>
      obtain ⟨k, hk, rfl, SX, hb3⟩ := hrel
      by_cases hlt : k < l.length
      · obtain ⟨b, off, rfl, hb, hcell⟩ := I3.ints (by omega)
        have ec0 := hcell k hlt
        have hq := HL.out l[k] (List.getElem_mem hlt)
        generalize l[k] = q at ec0 hq
        have ec : Hid (∀ W, Below wr.heap.size wr W → W.cell? ⟨b, off + k, none⟩ = some (.int .i64 q)) := fun W hW => ec0 ⟨W, hb3.trans (hW.mono hb3.size)⟩
        have cK := fun W h => implKindsAt_any X q W h
        simp only [hq.1] at cK hq
        obtain ⟨ks, hks⟩ : ∃ ks, listOf true (picks (fun r : Outing => decide (r.p = q)) Outing.k X.o) = ks := ⟨_, rfl⟩
        simp only [hks] at cK hq
        have HQ := Lib.hid hq.2
        have HC := Lib.hid cK
        have KX := SX.k
        clear hcell ec0 hq cK hks
        go_wp2_with fail
        refine wp_region_factsR (fun _ => (fun W9 => Below wr.heap.size wr W9)) (fun _ w1 w2 => Below w1.heap.size w1 w2) (by kernel_rfl) (by kernel_rfl) (by kernel_rfl) (Below.refl _ _).drew ?_
        simp only [fillOps, Act.put, List.setIfInBounds_toArray, List.set_cons_zero, List.set_cons_succ, Nat.zero_add, Nat.reduceAdd]
        apply wpFactsR_val
        case h1 =>
          intro vs L9 w9 hG9 hC9 hB K9 hK9
          have q0 : w9.cell? ⟨gX, 0, none⟩ = some (.slice X.TA X.t.length X.tc) := (KX.below hC9 KX.lt).cell 0
          have q1 : w9.cell? ⟨gX, 1, none⟩ = some (.slice X.OA X.o.length X.oc) := (KX.below hC9 KX.lt).cell 1
          have q2 : w9.cell? ⟨gX, 2, none⟩ = some (.int .i64 X.got) := (KX.below hC9 KX.lt).cell 2
          have q3 : w9.cell? ⟨gX, 3, none⟩ = some (.int .i64 X.sold) := (KX.below hC9 KX.lt).cell 3
          have q4 : w9.cell? ⟨gX, 4, none⟩ = some (.int .i64 X.missed) := (KX.below hC9 KX.lt).cell 4
          simp only [Act.put, List.setIfInBounds_toArray, List.set_cons_zero, List.set_cons_succ] at hK9
          go_simp
          exact hK9 _ _ rfl hC9 (Below.refl _ _)
        apply wpFactsR_val
        case h1 =>
          intro vs L9 w9 hG9 hC9 hB K9 hK9
          simp only [Act.put, List.setIfInBounds_toArray, List.set_cons_zero, List.set_cons_succ] at hK9
          go_simp
          exact hK9 _ _ rfl hC9 (Below.refl _ _)
        apply wpFactsR_val
        case h1 =>
          intro vs L9 w9 hG9 hC9 hB K9 hK9
          simp only [Act.put, List.setIfInBounds_toArray, List.set_cons_zero, List.set_cons_succ] at hK9
          go_simp
          exact hK9 _ _ rfl hC9 (Below.refl _ _)
        apply wpFactsR_val
        case h1 =>
          intro vs L9 w9 hG9 hC9 hB K9 hK9
          have d1 := FactN.eq (hB 1 _ (by kernel_rfl) (by kernel_rfl) rfl (by decide))
          have d2 := FactN.eq (hB 2 _ (by kernel_rfl) (by kernel_rfl) rfl (by decide))
          simp only [d1, d2] at hK9 ⊢
          simp only [Act.put, List.setIfInBounds_toArray, List.set_cons_zero, List.set_cons_succ] at hK9
          go_simp
          exact hK9 _ _ rfl hC9 (Below.refl _ _)
        refine wpFactsR_val (.int .i64 q) (fun vs L9 w9 hG9 hC9 hB K9 hK9 => ?_) ?_
        next =>
          have d3 := FactN.eq (hB 3 _ (by kernel_rfl) (by kernel_rfl) rfl (by decide))
          simp only [d3] at hK9 ⊢
          have q0 := ec.out w9 hC9
          go_simp
          exact hK9 _ _ rfl hC9 (Below.refl _ _)
        refine wpFactsR_some [] (fun v w9 => ∃ A8 c8, v = .tuple #[.slice A8 ks.length c8, .bool true] ∧ IntsR w9 w9.heap.size A8 ks) ?_ (fun vs L9 w9 hG9 hC9 hB K9 hK9 => ?_) ?_
        next =>
          intro i9 hi9 hb9 ha9 v w1 w2 hv hT9
          have hb := hT9
          obtain ⟨A8, c8, q1, q2⟩ := hv
          exact ⟨A8, c8, q1, ints_then q2 hb⟩
        next =>
          have d0 := FactN.eq (hB 0 _ (by kernel_rfl) (by kernel_rfl) rfl (by decide))
          have d4 := FactN.eq (hB 4 _ (by kernel_rfl) (by kernel_rfl) rfl (by decide))
          simp only [d0, d4] at hK9 ⊢
          simp only [Act.put, List.setIfInBounds_toArray, List.set_cons_zero, List.set_cons_succ] at hK9
          go_simp
          refine (HC.out w9 (SX.x.then hC9)).mono ?_
          rintro en w8 ⟨A8, c8, rfl, hP, hb8⟩
          have hI8 : IntsR w8 w8.heap.size A8 ks := hP.reads
          exact hK9 _ _ _ rfl ⟨_, _, rfl, hI8⟩ (hC9.trans (hb8.mono hC9.size)) hb8
        refine wpFactsR_pair [] 5 (fun u v w9 => v = u ∧ ∃ A8 c8, u = .tuple #[.slice A8 ks.length c8, .bool true] ∧ IntsR w9 w9.heap.size A8 ks) (by kernel_rfl) ?_ (fun vs L9 w9 hG9 hC9 hB K9 hK9 => ?_) ?_
        next =>
          intro i9 hi9 hb9 ha9 u v w1 w2 hv hT9
          have hb := hT9
          obtain ⟨q0, A8, c8, q1, q2⟩ := hv
          exact ⟨q0, A8, c8, q1, ints_then q2 hb⟩
        next =>
          obtain ⟨A8, c8, e8, h8⟩ := hB 5 _ (by kernel_rfl) (by kernel_rfl) rfl (by decide)
          simp only [e8] at hK9 ⊢
          go_simp
          exact hK9 _ _ _ rfl ⟨rfl, A8, c8, rfl, h8⟩ hC9 (Below.refl _ _)
        refine wpFactsR_some [] (fun v w9 => ∃ A8 c8, v = .slice A8 ks.length c8 ∧ IntsR w9 w9.heap.size A8 ks) ?_ (fun vs L9 w9 hG9 hC9 hB K9 hK9 => ?_) ?_
        next =>
          intro i9 hi9 hb9 ha9 v w1 w2 hv hT9
          have hb := hT9
          obtain ⟨A8, c8, q1, q2⟩ := hv
          exact ⟨A8, c8, q1, ints_then q2 hb⟩
        next =>
          simp only [Act.put, List.setIfInBounds_toArray, List.set_cons_zero, List.set_cons_succ] at hK9
          obtain ⟨e6, A8, c8, e8, h8⟩ := hB 6 _ (by kernel_rfl) (by kernel_rfl) rfl (by decide)
          simp only [e6, e8] at hK9 ⊢
          go_simp
          exact hK9 _ _ _ rfl ⟨A8, c8, rfl, h8⟩ hC9 (Below.refl _ _)
        refine wpFactsR_val (.bool true) (fun vs L9 w9 hG9 hC9 hB K9 hK9 => ?_) ?_
        next =>
          obtain ⟨e6, A8, c8, e8, h8⟩ := hB 6 _ (by kernel_rfl) (by kernel_rfl) rfl (by decide)
          simp only [e6, e8] at hK9 ⊢
          go_simp
          exact hK9 _ _ rfl hC9 (Below.refl _ _)
        refine wpFactsR_some [] (fun v w9 => ∃ A8 c8, v = .slice A8 ks.length c8 ∧ IntsR w9 w9.heap.size A8 ks) ?_ (fun vs L9 w9 hG9 hC9 hB K9 hK9 => ?_) ?_
        next =>
          intro i9 hi9 hb9 ha9 v w1 w2 hv hT9
          have hb := hT9
          obtain ⟨A8, c8, q1, q2⟩ := hv
          exact ⟨A8, c8, q1, ints_then q2 hb⟩
        next =>
          simp only [Act.put, List.setIfInBounds_toArray, List.set_cons_zero, List.set_cons_succ] at hK9
          obtain ⟨A8, c8, e8, h8⟩ := hB 7 _ (by kernel_rfl) (by kernel_rfl) rfl (by decide)
          simp only [e8] at hK9 ⊢
          go_simp
          exact hK9 _ _ _ rfl ⟨A8, c8, rfl, h8⟩ hC9 (Below.refl _ _)
        apply wpFactsR_val
        case h1 =>
          intro vs L9 w9 hG9 hC9 hB K9 hK9
          have d8 := FactN.eq (hB 8 _ (by kernel_rfl) (by kernel_rfl) rfl (by decide))
          simp only [d8] at hK9 ⊢
          simp only [Act.put, List.setIfInBounds_toArray, List.set_cons_zero, List.set_cons_succ] at hK9
          go_simp
          exact hK9 _ _ rfl hC9 (Below.refl _ _)
        refine wpFactsR_nil fun vs Lq wd hL9 hbd hB => ?_
        obtain ⟨A8, c8, e8, h8⟩ := hB 9 _ rfl rfl (by decide)
        have d8 := FactN.eq (hB 10 _ rfl rfl (by decide))
        simp only [e8, d8]
        clear hB hL9 e8 d8
        have SD := SX.then hbd
        go_wp2_with fail
        refine (vHas_any A8 c8 ks kd wd h8).mono ?_
        rintro e we ⟨rfl, hbe⟩
        have SE := SD.then hbe
        rw [HQ.out]
        go_wp2_with fail
        go_roundw
        case rel => exact ⟨k + 1, by omega, by go_num, SE, hb3.trans ((hbd.trans (hbe.mono hbd.size)).mono hb3.size)⟩
        case measure => simp [intOf]; omega
      · have S4 := SX
        clear HL I3 hbg hb3 S3
        have hbusy := fun h => busy_has (x := X) h
        have cI := fun W h => implBusiestPerson_any X W h
        have cS := fun W h => specBusiestPerson_any X W h
        have cG := fun W h => implIsOffice_any X W h
        have hbd : busyOk X = (goodOff X && decide (0 < X.o.length)) := rfl
        obtain ⟨bv, hbv⟩ : ∃ b, busyV X = b := ⟨_, rfl⟩
        obtain ⟨bo, hbo⟩ : ∃ b, busyOk X = b := ⟨_, rfl⟩
        obtain ⟨gd, hgd⟩ : ∃ b, goodOff X = b := ⟨_, rfl⟩
        have cK := fun W h => implKindsAt_any X bv W h
        simp only [hbv, hbo, hgd] at hbusy cI cS cG cK hbd
        clear hbv hbo hgd
        obtain ⟨ks, hks⟩ : ∃ ks, listOf (gd && inR bv 1 999) (picks (fun r : Outing => decide (r.p = bv)) Outing.k X.o) = ks := ⟨_, rfl⟩
        obtain ⟨kb, hkb⟩ : ∃ b, (gd && inR bv 1 999) = b := ⟨_, rfl⟩
        simp only [hkb] at hks hbusy cK
        simp only [hks] at hbusy cK
        clear hks hkb
        have HK := Lib.hid cK
        have HU := Lib.hid hbusy
        have HD := Lib.hid hbd
        clear cK hbusy hbd
        have c0 := S4.k.cell 0
        have c1 := S4.k.cell 1
        have c2 := S4.k.cell 2
        have c3 := S4.k.cell 3
        have c4 := S4.k.cell 4
        simp only [List.getElem?_cons_zero, List.getElem?_cons_succ] at c0 c1 c2 c3 c4
        go_wp2_with fail
        refine (cI _ S4.x).mono ?_
        rintro e v5 ⟨rfl, hb1⟩
        have S5 := S4.then hb1
        clear hb1 S4 cI
        clear c0 c1 c2 c3 c4
        have c0 := S5.k.cell 0
        have c1 := S5.k.cell 1
        have c2 := S5.k.cell 2
        have c3 := S5.k.cell 3
        have c4 := S5.k.cell 4
        simp only [List.getElem?_cons_zero, List.getElem?_cons_succ] at c0 c1 c2 c3 c4
        go_wp2_with fail
        refine (cS _ S5.x).mono ?_
        rintro e v6 ⟨rfl, hb1⟩
        have S6 := S5.then hb1
        clear hb1 S5 cS
        have hbn : (bv != bv) = false := by simp
        have hbm : (bo != bo) = false := by cases bo <;> rfl
        clear c0 c1 c2 c3 c4
        go_upto_region 16 with fail
        go_cut [119] (fun s119 wx => s119 = .bool false ∧ Below v6.heap.size v6 wx)
        case first => as_aux_lemma =>
          cases gd
          · have hbo : bo = false := by rw [HD.out]; rfl
            subst hbo
            have c0 := S6.k.cell 0
            have c1 := S6.k.cell 1
            have c2 := S6.k.cell 2
            have c3 := S6.k.cell 3
            have c4 := S6.k.cell 4
            simp only [List.getElem?_cons_zero, List.getElem?_cons_succ] at c0 c1 c2 c3 c4
            go_wp2_with fail
            refine (cG _ S6.x).mono ?_
            rintro e v7 ⟨rfl, hb1⟩
            go_wp2_with fail
            go_meet
            case rel => exact ⟨rfl, hb1⟩
          · by_cases h0 : 0 < X.o.length
            · have hbo : bo = true := by rw [HD.out, decide_eq_true h0]; rfl
              subst hbo
              have d0 : decide (0 < (X.o.length : Int)) = true := decide_eq_true (by omega)
              have d1 : decide (0 < X.o.length) = true := decide_eq_true h0
              clear h0
              have c0 := S6.k.cell 0
              have c1 := S6.k.cell 1
              have c2 := S6.k.cell 2
              have c3 := S6.k.cell 3
              have c4 := S6.k.cell 4
              simp only [List.getElem?_cons_zero, List.getElem?_cons_succ] at c0 c1 c2 c3 c4
              go_wp2_with fail
              refine (cG _ S6.x).mono ?_
              rintro e v7 ⟨rfl, hb1⟩
              have S7 := S6.then hb1
              clear c0 c1 c2 c3 c4
              have c0 := S7.k.cell 0
              have c1 := S7.k.cell 1
              have c2 := S7.k.cell 2
              have c3 := S7.k.cell 3
              have c4 := S7.k.cell 4
              simp only [List.getElem?_cons_zero, List.getElem?_cons_succ] at c0 c1 c2 c3 c4
              go_wp2_with fail
              go_meet
              case rel => exact ⟨rfl, hb1⟩
            · have hbo : bo = false := by rw [HD.out, decide_eq_false h0]; rfl
              subst hbo
              have d0 : decide (0 < (X.o.length : Int)) = false := decide_eq_false (by omega)
              have d1 : decide (0 < X.o.length) = false := decide_eq_false h0
              clear h0
              have c0 := S6.k.cell 0
              have c1 := S6.k.cell 1
              have c2 := S6.k.cell 2
              have c3 := S6.k.cell 3
              have c4 := S6.k.cell 4
              simp only [List.getElem?_cons_zero, List.getElem?_cons_succ] at c0 c1 c2 c3 c4
              go_wp2_with fail
              refine (cG _ S6.x).mono ?_
              rintro e v7 ⟨rfl, hb1⟩
              have S7 := S6.then hb1
              clear c0 c1 c2 c3 c4
              have c0 := S7.k.cell 0
              have c1 := S7.k.cell 1
              have c2 := S7.k.cell 2
              have c3 := S7.k.cell 3
              have c4 := S7.k.cell 4
              simp only [List.getElem?_cons_zero, List.getElem?_cons_succ] at c0 c1 c2 c3 c4
              go_wp2_with fail
              go_meet
              case rel => exact ⟨rfl, hb1⟩
        case rest => as_aux_lemma =>
          obtain ⟨rfl, hx⟩ := hcut
          have S7 := S6.then hx
          clear hx S6 cG hbn hbm HD
          go_upto_if 120 with fail
          go_cut [] (fun wx => Below wc.heap.size wc wx)
          case first => as_aux_lemma =>
            cases bo
            · go_wp2_with fail
              go_meet
              case rel => exact Below.refl _ _
            · obtain ⟨hu1, hu2⟩ := HU.out rfl
              have hz : ((ks.length : Int) == 0) = false := by rw [beq_eq_false_iff_ne]; omega
              have hz2 : ¬ (ks.length : Int) = 0 := by omega
              have hz3 : (ks.length == 0) = false := by rw [beq_eq_false_iff_ne]; omega
              subst hu1
              clear hu2
              have c0 := S7.k.cell 0
              have c1 := S7.k.cell 1
              have c2 := S7.k.cell 2
              have c3 := S7.k.cell 3
              have c4 := S7.k.cell 4
              simp only [List.getElem?_cons_zero, List.getElem?_cons_succ] at c0 c1 c2 c3 c4
              go_wp2_with fail
              refine (HK.out wc S7.x).mono ?_
              rintro e w8 ⟨A', c', rfl, hO, hb8⟩
              clear hO c0 c1 c2 c3 c4 S7
              go_wp2_with fail
              go_meet
              case rel => exact hb8
          case rest => as_aux_lemma =>
            have HB := Lib.hid (S7.bl.trans (hcut.mono S7.bl.size))
            have HTC := Lib.hid ((S7.tab).then hcut)
            have hrd : BytesR wc wc.heap.size A bs := SlcR.up HBR.out HB.out (Nat.le_refl _)
            clear hcut S7 HU HK
            go_wp2_with fail
            refine (drawStampsIn_any A cap bs wc hrd).mono ?_
            intro e w1 hD
            obtain ⟨Y, rfl, hX1, hb1⟩ := drawnOne hD
            have S0 := TS.new (HTC.out.then hb1) (HB.out.trans (hb1.mono HB.out.size)) hX1
            clear hb1 hX1 hrd
            go_upto_region 23 with fail
            generalize w1.alloc (.cells #[.slice Y.TA Y.t.length Y.tc, .slice Y.OA Y.o.length Y.oc, .int .i64 Y.got, .int .i64 Y.sold, .int .i64 Y.missed] 32) = v0 at S0 ⊢
            generalize w1.heap.size = gY at S0 ⊢
            have cI := fun W h => implStampsIn_any Y W h
            have cS := fun W h => specStampsIn_any Y W h
            have cO := fun W h => implStampsOut_any Y W h
            have cP := fun W h => specStampsOut_any Y W h
            obtain ⟨gd, hgd⟩ : ∃ b, goodOff Y = b := ⟨_, rfl⟩
            simp only [hgd] at cI cS cO cP
            obtain ⟨si, hsi⟩ : ∃ b, okOf gd (inSum Y.t) = b := ⟨_, rfl⟩
            obtain ⟨so, hso⟩ : ∃ b, okOf gd (outSum every Y.o) = b := ⟨_, rfl⟩
            simp only [hsi, hso] at cI cS cO cP
            clear hgd hsi hso
            have hbi : (si != si) = false := by simp
            have hbo : (so != so) = false := by simp
            have hbg : (gd != gd) = false := by cases gd <;> rfl
            have c0 := S0.k.cell 0
            have c1 := S0.k.cell 1
            have c2 := S0.k.cell 2
            have c3 := S0.k.cell 3
            have c4 := S0.k.cell 4
            simp only [List.getElem?_cons_zero, List.getElem?_cons_succ] at c0 c1 c2 c3 c4
            go_wp2_with fail
            refine (cI v0 S0.x).mono ?_
            rintro e v1 ⟨rfl, hb1⟩
            have S1 := S0.then hb1
            clear hb1 S0 cI
            clear c0 c1 c2 c3 c4
            have c0 := S1.k.cell 0
            have c1 := S1.k.cell 1
            have c2 := S1.k.cell 2
            have c3 := S1.k.cell 3
            have c4 := S1.k.cell 4
            simp only [List.getElem?_cons_zero, List.getElem?_cons_succ] at c0 c1 c2 c3 c4
            go_wp2_with fail
            refine (cS v1 S1.x).mono ?_
            rintro e v2 ⟨rfl, hb1⟩
            have S2 := S1.then hb1
            clear hb1 S1 cS
            clear c0 c1 c2 c3 c4
            have c0 := S2.k.cell 0
            have c1 := S2.k.cell 1
            have c2 := S2.k.cell 2
            have c3 := S2.k.cell 3
            have c4 := S2.k.cell 4
            simp only [List.getElem?_cons_zero, List.getElem?_cons_succ] at c0 c1 c2 c3 c4
            go_wp2_with fail
            refine (cO v2 S2.x).mono ?_
            rintro e v3 ⟨rfl, hb1⟩
            have S3 := S2.then hb1
            clear hb1 S2 cO
            clear c0 c1 c2 c3 c4
            have c0 := S3.k.cell 0
            have c1 := S3.k.cell 1
            have c2 := S3.k.cell 2
            have c3 := S3.k.cell 3
            have c4 := S3.k.cell 4
            simp only [List.getElem?_cons_zero, List.getElem?_cons_succ] at c0 c1 c2 c3 c4
            go_wp2_with fail
            refine (cP v3 S3.x).mono ?_
            rintro e v4 ⟨rfl, hb1⟩
            have S4 := S3.then hb1
            clear hb1 S3 cP
            clear c0 c1 c2 c3 c4
            go_wp2_with fail
            have HB4 := Lib.hid S4.bl
            have HT4 := Lib.hid S4.tab
            have hrd : BytesR v4 v4.heap.size A bs := SlcR.up HBR.out HB4.out (Nat.le_refl _)
            clear S4 HB HTC hbi hbo hbg
            refine (drawKindsAt_any A cap bs v4 hrd).mono ?_
            intro e w1 hD
            obtain ⟨Z, pe, rfl, hX1, hb1⟩ := drawnTwo hD
            have S5 := TS.new (HT4.out.then hb1) (HB4.out.trans (hb1.mono HB4.out.size)) hX1
            clear hb1 hX1 hrd
            go_upto_region 32 with fail
            generalize w1.alloc (.cells #[.slice Z.TA Z.t.length Z.tc, .slice Z.OA Z.o.length Z.oc, .int .i64 Z.got, .int .i64 Z.sold, .int .i64 Z.missed] 32) = v5 at S5 ⊢
            generalize w1.heap.size = gZ at S5 ⊢
            have cI := fun W h => implKindsAt_any Z pe W h
            have cS := fun W h => specKindsAt_any Z pe W h
            obtain ⟨kb, hkb⟩ : ∃ b, (goodOff Z && inR pe 1 999) = b := ⟨_, rfl⟩
            simp only [hkb] at cI cS
            obtain ⟨ls, hls⟩ : ∃ ls, listOf kb (picks (fun r : Outing => decide (r.p = pe)) Outing.k Z.o) = ls := ⟨_, rfl⟩
            simp only [hls] at cI cS
            clear hkb hls
            have hbk : (kb != kb) = false := by cases kb <;> rfl
            have c0 := S5.k.cell 0
            have c1 := S5.k.cell 1
            have c2 := S5.k.cell 2
            have c3 := S5.k.cell 3
            have c4 := S5.k.cell 4
            simp only [List.getElem?_cons_zero, List.getElem?_cons_succ] at c0 c1 c2 c3 c4
            go_wp2_with fail
            refine (cI v5 S5.x).mono ?_
            rintro e v6 ⟨P, pc, rfl, hP, hb1⟩
            have I6 : IntsR v6 v6.heap.size P ls := hP.reads
            have S6 := S5.then hb1
            clear hP hb1 S5 cI
            clear c0 c1 c2 c3 c4
            have c0 := S6.k.cell 0
            have c1 := S6.k.cell 1
            have c2 := S6.k.cell 2
            have c3 := S6.k.cell 3
            have c4 := S6.k.cell 4
            simp only [List.getElem?_cons_zero, List.getElem?_cons_succ] at c0 c1 c2 c3 c4
            go_wp2_with fail
            refine (cS v6 S6.x).mono ?_
            rintro e v7 ⟨P', pc', rfl, hP, hb1⟩
            have J7 : IntsR v7 v7.heap.size P' ls := hP.reads
            have I7 := ints_then I6 hb1
            have S7 := S6.then hb1
            clear hP hb1 S6 I6 cS
            clear c0 c1 c2 c3 c4
            go_wp2_with fail
            refine (vInts_any P P' pc pc' ls v7 I7 J7).mono ?_
            rintro e v8 ⟨rfl, hb1⟩
            have S8 := S7.then hb1
            clear hb1 S7 I7 J7 hbk
            go_wp2_with fail
            have HB8 := Lib.hid S8.bl
            have HT8 := Lib.hid S8.tab
            have hrd : BytesR v8 v8.heap.size A bs := SlcR.up HBR.out HB8.out (Nat.le_refl _)
            clear S8 HB4 HT4
            refine (drawTrayText_any A cap bs v8 hrd).mono ?_
            intro e w1 hD
            obtain ⟨U, tr, rfl, hX1, hb1⟩ := drawnTwo hD
            have S9 := TS.new (HT8.out.then hb1) (HB8.out.trans (hb1.mono HB8.out.size)) hX1
            clear hb1 hX1 hrd
            go_upto_region 37 with fail
            generalize w1.alloc (.cells #[.slice U.TA U.t.length U.tc, .slice U.OA U.o.length U.oc, .int .i64 U.got, .int .i64 U.sold, .int .i64 U.missed] 32) = v9 at S9 ⊢
            generalize w1.heap.size = gU at S9 ⊢
            have cI := fun W h h' => implTrayText_any U tr W h h'
            have cS := fun W h => specTrayText_any U tr W h
            obtain ⟨tb, htb⟩ : ∃ b, (goodOff U && hasTray U.t tr) = b := ⟨_, rfl⟩
            obtain ⟨tt, htt⟩ : ∃ b, trayT U tr = b := ⟨_, rfl⟩
            simp only [htb, htt] at cI cS
            clear htb htt
            have hbt : (tb == tb) = true := by cases tb <;> rfl
            have hbs : (tt.toList == tt.toList) = true := by simp
            have c0 := S9.k.cell 0
            have c1 := S9.k.cell 1
            have c2 := S9.k.cell 2
            have c3 := S9.k.cell 3
            have c4 := S9.k.cell 4
            simp only [List.getElem?_cons_zero, List.getElem?_cons_succ] at c0 c1 c2 c3 c4
            go_wp2_with fail
            refine (cI v9 S9.x S9.tab).mono ?_
            rintro e v10 ⟨rfl, hb1⟩
            have S10 := S9.then hb1
            clear hb1 S9 cI
            clear c0 c1 c2 c3 c4
            have c0 := S10.k.cell 0
            have c1 := S10.k.cell 1
            have c2 := S10.k.cell 2
            have c3 := S10.k.cell 3
            have c4 := S10.k.cell 4
            simp only [List.getElem?_cons_zero, List.getElem?_cons_succ] at c0 c1 c2 c3 c4
            go_wp2_with fail
            refine (cS v10 S10.x).mono ?_
            rintro e v11 ⟨rfl, hb1⟩
            have S11 := S10.then hb1
            clear hb1 S10 cS
            clear c0 c1 c2 c3 c4
            go_wp2_with fail
            go_ret
            exact ⟨rfl, S11.bl⟩
end Go.Proofs.YtdiojhjkcholiaaDoor

/- Arguments that came in: from the reader's own reading to plain words (no program in sight). -/
namespace Go.Proofs.YtdiojhjkcholiaaDoor
open Go.ChangeShapes Go.WideShapes Go.ChangeAt Go.RowKit Go.Deep

section
variable {H : Type} {enc : TypeId × Value → H} {P : Program} {w : World} {base : Nat} {spare : Nat → Bool} {held : Bool}

/-- The fields of a struct of one-cell fields: place by place. -/
theorem trod_fields {e : TypeId} {fs : Array Field} {n : Nat} {cs : List Value} {x : DataW H × List MemPlace} (he : P.underlying e = some (.struct fs)) (hone : oneCellFields P fs = true) (hC : P.cellsOf e = fs.size)
    (h : DataW.trod enc P w base spare held n e cs = some x) :
    cs.length = fs.size ∧ ∀ (j : Nat) (f : Field), fs[j]? = some f → ∃ v m y, cs[j]? = some v ∧ DataW.trod enc P w base spare held m f.type [v] = some y := by
  obtain ⟨ys, n', _, _, hlen, hyl, hf⟩ := DataW.trod_struct he h
  refine ⟨by rw [hlen, hC], fun j f hj => ?_⟩
  obtain ⟨ho, hk⟩ := hone_of hone j f hj
  have hjl : j < fs.size := (Array.getElem?_eq_some_iff.1 hj).1
  have hjc : j < cs.length := by rw [hlen, hC]; exact hjl
  have h1 := hf j f hj
  rw [ho, hk, List.drop_eq_getElem_cons hjc] at h1
  have hys : ys[j]? = some (ys[j]'(by omega)) := List.getElem?_eq_getElem (by omega)
  exact ⟨_, n', _, List.getElem?_eq_getElem hjc, h1.trans hys⟩

theorem cell_spot {w : World} {a : Addr} {u : Value} (h : w.cell? a = some u) : ∃ b off, a = ⟨b, off, none⟩ ∧ b < w.heap.size := by
  obtain ⟨b, off, sp⟩ := a
  cases sp with
  | none => exact ⟨b, off, rfl, block_lt_of_cell h⟩
  | some s =>
    simp only [World.cell?] at h
    split at h <;> simp_all

/-- A slice that came in, whatever its elements: k cells each; what the reader knows of an element's cells. -/
theorem trod_slc {t e : TypeId} {k n : Nat} {v : Value} {x : DataW H × List MemPlace} (ht : P.underlying t = some (.slice e)) (hk : P.cellsOf e = k) (hk0 : 0 < k)
    (h : DataW.trod enc P w base spare held n t [v] = some x) :
    ∃ A len cap, v = .slice A len cap ∧ ∃ css : List (List Value), css.length = len ∧ SlcR w w.heap.size k A len css.flatten ∧
      ∀ cs ∈ css, cs.length = k ∧ ∃ m y, DataW.trod enc P w base spare held m e cs = some y := by
  rcases open_slice ht h with ⟨h0, _⟩ | ⟨a, len, cap, m, n', D, Pl, hcs, hb, hl, hm, hmm, hx, hi⟩
  · have : v = .slice none 0 0 := by simpa using h0
    exact ⟨none, 0, 0, this, [], rfl, SlcR.nil _ _ _ _, by simp⟩
  · have hv : v = .slice (some a) len cap := by simpa using hcs
    have hle : len ≤ m := by rw [hmm]; split <;> omega
    rw [hk] at hi
    have hsel : ∀ i : Nat, ∃ cs : List Value, cs.length = k ∧ (i < len → (∀ j u, cs[j]? = some u → w.cell? ((a.add (i * k)).add j) = some u) ∧ ∃ m y, DataW.trod enc P w base spare held m e cs = some y) := fun i => by
      by_cases hlt : i < len
      · obtain ⟨cs', hc, ht'⟩ := hi i (by omega)
        obtain ⟨_, hcl, hat⟩ := World.cells?_some hc
        exact ⟨cs', hcl, fun _ => ⟨fun j u hu => by
          have hj : j < cs'.length := (List.getElem?_eq_some_iff.1 hu).1
          rw [hat j (by omega), hu], _, _, ht'⟩⟩
      · exact ⟨List.replicate k undef, by simp, fun h => absurd h hlt⟩
    obtain ⟨f, hf⟩ := Classical.axiomOfChoice hsel
    have hfk : ∀ i, (f i).length = k := fun i => (hf i).1
    have hlen := flat_len f k hfk (List.range len)
    rw [List.length_range, List.flatMap_def] at hlen
    refine ⟨some a, len, cap, hv, (List.range len).map f, by simp, ⟨hlen, by unfold maxLen at hm; omega, fun hpos => ?_⟩, ?_⟩
    · have h00 : (f 0)[0]? = some ((f 0)[0]'(by rw [hfk]; exact hk0)) := List.getElem?_eq_getElem _
      have hc0 := ((hf 0).2 hpos).1 0 _ h00
      rw [Nat.zero_mul] at hc0
      obtain ⟨b, off, rfl, hb'⟩ := cell_spot (a := a) hc0
      refine ⟨b, off, rfl, hb', fun j u hu => ?_⟩
      have hj : j < len * k := by rw [← hlen]; exact (List.getElem?_eq_some_iff.1 hu).1
      have hi' : j / k < len := Nat.div_lt_of_lt_mul (by rw [Nat.mul_comm]; exact hj)
      have hr : j % k < k := Nat.mod_lt _ hk0
      have e : j = j / k * k + j % k := by rw [Nat.mul_comm]; exact (Nat.div_add_mod j k).symm
      have hat := flat_at f k hfk (List.range len) (j / k) (by simpa using hi') (j % k) hr
      rw [List.flatMap_def, ← e, List.getElem_range, hu] at hat
      have hc := ((hf (j / k)).2 hi').1 (j % k) u hat.symm
      have hadd : ((⟨b, off, none⟩ : Addr).add (j / k * k)).add (j % k) = ⟨b, off + j, none⟩ := by
        unfold Addr.add
        by_cases h1 : j / k * k = 0 <;> by_cases h2 : j % k = 0 <;> simp [h1, h2] <;> omega
      rw [hadd] at hc
      exact hc
    · intro cs hcs
      obtain ⟨i, hi, rfl⟩ := List.mem_map.1 hcs
      exact ⟨hfk i, ((hf i).2 (List.mem_range.1 hi)).2⟩
end

/-- A list of lists of cells, each the image of something. -/
theorem lift_list {α : Type} (enc : α → List Value) : ∀ css : List (List Value), (∀ cs ∈ css, ∃ x, cs = enc x) → ∃ l : List α, css.flatten = l.flatMap enc ∧ l.length = css.length
  | [], _ => ⟨[], rfl, rfl⟩
  | cs :: css, h => by
    obtain ⟨x, hx⟩ := h cs (by simp)
    obtain ⟨l, hl, hn⟩ := lift_list enc css (fun c hc => h c (by simp [hc]))
    exact ⟨x :: l, by simp [hl, hx], by simp [hn]⟩

section
variable {H : Type} {enc : TypeId × Value → H} {P : Program} {w : World} {base : Nat} {spare : Nat → Bool} {held : Bool}
/-- A field that is an int. -/
theorem trod_i64 {t : TypeId} {n : Nat} {v : Value} {x : DataW H × List MemPlace} (ht : P.underlying t = some (.int .i64)) (h : DataW.trod enc P w base spare held n t [v] = some x) :
    ∃ m : Int, v = .int .i64 m ∧ -9223372036854775808 ≤ m ∧ m ≤ 9223372036854775807 := by
  obtain ⟨m, e, _, hw⟩ := DataW.trod_int ht h
  refine ⟨m, by simpa using e, ?_⟩
  simp [Lit.wf, IntKind.min, IntKind.max, IntKind.signed, IntKind.bits] at hw
  omega
end

/-- Structs of ints alone. -/
def intFields (P : Program) (fs : Array Field) : Bool := fs.all fun f => match P.underlying f.type with | some (.int .i64) => true | _ => false
theorem intFields_at {P : Program} {fs : Array Field} (h : intFields P fs = true) (j : Nat) (f : Field) (hj : fs[j]? = some f) : P.underlying f.type = some (.int .i64) := by
  have := (Array.all_eq_true_iff_forall_mem.1 h) f (Array.mem_of_getElem? hj)
  split at this
  · assumption
  · cases this

section
variable {H : Type} {enc : TypeId × Value → H} {P : Program} {w : World} {base : Nat} {spare : Nat → Bool} {held : Bool}
theorem trod_int_cells {e : TypeId} {fs : Array Field} {n k : Nat} {cs : List Value} {x : DataW H × List MemPlace} (he : P.underlying e = some (.struct fs)) (hone : oneCellFields P fs = true) (hC : P.cellsOf e = fs.size) (hint : intFields P fs = true) (hk : fs.size = k)
    (h : DataW.trod enc P w base spare held n e cs = some x) : ∃ ns : List Int, ns.length = k ∧ cs = ns.map (Value.int .i64) := by
  obtain ⟨hl, hf⟩ := trod_fields he hone hC h
  subst hk
  refine ⟨cs.map fun v => match v with | .int _ m => m | _ => 0, by simpa using hl, List.ext_getElem? fun j => ?_⟩
  rw [List.getElem?_map, List.getElem?_map]
  by_cases hj : j < cs.length
  · obtain ⟨v, m, y, hv, hy⟩ := hf j (fs[j]'(by omega)) (Array.getElem?_eq_getElem (by omega))
    obtain ⟨z, rfl, _, _⟩ := trod_i64 (intFields_at hint j _ (Array.getElem?_eq_getElem (by omega))) hy
    rw [hv]; rfl
  · rw [List.getElem?_eq_none (by omega)]; rfl

/-- A struct of ints, by value. -/
theorem open_int_struct {t : TypeId} {fs : Array Field} {k b0 : Nat} {r : Reach} {v : Value} {d : DataW H} {p : List MemPlace} (he : P.underlying t = some (.struct fs)) (hone : oneCellFields P fs = true) (hC : P.cellsOf t = fs.size) (hint : intFields P fs = true) (hk : fs.size = k)
    (hv : Value.okWide P w r b0 t v) (h : DataW.Trod enc P w base spare held t v d p) : ∃ ns : List Int, ns.length = k ∧ v = .agg (ns.map (Value.int .i64)).toArray := by
  obtain ⟨cs, rfl, hsz⟩ := okWide_struct he hv
  obtain ⟨n, hn⟩ := h
  obtain ⟨ns, hl, hc⟩ := trod_int_cells he hone hC hint hk hn
  refine ⟨ns, hl, ?_⟩
  rw [← hc]; simp [Value.cells]

/-- A slice of structs of ints. -/
theorem open_int_structs {α : Type} (en : α → List Value) {t e : TypeId} {fs : Array Field} {k b0 : Nat} {r : Reach} {v : Value} {d : DataW H} {p : List MemPlace} (ht : P.underlying t = some (.slice e)) (he : P.underlying e = some (.struct fs)) (hone : oneCellFields P fs = true) (hC : P.cellsOf e = fs.size) (hint : intFields P fs = true) (hk : fs.size = k) (hk0 : 0 < k)
    (hen : ∀ ns : List Int, ns.length = k → ∃ x, ns.map (Value.int .i64) = en x)
    (hv : Value.okWide P w r b0 t v) (h : DataW.Trod enc P w base spare held t v d p) : ∃ A c, ∃ l : List α, v = .slice A l.length c ∧ SlcR w w.heap.size k A l.length (l.flatMap en) := by
  obtain ⟨A, len, cap, rfl⟩ := okWide_slice ht hv
  obtain ⟨n, hn⟩ := h
  obtain ⟨A', len', cap', e', css, hl, hS, hcs⟩ := trod_slc ht (hC.trans hk) hk0 hn
  injection e' with e1 e2 e3
  subst e1; subst e2; subst e3
  obtain ⟨l, hfl, hll⟩ := lift_list en css (fun cs hc => by
    obtain ⟨hlen, m, y, hy⟩ := hcs cs hc
    obtain ⟨ns, hn', hc'⟩ := trod_int_cells he hone hC hint hk hy
    obtain ⟨x, hx⟩ := hen ns hn'
    exact ⟨x, by rw [hc', hx]⟩)
  refine ⟨A, cap, l, by rw [hll, hl], ?_⟩
  rw [hll, hl, ← hfl]; exact hS
end
theorem i64_lo {n : Int} (h : (Lit.int .i64 n).wf = true) : -9223372036854775808 ≤ n := by
  simp [Lit.wf, IntKind.min, IntKind.max, IntKind.signed, IntKind.bits] at h; omega
theorem i64_hi {n : Int} (h : (Lit.int .i64 n).wf = true) : n ≤ 9223372036854775807 := by
  simp [Lit.wf, IntKind.min, IntKind.max, IntKind.signed, IntKind.bits] at h; omega
end Go.Proofs.YtdiojhjkcholiaaDoor

/- Arguments that came in: a slice of bytes. -/
namespace Go.Proofs.YtdiojhjkcholiaaDoor
open Go.ChangeShapes Go.WideShapes Go.ChangeAt Go.RowKit Go.Deep
section
variable {H : Type} {enc : TypeId × Value → H} {P : Program} {w : World} {base : Nat} {spare : Nat → Bool} {held : Bool}
theorem trod_u8 {t : TypeId} {n : Nat} {v : Value} {x : DataW H × List MemPlace} (ht : P.underlying t = some (.int .u8)) (h : DataW.trod enc P w base spare held n t [v] = some x) :
    ∃ b : UInt8, v = .int .u8 (b.toNat : Int) := by
  obtain ⟨m, e, _, hw⟩ := DataW.trod_int ht h
  have hb : 0 ≤ m ∧ m ≤ 255 := by
    simp [Lit.wf, IntKind.min, IntKind.max, IntKind.signed, IntKind.bits] at hw
    omega
  refine ⟨UInt8.ofNat m.toNat, ?_⟩
  have e' : v = .int .u8 m := by simpa using e
  rw [e']
  congr 1
  have : (UInt8.ofNat m.toNat).toNat = m.toNat := by
    rw [UInt8.toNat_ofNat']; omega
  rw [this]; omega
/-- A slice of bytes. -/
theorem open_bytes {t e : TypeId} {b0 : Nat} {r : Reach} {v : Value} {d : DataW H} {p : List MemPlace} (ht : P.underlying t = some (.slice e)) (he : P.underlying e = some (.int .u8)) (hC : P.cellsOf e = 1)
    (hv : Value.okWide P w r b0 t v) (h : DataW.Trod enc P w base spare held t v d p) : ∃ A c, ∃ l : List UInt8, v = .slice A l.length c ∧ BytesR w w.heap.size A l := by
  obtain ⟨A, len, cap, rfl⟩ := okWide_slice ht hv
  obtain ⟨n, hn⟩ := h
  obtain ⟨A', len', cap', e', css, hl, hS, hcs⟩ := trod_slc ht hC (by omega) hn
  injection e' with e1 e2 e3
  subst e1; subst e2; subst e3
  obtain ⟨l, hfl, hll⟩ := lift_list (fun b : UInt8 => [Value.int .u8 (b.toNat : Int)]) css (fun cs hc => by
    obtain ⟨hlen, m, y, hy⟩ := hcs cs hc
    obtain ⟨u, rfl⟩ : ∃ u, cs = [u] := by match cs, hlen with | [u], _ => exact ⟨u, rfl⟩
    obtain ⟨b, rfl⟩ := trod_u8 he hy
    exact ⟨b, rfl⟩)
  refine ⟨A, cap, l, by rw [hll, hl], ?_⟩
  rw [hfl] at hS
  have key : ∀ l : List UInt8, encBs l = l.flatMap (fun b : UInt8 => [Value.int .u8 (b.toNat : Int)]) := fun l => by
    induction l with
    | nil => rfl
    | cons a l ih => rw [List.flatMap_cons, ← ih]; rfl
  unfold BytesR
  rw [key, hll, hl]
  exact hS
end
end Go.Proofs.YtdiojhjkcholiaaDoor
