/- Fc04: the texts MergeI StepOps FactsU SortS, joined into one file. -/
import Derived.StillTailTactics
import Derived.Deep.RegionLawGrows
import Derived.Test.YtchkjiadnackaaaFc01
import Derived.Test.YtchkjiadnackaaaFc02
import Derived.Test.YtchkjiadnackaaaFc03

set_option linter.unusedVariables false

/- MergeAlike in the program. -/
namespace Go.Proofs.Ytchkjiadnackaaa
open Go.RowKit

/-- slices.IndexFunc over phrases, whatever the function value. -/
theorem idxPhs_any (f : Ph → Bool) (g : Nat) (lb : Array Value) (eg : ∀ args w, (callFunc g args).run Try.prog w = .ok (.enter g args) w) (A : Option Addr) (c : Nat) (l : List Ph) (w : World)
    (hf : ∀ (t : Ph) (p : Since w.heap.size w), IntsR p.val p.val.heap.size t.A t.f → Calls Try.prog g (#[t.val] ++ lb) p.val fun e w' => e = .returned (.bool (f t)) ∧ Below p.val.heap.size p.val w') (h : PhsR w w.heap.size A l) :
    Calls Try.prog 42 #[.slice A l.length c, .func (.func g) #[] lb] w fun e w' => e = .returned (.int .i64 (idxFrom f 0 l)) ∧ Below w.heap.size w w' := by
  have hl := h.slc.big
  have hrd := h.ph
  have hrf : Hid (∀ i (hi : i < l.length), IntsR w w.heap.size l[i].A l[i].f) := fun i hi => h.f hi
  have HF : Hid (idxFrom f 0 (l.drop 0) = idxFrom f 0 l) := rfl
  have HC := Lib.hid hf; clear hf
  go_enter Try.func42, Try.ntmps42
  go_wp2
  go_loopw [8] (fun i wr => ∃ (k : Nat), k ≤ l.length ∧ i = .int .i64 k ∧ (∃ q : Since w.heap.size w, wr = q.val) ∧ Hid (idxFrom f k (l.drop k) = idxFrom f 0 l)) (fun i _ => l.length - (intOf i).toNat)
  case atStart => exact ⟨0, Nat.zero_le _, rfl, ⟨Since.start _ _, rfl⟩, HF⟩
  case round =>
    obtain ⟨k, hk, rfl, ⟨q, rfl⟩, HR⟩ := hrel
    by_cases hlt : k < l.length
    · obtain ⟨b, off, rfl, hb, hcell⟩ := hrd (by omega)
      obtain ⟨c0, c1, c2, c3⟩ := hcell k hlt
      have hx : Hid (∀ p : Since w.heap.size w, IntsR p.val p.val.heap.size l[k].A l[k].f) := fun p => SlcR.up (hrf.out k hlt) p.below (Nat.le_refl _)
      have hy := fun hv => idx_yes (f := f) hlt hv
      have hn := fun hv => idx_no (f := f) hlt hv
      obtain ⟨x, hxe⟩ : ∃ x, x = l[k] := ⟨_, rfl⟩
      rw [← hxe] at c0 c1 c2 c3 hx hy hn
      clear hxe hcell hrd
      cases hv : f x
      · have HE : Hid (idxFrom f (k + 1) (l.drop (k + 1)) = idxFrom f 0 l) := by rw [← hn hv]; exact HR.out
        have hcx := fun p hp => HC.out x p hp
        rw [hv] at hcx
        clear hy hn hv
        go_wp2_with fail
        refine (calls_since (Nat.le_refl _) (hcx _ (hx.out _))).mono ?_
        rintro e w1 ⟨rfl, q1, rfl⟩
        go_wp2
        go_roundw
        case rel => exact ⟨k + 1, by omega, by go_num, ⟨q1, rfl⟩, HE⟩
        case measure => simp [intOf]; omega
      · have HE : Hid ((k : Int) = idxFrom f 0 l) := by rw [← hy hv]; exact HR.out
        have hcx := fun p hp => HC.out x p hp
        rw [hv] at hcx
        clear hy hn hv
        go_wp2_with fail
        refine (calls_since (Nat.le_refl _) (hcx _ (hx.out _))).mono ?_
        rintro e w1 ⟨rfl, q1, rfl⟩
        go_wp2
        go_ret
        exact ⟨by rw [← HE.out]; rfl, q1.below⟩
    · have HE : Hid (-1 = idxFrom f 0 l) := by
        have h1 := HR.out; rw [List.drop_eq_nil_of_le (by omega)] at h1; exact h1
      clear hrd
      go_wp2
      go_ret
      exact ⟨by rw [← HE.out]; rfl, q.below⟩

/-- The closure of MergeAlike. -/
theorem mergeFn_any (x p : Ph) (gp : Nat) (w : World) (hL : Lies w gp 42 p.enc) (hx : IntsR w w.heap.size x.A x.f) (hp : IntsR w w.heap.size p.A p.f) :
    Calls Try.prog 43 #[x.val, .pointer (some ⟨gp, 0, none⟩)] w fun e w' => e = .returned (.bool (Ph.alike p x)) ∧ Below w.heap.size w w' := by
  have b1 := (Below.refl w.heap.size w).alloc (Nat.le_refl _) (.cells #[.int .i64 x.s, .int .i64 x.c, .slice x.A x.f.length x.cap, .int .i64 x.p] 42)
  have hL1 := hL.alloc (.cells #[.int .i64 x.s, .int .i64 x.c, .slice x.A x.f.length x.cap, .int .i64 x.p] 42)
  have c0 := hL1.cell 0
  have c1 := hL1.cell 1
  have c2 := hL1.cell 2
  have c3 := hL1.cell 3
  simp only [Ph.enc, List.getElem?_cons_zero, List.getElem?_cons_succ] at c0 c1 c2 c3
  have hx1 := SlcR.up hx b1 (Nat.le_refl _)
  have hp1 := SlcR.up hp b1 (Nat.le_refl _)
  have hlt := hL.lt
  clear hL hL1
  go_enter Try.func43, Try.ntmps43
  go_wp2_with fail
  refine (alike_any p x _ hp1 hx1).mono ?_
  rintro e w1 ⟨rfl, hb1⟩
  go_wp2
  go_ret
  exact ⟨rfl, bthen b1 hb1⟩

/-- A row of phrases of the call's own, and whether there is one. -/
def GivesRow (w : World) (R : List PhD × Bool) (e : Ending) (w' : World) : Prop := ∃ A c m, e = .returned (.tuple #[.slice A m.length c, .bool R.2]) ∧ m.map Ph.ph = R.1 ∧ RowPh w' w.heap.size (.slice A m.length c) m ∧ Below w.heap.size w w'

theorem idx_ph (x : Ph) (m : List Ph) : idxFrom (fun t => Ph.alike x t) 0 m = idxFrom (alikeD x.ph) 0 (m.map Ph.ph) := by
  have : ∀ (m : List Ph) (k : Nat), idxFrom (fun t => Ph.alike x t) k m = idxFrom (alikeD x.ph) k (m.map Ph.ph) := by
    intro m
    induction m with
    | nil => intro k; rfl
    | cons y m ih => intro k; rw [List.map_cons, idxFrom, idxFrom, ih, Ph.alike_ph]
  exact this m 0
theorem mergeD_step {l : List PhD} {k : Nat} (h : k < l.length) : mergeD (l.take (k + 1)) = putD (mergeD (l.take k)) l[k] := by
  unfold mergeD; rw [List.take_succ_eq_append_getElem h, List.foldl_append]; rfl
theorem merge_apart (l : List PhD) : Apart (mergeD l) := by
  have : ∀ (l acc : List PhD), Apart acc → Apart (l.foldl putD acc) := by
    intro l
    induction l with
    | nil => intro acc h; exact h
    | cons x l ih => intro acc h; exact ih _ (h.put x)
  exact this l [] List.Pairwise.nil

set_option maxRecDepth 100000 in
set_option maxHeartbeats 4000000 in
theorem implMerge_any (A : Option Addr) (c : Nat) (l : List Ph) (w : World) (h : PhsR w w.heap.size A l) :
    Calls Try.prog 14 #[.slice A l.length c] w (GivesRow w (mergeA (l.map Ph.ph))) := by
  have hl := h.slc.big
  cases hg : goodPhs l
  · have HM : Hid (mergeA (l.map Ph.ph) = ([], false)) := by unfold mergeA Hid; rw [← good_goodD, hg]; rfl
    have HG := Lib.hid hg; clear hg
    go_enter Try.func14, Try.ntmps14
    go_wp2_with fail
    refine (arePhrases_any A c l _ h).mono ?_
    rw [HG.out]
    rintro e w1 ⟨rfl, hb1⟩
    go_wp2
    go_ret2
    rw [HM.out]
    exact ⟨none, 0, [], rfl, rfl, RowPh.nil _ _, hb1⟩
  · have hlen := good_len hg
    have HM : Hid (mergeA (l.map Ph.ph) = if goodD (mergeD (l.map Ph.ph)) = true then (mergeD (l.map Ph.ph), true) else ([], false)) := by unfold mergeA Hid; rw [← good_goodD, hg]; rfl
    have HB : Hid (∀ i (hi : i < l.length), (0 ≤ l[i].c ∧ l[i].c ≤ 99) ∧ l[i].f.length ≤ 9) := fun i hi => by
      obtain ⟨_, ⟨c1, c2⟩, hr, _⟩ := Ph.bounds (good_at hg hi)
      exact ⟨⟨by omega, c2⟩, faults9 hr⟩
    have HG := Lib.hid hg; clear hg
    have hrd := fun (W : World) (hW : PhsR W W.heap.size A l) => hW.ph
    go_enter Try.func14, Try.ntmps14
    go_wp2_with fail
    refine (arePhrases_any A c l _ h).mono ?_
    rw [HG.out]
    rintro e w1 ⟨rfl, hb1⟩
    have H1 := Lib.hid (h.then hb1)
    go_wp2
    have hw1 := hb1.size
    go_loopw [4, 6, 7, 13] (fun o _ _ i wr => ∃ (k : Nat) (A' : Option Addr) (c' : Nat) (m : List Ph), k ≤ l.length ∧ i = .int .i64 k ∧ o = .slice A' m.length c' ∧ m.length ≤ 10 ∧ (∃ q : Since w1.heap.size w1, wr = q.val) ∧ Hid (RowPh wr w1.heap.size (.slice A' m.length c') m) ∧ Hid (m.map Ph.ph = mergeD ((l.map Ph.ph).take k)) ∧ Hid (Slim k (m.map Ph.ph))) (fun _ _ _ i _ => l.length - (intOf i).toNat)
    case atStart => exact ⟨0, none, 0, [], Nat.zero_le _, rfl, rfl, by simp, ⟨Since.start _ _, rfl⟩, RowPh.nil _ _, rfl, ⟨by simp, by simp⟩⟩
    case round =>
      obtain ⟨k, A', c', m, hk, rfl, rfl, hm10, ⟨q, rfl⟩, HRow, HMap, HSl⟩ := hrel
      by_cases hlt : k < l.length
      · have hmf : ∀ (fn : Fn) (first cap : Array Value) (w : World), (Instr.makeFunc fn first cap).run Try.prog w = .ok (.func fn first cap) w := fun _ _ _ _ => rfl
        have hR0 := H1.out.then q.below
        obtain ⟨b, off, rfl, hb, hcell⟩ := hrd _ hR0 (by omega)
        obtain ⟨c0, c1, c2, c3⟩ := hcell k hlt
        have hxf : IntsR q.val q.val.heap.size l[k].A l[k].f := hR0.f hlt
        obtain ⟨⟨bc1, bc2⟩, bf⟩ := HB.out k hlt
        have HST : Hid (mergeD ((l.map Ph.ph).take (k + 1)) = putD (mergeD ((l.map Ph.ph).take k)) l[k].ph) := by
          rw [Hid, mergeD_step (by simpa using hlt)]; simp
        obtain ⟨x, hxe⟩ : ∃ x, x = l[k] := ⟨_, rfl⟩
        rw [← hxe] at c0 c1 c2 c3 hxf bc1 bc2 bf HST
        clear hxe hcell hrd hR0
        have k0 := c0 (Since.start _ _)
        have k1 := c1 (Since.start _ _)
        have k2 := c2 (Since.start _ _)
        have k3 := c3 (Since.start _ _)
        change q.val.cell? _ = _ at k0
        change q.val.cell? _ = _ at k1
        change q.val.cell? _ = _ at k2
        change q.val.cell? _ = _ at k3
        clear c0 c1 c2 c3
        have b2 := (Below.refl q.val.heap.size q.val).alloc (Nat.le_refl _) (.cells #[.int .i64 x.s, .int .i64 x.c, .slice x.A x.f.length x.cap, .int .i64 x.p] 42)
        have L2 := Lies.new q.val 42 #[.int .i64 x.s, .int .i64 x.c, .slice x.A x.f.length x.cap, .int .i64 x.p]
        have hxf2 := SlcR.up hxf b2 (Nat.le_refl _)
        have HR2 := Lib.hid (HRow.out.below b2)
        have IDX := idxPhs_any (fun t => Ph.alike x t) 43 #[.pointer (some ⟨q.val.heap.size, 0, none⟩)] Try.call43 A' c' m _ (fun t p ht => mergeFn_any t x q.val.heap.size p.val (L2.below p.below L2.lt) ht (SlcR.up hxf2 p.below (Nat.le_refl _))) (HRow.out.below b2).reads
        rw [idx_ph, HMap.out] at IDX
        have hqs := q.size
        rcases idx_spec (f := alikeD x.ph) (mergeD ((l.map Ph.ph).take k)) 0 with ⟨h1, _⟩ | ⟨i, hi, h1, _⟩
        · rw [h1] at IDX
          have HP : Hid (putD (mergeD ((l.map Ph.ph).take k)) x.ph = mergeD ((l.map Ph.ph).take k) ++ [x.ph]) := putD_new (by omega)
          clear h1
          have HIDX := Lib.hid IDX; clear IDX
          go_wp2_with fail
          generalize q.val.alloc (.cells #[.int .i64 x.s, .int .i64 x.c, .slice x.A x.f.length x.cap, .int .i64 x.p] 42) = W2 at b2 L2 hxf2 HR2 HIDX ⊢
          refine HIDX.out.mono ?_
          rintro e w3 ⟨rfl, hb3⟩
          have L3 := L2.below hb3 L2.lt
          have hxf3 := SlcR.up hxf2 hb3 (Nat.le_refl _)
          have j0 := L3.cell 0
          have j1 := L3.cell 1
          have j2 := L3.cell 2
          have j3 := L3.cell 3
          simp only [List.getElem?_cons_zero, List.getElem?_cons_succ] at j0 j1 j2 j3
          clear k0 k1 k2 k3
          go_wp2_with fail
          refine (copyPhrase_any x _ hxf3 (by omega)).mono ?_
          rintro e w4 ⟨A4, c4, rfl, hO4, hb4⟩
          have hb14 := bthen (bthen b2 hb3) hb4
          have HO4 := Lib.hid (hO4.lower (bthen b2 hb3).size); clear hO4
          have HROW := Lib.hid (ownsRow_below HRow.out.row hb14)
          have hsz4 : w1.heap.size ≤ w4.heap.size := Nat.le_trans hqs hb14.size
          clear j0 j1 j2 j3
          go_wp2_with (at_builtin; refine wpList_push (w0 := w4) rfl _ _ 24 rfl 42 _ 4 48 Try.underlying24 infoPh rfl (by omega) (by omega) w1.heap.size _ _ _ rfl HROW #[.int .i64 x.s, .int .i64 x.c, .slice A4 x.f.length c4, .int .i64 x.p] 1 _ rfl (by first | rfl | exact Array.size_push _) rfl (by simp [Value.oneCell']) (by omega) hsz4 rfl rfl rfl rfl ?_; intro v' w5 HO5 hg5 hb5)
          have HNEW := Lib.hid (RowPh.push (x := { x with A := A4, cap := c4 }) HRow.out hb14 HO4.out hqs HO5.out hg5)
          obtain ⟨A5, c5, hv5⟩ := ownsRow_slice HO5.out
          subst hv5
          go_roundw
          case rel =>
            have hml : m.length ≤ k := by have := HSl.out.1; simpa using this
            refine ⟨k + 1, A5, c5, m ++ [{ x with A := A4, cap := c4 }], by omega, by go_num, by simp, by simp; omega, ⟨(q.go (Nat.le_refl _) hb14).go' hb5, rfl⟩, by rw [Hid]; simpa using HNEW.out, ?_, ?_⟩
            · rw [Hid, HST.out, HP.out, ← HMap.out]; simp [Ph.ph]
            · have h2 := HSl.out.put (p := x.ph) ⟨bc1, bc2⟩ bf
              rw [HMap.out, HP.out, ← HMap.out] at h2
              rw [Hid]; simpa [Ph.ph] using h2
          case measure => simp [intOf]; omega
        · rw [h1, Nat.zero_add] at IDX
          have HP : Hid (putD (mergeD ((l.map Ph.ph).take k)) x.ph = addAt x.c i (mergeD ((l.map Ph.ph).take k))) := putD_old (by simpa using h1)
          clear h1
          have hi' : i < m.length := by have h2 := congrArg List.length HMap.out; simp at h2; omega
          have HIDX := Lib.hid IDX; clear IDX
          go_wp2_with fail
          generalize q.val.alloc (.cells #[.int .i64 x.s, .int .i64 x.c, .slice x.A x.f.length x.cap, .int .i64 x.p] 42) = W2 at b2 L2 hxf2 HR2 HIDX ⊢
          refine HIDX.out.mono ?_
          rintro e w3 ⟨rfl, hb3⟩
          have L3 := L2.below hb3 L2.lt
          have j1 := L3.cell 1
          simp only [List.getElem?_cons_zero, List.getElem?_cons_succ] at j1
          have HR3 := Lib.hid (HR2.out.below hb3)
          obtain ⟨g5, rfl⟩ : ∃ g, A' = some ⟨g, 0, none⟩ := by
            obtain ⟨_, h0 | ⟨g, cap, cur, hv, _⟩⟩ := HR3.out.row
            · have := h0.2; omega
            · injection hv with e1 e2 e3; exact ⟨g, e1⟩
          have hmb : Hid (0 ≤ m[i].c ∧ m[i].c ≤ 99 * (k : Int)) := by
            have h2 := HSl.out.2 m[i].ph (List.mem_map.2 ⟨m[i], List.getElem_mem hi', rfl⟩)
            exact ⟨h2.1, h2.2.1⟩
          have d1 : w3.cell? ⟨g5, i * 4 + 1, none⟩ = some (.int .i64 m[i].c) := by
            rw [HR3.out.row.cellAt _ (by omega), flat_at Ph.enc 4 Ph.enc_len m i hi' 1 (by omega)]; rfl
          have f1 : w3.frozen? ⟨g5, i * 4 + 1, none⟩ = false := HR3.out.row.frozenAt _
          have HBUMP : Hid (∀ c : Int, RowPh (w3.setCell ⟨g5, i * 4 + 1, none⟩ (.int .i64 c)) w1.heap.size (.slice (some ⟨g5, 0, none⟩) m.length c') (setC i c m)) := fun c => HR3.out.bump hi'
          have HPHC : Hid (∀ c : Int, (setC i c m).map Ph.ph = (m.map Ph.ph).take i ++ (m[i].s, c, m[i].f, m[i].p) :: (m.map Ph.ph).drop (i + 1)) := fun c => setC_ph hi'
          have HADD : Hid (addAt x.c i (m.map Ph.ph) = (m.map Ph.ph).take i ++ (m[i].s, m[i].c + x.c, m[i].f, m[i].p) :: (m.map Ph.ph).drop (i + 1)) := by
            rw [Hid, addAt_split i _ (by simpa using hi')]; simp [Ph.ph]
          have hg5 : w1.heap.size ≤ g5 := (HR3.out.row.lt g5 rfl).1
          obtain ⟨mc, hmc⟩ : ∃ mc, mc = m[i].c := ⟨_, rfl⟩
          rw [← hmc] at hmb d1 HADD
          clear hmc k0 k1 k2 k3
          have hmb1 := hmb.out.1
          have hmb2 := hmb.out.2
          have hb13 := bthen b2 hb3
          have hk10 : (k : Int) ≤ 10 := by omega
          have hi1 : (0 : Int) ≤ (i : Int) := by omega
          have hi2 : (i : Int) < (m.length : Int) := by omega
          go_wp2_with fail
          go_still_tail 10, (by kernel_rfl)
          go_wp2
          go_roundw
          case rel =>
            refine ⟨k + 1, some ⟨g5, 0, none⟩, c', setC i (mc + x.c) m, by omega, by go_num, by rw [setC_len], by rw [setC_len]; omega, ⟨(q.go (Nat.le_refl _) hb13).go' (((Below.refl _ _).setCell (p := ⟨g5, i * 4 + 1, none⟩) (by simpa using hg5) _).drew), rfl⟩, ?_, ?_, ?_⟩
            · rw [Hid, setC_len]; exact (HBUMP.out (mc + x.c)).below (Below.refl _ _).drew
            · rw [Hid, HPHC.out, HST.out, HP.out, ← HMap.out, HADD.out]
            · have h2 := HSl.out.put (p := x.ph) ⟨bc1, bc2⟩ bf
              rw [HMap.out, HP.out, ← HMap.out, HADD.out] at h2
              rw [Hid, HPHC.out]; exact h2
          case measure => simp [intOf]; omega
      · have HK : Hid (m.map Ph.ph = mergeD (l.map Ph.ph)) := by
          have h1 := HMap.out; rw [List.take_of_length_le (by simp; omega)] at h1; exact h1
        have hgm : Hid (goodPhs m = goodD (mergeD (l.map Ph.ph))) := by rw [Hid, good_goodD, HK.out]
        clear hrd
        cases hgd : goodD (mergeD (l.map Ph.ph))
        · rw [hgd] at hgm HM
          go_wp2_with fail
          refine (arePhrases_any A' c' m _ (HRow.out.reads)).mono ?_
          rw [hgm.out]
          rintro e w2 ⟨rfl, hb2⟩
          go_wp2
          go_ret2
          rw [HM.out]
          exact ⟨none, 0, [], rfl, rfl, RowPh.nil _ _, bthen hb1 (q.go (Nat.le_refl _) hb2).below⟩
        · rw [hgd] at hgm HM
          go_wp2_with fail
          refine (arePhrases_any A' c' m _ (HRow.out.reads)).mono ?_
          rw [hgm.out]
          rintro e w2 ⟨rfl, hb2⟩
          go_wp2
          go_ret2
          rw [HM.out]
          exact ⟨A', c', m, rfl, HK.out, (HRow.out.below hb2).lower hw1, bthen hb1 (q.go (Nat.le_refl _) hb2).below⟩
end Go.Proofs.Ytchkjiadnackaaa

/- Operations of a drawn region: slicing a slice; appending to a row of the call's own (no program in sight). -/
namespace Go.Proofs.Ytchkjiadnackaaa
open Go.RowKit

section
variable {P : Program} {ops : Array Oper} {tm : Array Value} {o : Oper} {a : Act} {w : World} {K : Act → World → Prop} {Q : Exit → Act → World → Prop} {E : Prop}
theorem elem_of {t e : TypeId} (ht : P.underlying t = some (.slice e)) : P.underlying t = some (.slice (P.elem t)) ∧ P.elem t = e := by
  have : P.elem t = e := by simp [Program.elem, ht]
  exact ⟨by rw [this]; exact ht, this⟩
theorem SlcR.take {B k n : Nat} {A : Option Addr} {cs : List Value} (h : SlcR w B k A n cs) (i : Nat) (hi : i ≤ n) : SlcR w B k A i (cs.take (i * k)) := by
  have hm : i * k ≤ n * k := Nat.mul_le_mul_right k hi
  refine ⟨by rw [List.length_take, h.len]; omega, by have := h.big; omega, fun h0 => ?_⟩
  obtain ⟨b, off, e, hb, hc⟩ := h.at_ (by omega)
  exact ⟨b, off, e, hb, fun j u hu => hc j u (by rw [List.getElem?_take] at hu; split at hu; exact hu; cases hu)⟩
theorem SlcR.drop {B k n : Nat} {A A' : Option Addr} {cs : List Value} (h : SlcR w B k A n cs) (i : Nat) (hi : i ≤ n) (hA : i < n → A' = A.map fun p => p.add (i * k)) : SlcR w B k A' (n - i) (cs.drop (i * k)) := by
  refine ⟨by rw [List.length_drop, h.len, Nat.sub_mul], by have := h.big; omega, fun h0 => ?_⟩
  obtain ⟨b, off, e, hb, hc⟩ := h.at_ (by omega)
  refine ⟨b, off + i * k, ?_, hb, fun j u hu => ?_⟩
  · rw [hA (by omega), e]; simp only [Option.map_some, addr_add]
  · rw [List.getElem?_drop] at hu
    have := hc _ u hu
    rwa [Nat.add_assoc]
theorem info_size {e : TypeId} {s : Nat} (hs : (P.info? e).map (·.size) = some s) : ∃ inf, P.info? e = some inf ∧ inf.size = s := by
  cases hq : P.info? e with
  | none => simp [hq] at hs
  | some inf => exact ⟨inf, rfl, by simpa [hq] using hs⟩
theorem map_add0 (A : Option Addr) : A.map (fun p => p.add 0) = A := by cases A <;> simp [Addr.add]
theorem run_sliceTo {t e : TypeId} (ht : P.underlying t = some (.slice e)) {s : Nat} (hs : (P.info? e).map (·.size) = some s) (A : Option Addr) (n c i : Nat) (hi : i ≤ n) (hc : n ≤ c) (w : World) :
    (Instr.slice t (.slice A n c) none (some (.int .i64 (i : Int))) none).run P w = .ok (.slice A i c) w := by
  obtain ⟨h1, h2⟩ := elem_of ht
  obtain ⟨inf, hin, hsz⟩ := info_size hs
  rw [run_slice_h (P := P) (w := w) t A n c h1 .i64 (i : Int) (by omega) (by omega), h2]
  simp [sizeOf, typeInfo, hin, sliced, map_add0]
theorem run_sliceFrom {t e : TypeId} (ht : P.underlying t = some (.slice e)) {s : Nat} (hs : (P.info? e).map (·.size) = some s) (A : Option Addr) (n c i : Nat) (hi : i ≤ n) (w : World) :
    (Instr.slice t (.slice A n c) (some (.int .i64 (i : Int))) none none).run P w = .ok (.slice (if c = i then A else A.map (fun p => p.add (i * s))) (n - i) (c - i)) w := by
  obtain ⟨h1, h2⟩ := elem_of ht
  obtain ⟨inf, hin, hsz⟩ := info_size hs
  rw [run_slice_l (P := P) (w := w) t A n c h1 .i64 (i : Int) (by omega) (by omega), h2]
  simp [sizeOf, typeInfo, hin, sliced, hsz]
/-- 'xs[:i]'. -/
theorem step_sliceTo (hg : o.guard = none) (t e : TypeId) (x y : Operand) (ho : o.op = .slice t x none (some y) none) (ht : P.underlying t = some (.slice e)) (s : Nat) (hs : (P.info? e).map (·.size) = some s)
    (A : Option Addr) (n c i : Nat) (hx : a.eval x = .slice A n c) (hy : a.eval y = .int .i64 (i : Int)) (hi : i ≤ n) (hc : n ≤ c)
    (h : K (a.put o.dst (.slice A i c)) w) : if Region.wanted o (yielded ops tm) = true then o.wp P a w K Q else E := by
  have hw : ∀ tm : Array Value, Region.wanted o (yielded ops tm) = true := fun tm => by simp [Region.wanted, hg]
  rw [if_pos (hw _)]
  unfold Oper.wp execOp
  simp only [ho, hx, Option.map_some, Option.map_none, hy, run_sliceAt_slice (P := P) (w := w) t _ _ _ _ (elem_of ht).1, run_sliceTo ht hs A n c i hi hc w, Sem.run_bind, Sem.run_pure, Result.andThen_ok]
  exact h
/-- 'xs[i:]'. -/
theorem step_sliceFrom (hg : o.guard = none) (t e : TypeId) (x y : Operand) (ho : o.op = .slice t x (some y) none none) (ht : P.underlying t = some (.slice e)) (s : Nat) (hs : (P.info? e).map (·.size) = some s)
    (A : Option Addr) (n c i : Nat) (hx : a.eval x = .slice A n c) (hy : a.eval y = .int .i64 (i : Int)) (hi : i ≤ n) (hc : n ≤ c)
    (h : ∀ A', (∀ (W : World) (B : Nat) (cs : List Value), SlcR W B s A n cs → SlcR W B s A' (n - i) (cs.drop (i * s))) → K (a.put o.dst (.slice A' (n - i) (c - i))) w) : if Region.wanted o (yielded ops tm) = true then o.wp P a w K Q else E := by
  have hw : ∀ tm : Array Value, Region.wanted o (yielded ops tm) = true := fun tm => by simp [Region.wanted, hg]
  rw [if_pos (hw _)]
  unfold Oper.wp execOp
  simp only [ho, hx, Option.map_some, Option.map_none, hy, run_sliceAt_slice (P := P) (w := w) t _ _ _ _ (elem_of ht).1, run_sliceFrom ht hs A n c i hi w, Sem.run_bind, Sem.run_pure, Result.andThen_ok]
  exact h _ fun W B cs hr => hr.drop i hi fun hlt => by rw [if_neg (by omega)]
/-- 'append(s, xs...)', s the call's own. -/
theorem step_cat (hg : o.guard = none) (s x : Operand) (t : TypeId) (ho : o.op = .call { callee := .builtin .append, args := #[s, x], argTypes := #[t, t] })
    (e : TypeId) (z : Value) (k bytes : Nat) (ht : P.underlying t = some (.slice e)) (hinfo : (P.info? e).map (fun i => (i.zero, i.size, i.bytes)) = some (some z, k, bytes)) (hzs : z.cells.size = k) (hsz : 0 < k) (hby : bytes ≤ 1000)
    (B : Nat) (v : Value) (n : Nat) (xs : List Value) (hs : a.eval s = v) (hown : w.ownsRow B e k v n xs)
    (S : Nat) (A : Option Addr) (m c : Nat) (cs : List Value) (hx : a.eval x = .slice A m c) (hr : SlcR w S k A m cs) (h1 : ∀ u ∈ cs, u.oneCell' = true)
    (hn : n + m ≤ 1000000000) (hbase : B ≤ w.heap.size)
    (h : ∀ A' c' w', w'.ownsRow B e k (.slice A' (n + m) c') (n + m) (xs ++ cs) → w.grownBy w' v.ownBlock → Below B w w' → K (a.put o.dst (.slice A' (n + m) c')) w') : if Region.wanted o (yielded ops tm) = true then o.wp P a w K Q else E := by
  have hw : ∀ tm : Array Value, Region.wanted o (yielded ops tm) = true := fun tm => by simp [Region.wanted, hg]
  rw [if_pos (hw _)]
  refine wp_cat s x t ho e z k bytes ht hinfo hzs hsz hby B v n xs hs (Lib.hid hown) S A m c cs hx (Lib.hid hr) h1 hn hbase fun v' w' h2 h3 h4 _ => ?_
  obtain ⟨A', c', rfl⟩ := ownsRow_slice h2.out
  exact h A' c' w' h2.out h3 h4
theorem ownsRow_cap {B k n : Nat} {e : TypeId} {A : Option Addr} {c : Nat} {xs : List Value} (h : w.ownsRow B e k (.slice A n c) n xs) : n ≤ c := by
  obtain ⟨_, ⟨h0, h1⟩ | ⟨g, cap, cur, hv, _, _, hc, _⟩⟩ := h
  · injection h0 with _ h2 h3; omega
  · injection hv with _ _ h3; omega
end
end Go.Proofs.Ytchkjiadnackaaa

/- The facts law, in which a slot of an operation that has not come yet still reads as at the start. (Printed by gen_factsu.py) -/
namespace Go.Proofs.Ytchkjiadnackaaa
open Go.RowKit

section
variable {P : Program} {ops : Array Oper} {Q : Exit → Act → World → Prop}
/-- What the slots of a region's operations hold at its start. -/
def slots0 (l : List Oper) (a : Act) (i : Nat) : Value := match (l[i]?).bind (·.dst) with | some t => a.tmps.getD t undef | none => undef
def GoneV (ops : Array Oper) (L : Nat → Bool) (k : Nat) (vs v0 : Nat → Value) : Prop := Gone ops L k ∧ ∀ j, L j = false → vs j = v0 j
theorem GoneV.old {L : Nat → Bool} {k : Nat} {vs v0 : Nat → Value} (h : GoneV ops L k vs v0) (j : Nat) (ha : ahead .any ops ops.size j k = true) : vs j = v0 j := h.2 j (h.1.open_ j ha)
/-- The walk: a fact R on each operation's value; the facts of those that come ahead are at hand. -/
def wpFactsU (P : Program) (ops : Array Oper) (Q : Exit → Act → World → Prop) (C : (Nat → Bool) → World → Prop) (T : Nat → World → World → Prop) (fr : (Nat → Value) → Act) (v0 : Nat → Value) : Nat → List Oper → List FactN → Prop
  | _, [], Rs => ∀ vs L w, (∀ j, j < ops.size → L j = true) → C L w → (∀ (j : Nat) (R : FactN), R.Br = [] → Rs[j]? = some R → R.at vs j w) → Q .normal (fr vs) w
  | k, o :: l, Rs => ∃ R : FactN, R.fine ops k ∧ R.firm ops T k ∧
    (∀ vs L w, GoneV ops L k vs v0 → C L w → (∀ (j : Nat) (R' : FactN), ahead .any ops ops.size k j = true → R'.live ops k = true → Rs[j]? = some R' → R'.at vs j w) → ∀ K : Act → World → Prop, (∀ a' v w', a' = (fr vs).put o.dst v → R.R (vs R.D) v w' → C (Listed.but L k) w' → T k w w' → K a' w') →
      if Region.wanted o (yielded ops (fr vs).tmps) = true then o.wp P (fr vs) w K Q else K ((fr vs).put o.dst undef) w) ∧
    wpFactsU P ops Q C T fr v0 (k + 1) l (Rs ++ [R])

/-- What the walk gives: the facts, one for each operation. -/
theorem wpFactsU_all {C : (Nat → Bool) → World → Prop} {T : Nat → World → World → Prop} {fr : (Nat → Value) → Act} {v0 : Nat → Value} : ∀ (l : List Oper) (k : Nat) (Rs : List FactN), (∀ i, l[i]? = ops[k + i]?) → Rs.length = k →
    (∀ (j : Nat) (R : FactN), Rs[j]? = some R → R.fine ops j ∧ R.firm ops T j) →
    (∀ (j : Nat) (o : Oper) (R : FactN), j < k → ops[j]? = some o → Rs[j]? = some R → ∀ vs L w, GoneV ops L j vs v0 → C L w → (∀ (j' : Nat) (R' : FactN), ahead .any ops ops.size j j' = true → R'.live ops j = true → j' < j → Rs[j']? = some R' → R'.at vs j' w) → ∀ K : Act → World → Prop, (∀ a' v w', a' = (fr vs).put o.dst v → R.R (vs R.D) v w' → C (Listed.but L j) w' → T j w w' → K a' w') →
      if Region.wanted o (yielded ops (fr vs).tmps) = true then o.wp P (fr vs) w K Q else K ((fr vs).put o.dst undef) w) →
    wpFactsU P ops Q C T fr v0 k l Rs →
    ∃ Rs' : List FactN, Rs'.length = k + l.length ∧ (∀ (j : Nat) (R : FactN), Rs'[j]? = some R → R.fine ops j ∧ R.firm ops T j) ∧
    (∀ (j : Nat) (o : Oper) (R : FactN), ops[j]? = some o → Rs'[j]? = some R → ∀ vs L w, GoneV ops L j vs v0 → C L w → (∀ (j' : Nat) (R' : FactN), ahead .any ops ops.size j j' = true → R'.live ops j = true → j' < j → Rs'[j']? = some R' → R'.at vs j' w) → ∀ K : Act → World → Prop, (∀ a' v w', a' = (fr vs).put o.dst v → R.R (vs R.D) v w' → C (Listed.but L j) w' → T j w w' → K a' w') →
      if Region.wanted o (yielded ops (fr vs).tmps) = true then o.wp P (fr vs) w K Q else K ((fr vs).put o.dst undef) w) ∧
    (∀ vs L w, (∀ j, j < ops.size → L j = true) → C L w → (∀ (j : Nat) (R : FactN), R.Br = [] → Rs'[j]? = some R → R.at vs j w) → Q .normal (fr vs) w)
  | [], k, Rs, hl, hlen, hst, hop, h => by
    refine ⟨Rs, by simpa using hlen, hst, fun j o R ho hR => hop j o R ?_ ho hR, h⟩
    rw [← hlen]; exact (List.getElem?_eq_some_iff.1 hR).1
  | o :: l, k, Rs, hl, hlen, hst, hop, h => by
    obtain ⟨R, hRf, hRs, hRo, hrest⟩ := h
    have ho : ops[k]? = some o := by simpa using (hl 0).symm
    have hold : ∀ j, j < k → (Rs ++ [R])[j]? = Rs[j]? := fun j hj => List.getElem?_append_left (by omega)
    have hnew : (Rs ++ [R])[k]? = some R := by rw [List.getElem?_append_right (by omega), hlen]; simp
    obtain ⟨Rs', h1, h2, h3, h4⟩ := wpFactsU_all l (k + 1) (Rs ++ [R]) (fun i => by have := hl (i + 1); simpa [Nat.add_assoc, Nat.add_comm 1 i] using this) (by simp [hlen])
      (fun j R' hR' => by
        rcases Nat.lt_trichotomy j k with hj | hj | hj
        · rw [hold j hj] at hR'; exact hst j R' hR'
        · subst hj; rw [hnew] at hR'; cases hR'; exact ⟨hRf, hRs⟩
        · rw [List.getElem?_eq_none (by simp [hlen]; omega)] at hR'; cases hR')
      (fun j o' R' hj ho' hR' vs L w hG hC hB K hK => by
        rcases Nat.lt_or_ge j k with hjk | hjk
        · rw [hold j hjk] at hR'
          exact hop j o' R' hjk ho' hR' vs L w hG hC (fun j' R'' ha hv hlt h'' => hB j' R'' ha hv hlt (by rw [hold j' (by omega)]; exact h'')) K hK
        · obtain rfl : j = k := by omega
          rw [ho] at ho'; cases ho'
          rw [hnew] at hR'; cases hR'
          refine hRo vs L w hG hC (fun j' R'' ha hv h'' => ?_) K hK
          have hlt : j' < Rs.length := (List.getElem?_eq_some_iff.1 h'').1
          exact hB j' R'' ha hv (by omega) (by rw [hold j' (by omega)]; exact h''))
      hrest
    exact ⟨Rs', by rw [h1]; simp; omega, h2, h3, h4⟩

theorem wpAny_factsU {C : (Nat → Bool) → World → Prop} {T : Nat → World → World → Prop} {a₀ : Act} {v0 : Nat → Value} (hap : dstsApart ops.toList = true) (hdn : edgesDown .any ops = true) (Rs : List FactN) (hlen : Rs.length = ops.size)
    (hst : ∀ (j : Nat) (R : FactN), Rs[j]? = some R → R.fine ops j ∧ R.firm ops T j)
    (hop : ∀ (j : Nat) (o : Oper) (R : FactN), ops[j]? = some o → Rs[j]? = some R → ∀ vs L w, GoneV ops L j vs v0 → C L w → (∀ (j' : Nat) (R' : FactN), ahead .any ops ops.size j j' = true → R'.live ops j = true → j' < j → Rs[j']? = some R' → R'.at vs j' w) → ∀ K : Act → World → Prop, (∀ a' v w', a' = (fillOps vs ops.toList 0 a₀).put o.dst v → R.R (vs R.D) v w' → C (Listed.but L j) w' → T j w w' → K a' w') →
      if Region.wanted o (yielded ops (fillOps vs ops.toList 0 a₀).tmps) = true then o.wp P (fillOps vs ops.toList 0 a₀) w K Q else K ((fillOps vs ops.toList 0 a₀).put o.dst undef) w)
    (hend : ∀ vs L w, (∀ j, j < ops.size → L j = true) → C L w → (∀ (j : Nat) (R : FactN), R.Br = [] → Rs[j]? = some R → R.at vs j w) → Q .normal (fillOps vs ops.toList 0 a₀) w) :
    ∀ (fuel : Nat) (listed : Array Bool) (vs : Nat → Value) (w : World), listed.size = ops.size → unlisted ops.size listed ≤ fuel → Closed .any ops listed → (∀ j, listed.getD j false = false → vs j = v0 j) → C (fun j => listed.getD j false) w → (∀ (j : Nat) (R : FactN), listed.getD j false = true → (∀ i ∈ R.Br, listed.getD i false = false) → Rs[j]? = some R → R.at vs j w) →
      wpAny P .any ops Q fuel listed (fillOps vs ops.toList 0 a₀) w := by
  have hfin : ∀ (listed : Array Bool) (vs : Nat → Value) (w : World), listed.size = ops.size → C (fun j => listed.getD j false) w → (∀ (j : Nat) (R : FactN), listed.getD j false = true → (∀ i ∈ R.Br, listed.getD i false = false) → Rs[j]? = some R → R.at vs j w) → Region.ready .any ops listed = [] → Q .normal (fillOps vs ops.toList 0 a₀) w :=
    fun listed vs w hs hC hR hr => hend vs _ w (fun j hj => listed_ready hdn hs hr j hj) hC fun j R hbr hj => hR j R (listed_ready hdn hs hr j (by rw [← hlen]; exact (List.getElem?_eq_some_iff.1 hj).1)) (by rw [hbr]; intro i hi; cases hi) hj
  intro fuel
  induction fuel with
  | zero =>
    intro listed vs w hs hu hcl hV hC hR
    have hr : Region.ready .any ops listed = [] := by
      rw [List.eq_nil_iff_forall_not_mem]
      intro j hj
      obtain ⟨h0, o, ho, _⟩ := mem_ready.1 hj
      have hjs : j < ops.size := (Array.getElem?_eq_some_iff.1 ho).1
      have : unlisted ops.size (listed.setIfInBounds j true) < unlisted ops.size listed := unlisted_set hjs hs (by
        have : j < listed.size := by omega
        simp only [Array.getD, this, ↓reduceDIte] at h0 ⊢; exact h0)
      omega
    exact ⟨hr, hfin listed vs w hs hC hR hr⟩
  | succ fuel ih =>
    intro listed vs w hs hu hcl hV hC hR
    refine ⟨hfin listed vs w hs hC hR, fun i hi => ?_⟩
    obtain ⟨h0, o, ho, hall⟩ := mem_ready.1 hi
    have hisz : i < ops.size := (Array.getElem?_eq_some_iff.1 ho).1
    have hil : i < listed.size := by omega
    have h0' : listed.getD i false = false := by simp only [Array.getD, hil, ↓reduceDIte] at h0 ⊢; exact h0
    obtain ⟨R, hRi⟩ : ∃ R, Rs[i]? = some R := ⟨Rs[i]'(by omega), List.getElem?_eq_getElem (by omega)⟩
    have hclo : ∀ j, ahead .any ops ops.size i j = true → listed.getD j false = true := fun j ha => ahead_listed hcl ops.size i j (fun o' ho' => by rw [ho] at ho'; cases ho'; exact hall) ha
    have hopn : ∀ j, ahead .any ops ops.size j i = true → listed.getD j false = false := fun j ha => by
      rcases hq : listed.getD j false with _ | _
      · rfl
      · have hl := ahead_listed hcl ops.size j i (fun o' ho' => hcl j o' ho' hq) ha
        rw [h0'] at hl; cases hl
    have hstep := hop i o R ho hRi vs (fun j => listed.getD j false) w ⟨⟨h0', hclo, hopn⟩, hV⟩ hC (fun j' R' ha hv _ hR' => hR j' R' (ahead_listed hcl ops.size i j' (fun o' ho' => by rw [ho] at ho'; cases ho'; exact hall) ha) (fun i' hi' => by
        have hv' := List.all_eq_true.1 hv i' hi'
        simp only [Bool.or_eq_true, beq_iff_eq] at hv'
        rcases hv' with rfl | hv'
        · exact h0'
        · rcases hq : listed.getD i' false with _ | _
          · rfl
          · have hl := ahead_listed hcl ops.size i' i (fun o' ho' => hcl i' o' ho' hq) hv'
            rw [h0'] at hl; cases hl) hR')
      (wpAny P .any ops Q fuel (listed.setIfInBounds i true)) (fun a' v w' ha hRv hC' hT => by
        rw [ha, fillOps_upd ops.toList 0 a₀ vs i o v hap (by simpa using ho), Nat.zero_add]
        have hC9 : C (fun j => (listed.setIfInBounds i true).getD j false) w' := by
          have e : (fun j => (listed.setIfInBounds i true).getD j false) = Listed.but (fun j => listed.getD j false) i := by
            funext j
            unfold Listed.but
            by_cases e : j = i
            · subst e; rw [if_pos rfl]; exact getD_set_self hil
            · rw [if_neg e]; exact getD_set_ne false (Ne.symm e)
          rw [e]; exact hC'
        refine ih _ _ _ (by simpa using hs) ?_ ?_ ?_ hC9 ?_
        · have := unlisted_set hisz hs h0'; omega
        · intro j oj hoj hj e he hb
          by_cases hji : j = i
          · subst hji; rw [ho] at hoj; cases hoj; exact getD_set_true (hall e he hb)
          · rw [getD_set_ne false (Ne.symm hji)] at hj; exact getD_set_true (hcl j oj hoj hj e he hb)
        · intro j hj
          by_cases hji : j = i
          · subst hji; rw [getD_set_self hil] at hj; cases hj
          · rw [getD_set_ne false (Ne.symm hji)] at hj
            rw [show upd vs i v j = vs j from by unfold upd; rw [if_neg hji]]; exact hV j hj
        · intro j R' hj hbr hR'
          have key : ∀ (u' : Value), R'.R (vs R'.D) u' w' → R'.R (upd vs i v R'.D) u' w' := fun u' h => by
            by_cases hDi : R'.D = i
            · rcases (hst j R' hR').1 with hf | ha
              · exact hf _ _ _ _ h
              · exfalso
                have hl : listed.getD R'.D false = true := by
                  by_cases hji : j = i
                  · subst hji; exact ahead_listed hcl ops.size j _ (fun o' ho' => by rw [ho] at ho'; cases ho'; exact hall) ha
                  · rw [getD_set_ne false (Ne.symm hji)] at hj
                    exact ahead_listed hcl ops.size j _ (fun o' ho' => hcl j o' ho' hj) ha
                rw [hDi, h0'] at hl; cases hl
            · have : upd vs i v R'.D = vs R'.D := by unfold upd; rw [if_neg hDi]
              rw [this]; exact h
          unfold FactN.at
          by_cases hji : j = i
          · subst hji; rw [hRi] at hR'; cases hR'
            have : upd vs j v j = v := by unfold upd; rw [if_pos rfl]
            rw [this]
            exact key v hRv
          · rw [getD_set_ne false (Ne.symm hji)] at hj
            have hai : ahead .any ops ops.size j i = false := by
              rcases hq : ahead .any ops ops.size j i with _ | _
              · rfl
              · have hl := ahead_listed hcl ops.size j i (fun o' ho' => hcl j o' ho' hj) hq
                rw [h0'] at hl; cases hl
            have hib : i ∉ R'.Br := fun hm => by have h1 := hbr i hm; rw [getD_set_self hil] at h1; cases h1
            have hbr' : ∀ i' ∈ R'.Br, listed.getD i' false = false := fun i' hm => by
              have h1 := hbr i' hm
              by_cases e : i' = i
              · subst e; exact absurd hm hib
              · rwa [getD_set_ne false (Ne.symm e)] at h1
            have h3 := (hst j R' hR').2 i (Ne.symm hji) hib hai _ _ _ _ (hR j R' hj hbr' hR') hT
            have : upd vs i v j = vs j := by unfold upd; rw [if_neg hji]
            rw [this]
            refine key _ ?_
            exact h3)
    unfold wpOp
    simp only [ho]
    split
    · rename_i hw; rw [if_pos hw] at hstep; exact .inl hstep
    · rename_i hw; rw [if_neg hw] at hstep; exact hstep

/-- The region. -/
theorem wp_region_factsU {id : Nat} {a : Act} {w : World} {l : List Oper} (C : (Nat → Bool) → World → Prop) (T : Nat → World → World → Prop) (hm : P.follows .mixedOrders = true) (hap : dstsApart l = true) (hdn : edgesDown .any l.toArray = true)
    (hC : C (fun _ => false) w.drew) (h : wpFactsU P l.toArray Q C T (fun vs => fillOps vs l 0 a) (slots0 l a) 0 l []) : (Code.region id l.toArray true).wp P Q a w := by
  refine wp_region_any hm ?_
  obtain ⟨Rs, h1, h2, h3, h4⟩ := wpFactsU_all (ops := l.toArray) l 0 [] (by simp) rfl (by simp) (by simp) h
  have hvs : ∀ i o t, l[i]? = some o → o.dst = some t → slots0 l a (0 + i) = a.tmps.getD t undef := fun i o t hi ht => by simp [slots0, hi, ht]
  have := wpAny_factsU (P := P) (Q := Q) (ops := l.toArray) (C := C) (T := T) (a₀ := a) (v0 := slots0 l a) hap hdn Rs (by simpa using h1) h2 h3 h4 l.toArray.size (Array.replicate l.toArray.size false) (slots0 l a) w.drew (by simp)
    (Nat.le_trans (List.length_filter_le _ _) (by simp)) (fun j o hj hl => by simp [Array.getD] at hl) (fun _ _ => rfl) (by
      have e : (fun j => (Array.replicate l.toArray.size false).getD j false) = fun _ => false := by funext j; simp [Array.getD]
      rw [e]; exact hC) (fun j R hl => by simp [Array.getD] at hl)
  rwa [fillOps_self (slots0 l a) _ 0 a (by simpa using hvs)] at this

theorem wpFactsU_nil {C : (Nat → Bool) → World → Prop} {T : Nat → World → World → Prop} {fr : (Nat → Value) → Act} {v0 : Nat → Value} {k : Nat} {Rs : List FactN} (h : ∀ vs L w, (∀ j, j < ops.size → L j = true) → C L w → (∀ (j : Nat) (R : FactN), R.Br = [] → Rs[j]? = some R → R.at vs j w) → Q .normal (fr vs) w) : wpFactsU P ops Q C T fr v0 k [] Rs := h
/-- The same walk, the facts' list the other way round (its look-ups stay cheap). -/
def wpFactsW (P : Program) (ops : Array Oper) (Q : Exit → Act → World → Prop) (C : (Nat → Bool) → World → Prop) (T : Nat → World → World → Prop) (fr : (Nat → Value) → Act) (v0 : Nat → Value) : Nat → List Oper → List FactN → Prop
  | k, [], Rs => ∀ vs L w, (∀ j, j < ops.size → L j = true) → C L w → (∀ (j : Nat) (R : FactN), R.Br = [] → Rs[k - 1 - j]? = some R → j < k → R.at vs j w) → Q .normal (fr vs) w
  | k, o :: l, Rs => ∃ R : FactN, R.fine ops k ∧ R.firm ops T k ∧
    (∀ vs L w, GoneV ops L k vs v0 → C L w → (∀ (j : Nat) (R' : FactN), ahead .any ops ops.size k j = true → R'.live ops k = true → Rs[k - 1 - j]? = some R' → j < k → R'.at vs j w) → ∀ K : Act → World → Prop, (∀ a' v w', a' = (fr vs).put o.dst v → R.R (vs R.D) v w' → C (Listed.but L k) w' → T k w w' → K a' w') →
      if Region.wanted o (yielded ops (fr vs).tmps) = true then o.wp P (fr vs) w K Q else K ((fr vs).put o.dst undef) w) ∧
    wpFactsW P ops Q C T fr v0 (k + 1) l (R :: Rs)
theorem wpFactsW_N {C : (Nat → Bool) → World → Prop} {T : Nat → World → World → Prop} {fr : (Nat → Value) → Act} {v0 : Nat → Value} : ∀ (l : List Oper) (k : Nat) (Rs : List FactN), Rs.length = k → wpFactsW P ops Q C T fr v0 k l Rs → wpFactsU P ops Q C T fr v0 k l Rs.reverse
  | [], _, _, hk, h => fun vs L w hL hC hB => h vs L w hL hC fun j R hb hR hj => hB j R hb (rev_look hk hR hj)
  | _ :: l, k, Rs, hk, ⟨R, h1, h2, h3, h4⟩ => ⟨R, h1, h2, fun vs L w hG hC hB K hK => h3 vs L w hG hC (fun j R' ha hv hR hj => hB j R' ha hv (rev_look hk hR hj)) K hK, by
      have := wpFactsW_N l (k + 1) (R :: Rs) (by simp [hk]) h4
      rwa [List.reverse_cons] at this⟩
theorem wp_region_factsW {id : Nat} {a : Act} {w : World} {l : List Oper} (C : (Nat → Bool) → World → Prop) (T : Nat → World → World → Prop) (hm : P.follows .mixedOrders = true) (hap : dstsApart l = true) (hdn : edgesDown .any l.toArray = true)
    (hC : C (fun _ => false) w.drew) (h : wpFactsW P l.toArray Q C T (fun vs => fillOps vs l 0 a) (slots0 l a) 0 l []) : (Code.region id l.toArray true).wp P Q a w :=
  wp_region_factsU C T hm hap hdn hC (wpFactsW_N l 0 [] rfl h)
theorem wpFactsW_nil {C : (Nat → Bool) → World → Prop} {T : Nat → World → World → Prop} {fr : (Nat → Value) → Act} {v0 : Nat → Value} {k : Nat} {Rs : List FactN} (h : ∀ vs L w, (∀ j, j < ops.size → L j = true) → C L w → (∀ (j : Nat) (R : FactN), R.Br = [] → Rs[k - 1 - j]? = some R → j < k → R.at vs j w) → Q .normal (fr vs) w) : wpFactsW P ops Q C T fr v0 k [] Rs := h
theorem wpFactsW_val {C : (Nat → Bool) → World → Prop} {T : Nat → World → World → Prop} {fr : (Nat → Value) → Act} {v0 : Nat → Value} {k : Nat} {o : Oper} {l : List Oper} {Rs : List FactN} (V : Value)
    (h1 : ∀ vs L w, GoneV ops L k vs v0 → C L w → (∀ (j : Nat) (R' : FactN), ahead .any ops ops.size k j = true → R'.live ops k = true → Rs[k - 1 - j]? = some R' → j < k → R'.at vs j w) → ∀ K : Act → World → Prop, (∀ a' w', a' = (fr vs).put o.dst V → C (Listed.but L k) w' → T k w w' → K a' w') →
      if Region.wanted o (yielded ops (fr vs).tmps) = true then o.wp P (fr vs) w K Q else K ((fr vs).put o.dst undef) w)
    (h2 : wpFactsW P ops Q C T fr v0 (k + 1) l (⟨0, fun _ v _ => v = V, []⟩ :: Rs)) : wpFactsW P ops Q C T fr v0 k (o :: l) Rs :=
  ⟨⟨0, fun _ v _ => v = V, []⟩, .inl (fun _ _ _ _ h => h), fun _ _ _ _ _ _ _ _ h _ => h, fun vs L w hG hC hB K hK => h1 vs L w hG hC hB K fun a' w' ha hC' hT => hK a' V w' ha rfl hC' hT, h2⟩
theorem wpFactsW_some {C : (Nat → Bool) → World → Prop} {T : Nat → World → World → Prop} {fr : (Nat → Value) → Act} {v0 : Nat → Value} {k : Nat} {o : Oper} {l : List Oper} {Rs : List FactN} (Br : List Nat) (R : Value → World → Prop) (hR : ∀ i, i ≠ k → i ∉ Br → ahead .any ops ops.size k i = false → ∀ v w w', R v w → T i w w' → R v w')
    (h1 : ∀ vs L w, GoneV ops L k vs v0 → C L w → (∀ (j : Nat) (R' : FactN), ahead .any ops ops.size k j = true → R'.live ops k = true → Rs[k - 1 - j]? = some R' → j < k → R'.at vs j w) → ∀ K : Act → World → Prop, (∀ a' v w', a' = (fr vs).put o.dst v → R v w' → C (Listed.but L k) w' → T k w w' → K a' w') →
      if Region.wanted o (yielded ops (fr vs).tmps) = true then o.wp P (fr vs) w K Q else K ((fr vs).put o.dst undef) w)
    (h2 : wpFactsW P ops Q C T fr v0 (k + 1) l (⟨0, fun _ v w => R v w, Br⟩ :: Rs)) : wpFactsW P ops Q C T fr v0 k (o :: l) Rs :=
  ⟨⟨0, fun _ v w => R v w, Br⟩, .inl (fun _ _ _ _ h => h), fun i hi hb ha _ v w w' h t => hR i hi hb ha v w w' h t, h1, h2⟩
end
end Go.Proofs.Ytchkjiadnackaaa

/- SortPhrases in the reference. (Printed by gen_sorts.py) -/
namespace Go.Proofs.Ytchkjiadnackaaa
open Go.RowKit

/-- 'append([]T{}, xs...)' as one operation of a drawn region: no older block turns. -/
theorem stepCat {P : Program} {ops : Array Oper} {tm : Array Value} {o : Oper} {a : Act} {w : World} {K : Act → World → Prop} {Q : Exit → Act → World → Prop} {E : Prop}
    (hg : o.guard = none) (s x : Operand) (t : TypeId) (ho : o.op = .call { callee := .builtin .append, args := #[s, x], argTypes := #[t, t] })
    (e : TypeId) (z : Value) (k bytes : Nat) (ht : P.underlying t = some (.slice e)) (hinfo : (P.info? e).map (fun i => (i.zero, i.size, i.bytes)) = some (some z, k, bytes)) (hzs : z.cells.size = k) (hsz : 0 < k) (hby : bytes ≤ 1000)
    (B g : Nat) (hs : a.eval s = .slice (some ⟨g, 0, none⟩) 0 0) (hL : Lies w g e []) (hB : B ≤ g)
    (S : Nat) (A : Option Addr) (m c : Nat) (cs : List Value) (hx : a.eval x = .slice A m c) (hr : SlcR w S k A m cs) (h1 : ∀ u ∈ cs, u.oneCell' = true) (hm : m ≤ 1000000)
    (h : ∀ v' w', w'.ownsRow B e k v' m cs → Below w.heap.size w w' → K (a.put o.dst v') w') : if Region.wanted o (yielded ops tm) = true then o.wp P a w K Q else E := by
  have hw : ∀ tm : Array Value, Region.wanted o (yielded ops tm) = true := fun tm => by simp [Region.wanted, hg]
  rw [if_pos (hw _)]
  obtain ⟨i, hi, hz, hs', hb⟩ := info_parts hinfo
  have hbytes : (0 + m) * bytes ≤ 140737488355328 := by have := Nat.mul_le_mul (show 0 + m ≤ 1000000 by omega) hby; omega
  have hlt := hL.lt
  rcases Nat.eq_zero_or_pos m with h0 | h0
  · subst h0
    have hc0 : cs = [] := List.eq_nil_of_length_eq_zero (by simpa using hr.len)
    subst hc0
    have hown : w.ownsRow B e k (.slice (some ⟨g, 0, none⟩) 0 0) 0 [] := owns_empty hL hB
    have hrun : (Builtin.append_ #[t, t] o.type #[.slice (some ⟨g, 0, none⟩) 0 0, .slice A 0 c]).run P w = .ok (.slice (some ⟨g, 0, none⟩) 0 0) w := by
      rcases A with _ | ad
      · exact run_cat_nil w B t o.type e i k ht hi _ 0 [] hown c
      · simp [Builtin.append_, run_underlying ht, sizeOf, typeInfo, hi, Builtin.lenOf, Builtin.firstCells, loadCells, loadCellsFrom, storeCells]
    unfold Oper.wp execOp
    simp only [ho, resolve, invoke, builtin, Sem.run_bind, Sem.run_pure, Result.andThen_ok, List.map_toArray, List.map_cons, List.map_nil, hs, hx, hrun]
    exact h _ _ hown (Below.refl _ _)
  · obtain ⟨b, off, rfl, hlt', hcell⟩ := hr.at_ h0
    have key := step_append_grows (P := P) (ops := ops) (a := a) (w := w) (K := K) (Q := Q) (E := E) hg s x t ho e i z k bytes ht hi hz hs' hb hzs hsz (some ⟨g, 0, none⟩) 0 0 [] hs (by simp) (by simp) (by simp) ⟨b, off, none⟩ m c cs hx hr.len (fun j u hu => by rw [addr_add]; exact hcell j u hu) h1 (by omega) (by unfold maxLen; omega) hbytes (fun v' w' h2 h3 => by
      rw [Nat.zero_add, List.nil_append] at h2
      exact h v' w' (ownsRow_lower h2 (by omega)) ((Below.refl _ _).grown h3 (Nat.le_refl _) (fun j hj => by cases hj)))
    rw [if_pos (hw _)] at key
    exact key

theorem flat_take {α : Type} (enc : α → List Value) (k : Nat) (hk : ∀ x, (enc x).length = k) : ∀ (l : List α) (i : Nat), (l.take i).flatMap enc = (l.flatMap enc).take (i * k)
  | [], i => by simp
  | x :: l, 0 => by simp
  | x :: l, i + 1 => by
    have e : (i + 1) * k = (enc x).length + i * k := by rw [hk, Nat.succ_mul]; omega
    rw [List.take_succ_cons, List.flatMap_cons, List.flatMap_cons, flat_take enc k hk l i, e, List.take_length_add_append]
theorem flat_drop {α : Type} (enc : α → List Value) (k : Nat) (hk : ∀ x, (enc x).length = k) : ∀ (l : List α) (i : Nat), (l.drop i).flatMap enc = (l.flatMap enc).drop (i * k)
  | [], i => by simp
  | x :: l, 0 => by simp
  | x :: l, i + 1 => by
    have e : (i + 1) * k = (enc x).length + i * k := by rw [hk, Nat.succ_mul]; omega
    rw [List.drop_succ_cons, List.flatMap_cons, flat_drop enc k hk l i, e, List.drop_length_add_append]
theorem infoPh_size : (Try.prog.info? 42).map (·.size) = some 4 := by kernel_rfl
theorem ph_cells {m : List Ph} (u : Value) (hu : u ∈ m.flatMap Ph.enc) : u.oneCell' = true := by
  obtain ⟨y, _, hy⟩ := List.mem_flatMap.1 hu
  simp only [Ph.enc, List.mem_cons, List.not_mem_nil, or_false] at hy
  rcases hy with rfl | rfl | rfl | rfl <;> rfl
theorem put_cells {m : List Ph} {x : Ph} {j : Nat} (_hj : j ≤ m.length) : (rowAt m x [] j).flatMap Ph.enc = ((m.flatMap Ph.enc).take (j * 4) ++ [.int .i64 x.s, .int .i64 x.c, .slice x.A x.f.length x.cap, .int .i64 x.p]) ++ (m.flatMap Ph.enc).drop (j * 4) := by
  unfold rowAt
  rw [List.append_nil, List.flatMap_append, List.flatMap_cons, ← flat_take Ph.enc 4 Ph.enc_len, ← flat_drop Ph.enc 4 Ph.enc_len, List.append_assoc]
  rfl
theorem RowPh.put {w W : World} {B : Nat} {v v' : Value} {m : List Ph} {x : Ph} {j : Nat} (h : RowPh w B v m) (hw : Below w.heap.size w W) (hx : OwnS W w.heap.size 3 1 x.A x.f.length (encIs x.f)) (hB : B ≤ w.heap.size) (hj : j ≤ m.length)
    (ho : W.ownsRow B 42 4 v' (m.length + 1) ((rowAt m x [] j).flatMap Ph.enc)) : RowPh W B v' (rowAt m x [] j) := by
  have hap : ∀ a ∈ m, a.A = none ∨ a.A ≠ x.A := fun a ha => by
    cases hA : a.A with
    | none => exact .inl rfl
    | some g =>
      refine .inr fun e => ?_
      have h1 := ((h.fs a ha).lt_ hA).2
      have h2 := (hx.lt_ e.symm).1
      omega
  have sym : ∀ {u v : Ph}, (u.A = none ∨ u.A ≠ v.A) → (v.A = none ∨ v.A ≠ u.A) := fun {u v} h => by
    rcases h with h | h
    · by_cases e : v.A = none
      · exact .inl e
      · exact .inr (by rw [h]; exact e)
    · exact .inr (Ne.symm h)
  refine ⟨by rw [rowAt_len hj]; exact ho, fun y hy => ?_, ?_⟩
  · unfold rowAt at hy
    simp only [List.append_nil, List.mem_append, List.mem_cons] at hy
    rcases hy with hy | rfl | hy
    · exact (h.fs y (List.mem_of_mem_take hy)).then hw
    · exact hx.lower hB
    · exact (h.fs y (List.mem_of_mem_drop hy)).then hw
  · have hn := h.nd
    rw [← List.take_append_drop j m, List.pairwise_append] at hn
    obtain ⟨n1, n2, n3⟩ := hn
    unfold rowAt
    rw [List.append_nil, List.pairwise_append, List.pairwise_cons]
    refine ⟨n1, ⟨fun z hz => sym (hap z (List.mem_of_mem_drop hz)), n2⟩, fun a ha b hb => ?_⟩
    rcases List.mem_cons.1 hb with rfl | hb
    · exact hap a (List.mem_of_mem_take ha)
    · exact n3 a ha b hb

set_option maxRecDepth 100000 in
set_option maxHeartbeats 8000000 in
set_option linter.unusedVariables false in
theorem specSort_any (A : Option Addr) (c : Nat) (l : List Ph) (w : World) (h : PhsR w w.heap.size A l) :
    Calls Try.prog 6 #[.slice A l.length c] w (GivesRow w (sortA (l.map Ph.ph))) := by
  have hl := h.slc.big
  have b0 := (Below.refl w.heap.size w).alloc (Nat.le_refl _) (.cells #[] 42)
  have L0 := Lies.new w 42 #[]
  have h0 := h.then b0
  have R0 : RowPh (w.alloc (.cells #[] 42)) w.heap.size (.slice (some ⟨w.heap.size, 0, none⟩) 0 0) [] := ⟨owns_empty L0 (Nat.le_refl _), by simp, List.Pairwise.nil⟩
  cases hg : goodPhs l
  · have HM : Hid (sortA (l.map Ph.ph) = ([], false)) := by unfold sortA Hid; rw [← good_goodD, hg]; rfl
    have HG := Lib.hid hg; clear hg
    go_enter Try.func6, Try.ntmps6
    go_wp2_with fail
    refine (l30Good_any A c l _ h0).mono ?_
    rw [HG.out]
    rintro e w1 ⟨rfl, hb1⟩
    go_wp2
    go_ret2
    rw [HM.out]
    exact ⟨some ⟨w.heap.size, 0, none⟩, 0, [], rfl, rfl, R0.below hb1, bthen b0 hb1⟩
  · have hlen := good_len hg
    have HM : Hid (sortA (l.map Ph.ph) = (sortD (l.map Ph.ph), true)) := by unfold sortA Hid; rw [← good_goodD, hg]; rfl
    have HB : Hid (∀ i (hi : i < l.length), l[i].f.length ≤ 9) := fun i hi => by
      obtain ⟨_, ⟨c1, c2⟩, hr, _⟩ := Ph.bounds (good_at hg hi)
      exact faults9 hr
    have HG := Lib.hid hg; clear hg
    have hrd := fun (W : World) (hW : PhsR W W.heap.size A l) => hW.ph
    have HR0 := Lib.hid R0
    clear R0
    go_enter Try.func6, Try.ntmps6
    go_wp2_with fail
    refine (l30Good_any A c l _ h0).mono ?_
    rw [HG.out]
    rintro e w1 ⟨rfl, hb1'⟩
    have hb1 := bthen b0 hb1'
    have hw1 := hb1.size
    have HPR := Lib.hid h
    go_wp2
    go_loopw [4, 5, 6, 7] (fun o i _ _ wr => ∃ (k : Nat) (A' : Option Addr) (c' : Nat) (m : List Ph), k ≤ l.length ∧ i = .int .i64 k ∧ o = .slice A' m.length c' ∧ m.length ≤ k ∧ (∃ q : Since w.heap.size w, wr = q.val) ∧ Hid (RowPh wr w.heap.size (.slice A' m.length c') m) ∧ Hid (m.map Ph.ph = sortD ((l.map Ph.ph).take k))) (fun _ i _ _ _ => l.length - (intOf i).toNat)
    case atStart => exact ⟨0, some ⟨w.heap.size, 0, none⟩, 0, [], Nat.zero_le _, rfl, rfl, Nat.le_refl _, ⟨⟨w1, hb1⟩, rfl⟩, HR0.out.below hb1', rfl⟩
    case round =>
      clear HR0
      obtain ⟨k, A', c', m, hk, rfl, rfl, hmk, ⟨q, rfl⟩, HRow, HMap⟩ := hrel
      by_cases hlt : k < l.length
      · have hR0 := (HPR.out.below q.below).mono q.size
        obtain ⟨b, off, rfl, hb, hcell⟩ := hrd _ hR0 (by omega)
        obtain ⟨c0, c1, c2, c3⟩ := hcell k hlt
        have hxf : IntsR q.val q.val.heap.size l[k].A l[k].f := hR0.f hlt
        have bf := HB.out k hlt
        have HST : Hid (sortD ((l.map Ph.ph).take (k + 1)) = insD (sortD ((l.map Ph.ph).take k)) l[k].ph) := by
          rw [Hid, sortD_step (by simpa using hlt)]; simp
        obtain ⟨x, hxe⟩ : ∃ x, x = l[k] := ⟨_, rfl⟩
        rw [← hxe] at c0 c1 c2 c3 hxf bf HST
        clear hxe hcell hrd hR0
        have k0 := c0 (Since.start _ _)
        have k1 := c1 (Since.start _ _)
        have k2 := c2 (Since.start _ _)
        have k3 := c3 (Since.start _ _)
        change q.val.cell? _ = _ at k0
        change q.val.cell? _ = _ at k1
        change q.val.cell? _ = _ at k2
        change q.val.cell? _ = _ at k3
        clear c0 c1 c2 c3
        have b2 := (Below.refl q.val.heap.size q.val).alloc (Nat.le_refl _) (.cells #[.int .i64 x.s, .int .i64 x.c, .slice x.A x.f.length x.cap, .int .i64 x.p] 42)
        have L2 := Lies.new q.val 42 #[.int .i64 x.s, .int .i64 x.c, .slice x.A x.f.length x.cap, .int .i64 x.p]
        have hxf2 := SlcR.up hxf b2 (Nat.le_refl _)
        have hqs := q.size
        go_wp2_with fail
        generalize q.val.alloc (.cells #[.int .i64 x.s, .int .i64 x.c, .slice x.A x.f.length x.cap, .int .i64 x.p] 42) = W2 at b2 L2 hxf2 ⊢
        generalize hgp : q.val.heap.size = gp at L2 ⊢
        refine (l1Own_any x.A x.cap x.f W2 hxf2 (by omega)).mono ?_
        rintro e w3 ⟨A3, c3, rfl, hO3, hb3⟩
        have L3 := L2.below hb3 L2.lt
        have f2 := L3.frozen 2
        have j2 := L3.cell 2
        simp only [List.getElem?_cons_zero, List.getElem?_cons_succ] at j2
        have hgl := L3.lt
        have hb23 := bthen b2 hb3
        clear k0 k1 k2 k3
        have hgw : w.heap.size ≤ gp := by omega
        have L4 : Lies (w3.setCell ⟨gp, 2, none⟩ (.slice A3 x.f.length c3)) gp 42 [.int .i64 x.s, .int .i64 x.c, .slice A3 x.f.length c3, .int .i64 x.p] := L3.set 2 _
        have hg4 : w3.grownBy (w3.setCell ⟨gp, 2, none⟩ (.slice A3 x.f.length c3)) (some gp) := grown_set (World.grownBy.refl w3 _)
        have HO4 := Lib.hid ((hO3.kept hg4 L2.lt).lower b2.size)
        have hbq : Below q.val.heap.size q.val (w3.setCell ⟨gp, 2, none⟩ (.slice A3 x.f.length c3)) := hb23.setCell (p := ⟨gp, 2, none⟩) (by simp only; omega) _
        have HR4 := Lib.hid (HRow.out.below hbq)
        go_wp2
        clear hO3 hg4 L3 L2 f2 j2
        generalize w3.setCell ⟨gp, 2, none⟩ (.slice A3 x.f.length c3) = W4 at L4 HO4 hbq HR4 ⊢
        go_loopw [7] (fun a wr => ∃ j : Nat, j ≤ m.length ∧ a = .int .i64 j ∧ Hid (posD x.ph (m.map Ph.ph) j = posD x.ph (m.map Ph.ph) m.length) ∧ Below W4.heap.size W4 wr) (fun a _ => (intOf a).toNat)
        case atStart => exact ⟨m.length, Nat.le_refl _, rfl, rfl, Below.refl _ _⟩
        case round =>
          obtain ⟨j, hj5, rfl, HP, hb5⟩ := hrel
          by_cases hj0 : 0 < j
          · obtain ⟨j, rfl⟩ : ∃ i, j = i + 1 := ⟨j - 1, by omega⟩
            have hjl : j < m.length := by omega
            have hR5 := HR4.out.below hb5
            have L5 := L4.below hb5 L4.lt
            obtain ⟨g5, rfl⟩ : ∃ g, A' = some ⟨g, 0, none⟩ := by
              obtain ⟨_, h0 | ⟨g, cap, cur, hv, _⟩⟩ := hR5.row
              · have := h0.2; omega
              · injection hv with e1 e2 e3; exact ⟨g, e1⟩
            have cy := fun p => row_cells hR5 rfl (List.getElem?_eq_getElem hjl) p
            have HPS := Lib.hid (pos_step (x := x) hjl)
            obtain ⟨y, hy⟩ : ∃ y, y = m[j] := ⟨_, rfl⟩
            rw [← hy] at cy HPS
            clear hy hR5
            have x0 : ∀ p : Since wr.heap.size wr, p.val.cell? ⟨gp, 0, none⟩ = some (.int .i64 x.s) := fun p => (p.cell L5.lt).trans (L5.cell 0)
            have x1 : ∀ p : Since wr.heap.size wr, p.val.cell? ⟨gp, 1, none⟩ = some (.int .i64 x.c) := fun p => (p.cell L5.lt).trans (L5.cell 1)
            have x2 : ∀ p : Since wr.heap.size wr, p.val.cell? ⟨gp, 2, none⟩ = some (.slice A3 x.f.length c3) := fun p => (p.cell L5.lt).trans (L5.cell 2)
            have x3 : ∀ p : Since wr.heap.size wr, p.val.cell? ⟨gp, 3, none⟩ = some (.int .i64 x.p) := fun p => (p.cell L5.lt).trans (L5.cell 3)
            obtain ⟨y0, y1, y2, y3⟩ : (∀ p : Since wr.heap.size wr, p.val.cell? ⟨g5, j * 4, none⟩ = some (.int .i64 y.s)) ∧ (∀ p : Since wr.heap.size wr, p.val.cell? ⟨g5, j * 4 + 1, none⟩ = some (.int .i64 y.c)) ∧ (∀ p : Since wr.heap.size wr, p.val.cell? ⟨g5, j * 4 + 2, none⟩ = some (.slice y.A y.f.length y.cap)) ∧ (∀ p : Since wr.heap.size wr, p.val.cell? ⟨g5, j * 4 + 3, none⟩ = some (.int .i64 y.p)) := ⟨fun p => (cy p).1, fun p => (cy p).2.1, fun p => (cy p).2.2.1, fun p => (cy p).2.2.2⟩
            have HC : Hid (∀ p : Since wr.heap.size wr, Calls Try.prog 30 #[.agg #[.int .i64 x.s, .int .i64 x.c, .slice A3 x.f.length c3, .int .i64 x.p], y.val] p.val fun e w' => e = .returned (.bool (beforeD x.ph y.ph)) ∧ Below p.val.heap.size p.val w') := fun p => before_any { x with A := A3, cap := c3 } y p.val
            obtain ⟨bf9, hbf⟩ : ∃ b, beforeD x.ph y.ph = b := ⟨_, rfl⟩
            rw [hbf] at HC HPS
            have hj9 : j ≤ 1000 := by omega
            have Hmk := Lib.hid hmk
            clear cy hbf L5 hmk
            cases bf9
            · go_wp2_with fail
              refine wp_region_since0 (by kernel_rfl) (by kernel_rfl) ?_
              repeat (any_goals (first | go_big_quiet_step ((refine calls_since (Nat.le_refl _) (HC.out _))) | (refine wpQuiet_step (fun K hK => ?_); go_simp; split <;> (refine hK _ ?_; clear hK K))))
              all_goals (refine wpQuiet_nil ?_; rintro _ ⟨q1, rfl⟩)
              have HPJ : Hid (posD x.ph (m.map Ph.ph) m.length = j + 1) := by
                have h1 := HPS.out
                rw [if_neg (by decide)] at h1
                rw [Hid, ← HP.out, h1]
              have BB : Hid (Below W4.heap.size W4 q1.val) := hb5.trans (q1.below.mono hb5.size)
              have hmk := Hmk.out
              clear HPS HP HC x0 x1 x2 x3 y0 y1 y2 y3 hb5
              go_wp2_with fail
              generalize q1.val = W5 at BB ⊢
              have b45 := BB.out
              have HR5 := Lib.hid (HR4.out.below b45)
              have L5 := L4.below b45 L4.lt
              have XC : Hid (∀ W9, Below W5.heap.size W5 W9 → W9.cell? ⟨gp, 0, none⟩ = some (.int .i64 x.s) ∧ W9.cell? ⟨gp, 1, none⟩ = some (.int .i64 x.c) ∧ W9.cell? ⟨gp, 2, none⟩ = some (.slice A3 x.f.length c3) ∧ W9.cell? ⟨gp, 3, none⟩ = some (.int .i64 x.p)) := fun W9 h9 => by
                have h1 := L5.below h9 L5.lt
                exact ⟨h1.cell 0, h1.cell 1, h1.cell 2, h1.cell 3⟩
              have HSL := Lib.hid HR5.out.reads.slc
              have hcap : m.length ≤ c' := ownsRow_capP HR5.out.row rfl
              have hw5 : w.heap.size ≤ W5.heap.size := by have := b45.size; have := hbq.size; omega
              clear L5 HR5
              refine wp_region_factsW (fun _ => (fun W9 => Below W5.heap.size W5 W9)) (fun i w1 w2 => i ∉ [7, 11] → Below w1.heap.size w1 w2) (by kernel_rfl) (by kernel_rfl) (by kernel_rfl) (Below.refl _ _).drew ?_
              simp only [fillOps, Act.put, List.setIfInBounds_toArray, List.set_cons_zero, List.set_cons_succ, Nat.zero_add, Nat.reduceAdd]
              refine wpFactsW_some [7, 11] (fun v w9 => ∃ g, v = .slice (some ⟨g, 0, none⟩) 0 0 ∧ W5.heap.size ≤ g ∧ Lies w9 g 42 []) ?_ (fun vs L9 w9 hG9 hC9 hB K9 hK9 => ?_) ?_
              next =>
                intro i9 hi9 hb9 ha9 v w1 w2 hv hT9
                have hb := hT9 (fun hm => by
                  simp only [List.mem_cons, List.not_mem_nil, or_false] at hm hb9
                  rcases hm with rfl | rfl
                  · exact hb9 (by simp)
                  · exact hb9 (by simp))
                obtain ⟨g, e, hg, hl⟩ := hv
                exact ⟨g, e, hg, hl.below hb hl.lt⟩
              next =>
                simp only [Act.put, List.setIfInBounds_toArray, List.set_cons_zero, List.set_cons_succ] at hK9
                go_simp
                exact hK9 _ _ _ rfl ⟨_, rfl, hC9.size, Lies.new w9 42 #[]⟩ (hC9.alloc hC9.size _) (fun _ => (Below.refl _ _).alloc (Nat.le_refl _) _)
              apply wpFactsW_val
              case h1 =>
                intro vs L9 w9 hG9 hC9 hB K9 hK9
                have e12 : vs 12 = .slice (some ⟨g5, 0, none⟩) m.length c' := hG9.old 12 (by kernel_rfl)
                simp only [e12] at hK9 ⊢
                simp only [Act.put, List.setIfInBounds_toArray, List.set_cons_zero, List.set_cons_succ] at hK9
                go_simp
                exact hK9 _ _ rfl hC9 (fun _ => Below.refl _ _)
              apply wpFactsW_val
              case h1 =>
                intro vs L9 w9 hG9 hC9 hB K9 hK9
                simp only [Act.put, List.setIfInBounds_toArray, List.set_cons_zero, List.set_cons_succ] at hK9
                go_simp
                exact hK9 _ _ rfl hC9 (fun _ => Below.refl _ _)
              apply wpFactsW_val
              case h1 =>
                intro vs L9 w9 hG9 hC9 hB K9 hK9
                have d1 := FactN.eq (hB 1 _ (by kernel_rfl) (by kernel_rfl) rfl (by decide))
                have d2 := FactN.eq (hB 2 _ (by kernel_rfl) (by kernel_rfl) rfl (by decide))
                simp only [d1, d2] at hK9 ⊢
                simp only [Act.put, List.setIfInBounds_toArray, List.set_cons_zero, List.set_cons_succ] at hK9
                refine step_sliceTo rfl 24 42 (.tmp 43) (.tmp 44) rfl Try.underlying24 4 infoPh_size (some ⟨g5, 0, none⟩) m.length c' (j + 1) (by rfl) (by rfl) hj5 hcap ?_
                exact hK9 _ _ rfl hC9 (fun _ => Below.refl _ _)
              refine wpFactsW_some [7, 11] (fun v w9 => ∃ A c, v = .slice A ((j + 1)) c ∧ w9.ownsRow W5.heap.size 42 4 (.slice A ((j + 1)) c) ((j + 1)) ((m.flatMap Ph.enc).take ((j + 1) * 4))) ?_ (fun vs L9 w9 hG9 hC9 hB K9 hK9 => ?_) ?_
              next =>
                intro i9 hi9 hb9 ha9 v w1 w2 hv hT9
                have hb := hT9 (fun hm => by
                  simp only [List.mem_cons, List.not_mem_nil, or_false] at hm hb9
                  rcases hm with rfl | rfl
                  · exact hb9 (by simp)
                  · exact hb9 (by simp))
                obtain ⟨A, c, e, ho⟩ := hv
                exact ⟨A, c, e, ownsRow_below ho hb⟩
              next =>
                have d3 := FactN.eq (hB 3 _ (by kernel_rfl) (by kernel_rfl) rfl (by decide))
                simp only [d3] at hK9 ⊢
                simp only [Act.put, List.setIfInBounds_toArray, List.set_cons_zero, List.set_cons_succ] at hK9
                obtain ⟨g, e0, hg, hl⟩ := hB 0 _ (by kernel_rfl) (by kernel_rfl) rfl (by decide)
                simp only [e0] at hK9 ⊢
                refine stepCat rfl (.tmp 42) (.tmp 45) 24 rfl 42 _ 4 48 Try.underlying24 infoPh rfl (by omega) (by omega) W5.heap.size g (by rfl) hl hg W5.heap.size (some ⟨g5, 0, none⟩) ((j + 1)) c' _ (by rfl) (SlcR.take (SlcR.below HSL.out hC9) ((j + 1)) hj5) (fun u hu => ph_cells u (List.mem_of_mem_take hu)) (by omega) ?_
                intro v' w' ho hb
                obtain ⟨A', c', rfl⟩ := ownsRow_slice ho
                exact hK9 _ _ _ rfl ⟨A', c', rfl, ho⟩ (hC9.trans (hb.mono hC9.size)) (fun _ => hb)
              refine wpFactsW_val (.agg #[.int .i64 x.s, .int .i64 x.c, .slice A3 x.f.length c3, .int .i64 x.p]) (fun vs L9 w9 hG9 hC9 hB K9 hK9 => ?_) ?_
              next =>
                obtain ⟨q0, q1, q2, q3⟩ := XC.out w9 hC9
                go_simp
                exact hK9 _ _ rfl hC9 (fun _ => Below.refl _ _)
              refine wpFactsW_some [7, 11] (fun v w9 => ∃ g c, v = .slice (some ⟨g, 0, none⟩) 1 c ∧ Lies w9 g 42 [.int .i64 x.s, .int .i64 x.c, .slice A3 x.f.length c3, .int .i64 x.p]) ?_ (fun vs L9 w9 hG9 hC9 hB K9 hK9 => ?_) ?_
              next =>
                intro i9 hi9 hb9 ha9 v w1 w2 hv hT9
                have hb := hT9 (fun hm => by
                  simp only [List.mem_cons, List.not_mem_nil, or_false] at hm hb9
                  rcases hm with rfl | rfl
                  · exact hb9 (by simp)
                  · exact hb9 (by simp))
                obtain ⟨g, c, e, hl⟩ := hv
                exact ⟨g, c, e, hl.below hb hl.lt⟩
              next =>
                have d5 := FactN.eq (hB 5 _ (by kernel_rfl) (by kernel_rfl) rfl (by decide))
                simp only [d5] at hK9 ⊢
                simp only [Act.put, List.setIfInBounds_toArray, List.set_cons_zero, List.set_cons_succ] at hK9
                go_simp
                exact hK9 _ _ _ rfl ⟨_, _, rfl, Lies.new w9 42 #[.int .i64 x.s, .int .i64 x.c, .slice A3 x.f.length c3, .int .i64 x.p]⟩ (hC9.alloc hC9.size _) (fun _ => (Below.refl _ _).alloc (Nat.le_refl _) _)
              refine wpFactsW_some [11] (fun v w9 => ∃ A c, v = .slice A ((j + 1) + 1) c ∧ w9.ownsRow W5.heap.size 42 4 (.slice A ((j + 1) + 1) c) ((j + 1) + 1) ((m.flatMap Ph.enc).take ((j + 1) * 4) ++ [.int .i64 x.s, .int .i64 x.c, .slice A3 x.f.length c3, .int .i64 x.p])) ?_ (fun vs L9 w9 hG9 hC9 hB K9 hK9 => ?_) ?_
              next =>
                intro i9 hi9 hb9 ha9 v w1 w2 hv hT9
                have hb := hT9 (fun hm => by
                  simp only [List.mem_cons, List.not_mem_nil, or_false] at hm hb9
                  rcases hm with rfl | rfl
                  · exact hi9 rfl
                  · exact hb9 (by simp))
                obtain ⟨A, c, e, ho⟩ := hv
                exact ⟨A, c, e, ownsRow_below ho hb⟩
              next =>
                simp only [Act.put, List.setIfInBounds_toArray, List.set_cons_zero, List.set_cons_succ] at hK9
                obtain ⟨A, c, e4, ho⟩ := hB 4 _ (by kernel_rfl) (by kernel_rfl) rfl (by decide)
                obtain ⟨g, c9, e6, hl⟩ := hB 6 _ (by kernel_rfl) (by kernel_rfl) rfl (by decide)
                simp only [e4, e6] at hK9 ⊢
                refine step_cat rfl (.tmp 46) (.tmp 48) 24 rfl 42 _ 4 48 Try.underlying24 infoPh rfl (by omega) (by omega) W5.heap.size _ ((j + 1)) _ (by rfl) ho w9.heap.size (some ⟨g, 0, none⟩) 1 c9 [.int .i64 x.s, .int .i64 x.c, .slice A3 x.f.length c3, .int .i64 x.p] (by rfl) (hl.reads rfl (by omega)) (by simp [Value.oneCell']) (by omega) hC9.size ?_
                intro A' c' w' ho' _ hb
                exact hK9 _ _ _ rfl ⟨A', c', rfl, ho'⟩ (hC9.trans hb) (fun hq => (hq (by decide)).elim)
              apply wpFactsW_val
              case h1 =>
                intro vs L9 w9 hG9 hC9 hB K9 hK9
                have e12 : vs 12 = .slice (some ⟨g5, 0, none⟩) m.length c' := hG9.old 12 (by kernel_rfl)
                simp only [e12] at hK9 ⊢
                simp only [Act.put, List.setIfInBounds_toArray, List.set_cons_zero, List.set_cons_succ] at hK9
                go_simp
                exact hK9 _ _ rfl hC9 (fun _ => Below.refl _ _)
              apply wpFactsW_val
              case h1 =>
                intro vs L9 w9 hG9 hC9 hB K9 hK9
                simp only [Act.put, List.setIfInBounds_toArray, List.set_cons_zero, List.set_cons_succ] at hK9
                go_simp
                exact hK9 _ _ rfl hC9 (fun _ => Below.refl _ _)
              refine wpFactsW_some [] (fun v w9 => ∃ A, v = .slice A (m.length - (j + 1)) (c' - (j + 1)) ∧ ∀ W9, Below W5.heap.size W5 W9 → SlcR W9 W5.heap.size 4 A (m.length - (j + 1)) ((m.flatMap Ph.enc).drop ((j + 1) * 4))) ?_ (fun vs L9 w9 hG9 hC9 hB K9 hK9 => ?_) ?_
              next =>
                intro i9 hi9 hb9 ha9 v w1 w2 hv hT9
                exact hv
              next =>
                have d8 := FactN.eq (hB 8 _ (by kernel_rfl) (by kernel_rfl) rfl (by decide))
                have d9 := FactN.eq (hB 9 _ (by kernel_rfl) (by kernel_rfl) rfl (by decide))
                simp only [d8, d9] at hK9 ⊢
                simp only [Act.put, List.setIfInBounds_toArray, List.set_cons_zero, List.set_cons_succ] at hK9
                refine step_sliceFrom rfl 24 42 (.tmp 50) (.tmp 51) rfl Try.underlying24 4 infoPh_size (some ⟨g5, 0, none⟩) m.length c' (j + 1) (by rfl) (by rfl) hj5 hcap ?_
                intro A' hA9
                exact hK9 _ _ _ rfl ⟨A', rfl, fun W9 hW => hA9 _ _ _ (SlcR.below HSL.out hW)⟩ hC9 (fun _ => Below.refl _ _)
              refine wpFactsW_some [] (fun v w9 => ∃ A c, v = .slice A ((j + 1) + 1 + (m.length - (j + 1))) c ∧ w9.ownsRow W5.heap.size 42 4 (.slice A ((j + 1) + 1 + (m.length - (j + 1))) c) ((j + 1) + 1 + (m.length - (j + 1))) (((m.flatMap Ph.enc).take ((j + 1) * 4) ++ [.int .i64 x.s, .int .i64 x.c, .slice A3 x.f.length c3, .int .i64 x.p]) ++ (m.flatMap Ph.enc).drop ((j + 1) * 4))) ?_ (fun vs L9 w9 hG9 hC9 hB K9 hK9 => ?_) ?_
              next =>
                intro i9 hi9 hb9 ha9 v w1 w2 hv hT9
                have hb := hT9 (fun hm => by
                  simp only [List.mem_cons, List.not_mem_nil, or_false] at hm hb9
                  rcases hm with rfl | rfl
                  · exact absurd (ha9.symm.trans (show ahead .any _ _ _ _ = true by kernel_rfl)) (by decide)
                  · exact hi9 rfl)
                obtain ⟨A, c, e, ho⟩ := hv
                exact ⟨A, c, e, ownsRow_below ho hb⟩
              next =>
                simp only [Act.put, List.setIfInBounds_toArray, List.set_cons_zero, List.set_cons_succ] at hK9
                obtain ⟨A, c, e7, ho⟩ := hB 7 _ (by kernel_rfl) (by kernel_rfl) rfl (by decide)
                obtain ⟨A10, e10, hr⟩ := hB 10 _ (by kernel_rfl) (by kernel_rfl) rfl (by decide)
                simp only [e7, e10] at hK9 ⊢
                refine step_cat rfl (.tmp 49) (.tmp 52) 24 rfl 42 _ 4 48 Try.underlying24 infoPh rfl (by omega) (by omega) W5.heap.size _ ((j + 1) + 1) _ (by rfl) ho W5.heap.size A10 (m.length - (j + 1)) (c' - (j + 1)) _ (by rfl) (hr w9 hC9) (fun u hu => ph_cells u (List.mem_of_mem_drop hu)) (by omega) hC9.size ?_
                intro A' c' w' ho' _ hb
                exact hK9 _ _ _ rfl ⟨A', c', rfl, ho'⟩ (hC9.trans hb) (fun hq => (hq (by decide)).elim)
              refine wpFactsW_some [] (fun v w9 => ∃ A c, v = .slice A ((j + 1) + 1 + (m.length - (j + 1))) c ∧ w9.ownsRow W5.heap.size 42 4 (.slice A ((j + 1) + 1 + (m.length - (j + 1))) c) ((j + 1) + 1 + (m.length - (j + 1))) (((m.flatMap Ph.enc).take ((j + 1) * 4) ++ [.int .i64 x.s, .int .i64 x.c, .slice A3 x.f.length c3, .int .i64 x.p]) ++ (m.flatMap Ph.enc).drop ((j + 1) * 4))) ?_ (fun vs L9 w9 hG9 hC9 hB K9 hK9 => ?_) ?_
              next =>
                intro i9 hi9 hb9 ha9 v w1 w2 hv hT9
                have hb := hT9 (fun hm => by
                  simp only [List.mem_cons, List.not_mem_nil, or_false] at hm hb9
                  rcases hm with rfl | rfl
                  · exact absurd (ha9.symm.trans (show ahead .any _ _ _ _ = true by kernel_rfl)) (by decide)
                  · exact absurd (ha9.symm.trans (show ahead .any _ _ _ _ = true by kernel_rfl)) (by decide))
                obtain ⟨A, c, e, ho⟩ := hv
                exact ⟨A, c, e, ownsRow_below ho hb⟩
              next =>
                simp only [Act.put, List.setIfInBounds_toArray, List.set_cons_zero, List.set_cons_succ] at hK9
                obtain ⟨A, c, e11, ho⟩ := hB 11 _ (by kernel_rfl) (by kernel_rfl) rfl (by decide)
                simp only [e11] at hK9 ⊢
                go_simp
                exact hK9 _ _ _ rfl ⟨A, c, rfl, ho⟩ hC9 (fun _ => Below.refl _ _)
              refine wpFactsW_nil fun vs Lq W7 hL9 hC7 hB => ?_
              obtain ⟨A7, c7, e12, ho7⟩ := hB 12 _ rfl rfl (by decide)
              simp only [e12]
              clear hB hL9 e12
              have hnl : (j + 1) + 1 + (m.length - (j + 1)) = m.length + 1 := by omega
              rw [hnl] at ho7 ⊢
              have HNEW := Lib.hid (RowPh.put (x := { x with A := A3, cap := c3 }) HRow.out (hbq.trans ((b45.trans (hC7.mono b45.size)).mono hbq.size)) (HO4.out.then (b45.trans (hC7.mono b45.size))) hqs hj5 (by rw [put_cells hj5]; exact ownsRow_lower ho7 hw5))
              have HLN : (rowAt m { x with A := A3, cap := c3 } [] ((j + 1))).length = m.length + 1 := by rw [rowAt_len hj5]; rfl
              have HPH : Hid ((rowAt m { x with A := A3, cap := c3 } [] ((j + 1))).map Ph.ph = sortD ((l.map Ph.ph).take (k + 1))) := by rw [Hid, HST.out, ← HMap.out]; exact insert_done hj5 HPJ.out
              have hbz := bthen hbq (b45.trans (hC7.mono b45.size))
              clear ho7 hnl hC7 hcap HSL XC
              go_wp2_with fail
              exact ⟨⟨k + 1, A7, c7, rowAt m { x with A := A3, cap := c3 } [] ((j + 1)), by omega, by go_num, by rw [HLN], by rw [HLN]; omega, ⟨q.go (Nat.le_refl _) hbz, rfl⟩, by rw [HLN]; exact HNEW.out, HPH⟩, by simp [intOf]; omega⟩
            · go_wp2_with fail
              refine wp_region_since0 (by kernel_rfl) (by kernel_rfl) ?_
              repeat (any_goals (first | go_big_quiet_step ((refine calls_since (Nat.le_refl _) (HC.out _))) | (refine wpQuiet_step (fun K hK => ?_); go_simp; split <;> (refine hK _ ?_; clear hK K))))
              all_goals (refine wpQuiet_nil ?_; rintro _ ⟨q1, rfl⟩)
              have HPJ : Hid (posD x.ph (m.map Ph.ph) j = posD x.ph (m.map Ph.ph) m.length) := by
                have h1 := HPS.out
                rw [if_pos trivial] at h1
                rw [Hid, ← HP.out, h1]
              have BB := hb5.trans (q1.below.mono hb5.size)
              have hmk := Hmk.out
              clear HPS HP HC x0 x1 x2 x3 y0 y1 y2 y3 hb5
              go_wp2_with fail
              exact ⟨⟨j, by omega, rfl, HPJ, BB⟩, by simp [intOf]⟩
          · have hz : ¬ (0 : Int) < (j : Int) := by omega
            have HPJ : Hid (posD x.ph (m.map Ph.ph) m.length = j) := by rw [Hid, ← HP.out, show j = 0 by omega]; rfl
            clear HP
            go_wp2_with fail
            refine wp_region_since0 (by kernel_rfl) (by kernel_rfl) ?_
            repeat (any_goals (first | go_big_quiet_step ((fail)) | (refine wpQuiet_step (fun K hK => ?_); go_simp; split <;> (refine hK _ ?_; clear hK K))))
            all_goals (refine wpQuiet_nil ?_; rintro _ ⟨q1, rfl⟩)
            have BB : Hid (Below W4.heap.size W4 q1.val) := hb5.trans (q1.below.mono hb5.size)
            clear hb5
            go_wp2_with fail
            generalize q1.val = W5 at BB ⊢
            have b45 := BB.out
            have HR5 := Lib.hid (HR4.out.below b45)
            have L5 := L4.below b45 L4.lt
            have XC : Hid (∀ W9, Below W5.heap.size W5 W9 → W9.cell? ⟨gp, 0, none⟩ = some (.int .i64 x.s) ∧ W9.cell? ⟨gp, 1, none⟩ = some (.int .i64 x.c) ∧ W9.cell? ⟨gp, 2, none⟩ = some (.slice A3 x.f.length c3) ∧ W9.cell? ⟨gp, 3, none⟩ = some (.int .i64 x.p)) := fun W9 h9 => by
              have h1 := L5.below h9 L5.lt
              exact ⟨h1.cell 0, h1.cell 1, h1.cell 2, h1.cell 3⟩
            have HSL := Lib.hid HR5.out.reads.slc
            have hcap : m.length ≤ c' := ownsRow_capP HR5.out.row rfl
            have hw5 : w.heap.size ≤ W5.heap.size := by have := b45.size; have := hbq.size; omega
            clear L5 HR5
            refine wp_region_factsW (fun _ => (fun W9 => Below W5.heap.size W5 W9)) (fun i w1 w2 => i ∉ [7, 11] → Below w1.heap.size w1 w2) (by kernel_rfl) (by kernel_rfl) (by kernel_rfl) (Below.refl _ _).drew ?_
            simp only [fillOps, Act.put, List.setIfInBounds_toArray, List.set_cons_zero, List.set_cons_succ, Nat.zero_add, Nat.reduceAdd]
            refine wpFactsW_some [7, 11] (fun v w9 => ∃ g, v = .slice (some ⟨g, 0, none⟩) 0 0 ∧ W5.heap.size ≤ g ∧ Lies w9 g 42 []) ?_ (fun vs L9 w9 hG9 hC9 hB K9 hK9 => ?_) ?_
            next =>
              intro i9 hi9 hb9 ha9 v w1 w2 hv hT9
              have hb := hT9 (fun hm => by
                simp only [List.mem_cons, List.not_mem_nil, or_false] at hm hb9
                rcases hm with rfl | rfl
                · exact hb9 (by simp)
                · exact hb9 (by simp))
              obtain ⟨g, e, hg, hl⟩ := hv
              exact ⟨g, e, hg, hl.below hb hl.lt⟩
            next =>
              simp only [Act.put, List.setIfInBounds_toArray, List.set_cons_zero, List.set_cons_succ] at hK9
              go_simp
              exact hK9 _ _ _ rfl ⟨_, rfl, hC9.size, Lies.new w9 42 #[]⟩ (hC9.alloc hC9.size _) (fun _ => (Below.refl _ _).alloc (Nat.le_refl _) _)
            apply wpFactsW_val
            case h1 =>
              intro vs L9 w9 hG9 hC9 hB K9 hK9
              have e12 : vs 12 = .slice A' m.length c' := hG9.old 12 (by kernel_rfl)
              simp only [e12] at hK9 ⊢
              simp only [Act.put, List.setIfInBounds_toArray, List.set_cons_zero, List.set_cons_succ] at hK9
              go_simp
              exact hK9 _ _ rfl hC9 (fun _ => Below.refl _ _)
            apply wpFactsW_val
            case h1 =>
              intro vs L9 w9 hG9 hC9 hB K9 hK9
              simp only [Act.put, List.setIfInBounds_toArray, List.set_cons_zero, List.set_cons_succ] at hK9
              go_simp
              exact hK9 _ _ rfl hC9 (fun _ => Below.refl _ _)
            apply wpFactsW_val
            case h1 =>
              intro vs L9 w9 hG9 hC9 hB K9 hK9
              have d1 := FactN.eq (hB 1 _ (by kernel_rfl) (by kernel_rfl) rfl (by decide))
              have d2 := FactN.eq (hB 2 _ (by kernel_rfl) (by kernel_rfl) rfl (by decide))
              simp only [d1, d2] at hK9 ⊢
              simp only [Act.put, List.setIfInBounds_toArray, List.set_cons_zero, List.set_cons_succ] at hK9
              refine step_sliceTo rfl 24 42 (.tmp 43) (.tmp 44) rfl Try.underlying24 4 infoPh_size A' m.length c' j (by rfl) (by rfl) hj5 hcap ?_
              exact hK9 _ _ rfl hC9 (fun _ => Below.refl _ _)
            refine wpFactsW_some [7, 11] (fun v w9 => ∃ A c, v = .slice A (j) c ∧ w9.ownsRow W5.heap.size 42 4 (.slice A (j) c) (j) ((m.flatMap Ph.enc).take (j * 4))) ?_ (fun vs L9 w9 hG9 hC9 hB K9 hK9 => ?_) ?_
            next =>
              intro i9 hi9 hb9 ha9 v w1 w2 hv hT9
              have hb := hT9 (fun hm => by
                simp only [List.mem_cons, List.not_mem_nil, or_false] at hm hb9
                rcases hm with rfl | rfl
                · exact hb9 (by simp)
                · exact hb9 (by simp))
              obtain ⟨A, c, e, ho⟩ := hv
              exact ⟨A, c, e, ownsRow_below ho hb⟩
            next =>
              have d3 := FactN.eq (hB 3 _ (by kernel_rfl) (by kernel_rfl) rfl (by decide))
              simp only [d3] at hK9 ⊢
              simp only [Act.put, List.setIfInBounds_toArray, List.set_cons_zero, List.set_cons_succ] at hK9
              obtain ⟨g, e0, hg, hl⟩ := hB 0 _ (by kernel_rfl) (by kernel_rfl) rfl (by decide)
              simp only [e0] at hK9 ⊢
              refine stepCat rfl (.tmp 42) (.tmp 45) 24 rfl 42 _ 4 48 Try.underlying24 infoPh rfl (by omega) (by omega) W5.heap.size g (by rfl) hl hg W5.heap.size A' (j) c' _ (by rfl) (SlcR.take (SlcR.below HSL.out hC9) (j) hj5) (fun u hu => ph_cells u (List.mem_of_mem_take hu)) (by omega) ?_
              intro v' w' ho hb
              obtain ⟨A', c', rfl⟩ := ownsRow_slice ho
              exact hK9 _ _ _ rfl ⟨A', c', rfl, ho⟩ (hC9.trans (hb.mono hC9.size)) (fun _ => hb)
            refine wpFactsW_val (.agg #[.int .i64 x.s, .int .i64 x.c, .slice A3 x.f.length c3, .int .i64 x.p]) (fun vs L9 w9 hG9 hC9 hB K9 hK9 => ?_) ?_
            next =>
              obtain ⟨q0, q1, q2, q3⟩ := XC.out w9 hC9
              go_simp
              exact hK9 _ _ rfl hC9 (fun _ => Below.refl _ _)
            refine wpFactsW_some [7, 11] (fun v w9 => ∃ g c, v = .slice (some ⟨g, 0, none⟩) 1 c ∧ Lies w9 g 42 [.int .i64 x.s, .int .i64 x.c, .slice A3 x.f.length c3, .int .i64 x.p]) ?_ (fun vs L9 w9 hG9 hC9 hB K9 hK9 => ?_) ?_
            next =>
              intro i9 hi9 hb9 ha9 v w1 w2 hv hT9
              have hb := hT9 (fun hm => by
                simp only [List.mem_cons, List.not_mem_nil, or_false] at hm hb9
                rcases hm with rfl | rfl
                · exact hb9 (by simp)
                · exact hb9 (by simp))
              obtain ⟨g, c, e, hl⟩ := hv
              exact ⟨g, c, e, hl.below hb hl.lt⟩
            next =>
              have d5 := FactN.eq (hB 5 _ (by kernel_rfl) (by kernel_rfl) rfl (by decide))
              simp only [d5] at hK9 ⊢
              simp only [Act.put, List.setIfInBounds_toArray, List.set_cons_zero, List.set_cons_succ] at hK9
              go_simp
              exact hK9 _ _ _ rfl ⟨_, _, rfl, Lies.new w9 42 #[.int .i64 x.s, .int .i64 x.c, .slice A3 x.f.length c3, .int .i64 x.p]⟩ (hC9.alloc hC9.size _) (fun _ => (Below.refl _ _).alloc (Nat.le_refl _) _)
            refine wpFactsW_some [11] (fun v w9 => ∃ A c, v = .slice A (j + 1) c ∧ w9.ownsRow W5.heap.size 42 4 (.slice A (j + 1) c) (j + 1) ((m.flatMap Ph.enc).take (j * 4) ++ [.int .i64 x.s, .int .i64 x.c, .slice A3 x.f.length c3, .int .i64 x.p])) ?_ (fun vs L9 w9 hG9 hC9 hB K9 hK9 => ?_) ?_
            next =>
              intro i9 hi9 hb9 ha9 v w1 w2 hv hT9
              have hb := hT9 (fun hm => by
                simp only [List.mem_cons, List.not_mem_nil, or_false] at hm hb9
                rcases hm with rfl | rfl
                · exact hi9 rfl
                · exact hb9 (by simp))
              obtain ⟨A, c, e, ho⟩ := hv
              exact ⟨A, c, e, ownsRow_below ho hb⟩
            next =>
              simp only [Act.put, List.setIfInBounds_toArray, List.set_cons_zero, List.set_cons_succ] at hK9
              obtain ⟨A, c, e4, ho⟩ := hB 4 _ (by kernel_rfl) (by kernel_rfl) rfl (by decide)
              obtain ⟨g, c9, e6, hl⟩ := hB 6 _ (by kernel_rfl) (by kernel_rfl) rfl (by decide)
              simp only [e4, e6] at hK9 ⊢
              refine step_cat rfl (.tmp 46) (.tmp 48) 24 rfl 42 _ 4 48 Try.underlying24 infoPh rfl (by omega) (by omega) W5.heap.size _ (j) _ (by rfl) ho w9.heap.size (some ⟨g, 0, none⟩) 1 c9 [.int .i64 x.s, .int .i64 x.c, .slice A3 x.f.length c3, .int .i64 x.p] (by rfl) (hl.reads rfl (by omega)) (by simp [Value.oneCell']) (by omega) hC9.size ?_
              intro A' c' w' ho' _ hb
              exact hK9 _ _ _ rfl ⟨A', c', rfl, ho'⟩ (hC9.trans hb) (fun hq => (hq (by decide)).elim)
            apply wpFactsW_val
            case h1 =>
              intro vs L9 w9 hG9 hC9 hB K9 hK9
              have e12 : vs 12 = .slice A' m.length c' := hG9.old 12 (by kernel_rfl)
              simp only [e12] at hK9 ⊢
              simp only [Act.put, List.setIfInBounds_toArray, List.set_cons_zero, List.set_cons_succ] at hK9
              go_simp
              exact hK9 _ _ rfl hC9 (fun _ => Below.refl _ _)
            apply wpFactsW_val
            case h1 =>
              intro vs L9 w9 hG9 hC9 hB K9 hK9
              simp only [Act.put, List.setIfInBounds_toArray, List.set_cons_zero, List.set_cons_succ] at hK9
              go_simp
              exact hK9 _ _ rfl hC9 (fun _ => Below.refl _ _)
            refine wpFactsW_some [] (fun v w9 => ∃ A, v = .slice A (m.length - j) (c' - j) ∧ ∀ W9, Below W5.heap.size W5 W9 → SlcR W9 W5.heap.size 4 A (m.length - j) ((m.flatMap Ph.enc).drop (j * 4))) ?_ (fun vs L9 w9 hG9 hC9 hB K9 hK9 => ?_) ?_
            next =>
              intro i9 hi9 hb9 ha9 v w1 w2 hv hT9
              exact hv
            next =>
              have d8 := FactN.eq (hB 8 _ (by kernel_rfl) (by kernel_rfl) rfl (by decide))
              have d9 := FactN.eq (hB 9 _ (by kernel_rfl) (by kernel_rfl) rfl (by decide))
              simp only [d8, d9] at hK9 ⊢
              simp only [Act.put, List.setIfInBounds_toArray, List.set_cons_zero, List.set_cons_succ] at hK9
              refine step_sliceFrom rfl 24 42 (.tmp 50) (.tmp 51) rfl Try.underlying24 4 infoPh_size A' m.length c' j (by rfl) (by rfl) hj5 hcap ?_
              intro A' hA9
              exact hK9 _ _ _ rfl ⟨A', rfl, fun W9 hW => hA9 _ _ _ (SlcR.below HSL.out hW)⟩ hC9 (fun _ => Below.refl _ _)
            refine wpFactsW_some [] (fun v w9 => ∃ A c, v = .slice A (j + 1 + (m.length - j)) c ∧ w9.ownsRow W5.heap.size 42 4 (.slice A (j + 1 + (m.length - j)) c) (j + 1 + (m.length - j)) (((m.flatMap Ph.enc).take (j * 4) ++ [.int .i64 x.s, .int .i64 x.c, .slice A3 x.f.length c3, .int .i64 x.p]) ++ (m.flatMap Ph.enc).drop (j * 4))) ?_ (fun vs L9 w9 hG9 hC9 hB K9 hK9 => ?_) ?_
            next =>
              intro i9 hi9 hb9 ha9 v w1 w2 hv hT9
              have hb := hT9 (fun hm => by
                simp only [List.mem_cons, List.not_mem_nil, or_false] at hm hb9
                rcases hm with rfl | rfl
                · exact absurd (ha9.symm.trans (show ahead .any _ _ _ _ = true by kernel_rfl)) (by decide)
                · exact hi9 rfl)
              obtain ⟨A, c, e, ho⟩ := hv
              exact ⟨A, c, e, ownsRow_below ho hb⟩
            next =>
              simp only [Act.put, List.setIfInBounds_toArray, List.set_cons_zero, List.set_cons_succ] at hK9
              obtain ⟨A, c, e7, ho⟩ := hB 7 _ (by kernel_rfl) (by kernel_rfl) rfl (by decide)
              obtain ⟨A10, e10, hr⟩ := hB 10 _ (by kernel_rfl) (by kernel_rfl) rfl (by decide)
              simp only [e7, e10] at hK9 ⊢
              refine step_cat rfl (.tmp 49) (.tmp 52) 24 rfl 42 _ 4 48 Try.underlying24 infoPh rfl (by omega) (by omega) W5.heap.size _ (j + 1) _ (by rfl) ho W5.heap.size A10 (m.length - j) (c' - j) _ (by rfl) (hr w9 hC9) (fun u hu => ph_cells u (List.mem_of_mem_drop hu)) (by omega) hC9.size ?_
              intro A' c' w' ho' _ hb
              exact hK9 _ _ _ rfl ⟨A', c', rfl, ho'⟩ (hC9.trans hb) (fun hq => (hq (by decide)).elim)
            refine wpFactsW_some [] (fun v w9 => ∃ A c, v = .slice A (j + 1 + (m.length - j)) c ∧ w9.ownsRow W5.heap.size 42 4 (.slice A (j + 1 + (m.length - j)) c) (j + 1 + (m.length - j)) (((m.flatMap Ph.enc).take (j * 4) ++ [.int .i64 x.s, .int .i64 x.c, .slice A3 x.f.length c3, .int .i64 x.p]) ++ (m.flatMap Ph.enc).drop (j * 4))) ?_ (fun vs L9 w9 hG9 hC9 hB K9 hK9 => ?_) ?_
            next =>
              intro i9 hi9 hb9 ha9 v w1 w2 hv hT9
              have hb := hT9 (fun hm => by
                simp only [List.mem_cons, List.not_mem_nil, or_false] at hm hb9
                rcases hm with rfl | rfl
                · exact absurd (ha9.symm.trans (show ahead .any _ _ _ _ = true by kernel_rfl)) (by decide)
                · exact absurd (ha9.symm.trans (show ahead .any _ _ _ _ = true by kernel_rfl)) (by decide))
              obtain ⟨A, c, e, ho⟩ := hv
              exact ⟨A, c, e, ownsRow_below ho hb⟩
            next =>
              simp only [Act.put, List.setIfInBounds_toArray, List.set_cons_zero, List.set_cons_succ] at hK9
              obtain ⟨A, c, e11, ho⟩ := hB 11 _ (by kernel_rfl) (by kernel_rfl) rfl (by decide)
              simp only [e11] at hK9 ⊢
              go_simp
              exact hK9 _ _ _ rfl ⟨A, c, rfl, ho⟩ hC9 (fun _ => Below.refl _ _)
            refine wpFactsW_nil fun vs Lq W7 hL9 hC7 hB => ?_
            obtain ⟨A7, c7, e12, ho7⟩ := hB 12 _ rfl rfl (by decide)
            simp only [e12]
            clear hB hL9 e12
            have hnl : j + 1 + (m.length - j) = m.length + 1 := by omega
            rw [hnl] at ho7 ⊢
            have HNEW := Lib.hid (RowPh.put (x := { x with A := A3, cap := c3 }) HRow.out (hbq.trans ((b45.trans (hC7.mono b45.size)).mono hbq.size)) (HO4.out.then (b45.trans (hC7.mono b45.size))) hqs hj5 (by rw [put_cells hj5]; exact ownsRow_lower ho7 hw5))
            have HLN : (rowAt m { x with A := A3, cap := c3 } [] (j)).length = m.length + 1 := by rw [rowAt_len hj5]; rfl
            have HPH : Hid ((rowAt m { x with A := A3, cap := c3 } [] (j)).map Ph.ph = sortD ((l.map Ph.ph).take (k + 1))) := by rw [Hid, HST.out, ← HMap.out]; exact insert_done hj5 HPJ.out
            have hbz := bthen hbq (b45.trans (hC7.mono b45.size))
            clear ho7 hnl hC7 hcap HSL XC
            go_wp2_with fail
            exact ⟨⟨k + 1, A7, c7, rowAt m { x with A := A3, cap := c3 } [] (j), by omega, by go_num, by rw [HLN], by rw [HLN]; omega, ⟨q.go (Nat.le_refl _) hbz, rfl⟩, by rw [HLN]; exact HNEW.out, HPH⟩, by simp [intOf]; omega⟩
      · have HK : Hid (m.map Ph.ph = sortD (l.map Ph.ph)) := by
          have h1 := HMap.out; rw [List.take_of_length_le (by simp; omega)] at h1; exact h1
        clear hrd
        go_wp2
        go_ret2
        rw [HM.out]
        exact ⟨A', c', m, rfl, HK.out, HRow.out, q.below⟩
end Go.Proofs.Ytchkjiadnackaaa
