/- MergeAlike in the program. -/
import Derived.Test.YtjdedcalbcnkmaaMergeM
import Derived.Test.YtjdedcalbcnkmaaPhrOwn
import Derived.StillTailTactics
namespace Go.Proofs.Ytjdedcalbcnkmaa
open Go.RowKit

/-- slices.IndexFunc over phrases, whatever the function value. -/
theorem idxPhs_any (f : Ph → Bool) (g : Nat) (lb : Array Value) (eg : ∀ args w, (callFunc g args).run Try.prog w = .ok (.enter g args) w) (A : Option Addr) (c : Nat) (l : List Ph) (w : World)
    (hf : ∀ (t : Ph) (p : Since w.heap.size w), IntsR p.val p.val.heap.size t.A t.f → Calls Try.prog g (#[t.val] ++ lb) p.val fun e w' => e = .returned (.bool (f t)) ∧ Below p.val.heap.size p.val w') (h : PhsR w w.heap.size A l) :
    Calls Try.prog 51 #[.slice A l.length c, .func (.func g) #[] lb] w fun e w' => e = .returned (.int .i64 (idxFrom f 0 l)) ∧ Below w.heap.size w w' := by
  have hl := h.slc.big
  have hrd := h.ph
  have hrf : Hid (∀ i (hi : i < l.length), IntsR w w.heap.size l[i].A l[i].f) := fun i hi => h.f hi
  have HF : Hid (idxFrom f 0 (l.drop 0) = idxFrom f 0 l) := rfl
  have HC := Lib.hid hf; clear hf
  go_enter Try.func51, Try.ntmps51
  go_wp2
  go_loopw [8] (fun i wr => ∃ (k : Nat), k ≤ l.length ∧ i = .int .i64 k ∧ (∃ q : Since w.heap.size w, wr = q.val) ∧ Hid (idxFrom f k (l.drop k) = idxFrom f 0 l)) (fun i _ => l.length - (intOf i).toNat)
  case atStart => exact ⟨0, Nat.zero_le _, rfl, ⟨Since.start _ _, rfl⟩, HF⟩
  case round =>
    obtain ⟨k, hk, rfl, ⟨q, rfl⟩, HR⟩ := hrel
    by_cases hlt : k < l.length
    · obtain ⟨b, off, rfl, hb, hcell⟩ := hrd (by omega)
      obtain ⟨c0, c1, c2, c3⟩ := hcell k hlt
      have hx : Hid (∀ p : Since w.heap.size w, IntsR p.val p.val.heap.size l[k].A l[k].f) := fun p => SlcR.up (hrf.out k hlt) p.below (Nat.le_refl _)
      have hy := fun hv => idx_yes (f := f) hlt hv
      have hn := fun hv => idx_no (f := f) hlt hv
      obtain ⟨x, hxe⟩ : ∃ x, x = l[k] := ⟨_, rfl⟩
      rw [← hxe] at c0 c1 c2 c3 hx hy hn
      clear hxe hcell hrd
      cases hv : f x
      · have HE : Hid (idxFrom f (k + 1) (l.drop (k + 1)) = idxFrom f 0 l) := by rw [← hn hv]; exact HR.out
        have hcx := fun p hp => HC.out x p hp
        rw [hv] at hcx
        clear hy hn hv
        go_wp2_with fail
        refine (calls_since (Nat.le_refl _) (hcx _ (hx.out _))).mono ?_
        rintro e w1 ⟨rfl, q1, rfl⟩
        go_wp2
        go_roundw
        case rel => exact ⟨k + 1, by omega, by go_num, ⟨q1, rfl⟩, HE⟩
        case measure => simp [intOf]; omega
      · have HE : Hid ((k : Int) = idxFrom f 0 l) := by rw [← hy hv]; exact HR.out
        have hcx := fun p hp => HC.out x p hp
        rw [hv] at hcx
        clear hy hn hv
        go_wp2_with fail
        refine (calls_since (Nat.le_refl _) (hcx _ (hx.out _))).mono ?_
        rintro e w1 ⟨rfl, q1, rfl⟩
        go_wp2
        go_ret
        exact ⟨by rw [← HE.out]; rfl, q1.below⟩
    · have HE : Hid (-1 = idxFrom f 0 l) := by
        have h1 := HR.out; rw [List.drop_eq_nil_of_le (by omega)] at h1; exact h1
      clear hrd
      go_wp2
      go_ret
      exact ⟨by rw [← HE.out]; rfl, q.below⟩

/-- The closure of MergeAlike. -/
theorem mergeFn_any (x p : Ph) (gp : Nat) (w : World) (hL : Lies w gp 27 p.enc) (hx : IntsR w w.heap.size x.A x.f) (hp : IntsR w w.heap.size p.A p.f) :
    Calls Try.prog 52 #[x.val, .pointer (some ⟨gp, 0, none⟩)] w fun e w' => e = .returned (.bool (Ph.alike p x)) ∧ Below w.heap.size w w' := by
  have b1 := (Below.refl w.heap.size w).alloc (Nat.le_refl _) (.cells #[.int .i64 x.s, .int .i64 x.c, .slice x.A x.f.length x.cap, .int .i64 x.p] 27)
  have hL1 := hL.alloc (.cells #[.int .i64 x.s, .int .i64 x.c, .slice x.A x.f.length x.cap, .int .i64 x.p] 27)
  have c0 := hL1.cell 0
  have c1 := hL1.cell 1
  have c2 := hL1.cell 2
  have c3 := hL1.cell 3
  simp only [Ph.enc, List.getElem?_cons_zero, List.getElem?_cons_succ] at c0 c1 c2 c3
  have hx1 := SlcR.up hx b1 (Nat.le_refl _)
  have hp1 := SlcR.up hp b1 (Nat.le_refl _)
  have hlt := hL.lt
  clear hL hL1
  go_enter Try.func52, Try.ntmps52
  go_wp2_with fail
  refine (alike_any p x _ hp1 hx1).mono ?_
  rintro e w1 ⟨rfl, hb1⟩
  go_wp2
  go_ret
  exact ⟨rfl, bthen b1 hb1⟩

/-- A row of phrases of the call's own, and whether there is one. -/
def GivesRow (w : World) (R : List PhD × Bool) (e : Ending) (w' : World) : Prop := ∃ A c m, e = .returned (.tuple #[.slice A m.length c, .bool R.2]) ∧ m.map Ph.ph = R.1 ∧ RowPh w' w.heap.size (.slice A m.length c) m ∧ Below w.heap.size w w'

theorem idx_ph (x : Ph) (m : List Ph) : idxFrom (fun t => Ph.alike x t) 0 m = idxFrom (alikeD x.ph) 0 (m.map Ph.ph) := by
  have : ∀ (m : List Ph) (k : Nat), idxFrom (fun t => Ph.alike x t) k m = idxFrom (alikeD x.ph) k (m.map Ph.ph) := by
    intro m
    induction m with
    | nil => intro k; rfl
    | cons y m ih => intro k; rw [List.map_cons, idxFrom, idxFrom, ih, Ph.alike_ph]
  exact this m 0
theorem mergeD_step {l : List PhD} {k : Nat} (h : k < l.length) : mergeD (l.take (k + 1)) = putD (mergeD (l.take k)) l[k] := by
  unfold mergeD; rw [List.take_succ_eq_append_getElem h, List.foldl_append]; rfl
theorem merge_apart (l : List PhD) : Apart (mergeD l) := by
  have : ∀ (l acc : List PhD), Apart acc → Apart (l.foldl putD acc) := by
    intro l
    induction l with
    | nil => intro acc h; exact h
    | cons x l ih => intro acc h; exact ih _ (h.put x)
  exact this l [] List.Pairwise.nil

set_option maxRecDepth 100000 in
set_option maxHeartbeats 4000000 in
theorem implMerge_any (A : Option Addr) (c : Nat) (l : List Ph) (w : World) (h : PhsR w w.heap.size A l) :
    Calls Try.prog 32 #[.slice A l.length c] w (GivesRow w (mergeA (l.map Ph.ph))) := by
  have hl := h.slc.big
  cases hg : goodPhs l
  · have HM : Hid (mergeA (l.map Ph.ph) = ([], false)) := by unfold mergeA Hid; rw [← good_goodD, hg]; rfl
    have HG := Lib.hid hg; clear hg
    go_enter Try.func32, Try.ntmps32
    go_wp2_with fail
    refine (arePhrases_any A c l _ h).mono ?_
    rw [HG.out]
    rintro e w1 ⟨rfl, hb1⟩
    go_wp2
    go_ret2
    rw [HM.out]
    exact ⟨none, 0, [], rfl, rfl, RowPh.nil _ _, hb1⟩
  · have hlen := good_len hg
    have HM : Hid (mergeA (l.map Ph.ph) = if goodD (mergeD (l.map Ph.ph)) = true then (mergeD (l.map Ph.ph), true) else ([], false)) := by unfold mergeA Hid; rw [← good_goodD, hg]; rfl
    have HB : Hid (∀ i (hi : i < l.length), (0 ≤ l[i].c ∧ l[i].c ≤ 99) ∧ l[i].f.length ≤ 9) := fun i hi => by
      obtain ⟨_, ⟨c1, c2⟩, hr, _⟩ := Ph.bounds (good_at hg hi)
      exact ⟨⟨by omega, c2⟩, faults9 hr⟩
    have HG := Lib.hid hg; clear hg
    have hrd := fun (W : World) (hW : PhsR W W.heap.size A l) => hW.ph
    go_enter Try.func32, Try.ntmps32
    go_wp2_with fail
    refine (arePhrases_any A c l _ h).mono ?_
    rw [HG.out]
    rintro e w1 ⟨rfl, hb1⟩
    have H1 := Lib.hid (h.then hb1)
    go_wp2
    have hw1 := hb1.size
    go_loopw [4, 6, 7, 13] (fun o _ _ i wr => ∃ (k : Nat) (A' : Option Addr) (c' : Nat) (m : List Ph), k ≤ l.length ∧ i = .int .i64 k ∧ o = .slice A' m.length c' ∧ m.length ≤ 10 ∧ (∃ q : Since w1.heap.size w1, wr = q.val) ∧ Hid (RowPh wr w1.heap.size (.slice A' m.length c') m) ∧ Hid (m.map Ph.ph = mergeD ((l.map Ph.ph).take k)) ∧ Hid (Slim k (m.map Ph.ph))) (fun _ _ _ i _ => l.length - (intOf i).toNat)
    case atStart => exact ⟨0, none, 0, [], Nat.zero_le _, rfl, rfl, by simp, ⟨Since.start _ _, rfl⟩, RowPh.nil _ _, rfl, ⟨by simp, by simp⟩⟩
    case round =>
      obtain ⟨k, A', c', m, hk, rfl, rfl, hm10, ⟨q, rfl⟩, HRow, HMap, HSl⟩ := hrel
      by_cases hlt : k < l.length
      · have hmf : ∀ (fn : Fn) (first cap : Array Value) (w : World), (Instr.makeFunc fn first cap).run Try.prog w = .ok (.func fn first cap) w := fun _ _ _ _ => rfl
        have hR0 := H1.out.then q.below
        obtain ⟨b, off, rfl, hb, hcell⟩ := hrd _ hR0 (by omega)
        obtain ⟨c0, c1, c2, c3⟩ := hcell k hlt
        have hxf : IntsR q.val q.val.heap.size l[k].A l[k].f := hR0.f hlt
        obtain ⟨⟨bc1, bc2⟩, bf⟩ := HB.out k hlt
        have HST : Hid (mergeD ((l.map Ph.ph).take (k + 1)) = putD (mergeD ((l.map Ph.ph).take k)) l[k].ph) := by
          rw [Hid, mergeD_step (by simpa using hlt)]; simp
        obtain ⟨x, hxe⟩ : ∃ x, x = l[k] := ⟨_, rfl⟩
        rw [← hxe] at c0 c1 c2 c3 hxf bc1 bc2 bf HST
        clear hxe hcell hrd hR0
        have k0 := c0 (Since.start _ _)
        have k1 := c1 (Since.start _ _)
        have k2 := c2 (Since.start _ _)
        have k3 := c3 (Since.start _ _)
        change q.val.cell? _ = _ at k0
        change q.val.cell? _ = _ at k1
        change q.val.cell? _ = _ at k2
        change q.val.cell? _ = _ at k3
        clear c0 c1 c2 c3
        have b2 := (Below.refl q.val.heap.size q.val).alloc (Nat.le_refl _) (.cells #[.int .i64 x.s, .int .i64 x.c, .slice x.A x.f.length x.cap, .int .i64 x.p] 27)
        have L2 := Lies.new q.val 27 #[.int .i64 x.s, .int .i64 x.c, .slice x.A x.f.length x.cap, .int .i64 x.p]
        have hxf2 := SlcR.up hxf b2 (Nat.le_refl _)
        have HR2 := Lib.hid (HRow.out.below b2)
        have IDX := idxPhs_any (fun t => Ph.alike x t) 52 #[.pointer (some ⟨q.val.heap.size, 0, none⟩)] Try.call52 A' c' m _ (fun t p ht => mergeFn_any t x q.val.heap.size p.val (L2.below p.below L2.lt) ht (SlcR.up hxf2 p.below (Nat.le_refl _))) (HRow.out.below b2).reads
        rw [idx_ph, HMap.out] at IDX
        have hqs := q.size
        rcases idx_spec (f := alikeD x.ph) (mergeD ((l.map Ph.ph).take k)) 0 with ⟨h1, _⟩ | ⟨i, hi, h1, _⟩
        · rw [h1] at IDX
          have HP : Hid (putD (mergeD ((l.map Ph.ph).take k)) x.ph = mergeD ((l.map Ph.ph).take k) ++ [x.ph]) := putD_new (by omega)
          clear h1
          have HIDX := Lib.hid IDX; clear IDX
          go_wp2_with fail
          generalize q.val.alloc (.cells #[.int .i64 x.s, .int .i64 x.c, .slice x.A x.f.length x.cap, .int .i64 x.p] 27) = W2 at b2 L2 hxf2 HR2 HIDX ⊢
          refine HIDX.out.mono ?_
          rintro e w3 ⟨rfl, hb3⟩
          have L3 := L2.below hb3 L2.lt
          have hxf3 := SlcR.up hxf2 hb3 (Nat.le_refl _)
          have j0 := L3.cell 0
          have j1 := L3.cell 1
          have j2 := L3.cell 2
          have j3 := L3.cell 3
          simp only [List.getElem?_cons_zero, List.getElem?_cons_succ] at j0 j1 j2 j3
          clear k0 k1 k2 k3
          go_wp2_with fail
          refine (copyPhrase_any x _ hxf3 (by omega)).mono ?_
          rintro e w4 ⟨A4, c4, rfl, hO4, hb4⟩
          have hb14 := bthen (bthen b2 hb3) hb4
          have HO4 := Lib.hid (hO4.lower (bthen b2 hb3).size); clear hO4
          have HROW := Lib.hid (ownsRow_below HRow.out.row hb14)
          have hsz4 : w1.heap.size ≤ w4.heap.size := Nat.le_trans hqs hb14.size
          clear j0 j1 j2 j3
          go_wp2_with (at_builtin; refine wpList_push (w0 := w4) rfl _ _ 35 rfl 27 _ 4 48 Try.underlying35 infoPh rfl (by omega) (by omega) w1.heap.size _ _ _ rfl HROW #[.int .i64 x.s, .int .i64 x.c, .slice A4 x.f.length c4, .int .i64 x.p] 1 _ rfl (by first | rfl | exact Array.size_push _) rfl (by simp [Value.oneCell']) (by omega) hsz4 rfl rfl rfl rfl ?_; intro v' w5 HO5 hg5 hb5)
          have HNEW := Lib.hid (RowPh.push (x := { x with A := A4, cap := c4 }) HRow.out hb14 HO4.out hqs HO5.out hg5)
          obtain ⟨A5, c5, hv5⟩ := ownsRow_slice HO5.out
          subst hv5
          go_roundw
          case rel =>
            have hml : m.length ≤ k := by have := HSl.out.1; simpa using this
            refine ⟨k + 1, A5, c5, m ++ [{ x with A := A4, cap := c4 }], by omega, by go_num, by simp, by simp; omega, ⟨(q.go (Nat.le_refl _) hb14).go' hb5, rfl⟩, by rw [Hid]; simpa using HNEW.out, ?_, ?_⟩
            · rw [Hid, HST.out, HP.out, ← HMap.out]; simp [Ph.ph]
            · have h2 := HSl.out.put (p := x.ph) ⟨bc1, bc2⟩ bf
              rw [HMap.out, HP.out, ← HMap.out] at h2
              rw [Hid]; simpa [Ph.ph] using h2
          case measure => simp [intOf]; omega
        · rw [h1, Nat.zero_add] at IDX
          have HP : Hid (putD (mergeD ((l.map Ph.ph).take k)) x.ph = addAt x.c i (mergeD ((l.map Ph.ph).take k))) := putD_old (by simpa using h1)
          clear h1
          have hi' : i < m.length := by have h2 := congrArg List.length HMap.out; simp at h2; omega
          have HIDX := Lib.hid IDX; clear IDX
          go_wp2_with fail
          generalize q.val.alloc (.cells #[.int .i64 x.s, .int .i64 x.c, .slice x.A x.f.length x.cap, .int .i64 x.p] 27) = W2 at b2 L2 hxf2 HR2 HIDX ⊢
          refine HIDX.out.mono ?_
          rintro e w3 ⟨rfl, hb3⟩
          have L3 := L2.below hb3 L2.lt
          have j1 := L3.cell 1
          simp only [List.getElem?_cons_zero, List.getElem?_cons_succ] at j1
          have HR3 := Lib.hid (HR2.out.below hb3)
          obtain ⟨g5, rfl⟩ : ∃ g, A' = some ⟨g, 0, none⟩ := by
            obtain ⟨_, h0 | ⟨g, cap, cur, hv, _⟩⟩ := HR3.out.row
            · have := h0.2; omega
            · injection hv with e1 e2 e3; exact ⟨g, e1⟩
          have hmb : Hid (0 ≤ m[i].c ∧ m[i].c ≤ 99 * (k : Int)) := by
            have h2 := HSl.out.2 m[i].ph (List.mem_map.2 ⟨m[i], List.getElem_mem hi', rfl⟩)
            exact ⟨h2.1, h2.2.1⟩
          have d1 : w3.cell? ⟨g5, i * 4 + 1, none⟩ = some (.int .i64 m[i].c) := by
            rw [HR3.out.row.cellAt _ (by omega), flat_at Ph.enc 4 Ph.enc_len m i hi' 1 (by omega)]; rfl
          have f1 : w3.frozen? ⟨g5, i * 4 + 1, none⟩ = false := HR3.out.row.frozenAt _
          have HBUMP : Hid (∀ c : Int, RowPh (w3.setCell ⟨g5, i * 4 + 1, none⟩ (.int .i64 c)) w1.heap.size (.slice (some ⟨g5, 0, none⟩) m.length c') (setC i c m)) := fun c => HR3.out.bump hi'
          have HPHC : Hid (∀ c : Int, (setC i c m).map Ph.ph = (m.map Ph.ph).take i ++ (m[i].s, c, m[i].f, m[i].p) :: (m.map Ph.ph).drop (i + 1)) := fun c => setC_ph hi'
          have HADD : Hid (addAt x.c i (m.map Ph.ph) = (m.map Ph.ph).take i ++ (m[i].s, m[i].c + x.c, m[i].f, m[i].p) :: (m.map Ph.ph).drop (i + 1)) := by
            rw [Hid, addAt_split i _ (by simpa using hi')]; simp [Ph.ph]
          have hg5 : w1.heap.size ≤ g5 := (HR3.out.row.lt g5 rfl).1
          obtain ⟨mc, hmc⟩ : ∃ mc, mc = m[i].c := ⟨_, rfl⟩
          rw [← hmc] at hmb d1 HADD
          clear hmc k0 k1 k2 k3
          have hmb1 := hmb.out.1
          have hmb2 := hmb.out.2
          have hb13 := bthen b2 hb3
          have hk10 : (k : Int) ≤ 10 := by omega
          have hi1 : (0 : Int) ≤ (i : Int) := by omega
          have hi2 : (i : Int) < (m.length : Int) := by omega
          go_wp2_with fail
          go_still_tail 10, (by kernel_rfl)
          go_wp2
          go_roundw
          case rel =>
            refine ⟨k + 1, some ⟨g5, 0, none⟩, c', setC i (mc + x.c) m, by omega, by go_num, by rw [setC_len], by rw [setC_len]; omega, ⟨(q.go (Nat.le_refl _) hb13).go' (((Below.refl _ _).setCell (p := ⟨g5, i * 4 + 1, none⟩) (by simpa using hg5) _).drew), rfl⟩, ?_, ?_, ?_⟩
            · rw [Hid, setC_len]; exact (HBUMP.out (mc + x.c)).below (Below.refl _ _).drew
            · rw [Hid, HPHC.out, HST.out, HP.out, ← HMap.out, HADD.out]
            · have h2 := HSl.out.put (p := x.ph) ⟨bc1, bc2⟩ bf
              rw [HMap.out, HP.out, ← HMap.out, HADD.out] at h2
              rw [Hid, HPHC.out]; exact h2
          case measure => simp [intOf]; omega
      · have HK : Hid (m.map Ph.ph = mergeD (l.map Ph.ph)) := by
          have h1 := HMap.out; rw [List.take_of_length_le (by simp; omega)] at h1; exact h1
        have hgm : Hid (goodPhs m = goodD (mergeD (l.map Ph.ph))) := by rw [Hid, good_goodD, HK.out]
        clear hrd
        cases hgd : goodD (mergeD (l.map Ph.ph))
        · rw [hgd] at hgm HM
          go_wp2_with fail
          refine (arePhrases_any A' c' m _ (HRow.out.reads)).mono ?_
          rw [hgm.out]
          rintro e w2 ⟨rfl, hb2⟩
          go_wp2
          go_ret2
          rw [HM.out]
          exact ⟨none, 0, [], rfl, rfl, RowPh.nil _ _, bthen hb1 (q.go (Nat.le_refl _) hb2).below⟩
        · rw [hgd] at hgm HM
          go_wp2_with fail
          refine (arePhrases_any A' c' m _ (HRow.out.reads)).mono ?_
          rw [hgm.out]
          rintro e w2 ⟨rfl, hb2⟩
          go_wp2
          go_ret2
          rw [HM.out]
          exact ⟨A', c', m, rfl, HK.out, (HRow.out.below hb2).lower hw1, bthen hb1 (q.go (Nat.le_refl _) hb2).below⟩
end Go.Proofs.Ytjdedcalbcnkmaa
