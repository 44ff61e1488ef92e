/- Fc07: the texts MergeS SortU LawCopies DrawCnt Open OpenCode, joined into one file. -/
import Derived.Deep.DeepCutAuto
import Derived.ProofKit
import Derived.ChangeOld
import Derived.ShutString
import Derived.OpenShut
import Derived.Deep.Slices
import Derived.Deep.Fields
import Derived.Test.YtchkjiadnackaaaFc01
import Derived.Test.YtchkjiadnackaaaFc03
import Derived.Test.YtchkjiadnackaaaFc04
import Derived.Test.YtchkjiadnackaaaFc06

set_option linter.unusedVariables false

/- MergeAlike in the reference. -/
namespace Go.Proofs.Ytchkjiadnackaaa
open Go.RowKit

theorem RowPh.bump4 {w : World} {B g cap : Nat} {l : List Ph} {i : Nat} {c : Int} (h : RowPh w B (.slice (some ⟨g, 0, none⟩) l.length cap) l) (hi : i < l.length) :
    RowPh ((((w.setCell ⟨g, i * 4, none⟩ (.int .i64 l[i].s)).setCell ⟨g, i * 4 + 1, none⟩ (.int .i64 c)).setCell ⟨g, i * 4 + 2, none⟩ (.slice l[i].A l[i].f.length l[i].cap)).setCell ⟨g, i * 4 + 3, none⟩ (.int .i64 l[i].p)) B (.slice (some ⟨g, 0, none⟩) l.length cap) (setC i c l) := by
  have hlen : (l.flatMap Ph.enc).length = l.length * 4 := flat_len Ph.enc 4 Ph.enc_len l
  have at_ : ∀ j (hj : j < 4) u, (l[i].enc)[j]? = some u → (l.flatMap Ph.enc)[i * 4 + j]? = some u := fun j hj u hu => by rw [flat_at Ph.enc 4 Ph.enc_len l i hi j hj]; exact hu
  have same : ∀ (cs : List Value) (j : Nat) (u : Value), cs[j]? = some u → cs.set j u = cs := fun cs j u hu => by
    obtain ⟨hj, e⟩ := List.getElem?_eq_some_iff.1 hu
    rw [← e]; exact List.set_getElem_self hj
  have r0 := h.row.stored (i * 4) (.int .i64 l[i].s)
  rw [same _ (i * 4) _ (by simpa using at_ 0 (by omega) _ rfl)] at r0
  have h0 : RowPh (w.setCell ⟨g, i * 4, none⟩ (.int .i64 l[i].s)) B (.slice (some ⟨g, 0, none⟩) l.length cap) l := ⟨r0.1, fun x hx => (h.fs x hx).grown h.row ne_types r0.2, h.nd⟩
  have h1 := h0.bump (c := c) hi
  rw [← setC_len i c l] at h1
  have hlt : i < (setC i c l).length := by rw [setC_len]; exact hi
  have e1 : (setC i c l)[i] = { l[i] with c := c } := by simp [setC]
  have at1 : ∀ j (hj : j < 4) u, ((setC i c l)[i].enc)[j]? = some u → ((setC i c l).flatMap Ph.enc)[i * 4 + j]? = some u := fun j hj u hu => by rw [flat_at Ph.enc 4 Ph.enc_len _ i hlt j hj]; exact hu
  rw [e1] at at1
  have r2 := h1.row.stored (i * 4 + 2) (.slice l[i].A l[i].f.length l[i].cap)
  rw [same _ _ _ (at1 2 (by omega) _ rfl)] at r2
  have h2 : RowPh _ B (.slice (some ⟨g, 0, none⟩) (setC i c l).length cap) (setC i c l) := ⟨r2.1, fun x hx => (h1.fs x hx).grown h1.row ne_types r2.2, h1.nd⟩
  have r3 := h2.row.stored (i * 4 + 3) (.int .i64 l[i].p)
  rw [same _ _ _ (at1 3 (by omega) _ rfl)] at r3
  have h3 : RowPh _ B (.slice (some ⟨g, 0, none⟩) (setC i c l).length cap) (setC i c l) := ⟨r3.1, fun x hx => (h2.fs x hx).grown h2.row ne_types r3.2, h2.nd⟩
  rw [setC_len] at h3
  exact h3

theorem lastTo_yes {p : PhD} {out : List PhD} {k : Nat} (h : k < out.length) (ha : alikeD out[k] p = true) : lastTo p out (k + 1) = k := by unfold lastTo; rw [dif_pos h, if_pos ha]
theorem lastTo_no {p : PhD} {out : List PhD} {k : Nat} (h : k < out.length) (ha : alikeD out[k] p = false) : lastTo p out (k + 1) = lastTo p out k := by
  rw [lastTo, dif_pos h, if_neg (by rw [ha]; simp)]

set_option maxRecDepth 100000 in
set_option maxHeartbeats 8000000 in
theorem specMerge_any (A : Option Addr) (c : Nat) (l : List Ph) (w : World) (h : PhsR w w.heap.size A l) :
    Calls Try.prog 15 #[.slice A l.length c] w (GivesRow w (mergeA (l.map Ph.ph))) := by
  have hl := h.slc.big
  have b0 := (Below.refl w.heap.size w).alloc (Nat.le_refl _) (.cells #[] 42)
  have L0 := Lies.new w 42 #[]
  have h0 := h.then b0
  have R0 : RowPh (w.alloc (.cells #[] 42)) w.heap.size (.slice (some ⟨w.heap.size, 0, none⟩) 0 0) [] := ⟨owns_empty L0 (Nat.le_refl _), by simp, List.Pairwise.nil⟩
  cases hg : goodPhs l
  · have HM : Hid (mergeA (l.map Ph.ph) = ([], false)) := by unfold mergeA Hid; rw [← good_goodD, hg]; rfl
    have HG := Lib.hid hg; clear hg
    go_enter Try.func15, Try.ntmps15
    go_wp2_with fail
    refine (l30Good_any A c l _ h0).mono ?_
    rw [HG.out]
    rintro e w1 ⟨rfl, hb1⟩
    go_wp2
    go_ret2
    rw [HM.out]
    exact ⟨some ⟨w.heap.size, 0, none⟩, 0, [], rfl, rfl, R0.below hb1, bthen b0 hb1⟩
  · have hlen := good_len hg
    have HM : Hid (mergeA (l.map Ph.ph) = if goodD (mergeD (l.map Ph.ph)) = true then (mergeD (l.map Ph.ph), true) else ([], false)) := by unfold mergeA Hid; rw [← good_goodD, hg]; rfl
    have HB : Hid (∀ i (hi : i < l.length), (0 ≤ l[i].c ∧ l[i].c ≤ 99) ∧ l[i].f.length ≤ 9) := fun i hi => by
      obtain ⟨_, ⟨c1, c2⟩, hr, _⟩ := Ph.bounds (good_at hg hi)
      exact ⟨⟨by omega, c2⟩, faults9 hr⟩
    have HG := Lib.hid hg; clear hg
    have hrd := fun (W : World) (hW : PhsR W W.heap.size A l) => hW.ph
    have HR0 := Lib.hid R0
    clear R0
    go_enter Try.func15, Try.ntmps15
    go_wp2_with fail
    refine (l30Good_any A c l _ h0).mono ?_
    rw [HG.out]
    rintro e w1 ⟨rfl, hb1'⟩
    have hb1 := bthen b0 hb1'
    have hw1 := hb1.size
    have HPR := Lib.hid h
    go_wp2
    go_loopw [4, 5, 6, 7, 8, 9] (fun o i _ _ _ _ wr => ∃ (k : Nat) (A' : Option Addr) (c' : Nat) (m : List Ph), k ≤ l.length ∧ i = .int .i64 k ∧ o = .slice A' m.length c' ∧ m.length ≤ 10 ∧ (∃ q : Since w.heap.size w, wr = q.val) ∧ Hid (RowPh wr w.heap.size (.slice A' m.length c') m) ∧ Hid (m.map Ph.ph = mergeD ((l.map Ph.ph).take k)) ∧ Hid (Slim k (m.map Ph.ph))) (fun _ i _ _ _ _ _ => l.length - (intOf i).toNat)
    case atStart => exact ⟨0, some ⟨w.heap.size, 0, none⟩, 0, [], Nat.zero_le _, rfl, rfl, by simp, ⟨⟨w1, hb1⟩, rfl⟩, HR0.out.below hb1', rfl, ⟨by simp, by simp⟩⟩
    case round =>
      obtain ⟨k, A', c', m, hk, rfl, rfl, hm10, ⟨q, rfl⟩, HRow, HMap, HSl⟩ := hrel
      by_cases hlt : k < l.length
      · have hR0 := (HPR.out.below q.below).mono q.size
        obtain ⟨b, off, rfl, hb, hcell⟩ := hrd _ hR0 (by omega)
        obtain ⟨c0, c1, c2, c3⟩ := hcell k hlt
        have hxf : IntsR q.val q.val.heap.size l[k].A l[k].f := hR0.f hlt
        obtain ⟨⟨bc1, bc2⟩, bf⟩ := HB.out k hlt
        have HST : Hid (mergeD ((l.map Ph.ph).take (k + 1)) = putD (mergeD ((l.map Ph.ph).take k)) l[k].ph) := by
          rw [Hid, mergeD_step (by simpa using hlt)]; simp
        obtain ⟨x, hxe⟩ : ∃ x, x = l[k] := ⟨_, rfl⟩
        rw [← hxe] at c0 c1 c2 c3 hxf bc1 bc2 bf HST
        clear hxe hcell hrd hR0
        have k0 := c0 (Since.start _ _)
        have k1 := c1 (Since.start _ _)
        have k2 := c2 (Since.start _ _)
        have k3 := c3 (Since.start _ _)
        change q.val.cell? _ = _ at k0
        change q.val.cell? _ = _ at k1
        change q.val.cell? _ = _ at k2
        change q.val.cell? _ = _ at k3
        clear c0 c1 c2 c3
        have b2 := (Below.refl q.val.heap.size q.val).alloc (Nat.le_refl _) (.cells #[.int .i64 x.s, .int .i64 x.c, .slice x.A x.f.length x.cap, .int .i64 x.p] 42)
        have L2 := Lies.new q.val 42 #[.int .i64 x.s, .int .i64 x.c, .slice x.A x.f.length x.cap, .int .i64 x.p]
        have hxf2 := SlcR.up hxf b2 (Nat.le_refl _)
        have hqs := q.size
        go_wp2_with fail
        generalize q.val.alloc (.cells #[.int .i64 x.s, .int .i64 x.c, .slice x.A x.f.length x.cap, .int .i64 x.p] 42) = W2 at b2 L2 hxf2 ⊢
        generalize hgp : q.val.heap.size = gp at L2 ⊢
        refine (l1Own_any x.A x.cap x.f W2 hxf2 (by omega)).mono ?_
        rintro e w3 ⟨A3, c3, rfl, hO3, hb3⟩
        have L3 := L2.below hb3 L2.lt
        have f2 := L3.frozen 2
        have j2 := L3.cell 2
        simp only [List.getElem?_cons_zero, List.getElem?_cons_succ] at j2
        have hgl := L3.lt
        have hb23 := bthen b2 hb3
        clear k0 k1 k2 k3
        have hgw : w.heap.size ≤ gp := by omega
        have L4 : Lies (w3.setCell ⟨gp, 2, none⟩ (.slice A3 x.f.length c3)) gp 42 [.int .i64 x.s, .int .i64 x.c, .slice A3 x.f.length c3, .int .i64 x.p] := L3.set 2 _
        have hg4 : w3.grownBy (w3.setCell ⟨gp, 2, none⟩ (.slice A3 x.f.length c3)) (some gp) := grown_set (World.grownBy.refl w3 _)
        have HO4 := Lib.hid ((hO3.kept hg4 L2.lt).lower b2.size)
        have hbq : Below q.val.heap.size q.val (w3.setCell ⟨gp, 2, none⟩ (.slice A3 x.f.length c3)) := hb23.setCell (p := ⟨gp, 2, none⟩) (by simp only; omega) _
        have HR4 := Lib.hid (HRow.out.below hbq)
        go_wp2
        clear hO3 hg4 L3 L2 f2 j2
        generalize w3.setCell ⟨gp, 2, none⟩ (.slice A3 x.f.length c3) = W4 at L4 HO4 hbq HR4 ⊢
        have n0 : ∀ p : Since W4.heap.size W4, p.val.cell? ⟨gp, 0, none⟩ = some (.int .i64 x.s) := fun p => (p.cell L4.lt).trans (L4.cell 0)
        have n1 : ∀ p : Since W4.heap.size W4, p.val.cell? ⟨gp, 1, none⟩ = some (.int .i64 x.c) := fun p => (p.cell L4.lt).trans (L4.cell 1)
        have n2 : ∀ p : Since W4.heap.size W4, p.val.cell? ⟨gp, 2, none⟩ = some (.slice A3 x.f.length c3) := fun p => (p.cell L4.lt).trans (L4.cell 2)
        have n3 : ∀ p : Since W4.heap.size W4, p.val.cell? ⟨gp, 3, none⟩ = some (.int .i64 x.p) := fun p => (p.cell L4.lt).trans (L4.cell 3)
        have hgp4 : gp < W4.heap.size := L4.lt
        have HX4 : Hid (∀ p : Since W4.heap.size W4, IntsR p.val p.val.heap.size A3 x.f) := fun p => SlcR.up HO4.out.reads p.below (Nat.le_refl _)
        have HM4 : Hid (∀ (p : Since W4.heap.size W4) j (hj : j < m.length), IntsR p.val p.val.heap.size m[j].A m[j].f) := fun p j hj => SlcR.up (HR4.out.reads.f hj) p.below (Nat.le_refl _)
        have hrm := HR4.out.reads.ph
        clear L4
        go_loopw [7, 8] (fun a j wr => ∃ (j' : Nat), j' ≤ m.length ∧ j = .int .i64 j' ∧ a = .int .i64 (lastTo x.ph (m.map Ph.ph) j') ∧ (∃ p : Since W4.heap.size W4, wr = p.val)) (fun _ j _ => m.length - (intOf j).toNat)
        case atStart => exact ⟨0, Nat.zero_le _, rfl, rfl, ⟨Since.start _ _, rfl⟩⟩
        case round =>
          obtain ⟨j, hj, rfl, rfl, ⟨p, rfl⟩⟩ := hrel
          by_cases hjl : j < m.length
          · obtain ⟨b', off', rfl, hb', hcell'⟩ := hrm (by omega)
            obtain ⟨d0, d1, d2, d3⟩ := hcell' j hjl
            have HMj : Hid (∀ p : Since W4.heap.size W4, IntsR p.val p.val.heap.size m[j].A m[j].f) := fun p => HM4.out p j hjl
            have hal : ∀ v, alikeD m[j].ph x.ph = v → lastTo x.ph (m.map Ph.ph) (j + 1) = if v = true then (j : Int) else lastTo x.ph (m.map Ph.ph) j := by
              intro v hv
              have e : (m.map Ph.ph)[j]'(by simpa using hjl) = m[j].ph := by simp
              cases v
              · rw [lastTo_no (by simpa using hjl) (by rw [e]; exact hv)]; rfl
              · rw [lastTo_yes (by simpa using hjl) (by rw [e]; exact hv)]; rfl
            obtain ⟨y, hye⟩ : ∃ y, y = m[j] := ⟨_, rfl⟩
            rw [← hye] at d0 d1 d2 d3 HMj hal
            clear hye hcell' hrm
            have HC : Hid (∀ (p : Since W4.heap.size W4), Calls Try.prog 45 #[y.val, Ph.val { x with A := A3, cap := c3 }] p.val fun e w' => e = .returned (.bool (alikeD y.ph x.ph)) ∧ Below p.val.heap.size p.val w') := fun p => by
              have := l30Alike_any y { x with A := A3, cap := c3 } p.val (HMj.out p) (HX4.out p)
              rw [Ph.alike_ph] at this; exact this
            have hj1 : (0 : Int) ≤ (j : Int) := by omega
            have hj2 : (j : Int) < (m.length : Int) := by omega
            cases hv : alikeD y.ph x.ph
            · have HL := Lib.hid (hal _ hv)
              rw [hv] at HC
              clear hal hv
              go_wp2
              refine wp_region_since _ (by kernel_rfl) (by kernel_rfl) ?_
              repeat (any_goals (first | go_big_quiet_step ((go_at_call 45; refine calls_since (Nat.le_refl _) (HC.out _))) | (refine wpQuiet_step (fun K hK => ?_); go_simp; split <;> (refine hK _ ?_; clear hK K))))
              all_goals (refine wpQuiet_nil ?_; rintro _ ⟨q1, rfl⟩)
              go_wp2
              go_roundw
              case rel => exact ⟨j + 1, by omega, by go_num, by rw [HL.out]; rfl, ⟨q1, rfl⟩⟩
              case measure => simp [intOf]; omega
            · have HL := Lib.hid (hal _ hv)
              rw [hv] at HC
              clear hal hv
              go_wp2
              refine wp_region_since _ (by kernel_rfl) (by kernel_rfl) ?_
              repeat (any_goals (first | go_big_quiet_step ((go_at_call 45; refine calls_since (Nat.le_refl _) (HC.out _))) | (refine wpQuiet_step (fun K hK => ?_); go_simp; split <;> (refine hK _ ?_; clear hK K))))
              all_goals (refine wpQuiet_nil ?_; rintro _ ⟨q1, rfl⟩)
              go_wp2
              go_roundw
              case rel => exact ⟨j + 1, by omega, by go_num, by rw [HL.out]; rfl, ⟨q1, rfl⟩⟩
              case measure => simp [intOf]; omega
          · obtain rfl : j = m.length := by omega
            have HIX : Hid (lastTo x.ph (m.map Ph.ph) m.length = idxFrom (alikeD x.ph) 0 (mergeD ((l.map Ph.ph).take k))) := by
              have h1 := lastTo_idx (p := x.ph) (merge_apart ((l.map Ph.ph).take k))
              rw [← HMap.out] at h1 ⊢
              rw [Hid, ← h1]; simp
            have hbqp := bthen hbq p.below
            rcases idx_spec (f := alikeD x.ph) (mergeD ((l.map Ph.ph).take k)) 0 with ⟨h1, _⟩ | ⟨i, hi, h1, _⟩
            · have HP : Hid (putD (mergeD ((l.map Ph.ph).take k)) x.ph = mergeD ((l.map Ph.ph).take k) ++ [x.ph]) := putD_new (by omega)
              have hix : lastTo x.ph (m.map Ph.ph) m.length = -1 := by rw [HIX.out]; exact h1
              rw [hix]
              clear h1 hix
              have HROW := Lib.hid (ownsRow_below HR4.out.row p.below)
              have hszp : w.heap.size ≤ p.val.heap.size := Nat.le_trans hqs hbqp.size
              have hml : m.length ≤ k := by have := HSl.out.1; simpa using this
              clear hrm
              go_wp2_with (at_builtin; refine wpList_push (w0 := p.val) rfl _ _ 24 rfl 42 _ 4 48 Try.underlying24 infoPh rfl (by omega) (by omega) w.heap.size _ _ _ rfl HROW #[.int .i64 x.s, .int .i64 x.c, .slice A3 x.f.length c3, .int .i64 x.p] 1 _ rfl (by first | rfl | exact Array.size_push _) rfl (by simp [Value.oneCell']) (by omega) hszp rfl rfl rfl rfl ?_; intro v' w5 HO5 hg5 hb5)
              have HNEW := Lib.hid (RowPh.push (x := { x with A := A3, cap := c3 }) HRow.out hbqp (HO4.out.then p.below) hqs HO5.out hg5)
              obtain ⟨A5, c5, hv5⟩ := ownsRow_slice HO5.out
              subst hv5
              go_roundw
              case rel =>
                refine ⟨k + 1, A5, c5, m ++ [{ x with A := A3, cap := c3 }], by omega, by go_num, by simp, by simp; omega, ⟨(q.go (Nat.le_refl _) hbqp).go' hb5, rfl⟩, by rw [Hid]; simpa using HNEW.out, ?_, ?_⟩
                · rw [Hid, HST.out, HP.out, ← HMap.out]; simp [Ph.ph]
                · have h2 := HSl.out.put (p := x.ph) ⟨bc1, bc2⟩ bf
                  rw [HMap.out, HP.out, ← HMap.out] at h2
                  rw [Hid]; simpa [Ph.ph] using h2
              case measure => simp [intOf]; omega
            · rw [Nat.zero_add] at h1
              have HP : Hid (putD (mergeD ((l.map Ph.ph).take k)) x.ph = addAt x.c i (mergeD ((l.map Ph.ph).take k))) := putD_old h1
              have hix : lastTo x.ph (m.map Ph.ph) m.length = (i : Int) := by rw [HIX.out]; exact h1
              rw [hix]
              clear h1 hix
              have hi' : i < m.length := by have h2 := congrArg List.length HMap.out; simp at h2; omega
              have HR5 := Lib.hid (HR4.out.below p.below)
              obtain ⟨g5, rfl⟩ : ∃ g, A' = some ⟨g, 0, none⟩ := by
                obtain ⟨_, h0 | ⟨g, cap, cur, hv, _⟩⟩ := HR5.out.row
                · have := h0.2; omega
                · injection hv with e1 e2 e3; exact ⟨g, e1⟩
              have hmb : Hid (0 ≤ m[i].c ∧ m[i].c ≤ 99 * (k : Int)) := by
                have h2 := HSl.out.2 m[i].ph (List.mem_map.2 ⟨m[i], List.getElem_mem hi', rfl⟩)
                exact ⟨h2.1, h2.2.1⟩
              have at5 : ∀ j (hj : j < 4) u, (m[i].enc)[j]? = some u → p.val.cell? ⟨g5, i * 4 + j, none⟩ = some u := fun j hj u hu => by
                rw [HR5.out.row.cellAt _ (by omega), flat_at Ph.enc 4 Ph.enc_len m i hi' j hj]; exact hu
              have e0 : p.val.cell? ⟨g5, i * 4, none⟩ = some (.int .i64 m[i].s) := at5 0 (by omega) _ rfl
              have e1 := at5 1 (by omega) _ rfl
              have e2 := at5 2 (by omega) _ rfl
              have e3 := at5 3 (by omega) _ rfl
              have f0 : p.val.frozen? ⟨g5, i * 4, none⟩ = false := HR5.out.row.frozenAt _
              have f1 : p.val.frozen? ⟨g5, i * 4 + 1, none⟩ = false := HR5.out.row.frozenAt _
              have f2 : p.val.frozen? ⟨g5, i * 4 + 2, none⟩ = false := HR5.out.row.frozenAt _
              have f3 : p.val.frozen? ⟨g5, i * 4 + 3, none⟩ = false := HR5.out.row.frozenAt _
              have HBUMP : Hid (∀ (c : Int), RowPh ((((p.val.setCell ⟨g5, i * 4, none⟩ (.int .i64 m[i].s)).setCell ⟨g5, i * 4 + 1, none⟩ (.int .i64 c)).setCell ⟨g5, i * 4 + 2, none⟩ (.slice m[i].A m[i].f.length m[i].cap)).setCell ⟨g5, i * 4 + 3, none⟩ (.int .i64 m[i].p)) w.heap.size (.slice (some ⟨g5, 0, none⟩) m.length c') (setC i c m)) := fun c => HR5.out.bump4 hi'
              have HPHC : Hid (∀ c : Int, (setC i c m).map Ph.ph = (m.map Ph.ph).take i ++ (m[i].s, c, m[i].f, m[i].p) :: (m.map Ph.ph).drop (i + 1)) := fun c => setC_ph hi'
              have HADD : Hid (addAt x.c i (m.map Ph.ph) = (m.map Ph.ph).take i ++ (m[i].s, m[i].c + x.c, m[i].f, m[i].p) :: (m.map Ph.ph).drop (i + 1)) := by
                rw [Hid, addAt_split i _ (by simpa using hi')]; simp [Ph.ph]
              have hg5 : w.heap.size ≤ g5 := (HR5.out.row.lt g5 rfl).1
              have hg5p : g5 < p.val.heap.size := (HR5.out.row.lt g5 rfl).2
              obtain ⟨y, hye⟩ : ∃ y, y = m[i] := ⟨_, rfl⟩
              rw [← hye] at hmb e0 e1 e2 e3 HBUMP HPHC HADD
              clear hye at5 hrm
              have hmb1 := hmb.out.1
              have hmb2 := hmb.out.2
              have hk10 : (k : Int) ≤ 10 := by omega
              have hgpp : gp < p.val.heap.size := Nat.lt_of_lt_of_le hgp4 p.size
              have hi1 : (0 : Int) ≤ (i : Int) := by omega
              have hi2 : (i : Int) < (m.length : Int) := by omega
              go_wp2
              go_roundw
              case rel =>
                refine ⟨k + 1, some ⟨g5, 0, none⟩, c', setC i (y.c + x.c) m, by omega, by go_num, by rw [setC_len], by rw [setC_len]; omega, ⟨(q.go (Nat.le_refl _) hbqp).go' ((((((Below.refl _ _).setCell (p := ⟨g5, i * 4, none⟩) hg5 _).setCell (p := ⟨g5, i * 4 + 1, none⟩) hg5 _).setCell (p := ⟨g5, i * 4 + 2, none⟩) hg5 _).setCell (p := ⟨g5, i * 4 + 3, none⟩) hg5 _).alloc (by simp; exact Nat.le_trans hqs hbqp.size) _), rfl⟩, ?_, ?_, ?_⟩
                · rw [Hid, setC_len]; exact (HBUMP.out (y.c + x.c)).below ((Below.refl _ _).alloc (Nat.le_refl _) _)
                · rw [Hid, HPHC.out, HST.out, HP.out, ← HMap.out, HADD.out]
                · have h2 := HSl.out.put (p := x.ph) ⟨bc1, bc2⟩ bf
                  rw [HMap.out, HP.out, ← HMap.out, HADD.out] at h2
                  rw [Hid, HPHC.out]; exact h2
              case measure => simp [intOf]; omega
      · have HK : Hid (m.map Ph.ph = mergeD (l.map Ph.ph)) := by
          have h1 := HMap.out; rw [List.take_of_length_le (by simp; omega)] at h1; exact h1
        have hgm : Hid (goodPhs m = goodD (mergeD (l.map Ph.ph))) := by rw [Hid, good_goodD, HK.out]
        clear hrd
        cases hgd : goodD (mergeD (l.map Ph.ph))
        · rw [hgd] at hgm HM
          go_wp2_with fail
          refine (l30Good_any A' c' m _ (HRow.out.reads)).mono ?_
          rw [hgm.out]
          rintro e w2 ⟨rfl, hb2⟩
          go_wp2
          go_ret2
          rw [HM.out]
          exact ⟨some ⟨w2.heap.size, 0, none⟩, 0, [], rfl, rfl, ⟨owns_empty (Lies.new w2 42 #[]) (q.go (Nat.le_refl _) hb2).size, by simp, List.Pairwise.nil⟩, ((q.go (Nat.le_refl _) hb2).below.trans (((Below.refl _ _).alloc (q.go (Nat.le_refl _) hb2).size _)))⟩
        · rw [hgd] at hgm HM
          go_wp2_with fail
          refine (l30Good_any A' c' m _ (HRow.out.reads)).mono ?_
          rw [hgm.out]
          rintro e w2 ⟨rfl, hb2⟩
          go_wp2
          go_ret2
          rw [HM.out]
          exact ⟨A', c', m, rfl, HK.out, HRow.out.below hb2, (q.go (Nat.le_refl _) hb2).below⟩
end Go.Proofs.Ytchkjiadnackaaa

/- SortPhrases in the program. -/
namespace Go.Proofs.Ytchkjiadnackaaa
open Go.RowKit

theorem sortD_map_take {l m : List Ph} {k : Nat} {x : Ph} {A : Option Addr} {c : Nat} (hlt : k < l.length) (hx : x = l[k]) (h : m.map Ph.ph = (l.map Ph.ph).take k) : (m ++ [{ x with A := A, cap := c }]).map Ph.ph = (l.map Ph.ph).take (k + 1) := by
  subst hx
  rw [List.take_succ_eq_append_getElem (by simpa using hlt), List.map_append, h]
  simp [Ph.ph]

set_option maxRecDepth 100000 in
set_option maxHeartbeats 4000000 in
theorem implSort_any (A : Option Addr) (c : Nat) (l : List Ph) (w : World) (h : PhsR w w.heap.size A l) :
    Calls Try.prog 8 #[.slice A l.length c] w (GivesRow w (sortA (l.map Ph.ph))) := by
  have hl := h.slc.big
  cases hg : goodPhs l
  · have HM : Hid (sortA (l.map Ph.ph) = ([], false)) := by unfold sortA Hid; rw [← good_goodD, hg]; rfl
    have HG := Lib.hid hg; clear hg
    go_enter Try.func8, Try.ntmps8
    go_wp2_with fail
    refine (arePhrases_any A c l _ h).mono ?_
    rw [HG.out]
    rintro e w1 ⟨rfl, hb1⟩
    go_wp2
    go_ret2
    rw [HM.out]
    exact ⟨none, 0, [], rfl, rfl, RowPh.nil _ _, hb1⟩
  · have hlen := good_len hg
    have HM : Hid (sortA (l.map Ph.ph) = (sortD (l.map Ph.ph), true)) := by unfold sortA Hid; rw [← good_goodD, hg]; rfl
    have HB : Hid (∀ i (hi : i < l.length), l[i].f.length ≤ 9) := fun i hi => by
      obtain ⟨_, ⟨c1, c2⟩, hr, _⟩ := Ph.bounds (good_at hg hi)
      exact faults9 hr
    have HG := Lib.hid hg; clear hg
    have hrd := fun (W : World) (hW : PhsR W W.heap.size A l) => hW.ph
    go_enter Try.func8, Try.ntmps8
    go_wp2_with fail
    refine (arePhrases_any A c l _ h).mono ?_
    rw [HG.out]
    rintro e w1 ⟨rfl, hb1⟩
    have H1 := Lib.hid (h.then hb1)
    go_wp2
    have hw1 := hb1.size
    go_loopw [4, 6, 12] (fun o _ i wr => ∃ (k : Nat) (A' : Option Addr) (c' : Nat) (m : List Ph), k ≤ l.length ∧ i = .int .i64 k ∧ o = .slice A' m.length c' ∧ m.length = k ∧ (∃ q : Since w1.heap.size w1, wr = q.val) ∧ Hid (RowPh wr w1.heap.size (.slice A' m.length c') m) ∧ Hid (m.map Ph.ph = (l.map Ph.ph).take k)) (fun _ _ i _ => l.length - (intOf i).toNat)
    case atStart => exact ⟨0, none, 0, [], Nat.zero_le _, rfl, rfl, rfl, ⟨Since.start _ _, rfl⟩, RowPh.nil _ _, rfl⟩
    case round =>
      obtain ⟨k, A', c', m, hk, rfl, rfl, hmk, ⟨q, rfl⟩, HRow, HMap⟩ := hrel
      by_cases hlt : k < l.length
      · have hR0 := H1.out.then q.below
        obtain ⟨b, off, rfl, hb, hcell⟩ := hrd _ hR0 (by omega)
        obtain ⟨c0, c1, c2, c3⟩ := hcell k hlt
        have hxf : IntsR q.val q.val.heap.size l[k].A l[k].f := hR0.f hlt
        have bf := HB.out k hlt
        have HTK : Hid (∀ (A4 : Option Addr) (c4 : Nat), (m ++ [{ l[k] with A := A4, cap := c4 }]).map Ph.ph = (l.map Ph.ph).take (k + 1)) := fun A4 c4 => sortD_map_take hlt rfl HMap.out
        obtain ⟨x, hxe⟩ : ∃ x, x = l[k] := ⟨_, rfl⟩
        rw [← hxe] at c0 c1 c2 c3 hxf bf HTK
        clear hxe hcell hrd hR0
        have k0 := c0 (Since.start _ _)
        have k1 := c1 (Since.start _ _)
        have k2 := c2 (Since.start _ _)
        have k3 := c3 (Since.start _ _)
        change q.val.cell? _ = _ at k0
        change q.val.cell? _ = _ at k1
        change q.val.cell? _ = _ at k2
        change q.val.cell? _ = _ at k3
        clear c0 c1 c2 c3
        have b2 := (Below.refl q.val.heap.size q.val).alloc (Nat.le_refl _) (.cells #[.int .i64 x.s, .int .i64 x.c, .slice x.A x.f.length x.cap, .int .i64 x.p] 42)
        have L2 := Lies.new q.val 42 #[.int .i64 x.s, .int .i64 x.c, .slice x.A x.f.length x.cap, .int .i64 x.p]
        have hxf2 := SlcR.up hxf b2 (Nat.le_refl _)
        have hqs := q.size
        have hm10 : m.length ≤ 10 := by omega
        have Hmk := Lib.hid hmk; clear hmk
        go_wp2_with fail
        refine (copyPhrase_any x _ hxf2 (by omega)).mono ?_
        rintro e w4 ⟨A4, c4, rfl, hO4, hb4⟩
        have hb14 := bthen b2 hb4
        have HO4 := Lib.hid (hO4.lower b2.size); clear hO4
        have HROW := Lib.hid (ownsRow_below HRow.out.row hb14)
        have hsz4 : w1.heap.size ≤ w4.heap.size := Nat.le_trans hqs hb14.size
        clear k0 k1 k2 k3 L2 hxf2
        go_wp2_with (at_builtin; refine wpList_push (w0 := w4) rfl _ _ 24 rfl 42 _ 4 48 Try.underlying24 infoPh rfl (by omega) (by omega) w1.heap.size _ _ _ rfl HROW #[.int .i64 x.s, .int .i64 x.c, .slice A4 x.f.length c4, .int .i64 x.p] 1 _ rfl (by first | rfl | exact Array.size_push _) rfl (by simp [Value.oneCell']) (by omega) hsz4 rfl rfl rfl rfl ?_; intro v' w5 HO5 hg5 hb5)
        have HNEW := Lib.hid (RowPh.push (x := { x with A := A4, cap := c4 }) HRow.out hb14 HO4.out hqs HO5.out hg5)
        obtain ⟨A5, c5, hv5⟩ := ownsRow_slice HO5.out
        subst hv5
        have hmk := Hmk.out
        go_roundw
        case rel =>
          exact ⟨k + 1, A5, c5, m ++ [{ x with A := A4, cap := c4 }], by omega, by go_num, by simp, by simp; omega, ⟨(q.go (Nat.le_refl _) hb14).go' hb5, rfl⟩, by rw [Hid]; simpa using HNEW.out, by rw [Hid]; exact HTK.out A4 c4⟩
        case measure => simp [intOf]; omega
      · have HK : Hid (m.map Ph.ph = l.map Ph.ph) := by
          have h1 := HMap.out; rw [List.take_of_length_le (by simp; omega)] at h1; exact h1
        have hm19 : m.length ≤ 19 := by omega
        clear hrd hmk
        go_wp2_with fail
        refine (sortStable_any (.slice A' m.length c') m w1.heap.size _ q.size hm19 HRow.out).mono ?_
        rintro e w2 ⟨u, m2, rfl, hm2, hr2, hb2⟩
        have HM2 : Hid (m2.map Ph.ph = sortD (l.map Ph.ph)) := by rw [Hid, hm2, HK.out]
        have hml : m2.length = m.length := by
          have := congrArg List.length HM2.out
          rw [sortD_len] at this
          have h3 := congrArg List.length HK.out
          simp at this h3
          omega
        have HR2 := Lib.hid (hr2.lower hw1)
        have hb9 := bthen hb1 (q.below.trans hb2)
        clear hm2 hr2 HRow HK HMap
        rw [← hml] at HR2
        have hml9 := Lib.hid hml
        clear hml
        go_wp2
        go_ret2
        rw [HM.out]
        exact ⟨A', c', m2, by rw [hml9.out]; rfl, HM2.out, HR2.out, hb9⟩
end Go.Proofs.Ytchkjiadnackaaa

/- FnCopies: the walk, from what the draws give. -/
namespace Go.Proofs.Ytchkjiadnackaaa
open Go.RowKit

theorem rBig_any (A : Option Addr) (n c : Nat) (w : World) : Calls Try.prog 12 #[.slice A n c] w fun e w' => e = .returned (.bool (decide (65536 < n))) ∧ w = w' := by
  by_cases h : 65536 < n
  · have h1 : (65536 : Int) < n := by omega
    rw [decide_eq_true h]
    go_enter Try.func12, Try.ntmps12
    go_wp2
    go_ret
    exact ⟨by simp [h1], rfl⟩
  · have h1 : ¬ (65536 : Int) < n := by omega
    rw [decide_eq_false h]
    go_enter Try.func12, Try.ntmps12
    go_wp2
    go_ret
    exact ⟨by simp [h1], rfl⟩
/-- Phrases drawn, in the law's hands. -/
structure PT (w W : World) (A : Option Addr) (l : List Ph) : Prop where
  bl : Below w.heap.size w W
  x : PhsR W W.heap.size A l
theorem PT.then {w W W' : World} {A : Option Addr} {l : List Ph} (h : PT w W A l) (hb : Below W.heap.size W W') : PT w W' A l := ⟨h.bl.trans (hb.mono h.bl.size), h.x.then hb⟩
/-- What a drawing of phrases gives. -/
def DrawsPh (W : World) (e : Ending) (w' : World) : Prop := ∃ (l : List Ph) (A : Option Addr) (c : Nat), e = .returned (.slice A l.length c) ∧ PhsR w' w'.heap.size A l ∧ need l ≤ 1048576 ∧ Below W.heap.size W w'
def DrawsCount (W : World) (e : Ending) (w' : World) : Prop := ∃ (l : List Ph) (A : Option Addr) (c : Nat) (st : Int), e = .returned (.tuple #[.slice A l.length c, .int .i64 st]) ∧ PhsR w' w'.heap.size A l ∧ Below W.heap.size W w'

set_option maxRecDepth 100000 in
set_option maxHeartbeats 8000000 in
set_option linter.unusedVariables false in
theorem lawCopies_of (A : Option Addr) (n cap : Nat) (w : World)
    (HD : ∀ W, Below w.heap.size w W → Calls Try.prog 13 #[.slice A n cap] W (DrawsPh W))
    (HE : ∀ W, Below w.heap.size w W → Calls Try.prog 25 #[.slice A n cap] W (DrawsCount W)) :
    Calls Try.prog 4 #[.slice A n cap] w fun e w' => e = .returned (.bool true) ∧ Below w.heap.size w w' := by
  have HD := Lib.hid HD
  have HE := Lib.hid HE
  by_cases hbig : 65536 < n
  · have hb' : decide (65536 < n) = true := decide_eq_true hbig
    go_enter Try.func4, Try.ntmps4
    go_wp2_with fail
    refine (rBig_any _ _ _ _).mono ?_
    rintro e w' ⟨rfl, rfl⟩
    rw [hb']
    go_wp2_with fail
    go_ret
    exact ⟨rfl, Below.refl _ _⟩
  · have hb' : decide (65536 < n) = false := decide_eq_false hbig
    have hbo : ∀ b : Bool, (b != b) = false := by simp
    have hbi : ∀ b : Int, (b != b) = false := by simp
    go_enter Try.func4, Try.ntmps4
    go_wp2_with fail
    refine (rBig_any _ _ _ _).mono ?_
    rintro e w' ⟨rfl, rfl⟩
    rw [hb']
    clear hb' hbig
    go_wp2_with fail
    refine (HD.out _ (Below.refl _ _)).mono ?_
    rintro e w1 ⟨l, A1, c1, rfl, hx1, hn, b1⟩
    have T := Lib.hid (PT.mk (w := w) b1 hx1)
    have HN := Lib.hid hn
    clear b1 hx1 hn HD
    obtain ⟨RM, hRM⟩ : ∃ R, mergeA (l.map Ph.ph) = R := ⟨_, rfl⟩
    obtain ⟨RS, hRS⟩ : ∃ R, sortA (l.map Ph.ph) = R := ⟨_, rfl⟩
    have HRM := Lib.hid hRM
    have HRS := Lib.hid hRS
    clear hRM hRS
    obtain ⟨vm, okm⟩ := RM
    obtain ⟨vs, oks⟩ := RS
    go_wp2_with fail
    refine (implMerge_any A1 c1 l _ T.out.x).mono ?_
    rw [HRM.out]
    rintro e w2 ⟨A2, c2, m2, rfl, h2, o2, b2⟩
    replace T := Lib.hid (T.out.then b2)
    have HM2 := Lib.hid h2; have P2 := Lib.hid o2.reads; clear h2 o2 b2
    go_wp2_with fail
    refine (specMerge_any A1 c1 l _ T.out.x).mono ?_
    rw [HRM.out]
    rintro e w3 ⟨A3, c3, m3, rfl, h3, o3, b3⟩
    replace T := Lib.hid (T.out.then b3); replace P2 := Lib.hid (P2.out.then b3)
    have HM3 := Lib.hid h3; have P3 := Lib.hid o3.reads; clear h3 o3 b3
    have e1 := hbo okm
    go_wp2_with fail
    refine (rPhrases_yes A2 A3 c2 c3 m2 m3 (HM2.out.trans HM3.out.symm) _ P2.out P3.out).mono ?_
    rintro e w4 ⟨rfl, b4⟩
    replace T := Lib.hid (T.out.then b4); replace P2 := Lib.hid (P2.out.then b4)
    clear b4 P3 HM3 e1
    go_wp2_with fail
    refine (implSort_any A1 c1 l _ T.out.x).mono ?_
    rw [HRS.out]
    rintro e w5 ⟨A5, c5, m5, rfl, h5, o5, b5⟩
    replace T := Lib.hid (T.out.then b5); replace P2 := Lib.hid (P2.out.then b5)
    have HM5 := Lib.hid h5; have P5 := Lib.hid o5.reads; clear h5 o5 b5
    go_wp2_with fail
    refine (specSort_any A1 c1 l _ T.out.x).mono ?_
    rw [HRS.out]
    rintro e w6 ⟨A6, c6, m6, rfl, h6, o6, b6⟩
    replace T := Lib.hid (T.out.then b6); replace P2 := Lib.hid (P2.out.then b6); replace P5 := Lib.hid (P5.out.then b6)
    have HM6 := Lib.hid h6; have P6 := Lib.hid o6.reads; clear h6 o6 b6
    have e1 := hbo oks
    go_wp2_with fail
    refine (rPhrases_yes A5 A6 c5 c6 m5 m6 (HM5.out.trans HM6.out.symm) _ P5.out P6.out).mono ?_
    rintro e w7 ⟨rfl, b7⟩
    replace T := Lib.hid (T.out.then b7); replace P2 := Lib.hid (P2.out.then b7); replace P5 := Lib.hid (P5.out.then b7)
    clear b7 P6 HM6 e1
    have hoks : oks = goodPhs l := by
      have h1 := HRS.out
      unfold sortA at h1
      rw [← good_goodD] at h1
      cases hg : goodPhs l
      · rw [hg, if_neg (by decide)] at h1; injection h1 with _ h2; exact h2.symm
      · rw [hg, if_pos rfl] at h1; injection h1 with _ h2; exact h2.symm
    have HOKS := Lib.hid hoks
    clear hoks
    obtain ⟨G, hG⟩ : ∃ G, goodPhs l = G := ⟨_, rfl⟩
    obtain ⟨WV, hWV⟩ : ∃ v, okOf G (sumFrom worthV 0 l) = v := ⟨_, rfl⟩
    obtain ⟨CV, hCV⟩ : ∃ v, okOf G (sumFrom cleanV 0 l) = v := ⟨_, rfl⟩
    have HG := Lib.hid hG; have HWV := Lib.hid hWV; have HCV := Lib.hid hCV
    clear hG hWV hCV
    obtain rfl : G = oks := by rw [HOKS.out, HG.out]
    go_wp2_with fail
    refine (implWorthOf_any A1 c1 l _ T.out.x).mono ?_
    rw [HG.out, HWV.out]
    rintro e w8 ⟨rfl, b8⟩
    replace T := Lib.hid (T.out.then b8); replace P2 := Lib.hid (P2.out.then b8); replace P5 := Lib.hid (P5.out.then b8)
    clear b8
    go_wp2_with fail
    refine (specWorthOf_any A1 c1 l _ T.out.x).mono ?_
    rw [HG.out, HWV.out]
    rintro e w9 ⟨rfl, b9⟩
    replace T := Lib.hid (T.out.then b9); replace P2 := Lib.hid (P2.out.then b9); replace P5 := Lib.hid (P5.out.then b9)
    clear b9
    have e1 := hbo G
    have e2 := hbi WV
    go_wp2_with fail
    refine (implTally_any A1 c1 l _ T.out.x HN.out).mono ?_
    rw [HG.out]
    rintro e w10 ⟨A10, c10, rfl, o10, b10⟩
    replace T := Lib.hid (T.out.then b10); replace P2 := Lib.hid (P2.out.then b10); replace P5 := Lib.hid (P5.out.then b10)
    have I10 := Lib.hid o10.reads; clear b10 o10
    go_wp2_with fail
    refine (specTally_any A1 c1 l _ T.out.x HN.out).mono ?_
    rw [HG.out]
    rintro e w11 ⟨A11, c11, rfl, o11, b11⟩
    replace T := Lib.hid (T.out.then b11); replace P2 := Lib.hid (P2.out.then b11); replace P5 := Lib.hid (P5.out.then b11)
    have J10 := Lib.hid (SlcR.then I10.out b11)
    have I11 := Lib.hid o11.reads; clear b11 o11 I10
    go_wp2_with fail
    refine (rInts_any A10 A11 c10 c11 (tallyR l) _ J10.out I11.out).mono ?_
    rintro e w12 ⟨rfl, b12⟩
    replace T := Lib.hid (T.out.then b12); replace P2 := Lib.hid (P2.out.then b12); replace P5 := Lib.hid (P5.out.then b12)
    replace J10 := Lib.hid (SlcR.then J10.out b12)
    clear b12 I11
    go_wp2_with fail
    refine (implCleanCopies_any A1 c1 l _ T.out.x).mono ?_
    rw [HG.out, HCV.out]
    rintro e w13 ⟨rfl, b13⟩
    replace T := Lib.hid (T.out.then b13); replace P2 := Lib.hid (P2.out.then b13); replace P5 := Lib.hid (P5.out.then b13)
    replace J10 := Lib.hid (SlcR.then J10.out b13)
    clear b13
    go_wp2_with fail
    refine (specCleanCopies_any A1 c1 l _ T.out.x).mono ?_
    rw [HG.out, HCV.out]
    rintro e w14 ⟨rfl, b14⟩
    replace T := Lib.hid (T.out.then b14); replace P2 := Lib.hid (P2.out.then b14); replace P5 := Lib.hid (P5.out.then b14)
    replace J10 := Lib.hid (SlcR.then J10.out b14)
    clear b14
    have e3 := hbi CV
    go_upto_if 149 with fail
    go_cut [] (fun wx => Below w14.heap.size w14 wx)
    case first => as_aux_lemma =>
      cases G
      · go_wp2_with fail
        go_meet
        case rel => exact Below.refl _ _
      · have hvs : vs = sortD (l.map Ph.ph) := by
          have h1 := HRS.out
          unfold sortA at h1
          rw [← good_goodD, HG.out, if_pos rfl] at h1
          injection h1 with h2 _; exact h2.symm
        have hS : m5.map Ph.ph = sortD (l.map Ph.ph) := by rw [HM5.out, hvs]
        have hg5 := good_sort hS HG.out
        have hn5 : need m5 ≤ 1048576 := need_goodD rfl (by rw [← good_goodD]; exact hg5)
        have hW5 : okOf (goodPhs m5) (sumFrom worthV 0 m5) = WV := by rw [hg5, worth_sort hS, ← HWV.out]
        have hT5 := tally_sort hS HG.out
        have hL5 := len_sort hS
        obtain ⟨⟨s1a, s1b⟩, ⟨s2a, s2b⟩, ⟨s3a, s3b⟩, s4⟩ := clean_states l fun x hx => by obtain ⟨i, hi, e⟩ := List.mem_iff_getElem.1 hx; rw [← e]; exact good_at HG.out hi
        have hll := good_len HG.out
        obtain ⟨S1, hS1⟩ : ∃ v, sumD (gS 1) (l.map Ph.ph) = v := ⟨_, rfl⟩
        obtain ⟨S2, hS2⟩ : ∃ v, sumD (gS 2) (l.map Ph.ph) = v := ⟨_, rfl⟩
        obtain ⟨S3, hS3⟩ : ∃ v, sumD (gS 3) (l.map Ph.ph) = v := ⟨_, rfl⟩
        have hCC : CV ≤ S1 + S2 + S3 := by
          have h1 := HCV.out
          rw [clean_D] at h1
          have h2 : okOf true (sumD gC (l.map Ph.ph)) = sumD gC (l.map Ph.ph) := rfl
          rw [h2] at h1
          omega
        rw [hS1] at s1a s1b; rw [hS2] at s2a s2b; rw [hS3] at s3a s3b
        have K1 : Hid (∀ W, PhsR W W.heap.size A1 l → Calls Try.prog 24 #[.slice A1 l.length c1, .int .i64 1] W fun e w' => e = .returned (.tuple #[.int .i64 S1, .bool true]) ∧ Below W.heap.size W w') := fun W h => by
          have := implCountState_any A1 c1 l 1 W h
          rw [HG.out, state_D, hS1] at this; exact this
        have K2 : Hid (∀ W, PhsR W W.heap.size A1 l → Calls Try.prog 24 #[.slice A1 l.length c1, .int .i64 2] W fun e w' => e = .returned (.tuple #[.int .i64 S2, .bool true]) ∧ Below W.heap.size W w') := fun W h => by
          have := implCountState_any A1 c1 l 2 W h
          rw [HG.out, state_D, hS2] at this; exact this
        have K3 : Hid (∀ W, PhsR W W.heap.size A1 l → Calls Try.prog 24 #[.slice A1 l.length c1, .int .i64 3] W fun e w' => e = .returned (.tuple #[.int .i64 S3, .bool true]) ∧ Below W.heap.size W w') := fun W h => by
          have := implCountState_any A1 c1 l 3 W h
          rw [HG.out, state_D, hS3] at this; exact this
        have i1 : IntKind.i64.wrap (S1 + S2) = S1 + S2 := IntWalk.i64_in _ (by omega)
        have i2 : IntKind.i64.wrap (S1 + S2 + S3) = S1 + S2 + S3 := IntWalk.i64_in _ (by omega)
        have i3 : ¬ S1 + S2 + S3 < CV := by omega
        have HSRT := Lib.hid hS; have HG5 := Lib.hid hg5; have HW5 := Lib.hid hW5; have HT5 := Lib.hid hT5; have HL5 := Lib.hid hL5; have HN5 := Lib.hid hn5
        have B0 := Lib.hid (Below.refl w14.heap.size w14)
        clear hS hg5 hW5 hT5 hL5 hn5 hS1 hS2 hS3 s1a s1b s2a s2b s3a s3b s4 hCC hll hvs
        go_wp2_with fail
        refine (K1.out _ T.out.x).mono ?_
        rintro e w15 ⟨rfl, b15⟩
        replace T := Lib.hid (T.out.then b15); replace P5 := Lib.hid (P5.out.then b15); replace J10 := Lib.hid (SlcR.then J10.out b15)
        replace B0 := Lib.hid (bthen B0.out b15)
        clear b15
        go_wp2_with fail
        refine (K2.out _ T.out.x).mono ?_
        rintro e w16 ⟨rfl, b16⟩
        replace T := Lib.hid (T.out.then b16); replace P5 := Lib.hid (P5.out.then b16); replace J10 := Lib.hid (SlcR.then J10.out b16)
        replace B0 := Lib.hid (bthen B0.out b16)
        clear b16
        go_wp2_with fail
        refine (K3.out _ T.out.x).mono ?_
        rintro e w17 ⟨rfl, b17⟩
        replace T := Lib.hid (T.out.then b17); replace P5 := Lib.hid (P5.out.then b17); replace J10 := Lib.hid (SlcR.then J10.out b17)
        replace B0 := Lib.hid (bthen B0.out b17)
        clear b17
        go_wp2_with fail
        refine (implWorthOf_any A5 c5 m5 _ P5.out).mono ?_
        rw [HW5.out, HG5.out]
        rintro e w18 ⟨rfl, b18⟩
        replace T := Lib.hid (T.out.then b18); replace P5 := Lib.hid (P5.out.then b18); replace J10 := Lib.hid (SlcR.then J10.out b18)
        replace B0 := Lib.hid (bthen B0.out b18)
        clear b18
        go_wp2_with fail
        refine (implTally_any A5 c5 m5 _ P5.out HN5.out).mono ?_
        rw [HT5.out, HG5.out]
        rintro e w19 ⟨A19, c19, rfl, o19, b19⟩
        replace T := Lib.hid (T.out.then b19); replace P5 := Lib.hid (P5.out.then b19); replace J10 := Lib.hid (SlcR.then J10.out b19)
        replace B0 := Lib.hid (bthen B0.out b19)
        have I19 := Lib.hid o19.reads
        clear b19 o19
        have e4 : ((m5.length : Int) != (l.length : Int)) = false := by rw [HL5.out]; simp
        go_wp2_with fail
        refine (rInts_any A19 A10 c19 c10 (tallyR l) _ I19.out J10.out).mono ?_
        rintro e w20 ⟨rfl, b20⟩
        replace P5 := Lib.hid (P5.out.then b20)
        replace B0 := Lib.hid (bthen B0.out b20)
        have hm10 := good_len HG5.out
        have HSA := Lib.hid (fun i hi => sorted_at HSRT.out (i := i) hi)
        have hrd := P5.out.ph
        clear b20 I19 J10 T
        go_wp2_with fail
        go_loopw [34] (fun i wr => ∃ k : Nat, k ≤ m5.length ∧ i = .int .i64 (k + 1 : Nat) ∧ (∃ q : Since w20.heap.size w20, wr = q.val)) (fun i _ => m5.length + 1 - (intOf i).toNat)
        case atStart => exact ⟨0, Nat.zero_le _, rfl, ⟨Since.start _ _, rfl⟩⟩
        case round =>
          obtain ⟨k, hk, rfl, ⟨q, rfl⟩⟩ := hrel
          by_cases hlt : k + 1 < m5.length
          · obtain ⟨b, off, rfl, hb, hcell⟩ := hrd (by omega)
            obtain ⟨c0, _, _, _⟩ := hcell k (by omega)
            obtain ⟨d0, _, _, _⟩ := hcell (k + 1) hlt
            have hss := HSA.out k hlt
            have hk9 : k ≤ 1000 := by omega
            have hlt2 : k < m5.length := by omega
            have g3 : (0 : Int) ≤ (k : Int) + 1 := by omega
            have g4 : (k : Int) + 1 < (m5.length : Int) := by omega
            generalize m5[k].s = u at c0 hss
            generalize m5[k + 1].s = v at d0 hss
            have hno : ¬ v < u := by omega
            clear hcell hrd
            go_wp2_with fail
            refine wp_region_since _ (by kernel_rfl) (by kernel_rfl) ?_
            repeat (any_goals (first | go_big_quiet_step ((fail)) | (refine wpQuiet_step (fun K hK => ?_); go_simp; split <;> (refine hK _ ?_; clear hK K))))
            all_goals (refine wpQuiet_nil ?_; rintro _ ⟨q1, rfl⟩)
            go_wp2_with fail
            go_roundw
            case rel => exact ⟨k + 1, by omega, by go_num, ⟨q1, rfl⟩⟩
            case measure => simp [intOf]; omega
          · clear hrd
            have g1 : ¬ (k : Int) + 1 < (m5.length : Int) := by omega
            go_wp2_with fail
            go_meet
            case rel => exact bthen B0.out q.below
    case rest => as_aux_lemma =>
      have T9 := Lib.hid (T.out.then hcut)
      have P29 := Lib.hid (P2.out.then hcut)
      have J9 := Lib.hid (SlcR.then J10.out hcut)
      clear T P2 P5 J10 hcut
      go_upto_if 238 with fail
      go_cut [] (fun wx => Below wc.heap.size wc wx)
      case first => as_aux_lemma =>
        cases okm
        · go_wp2_with fail
          go_meet
          case rel => exact Below.refl _ _
        · have hmm : goodPhs l = true ∧ goodD (mergeD (l.map Ph.ph)) = true ∧ vm = mergeD (l.map Ph.ph) := by
            have h1 := HRM.out
            unfold mergeA at h1
            rw [← good_goodD] at h1
            split at h1
            · rename_i hg
              split at h1
              · rename_i hg2
                injection h1 with h2 _; exact ⟨hg, hg2, h2.symm⟩
              · injection h1 with _ h2; cases h2
            · injection h1 with _ h2; cases h2
          obtain ⟨hgl, hgm, hvm⟩ := hmm
          have hM : m2.map Ph.ph = mergeD (l.map Ph.ph) := by rw [HM2.out, hvm]
          have hg2 : goodPhs m2 = true := by rw [good_goodD, hM]; exact hgm
          have hG : G = true := by rw [← HG.out]; exact hgl
          have hn2 : need m2 ≤ 1048576 := need_goodD rfl (by rw [← good_goodD]; exact hg2)
          have hW2 : okOf (goodPhs m2) (sumFrom worthV 0 m2) = WV := by rw [hg2, worth_merge hM, ← HWV.out, hG]
          have hC2 : okOf (goodPhs m2) (sumFrom cleanV 0 m2) = CV := by rw [hg2, clean_merge hM, ← HCV.out, hG]
          have hT2 := tally_merge hM hgl hg2
          have hle := len_merge hM
          have i3 : ¬ (l.length : Int) < (m2.length : Int) := by omega
          have hle2 : ¬ l.length < m2.length := by omega
          have HG2 := Lib.hid hg2; have HW2 := Lib.hid hW2; have HC2 := Lib.hid hC2; have HT2 := Lib.hid hT2; have HN2 := Lib.hid hn2
          have B0 := Lib.hid (Below.refl wc.heap.size wc)
          have e4 := hbi WV
          have e5 := hbi CV
          clear hgl hgm hvm hM hg2 hG hn2 hW2 hC2 hT2 hle
          go_wp2_with fail
          refine (implWorthOf_any A2 c2 m2 _ P29.out).mono ?_
          rw [HW2.out, HG2.out]
          rintro e w18 ⟨rfl, b18⟩
          replace P29 := Lib.hid (P29.out.then b18); replace J9 := Lib.hid (SlcR.then J9.out b18)
          replace B0 := Lib.hid (bthen B0.out b18)
          clear b18
          go_wp2_with fail
          refine (implTally_any A2 c2 m2 _ P29.out HN2.out).mono ?_
          rw [HT2.out, HG2.out]
          rintro e w19 ⟨A19, c19, rfl, o19, b19⟩
          replace P29 := Lib.hid (P29.out.then b19); replace J9 := Lib.hid (SlcR.then J9.out b19)
          replace B0 := Lib.hid (bthen B0.out b19)
          have I19 := Lib.hid o19.reads
          clear b19 o19
          go_wp2_with fail
          refine (implCleanCopies_any A2 c2 m2 _ P29.out).mono ?_
          rw [HC2.out, HG2.out]
          rintro e w20 ⟨rfl, b20⟩
          replace J9 := Lib.hid (SlcR.then J9.out b20)
          replace I19 := Lib.hid (SlcR.then I19.out b20)
          replace B0 := Lib.hid (bthen B0.out b20)
          clear b20
          go_wp2_with fail
          refine (rInts_any A19 A10 c19 c10 (tallyR l) _ I19.out J9.out).mono ?_
          rintro e w21 ⟨rfl, b21⟩
          replace B0 := Lib.hid (bthen B0.out b21)
          go_wp2_with fail
          go_meet
          case rel => exact B0.out
      case rest => as_aux_lemma =>
        have B9 := Lib.hid (bthen T9.out.bl hcut)
        clear T9 P29 J9 hcut
        go_wp2_with fail
        refine (HE.out _ B9.out).mono ?_
        rintro e w30 ⟨l9, A9, c9, st, rfl, hx9, b30⟩
        replace B9 := Lib.hid (bthen B9.out b30)
        have X9 := Lib.hid hx9
        clear hx9 b30
        obtain ⟨GS, hGS⟩ : ∃ v, (goodPhs l9 && inR st 1 3) = v := ⟨_, rfl⟩
        obtain ⟨SV, hSV⟩ : ∃ v, okOf GS (sumFrom (stateV st) 0 l9) = v := ⟨_, rfl⟩
        have HGS := Lib.hid hGS; have HSV := Lib.hid hSV
        clear hGS hSV
        go_wp2_with fail
        refine (implCountState_any A9 c9 l9 st _ X9.out).mono ?_
        rw [HGS.out, HSV.out]
        rintro e w31 ⟨rfl, b31⟩
        replace B9 := Lib.hid (bthen B9.out b31); replace X9 := Lib.hid (X9.out.then b31)
        clear b31
        go_wp2_with fail
        refine (specCountState_any A9 c9 l9 st _ X9.out).mono ?_
        rw [HGS.out, HSV.out]
        rintro e w32 ⟨rfl, b32⟩
        replace B9 := Lib.hid (bthen B9.out b32)
        clear b32 X9
        go_wp2_with fail
        go_ret
        exact ⟨rfl, B9.out⟩
end Go.Proofs.Ytchkjiadnackaaa

/- The reference draws phrases and a state. -/
namespace Go.Proofs.Ytchkjiadnackaaa
open Go.RowKit

theorem DPs.alloc {w W wx : World} {g : Nat} {A : Option Addr} {bs : List UInt8} {cap m : Nat} {l : List Ph} {v : Value} (h : DPs w W wx g A bs cap m l v) (o : Obj) : DPs w W (wx.alloc o) g A bs cap m l v := ⟨h.env.alloc o, h.own.alloc o, grown_alloc h.gr o⟩

set_option maxHeartbeats 2000000 in
theorem drawCount_any (A : Option Addr) (cap : Nat) (bs : List UInt8) (w : World) (hr : BytesR w w.heap.size A bs) :
    Calls Try.prog 25 #[.slice A bs.length cap] w (DrawsCount w) := by
  have E1 := cur_start (cap := cap) hr
  have b1 : Below w.heap.size w (w.alloc (.cells #[.slice A bs.length cap, .int .i64 0, .int .u64 0] 63)) := (Below.refl w.heap.size w).alloc (Nat.le_refl _) (.cells #[.slice A bs.length cap, .int .i64 0, .int .u64 0] 63)
  go_enter Try.func25, Try.ntmps25
  go_wp2_with fail
  generalize w.alloc (.cells #[.slice A bs.length cap, .int .i64 0, .int .u64 0] 63) = W1 at E1 b1 ⊢
  have hgW := E1.lt
  refine (phrases30_any w.heap.size A bs cap 0 W1 W1 (by omega) E1).mono ?_
  rintro e W2 ⟨l, v, rfl, hl, h9, S2⟩
  obtain ⟨A', c', rfl⟩ := S2.own.form
  have S3 := S2.alloc (.cells #[.int .i64 1, .int .i64 2, .int .i64 3, .int .i64 0, .int .i64 4] 3)
  have L3 := Lies.new W2 3 #[.int .i64 1, .int .i64 2, .int .i64 3, .int .i64 0, .int .i64 4]
  have hgi : w.heap.size < W2.heap.size := S2.env.lt
  clear S2 E1
  go_wp2_with fail
  generalize W2.alloc (.cells #[.int .i64 1, .int .i64 2, .int .i64 3, .int .i64 0, .int .i64 4] 3) = W3 at S3 L3 ⊢
  generalize W2.heap.size = gi at L3 hgi ⊢
  refine (pick_env S3.env 24 (by omega) (by omega)).mono ?_
  rintro e W4 ⟨x, rfl, hx, E4, gr⟩
  have S4 := S3.next E4 gr hgW
  have L4 := L3.kept gr (by intro e; injection e; omega)
  clear E4 gr S3 L3
  have hi5 : IntsR W4 W4.heap.size (some ⟨gi, 0, none⟩) [1, 2, 3, 0, 4] := L4.reads (k := 1) (n := 5) rfl (by omega)
  have hx3 : x / 11 = 0 ∨ x / 11 = 1 ∨ x / 11 = 2 := by omega
  have fin : ∀ (W5 : World) (m : Nat) (st : Int), DPs W1 W1 W5 w.heap.size A bs cap m l (.slice A' l.length c') → DrawsCount w (.returned (.tuple #[.slice A' l.length c', .int .i64 st])) W5 := fun W5 m st S =>
    ⟨l, A', c', st, rfl, S.own.reads, grown_belowR (grown_trans (grownAny b1 (some w.heap.size)) S.gr) (Nat.le_refl _)⟩
  have FIN := Lib.hid fin
  clear fin b1
  rcases hx3 with h | h | h
  · have e1 : (x : Int).tdiv 11 = 0 := by rw [Int.tdiv_eq_ediv_of_nonneg (by omega)]; omega
    clear h hx
    go_wp2_with fail
    refine (among_any w.heap.size A (some ⟨gi, 0, none⟩) cap 5 _ bs [1, 2, 3] W4 (by simp) (by simp) (by omega) S4.env.cur S4.env.rd (SlcR.take hi5 3 (by simp)) (by intro e; injection e with e; simp only at e; omega)).mono ?_
    rintro e W5 ⟨st, rfl, _, hc5, gr5⟩
    have HF := Lib.hid (FIN.out W5 _ st (S4.next (S4.env.next hc5 gr5) gr5 hgW))
    clear S4 hc5 gr5
    go_wp2_with fail
    go_ret2
    exact HF.out
  · have e1 : (x : Int).tdiv 11 = 1 := by rw [Int.tdiv_eq_ediv_of_nonneg (by omega)]; omega
    clear h hx
    go_wp2_with fail
    refine (among_any w.heap.size A (some ⟨gi, 0, none⟩) cap 5 _ bs [1, 2, 3, 0] W4 (by simp) (by simp) (by omega) S4.env.cur S4.env.rd (SlcR.take hi5 4 (by simp)) (by intro e; injection e with e; simp only at e; omega)).mono ?_
    rintro e W5 ⟨st, rfl, _, hc5, gr5⟩
    have HF := Lib.hid (FIN.out W5 _ st (S4.next (S4.env.next hc5 gr5) gr5 hgW))
    clear S4 hc5 gr5
    go_wp2_with fail
    go_ret2
    exact HF.out
  · have e1 : (x : Int).tdiv 11 = 2 := by rw [Int.tdiv_eq_ediv_of_nonneg (by omega)]; omega
    clear h hx
    go_wp2_with fail
    refine (among_any w.heap.size A (some ⟨gi, 0, none⟩) cap 5 _ bs [1, 2, 3, 0, 4] W4 (by simp) (by simp) (by omega) S4.env.cur S4.env.rd (SlcR.take hi5 5 (by simp)) (by intro e; injection e with e; simp only at e; omega)).mono ?_
    rintro e W5 ⟨st, rfl, _, hc5, gr5⟩
    have HF := Lib.hid (FIN.out W5 _ st (S4.next (S4.env.next hc5 gr5) gr5 hgW))
    clear S4 hc5 gr5
    go_wp2_with fail
    go_ret2
    exact HF.out
theorem fsum9 : ∀ l : List Ph, (∀ x ∈ l, x.f.length ≤ 9) → fsum l ≤ 9 * l.length
  | [], _ => by simp [fsum]
  | x :: l, h => by
    have h1 := h x (by simp)
    have h2 := fsum9 l fun y hy => h y (by simp [hy])
    simp only [fsum, List.length_cons]; omega
/-- The law FnCopies. -/
theorem lawCopies_any (A : Option Addr) (cap : Nat) (bs : List UInt8) (w : World) (hr : BytesR w w.heap.size A bs) :
    Calls Try.prog 4 #[.slice A bs.length cap] w fun e w' => e = .returned (.bool true) ∧ Below w.heap.size w w' :=
  lawCopies_of A bs.length cap w
    (fun W hW => (drawMerge_any A cap bs W ((SlcR.below hr hW).mono hW.size)).mono fun e w' ⟨l, A', c', he, h1, h2, h3, h4⟩ => ⟨l, A', c', he, h1, by have := fsum9 l h3; unfold need; omega, h4⟩)
    (fun W hW => drawCount_any A cap bs W ((SlcR.below hr hW).mono hW.size))
end Go.Proofs.Ytchkjiadnackaaa

/- Arguments that came in: from the reader's own reading to plain words (no program in sight). -/
namespace Go.Proofs.Ytchkjiadnackaaa
open Go.ChangeShapes Go.WideShapes Go.ChangeAt Go.RowKit Go.Deep

section
variable {H : Type} {enc : TypeId × Value → H} {P : Program} {w : World} {base : Nat} {spare : Nat → Bool} {held : Bool}

/-- The fields of a struct of one-cell fields: place by place. -/
theorem trod_fields {e : TypeId} {fs : Array Field} {n : Nat} {cs : List Value} {x : DataW H × List MemPlace} (he : P.underlying e = some (.struct fs)) (hone : oneCellFields P fs = true) (hC : P.cellsOf e = fs.size)
    (h : DataW.trod enc P w base spare held n e cs = some x) :
    cs.length = fs.size ∧ ∀ (j : Nat) (f : Field), fs[j]? = some f → ∃ v m y, cs[j]? = some v ∧ DataW.trod enc P w base spare held m f.type [v] = some y := by
  obtain ⟨ys, n', _, _, hlen, hyl, hf⟩ := DataW.trod_struct he h
  refine ⟨by rw [hlen, hC], fun j f hj => ?_⟩
  obtain ⟨ho, hk⟩ := hone_of hone j f hj
  have hjl : j < fs.size := (Array.getElem?_eq_some_iff.1 hj).1
  have hjc : j < cs.length := by rw [hlen, hC]; exact hjl
  have h1 := hf j f hj
  rw [ho, hk, List.drop_eq_getElem_cons hjc] at h1
  have hys : ys[j]? = some (ys[j]'(by omega)) := List.getElem?_eq_getElem (by omega)
  exact ⟨_, n', _, List.getElem?_eq_getElem hjc, h1.trans hys⟩

theorem cell_spot {w : World} {a : Addr} {u : Value} (h : w.cell? a = some u) : ∃ b off, a = ⟨b, off, none⟩ ∧ b < w.heap.size := by
  obtain ⟨b, off, sp⟩ := a
  cases sp with
  | none => exact ⟨b, off, rfl, block_lt_of_cell h⟩
  | some s =>
    simp only [World.cell?] at h
    split at h <;> simp_all

/-- A slice that came in, whatever its elements: k cells each; what the reader knows of an element's cells. -/
theorem trod_slc {t e : TypeId} {k n : Nat} {v : Value} {x : DataW H × List MemPlace} (ht : P.underlying t = some (.slice e)) (hk : P.cellsOf e = k) (hk0 : 0 < k)
    (h : DataW.trod enc P w base spare held n t [v] = some x) :
    ∃ A len cap, v = .slice A len cap ∧ ∃ css : List (List Value), css.length = len ∧ SlcR w w.heap.size k A len css.flatten ∧
      ∀ cs ∈ css, cs.length = k ∧ ∃ m y, DataW.trod enc P w base spare held m e cs = some y := by
  rcases open_slice ht h with ⟨h0, _⟩ | ⟨a, len, cap, m, n', D, Pl, hcs, hb, hl, hm, hmm, hx, hi⟩
  · have : v = .slice none 0 0 := by simpa using h0
    exact ⟨none, 0, 0, this, [], rfl, SlcR.nil _ _ _ _, by simp⟩
  · have hv : v = .slice (some a) len cap := by simpa using hcs
    have hle : len ≤ m := by rw [hmm]; split <;> omega
    rw [hk] at hi
    have hsel : ∀ i : Nat, ∃ cs : List Value, cs.length = k ∧ (i < len → (∀ j u, cs[j]? = some u → w.cell? ((a.add (i * k)).add j) = some u) ∧ ∃ m y, DataW.trod enc P w base spare held m e cs = some y) := fun i => by
      by_cases hlt : i < len
      · obtain ⟨cs', hc, ht'⟩ := hi i (by omega)
        obtain ⟨_, hcl, hat⟩ := World.cells?_some hc
        exact ⟨cs', hcl, fun _ => ⟨fun j u hu => by
          have hj : j < cs'.length := (List.getElem?_eq_some_iff.1 hu).1
          rw [hat j (by omega), hu], _, _, ht'⟩⟩
      · exact ⟨List.replicate k undef, by simp, fun h => absurd h hlt⟩
    obtain ⟨f, hf⟩ := Classical.axiomOfChoice hsel
    have hfk : ∀ i, (f i).length = k := fun i => (hf i).1
    have hlen := flat_len f k hfk (List.range len)
    rw [List.length_range, List.flatMap_def] at hlen
    refine ⟨some a, len, cap, hv, (List.range len).map f, by simp, ⟨hlen, by unfold maxLen at hm; omega, fun hpos => ?_⟩, ?_⟩
    · have h00 : (f 0)[0]? = some ((f 0)[0]'(by rw [hfk]; exact hk0)) := List.getElem?_eq_getElem _
      have hc0 := ((hf 0).2 hpos).1 0 _ h00
      rw [Nat.zero_mul] at hc0
      obtain ⟨b, off, rfl, hb'⟩ := cell_spot (a := a) hc0
      refine ⟨b, off, rfl, hb', fun j u hu => ?_⟩
      have hj : j < len * k := by rw [← hlen]; exact (List.getElem?_eq_some_iff.1 hu).1
      have hi' : j / k < len := Nat.div_lt_of_lt_mul (by rw [Nat.mul_comm]; exact hj)
      have hr : j % k < k := Nat.mod_lt _ hk0
      have e : j = j / k * k + j % k := by rw [Nat.mul_comm]; exact (Nat.div_add_mod j k).symm
      have hat := flat_at f k hfk (List.range len) (j / k) (by simpa using hi') (j % k) hr
      rw [List.flatMap_def, ← e, List.getElem_range, hu] at hat
      have hc := ((hf (j / k)).2 hi').1 (j % k) u hat.symm
      have hadd : ((⟨b, off, none⟩ : Addr).add (j / k * k)).add (j % k) = ⟨b, off + j, none⟩ := by
        unfold Addr.add
        by_cases h1 : j / k * k = 0 <;> by_cases h2 : j % k = 0 <;> simp [h1, h2] <;> omega
      rw [hadd] at hc
      exact hc
    · intro cs hcs
      obtain ⟨i, hi, rfl⟩ := List.mem_map.1 hcs
      exact ⟨hfk i, ((hf i).2 (List.mem_range.1 hi)).2⟩
end

/-- A list of lists of cells, each the image of something. -/
theorem lift_list {α : Type} (enc : α → List Value) : ∀ css : List (List Value), (∀ cs ∈ css, ∃ x, cs = enc x) → ∃ l : List α, css.flatten = l.flatMap enc ∧ l.length = css.length
  | [], _ => ⟨[], rfl, rfl⟩
  | cs :: css, h => by
    obtain ⟨x, hx⟩ := h cs (by simp)
    obtain ⟨l, hl, hn⟩ := lift_list enc css (fun c hc => h c (by simp [hc]))
    exact ⟨x :: l, by simp [hl, hx], by simp [hn]⟩

section
variable {H : Type} {enc : TypeId × Value → H} {P : Program} {w : World} {base : Nat} {spare : Nat → Bool} {held : Bool}
/-- A field that is an int. -/
theorem trod_i64 {t : TypeId} {n : Nat} {v : Value} {x : DataW H × List MemPlace} (ht : P.underlying t = some (.int .i64)) (h : DataW.trod enc P w base spare held n t [v] = some x) :
    ∃ m : Int, v = .int .i64 m ∧ -9223372036854775808 ≤ m ∧ m ≤ 9223372036854775807 := by
  obtain ⟨m, e, _, hw⟩ := DataW.trod_int ht h
  refine ⟨m, by simpa using e, ?_⟩
  simp [Lit.wf, IntKind.min, IntKind.max, IntKind.signed, IntKind.bits] at hw
  omega
end

/-- Structs of ints alone. -/
def intFields (P : Program) (fs : Array Field) : Bool := fs.all fun f => match P.underlying f.type with | some (.int .i64) => true | _ => false
theorem intFields_at {P : Program} {fs : Array Field} (h : intFields P fs = true) (j : Nat) (f : Field) (hj : fs[j]? = some f) : P.underlying f.type = some (.int .i64) := by
  have := (Array.all_eq_true_iff_forall_mem.1 h) f (Array.mem_of_getElem? hj)
  split at this
  · assumption
  · cases this

section
variable {H : Type} {enc : TypeId × Value → H} {P : Program} {w : World} {base : Nat} {spare : Nat → Bool} {held : Bool}
theorem trod_int_cells {e : TypeId} {fs : Array Field} {n k : Nat} {cs : List Value} {x : DataW H × List MemPlace} (he : P.underlying e = some (.struct fs)) (hone : oneCellFields P fs = true) (hC : P.cellsOf e = fs.size) (hint : intFields P fs = true) (hk : fs.size = k)
    (h : DataW.trod enc P w base spare held n e cs = some x) : ∃ ns : List Int, ns.length = k ∧ cs = ns.map (Value.int .i64) := by
  obtain ⟨hl, hf⟩ := trod_fields he hone hC h
  subst hk
  refine ⟨cs.map fun v => match v with | .int _ m => m | _ => 0, by simpa using hl, List.ext_getElem? fun j => ?_⟩
  rw [List.getElem?_map, List.getElem?_map]
  by_cases hj : j < cs.length
  · obtain ⟨v, m, y, hv, hy⟩ := hf j (fs[j]'(by omega)) (Array.getElem?_eq_getElem (by omega))
    obtain ⟨z, rfl, _, _⟩ := trod_i64 (intFields_at hint j _ (Array.getElem?_eq_getElem (by omega))) hy
    rw [hv]; rfl
  · rw [List.getElem?_eq_none (by omega)]; rfl

/-- A struct of ints, by value. -/
theorem open_int_struct {t : TypeId} {fs : Array Field} {k b0 : Nat} {r : Reach} {v : Value} {d : DataW H} {p : List MemPlace} (he : P.underlying t = some (.struct fs)) (hone : oneCellFields P fs = true) (hC : P.cellsOf t = fs.size) (hint : intFields P fs = true) (hk : fs.size = k)
    (hv : Value.okWide P w r b0 t v) (h : DataW.Trod enc P w base spare held t v d p) : ∃ ns : List Int, ns.length = k ∧ v = .agg (ns.map (Value.int .i64)).toArray := by
  obtain ⟨cs, rfl, hsz⟩ := okWide_struct he hv
  obtain ⟨n, hn⟩ := h
  obtain ⟨ns, hl, hc⟩ := trod_int_cells he hone hC hint hk hn
  refine ⟨ns, hl, ?_⟩
  rw [← hc]; simp [Value.cells]

/-- A slice of structs of ints. -/
theorem open_int_structs {α : Type} (en : α → List Value) {t e : TypeId} {fs : Array Field} {k b0 : Nat} {r : Reach} {v : Value} {d : DataW H} {p : List MemPlace} (ht : P.underlying t = some (.slice e)) (he : P.underlying e = some (.struct fs)) (hone : oneCellFields P fs = true) (hC : P.cellsOf e = fs.size) (hint : intFields P fs = true) (hk : fs.size = k) (hk0 : 0 < k)
    (hen : ∀ ns : List Int, ns.length = k → ∃ x, ns.map (Value.int .i64) = en x)
    (hv : Value.okWide P w r b0 t v) (h : DataW.Trod enc P w base spare held t v d p) : ∃ A c, ∃ l : List α, v = .slice A l.length c ∧ SlcR w w.heap.size k A l.length (l.flatMap en) := by
  obtain ⟨A, len, cap, rfl⟩ := okWide_slice ht hv
  obtain ⟨n, hn⟩ := h
  obtain ⟨A', len', cap', e', css, hl, hS, hcs⟩ := trod_slc ht (hC.trans hk) hk0 hn
  injection e' with e1 e2 e3
  subst e1; subst e2; subst e3
  obtain ⟨l, hfl, hll⟩ := lift_list en css (fun cs hc => by
    obtain ⟨hlen, m, y, hy⟩ := hcs cs hc
    obtain ⟨ns, hn', hc'⟩ := trod_int_cells he hone hC hint hk hy
    obtain ⟨x, hx⟩ := hen ns hn'
    exact ⟨x, by rw [hc', hx]⟩)
  refine ⟨A, cap, l, by rw [hll, hl], ?_⟩
  rw [hll, hl, ← hfl]; exact hS
end
theorem i64_lo {n : Int} (h : (Lit.int .i64 n).wf = true) : -9223372036854775808 ≤ n := by
  simp [Lit.wf, IntKind.min, IntKind.max, IntKind.signed, IntKind.bits] at h; omega
theorem i64_hi {n : Int} (h : (Lit.int .i64 n).wf = true) : n ≤ 9223372036854775807 := by
  simp [Lit.wf, IntKind.min, IntKind.max, IntKind.signed, IntKind.bits] at h; omega
end Go.Proofs.Ytchkjiadnackaaa

/- Arguments that came in: a slice of bytes. -/
namespace Go.Proofs.Ytchkjiadnackaaa
open Go.ChangeShapes Go.WideShapes Go.ChangeAt Go.RowKit Go.Deep
section
variable {H : Type} {enc : TypeId × Value → H} {P : Program} {w : World} {base : Nat} {spare : Nat → Bool} {held : Bool}
theorem trod_u8 {t : TypeId} {n : Nat} {v : Value} {x : DataW H × List MemPlace} (ht : P.underlying t = some (.int .u8)) (h : DataW.trod enc P w base spare held n t [v] = some x) :
    ∃ b : UInt8, v = .int .u8 (b.toNat : Int) := by
  obtain ⟨m, e, _, hw⟩ := DataW.trod_int ht h
  have hb : 0 ≤ m ∧ m ≤ 255 := by
    simp [Lit.wf, IntKind.min, IntKind.max, IntKind.signed, IntKind.bits] at hw
    omega
  refine ⟨UInt8.ofNat m.toNat, ?_⟩
  have e' : v = .int .u8 m := by simpa using e
  rw [e']
  congr 1
  have : (UInt8.ofNat m.toNat).toNat = m.toNat := by
    rw [UInt8.toNat_ofNat']; omega
  rw [this]; omega
/-- A slice of bytes. -/
theorem open_bytes {t e : TypeId} {b0 : Nat} {r : Reach} {v : Value} {d : DataW H} {p : List MemPlace} (ht : P.underlying t = some (.slice e)) (he : P.underlying e = some (.int .u8)) (hC : P.cellsOf e = 1)
    (hv : Value.okWide P w r b0 t v) (h : DataW.Trod enc P w base spare held t v d p) : ∃ A c, ∃ l : List UInt8, v = .slice A l.length c ∧ BytesR w w.heap.size A l := by
  obtain ⟨A, len, cap, rfl⟩ := okWide_slice ht hv
  obtain ⟨n, hn⟩ := h
  obtain ⟨A', len', cap', e', css, hl, hS, hcs⟩ := trod_slc ht hC (by omega) hn
  injection e' with e1 e2 e3
  subst e1; subst e2; subst e3
  obtain ⟨l, hfl, hll⟩ := lift_list (fun b : UInt8 => [Value.int .u8 (b.toNat : Int)]) css (fun cs hc => by
    obtain ⟨hlen, m, y, hy⟩ := hcs cs hc
    obtain ⟨u, rfl⟩ : ∃ u, cs = [u] := by match cs, hlen with | [u], _ => exact ⟨u, rfl⟩
    obtain ⟨b, rfl⟩ := trod_u8 he hy
    exact ⟨b, rfl⟩)
  refine ⟨A, cap, l, by rw [hll, hl], ?_⟩
  rw [hfl] at hS
  have key : ∀ l : List UInt8, encBs l = l.flatMap (fun b : UInt8 => [Value.int .u8 (b.toNat : Int)]) := fun l => by
    induction l with
    | nil => rfl
    | cons a l ih => rw [List.flatMap_cons, ← ih]; rfl
  unfold BytesR
  rw [key, hll, hl]
  exact hS
end
end Go.Proofs.Ytchkjiadnackaaa
