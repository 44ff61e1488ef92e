/- MergeAlike in the reference. -/
import Derived.Test.YtjdedcalbcnkmaaMergeI
namespace Go.Proofs.Ytjdedcalbcnkmaa
open Go.RowKit

theorem RowPh.bump4 {w : World} {B g cap : Nat} {l : List Ph} {i : Nat} {c : Int} (h : RowPh w B (.slice (some ⟨g, 0, none⟩) l.length cap) l) (hi : i < l.length) :
    RowPh ((((w.setCell ⟨g, i * 4, none⟩ (.int .i64 l[i].s)).setCell ⟨g, i * 4 + 1, none⟩ (.int .i64 c)).setCell ⟨g, i * 4 + 2, none⟩ (.slice l[i].A l[i].f.length l[i].cap)).setCell ⟨g, i * 4 + 3, none⟩ (.int .i64 l[i].p)) B (.slice (some ⟨g, 0, none⟩) l.length cap) (setC i c l) := by
  have hlen : (l.flatMap Ph.enc).length = l.length * 4 := flat_len Ph.enc 4 Ph.enc_len l
  have at_ : ∀ j (hj : j < 4) u, (l[i].enc)[j]? = some u → (l.flatMap Ph.enc)[i * 4 + j]? = some u := fun j hj u hu => by rw [flat_at Ph.enc 4 Ph.enc_len l i hi j hj]; exact hu
  have same : ∀ (cs : List Value) (j : Nat) (u : Value), cs[j]? = some u → cs.set j u = cs := fun cs j u hu => by
    obtain ⟨hj, e⟩ := List.getElem?_eq_some_iff.1 hu
    rw [← e]; exact List.set_getElem_self hj
  have r0 := h.row.stored (i * 4) (.int .i64 l[i].s)
  rw [same _ (i * 4) _ (by simpa using at_ 0 (by omega) _ rfl)] at r0
  have h0 : RowPh (w.setCell ⟨g, i * 4, none⟩ (.int .i64 l[i].s)) B (.slice (some ⟨g, 0, none⟩) l.length cap) l := ⟨r0.1, fun x hx => (h.fs x hx).grown h.row ne_types r0.2, h.nd⟩
  have h1 := h0.bump (c := c) hi
  rw [← setC_len i c l] at h1
  have hlt : i < (setC i c l).length := by rw [setC_len]; exact hi
  have e1 : (setC i c l)[i] = { l[i] with c := c } := by simp [setC]
  have at1 : ∀ j (hj : j < 4) u, ((setC i c l)[i].enc)[j]? = some u → ((setC i c l).flatMap Ph.enc)[i * 4 + j]? = some u := fun j hj u hu => by rw [flat_at Ph.enc 4 Ph.enc_len _ i hlt j hj]; exact hu
  rw [e1] at at1
  have r2 := h1.row.stored (i * 4 + 2) (.slice l[i].A l[i].f.length l[i].cap)
  rw [same _ _ _ (at1 2 (by omega) _ rfl)] at r2
  have h2 : RowPh _ B (.slice (some ⟨g, 0, none⟩) (setC i c l).length cap) (setC i c l) := ⟨r2.1, fun x hx => (h1.fs x hx).grown h1.row ne_types r2.2, h1.nd⟩
  have r3 := h2.row.stored (i * 4 + 3) (.int .i64 l[i].p)
  rw [same _ _ _ (at1 3 (by omega) _ rfl)] at r3
  have h3 : RowPh _ B (.slice (some ⟨g, 0, none⟩) (setC i c l).length cap) (setC i c l) := ⟨r3.1, fun x hx => (h2.fs x hx).grown h2.row ne_types r3.2, h2.nd⟩
  rw [setC_len] at h3
  exact h3

theorem lastTo_yes {p : PhD} {out : List PhD} {k : Nat} (h : k < out.length) (ha : alikeD out[k] p = true) : lastTo p out (k + 1) = k := by unfold lastTo; rw [dif_pos h, if_pos ha]
theorem lastTo_no {p : PhD} {out : List PhD} {k : Nat} (h : k < out.length) (ha : alikeD out[k] p = false) : lastTo p out (k + 1) = lastTo p out k := by
  rw [lastTo, dif_pos h, if_neg (by rw [ha]; simp)]

set_option maxRecDepth 100000 in
set_option maxHeartbeats 8000000 in
theorem specMerge_any (A : Option Addr) (c : Nat) (l : List Ph) (w : World) (h : PhsR w w.heap.size A l) :
    Calls Try.prog 31 #[.slice A l.length c] w (GivesRow w (mergeA (l.map Ph.ph))) := by
  have hl := h.slc.big
  have b0 := (Below.refl w.heap.size w).alloc (Nat.le_refl _) (.cells #[] 27)
  have L0 := Lies.new w 27 #[]
  have h0 := h.then b0
  have R0 : RowPh (w.alloc (.cells #[] 27)) w.heap.size (.slice (some ⟨w.heap.size, 0, none⟩) 0 0) [] := ⟨owns_empty L0 (Nat.le_refl _), by simp, List.Pairwise.nil⟩
  cases hg : goodPhs l
  · have HM : Hid (mergeA (l.map Ph.ph) = ([], false)) := by unfold mergeA Hid; rw [← good_goodD, hg]; rfl
    have HG := Lib.hid hg; clear hg
    go_enter Try.func31, Try.ntmps31
    go_wp2_with fail
    refine (l30Good_any A c l _ h0).mono ?_
    rw [HG.out]
    rintro e w1 ⟨rfl, hb1⟩
    go_wp2
    go_ret2
    rw [HM.out]
    exact ⟨some ⟨w.heap.size, 0, none⟩, 0, [], rfl, rfl, R0.below hb1, bthen b0 hb1⟩
  · have hlen := good_len hg
    have HM : Hid (mergeA (l.map Ph.ph) = if goodD (mergeD (l.map Ph.ph)) = true then (mergeD (l.map Ph.ph), true) else ([], false)) := by unfold mergeA Hid; rw [← good_goodD, hg]; rfl
    have HB : Hid (∀ i (hi : i < l.length), (0 ≤ l[i].c ∧ l[i].c ≤ 99) ∧ l[i].f.length ≤ 9) := fun i hi => by
      obtain ⟨_, ⟨c1, c2⟩, hr, _⟩ := Ph.bounds (good_at hg hi)
      exact ⟨⟨by omega, c2⟩, faults9 hr⟩
    have HG := Lib.hid hg; clear hg
    have hrd := fun (W : World) (hW : PhsR W W.heap.size A l) => hW.ph
    have HR0 := Lib.hid R0
    clear R0
    go_enter Try.func31, Try.ntmps31
    go_wp2_with fail
    refine (l30Good_any A c l _ h0).mono ?_
    rw [HG.out]
    rintro e w1 ⟨rfl, hb1'⟩
    have hb1 := bthen b0 hb1'
    have hw1 := hb1.size
    have HPR := Lib.hid h
    go_wp2
    go_loopw [4, 5, 6, 7, 8, 9] (fun o i _ _ _ _ wr => ∃ (k : Nat) (A' : Option Addr) (c' : Nat) (m : List Ph), k ≤ l.length ∧ i = .int .i64 k ∧ o = .slice A' m.length c' ∧ m.length ≤ 10 ∧ (∃ q : Since w.heap.size w, wr = q.val) ∧ Hid (RowPh wr w.heap.size (.slice A' m.length c') m) ∧ Hid (m.map Ph.ph = mergeD ((l.map Ph.ph).take k)) ∧ Hid (Slim k (m.map Ph.ph))) (fun _ i _ _ _ _ _ => l.length - (intOf i).toNat)
    case atStart => exact ⟨0, some ⟨w.heap.size, 0, none⟩, 0, [], Nat.zero_le _, rfl, rfl, by simp, ⟨⟨w1, hb1⟩, rfl⟩, HR0.out.below hb1', rfl, ⟨by simp, by simp⟩⟩
    case round =>
      obtain ⟨k, A', c', m, hk, rfl, rfl, hm10, ⟨q, rfl⟩, HRow, HMap, HSl⟩ := hrel
      by_cases hlt : k < l.length
      · have hR0 := (HPR.out.below q.below).mono q.size
        obtain ⟨b, off, rfl, hb, hcell⟩ := hrd _ hR0 (by omega)
        obtain ⟨c0, c1, c2, c3⟩ := hcell k hlt
        have hxf : IntsR q.val q.val.heap.size l[k].A l[k].f := hR0.f hlt
        obtain ⟨⟨bc1, bc2⟩, bf⟩ := HB.out k hlt
        have HST : Hid (mergeD ((l.map Ph.ph).take (k + 1)) = putD (mergeD ((l.map Ph.ph).take k)) l[k].ph) := by
          rw [Hid, mergeD_step (by simpa using hlt)]; simp
        obtain ⟨x, hxe⟩ : ∃ x, x = l[k] := ⟨_, rfl⟩
        rw [← hxe] at c0 c1 c2 c3 hxf bc1 bc2 bf HST
        clear hxe hcell hrd hR0
        have k0 := c0 (Since.start _ _)
        have k1 := c1 (Since.start _ _)
        have k2 := c2 (Since.start _ _)
        have k3 := c3 (Since.start _ _)
        change q.val.cell? _ = _ at k0
        change q.val.cell? _ = _ at k1
        change q.val.cell? _ = _ at k2
        change q.val.cell? _ = _ at k3
        clear c0 c1 c2 c3
        have b2 := (Below.refl q.val.heap.size q.val).alloc (Nat.le_refl _) (.cells #[.int .i64 x.s, .int .i64 x.c, .slice x.A x.f.length x.cap, .int .i64 x.p] 27)
        have L2 := Lies.new q.val 27 #[.int .i64 x.s, .int .i64 x.c, .slice x.A x.f.length x.cap, .int .i64 x.p]
        have hxf2 := SlcR.up hxf b2 (Nat.le_refl _)
        have hqs := q.size
        go_wp2_with fail
        generalize q.val.alloc (.cells #[.int .i64 x.s, .int .i64 x.c, .slice x.A x.f.length x.cap, .int .i64 x.p] 27) = W2 at b2 L2 hxf2 ⊢
        generalize hgp : q.val.heap.size = gp at L2 ⊢
        refine (l1Own_any x.A x.cap x.f W2 hxf2 (by omega)).mono ?_
        rintro e w3 ⟨A3, c3, rfl, hO3, hb3⟩
        have L3 := L2.below hb3 L2.lt
        have f2 := L3.frozen 2
        have j2 := L3.cell 2
        simp only [List.getElem?_cons_zero, List.getElem?_cons_succ] at j2
        have hgl := L3.lt
        have hb23 := bthen b2 hb3
        clear k0 k1 k2 k3
        have hgw : w.heap.size ≤ gp := by omega
        have L4 : Lies (w3.setCell ⟨gp, 2, none⟩ (.slice A3 x.f.length c3)) gp 27 [.int .i64 x.s, .int .i64 x.c, .slice A3 x.f.length c3, .int .i64 x.p] := L3.set 2 _
        have hg4 : w3.grownBy (w3.setCell ⟨gp, 2, none⟩ (.slice A3 x.f.length c3)) (some gp) := grown_set (World.grownBy.refl w3 _)
        have HO4 := Lib.hid ((hO3.kept hg4 L2.lt).lower b2.size)
        have hbq : Below q.val.heap.size q.val (w3.setCell ⟨gp, 2, none⟩ (.slice A3 x.f.length c3)) := hb23.setCell (p := ⟨gp, 2, none⟩) (by simp only; omega) _
        have HR4 := Lib.hid (HRow.out.below hbq)
        go_wp2
        clear hO3 hg4 L3 L2 f2 j2
        generalize w3.setCell ⟨gp, 2, none⟩ (.slice A3 x.f.length c3) = W4 at L4 HO4 hbq HR4 ⊢
        have n0 : ∀ p : Since W4.heap.size W4, p.val.cell? ⟨gp, 0, none⟩ = some (.int .i64 x.s) := fun p => (p.cell L4.lt).trans (L4.cell 0)
        have n1 : ∀ p : Since W4.heap.size W4, p.val.cell? ⟨gp, 1, none⟩ = some (.int .i64 x.c) := fun p => (p.cell L4.lt).trans (L4.cell 1)
        have n2 : ∀ p : Since W4.heap.size W4, p.val.cell? ⟨gp, 2, none⟩ = some (.slice A3 x.f.length c3) := fun p => (p.cell L4.lt).trans (L4.cell 2)
        have n3 : ∀ p : Since W4.heap.size W4, p.val.cell? ⟨gp, 3, none⟩ = some (.int .i64 x.p) := fun p => (p.cell L4.lt).trans (L4.cell 3)
        have hgp4 : gp < W4.heap.size := L4.lt
        have HX4 : Hid (∀ p : Since W4.heap.size W4, IntsR p.val p.val.heap.size A3 x.f) := fun p => SlcR.up HO4.out.reads p.below (Nat.le_refl _)
        have HM4 : Hid (∀ (p : Since W4.heap.size W4) j (hj : j < m.length), IntsR p.val p.val.heap.size m[j].A m[j].f) := fun p j hj => SlcR.up (HR4.out.reads.f hj) p.below (Nat.le_refl _)
        have hrm := HR4.out.reads.ph
        clear L4
        go_loopw [7, 8] (fun a j wr => ∃ (j' : Nat), j' ≤ m.length ∧ j = .int .i64 j' ∧ a = .int .i64 (lastTo x.ph (m.map Ph.ph) j') ∧ (∃ p : Since W4.heap.size W4, wr = p.val)) (fun _ j _ => m.length - (intOf j).toNat)
        case atStart => exact ⟨0, Nat.zero_le _, rfl, rfl, ⟨Since.start _ _, rfl⟩⟩
        case round =>
          obtain ⟨j, hj, rfl, rfl, ⟨p, rfl⟩⟩ := hrel
          by_cases hjl : j < m.length
          · obtain ⟨b', off', rfl, hb', hcell'⟩ := hrm (by omega)
            obtain ⟨d0, d1, d2, d3⟩ := hcell' j hjl
            have HMj : Hid (∀ p : Since W4.heap.size W4, IntsR p.val p.val.heap.size m[j].A m[j].f) := fun p => HM4.out p j hjl
            have hal : ∀ v, alikeD m[j].ph x.ph = v → lastTo x.ph (m.map Ph.ph) (j + 1) = if v = true then (j : Int) else lastTo x.ph (m.map Ph.ph) j := by
              intro v hv
              have e : (m.map Ph.ph)[j]'(by simpa using hjl) = m[j].ph := by simp
              cases v
              · rw [lastTo_no (by simpa using hjl) (by rw [e]; exact hv)]; rfl
              · rw [lastTo_yes (by simpa using hjl) (by rw [e]; exact hv)]; rfl
            obtain ⟨y, hye⟩ : ∃ y, y = m[j] := ⟨_, rfl⟩
            rw [← hye] at d0 d1 d2 d3 HMj hal
            clear hye hcell' hrm
            have HC : Hid (∀ (p : Since W4.heap.size W4), Calls Try.prog 50 #[y.val, Ph.val { x with A := A3, cap := c3 }] p.val fun e w' => e = .returned (.bool (alikeD y.ph x.ph)) ∧ Below p.val.heap.size p.val w') := fun p => by
              have := l30Alike_any y { x with A := A3, cap := c3 } p.val (HMj.out p) (HX4.out p)
              rw [Ph.alike_ph] at this; exact this
            have hj1 : (0 : Int) ≤ (j : Int) := by omega
            have hj2 : (j : Int) < (m.length : Int) := by omega
            cases hv : alikeD y.ph x.ph
            · have HL := Lib.hid (hal _ hv)
              rw [hv] at HC
              clear hal hv
              go_wp2
              refine wp_region_since _ (by kernel_rfl) (by kernel_rfl) ?_
              repeat (any_goals (first | go_big_quiet_step ((go_at_call 50; refine calls_since (Nat.le_refl _) (HC.out _))) | (refine wpQuiet_step (fun K hK => ?_); go_simp; split <;> (refine hK _ ?_; clear hK K))))
              all_goals (refine wpQuiet_nil ?_; rintro _ ⟨q1, rfl⟩)
              go_wp2
              go_roundw
              case rel => exact ⟨j + 1, by omega, by go_num, by rw [HL.out]; rfl, ⟨q1, rfl⟩⟩
              case measure => simp [intOf]; omega
            · have HL := Lib.hid (hal _ hv)
              rw [hv] at HC
              clear hal hv
              go_wp2
              refine wp_region_since _ (by kernel_rfl) (by kernel_rfl) ?_
              repeat (any_goals (first | go_big_quiet_step ((go_at_call 50; refine calls_since (Nat.le_refl _) (HC.out _))) | (refine wpQuiet_step (fun K hK => ?_); go_simp; split <;> (refine hK _ ?_; clear hK K))))
              all_goals (refine wpQuiet_nil ?_; rintro _ ⟨q1, rfl⟩)
              go_wp2
              go_roundw
              case rel => exact ⟨j + 1, by omega, by go_num, by rw [HL.out]; rfl, ⟨q1, rfl⟩⟩
              case measure => simp [intOf]; omega
          · obtain rfl : j = m.length := by omega
            have HIX : Hid (lastTo x.ph (m.map Ph.ph) m.length = idxFrom (alikeD x.ph) 0 (mergeD ((l.map Ph.ph).take k))) := by
              have h1 := lastTo_idx (p := x.ph) (merge_apart ((l.map Ph.ph).take k))
              rw [← HMap.out] at h1 ⊢
              rw [Hid, ← h1]; simp
            have hbqp := bthen hbq p.below
            rcases idx_spec (f := alikeD x.ph) (mergeD ((l.map Ph.ph).take k)) 0 with ⟨h1, _⟩ | ⟨i, hi, h1, _⟩
            · have HP : Hid (putD (mergeD ((l.map Ph.ph).take k)) x.ph = mergeD ((l.map Ph.ph).take k) ++ [x.ph]) := putD_new (by omega)
              have hix : lastTo x.ph (m.map Ph.ph) m.length = -1 := by rw [HIX.out]; exact h1
              rw [hix]
              clear h1 hix
              have HROW := Lib.hid (ownsRow_below HR4.out.row p.below)
              have hszp : w.heap.size ≤ p.val.heap.size := Nat.le_trans hqs hbqp.size
              have hml : m.length ≤ k := by have := HSl.out.1; simpa using this
              clear hrm
              go_wp2_with (at_builtin; refine wpList_push (w0 := p.val) rfl _ _ 35 rfl 27 _ 4 48 Try.underlying35 infoPh rfl (by omega) (by omega) w.heap.size _ _ _ rfl HROW #[.int .i64 x.s, .int .i64 x.c, .slice A3 x.f.length c3, .int .i64 x.p] 1 _ rfl (by first | rfl | exact Array.size_push _) rfl (by simp [Value.oneCell']) (by omega) hszp rfl rfl rfl rfl ?_; intro v' w5 HO5 hg5 hb5)
              have HNEW := Lib.hid (RowPh.push (x := { x with A := A3, cap := c3 }) HRow.out hbqp (HO4.out.then p.below) hqs HO5.out hg5)
              obtain ⟨A5, c5, hv5⟩ := ownsRow_slice HO5.out
              subst hv5
              go_roundw
              case rel =>
                refine ⟨k + 1, A5, c5, m ++ [{ x with A := A3, cap := c3 }], by omega, by go_num, by simp, by simp; omega, ⟨(q.go (Nat.le_refl _) hbqp).go' hb5, rfl⟩, by rw [Hid]; simpa using HNEW.out, ?_, ?_⟩
                · rw [Hid, HST.out, HP.out, ← HMap.out]; simp [Ph.ph]
                · have h2 := HSl.out.put (p := x.ph) ⟨bc1, bc2⟩ bf
                  rw [HMap.out, HP.out, ← HMap.out] at h2
                  rw [Hid]; simpa [Ph.ph] using h2
              case measure => simp [intOf]; omega
            · rw [Nat.zero_add] at h1
              have HP : Hid (putD (mergeD ((l.map Ph.ph).take k)) x.ph = addAt x.c i (mergeD ((l.map Ph.ph).take k))) := putD_old h1
              have hix : lastTo x.ph (m.map Ph.ph) m.length = (i : Int) := by rw [HIX.out]; exact h1
              rw [hix]
              clear h1 hix
              have hi' : i < m.length := by have h2 := congrArg List.length HMap.out; simp at h2; omega
              have HR5 := Lib.hid (HR4.out.below p.below)
              obtain ⟨g5, rfl⟩ : ∃ g, A' = some ⟨g, 0, none⟩ := by
                obtain ⟨_, h0 | ⟨g, cap, cur, hv, _⟩⟩ := HR5.out.row
                · have := h0.2; omega
                · injection hv with e1 e2 e3; exact ⟨g, e1⟩
              have hmb : Hid (0 ≤ m[i].c ∧ m[i].c ≤ 99 * (k : Int)) := by
                have h2 := HSl.out.2 m[i].ph (List.mem_map.2 ⟨m[i], List.getElem_mem hi', rfl⟩)
                exact ⟨h2.1, h2.2.1⟩
              have at5 : ∀ j (hj : j < 4) u, (m[i].enc)[j]? = some u → p.val.cell? ⟨g5, i * 4 + j, none⟩ = some u := fun j hj u hu => by
                rw [HR5.out.row.cellAt _ (by omega), flat_at Ph.enc 4 Ph.enc_len m i hi' j hj]; exact hu
              have e0 : p.val.cell? ⟨g5, i * 4, none⟩ = some (.int .i64 m[i].s) := at5 0 (by omega) _ rfl
              have e1 := at5 1 (by omega) _ rfl
              have e2 := at5 2 (by omega) _ rfl
              have e3 := at5 3 (by omega) _ rfl
              have f0 : p.val.frozen? ⟨g5, i * 4, none⟩ = false := HR5.out.row.frozenAt _
              have f1 : p.val.frozen? ⟨g5, i * 4 + 1, none⟩ = false := HR5.out.row.frozenAt _
              have f2 : p.val.frozen? ⟨g5, i * 4 + 2, none⟩ = false := HR5.out.row.frozenAt _
              have f3 : p.val.frozen? ⟨g5, i * 4 + 3, none⟩ = false := HR5.out.row.frozenAt _
              have HBUMP : Hid (∀ (c : Int), RowPh ((((p.val.setCell ⟨g5, i * 4, none⟩ (.int .i64 m[i].s)).setCell ⟨g5, i * 4 + 1, none⟩ (.int .i64 c)).setCell ⟨g5, i * 4 + 2, none⟩ (.slice m[i].A m[i].f.length m[i].cap)).setCell ⟨g5, i * 4 + 3, none⟩ (.int .i64 m[i].p)) w.heap.size (.slice (some ⟨g5, 0, none⟩) m.length c') (setC i c m)) := fun c => HR5.out.bump4 hi'
              have HPHC : Hid (∀ c : Int, (setC i c m).map Ph.ph = (m.map Ph.ph).take i ++ (m[i].s, c, m[i].f, m[i].p) :: (m.map Ph.ph).drop (i + 1)) := fun c => setC_ph hi'
              have HADD : Hid (addAt x.c i (m.map Ph.ph) = (m.map Ph.ph).take i ++ (m[i].s, m[i].c + x.c, m[i].f, m[i].p) :: (m.map Ph.ph).drop (i + 1)) := by
                rw [Hid, addAt_split i _ (by simpa using hi')]; simp [Ph.ph]
              have hg5 : w.heap.size ≤ g5 := (HR5.out.row.lt g5 rfl).1
              have hg5p : g5 < p.val.heap.size := (HR5.out.row.lt g5 rfl).2
              obtain ⟨y, hye⟩ : ∃ y, y = m[i] := ⟨_, rfl⟩
              rw [← hye] at hmb e0 e1 e2 e3 HBUMP HPHC HADD
              clear hye at5 hrm
              have hmb1 := hmb.out.1
              have hmb2 := hmb.out.2
              have hk10 : (k : Int) ≤ 10 := by omega
              have hgpp : gp < p.val.heap.size := Nat.lt_of_lt_of_le hgp4 p.size
              have hi1 : (0 : Int) ≤ (i : Int) := by omega
              have hi2 : (i : Int) < (m.length : Int) := by omega
              go_wp2
              go_roundw
              case rel =>
                refine ⟨k + 1, some ⟨g5, 0, none⟩, c', setC i (y.c + x.c) m, by omega, by go_num, by rw [setC_len], by rw [setC_len]; omega, ⟨(q.go (Nat.le_refl _) hbqp).go' ((((((Below.refl _ _).setCell (p := ⟨g5, i * 4, none⟩) hg5 _).setCell (p := ⟨g5, i * 4 + 1, none⟩) hg5 _).setCell (p := ⟨g5, i * 4 + 2, none⟩) hg5 _).setCell (p := ⟨g5, i * 4 + 3, none⟩) hg5 _).alloc (by simp; exact Nat.le_trans hqs hbqp.size) _), rfl⟩, ?_, ?_, ?_⟩
                · rw [Hid, setC_len]; exact (HBUMP.out (y.c + x.c)).below ((Below.refl _ _).alloc (Nat.le_refl _) _)
                · rw [Hid, HPHC.out, HST.out, HP.out, ← HMap.out, HADD.out]
                · have h2 := HSl.out.put (p := x.ph) ⟨bc1, bc2⟩ bf
                  rw [HMap.out, HP.out, ← HMap.out, HADD.out] at h2
                  rw [Hid, HPHC.out]; exact h2
              case measure => simp [intOf]; omega
      · have HK : Hid (m.map Ph.ph = mergeD (l.map Ph.ph)) := by
          have h1 := HMap.out; rw [List.take_of_length_le (by simp; omega)] at h1; exact h1
        have hgm : Hid (goodPhs m = goodD (mergeD (l.map Ph.ph))) := by rw [Hid, good_goodD, HK.out]
        clear hrd
        cases hgd : goodD (mergeD (l.map Ph.ph))
        · rw [hgd] at hgm HM
          go_wp2_with fail
          refine (l30Good_any A' c' m _ (HRow.out.reads)).mono ?_
          rw [hgm.out]
          rintro e w2 ⟨rfl, hb2⟩
          go_wp2
          go_ret2
          rw [HM.out]
          exact ⟨some ⟨w2.heap.size, 0, none⟩, 0, [], rfl, rfl, ⟨owns_empty (Lies.new w2 27 #[]) (q.go (Nat.le_refl _) hb2).size, by simp, List.Pairwise.nil⟩, ((q.go (Nat.le_refl _) hb2).below.trans (((Below.refl _ _).alloc (q.go (Nat.le_refl _) hb2).size _)))⟩
        · rw [hgd] at hgm HM
          go_wp2_with fail
          refine (l30Good_any A' c' m _ (HRow.out.reads)).mono ?_
          rw [hgm.out]
          rintro e w2 ⟨rfl, hb2⟩
          go_wp2
          go_ret2
          rw [HM.out]
          exact ⟨A', c', m, rfl, HK.out, HRow.out.below hb2, (q.go (Nat.le_refl _) hb2).below⟩
end Go.Proofs.Ytjdedcalbcnkmaa
