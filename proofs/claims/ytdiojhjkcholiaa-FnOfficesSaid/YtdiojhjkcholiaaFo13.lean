/- Fo13: the texts DrawOff DrawSO, joined into one file. -/
import Derived.Test.YtdiojhjkcholiaaFo08
import Derived.Test.YtdiojhjkcholiaaFo12

/- The reference draws an office. (Printed by gen_doff.py) -/
namespace Go.Proofs.Ytdiojhjkcholiaa
open Go.RowKit

theorem resOf_good (y : Oc) (s : Stp) : (resOf (tryD y s)).good = true := by
  unfold tryD
  split
  · cases h : stepD y s with
    | none => rfl
    | some r => exact stepD_good h
  · rfl
theorem specStepY (y : Oc) (s : Stp) {v : Value} (W : World) (h : InV W y v) : Calls Try.prog 13 #[v, s.val] W (GivesR W (resOf (tryD y s)) (tryD y s).isSome) := by
  obtain ⟨X, rfl, hc, hr, hcap⟩ := h
  rw [← hc]
  exact (specStep_any X s W hr hcap).mono fun _ _ h => h.r
theorem own_ge {W : World} {B k n c : Nat} {e : TypeId} {A : Option Addr} {xs : List Value} (h : W.ownsRow B e k (.slice A n c) n xs) (b : Nat) (hb : A.map (·.block) = some b) : B ≤ b := by
  cases A with
  | none => cases hb
  | some a => exact (h.lt b hb).1
theorem ownsRow_grown {W W' : World} {B k n g : Nat} {e : TypeId} {v : Value} {xs : List Value} (h : W.ownsRow B e k v n xs) (hg : W.grownBy W' (some g)) (hB : g < B) : W'.ownsRow B e k v n xs :=
  h.kept hg (.inr (by intro e; have := (h.lt g e).1; omega))
theorem own_apart {W : World} {B B' k k' n n' : Nat} {e e' : TypeId} {v v' : Value} {xs xs' : List Value} {b : Nat} (h : W.ownsRow B e k v n xs) (h' : W.ownsRow B' e' k' v' n' xs') (hne : e ≠ e') (hb : v.ownBlock = some b) (hb' : v'.ownBlock = some b) : False := by
  obtain ⟨_, h2 | ⟨b1, c, cur, hv, hB, hh, hr⟩⟩ := h
  · rw [h2.1] at hb; cases hb
  · obtain ⟨_, h2' | ⟨b2, c', cur', hv', hB', hh', hr'⟩⟩ := h'
    · rw [h2'.1] at hb'; cases hb'
    · rw [hv] at hb; rw [hv'] at hb'
      injection hb with hb; injection hb' with hb'
      simp only at hb hb'
      subst hb; subst hb'
      rw [hh] at hh'
      injection hh' with hh'; injection hh' with _ h3; exact hne h3
theorem OwnV.grown {W W' : World} {B g : Nat} {y : Oc} {v : Value} (h : OwnV W B y v) (hg : W.grownBy W' (some g)) (hB : g < B) : OwnV W' B y v := by
  obtain ⟨TA, tc, OA, oc, e, h1, h2⟩ := h
  exact ⟨TA, tc, OA, oc, e, ownsRow_grown h1 hg hB, ownsRow_grown h2 hg hB⟩
theorem OffIn.grown {W W' : World} {B g h : Nat} {y : Oc} (hI : OffIn W B h y) (hg : W.grownBy W' (some g)) (hB : g < B) (hne : g ≠ h) : OffIn W' B h y := by
  obtain ⟨TA, tc, OA, oc, P⟩ := hI
  exact ⟨TA, tc, OA, oc, P.lies.kept hg (by intro e; injection e with e; exact hne e.symm), P.hg, ownsRow_grown P.t hg hB, ownsRow_grown P.o hg hB⟩
theorem drawn_own {w W wx : World} {g : Nat} {A : Option Addr} {bs : List UInt8} {cap m K n : Nat} {R : List Room} {L : Nat → Bool} {B k n' : Nat} {e : TypeId} {v : Value} {xs : List Value} (h : Dr w W g A bs cap m K n [g] R L wx) (ho : W.ownsRow B e k v n' xs) (hB : g < B) : wx.ownsRow B e k v n' xs :=
  h.owns ho fun b hb hm => by simp only [List.mem_singleton] at hm; have := (ho.lt b hb).1; omega
theorem drawn_reads {w W wx : World} {g : Nat} {A : Option Addr} {bs : List UInt8} {cap m K n B h : Nat} {R : List Room} {L : Nat → Bool} {y : Oc} {TA OA : Option Addr} {tc oc : Nat} (hC : Dr w W g A bs cap m K n [g] R L wx) (P : OffOwn W B h (.slice TA y.t.length tc) (.slice OA y.o.length oc) y) (hB : g < B) : OffR wx wx.heap.size (y.at TA tc OA oc) :=
  ⟨ownsRow_reads (drawn_own hC P.t hB), ownsRow_reads (drawn_own hC P.o hB)⟩
/-- What stands while an office is drawn. -/
structure QSt (w W wx : World) (g : Nat) (A : Option Addr) (bs : List UInt8) (cap m g3 : Nat) (y : Oc) : Prop where
  env : Env w wx g A bs cap m
  out : Lies wx W.heap.size 25 [.slice none 0 0, .slice none 0 0, .int .i64 0, .int .i64 0, .int .i64 0]
  own : OffIn wx W.heap.size g3 y
  gr : W.grownBy wx (some g)
  l : W.heap.size < g3
  lt : g < W.heap.size
theorem QSt.mono {w W wx : World} {g : Nat} {A : Option Addr} {bs : List UInt8} {cap m m' g3 : Nat} {y : Oc} (h : QSt w W wx g A bs cap m g3 y) (hm : m ≤ m') : QSt w W wx g A bs cap m' g3 y := { h with env := h.env.mono hm }

set_option maxRecDepth 100000 in
set_option maxHeartbeats 8000000 in
set_option linter.unusedVariables false in
theorem office_any (g : Nat) (A : Option Addr) (bs : List UInt8) (cap m : Nat) (w W : World) (hm : m ≤ 700000000) (E0 : Env w W g A bs cap m) :
    Calls Try.prog 57 #[.pointer (some ⟨g, 0, none⟩)] W fun e w' => ∃ (y : Oc) (v : Value), e = .returned v ∧ OwnV w' W.heap.size y v ∧ (y.t.length ≤ 20 ∧ y.o.length ≤ 20) ∧ Env w w' g A bs cap (m + 100000) ∧ W.grownBy w' (some g) := by
  have hB := E0.lt
  have hwW := E0.gr.size
  have L2 := Lies.new W 25 #[.slice none 0 0, .slice none 0 0, .int .i64 0, .int .i64 0, .int .i64 0]
  have E2 := E0.alloc (.cells #[.slice none 0 0, .slice none 0 0, .int .i64 0, .int .i64 0, .int .i64 0] 25)
  have G2 : W.grownBy (W.alloc (.cells #[.slice none 0 0, .slice none 0 0, .int .i64 0, .int .i64 0, .int .i64 0] 25)) (some g) := World.grownBy_alloc _ _ _
  have hsz : (W.alloc (.cells #[.slice none 0 0, .slice none 0 0, .int .i64 0, .int .i64 0, .int .i64 0] 25)).heap.size = W.heap.size + 1 := by simp
  go_enter Try.func57, Try.ntmps57
  go_upto_region 1 with fail
  generalize (W.alloc (.cells #[.slice none 0 0, .slice none 0 0, .int .i64 0, .int .i64 0, .int .i64 0] 25)) = W1 at L2 E2 G2 hsz ⊢
  have HS := Lib.hid hsz
  have HE0 := Lib.hid E0
  clear hsz E0
  go_cut [3] (fun s3 wx => ∃ g3 : Nat, s3 = .pointer (some ⟨g3, 0, none⟩) ∧ QSt w W wx g A bs cap m g3 Oc.zero)
  case first =>
    go_wp2_with fail
    go_meet
    case rel =>
      have ho1 := World.ownsRow_lit (base := W.heap.size) (e := 74) (size := 2) W1 #[] 0 (by have := HS.out; omega) (by decide) rfl
      have ho2 := World.ownsRow_lit (base := W.heap.size) (e := 100) (size := 3) (W1.alloc (.cells #[] 74)) #[] 0 (by have := HS.out; simp; omega) (by decide) rfl
      have hz : (W1.alloc (.cells #[] 74)).heap.size = W1.heap.size + 1 := by simp
      have hz2 : ((W1.alloc (.cells #[] 74)).alloc (.cells #[] 100)).heap.size = W1.heap.size + 1 + 1 := by simp
      rw [hz] at ho2
      refine ⟨_, rfl, ((E2.alloc _).alloc _).alloc _, ((L2.alloc _).alloc _).alloc _, ⟨some ⟨W1.heap.size, 0, none⟩, 0, some ⟨W1.heap.size + 1, 0, none⟩, 0, ?_, ?_, (ho1.alloc _).alloc _, ho2.alloc _⟩, grown_alloc (grown_alloc (grown_alloc G2 _) _) _, ?_, hB⟩
      · have := Lies.new ((W1.alloc (.cells #[] 74)).alloc (.cells #[] 100)) 25 #[.slice (some ⟨W1.heap.size, 0, none⟩) 0 0, .slice (some ⟨W1.heap.size + 1, 0, none⟩) 0 0, .int .i64 0, .int .i64 0, .int .i64 0]
        rw [hz2] at this
        exact this
      · have := HS.out; omega
      · have := HS.out; omega
  case rest =>
    clear L2 E2 G2 HS
    obtain ⟨g3, rfl, St⟩ := hcut
    have l1 := St.l
    go_wp2_with fail
    refine (pick_env St.env 36 (by omega) (by omega)).mono ?_
    rintro e W3 ⟨n, rfl, hn, E3, gr3⟩
    have St3 : QSt w W W3 g A bs cap (m + 10 + 2000 * (36 - n)) g3 Oc.zero := ⟨E3.mono (by omega), St.out.kept gr3 (by intro e; injection e; omega), St.own.grown gr3 hB (by omega), grown_trans St.gr gr3, l1, hB⟩
    have HST := Lib.hid St3
    clear St3 St E3 gr3
    go_wp2_with fail
    go_loopw [4, 5, 6] (fun i _ _ wr => ∃ (k : Nat) (y : Oc), k ≤ 36 ∧ i = .int .i64 k ∧ Hid (y.good = true) ∧ Hid (QSt w W wr g A bs cap (m + 10 + 2000 * (36 - k)) g3 y)) (fun i _ _ _ => (intOf i).toNat)
    case atStart => exact ⟨n, Oc.zero, by omega, rfl, rfl, HST⟩
    case round =>
      clear HST
      obtain ⟨k, y, hk, rfl, HG, HQ⟩ := hrel
      by_cases hlt : 0 < k
      · have hgB := hB
        have St := HQ.out
        have hy := good_lens HG.out
        obtain ⟨TA, tc, OA, oc, P⟩ := St.own
        have K3 := P.lies
        have nx3 : g3 ∉ [g] := by simp only [List.mem_singleton]; omega
        have hlt' : (0 : Int) < k := by omega
        have hwr := St.gr.size
        have hg3r := K3.lt
        have hyt : y.t.length ≤ 100000 ∧ y.o.length ≤ 100000 := by
          have G := good_iff.1 (show goodOff (y.at none 0 none 0) = true from HG.out)
          exact ⟨Nat.le_trans G.tl (by omega), Nat.le_trans G.ol (by omega)⟩
        obtain ⟨hy1, hy2⟩ := hyt
        clear hy
        go_wp2_with fail
        refine wp_region_factsR (Dr w wr g A bs cap (m + 10 + 2000 * (36 - k)) 100 11 [g] []) (fun i w1 w2 => i ∉ [9] → w1.grownBy w2 (some g)) (by kernel_rfl) (by kernel_rfl) (by kernel_rfl) (Dr.start St.env (by simp)) ?_
        simp only [fillOps, Act.put, List.setIfInBounds_toArray, List.set_cons_zero, List.set_cons_succ, Nat.zero_add, Nat.reduceAdd]
        apply wpFactsR_val
        case h1 =>
          intro vs L9 w9 hG9 hC9 hB K9 hK9
          have q0 : w9.cell? ⟨g3, 0, none⟩ = some (.slice TA y.t.length tc) := (hC9.lies K3 nx3).cell 0
          have q1 : w9.cell? ⟨g3, 1, none⟩ = some (.slice OA y.o.length oc) := (hC9.lies K3 nx3).cell 1
          have q2 : w9.cell? ⟨g3, 2, none⟩ = some (.int .i64 y.got) := (hC9.lies K3 nx3).cell 2
          have q3 : w9.cell? ⟨g3, 3, none⟩ = some (.int .i64 y.sold) := (hC9.lies K3 nx3).cell 3
          have q4 : w9.cell? ⟨g3, 4, none⟩ = some (.int .i64 y.missed) := (hC9.lies K3 nx3).cell 4
          simp only [Act.put, List.setIfInBounds_toArray, List.set_cons_zero, List.set_cons_succ] at hK9
          go_simp
          exact hK9 _ _ rfl (hC9.stay hG9.self (by decide)) (fun _ => World.grownBy.refl _ _)
        apply wpFactsR_val
        case h1 =>
          intro vs L9 w9 hG9 hC9 hB K9 hK9
          simp only [Act.put, List.setIfInBounds_toArray, List.set_cons_zero, List.set_cons_succ] at hK9
          go_simp
          exact hK9 _ _ rfl (hC9.stay hG9.self (by decide)) (fun _ => World.grownBy.refl _ _)
        apply wpFactsR_val
        case h1 =>
          intro vs L9 w9 hG9 hC9 hB K9 hK9
          have q0 : w9.cell? ⟨g3, 0, none⟩ = some (.slice TA y.t.length tc) := (hC9.lies K3 nx3).cell 0
          have q1 : w9.cell? ⟨g3, 1, none⟩ = some (.slice OA y.o.length oc) := (hC9.lies K3 nx3).cell 1
          have q2 : w9.cell? ⟨g3, 2, none⟩ = some (.int .i64 y.got) := (hC9.lies K3 nx3).cell 2
          have q3 : w9.cell? ⟨g3, 3, none⟩ = some (.int .i64 y.sold) := (hC9.lies K3 nx3).cell 3
          have q4 : w9.cell? ⟨g3, 4, none⟩ = some (.int .i64 y.missed) := (hC9.lies K3 nx3).cell 4
          simp only [Act.put, List.setIfInBounds_toArray, List.set_cons_zero, List.set_cons_succ] at hK9
          go_simp
          exact hK9 _ _ rfl (hC9.stay hG9.self (by decide)) (fun _ => World.grownBy.refl _ _)
        refine wpFactsR_some [] (fun v _ => ∃ s : Stp, v = .agg #[.int .i64 s.kind, .int .i64 s.stamp, .int .i64 s.person, .int .i64 s.value]) ?_ (fun vs L9 w9 hG9 hC9 hB K9 hK9 => ?_) ?_
        next =>
          intro i9 hi9 hb9 ha9 v w1 w2 hv hT9
          exact hv
        next =>
          have d1 := FactN.eq (hB 1 _ (by kernel_rfl) (by kernel_rfl) rfl (by decide))
          have d2 := FactN.eq (hB 2 _ (by kernel_rfl) (by kernel_rfl) rfl (by decide))
          simp only [d1, d2] at hK9 ⊢
          simp only [Act.put, List.setIfInBounds_toArray, List.set_cons_zero, List.set_cons_succ] at hK9
          go_simp
          refine (officeStep_any (y.at TA tc OA oc) g A bs cap _ w w9 (by have := hC9.cnt; omega) (by show y.t.length ≤ _; omega) (by show y.o.length ≤ _; omega) hC9.env (drawn_reads hC9 P hgB) (fun b e => by have := own_ge P.t b e; omega) (fun b e => by have := own_ge P.o b e; omega)).mono ?_
          rintro en w8 ⟨s8, rfl, hE8, hg8⟩
          exact hK9 _ _ _ rfl ⟨_, rfl⟩ (hC9.call hG9.self (by decide) hE8 (by omega) hg8 (by simp)) (fun _ => hg8)
        refine wpFactsR_some [9] (fun v w9 => ∃ (u : Value) (z : Oc) (b : Bool), v = .tuple #[u, .bool b] ∧ OwnV w9 W.heap.size z u ∧ z.good = true) ?_ (fun vs L9 w9 hG9 hC9 hB K9 hK9 => ?_) ?_
        next =>
          intro i9 hi9 hb9 ha9 v w1 w2 hv hT9
          have hb := hT9 (fun hm => by
            simp only [List.mem_cons, List.not_mem_nil, or_false] at hm hb9
            subst hm
            · exact hb9 (by simp))
          obtain ⟨u, z, b, q1, q2, q3⟩ := hv
          exact ⟨u, z, b, q1, q2.grown hb hgB, q3⟩
        next =>
          have d0 := FactN.eq (hB 0 _ (by kernel_rfl) (by kernel_rfl) rfl (by decide))
          simp only [d0] at hK9 ⊢
          simp only [Act.put, List.setIfInBounds_toArray, List.set_cons_zero, List.set_cons_succ] at hK9
          obtain ⟨s3, e3⟩ := hB 3 _ (by kernel_rfl) (by kernel_rfl) rfl (by decide)
          simp only [e3] at hK9 ⊢
          go_simp
          have hIn : InV w9 y (.agg #[.slice TA y.t.length tc, .slice OA y.o.length oc, .int .i64 y.got, .int .i64 y.sold, .int .i64 y.missed]) := ⟨y.at TA tc OA oc, rfl, rfl, drawn_reads hC9 P hgB, ownsRow_cap P.t⟩
          have hwS : W.heap.size ≤ w9.heap.size := Nat.le_trans St.gr.size hC9.size
          refine (specStepY y s3 w9 hIn).mono ?_
          rintro en w8 ⟨v8, rfl, hv8, hb8⟩
          exact hK9 _ _ _ rfl ⟨v8, _, _, rfl, hv8.lower hwS, resOf_good _ _⟩ (hC9.below hG9.self (by decide) hb8) (fun _ => grownAny hb8 _)
        refine wpFactsR_pair [] 4 (fun u v _ => v = u ∧ ∃ q b, u = .tuple #[q, .bool b]) (by kernel_rfl) ?_ (fun vs L9 w9 hG9 hC9 hB K9 hK9 => ?_) ?_
        next =>
          intro i9 hi9 hb9 ha9 u v w1 w2 hv hT9
          exact hv
        next =>
          obtain ⟨u5, z5, b5, e5, h5, _⟩ := hB 4 _ (by kernel_rfl) (by kernel_rfl) rfl (by decide)
          simp only [e5] at hK9 ⊢
          go_simp
          exact hK9 _ _ _ rfl ⟨rfl, u5, b5, rfl⟩ (hC9.stay hG9.self (by decide)) (fun _ => World.grownBy.refl _ _)
        refine wpFactsR_some [9] (fun v w9 => ∃ z : Oc, OwnV w9 W.heap.size z v ∧ z.good = true) ?_ (fun vs L9 w9 hG9 hC9 hB K9 hK9 => ?_) ?_
        next =>
          intro i9 hi9 hb9 ha9 v w1 w2 hv hT9
          have hb := hT9 (fun hm => by
            simp only [List.mem_cons, List.not_mem_nil, or_false] at hm hb9
            subst hm
            · exact hb9 (by simp))
          obtain ⟨z, q1, q2⟩ := hv
          exact ⟨z, q1.grown hb hgB, q2⟩
        next =>
          simp only [Act.put, List.setIfInBounds_toArray, List.set_cons_zero, List.set_cons_succ] at hK9
          obtain ⟨q5, _⟩ := hB 5 _ (by kernel_rfl) (by kernel_rfl) rfl (by decide)
          obtain ⟨u4, z4, b4, e4, h4, h4g⟩ := hB 4 _ (by kernel_rfl) (by kernel_rfl) rfl (by decide)
          simp only [q5, e4] at hK9 ⊢
          go_simp
          exact hK9 _ _ _ rfl ⟨z4, h4, h4g⟩ (hC9.stay hG9.self (by decide)) (fun _ => World.grownBy.refl _ _)
        refine wpFactsR_some [] (fun v _ => ∃ b : Bool, v = .bool b) ?_ (fun vs L9 w9 hG9 hC9 hB K9 hK9 => ?_) ?_
        next =>
          intro i9 hi9 hb9 ha9 v w1 w2 hv hT9
          exact hv
        next =>
          simp only [Act.put, List.setIfInBounds_toArray, List.set_cons_zero, List.set_cons_succ] at hK9
          obtain ⟨q5, u4, b4, e4⟩ := hB 5 _ (by kernel_rfl) (by kernel_rfl) rfl (by decide)
          simp only [q5, e4] at hK9 ⊢
          go_simp
          exact hK9 _ _ _ rfl ⟨_, rfl⟩ (hC9.stay hG9.self (by decide)) (fun _ => World.grownBy.refl _ _)
        refine wpFactsR_some [9] (fun v w9 => ∃ g9, v = .pointer (some ⟨g9, 0, none⟩) ∧ wr.heap.size ≤ g9 ∧ Lies w9 g9 25 [.slice none 0 0, .slice none 0 0, .int .i64 0, .int .i64 0, .int .i64 0]) ?_ (fun vs L9 w9 hG9 hC9 hB K9 hK9 => ?_) ?_
        next =>
          intro i9 hi9 hb9 ha9 v w1 w2 hv hT9
          have hb := hT9 (fun hm => by
            simp only [List.mem_cons, List.not_mem_nil, or_false] at hm hb9
            subst hm
            · exact hb9 (by simp))
          obtain ⟨g9, q1, q2, q3⟩ := hv
          exact ⟨g9, q1, q2, q3.kept hb (by intro e; injection e; omega)⟩
        next =>
          simp only [Act.put, List.setIfInBounds_toArray, List.set_cons_zero, List.set_cons_succ] at hK9
          go_simp
          exact hK9 _ _ _ rfl ⟨_, rfl, hC9.size, Lies.new w9 25 #[.slice none 0 0, .slice none 0 0, .int .i64 0, .int .i64 0, .int .i64 0]⟩ (hC9.alloc hG9.self (by decide) _) (fun _ => World.grownBy_alloc _ _ _)
        refine wpFactsR_pair [] 8 (fun u _ w9 => ∃ (g9 : Nat) (z : Oc), u = .pointer (some ⟨g9, 0, none⟩) ∧ wr.heap.size ≤ g9 ∧ OffIn w9 W.heap.size g9 z ∧ z.good = true) (by kernel_rfl) ?_ (fun vs L9 w9 hG9 hC9 hB K9 hK9 => ?_) ?_
        next =>
          intro i9 hi9 hb9 ha9 u v w1 w2 hv hT9
          have hb := hT9 (fun hm => by
            simp only [List.mem_cons, List.not_mem_nil, or_false] at hm hb9
            subst hm
            · exact hi9 rfl)
          obtain ⟨g9, z, q1, q2, q3, q4⟩ := hv
          exact ⟨g9, z, q1, q2, q3.grown hb hgB (by omega), q4⟩
        next =>
          obtain ⟨g9, hv9, hg9, hA9⟩ := hB 8 _ (by kernel_rfl) (by kernel_rfl) rfl (by decide)
          obtain ⟨z, ⟨TA, tc, OA, oc, e15, h1, h2⟩, hzg⟩ := hB 6 _ (by kernel_rfl) (by kernel_rfl) rfl (by decide)
          simp only [hv9, e15] at hK9 ⊢
          have x0 := hA9.cell 0
          have x1 := hA9.cell 1
          have x2 := hA9.cell 2
          have x3 := hA9.cell 3
          have x4 := hA9.cell 4
          simp only [List.getElem?_cons_zero, List.getElem?_cons_succ] at x0 x1 x2 x3 x4
          have f0 := hA9.frozen 0
          have f1 := hA9.frozen 1
          have f2 := hA9.frozen 2
          have f3 := hA9.frozen 3
          have f4 := hA9.frozen 4
          have hS9 := Lib.hid (OwnV.store h1 h2 hA9 (Nat.le_trans St.gr.size hg9))
          have hG8 := Lib.hid (grown_set (g := g9) (i := 4) (u := .int .i64 z.missed) (grown_set (g := g9) (i := 3) (u := .int .i64 z.sold) (grown_set (g := g9) (i := 2) (u := .int .i64 z.got) (grown_set (g := g9) (i := 1) (u := .slice OA z.o.length oc) (grown_set (g := g9) (i := 0) (u := .slice TA z.t.length tc) (World.grownBy.refl w9 (some g9)))))))
          clear h1 h2 hA9
          go_simp
          exact hK9 _ undef _ rfl ⟨g9, z, rfl, hg9, hS9.out, hzg⟩ (hC9.wrote hG9.self (by decide) hG8.out (fun b e => by injection e with e; subst e; exact ⟨by omega, by omega, .inr hg9⟩) (by intro p hp; cases hp)) (fun hq => (hq (by decide)).elim)
        refine wpFactsR_some [] (fun v _ => ∃ b : Bool, v = .bool b) ?_ (fun vs L9 w9 hG9 hC9 hB K9 hK9 => ?_) ?_
        next =>
          intro i9 hi9 hb9 ha9 v w1 w2 hv hT9
          exact hv
        next =>
          simp only [Act.put, List.setIfInBounds_toArray, List.set_cons_zero, List.set_cons_succ] at hK9
          obtain ⟨b7, e7⟩ := hB 7 _ (by kernel_rfl) (by kernel_rfl) rfl (by decide)
          simp only [e7] at hK9 ⊢
          go_simp
          exact hK9 _ _ _ rfl ⟨_, rfl⟩ (hC9.stay hG9.self (by decide)) (fun _ => World.grownBy.refl _ _)
        refine wpFactsR_nil fun vs Lq W5 hL9 hC5 hB => ?_
        obtain ⟨g5, z, hvg, hg5, P5, hzg⟩ := hB 9 _ rfl rfl (by decide)
        obtain ⟨bb, hbb⟩ := hB 10 _ rfl rfl (by decide)
        simp only [hvg, hbb]
        clear hB hL9 hvg hbb
        have E5 := hC5.le
        have L5o := hC5.lies St.out (by simp only [List.mem_singleton]; omega)
        have K35 := hC5.lies K3 nx3
        have hT5 := drawn_own hC5 P.t hgB
        have hO5 := drawn_own hC5 P.o hgB
        have G5 := drawn_gr St.gr hC5 (by intro k hk hne; simp only [List.mem_singleton] at hk; omega) St.env
        obtain ⟨TA5, tc5, OA5, oc5, P5⟩ := P5
        have K5 := P5.lies
        have HT5 := Lib.hid P5.t
        have HO5 := Lib.hid P5.o
        have hw1 : IntKind.i64.wrap ((k : Int) - 1) = (k : Int) - 1 := IntWalk.i64_in _ (by omega)
        have hk1 : ((k : Int) - 1) = ((k - 1 : Nat) : Int) := by omega
        have HK1 := Lib.hid hk1
        clear hC5 P5 hk1
        cases bb
        · have hQ5 : QSt w W W5 g A bs cap (m + 10 + 2000 * (36 - (k - 1))) g3 y := ⟨E5.mono (by omega), L5o, ⟨TA, tc, OA, oc, K35, P.hg, hT5, hO5⟩, G5, l1, hB⟩
          have HQ5 := Lib.hid hQ5
          clear hQ5 E5 L5o K35 hT5 hO5 G5 P K5 St K3 HQ
          go_wp2
          go_roundw
          case rel => exact ⟨k - 1, y, by omega, by rw [HK1.out], HG, HQ5⟩
          case measure => simp [intOf]; omega
        · have hgr : W5.grownBy (stOff W5 g3 (.slice TA5 z.t.length tc5) (.slice OA5 z.o.length oc5) (.int .i64 z.got) (.int .i64 z.sold) (.int .i64 z.missed)) (some g3) := stOff_grown
          have hQ5 : QSt w W (stOff W5 g3 (.slice TA5 z.t.length tc5) (.slice OA5 z.o.length oc5) (.int .i64 z.got) (.int .i64 z.sold) (.int .i64 z.missed)) g A bs cap (m + 10 + 2000 * (36 - (k - 1))) g3 z := ⟨(E5.wrote hgr (by omega) (by omega)).mono (by omega), stOff_other L5o (by omega), OwnV.store HT5.out HO5.out K35 (by omega), grown_own G5 hgr (by omega), l1, hB⟩
          have HQ5 := Lib.hid hQ5
          have HZ := Lib.hid hzg
          have x0 := K5.cell 0
          have x1 := K5.cell 1
          have x2 := K5.cell 2
          have x3 := K5.cell 3
          have x4 := K5.cell 4
          simp only [List.getElem?_cons_zero, List.getElem?_cons_succ] at x0 x1 x2 x3 x4
          have u0 := K35.cell 0
          have u1 := K35.cell 1
          have u2 := K35.cell 2
          have u3 := K35.cell 3
          have u4 := K35.cell 4
          simp only [List.getElem?_cons_zero, List.getElem?_cons_succ] at u0 u1 u2 u3 u4
          have f0 := K35.frozen 0
          have f1 := K35.frozen 1
          have f2 := K35.frozen 2
          have f3 := K35.frozen 3
          have f4 := K35.frozen 4
          clear hQ5 hgr E5 L5o K35 hT5 hO5 G5 P K5 St K3 HQ hzg
          go_wp2
          go_roundw
          case rel => exact ⟨k - 1, z, by omega, by rw [HK1.out], HZ, HQ5⟩
          case measure => simp [intOf]; omega
      · have St := HQ.out
        have hgB := hB
        have hk0 : k = 0 := by omega
        subst hk0
        have hyt : y.t.length ≤ 8 ∧ y.o.length ≤ 8 := by
          have G := good_iff.1 (show goodOff (y.at none 0 none 0) = true from HG.out)
          exact ⟨G.tl, G.ol⟩
        obtain ⟨hy1, hy2⟩ := hyt
        go_wp2_with fail
        refine (pick_env St.env 32 (by omega) (by omega)).mono ?_
        rintro e W3 ⟨i, rfl, hi, E3, gr3⟩
        have St3 : QSt w W W3 g A bs cap (m + 90000) g3 y := ⟨E3.mono (by omega), St.out.kept gr3 (by intro e; injection e; omega), St.own.grown gr3 hB (by omega), grown_trans St.gr gr3, l1, hB⟩
        clear St HQ E3 gr3
        obtain ⟨TA, tc, OA, oc, P⟩ := St3.own
        have K3 := P.lies
        have hwr := St3.gr.size
        have hg3r := K3.lt
        have hi' : i = 0 ∨ i = 1 ∨ i = 2 ∨ 3 ≤ i := by omega
        rcases hi' with rfl | rfl | rfl | hi3
        · go_wp2_with fail
          refine wp_region_factsR (Dr w W3 g A bs cap (m + 90000) 2 8 [g, g3] [Room.lies 7 g3 25 [.slice TA y.t.length tc, .slice OA y.o.length oc, .int .i64 y.got, .int .i64 y.sold, .int .i64 y.missed]]) (fun i w1 w2 => i ∉ [7] → w1.grownBy w2 (some g)) (by kernel_rfl) (by kernel_rfl) (by kernel_rfl) (Dr.start St3.env (fun p hp => by simp only [List.mem_singleton] at hp; subst hp; exact ⟨by intro e; injection e; omega, K3⟩)) ?_
          simp only [fillOps, Act.put, List.setIfInBounds_toArray, List.set_cons_zero, List.set_cons_succ, Nat.zero_add, Nat.reduceAdd]
          apply wpFactsR_val
          case h1 =>
            intro vs L9 w9 hG9 hC9 hB K9 hK9
            simp only [Act.put, List.setIfInBounds_toArray, List.set_cons_zero, List.set_cons_succ] at hK9
            go_simp
            exact hK9 _ _ rfl (hC9.stay hG9.self (by decide)) (fun _ => World.grownBy.refl _ _)
          apply wpFactsR_val
          case h1 =>
            intro vs L9 w9 hG9 hC9 hB K9 hK9
            have d0 := FactN.eq (hB 0 _ (by kernel_rfl) (by kernel_rfl) rfl (by decide))
            simp only [d0] at hK9 ⊢
            have q0 : w9.cell? ⟨g3, 2, none⟩ = some (.int .i64 y.got) := ((hC9.room (Room.lies 7 g3 25 [.slice TA y.t.length tc, .slice OA y.o.length oc, .int .i64 y.got, .int .i64 y.sold, .int .i64 y.missed]) (by simp)).2 (hG9.open_ 7 (by kernel_rfl))).cell 2
            simp only [Act.put, List.setIfInBounds_toArray, List.set_cons_zero, List.set_cons_succ] at hK9
            go_simp
            exact hK9 _ _ rfl (hC9.stay hG9.self (by decide)) (fun _ => World.grownBy.refl _ _)
          apply wpFactsR_val
          case h1 =>
            intro vs L9 w9 hG9 hC9 hB K9 hK9
            simp only [Act.put, List.setIfInBounds_toArray, List.set_cons_zero, List.set_cons_succ] at hK9
            go_simp
            exact hK9 _ _ rfl (hC9.stay hG9.self (by decide)) (fun _ => World.grownBy.refl _ _)
          refine wpFactsR_some [7] (fun v w9 => ∃ (b : Nat) (l : List Int), v = .slice (some ⟨b, 0, none⟩) 2 2 ∧ l.length = 2 ∧ Lies w9 b 3 (encIs l) ∧ b ≠ g) ?_ (fun vs L9 w9 hG9 hC9 hB K9 hK9 => ?_) ?_
          next =>
            intro i9 hi9 hb9 ha9 v w1 w2 hv hT9
            have hb := hT9 (fun hm => by
              simp only [List.mem_cons, List.not_mem_nil, or_false] at hm hb9
              subst hm
              · exact hb9 (by simp))
            obtain ⟨b, l, q1, q2, q3, q4⟩ := hv
            exact ⟨b, l, q1, q2, q3.kept hb (by intro e; injection e with e; exact q4 e), q4⟩
          next =>
            simp only [Act.put, List.setIfInBounds_toArray, List.set_cons_zero, List.set_cons_succ] at hK9
            go_simp
            exact hK9 _ _ _ rfl ⟨w9.heap.size, [1, -1], rfl, rfl, Lies.new w9 3 _, by have := hC9.env.lt; omega⟩ (hC9.alloc hG9.self (by decide) _) (fun _ => World.grownBy_alloc _ _ _)
          refine wpFactsR_some [] (fun v _ => ∃ z : Int, v = .int .i64 z) ?_ (fun vs L9 w9 hG9 hC9 hB K9 hK9 => ?_) ?_
          next =>
            intro i9 hi9 hb9 ha9 v w1 w2 hv hT9
            exact hv
          next =>
            have d2 := FactN.eq (hB 2 _ (by kernel_rfl) (by kernel_rfl) rfl (by decide))
            simp only [d2] at hK9 ⊢
            simp only [Act.put, List.setIfInBounds_toArray, List.set_cons_zero, List.set_cons_succ] at hK9
            obtain ⟨b3, l3, e3, el3, eL3, en3⟩ := hB 3 _ (by kernel_rfl) (by kernel_rfl) rfl (by decide)
            simp only [e3] at hK9 ⊢
            go_simp
            refine (among_lies hC9.env b3 2 l3 el3 eL3 en3 (by omega) (by omega) (by have := hC9.cnt; omega)).mono ?_
            rintro en w8 ⟨x8, rfl, hE8, hg8⟩
            exact hK9 _ _ _ rfl ⟨_, rfl⟩ (hC9.call hG9.self (by decide) hE8 (by have := hC9.cnt; omega) hg8 (by simp)) (fun _ => hg8)
          refine wpFactsR_some [] (fun v _ => ∃ z : Int, v = .int .i64 z) ?_ (fun vs L9 w9 hG9 hC9 hB K9 hK9 => ?_) ?_
          next =>
            intro i9 hi9 hb9 ha9 v w1 w2 hv hT9
            exact hv
          next =>
            have d1 := FactN.eq (hB 1 _ (by kernel_rfl) (by kernel_rfl) rfl (by decide))
            simp only [d1] at hK9 ⊢
            simp only [Act.put, List.setIfInBounds_toArray, List.set_cons_zero, List.set_cons_succ] at hK9
            obtain ⟨z4, e4⟩ := hB 4 _ (by kernel_rfl) (by kernel_rfl) rfl (by decide)
            simp only [e4] at hK9 ⊢
            go_simp
            exact hK9 _ _ _ rfl ⟨_, rfl⟩ (hC9.stay hG9.self (by decide)) (fun _ => World.grownBy.refl _ _)
          apply wpFactsR_val
          case h1 =>
            intro vs L9 w9 hG9 hC9 hB K9 hK9
            simp only [Act.put, List.setIfInBounds_toArray, List.set_cons_zero, List.set_cons_succ] at hK9
            go_simp
            exact hK9 _ _ rfl (hC9.stay hG9.self (by decide)) (fun _ => World.grownBy.refl _ _)
          refine wpFactsR_some [] (fun _ w9 => ∃ z : Int, Lies w9 g3 25 [.slice TA y.t.length tc, .slice OA y.o.length oc, .int .i64 z, .int .i64 y.sold, .int .i64 y.missed]) ?_ (fun vs L9 w9 hG9 hC9 hB K9 hK9 => ?_) ?_
          next =>
            intro i9 hi9 hb9 ha9 v w1 w2 hv hT9
            have hb := hT9 (fun hm => by
              simp only [List.mem_cons, List.not_mem_nil, or_false] at hm hb9
              subst hm
              · exact hi9 rfl)
            obtain ⟨z, q⟩ := hv
            exact ⟨z, q.kept hb (by intro e; injection e; omega)⟩
          next =>
            have d6 := FactN.eq (hB 6 _ (by kernel_rfl) (by kernel_rfl) rfl (by decide))
            simp only [d6] at hK9 ⊢
            simp only [Act.put, List.setIfInBounds_toArray, List.set_cons_zero, List.set_cons_succ] at hK9
            obtain ⟨z5, e5⟩ := hB 5 _ (by kernel_rfl) (by kernel_rfl) rfl (by decide)
            simp only [e5] at hK9 ⊢
            have hL9 : Lies w9 g3 25 [.slice TA y.t.length tc, .slice OA y.o.length oc, .int .i64 y.got, .int .i64 y.sold, .int .i64 y.missed] := (hC9.room (Room.lies 7 g3 25 [.slice TA y.t.length tc, .slice OA y.o.length oc, .int .i64 y.got, .int .i64 y.sold, .int .i64 y.missed]) (by simp)).2 hG9.self
            have y0 := hL9.cell 0
            have y1 := hL9.cell 1
            have y2 := hL9.cell 2
            have y3 := hL9.cell 3
            have y4 := hL9.cell 4
            simp only [List.getElem?_cons_zero, List.getElem?_cons_succ] at y0 y1 y2 y3 y4
            have f0 := hL9.frozen 0
            have f1 := hL9.frozen 1
            have f2 := hL9.frozen 2
            have f3 := hL9.frozen 3
            have f4 := hL9.frozen 4
            have hN9 : Lies _ g3 25 [.slice TA y.t.length tc, .slice OA y.o.length oc, .int .i64 z5, .int .i64 y.sold, .int .i64 y.missed] := (hL9.set 2 (.int .i64 z5))
            have hG8 := Lib.hid (grown_set (g := g3) (i := 2) (u := .int .i64 z5) (World.grownBy.refl w9 (some g3)))
            have hN8 := Lib.hid hN9
            clear hN9 hL9
            go_simp
            exact hK9 _ undef _ rfl ⟨z5, hN8.out⟩ (hC9.wrote hG9.self (by decide) hG8.out (fun b e => by injection e with e; subst e; exact ⟨(by omega), (by omega), .inl (by simp)⟩) (by intro p hp e; simp only [List.mem_cons, List.not_mem_nil, or_false] at hp; first | (subst hp; exact .inl rfl) | (rcases hp with rfl | rfl; first | exact .inl rfl | (exfalso; revert e; first | exact HNE.out | simp [Room.lies, Room.row]; first | exact .inl rfl)))) (fun hq => (hq (by decide)).elim)
          refine wpFactsR_nil fun vs Lq W5 hL9 hC5 hB => ?_
          obtain ⟨z, K5⟩ := hB 7 _ rfl rfl (by decide)
          clear hB hL9
          have hT5 := hC5.owns P.t (by intro b hb hm; simp only [List.mem_cons, List.not_mem_nil, or_false] at hm; have := (P.t.lt b hb).1; rcases hm with rfl | rfl; omega; exact ownsRow_far P.t K3 ne_owt hb.symm)
          have hO5 := hC5.owns P.o (by intro b hb hm; simp only [List.mem_cons, List.not_mem_nil, or_false] at hm; have := (P.o.lt b hb).1; rcases hm with rfl | rfl; omega; exact ownsRow_far P.o K3 ne_owo hb.symm)
          have L25 := hC5.lies St3.out (by simp only [List.mem_cons, List.not_mem_nil, or_false]; omega)
          have E5 := hC5.le
          have G5 := drawn_gr St3.gr hC5 (by intro k hk hne; simp only [List.mem_cons, List.not_mem_nil, or_false] at hk; omega) St3.env
          clear hC5 K3 P St3
          have k0 := K5.cell 0
          have k1 := K5.cell 1
          have k2 := K5.cell 2
          have k3 := K5.cell 3
          have k4 := K5.cell 4
          simp only [List.getElem?_cons_zero, List.getElem?_cons_succ] at k0 k1 k2 k3 k4
          have z0 := L25.cell 0
          have z1 := L25.cell 1
          have z2 := L25.cell 2
          have z3 := L25.cell 3
          have z4 := L25.cell 4
          simp only [List.getElem?_cons_zero, List.getElem?_cons_succ] at z0 z1 z2 z3 z4
          have f0 := L25.frozen 0
          have f1 := L25.frozen 1
          have f2 := L25.frozen 2
          have f3 := L25.frozen 3
          have f4 := L25.frozen 4
          have hgr : W5.grownBy (stOff W5 W.heap.size (.slice TA y.t.length tc) (.slice OA y.o.length oc) (.int .i64 z) (.int .i64 y.sold) (.int .i64 y.missed)) (some W.heap.size) := stOff_grown
          obtain ⟨W8, hW8⟩ : ∃ W8, (((((W5.setCell ⟨W.heap.size, 0, none⟩ (.slice TA y.t.length tc)).setCell ⟨W.heap.size, 1, none⟩ (.slice OA y.o.length oc)).setCell ⟨W.heap.size, 2, none⟩ (.int .i64 z)).setCell ⟨W.heap.size, 3, none⟩ (.int .i64 y.sold)).setCell ⟨W.heap.size, 4, none⟩ (.int .i64 y.missed)) = W8 := ⟨_, rfl⟩
          have HT : W8.ownsRow W.heap.size 74 2 (.slice TA y.t.length tc) ((⟨y.t, y.o, z, y.sold, y.missed⟩ : Oc)).t.length (((⟨y.t, y.o, z, y.sold, y.missed⟩ : Oc)).t.flatMap Tray.enc) := by rw [← hW8]; exact stOff_row (v0 := .slice TA y.t.length tc) (v1 := .slice OA y.o.length oc) (v2 := .int .i64 z) (v3 := .int .i64 y.sold) (v4 := .int .i64 y.missed) L25 hT5 ne_owt
          have HO : W8.ownsRow W.heap.size 100 3 (.slice OA y.o.length oc) ((⟨y.t, y.o, z, y.sold, y.missed⟩ : Oc)).o.length (((⟨y.t, y.o, z, y.sold, y.missed⟩ : Oc)).o.flatMap Outing.enc) := by rw [← hW8]; exact stOff_row (v0 := .slice TA y.t.length tc) (v1 := .slice OA y.o.length oc) (v2 := .int .i64 z) (v3 := .int .i64 y.sold) (v4 := .int .i64 y.missed) L25 hO5 ne_owo
          have LS : Lies W8 W.heap.size 25 [.slice TA y.t.length tc, .slice OA y.o.length oc, .int .i64 z, .int .i64 y.sold, .int .i64 y.missed] := by rw [← hW8]; exact stOff_is (v0 := .slice TA y.t.length tc) (v1 := .slice OA y.o.length oc) (v2 := .int .i64 z) (v3 := .int .i64 y.sold) (v4 := .int .i64 y.missed) L25
          have EE : Env w W8 g A bs cap (m + 90000 + 2 * 8) := by rw [← hW8]; exact (E5.wrote hgr (by omega) hB).mono (by omega)
          have GG : W.grownBy W8 (some g) := by rw [← hW8]; exact grown_own G5 hgr (Nat.le_refl _)
          have HW8 := Lib.hid hW8
          have HLS := Lib.hid LS
          have HHT := Lib.hid HT
          have HHO := Lib.hid HO
          clear hW8 LS HT HO hgr L25 K5
          repeat (first | go_values | go_skip | go_guarded | go_step | go_upon | simp only [])
          rw [HW8.out]
          have LS := HLS.out
          have x0 := LS.cell 0
          have x1 := LS.cell 1
          have x2 := LS.cell 2
          have x3 := LS.cell 3
          have x4 := LS.cell 4
          simp only [List.getElem?_cons_zero, List.getElem?_cons_succ] at x0 x1 x2 x3 x4
          refine bodyPost_ret (v := .agg #[.slice TA y.t.length tc, .slice OA y.o.length oc, .int .i64 z, .int .i64 y.sold, .int .i64 y.missed]) (by simp [results, Try.results57, go_sem, x0, x1, x2, x3, x4]) rfl ?_
          exact ⟨(⟨y.t, y.o, z, y.sold, y.missed⟩ : Oc), _, rfl, ⟨TA, tc, OA, oc, by first | rfl | simp, HHT.out, HHO.out⟩, ⟨by first | omega | (simp only [List.length_append, List.length_cons, List.length_nil]; omega), by first | omega | (simp only [List.length_append, List.length_cons, List.length_nil]; omega)⟩, EE.mono (by omega), GG⟩
        · go_wp2_with fail
          obtain ⟨gT, hgT⟩ : ∃ gT, (Value.ownBlock (.slice TA y.t.length tc)).getD g = gT := ⟨_, rfl⟩
          have hF := ownsRow_far P.t K3 ne_owt
          have HR0 : Hid (∀ p ∈ [Room.lies 9 g3 25 [.slice TA y.t.length tc, .slice OA y.o.length oc, .int .i64 y.got, .int .i64 y.sold, .int .i64 y.missed], Room.row 7 W.heap.size 74 2 (.slice TA y.t.length tc) y.t.length (y.t.flatMap Tray.enc)], p.blk ≠ some g ∧ p.P W3) := by
            intro p hp
            simp only [List.mem_cons, List.not_mem_nil, or_false] at hp
            rcases hp with rfl | rfl
            · exact ⟨by intro e; injection e; omega, K3⟩
            · exact ⟨by intro e; have := (P.t.lt _ e).1; omega, P.t⟩
          have HW0 : Hid (∀ b, Value.ownBlock (.slice TA y.t.length tc) = some b → w.heap.size ≤ b ∧ g < b ∧ (b ∈ [g, g3, gT] ∨ W3.heap.size ≤ b)) := by
            intro b e
            have := (P.t.lt b e).1
            refine ⟨by omega, by omega, .inl ?_⟩
            rw [e] at hgT
            simp only [Option.getD_some] at hgT
            simp [hgT]
          have HP0 : Hid (∀ p ∈ [Room.lies 9 g3 25 [.slice TA y.t.length tc, .slice OA y.o.length oc, .int .i64 y.got, .int .i64 y.sold, .int .i64 y.missed], Room.row 7 W.heap.size 74 2 (.slice TA y.t.length tc) y.t.length (y.t.flatMap Tray.enc)], p.blk = Value.ownBlock (.slice TA y.t.length tc) → p.op = 7 ∨ Value.ownBlock (.slice TA y.t.length tc) = none) := by
            intro p hp e
            simp only [List.mem_cons, List.not_mem_nil, or_false] at hp
            rcases hp with rfl | rfl
            · exact absurd e hF
            · exact .inl rfl
          have HP9 : Hid (∀ p ∈ [Room.lies 9 g3 25 [.slice TA y.t.length tc, .slice OA y.o.length oc, .int .i64 y.got, .int .i64 y.sold, .int .i64 y.missed], Room.row 7 W.heap.size 74 2 (.slice TA y.t.length tc) y.t.length (y.t.flatMap Tray.enc)], p.blk = some g3 → p.op = 9 ∨ (some g3 : Option Nat) = none) := by
            intro p hp e
            simp only [List.mem_cons, List.not_mem_nil, or_false] at hp
            rcases hp with rfl | rfl
            · exact .inl rfl
            · exact absurd e.symm hF
          have HGT := Lib.hid hgT
          have HF := Lib.hid hF
          clear hgT hF
          refine wp_region_factsR (Dr w W3 g A bs cap (m + 90000) 2 10 [g, g3, gT] [Room.lies 9 g3 25 [.slice TA y.t.length tc, .slice OA y.o.length oc, .int .i64 y.got, .int .i64 y.sold, .int .i64 y.missed], Room.row 7 W.heap.size 74 2 (.slice TA y.t.length tc) y.t.length (y.t.flatMap Tray.enc)]) (fun i w1 w2 => i ∉ [7, 9] → w1.grownBy w2 (some g)) (by kernel_rfl) (by kernel_rfl) (by kernel_rfl) (Dr.start St3.env HR0.out) ?_
          simp only [fillOps, Act.put, List.setIfInBounds_toArray, List.set_cons_zero, List.set_cons_succ, Nat.zero_add, Nat.reduceAdd]
          apply wpFactsR_val
          case h1 =>
            intro vs L9 w9 hG9 hC9 hB K9 hK9
            simp only [Act.put, List.setIfInBounds_toArray, List.set_cons_zero, List.set_cons_succ] at hK9
            go_simp
            exact hK9 _ _ rfl (hC9.stay hG9.self (by decide)) (fun _ => World.grownBy.refl _ _)
          apply wpFactsR_val
          case h1 =>
            intro vs L9 w9 hG9 hC9 hB K9 hK9
            have d0 := FactN.eq (hB 0 _ (by kernel_rfl) (by kernel_rfl) rfl (by decide))
            simp only [d0] at hK9 ⊢
            have q0 : w9.cell? ⟨g3, 0, none⟩ = some (.slice TA y.t.length tc) := ((hC9.room (Room.lies 9 g3 25 [.slice TA y.t.length tc, .slice OA y.o.length oc, .int .i64 y.got, .int .i64 y.sold, .int .i64 y.missed]) (by simp)).2 (hG9.open_ 9 (by kernel_rfl))).cell 0
            simp only [Act.put, List.setIfInBounds_toArray, List.set_cons_zero, List.set_cons_succ] at hK9
            go_simp
            exact hK9 _ _ rfl (hC9.stay hG9.self (by decide)) (fun _ => World.grownBy.refl _ _)
          apply wpFactsR_val
          case h1 =>
            intro vs L9 w9 hG9 hC9 hB K9 hK9
            simp only [Act.put, List.setIfInBounds_toArray, List.set_cons_zero, List.set_cons_succ] at hK9
            go_simp
            exact hK9 _ _ rfl (hC9.stay hG9.self (by decide)) (fun _ => World.grownBy.refl _ _)
          refine wpFactsR_some [7, 9] (fun v w9 => ∃ (b : Nat) (l : List Int), v = .slice (some ⟨b, 0, none⟩) 3 3 ∧ l.length = 3 ∧ Lies w9 b 3 (encIs l) ∧ b ≠ g) ?_ (fun vs L9 w9 hG9 hC9 hB K9 hK9 => ?_) ?_
          next =>
            intro i9 hi9 hb9 ha9 v w1 w2 hv hT9
            have hb := hT9 (fun hm => by
              simp only [List.mem_cons, List.not_mem_nil, or_false] at hm hb9
              rcases hm with rfl | rfl
              · exact hb9 (by simp)
              · exact hb9 (by simp))
            obtain ⟨b, l, q1, q2, q3, q4⟩ := hv
            exact ⟨b, l, q1, q2, q3.kept hb (by intro e; injection e with e; exact q4 e), q4⟩
          next =>
            simp only [Act.put, List.setIfInBounds_toArray, List.set_cons_zero, List.set_cons_succ] at hK9
            go_simp
            exact hK9 _ _ _ rfl ⟨w9.heap.size, [0, 1, 99], rfl, rfl, Lies.new w9 3 _, by have := hC9.env.lt; omega⟩ (hC9.alloc hG9.self (by decide) _) (fun _ => World.grownBy_alloc _ _ _)
          refine wpFactsR_some [] (fun v _ => ∃ z : Int, v = .int .i64 z) ?_ (fun vs L9 w9 hG9 hC9 hB K9 hK9 => ?_) ?_
          next =>
            intro i9 hi9 hb9 ha9 v w1 w2 hv hT9
            exact hv
          next =>
            have d2 := FactN.eq (hB 2 _ (by kernel_rfl) (by kernel_rfl) rfl (by decide))
            simp only [d2] at hK9 ⊢
            simp only [Act.put, List.setIfInBounds_toArray, List.set_cons_zero, List.set_cons_succ] at hK9
            obtain ⟨b3, l3, e3, el3, eL3, en3⟩ := hB 3 _ (by kernel_rfl) (by kernel_rfl) rfl (by decide)
            simp only [e3] at hK9 ⊢
            go_simp
            refine (among_lies hC9.env b3 3 l3 el3 eL3 en3 (by omega) (by omega) (by have := hC9.cnt; omega)).mono ?_
            rintro en w8 ⟨x8, rfl, hE8, hg8⟩
            exact hK9 _ _ _ rfl ⟨_, rfl⟩ (hC9.call hG9.self (by decide) hE8 (by have := hC9.cnt; omega) hg8 (by simp)) (fun _ => hg8)
          refine wpFactsR_some [] (fun v _ => ∃ k c : Int, v = .agg #[.int .i64 k, .int .i64 c]) ?_ (fun vs L9 w9 hG9 hC9 hB K9 hK9 => ?_) ?_
          next =>
            intro i9 hi9 hb9 ha9 v w1 w2 hv hT9
            exact hv
          next =>
            simp only [Act.put, List.setIfInBounds_toArray, List.set_cons_zero, List.set_cons_succ] at hK9
            obtain ⟨z4, e4⟩ := hB 4 _ (by kernel_rfl) (by kernel_rfl) rfl (by decide)
            simp only [e4] at hK9 ⊢
            go_simp
            exact hK9 _ _ _ rfl ⟨_, _, rfl⟩ (hC9.stay hG9.self (by decide)) (fun _ => World.grownBy.refl _ _)
          refine wpFactsR_some [7, 9] (fun v w9 => ∃ (b : Nat) (k c : Int), v = .slice (some ⟨b, 0, none⟩) 1 1 ∧ Lies w9 b 74 [.int .i64 k, .int .i64 c] ∧ b ≠ g) ?_ (fun vs L9 w9 hG9 hC9 hB K9 hK9 => ?_) ?_
          next =>
            intro i9 hi9 hb9 ha9 v w1 w2 hv hT9
            have hb := hT9 (fun hm => by
              simp only [List.mem_cons, List.not_mem_nil, or_false] at hm hb9
              rcases hm with rfl | rfl
              · exact hb9 (by simp)
              · exact hb9 (by simp))
            obtain ⟨b, k, c, q1, q2, q3⟩ := hv
            exact ⟨b, k, c, q1, q2.kept hb (by intro e; injection e with e; exact q3 e), q3⟩
          next =>
            simp only [Act.put, List.setIfInBounds_toArray, List.set_cons_zero, List.set_cons_succ] at hK9
            obtain ⟨k5 , c5, e5⟩ := hB 5 _ (by kernel_rfl) (by kernel_rfl) rfl (by decide)
            simp only [e5] at hK9 ⊢
            go_simp
            exact hK9 _ _ _ rfl ⟨w9.heap.size, _, _, rfl, Lies.new w9 74 _, by have := hC9.env.lt; omega⟩ (hC9.alloc hG9.self (by decide) _) (fun _ => World.grownBy_alloc _ _ _)
          refine wpFactsR_some [9] (fun v w9 => ∃ (A' : Option Addr) (c' : Nat) (t : Tray), v = .slice A' (y.t.length + 1) c' ∧ w9.ownsRow W.heap.size 74 2 (.slice A' (y.t.length + 1) c') (y.t.length + 1) ((y.t.flatMap Tray.enc) ++ t.enc)) ?_ (fun vs L9 w9 hG9 hC9 hB K9 hK9 => ?_) ?_
          next =>
            intro i9 hi9 hb9 ha9 v w1 w2 hv hT9
            have hb := hT9 (fun hm => by
              simp only [List.mem_cons, List.not_mem_nil, or_false] at hm hb9
              rcases hm with rfl | rfl
              · exact hi9 rfl
              · exact hb9 (by simp))
            obtain ⟨A', c', t, q1, q2⟩ := hv
            exact ⟨A', c', t, q1, ownsRow_grown q2 hb hgB⟩
          next =>
            have d1 := FactN.eq (hB 1 _ (by kernel_rfl) (by kernel_rfl) rfl (by decide))
            simp only [d1] at hK9 ⊢
            simp only [Act.put, List.setIfInBounds_toArray, List.set_cons_zero, List.set_cons_succ] at hK9
            obtain ⟨b6, k6, c6, e6, eL6, eN6⟩ := hB 6 _ (by kernel_rfl) (by kernel_rfl) rfl (by decide)
            simp only [e6] at hK9 ⊢
            have ho := (hC9.room (Room.row 7 W.heap.size 74 2 (.slice TA y.t.length tc) y.t.length (y.t.flatMap Tray.enc)) (by simp)).2 hG9.self
            refine step_cat rfl (.tmp 40) (.tmp 45) 22 rfl 74 _ 2 16 Try.underlying22 infoTray rfl (by omega) (by omega) W.heap.size _ y.t.length _ (by rfl) ho w9.heap.size (some ⟨b6, 0, none⟩) 1 1 [.int .i64 k6, .int .i64 c6] (by rfl) (eL6.reads rfl (by omega)) (by simp [Value.oneCell']) (by omega) (Nat.le_trans St3.gr.size hC9.size) ?_
            intro A' c' w' ho' hg' hb'
            exact hK9 _ _ _ rfl ⟨A', c', ⟨k6, c6⟩, rfl, ho'⟩ (hC9.wrote hG9.self (by decide) hg' HW0.out HP0.out) (fun hq => (hq (by decide)).elim)
          apply wpFactsR_val
          case h1 =>
            intro vs L9 w9 hG9 hC9 hB K9 hK9
            simp only [Act.put, List.setIfInBounds_toArray, List.set_cons_zero, List.set_cons_succ] at hK9
            go_simp
            exact hK9 _ _ rfl (hC9.stay hG9.self (by decide)) (fun _ => World.grownBy.refl _ _)
          refine wpFactsR_some [] (fun _ w9 => ∃ (A' : Option Addr) (c' : Nat) (t : Tray), Lies w9 g3 25 [(.slice A' (y.t.length + 1) c'), .slice OA y.o.length oc, .int .i64 y.got, .int .i64 y.sold, .int .i64 y.missed] ∧ w9.ownsRow W.heap.size 74 2 (.slice A' (y.t.length + 1) c') (y.t.length + 1) ((y.t.flatMap Tray.enc) ++ t.enc)) ?_ (fun vs L9 w9 hG9 hC9 hB K9 hK9 => ?_) ?_
          next =>
            intro i9 hi9 hb9 ha9 v w1 w2 hv hT9
            have hb := hT9 (fun hm => by
              simp only [List.mem_cons, List.not_mem_nil, or_false] at hm hb9
              rcases hm with rfl | rfl
              · exact absurd (ha9.symm.trans (show ahead .any _ _ _ _ = true by kernel_rfl)) (by decide)
              · exact hi9 rfl)
            obtain ⟨A', c', t, q1, q2⟩ := hv
            exact ⟨A', c', t, q1.kept hb (by intro e; injection e; omega), ownsRow_grown q2 hb hgB⟩
          next =>
            have d8 := FactN.eq (hB 8 _ (by kernel_rfl) (by kernel_rfl) rfl (by decide))
            simp only [d8] at hK9 ⊢
            simp only [Act.put, List.setIfInBounds_toArray, List.set_cons_zero, List.set_cons_succ] at hK9
            obtain ⟨A', c', t, e7, ho⟩ := hB 7 _ (by kernel_rfl) (by kernel_rfl) rfl (by decide)
            have hL9 : Lies w9 g3 25 [.slice TA y.t.length tc, .slice OA y.o.length oc, .int .i64 y.got, .int .i64 y.sold, .int .i64 y.missed] := (hC9.room (Room.lies 9 g3 25 [.slice TA y.t.length tc, .slice OA y.o.length oc, .int .i64 y.got, .int .i64 y.sold, .int .i64 y.missed]) (by simp)).2 hG9.self
            simp only [e7] at hK9 ⊢
            have u0 := hL9.cell 0
            have u1 := hL9.cell 1
            have u2 := hL9.cell 2
            have u3 := hL9.cell 3
            have u4 := hL9.cell 4
            simp only [List.getElem?_cons_zero, List.getElem?_cons_succ] at u0 u1 u2 u3 u4
            have f0 := hL9.frozen 0
            have f1 := hL9.frozen 1
            have f2 := hL9.frozen 2
            have f3 := hL9.frozen 3
            have f4 := hL9.frozen 4
            have hN8 := Lib.hid (hL9.set 0 (.slice A' (y.t.length + 1) c'))
            have hO8 := Lib.hid (ownsRow_setOther ho hL9 ne_owt 0 (.slice A' (y.t.length + 1) c'))
            have hG8 := Lib.hid (grown_set (g := g3) (i := 0) (u := (.slice A' (y.t.length + 1) c')) (World.grownBy.refl w9 (some g3)))
            clear hL9 ho
            go_simp
            exact hK9 _ undef _ rfl ⟨A', c', t, hN8.out, hO8.out⟩ (hC9.wrote hG9.self (by decide) hG8.out (fun b e => by injection e with e; subst e; exact ⟨by omega, by omega, .inl (by simp)⟩) HP9.out) (fun hq => (hq (by decide)).elim)
          refine wpFactsR_nil fun vs Lq W5 hL9 hC5 hB => ?_
          obtain ⟨A', c', t, K5, hR5⟩ := hB 9 _ rfl rfl (by decide)
          clear hB hL9
          have hX5 : ∀ b, Value.ownBlock (.slice OA y.o.length oc) = some b → b ∉ [g, g3, gT] := by
            intro b hb hm
            have h1 := (P.o.lt b hb).1
            simp only [List.mem_cons, List.not_mem_nil, or_false] at hm
            rcases hm with rfl | rfl | rfl
            · omega
            · exact ownsRow_far P.o K3 ne_owo hb.symm
            · cases hq : Value.ownBlock (.slice TA y.t.length tc) with
              | none => have := HGT.out; rw [hq] at this; simp at this; omega
              | some q => have h2 := HGT.out; rw [hq] at h2; simp at h2; subst h2; exact own_apart P.t P.o ne_to hq hb
          have hO5 := hC5.owns P.o hX5
          have hgT2 : gT = g ∨ W.heap.size ≤ gT := by
            cases hq : Value.ownBlock (.slice TA y.t.length tc) with
            | none => have := HGT.out; rw [hq] at this; exact .inl this.symm
            | some q => have h2 := HGT.out; rw [hq] at h2; have := (P.t.lt q hq).1; simp at h2; exact .inr (by omega)
          have hgT3 : gT ≠ W.heap.size := by
            cases hq : Value.ownBlock (.slice TA y.t.length tc) with
            | none => have := HGT.out; rw [hq] at this; simp at this; omega
            | some q => intro e; have h2 := HGT.out; rw [hq] at h2; simp at h2; subst h2; exact ownsRow_far P.t St3.out ne_owt (by rw [hq, e])
          have L25 := hC5.lies St3.out (by simp only [List.mem_cons, List.not_mem_nil, or_false]; omega)
          have E5 := hC5.le
          have G5 := drawn_gr St3.gr hC5 (by intro k hk hne; simp only [List.mem_cons, List.not_mem_nil, or_false] at hk; omega) St3.env
          have hT5 : W5.ownsRow W.heap.size 74 2 (.slice A' (y.t ++ [t]).length c') (y.t ++ [t]).length ((y.t ++ [t]).flatMap Tray.enc) := by simpa using hR5
          clear hC5 K3 P St3 hR5 hX5 hgT2 hgT3 HR0 HW0 HP0 HP9 HGT HF
          have k0 := K5.cell 0
          have k1 := K5.cell 1
          have k2 := K5.cell 2
          have k3 := K5.cell 3
          have k4 := K5.cell 4
          simp only [List.getElem?_cons_zero, List.getElem?_cons_succ] at k0 k1 k2 k3 k4
          have z0 := L25.cell 0
          have z1 := L25.cell 1
          have z2 := L25.cell 2
          have z3 := L25.cell 3
          have z4 := L25.cell 4
          simp only [List.getElem?_cons_zero, List.getElem?_cons_succ] at z0 z1 z2 z3 z4
          have f0 := L25.frozen 0
          have f1 := L25.frozen 1
          have f2 := L25.frozen 2
          have f3 := L25.frozen 3
          have f4 := L25.frozen 4
          have hgr : W5.grownBy (stOff W5 W.heap.size ((.slice A' (y.t.length + 1) c')) (.slice OA y.o.length oc) (.int .i64 y.got) (.int .i64 y.sold) (.int .i64 y.missed)) (some W.heap.size) := stOff_grown
          obtain ⟨W8, hW8⟩ : ∃ W8, (((((W5.setCell ⟨W.heap.size, 0, none⟩ ((.slice A' (y.t.length + 1) c'))).setCell ⟨W.heap.size, 1, none⟩ (.slice OA y.o.length oc)).setCell ⟨W.heap.size, 2, none⟩ (.int .i64 y.got)).setCell ⟨W.heap.size, 3, none⟩ (.int .i64 y.sold)).setCell ⟨W.heap.size, 4, none⟩ (.int .i64 y.missed)) = W8 := ⟨_, rfl⟩
          have HT : W8.ownsRow W.heap.size 74 2 ((.slice A' (y.t ++ [t]).length c')) ((⟨y.t ++ [t], y.o, y.got, y.sold, y.missed⟩ : Oc)).t.length (((⟨y.t ++ [t], y.o, y.got, y.sold, y.missed⟩ : Oc)).t.flatMap Tray.enc) := by rw [← hW8]; exact stOff_row (v0 := (.slice A' (y.t.length + 1) c')) (v1 := .slice OA y.o.length oc) (v2 := .int .i64 y.got) (v3 := .int .i64 y.sold) (v4 := .int .i64 y.missed) L25 hT5 ne_owt
          have HO : W8.ownsRow W.heap.size 100 3 (.slice OA y.o.length oc) ((⟨y.t ++ [t], y.o, y.got, y.sold, y.missed⟩ : Oc)).o.length (((⟨y.t ++ [t], y.o, y.got, y.sold, y.missed⟩ : Oc)).o.flatMap Outing.enc) := by rw [← hW8]; exact stOff_row (v0 := (.slice A' (y.t.length + 1) c')) (v1 := .slice OA y.o.length oc) (v2 := .int .i64 y.got) (v3 := .int .i64 y.sold) (v4 := .int .i64 y.missed) L25 hO5 ne_owo
          have LS : Lies W8 W.heap.size 25 [(.slice A' (y.t.length + 1) c'), .slice OA y.o.length oc, .int .i64 y.got, .int .i64 y.sold, .int .i64 y.missed] := by rw [← hW8]; exact stOff_is (v0 := (.slice A' (y.t.length + 1) c')) (v1 := .slice OA y.o.length oc) (v2 := .int .i64 y.got) (v3 := .int .i64 y.sold) (v4 := .int .i64 y.missed) L25
          have EE : Env w W8 g A bs cap (m + 90000 + 2 * 10) := by rw [← hW8]; exact (E5.wrote hgr (by omega) hB).mono (by omega)
          have GG : W.grownBy W8 (some g) := by rw [← hW8]; exact grown_own G5 hgr (Nat.le_refl _)
          have HW8 := Lib.hid hW8
          have HLS := Lib.hid LS
          have HHT := Lib.hid HT
          have HHO := Lib.hid HO
          clear hW8 LS HT HO hgr L25 K5
          repeat (first | go_values | go_skip | go_guarded | go_step | go_upon | simp only [])
          rw [HW8.out]
          have LS := HLS.out
          have x0 := LS.cell 0
          have x1 := LS.cell 1
          have x2 := LS.cell 2
          have x3 := LS.cell 3
          have x4 := LS.cell 4
          simp only [List.getElem?_cons_zero, List.getElem?_cons_succ] at x0 x1 x2 x3 x4
          refine bodyPost_ret (v := .agg #[(.slice A' (y.t.length + 1) c'), .slice OA y.o.length oc, .int .i64 y.got, .int .i64 y.sold, .int .i64 y.missed]) (by simp [results, Try.results57, go_sem, x0, x1, x2, x3, x4]) rfl ?_
          exact ⟨(⟨y.t ++ [t], y.o, y.got, y.sold, y.missed⟩ : Oc), _, rfl, ⟨A', c', OA, oc, by first | rfl | simp, HHT.out, HHO.out⟩, ⟨by first | omega | (simp only [List.length_append, List.length_cons, List.length_nil]; omega), by first | omega | (simp only [List.length_append, List.length_cons, List.length_nil]; omega)⟩, EE.mono (by omega), GG⟩
        · go_wp2_with fail
          obtain ⟨gT, hgT⟩ : ∃ gT, (Value.ownBlock (.slice OA y.o.length oc)).getD g = gT := ⟨_, rfl⟩
          have hF := ownsRow_far P.o K3 ne_owo
          have HR0 : Hid (∀ p ∈ [Room.lies 9 g3 25 [.slice TA y.t.length tc, .slice OA y.o.length oc, .int .i64 y.got, .int .i64 y.sold, .int .i64 y.missed], Room.row 7 W.heap.size 100 3 (.slice OA y.o.length oc) y.o.length (y.o.flatMap Outing.enc)], p.blk ≠ some g ∧ p.P W3) := by
            intro p hp
            simp only [List.mem_cons, List.not_mem_nil, or_false] at hp
            rcases hp with rfl | rfl
            · exact ⟨by intro e; injection e; omega, K3⟩
            · exact ⟨by intro e; have := (P.o.lt _ e).1; omega, P.o⟩
          have HW0 : Hid (∀ b, Value.ownBlock (.slice OA y.o.length oc) = some b → w.heap.size ≤ b ∧ g < b ∧ (b ∈ [g, g3, gT] ∨ W3.heap.size ≤ b)) := by
            intro b e
            have := (P.o.lt b e).1
            refine ⟨by omega, by omega, .inl ?_⟩
            rw [e] at hgT
            simp only [Option.getD_some] at hgT
            simp [hgT]
          have HP0 : Hid (∀ p ∈ [Room.lies 9 g3 25 [.slice TA y.t.length tc, .slice OA y.o.length oc, .int .i64 y.got, .int .i64 y.sold, .int .i64 y.missed], Room.row 7 W.heap.size 100 3 (.slice OA y.o.length oc) y.o.length (y.o.flatMap Outing.enc)], p.blk = Value.ownBlock (.slice OA y.o.length oc) → p.op = 7 ∨ Value.ownBlock (.slice OA y.o.length oc) = none) := by
            intro p hp e
            simp only [List.mem_cons, List.not_mem_nil, or_false] at hp
            rcases hp with rfl | rfl
            · exact absurd e hF
            · exact .inl rfl
          have HP9 : Hid (∀ p ∈ [Room.lies 9 g3 25 [.slice TA y.t.length tc, .slice OA y.o.length oc, .int .i64 y.got, .int .i64 y.sold, .int .i64 y.missed], Room.row 7 W.heap.size 100 3 (.slice OA y.o.length oc) y.o.length (y.o.flatMap Outing.enc)], p.blk = some g3 → p.op = 9 ∨ (some g3 : Option Nat) = none) := by
            intro p hp e
            simp only [List.mem_cons, List.not_mem_nil, or_false] at hp
            rcases hp with rfl | rfl
            · exact .inl rfl
            · exact absurd e.symm hF
          have HGT := Lib.hid hgT
          have HF := Lib.hid hF
          clear hgT hF
          refine wp_region_factsR (Dr w W3 g A bs cap (m + 90000) 2 10 [g, g3, gT] [Room.lies 9 g3 25 [.slice TA y.t.length tc, .slice OA y.o.length oc, .int .i64 y.got, .int .i64 y.sold, .int .i64 y.missed], Room.row 7 W.heap.size 100 3 (.slice OA y.o.length oc) y.o.length (y.o.flatMap Outing.enc)]) (fun i w1 w2 => i ∉ [7, 9] → w1.grownBy w2 (some g)) (by kernel_rfl) (by kernel_rfl) (by kernel_rfl) (Dr.start St3.env HR0.out) ?_
          simp only [fillOps, Act.put, List.setIfInBounds_toArray, List.set_cons_zero, List.set_cons_succ, Nat.zero_add, Nat.reduceAdd]
          apply wpFactsR_val
          case h1 =>
            intro vs L9 w9 hG9 hC9 hB K9 hK9
            simp only [Act.put, List.setIfInBounds_toArray, List.set_cons_zero, List.set_cons_succ] at hK9
            go_simp
            exact hK9 _ _ rfl (hC9.stay hG9.self (by decide)) (fun _ => World.grownBy.refl _ _)
          apply wpFactsR_val
          case h1 =>
            intro vs L9 w9 hG9 hC9 hB K9 hK9
            have d0 := FactN.eq (hB 0 _ (by kernel_rfl) (by kernel_rfl) rfl (by decide))
            simp only [d0] at hK9 ⊢
            have q0 : w9.cell? ⟨g3, 1, none⟩ = some (.slice OA y.o.length oc) := ((hC9.room (Room.lies 9 g3 25 [.slice TA y.t.length tc, .slice OA y.o.length oc, .int .i64 y.got, .int .i64 y.sold, .int .i64 y.missed]) (by simp)).2 (hG9.open_ 9 (by kernel_rfl))).cell 1
            simp only [Act.put, List.setIfInBounds_toArray, List.set_cons_zero, List.set_cons_succ] at hK9
            go_simp
            exact hK9 _ _ rfl (hC9.stay hG9.self (by decide)) (fun _ => World.grownBy.refl _ _)
          apply wpFactsR_val
          case h1 =>
            intro vs L9 w9 hG9 hC9 hB K9 hK9
            simp only [Act.put, List.setIfInBounds_toArray, List.set_cons_zero, List.set_cons_succ] at hK9
            go_simp
            exact hK9 _ _ rfl (hC9.stay hG9.self (by decide)) (fun _ => World.grownBy.refl _ _)
          refine wpFactsR_some [7, 9] (fun v w9 => ∃ (b : Nat) (l : List Int), v = .slice (some ⟨b, 0, none⟩) 3 3 ∧ l.length = 3 ∧ Lies w9 b 3 (encIs l) ∧ b ≠ g) ?_ (fun vs L9 w9 hG9 hC9 hB K9 hK9 => ?_) ?_
          next =>
            intro i9 hi9 hb9 ha9 v w1 w2 hv hT9
            have hb := hT9 (fun hm => by
              simp only [List.mem_cons, List.not_mem_nil, or_false] at hm hb9
              rcases hm with rfl | rfl
              · exact hb9 (by simp)
              · exact hb9 (by simp))
            obtain ⟨b, l, q1, q2, q3, q4⟩ := hv
            exact ⟨b, l, q1, q2, q3.kept hb (by intro e; injection e with e; exact q4 e), q4⟩
          next =>
            simp only [Act.put, List.setIfInBounds_toArray, List.set_cons_zero, List.set_cons_succ] at hK9
            go_simp
            exact hK9 _ _ _ rfl ⟨w9.heap.size, [0, 1, 99], rfl, rfl, Lies.new w9 3 _, by have := hC9.env.lt; omega⟩ (hC9.alloc hG9.self (by decide) _) (fun _ => World.grownBy_alloc _ _ _)
          refine wpFactsR_some [] (fun v _ => ∃ z : Int, v = .int .i64 z) ?_ (fun vs L9 w9 hG9 hC9 hB K9 hK9 => ?_) ?_
          next =>
            intro i9 hi9 hb9 ha9 v w1 w2 hv hT9
            exact hv
          next =>
            have d2 := FactN.eq (hB 2 _ (by kernel_rfl) (by kernel_rfl) rfl (by decide))
            simp only [d2] at hK9 ⊢
            simp only [Act.put, List.setIfInBounds_toArray, List.set_cons_zero, List.set_cons_succ] at hK9
            obtain ⟨b3, l3, e3, el3, eL3, en3⟩ := hB 3 _ (by kernel_rfl) (by kernel_rfl) rfl (by decide)
            simp only [e3] at hK9 ⊢
            go_simp
            refine (among_lies hC9.env b3 3 l3 el3 eL3 en3 (by omega) (by omega) (by have := hC9.cnt; omega)).mono ?_
            rintro en w8 ⟨x8, rfl, hE8, hg8⟩
            exact hK9 _ _ _ rfl ⟨_, rfl⟩ (hC9.call hG9.self (by decide) hE8 (by have := hC9.cnt; omega) hg8 (by simp)) (fun _ => hg8)
          refine wpFactsR_some [] (fun v _ => ∃ k p c : Int, v = .agg #[.int .i64 k, .int .i64 p, .int .i64 c]) ?_ (fun vs L9 w9 hG9 hC9 hB K9 hK9 => ?_) ?_
          next =>
            intro i9 hi9 hb9 ha9 v w1 w2 hv hT9
            exact hv
          next =>
            simp only [Act.put, List.setIfInBounds_toArray, List.set_cons_zero, List.set_cons_succ] at hK9
            obtain ⟨z4, e4⟩ := hB 4 _ (by kernel_rfl) (by kernel_rfl) rfl (by decide)
            simp only [e4] at hK9 ⊢
            go_simp
            exact hK9 _ _ _ rfl ⟨_, _, _, rfl⟩ (hC9.stay hG9.self (by decide)) (fun _ => World.grownBy.refl _ _)
          refine wpFactsR_some [7, 9] (fun v w9 => ∃ (b : Nat) (k p c : Int), v = .slice (some ⟨b, 0, none⟩) 1 1 ∧ Lies w9 b 100 [.int .i64 k, .int .i64 p, .int .i64 c] ∧ b ≠ g) ?_ (fun vs L9 w9 hG9 hC9 hB K9 hK9 => ?_) ?_
          next =>
            intro i9 hi9 hb9 ha9 v w1 w2 hv hT9
            have hb := hT9 (fun hm => by
              simp only [List.mem_cons, List.not_mem_nil, or_false] at hm hb9
              rcases hm with rfl | rfl
              · exact hb9 (by simp)
              · exact hb9 (by simp))
            obtain ⟨b, k, p, c, q1, q2, q3⟩ := hv
            exact ⟨b, k, p, c, q1, q2.kept hb (by intro e; injection e with e; exact q3 e), q3⟩
          next =>
            simp only [Act.put, List.setIfInBounds_toArray, List.set_cons_zero, List.set_cons_succ] at hK9
            obtain ⟨k5 , p5 , c5, e5⟩ := hB 5 _ (by kernel_rfl) (by kernel_rfl) rfl (by decide)
            simp only [e5] at hK9 ⊢
            go_simp
            exact hK9 _ _ _ rfl ⟨w9.heap.size, _, _, _, rfl, Lies.new w9 100 _, by have := hC9.env.lt; omega⟩ (hC9.alloc hG9.self (by decide) _) (fun _ => World.grownBy_alloc _ _ _)
          refine wpFactsR_some [9] (fun v w9 => ∃ (A' : Option Addr) (c' : Nat) (t : Outing), v = .slice A' (y.o.length + 1) c' ∧ w9.ownsRow W.heap.size 100 3 (.slice A' (y.o.length + 1) c') (y.o.length + 1) ((y.o.flatMap Outing.enc) ++ t.enc)) ?_ (fun vs L9 w9 hG9 hC9 hB K9 hK9 => ?_) ?_
          next =>
            intro i9 hi9 hb9 ha9 v w1 w2 hv hT9
            have hb := hT9 (fun hm => by
              simp only [List.mem_cons, List.not_mem_nil, or_false] at hm hb9
              rcases hm with rfl | rfl
              · exact hi9 rfl
              · exact hb9 (by simp))
            obtain ⟨A', c', t, q1, q2⟩ := hv
            exact ⟨A', c', t, q1, ownsRow_grown q2 hb hgB⟩
          next =>
            have d1 := FactN.eq (hB 1 _ (by kernel_rfl) (by kernel_rfl) rfl (by decide))
            simp only [d1] at hK9 ⊢
            simp only [Act.put, List.setIfInBounds_toArray, List.set_cons_zero, List.set_cons_succ] at hK9
            obtain ⟨b6, k6, p6, c6, e6, eL6, eN6⟩ := hB 6 _ (by kernel_rfl) (by kernel_rfl) rfl (by decide)
            simp only [e6] at hK9 ⊢
            have ho := (hC9.room (Room.row 7 W.heap.size 100 3 (.slice OA y.o.length oc) y.o.length (y.o.flatMap Outing.enc)) (by simp)).2 hG9.self
            refine step_cat rfl (.tmp 51) (.tmp 56) 23 rfl 100 _ 3 24 Try.underlying23 infoOuting rfl (by omega) (by omega) W.heap.size _ y.o.length _ (by rfl) ho w9.heap.size (some ⟨b6, 0, none⟩) 1 1 [.int .i64 k6, .int .i64 p6, .int .i64 c6] (by rfl) (eL6.reads rfl (by omega)) (by simp [Value.oneCell']) (by omega) (Nat.le_trans St3.gr.size hC9.size) ?_
            intro A' c' w' ho' hg' hb'
            exact hK9 _ _ _ rfl ⟨A', c', ⟨k6, p6, c6⟩, rfl, ho'⟩ (hC9.wrote hG9.self (by decide) hg' HW0.out HP0.out) (fun hq => (hq (by decide)).elim)
          apply wpFactsR_val
          case h1 =>
            intro vs L9 w9 hG9 hC9 hB K9 hK9
            simp only [Act.put, List.setIfInBounds_toArray, List.set_cons_zero, List.set_cons_succ] at hK9
            go_simp
            exact hK9 _ _ rfl (hC9.stay hG9.self (by decide)) (fun _ => World.grownBy.refl _ _)
          refine wpFactsR_some [] (fun _ w9 => ∃ (A' : Option Addr) (c' : Nat) (t : Outing), Lies w9 g3 25 [.slice TA y.t.length tc, (.slice A' (y.o.length + 1) c'), .int .i64 y.got, .int .i64 y.sold, .int .i64 y.missed] ∧ w9.ownsRow W.heap.size 100 3 (.slice A' (y.o.length + 1) c') (y.o.length + 1) ((y.o.flatMap Outing.enc) ++ t.enc)) ?_ (fun vs L9 w9 hG9 hC9 hB K9 hK9 => ?_) ?_
          next =>
            intro i9 hi9 hb9 ha9 v w1 w2 hv hT9
            have hb := hT9 (fun hm => by
              simp only [List.mem_cons, List.not_mem_nil, or_false] at hm hb9
              rcases hm with rfl | rfl
              · exact absurd (ha9.symm.trans (show ahead .any _ _ _ _ = true by kernel_rfl)) (by decide)
              · exact hi9 rfl)
            obtain ⟨A', c', t, q1, q2⟩ := hv
            exact ⟨A', c', t, q1.kept hb (by intro e; injection e; omega), ownsRow_grown q2 hb hgB⟩
          next =>
            have d8 := FactN.eq (hB 8 _ (by kernel_rfl) (by kernel_rfl) rfl (by decide))
            simp only [d8] at hK9 ⊢
            simp only [Act.put, List.setIfInBounds_toArray, List.set_cons_zero, List.set_cons_succ] at hK9
            obtain ⟨A', c', t, e7, ho⟩ := hB 7 _ (by kernel_rfl) (by kernel_rfl) rfl (by decide)
            have hL9 : Lies w9 g3 25 [.slice TA y.t.length tc, .slice OA y.o.length oc, .int .i64 y.got, .int .i64 y.sold, .int .i64 y.missed] := (hC9.room (Room.lies 9 g3 25 [.slice TA y.t.length tc, .slice OA y.o.length oc, .int .i64 y.got, .int .i64 y.sold, .int .i64 y.missed]) (by simp)).2 hG9.self
            simp only [e7] at hK9 ⊢
            have u0 := hL9.cell 0
            have u1 := hL9.cell 1
            have u2 := hL9.cell 2
            have u3 := hL9.cell 3
            have u4 := hL9.cell 4
            simp only [List.getElem?_cons_zero, List.getElem?_cons_succ] at u0 u1 u2 u3 u4
            have f0 := hL9.frozen 0
            have f1 := hL9.frozen 1
            have f2 := hL9.frozen 2
            have f3 := hL9.frozen 3
            have f4 := hL9.frozen 4
            have hN8 := Lib.hid (hL9.set 1 (.slice A' (y.o.length + 1) c'))
            have hO8 := Lib.hid (ownsRow_setOther ho hL9 ne_owo 1 (.slice A' (y.o.length + 1) c'))
            have hG8 := Lib.hid (grown_set (g := g3) (i := 1) (u := (.slice A' (y.o.length + 1) c')) (World.grownBy.refl w9 (some g3)))
            clear hL9 ho
            go_simp
            exact hK9 _ undef _ rfl ⟨A', c', t, hN8.out, hO8.out⟩ (hC9.wrote hG9.self (by decide) hG8.out (fun b e => by injection e with e; subst e; exact ⟨by omega, by omega, .inl (by simp)⟩) HP9.out) (fun hq => (hq (by decide)).elim)
          refine wpFactsR_nil fun vs Lq W5 hL9 hC5 hB => ?_
          obtain ⟨A', c', t, K5, hR5⟩ := hB 9 _ rfl rfl (by decide)
          clear hB hL9
          have hX5 : ∀ b, Value.ownBlock (.slice TA y.t.length tc) = some b → b ∉ [g, g3, gT] := by
            intro b hb hm
            have h1 := (P.t.lt b hb).1
            simp only [List.mem_cons, List.not_mem_nil, or_false] at hm
            rcases hm with rfl | rfl | rfl
            · omega
            · exact ownsRow_far P.t K3 ne_owt hb.symm
            · cases hq : Value.ownBlock (.slice OA y.o.length oc) with
              | none => have := HGT.out; rw [hq] at this; simp at this; omega
              | some q => have h2 := HGT.out; rw [hq] at h2; simp at h2; subst h2; exact own_apart P.o P.t ne_ot hq hb
          have hT5 := hC5.owns P.t hX5
          have hgT3 : gT ≠ W.heap.size ∧ (gT = g ∨ W.heap.size ≤ gT) := by
            cases hq : Value.ownBlock (.slice OA y.o.length oc) with
            | none => have := HGT.out; rw [hq] at this; simp at this; exact ⟨by omega, .inl this.symm⟩
            | some q =>
              have h2 := HGT.out; rw [hq] at h2; simp at h2; subst h2
              exact ⟨by intro e; exact ownsRow_far P.o St3.out ne_owo (by rw [hq, e]), .inr (P.o.lt q hq).1⟩
          have L25 := hC5.lies St3.out (by simp only [List.mem_cons, List.not_mem_nil, or_false]; omega)
          have E5 := hC5.le
          have G5 := drawn_gr St3.gr hC5 (by intro k hk hne; simp only [List.mem_cons, List.not_mem_nil, or_false] at hk; omega) St3.env
          have hO5 : W5.ownsRow W.heap.size 100 3 (.slice A' (y.o ++ [t]).length c') (y.o ++ [t]).length ((y.o ++ [t]).flatMap Outing.enc) := by simpa using hR5
          obtain ⟨z, hz⟩ : ∃ z, IntKind.i64.wrap (y.got + 1) = z := ⟨_, rfl⟩
          have hg6 : W5.grownBy (W5.setCell ⟨g3, 2, none⟩ (.int .i64 z)) (some g3) := grown_set (World.grownBy.refl _ _)
          have K6 := K5.set 2 (.int .i64 z)
          simp only [List.set_cons_zero, List.set_cons_succ] at K6
          have hT6 := ownsRow_setOther hT5 K5 ne_owt 2 (.int .i64 z)
          have hO6 := ownsRow_setOther hO5 K5 ne_owo 2 (.int .i64 z)
          have L26 := L25.other (p := ⟨g3, 2, none⟩) (show W.heap.size ≠ g3 by omega) (.int .i64 z)
          have E6 := E5.wrote hg6 (by omega) (by omega)
          have G6 := grown_own G5 hg6 (by omega)
          have q0 := K5.cell 0
          have q1 := K5.cell 1
          have q2 := K5.cell 2
          have q3 := K5.cell 3
          have q4 := K5.cell 4
          simp only [List.getElem?_cons_zero, List.getElem?_cons_succ] at q0 q1 q2 q3 q4
          have qf0 := K5.frozen 0
          have qf1 := K5.frozen 1
          have qf2 := K5.frozen 2
          have qf3 := K5.frozen 3
          have qf4 := K5.frozen 4
          obtain ⟨W6, hW6⟩ : ∃ W6, W5.setCell ⟨g3, 2, none⟩ (.int .i64 z) = W6 := ⟨_, rfl⟩
          rw [hW6] at K6 hT6 hO6 L26 E6 G6
          clear hC5 K3 P St3 hR5 hX5 hgT3 HR0 HW0 HP0 HP9 HGT HF hT5 hO5 L25 E5 G5 hg6 K5
          have k0 := K6.cell 0
          have k1 := K6.cell 1
          have k2 := K6.cell 2
          have k3 := K6.cell 3
          have k4 := K6.cell 4
          simp only [List.getElem?_cons_zero, List.getElem?_cons_succ] at k0 k1 k2 k3 k4
          have z0 := L26.cell 0
          have z1 := L26.cell 1
          have z2 := L26.cell 2
          have z3 := L26.cell 3
          have z4 := L26.cell 4
          simp only [List.getElem?_cons_zero, List.getElem?_cons_succ] at z0 z1 z2 z3 z4
          have f0 := L26.frozen 0
          have f1 := L26.frozen 1
          have f2 := L26.frozen 2
          have f3 := L26.frozen 3
          have f4 := L26.frozen 4
          have hgr : W6.grownBy (stOff W6 W.heap.size (.slice TA y.t.length tc) ((.slice A' (y.o.length + 1) c')) (.int .i64 z) (.int .i64 y.sold) (.int .i64 y.missed)) (some W.heap.size) := stOff_grown
          obtain ⟨W8, hW8⟩ : ∃ W8, (((((W6.setCell ⟨W.heap.size, 0, none⟩ (.slice TA y.t.length tc)).setCell ⟨W.heap.size, 1, none⟩ ((.slice A' (y.o.length + 1) c'))).setCell ⟨W.heap.size, 2, none⟩ (.int .i64 z)).setCell ⟨W.heap.size, 3, none⟩ (.int .i64 y.sold)).setCell ⟨W.heap.size, 4, none⟩ (.int .i64 y.missed)) = W8 := ⟨_, rfl⟩
          have HT : W8.ownsRow W.heap.size 74 2 (.slice TA y.t.length tc) ((⟨y.t, y.o ++ [t], z, y.sold, y.missed⟩ : Oc)).t.length (((⟨y.t, y.o ++ [t], z, y.sold, y.missed⟩ : Oc)).t.flatMap Tray.enc) := by rw [← hW8]; exact stOff_row (v0 := .slice TA y.t.length tc) (v1 := (.slice A' (y.o.length + 1) c')) (v2 := .int .i64 z) (v3 := .int .i64 y.sold) (v4 := .int .i64 y.missed) L26 hT6 ne_owt
          have HO : W8.ownsRow W.heap.size 100 3 ((.slice A' (y.o ++ [t]).length c')) ((⟨y.t, y.o ++ [t], z, y.sold, y.missed⟩ : Oc)).o.length (((⟨y.t, y.o ++ [t], z, y.sold, y.missed⟩ : Oc)).o.flatMap Outing.enc) := by rw [← hW8]; exact stOff_row (v0 := .slice TA y.t.length tc) (v1 := (.slice A' (y.o.length + 1) c')) (v2 := .int .i64 z) (v3 := .int .i64 y.sold) (v4 := .int .i64 y.missed) L26 hO6 ne_owo
          have LS : Lies W8 W.heap.size 25 [.slice TA y.t.length tc, (.slice A' (y.o.length + 1) c'), .int .i64 z, .int .i64 y.sold, .int .i64 y.missed] := by rw [← hW8]; exact stOff_is (v0 := .slice TA y.t.length tc) (v1 := (.slice A' (y.o.length + 1) c')) (v2 := .int .i64 z) (v3 := .int .i64 y.sold) (v4 := .int .i64 y.missed) L26
          have EE : Env w W8 g A bs cap (m + 90000 + 2 * 10) := by rw [← hW8]; exact (E6.wrote hgr (by omega) hB).mono (by omega)
          have GG : W.grownBy W8 (some g) := by rw [← hW8]; exact grown_own G6 hgr (Nat.le_refl _)
          have HW8 := Lib.hid hW8
          have HLS := Lib.hid LS
          have HHT := Lib.hid HT
          have HHO := Lib.hid HO
          clear hW8 LS HT HO hgr L26 K6
          repeat (first | (rw [hW6]; clear hW6) | go_values | go_skip | go_guarded | go_step | go_upon | simp only [])
          rw [HW8.out]
          have LS := HLS.out
          have x0 := LS.cell 0
          have x1 := LS.cell 1
          have x2 := LS.cell 2
          have x3 := LS.cell 3
          have x4 := LS.cell 4
          simp only [List.getElem?_cons_zero, List.getElem?_cons_succ] at x0 x1 x2 x3 x4
          refine bodyPost_ret (v := .agg #[.slice TA y.t.length tc, (.slice A' (y.o.length + 1) c'), .int .i64 z, .int .i64 y.sold, .int .i64 y.missed]) (by simp [results, Try.results57, go_sem, x0, x1, x2, x3, x4]) rfl ?_
          exact ⟨(⟨y.t, y.o ++ [t], z, y.sold, y.missed⟩ : Oc), _, rfl, ⟨TA, tc, A', c', by first | rfl | simp, HHT.out, HHO.out⟩, ⟨by first | omega | (simp only [List.length_append, List.length_cons, List.length_nil]; omega), by first | omega | (simp only [List.length_append, List.length_cons, List.length_nil]; omega)⟩, EE.mono (by omega), GG⟩
        · have hf : ∀ c : Int, 0 ≤ c → c ≤ 2 → (((i : Int)) == c) = false := fun c h1 h2 => by rw [beq_eq_false_iff_ne]; omega
          have f00 := hf 0 (by omega) (by omega)
          have f01 := hf 1 (by omega) (by omega)
          have f02 := hf 2 (by omega) (by omega)
          clear hf
          have L25 := St3.out
          have E5 := St3.env
          have G5 := St3.gr
          have hT5 := P.t
          have hO5 := P.o
          clear P St3
          have k0 := K3.cell 0
          have k1 := K3.cell 1
          have k2 := K3.cell 2
          have k3 := K3.cell 3
          have k4 := K3.cell 4
          simp only [List.getElem?_cons_zero, List.getElem?_cons_succ] at k0 k1 k2 k3 k4
          have z0 := L25.cell 0
          have z1 := L25.cell 1
          have z2 := L25.cell 2
          have z3 := L25.cell 3
          have z4 := L25.cell 4
          simp only [List.getElem?_cons_zero, List.getElem?_cons_succ] at z0 z1 z2 z3 z4
          have f0 := L25.frozen 0
          have f1 := L25.frozen 1
          have f2 := L25.frozen 2
          have f3 := L25.frozen 3
          have f4 := L25.frozen 4
          have hgr : W3.grownBy (stOff W3 W.heap.size (.slice TA y.t.length tc) (.slice OA y.o.length oc) (.int .i64 y.got) (.int .i64 y.sold) (.int .i64 y.missed)) (some W.heap.size) := stOff_grown
          obtain ⟨W8, hW8⟩ : ∃ W8, (((((W3.setCell ⟨W.heap.size, 0, none⟩ (.slice TA y.t.length tc)).setCell ⟨W.heap.size, 1, none⟩ (.slice OA y.o.length oc)).setCell ⟨W.heap.size, 2, none⟩ (.int .i64 y.got)).setCell ⟨W.heap.size, 3, none⟩ (.int .i64 y.sold)).setCell ⟨W.heap.size, 4, none⟩ (.int .i64 y.missed)) = W8 := ⟨_, rfl⟩
          have HT : W8.ownsRow W.heap.size 74 2 (.slice TA y.t.length tc) (y).t.length ((y).t.flatMap Tray.enc) := by rw [← hW8]; exact stOff_row (v0 := .slice TA y.t.length tc) (v1 := .slice OA y.o.length oc) (v2 := .int .i64 y.got) (v3 := .int .i64 y.sold) (v4 := .int .i64 y.missed) L25 hT5 ne_owt
          have HO : W8.ownsRow W.heap.size 100 3 (.slice OA y.o.length oc) (y).o.length ((y).o.flatMap Outing.enc) := by rw [← hW8]; exact stOff_row (v0 := .slice TA y.t.length tc) (v1 := .slice OA y.o.length oc) (v2 := .int .i64 y.got) (v3 := .int .i64 y.sold) (v4 := .int .i64 y.missed) L25 hO5 ne_owo
          have LS : Lies W8 W.heap.size 25 [.slice TA y.t.length tc, .slice OA y.o.length oc, .int .i64 y.got, .int .i64 y.sold, .int .i64 y.missed] := by rw [← hW8]; exact stOff_is (v0 := .slice TA y.t.length tc) (v1 := .slice OA y.o.length oc) (v2 := .int .i64 y.got) (v3 := .int .i64 y.sold) (v4 := .int .i64 y.missed) L25
          have EE : Env w W8 g A bs cap (m + 90000) := by rw [← hW8]; exact (E5.wrote hgr (by omega) hB).mono (by omega)
          have GG : W.grownBy W8 (some g) := by rw [← hW8]; exact grown_own G5 hgr (Nat.le_refl _)
          have HW8 := Lib.hid hW8
          have HLS := Lib.hid LS
          have HHT := Lib.hid HT
          have HHO := Lib.hid HO
          clear hW8 LS HT HO hgr L25 K3
          repeat (first | go_values | go_skip | go_guarded | go_step | go_upon | simp only [])
          rw [HW8.out]
          have LS := HLS.out
          have x0 := LS.cell 0
          have x1 := LS.cell 1
          have x2 := LS.cell 2
          have x3 := LS.cell 3
          have x4 := LS.cell 4
          simp only [List.getElem?_cons_zero, List.getElem?_cons_succ] at x0 x1 x2 x3 x4
          refine bodyPost_ret (v := .agg #[.slice TA y.t.length tc, .slice OA y.o.length oc, .int .i64 y.got, .int .i64 y.sold, .int .i64 y.missed]) (by simp [results, Try.results57, go_sem, x0, x1, x2, x3, x4]) rfl ?_
          exact ⟨y, _, rfl, ⟨TA, tc, OA, oc, by first | rfl | simp, HHT.out, HHO.out⟩, ⟨by first | omega | (simp only [List.length_append, List.length_cons, List.length_nil]; omega), by first | omega | (simp only [List.length_append, List.length_cons, List.length_nil]; omega)⟩, EE.mono (by omega), GG⟩
end Go.Proofs.Ytdiojhjkcholiaa

/- The reference draws an office and a step. (Printed by gen_ddraw.py) -/
namespace Go.Proofs.Ytdiojhjkcholiaa
open Go.RowKit

theorem Dr.wroteB {w W : World} {g : Nat} {A : Option Addr} {bs : List UInt8} {cap m K n k : Nat} {X : List Nat} {R : List Room} {L : Nat → Bool} {W9 W8 : World} {b : Nat} (h : Dr w W g A bs cap m K n X R L W9) (hL : L k = false) (hk : k < n) (gr : W9.grownBy W8 (some b)) (hgb : g ≠ b) (hrd : BytesR W8 g A bs) (hw : w.heap.size ≤ b) (hX : b ∈ X ∨ W.heap.size ≤ b) (hr : ∀ p ∈ R, p.blk = some b → p.op = k) : Dr w W g A bs cap m K n X R (Listed.but L k) W8 := by
  have hE : Env w W8 g A bs cap (m + K * cntB L n) :=
    ⟨h.env.cur.kept gr (by intro e; injection e with e; exact hgb e), hrd, ⟨gr.os.trans h.env.gr.os, gr.tape.trans h.env.gr.tape, gr.output.trans h.env.gr.output, Nat.le_trans h.env.gr.size gr.size, fun j hj hne => (gr.block j (Nat.lt_of_lt_of_le hj h.env.gr.size) (by intro e; injection e; omega)).trans (h.env.gr.block j hj hne)⟩⟩
  refine ⟨hE.mono (by rw [cntB_but hL n hk, Nat.mul_add]; omega), Nat.le_trans h.size gr.size, fun k hk' hX' => (gr.block k (Nat.lt_of_lt_of_le hk' h.size) (by intro e; injection e with e; subst e; rcases hX with h1 | h1; exact hX' h1; omega)).trans (h.keep k hk' hX'), fun p hp => ⟨(h.room p hp).1, fun hl => ?_⟩⟩
  obtain ⟨h1, h2⟩ := Listed.was hl
  refine p.st _ _ _ gr ?_ ((h.room p hp).2 h1)
  by_cases e : p.blk = some b
  · exact absurd (hr p hp e) h2
  · exact .inr e
/-- The bytes that came in stand, whatever the call's own blocks turned into. -/
theorem drawn_bytes {w0 w W W9 W8 : World} {g b : Nat} {A : Option Addr} {bs : List UInt8} {cap m K n : Nat} {X : List Nat} {R : List Room} {L : Nat → Bool} (hr : BytesR w0 w0.heap.size A bs) (G : w0.grownBy W (some g)) (h : Dr w W g A bs cap m K n X R L W9) (hX : ∀ k ∈ X, w0.heap.size ≤ k) (gr : W9.grownBy W8 (some b)) (hb : w0.heap.size ≤ b) (hg : w0.heap.size ≤ g) : BytesR W8 g A bs := by
  refine SlcR.mono (hr.keep fun p hp => ?_) hg
  refine World.cell?_of_block ?_
  have h0 : p.block < W.heap.size := Nat.lt_of_lt_of_le hp G.size
  rw [gr.block p.block (Nat.lt_of_lt_of_le h0 h.size) (by intro e; injection e; omega), h.keep p.block h0 (fun hm => by have := hX _ hm; omega), G.block p.block hp (by intro e; injection e; omega)]
theorem grown_below {w w' : World} {g : Nat} (hg : w.grownBy w' (some g)) (h : w.heap.size ≤ g) : Below w.heap.size w w' :=
  ⟨hg.os, hg.tape, hg.output, hg.size, fun k hk => hg.block k hk (by intro e; injection e; omega)⟩
set_option maxRecDepth 100000 in
set_option maxHeartbeats 4000000 in
set_option linter.unusedVariables false in
theorem drawStepOffice_any (A : Option Addr) (cap : Nat) (bs : List UInt8) (w : World) (hr : BytesR w w.heap.size A bs) :
    Calls Try.prog 27 #[.slice A bs.length cap] w fun e w' => ∃ (y : Oc) (s : Stp) (v : Value), e = .returned (.tuple #[v, .agg #[.int .i64 s.kind, .int .i64 s.stamp, .int .i64 s.person, .int .i64 s.value]]) ∧ OwnV w' w.heap.size y v ∧ Below w.heap.size w w' := by
  have L2 := ((Lies.new w 25 #[.slice none 0 0, .slice none 0 0, .int .i64 0, .int .i64 0, .int .i64 0]).alloc (.cells #[.int .i64 0, .int .i64 0, .int .i64 0, .int .i64 0] 45)).alloc (.cells #[.slice A bs.length cap, .int .i64 0, .int .u64 0] 94)
  have L3 := (Lies.new1 w (.cells #[.slice none 0 0, .slice none 0 0, .int .i64 0, .int .i64 0, .int .i64 0] 25) 45 #[.int .i64 0, .int .i64 0, .int .i64 0, .int .i64 0]).alloc (.cells #[.slice A bs.length cap, .int .i64 0, .int .u64 0] 94)
  have Lc := Lies.new2 w (.cells #[.slice none 0 0, .slice none 0 0, .int .i64 0, .int .i64 0, .int .i64 0] 25) (.cells #[.int .i64 0, .int .i64 0, .int .i64 0, .int .i64 0] 45) 94 #[.slice A bs.length cap, .int .i64 0, .int .u64 0]
  have b1 : Below w.heap.size w (((w.alloc (.cells #[.slice none 0 0, .slice none 0 0, .int .i64 0, .int .i64 0, .int .i64 0] 25)).alloc (.cells #[.int .i64 0, .int .i64 0, .int .i64 0, .int .i64 0] 45)).alloc (.cells #[.slice A bs.length cap, .int .i64 0, .int .u64 0] 94)) := (((Below.refl w.heap.size w).alloc (Nat.le_refl _) (.cells #[.slice none 0 0, .slice none 0 0, .int .i64 0, .int .i64 0, .int .i64 0] 25)).alloc (by simp) (.cells #[.int .i64 0, .int .i64 0, .int .i64 0, .int .i64 0] 45)).alloc (by simp; omega) (.cells #[.slice A bs.length cap, .int .i64 0, .int .u64 0] 94)
  go_enter Try.func27, Try.ntmps27
  go_wp2_with fail
  generalize (((w.alloc (.cells #[.slice none 0 0, .slice none 0 0, .int .i64 0, .int .i64 0, .int .i64 0] 25)).alloc (.cells #[.int .i64 0, .int .i64 0, .int .i64 0, .int .i64 0] 45)).alloc (.cells #[.slice A bs.length cap, .int .i64 0, .int .u64 0] 94)) = W1 at L2 L3 Lc b1 ⊢
  have E1 : Env w W1 (w.heap.size + 1 + 1) A bs cap 0 := ⟨⟨0, 0, Lc, Nat.le_refl _, by omega, by omega⟩, (SlcR.below hr b1).mono (by omega), grownAny b1 _⟩
  have hgl := Lc.lt
  have HBR := Lib.hid hr
  clear hr Lc
  refine (office_any (w.heap.size + 1 + 1) A bs cap 0 w W1 (by omega) E1).mono ?_
  rintro e W2 ⟨y, v, rfl, ⟨TA, tc, OA, oc, rfl, hT, hO⟩, ⟨hy1, hy2⟩, E2, gr2⟩
  have K5 := Lies.new W2 25 #[.slice TA y.t.length tc, .slice OA y.o.length oc, .int .i64 y.got, .int .i64 y.sold, .int .i64 y.missed]
  have E3 := E2.alloc (.cells #[.slice TA y.t.length tc, .slice OA y.o.length oc, .int .i64 y.got, .int .i64 y.sold, .int .i64 y.missed] 25)
  have M2 := (L2.kept gr2 (by intro e; injection e; omega)).alloc (.cells #[.slice TA y.t.length tc, .slice OA y.o.length oc, .int .i64 y.got, .int .i64 y.sold, .int .i64 y.missed] 25)
  have M3 := (L3.kept gr2 (by intro e; injection e; omega)).alloc (.cells #[.slice TA y.t.length tc, .slice OA y.o.length oc, .int .i64 y.got, .int .i64 y.sold, .int .i64 y.missed] 25)
  have HT := Lib.hid (hT.alloc (.cells #[.slice TA y.t.length tc, .slice OA y.o.length oc, .int .i64 y.got, .int .i64 y.sold, .int .i64 y.missed] 25))
  have HO := Lib.hid (hO.alloc (.cells #[.slice TA y.t.length tc, .slice OA y.o.length oc, .int .i64 y.got, .int .i64 y.sold, .int .i64 y.missed] 25))
  have G3 := grown_alloc (grown_trans (grownAny b1 (some (w.heap.size + 1 + 1))) gr2) (.cells #[.slice TA y.t.length tc, .slice OA y.o.length oc, .int .i64 y.got, .int .i64 y.sold, .int .i64 y.missed] 25)
  have hs2 := gr2.size
  clear L2 L3 E2 gr2 hT hO E1
  go_wp2_with fail
  generalize W2.alloc (.cells #[.slice TA y.t.length tc, .slice OA y.o.length oc, .int .i64 y.got, .int .i64 y.sold, .int .i64 y.missed] 25) = W3 at K5 E3 M2 M3 HT HO G3 ⊢
  generalize W2.heap.size = g5 at K5 hs2 ⊢
  have nx5 : g5 ∉ [(w.heap.size + 1 + 1), w.heap.size, (w.heap.size + 1)] := by simp only [List.mem_cons, List.not_mem_nil, or_false]; omega
  have HXt : Hid (∀ b, Value.ownBlock (.slice TA y.t.length tc) = some b → b ∉ [(w.heap.size + 1 + 1), w.heap.size, (w.heap.size + 1)]) := fun b hb hm => by
    have := (HT.out.lt b hb).1
    simp only [List.mem_cons, List.not_mem_nil, or_false] at hm; omega
  have HXo : Hid (∀ b, Value.ownBlock (.slice OA y.o.length oc) = some b → b ∉ [(w.heap.size + 1 + 1), w.heap.size, (w.heap.size + 1)]) := fun b hb hm => by
    have := (HO.out.lt b hb).1
    simp only [List.mem_cons, List.not_mem_nil, or_false] at hm; omega
  have HR0 : Hid (∀ p ∈ [Room.lies 4 w.heap.size 25 [.slice none 0 0, .slice none 0 0, .int .i64 0, .int .i64 0, .int .i64 0], Room.lies 5 (w.heap.size + 1) 45 [.int .i64 0, .int .i64 0, .int .i64 0, .int .i64 0]], p.blk ≠ some (w.heap.size + 1 + 1) ∧ p.P W3) := by
    intro p hp
    simp only [List.mem_cons, List.not_mem_nil, or_false] at hp
    rcases hp with rfl | rfl
    · exact ⟨by intro e; injection e; omega, M2⟩
    · exact ⟨by intro e; injection e; omega, M3⟩
  refine wp_region_factsR (Dr w W3 (w.heap.size + 1 + 1) A bs cap (100000) 100 6 [(w.heap.size + 1 + 1), w.heap.size, (w.heap.size + 1)] [Room.lies 4 w.heap.size 25 [.slice none 0 0, .slice none 0 0, .int .i64 0, .int .i64 0, .int .i64 0], Room.lies 5 (w.heap.size + 1) 45 [.int .i64 0, .int .i64 0, .int .i64 0, .int .i64 0]]) (fun i w1 w2 => i ∉ [4, 5] → w1.grownBy w2 (some (w.heap.size + 1 + 1))) (by kernel_rfl) (by kernel_rfl) (by kernel_rfl) (Dr.start E3 HR0.out) ?_
  simp only [fillOps, Act.put, List.setIfInBounds_toArray, List.set_cons_zero, List.set_cons_succ, Nat.zero_add, Nat.reduceAdd]
  apply wpFactsR_val
  case h1 =>
    intro vs L9 w9 hG9 hC9 hB K9 hK9
    have q0 : w9.cell? ⟨g5, 0, none⟩ = some (.slice TA y.t.length tc) := (hC9.lies K5 nx5).cell 0
    have q1 : w9.cell? ⟨g5, 1, none⟩ = some (.slice OA y.o.length oc) := (hC9.lies K5 nx5).cell 1
    have q2 : w9.cell? ⟨g5, 2, none⟩ = some (.int .i64 y.got) := (hC9.lies K5 nx5).cell 2
    have q3 : w9.cell? ⟨g5, 3, none⟩ = some (.int .i64 y.sold) := (hC9.lies K5 nx5).cell 3
    have q4 : w9.cell? ⟨g5, 4, none⟩ = some (.int .i64 y.missed) := (hC9.lies K5 nx5).cell 4
    simp only [Act.put, List.setIfInBounds_toArray, List.set_cons_zero, List.set_cons_succ] at hK9
    go_simp
    exact hK9 _ _ rfl (hC9.stay hG9.self (by decide)) (fun _ => World.grownBy.refl _ _)
  apply wpFactsR_val
  case h1 =>
    intro vs L9 w9 hG9 hC9 hB K9 hK9
    simp only [Act.put, List.setIfInBounds_toArray, List.set_cons_zero, List.set_cons_succ] at hK9
    go_simp
    exact hK9 _ _ rfl (hC9.stay hG9.self (by decide)) (fun _ => World.grownBy.refl _ _)
  apply wpFactsR_val
  case h1 =>
    intro vs L9 w9 hG9 hC9 hB K9 hK9
    have q0 : w9.cell? ⟨g5, 0, none⟩ = some (.slice TA y.t.length tc) := (hC9.lies K5 nx5).cell 0
    have q1 : w9.cell? ⟨g5, 1, none⟩ = some (.slice OA y.o.length oc) := (hC9.lies K5 nx5).cell 1
    have q2 : w9.cell? ⟨g5, 2, none⟩ = some (.int .i64 y.got) := (hC9.lies K5 nx5).cell 2
    have q3 : w9.cell? ⟨g5, 3, none⟩ = some (.int .i64 y.sold) := (hC9.lies K5 nx5).cell 3
    have q4 : w9.cell? ⟨g5, 4, none⟩ = some (.int .i64 y.missed) := (hC9.lies K5 nx5).cell 4
    simp only [Act.put, List.setIfInBounds_toArray, List.set_cons_zero, List.set_cons_succ] at hK9
    go_simp
    exact hK9 _ _ rfl (hC9.stay hG9.self (by decide)) (fun _ => World.grownBy.refl _ _)
  refine wpFactsR_some [] (fun v _ => ∃ s : Stp, v = .agg #[.int .i64 s.kind, .int .i64 s.stamp, .int .i64 s.person, .int .i64 s.value]) ?_ (fun vs L9 w9 hG9 hC9 hB K9 hK9 => ?_) ?_
  next =>
    intro i9 hi9 hb9 ha9 v w1 w2 hv hT9
    exact hv
  next =>
    have d1 := FactN.eq (hB 1 _ (by kernel_rfl) (by kernel_rfl) rfl (by decide))
    have d2 := FactN.eq (hB 2 _ (by kernel_rfl) (by kernel_rfl) rfl (by decide))
    simp only [d1, d2] at hK9 ⊢
    simp only [Act.put, List.setIfInBounds_toArray, List.set_cons_zero, List.set_cons_succ] at hK9
    go_simp
    refine (officeStep_any (y.at TA tc OA oc) (w.heap.size + 1 + 1) A bs cap _ w w9 (by have := hC9.cnt; omega) (by show y.t.length ≤ _; omega) (by show y.o.length ≤ _; omega) hC9.env ⟨ownsRow_reads (hC9.owns HT.out HXt.out), ownsRow_reads (hC9.owns HO.out HXo.out)⟩ (fun b e => by have := own_ge HT.out b e; omega) (fun b e => by have := own_ge HO.out b e; omega)).mono ?_
    rintro en w8 ⟨s8, rfl, hE8, hg8⟩
    exact hK9 _ _ _ rfl ⟨_, rfl⟩ (hC9.call hG9.self (by decide) hE8 (by omega) hg8 (by simp)) (fun _ => hg8)
  refine wpFactsR_some [5] (fun _ w9 => Lies w9 w.heap.size 25 [.slice TA y.t.length tc, .slice OA y.o.length oc, .int .i64 y.got, .int .i64 y.sold, .int .i64 y.missed]) ?_ (fun vs L9 w9 hG9 hC9 hB K9 hK9 => ?_) ?_
  next =>
    intro i9 hi9 hb9 ha9 v w1 w2 hv hT9
    have hb := hT9 (fun hm => by
      simp only [List.mem_cons, List.not_mem_nil, or_false] at hm hb9
      rcases hm with rfl | rfl
      · exact hi9 rfl
      · exact hb9 (by simp))
    exact hv.kept hb (by intro e; injection e; omega)
  next =>
    have d0 := FactN.eq (hB 0 _ (by kernel_rfl) (by kernel_rfl) rfl (by decide))
    simp only [d0] at hK9 ⊢
    simp only [Act.put, List.setIfInBounds_toArray, List.set_cons_zero, List.set_cons_succ] at hK9
    have hL9 : Lies w9 w.heap.size 25 [.slice none 0 0, .slice none 0 0, .int .i64 0, .int .i64 0, .int .i64 0] := (hC9.room (Room.lies 4 w.heap.size 25 [.slice none 0 0, .slice none 0 0, .int .i64 0, .int .i64 0, .int .i64 0]) (by simp)).2 hG9.self
    have y0 := hL9.cell 0
    have y1 := hL9.cell 1
    have y2 := hL9.cell 2
    have y3 := hL9.cell 3
    have y4 := hL9.cell 4
    simp only [List.getElem?_cons_zero, List.getElem?_cons_succ] at y0 y1 y2 y3 y4
    have f0 := hL9.frozen 0
    have f1 := hL9.frozen 1
    have f2 := hL9.frozen 2
    have f3 := hL9.frozen 3
    have f4 := hL9.frozen 4
    have hN9 : Lies _ w.heap.size 25 [.slice TA y.t.length tc, .slice OA y.o.length oc, .int .i64 y.got, .int .i64 y.sold, .int .i64 y.missed] := (((((hL9.set 0 (.slice TA y.t.length tc)).set 1 (.slice OA y.o.length oc)).set 2 (.int .i64 y.got)).set 3 (.int .i64 y.sold)).set 4 (.int .i64 y.missed))
    have hG8 := Lib.hid (grown_set (g := w.heap.size) (i := 4) (u := .int .i64 y.missed) (grown_set (g := w.heap.size) (i := 3) (u := .int .i64 y.sold) (grown_set (g := w.heap.size) (i := 2) (u := .int .i64 y.got) (grown_set (g := w.heap.size) (i := 1) (u := .slice OA y.o.length oc) (grown_set (g := w.heap.size) (i := 0) (u := .slice TA y.t.length tc) (World.grownBy.refl w9 (some w.heap.size)))))))
    have hN8 := Lib.hid hN9
    clear hN9 hL9
    go_simp
    exact hK9 _ undef _ rfl hN8.out (hC9.wroteB hG9.self (by decide) hG8.out (by omega) (drawn_bytes HBR.out G3 hC9 (by intro k hk; simp only [List.mem_cons, List.not_mem_nil, or_false] at hk; omega) hG8.out (by omega) (by omega)) (by omega) (.inl (by simp)) (by intro p hp e; simp only [List.mem_cons, List.not_mem_nil, or_false] at hp; rcases hp with rfl | rfl <;> first | rfl | exact absurd (Option.some.inj e) (by omega))) (fun hq => (hq (by decide)).elim)
  refine wpFactsR_some [] (fun _ w9 => ∃ s : Stp, Lies w9 (w.heap.size + 1) 45 [.int .i64 s.kind, .int .i64 s.stamp, .int .i64 s.person, .int .i64 s.value] ∧ Lies w9 w.heap.size 25 [.slice TA y.t.length tc, .slice OA y.o.length oc, .int .i64 y.got, .int .i64 y.sold, .int .i64 y.missed]) ?_ (fun vs L9 w9 hG9 hC9 hB K9 hK9 => ?_) ?_
  next =>
    intro i9 hi9 hb9 ha9 v w1 w2 hv hT9
    have hb := hT9 (fun hm => by
      simp only [List.mem_cons, List.not_mem_nil, or_false] at hm hb9
      rcases hm with rfl | rfl
      · exact absurd (ha9.symm.trans (show ahead .any _ _ _ _ = true by kernel_rfl)) (by decide)
      · exact hi9 rfl)
    obtain ⟨s, q1, q2⟩ := hv
    exact ⟨s, q1.kept hb (by intro e; injection e; omega), q2.kept hb (by intro e; injection e; omega)⟩
  next =>
    simp only [Act.put, List.setIfInBounds_toArray, List.set_cons_zero, List.set_cons_succ] at hK9
    obtain ⟨s3, e3⟩ := hB 3 _ (by kernel_rfl) (by kernel_rfl) rfl (by decide)
    simp only [e3] at hK9 ⊢
    have h4 := hB 4 _ (by kernel_rfl) (by kernel_rfl) rfl (by decide)
    have h4 : Lies w9 w.heap.size 25 [.slice TA y.t.length tc, .slice OA y.o.length oc, .int .i64 y.got, .int .i64 y.sold, .int .i64 y.missed] := h4
    have hL9 : Lies w9 (w.heap.size + 1) 45 [.int .i64 0, .int .i64 0, .int .i64 0, .int .i64 0] := (hC9.room (Room.lies 5 (w.heap.size + 1) 45 [.int .i64 0, .int .i64 0, .int .i64 0, .int .i64 0]) (by simp)).2 hG9.self
    have y0 := hL9.cell 0
    have y1 := hL9.cell 1
    have y2 := hL9.cell 2
    have y3 := hL9.cell 3
    simp only [List.getElem?_cons_zero, List.getElem?_cons_succ] at y0 y1 y2 y3
    have f0 := hL9.frozen 0
    have f1 := hL9.frozen 1
    have f2 := hL9.frozen 2
    have f3 := hL9.frozen 3
    have hG8 := Lib.hid (grown_set (g := (w.heap.size + 1)) (i := 3) (u := .int .i64 s3.value) (grown_set (g := (w.heap.size + 1)) (i := 2) (u := .int .i64 s3.person) (grown_set (g := (w.heap.size + 1)) (i := 1) (u := .int .i64 s3.stamp) (grown_set (g := (w.heap.size + 1)) (i := 0) (u := .int .i64 s3.kind) (World.grownBy.refl w9 (some (w.heap.size + 1)))))))
    have hN8 := Lib.hid ((((hL9.set 0 (.int .i64 s3.kind)).set 1 (.int .i64 s3.stamp)).set 2 (.int .i64 s3.person)).set 3 (.int .i64 s3.value))
    have hN4 := Lib.hid ((((h4.other (p := ⟨(w.heap.size + 1), 0, none⟩) (show w.heap.size ≠ w.heap.size + 1 by omega) (.int .i64 s3.kind)).other (p := ⟨(w.heap.size + 1), 1, none⟩) (show w.heap.size ≠ w.heap.size + 1 by omega) (.int .i64 s3.stamp)).other (p := ⟨(w.heap.size + 1), 2, none⟩) (show w.heap.size ≠ w.heap.size + 1 by omega) (.int .i64 s3.person)).other (p := ⟨(w.heap.size + 1), 3, none⟩) (show w.heap.size ≠ w.heap.size + 1 by omega) (.int .i64 s3.value))
    clear h4 hL9
    go_simp
    exact hK9 _ undef _ rfl ⟨s3, hN8.out, hN4.out⟩ (hC9.wroteB hG9.self (by decide) hG8.out (by omega) (drawn_bytes HBR.out G3 hC9 (by intro k hk; simp only [List.mem_cons, List.not_mem_nil, or_false] at hk; omega) hG8.out (by omega) (by omega)) (by omega) (.inl (by simp)) (by intro p hp e; simp only [List.mem_cons, List.not_mem_nil, or_false] at hp; rcases hp with rfl | rfl <;> first | rfl | exact absurd (Option.some.inj e) (by omega))) (fun hq => (hq (by decide)).elim)
  refine wpFactsR_nil fun vs Lq W5 hL9 hC5 hB => ?_
  obtain ⟨s, hS, hY⟩ := hB 5 _ rfl rfl (by decide)
  clear hB hL9
  have hT5 := ownsRow_lower (hC5.owns HT.out HXt.out) b1.size
  have hO5 := ownsRow_lower (hC5.owns HO.out HXo.out) b1.size
  have G5 := drawn_gr G3 hC5 (by intro k hk hne; simp only [List.mem_cons, List.not_mem_nil, or_false] at hk; omega) E3
  have BB := grown_below G5 (by omega)
  have x0 := hY.cell 0
  have x1 := hY.cell 1
  have x2 := hY.cell 2
  have x3 := hY.cell 3
  have x4 := hY.cell 4
  simp only [List.getElem?_cons_zero, List.getElem?_cons_succ] at x0 x1 x2 x3 x4
  have y0 := hS.cell 0
  have y1 := hS.cell 1
  have y2 := hS.cell 2
  have y3 := hS.cell 3
  simp only [List.getElem?_cons_zero, List.getElem?_cons_succ] at y0 y1 y2 y3
  have HHT := Lib.hid hT5
  have HHO := Lib.hid hO5
  clear hC5 hT5 hO5 hS hY G5 HR0 HXt HXo M2 M3 K5 E3 G3
  repeat (first | go_values | go_skip | go_guarded | go_step | go_upon | simp only [])
  refine bodyPost_ret (v := .tuple #[.agg #[.slice TA y.t.length tc, .slice OA y.o.length oc, .int .i64 y.got, .int .i64 y.sold, .int .i64 y.missed], .agg #[.int .i64 s.kind, .int .i64 s.stamp, .int .i64 s.person, .int .i64 s.value]]) (by simp [results, Try.results27, go_sem, x0, x1, x2, x3, x4, y0, y1, y2, y3]) rfl ?_
  exact ⟨y, s, _, rfl, ⟨TA, tc, OA, oc, rfl, HHT.out, HHO.out⟩, BB⟩
end Go.Proofs.Ytdiojhjkcholiaa
