/- Sp02: the texts Cat OwnInts PhrCopy Alike MergeM PhrOwn SortP Facts FactsN FactsR, joined into one file. -/
import Derived.Laws.OwnMore
import Derived.WalkKit
import Derived.Orders
import Derived.Deep.Draws
import Derived.Test.YtchkjiadnackaaaSp01

set_option linter.unusedVariables false

/- 'append(s, xs...)' onto a row of the call's own, the source nil, empty or not (no program in sight). -/
namespace Go.Proofs.Ytchkjiadnackaaa
open Go.RowKit

/-- Nothing is appended: the nil slice. -/
theorem run_cat_nil {P : Program} (w : World) (base : Nat) (t ty e : TypeId) (i : TypeInfo) (size : Nat) (ht : P.underlying t = some (.slice e)) (hi : P.info? e = some i)
    (v : Value) (n : Nat) (xs : List Value) (hown : w.ownsRow base e size v n xs) (c : Nat) : (Builtin.append_ #[t, t] ty #[v, .slice none 0 c]).run P w = .ok v w := by
  obtain ⟨_, ⟨rfl, rfl⟩ | ⟨g, cap, cur, rfl, _, _, hcap, _⟩⟩ := hown
  · simp [Builtin.append_, run_underlying ht, sizeOf, typeInfo, hi, Builtin.lenOf, Builtin.firstCells]
  · simp [Builtin.append_, run_underlying ht, sizeOf, typeInfo, hi, Builtin.lenOf, Builtin.firstCells, hcap, storeCells]

theorem addr_add (b o j : Nat) : ((⟨b, o, none⟩ : Addr).add j) = ⟨b, o + j, none⟩ := by unfold Addr.add; by_cases h : j = 0 <;> simp [h]

theorem wp_cat {P : Program} {o : Oper} {a : Act} {w : World} {K : Act → World → Prop} {Q : Exit → Act → World → Prop} (s x : Operand) (t : TypeId)
    (ho : o.op = .call { callee := .builtin .append, args := #[s, x], argTypes := #[t, t] })
    (e : TypeId) (z : Value) (k bytes : Nat) (ht : P.underlying t = some (.slice e)) (hinfo : (P.info? e).map (fun i => (i.zero, i.size, i.bytes)) = some (some z, k, bytes)) (hzs : z.cells.size = k) (hsz : 0 < k) (hby : bytes ≤ 1000)
    (B : Nat) (v : Value) (n : Nat) (xs : List Value) (hs : a.eval s = v) (hown : Hid (w.ownsRow B e k v n xs))
    (S : Nat) (A : Option Addr) (m c : Nat) (cs : List Value) (hx : a.eval x = .slice A m c) (hr : Hid (SlcR w S k A m cs)) (h1 : ∀ u ∈ cs, u.oneCell' = true)
    (hn : n + m ≤ 1000000000) (hbase : B ≤ w.heap.size)
    (h : ∀ v' w', Hid (w'.ownsRow B e k v' (n + m) (xs ++ cs)) → w.grownBy w' v.ownBlock → Below B w w' → (v'.ownBlock = v.ownBlock ∨ v'.ownBlock = some w.heap.size) → K (a.put o.dst v') w') : o.wp P a w K Q := by
  obtain ⟨i, hi, hz, hs', hb⟩ := info_parts hinfo
  have hbytes : (n + m) * bytes ≤ 140737488355328 := by have := Nat.mul_le_mul hn hby; omega
  have fin : ∀ v' w', (Builtin.append_ #[t, t] o.type #[v, .slice A m c]).run P w = .ok v' w' → w'.ownsRow B e k v' (n + m) (xs ++ cs) → w.grownBy w' v.ownBlock → (v'.ownBlock = v.ownBlock ∨ v'.ownBlock = some w.heap.size) → o.wp P a w K Q := by
    intro v' w' hrun h2 h3 h4
    unfold Oper.wp execOp
    simp only [ho, resolve, invoke, builtin, Sem.run_bind, Sem.run_pure, Result.andThen_ok, List.map_toArray, List.map_cons, List.map_nil, hs, hx, hrun]
    exact h v' w' h2 h3 ((Below.refl B w).grown h3 hbase (fun j hj => (hown.out.lt j hj).1)) h4
  rcases Nat.eq_zero_or_pos m with h0 | h0
  · subst h0
    have hc0 : cs = [] := List.eq_nil_of_length_eq_zero (by simpa using hr.out.len)
    subst hc0
    rcases A with _ | ad
    · exact fin v w (run_cat_nil w B t o.type e i k ht hi v n xs hown.out c) (by simpa using hown.out) (World.grownBy.refl w _) (.inl rfl)
    · obtain ⟨v', w', hrun, h2, h3, _, h5⟩ := run_append_own_at (P := P) w B t o.type e i z k bytes ht hi hz hs' hb hzs hsz v n xs hown.out ad 0 c [] (by simp) (by simp) (by simp) (by unfold maxLen; omega) hbytes hbase
      exact fin v' w' hrun h2 h3 h5
  · obtain ⟨b, off, rfl, hlt, hcell⟩ := hr.out.at_ h0
    obtain ⟨v', w', hrun, h2, h3, _, h5⟩ := run_append_own_at (P := P) w B t o.type e i z k bytes ht hi hz hs' hb hzs hsz v n xs hown.out ⟨b, off, none⟩ m c cs hr.out.len (fun j u hu => by rw [addr_add]; exact hcell j u hu) h1 (by unfold maxLen; omega) hbytes hbase
    exact fin v' w' hrun h2 h3 h5

theorem wpList_cat {P : Program} {ops : Array Oper} {rest : List Oper} {o : Oper} {a : Act} {w : World} {Q : Exit → Act → World → Prop} (hgd : o.guard = none) (s x : Operand) (t : TypeId)
    (ho : o.op = .call { callee := .builtin .append, args := #[s, x], argTypes := #[t, t] })
    (e : TypeId) (z : Value) (k bytes : Nat) (ht : P.underlying t = some (.slice e)) (hinfo : (P.info? e).map (fun i => (i.zero, i.size, i.bytes)) = some (some z, k, bytes)) (hzs : z.cells.size = k) (hsz : 0 < k) (hby : bytes ≤ 1000)
    (B : Nat) (v : Value) (n : Nat) (xs : List Value) (hs : a.eval s = v) (hown : Hid (w.ownsRow B e k v n xs))
    (S : Nat) (A : Option Addr) (m c : Nat) (cs : List Value) (hx : a.eval x = .slice A m c) (hr : Hid (SlcR w S k A m cs)) (h1 : ∀ u ∈ cs, u.oneCell' = true)
    (hn : n + m ≤ 1000000000) (hbase : B ≤ w.heap.size)
    (h : ∀ v' w', Hid (w'.ownsRow B e k v' (n + m) (xs ++ cs)) → w.grownBy w' v.ownBlock → Below B w w' → (v'.ownBlock = v.ownBlock ∨ v'.ownBlock = some w.heap.size) → wpList P ops Q rest (a.put o.dst v') w') : wpList P ops Q (o :: rest) a w :=
  wpList_plain hgd fun _ hK => wp_cat s x t ho e z k bytes ht hinfo hzs hsz hby B v n xs hs hown S A m c cs hx hr h1 hn hbase fun v' w' h2 h3 h4 h5 => hK _ _ (h v' w' h2 h3 h4 h5)

/-- A slice made by the text itself, of no element. -/
theorem owns_empty {w : World} {B g : Nat} {e : TypeId} {k : Nat} (h : Lies w g e []) (hB : B ≤ g) : w.ownsRow B e k (.slice (some ⟨g, 0, none⟩) 0 0) 0 [] := h.own hB (by simp) (by unfold maxLen; omega)
theorem ints_one {l : List Int} : ∀ u ∈ (l.map (Value.int .i64)), u.oneCell' = true := by
  intro u hu; obtain ⟨n, _, rfl⟩ := List.mem_map.1 hu; rfl
end Go.Proofs.Ytchkjiadnackaaa

/- Copies of slices of ints: the reference's l1Own, the library's slices.Clone. -/
namespace Go.Proofs.Ytchkjiadnackaaa
open Go.RowKit

theorem infoI : (Try.prog.info? 3).map (fun i => (i.zero, i.size, i.bytes)) = some (some (.int .i64 0), 1, 8) := by kernel_rfl

/-- The result: a slice of the call's own that holds l. -/
def GivesInts (w : World) (l : List Int) (e : Ending) (w' : World) : Prop := ∃ A c, e = .returned (.slice A l.length c) ∧ OwnS w' w.heap.size 3 1 A l.length (encIs l) ∧ Below w.heap.size w w'
theorem GivesInts.mk {w w' : World} {l : List Int} {v : Value} (h : w'.ownsRow w.heap.size 3 1 v l.length (encIs l)) (hb : Below w.heap.size w w') : GivesInts w l (.returned v) w' := by
  obtain ⟨A, c, rfl⟩ := ownsRow_slice h
  exact ⟨A, c, rfl, OwnS.of h, hb⟩

theorem l1Own_any (A : Option Addr) (c : Nat) (l : List Int) (w : World) (h : IntsR w w.heap.size A l) (hn : l.length ≤ 1000000) :
    Calls Try.prog 29 #[.slice A l.length c] w (GivesInts w l) := by
  have HO : Hid ((w.alloc (.cells #[] 3)).ownsRow w.heap.size 3 1 (.slice (some ⟨w.heap.size, 0, none⟩) 0 0) 0 []) := owns_empty (Lies.new w 3 #[]) (Nat.le_refl _)
  have b1 := (Below.refl w.heap.size w).alloc (Nat.le_refl _) (.cells #[] 3)
  have HR := Lib.hid (SlcR.below h b1)
  go_enter Try.func29, Try.ntmps29
  go_wp2_with (at_builtin; refine wpList_cat rfl _ _ 36 rfl 3 (.int .i64 0) 1 8 Try.underlying36 infoI rfl (by omega) (by omega) w.heap.size _ 0 [] rfl HO w.heap.size A l.length c (encIs l) rfl HR ints_one (by omega) b1.size ?_; intro v' w1 hown _ hb2 _)
  go_ret
  exact GivesInts.mk (by simpa using hown.out) (b1.trans hb2)

theorem clone_any (A : Option Addr) (c : Nat) (l : List Int) (w : World) (h : IntsR w w.heap.size A l) (hn : l.length ≤ 1000000) :
    Calls Try.prog 58 #[.slice A l.length c] w (GivesInts w l) := by
  rcases A with _ | ad
  · have h0 : l.length = 0 := by
      rcases Nat.eq_zero_or_pos l.length with h0 | h0
      · exact h0
      · obtain ⟨_, _, h1, _⟩ := h.at_ h0; cases h1
    obtain rfl : l = [] := List.eq_nil_of_length_eq_zero h0
    have hq := fun W => Lib.run_eql_slice_nil (P := Try.prog) W 36 3 none 0 c 0 0 Try.underlying36
    go_enter Try.func58, Try.ntmps58
    go_wp2_with fail
    go_ret
    exact ⟨none, 0, rfl, ⟨by simp, by simp, .inl ⟨rfl, rfl⟩⟩, Below.refl _ _⟩
  · have HO : Hid ((w.alloc (.cells #[] 3)).ownsRow w.heap.size 3 1 (.slice (some ⟨w.heap.size, 0, none⟩) 0 0) 0 []) := owns_empty (Lies.new w 3 #[]) (Nat.le_refl _)
    have b1 := (Below.refl w.heap.size w).alloc (Nat.le_refl _) (.cells #[] 3)
    have HR := Lib.hid (SlcR.below h b1)
    have hq := fun W => Lib.run_eql_slice_nil (P := Try.prog) W 36 3 (some ad) l.length c 0 0 Try.underlying36
    go_enter Try.func58, Try.ntmps58
    go_wp2_with (at_builtin; refine wpList_cat rfl _ _ 36 rfl 3 (.int .i64 0) 1 8 Try.underlying36 infoI rfl (by omega) (by omega) w.heap.size _ 0 [] rfl HO w.heap.size (some ad) l.length c (encIs l) rfl HR ints_one (by omega) b1.size ?_; intro v' w1 hown _ hb2 _)
    go_ret
    exact GivesInts.mk (by simpa using hown.out) (b1.trans hb2)
end Go.Proofs.Ytchkjiadnackaaa

/- copyPhrase: a phrase with its own faults. -/
namespace Go.Proofs.Ytchkjiadnackaaa
open Go.RowKit

theorem OwnS.lower {w : World} {B B' : Nat} {t : TypeId} {k : Nat} {A : Option Addr} {n : Nat} {cs : List Value} (h : OwnS w B t k A n cs) (hB : B' ≤ B) : OwnS w B' t k A n cs := by
  obtain ⟨hl, hn, h0 | ⟨g, rest, hA, hg, hh⟩⟩ := h
  · exact ⟨hl, hn, .inl h0⟩
  · exact ⟨hl, hn, .inr ⟨g, rest, hA, Nat.le_trans hB hg, hh⟩⟩

/-- A phrase like x whose faults are the call's own. -/
def GivesPh (w : World) (x : Ph) (e : Ending) (w' : World) : Prop := ∃ A c, e = .returned (Ph.val { x with A := A, cap := c }) ∧ OwnS w' w.heap.size 3 1 A x.f.length (encIs x.f) ∧ Below w.heap.size w w'

set_option maxHeartbeats 1000000 in
theorem copyPhrase_any (x : Ph) (w : World) (h : IntsR w w.heap.size x.A x.f) (hn : x.f.length ≤ 1000000) :
    Calls Try.prog 33 #[x.val] w (GivesPh w x) := by
  have L1 := (Lies.new w 42 #[.int .i64 x.s, .int .i64 x.c, .slice x.A x.f.length x.cap, .int .i64 x.p]).alloc (.cells #[.int .i64 0, .int .i64 0, .slice none 0 0, .int .i64 0] 42)
  have L2 := Lies.new1 w (.cells #[.int .i64 x.s, .int .i64 x.c, .slice x.A x.f.length x.cap, .int .i64 x.p] 42) 42 #[.int .i64 0, .int .i64 0, .slice none 0 0, .int .i64 0]
  have b1 := (Below.refl w.heap.size w).alloc (Nat.le_refl _) (.cells #[.int .i64 x.s, .int .i64 x.c, .slice x.A x.f.length x.cap, .int .i64 x.p] 42)
  have b2 := b1.alloc b1.size (.cells #[.int .i64 0, .int .i64 0, .slice none 0 0, .int .i64 0] 42)
  clear b1
  go_enter Try.func33, Try.ntmps33
  go_wp2_with fail
  generalize ((w.alloc (.cells #[.int .i64 x.s, .int .i64 x.c, .slice x.A x.f.length x.cap, .int .i64 x.p] 42)).alloc (.cells #[.int .i64 0, .int .i64 0, .slice none 0 0, .int .i64 0] 42)) = W3 at L1 L2 b2 ⊢
  refine (clone_any x.A x.cap x.f W3 (SlcR.up h b2 (Nat.le_refl _)) hn).mono ?_
  rintro e W4 ⟨A', c', rfl, hO, hb4⟩
  have b4 := b2.trans (hb4.mono b2.size)
  have M1 := L1.below hb4 L1.lt
  have M2 := L2.below hb4 L2.lt
  have hne1 := M1.lt
  have hne2 := M2.lt
  have d0 := M1.cell 0
  have d1 := M1.cell 1
  have d2 := M1.cell 2
  have d3 := M1.cell 3
  have e0 := M2.cell 0
  have e1 := M2.cell 1
  have e2 := M2.cell 2
  have e3 := M2.cell 3
  have f2 := M1.frozen 2
  have g0 := M2.frozen 0
  have g1 := M2.frozen 1
  have g2 := M2.frozen 2
  have g3 := M2.frozen 3
  have hg1 := L1.lt
  have hg2 := L2.lt
  have HO := Lib.hid hO; clear hO
  simp only [List.getElem?_cons_zero, List.getElem?_cons_succ] at d0 d1 d2 d3 e0 e1 e2 e3
  clear L1 L2 h M1 M2
  go_wp2
  refine bodyPost_ret (v := Ph.val { x with A := A', cap := c' }) (by simp [results, Try.results33, go_sem, *]) rfl ⟨A', c', rfl, ?_, ?_⟩
  · exact (((HO.out.kept (grown_set (World.grownBy.refl W4 (some w.heap.size))) (by omega)).kept (grown_set (grown_set (grown_set (grown_set (World.grownBy.refl _ (some (w.heap.size + 1))))))) (by omega)).lower b2.size)
  · exact (b4.grown (grown_set (World.grownBy.refl W4 (some w.heap.size))) b4.size (by rintro _ ⟨⟩; omega)).grown (grown_set (grown_set (grown_set (grown_set (World.grownBy.refl _ (some (w.heap.size + 1))))))) (by simpa using b4.size) (by rintro _ ⟨⟩; omega)
end Go.Proofs.Ytchkjiadnackaaa

/- Are two phrases alike? In the reference and in the program (slices.Equal). -/
namespace Go.Proofs.Ytchkjiadnackaaa
open Go.RowKit

set_option maxHeartbeats 1000000 in
theorem equalInts_any (A B : Option Addr) (c d : Nat) (l m : List Int) (w : World) (hA : IntsR w w.heap.size A l) (hB : IntsR w w.heap.size B m) :
    Calls Try.prog 62 #[.slice A l.length c, .slice B m.length d] w fun e w' => e = .returned (.bool (sameInts l m)) ∧ Below w.heap.size w w' := by
  have hlA := hA.big
  have hlB := hB.big
  have hrA := hA.ints
  have hrB := hB.ints
  by_cases hne : l.length = m.length
  · have hF : Hid (sameIntsFrom l m = sameInts l m) := sameIntsFrom_eq l m
    have hbn : ((l.length : Int) != (m.length : Int)) = false := by simp [hne]
    have HE := Lib.hid hne; clear hne
    go_enter Try.func62, Try.ntmps62
    go_wp2
    go_loopw [5, 13] (fun _ i wr => ∃ k : Nat, k ≤ l.length ∧ i = .int .i64 k ∧ Below w.heap.size w wr ∧ Hid (sameIntsFrom (l.drop k) (m.drop k) = sameInts l m)) (fun _ i _ => l.length - (intOf i).toNat)
    case atStart => exact ⟨0, Nat.zero_le _, rfl, Below.refl _ _, hF⟩
    case round =>
      obtain ⟨k, hk, rfl, hbr, HR⟩ := hrel
      by_cases hlt : k < l.length
      · have hlt' : k < m.length := by have := HE.out; omega
        obtain ⟨b, off, rfl, hb, hcell⟩ := hrA (by omega)
        obtain ⟨b', off', rfl, hb', hcell'⟩ := hrB (by omega)
        have c0 := hcell k hlt
        have d0 := hcell' k hlt'
        have hstep : Hid (sameIntsFrom (l.drop k) (m.drop k) = (decide (l[k] = m[k]) && sameIntsFrom (l.drop (k + 1)) (m.drop (k + 1)))) := by
          rw [List.drop_eq_getElem_cons hlt, List.drop_eq_getElem_cons hlt']; rfl
        obtain ⟨x, hxe⟩ : ∃ x, x = l[k] := ⟨_, rfl⟩
        obtain ⟨y, hye⟩ : ∃ x, x = m[k] := ⟨_, rfl⟩
        rw [← hxe] at c0 hstep
        rw [← hye] at d0 hstep
        clear hxe hye
        clear hcell hcell' hrA hrB
        obtain ⟨q, rfl⟩ : ∃ q : Since w.heap.size w, wr = q.val := ⟨⟨wr, hbr⟩, rfl⟩
        by_cases hxy : x = y
        · have hv : (x != y) = false := by simp [hxy]
          have HV : Hid (decide (x = y) = true) := decide_eq_true hxy
          clear hxy
          go_wp2
          refine wp_region_since _ (by kernel_rfl) (by kernel_rfl) ?_
          repeat (any_goals (first | go_big_quiet_step ((fail)) | (refine wpQuiet_step (fun K hK => ?_); go_simp; split <;> (refine hK _ ?_; clear hK K))))
          all_goals (refine wpQuiet_nil ?_; rintro _ ⟨q1, rfl⟩)
          go_wp2
          go_roundw
          case rel => exact ⟨k + 1, by omega, by go_num, q1.below, by have h1 := HR.out; rw [hstep.out, HV.out] at h1; exact h1⟩
          case measure => simp [intOf]; omega
        · have hv : (x != y) = true := by simp [hxy]
          have HV : Hid (decide (x = y) = false) := decide_eq_false hxy
          clear hxy
          go_wp2
          refine wp_region_since _ (by kernel_rfl) (by kernel_rfl) ?_
          repeat (any_goals (first | go_big_quiet_step ((fail)) | (refine wpQuiet_step (fun K hK => ?_); go_simp; split <;> (refine hK _ ?_; clear hK K))))
          all_goals (refine wpQuiet_nil ?_; rintro _ ⟨q1, rfl⟩)
          go_wp2
          go_ret
          refine ⟨?_, q1.below⟩
          rw [← HR.out, hstep.out, HV.out]; rfl
      · have HK : Hid (sameInts l m = true) := by
          have h1 := HR.out
          rw [List.drop_eq_nil_of_le (by omega), List.drop_eq_nil_of_le (by have := HE.out; omega)] at h1; exact h1.symm
        clear hrA hrB
        go_wp2
        go_ret
        exact ⟨by rw [HK.out]; rfl, hbr⟩
  · have hbn : ((l.length : Int) != (m.length : Int)) = true := by rw [bne_iff_ne]; omega
    have hF : Hid (sameInts l m = false) := by
      unfold sameInts; show decide (l = m) = false; rw [decide_eq_false_iff_not]; intro h; exact hne (by rw [h])
    go_enter Try.func62, Try.ntmps62
    go_wp2
    go_ret
    exact ⟨by rw [hF.out]; rfl, Below.refl _ _⟩

/-- The same state, faults and price. -/
def Ph.alike (x y : Ph) : Bool := decide (x.s = y.s) && sameInts x.f y.f && decide (x.p = y.p)

set_option maxHeartbeats 2000000 in
theorem alike_any (x y : Ph) (w : World) (hx : IntsR w w.heap.size x.A x.f) (hy : IntsR w w.heap.size y.A y.f) :
    Calls Try.prog 44 #[x.val, y.val] w fun e w' => e = .returned (.bool (Ph.alike x y)) ∧ Below w.heap.size w w' := by
  have L1 := (Lies.new w 42 #[.int .i64 x.s, .int .i64 x.c, .slice x.A x.f.length x.cap, .int .i64 x.p]).alloc (.cells #[.int .i64 y.s, .int .i64 y.c, .slice y.A y.f.length y.cap, .int .i64 y.p] 42)
  have L2 := Lies.new1 w (.cells #[.int .i64 x.s, .int .i64 x.c, .slice x.A x.f.length x.cap, .int .i64 x.p] 42) 42 #[.int .i64 y.s, .int .i64 y.c, .slice y.A y.f.length y.cap, .int .i64 y.p]
  have b1 := (Below.refl w.heap.size w).alloc (Nat.le_refl _) (.cells #[.int .i64 x.s, .int .i64 x.c, .slice x.A x.f.length x.cap, .int .i64 x.p] 42)
  have b2 := b1.alloc b1.size (.cells #[.int .i64 y.s, .int .i64 y.c, .slice y.A y.f.length y.cap, .int .i64 y.p] 42)
  clear b1
  have hRx := SlcR.up hx b2 (Nat.le_refl _)
  have hRy := SlcR.up hy b2 (Nat.le_refl _)
  have HA : Hid (Ph.alike x y = (decide (x.s = y.s) && sameInts x.f y.f && decide (x.p = y.p))) := rfl
  by_cases h1 : x.s = y.s
  · have n1 : (x.s == y.s) = true := by simp [h1]
    have n1' : decide (x.s = y.s) = true := decide_eq_true h1
    have D1 := Lib.hid h1; clear h1
    cases hv : sameInts x.f y.f
    · rw [hv] at HA
      have HV := Lib.hid hv; clear hv
      go_enter Try.func44, Try.ntmps44
      go_wp2_with (go_at_call 62; refine (equalInts_any x.A y.A x.cap y.cap x.f y.f _ hRx hRy).mono ?_; rw [HV.out]; rintro e w1 ⟨rfl, hb1⟩)
      go_ret
      exact ⟨by rw [HA.out, n1']; rfl, bthen b2 hb1⟩
    · rw [hv] at HA
      have HV := Lib.hid hv; clear hv
      go_enter Try.func44, Try.ntmps44
      go_wp2_with fail
      generalize ((w.alloc (.cells #[.int .i64 x.s, .int .i64 x.c, .slice x.A x.f.length x.cap, .int .i64 x.p] 42)).alloc (.cells #[.int .i64 y.s, .int .i64 y.c, .slice y.A y.f.length y.cap, .int .i64 y.p] 42)) = W at L1 L2 b2 hRx hRy ⊢
      refine (equalInts_any x.A y.A x.cap y.cap x.f y.f _ hRx hRy).mono ?_
      rw [HV.out]; rintro e w1 ⟨rfl, hb1⟩
      have d3 := (L1.below hb1 L1.lt).cell 3
      have e3 := (L2.below hb1 L2.lt).cell 3
      simp only [List.getElem?_cons_zero, List.getElem?_cons_succ] at d3 e3
      by_cases h2 : x.p = y.p
      · have n2 : (x.p == y.p) = true := by simp [h2]
        have n2' : decide (x.p = y.p) = true := decide_eq_true h2
        clear h2
        go_wp2
        go_ret
        exact ⟨by rw [HA.out, n1', n2']; rfl, bthen b2 hb1⟩
      · have n2 : (x.p == y.p) = false := by simp [h2]
        have n2' : decide (x.p = y.p) = false := decide_eq_false h2
        clear h2
        go_wp2
        go_ret
        exact ⟨by rw [HA.out, n1', n2']; rfl, bthen b2 hb1⟩
  · have n1 : (x.s == y.s) = false := by simp [h1]
    have n1' : decide (x.s = y.s) = false := decide_eq_false h1
    clear h1
    go_enter Try.func44, Try.ntmps44
    go_wp2
    go_ret
    exact ⟨by rw [HA.out, n1']; rfl, b2⟩

set_option maxHeartbeats 2000000 in
theorem l30Alike_any (x y : Ph) (w : World) (hx : IntsR w w.heap.size x.A x.f) (hy : IntsR w w.heap.size y.A y.f) :
    Calls Try.prog 45 #[x.val, y.val] w fun e w' => e = .returned (.bool (Ph.alike x y)) ∧ Below w.heap.size w w' := by
  have L1 := (Lies.new w 42 #[.int .i64 x.s, .int .i64 x.c, .slice x.A x.f.length x.cap, .int .i64 x.p]).alloc (.cells #[.int .i64 y.s, .int .i64 y.c, .slice y.A y.f.length y.cap, .int .i64 y.p] 42)
  have L2 := Lies.new1 w (.cells #[.int .i64 x.s, .int .i64 x.c, .slice x.A x.f.length x.cap, .int .i64 x.p] 42) 42 #[.int .i64 y.s, .int .i64 y.c, .slice y.A y.f.length y.cap, .int .i64 y.p]
  have b1 := (Below.refl w.heap.size w).alloc (Nat.le_refl _) (.cells #[.int .i64 x.s, .int .i64 x.c, .slice x.A x.f.length x.cap, .int .i64 x.p] 42)
  have b2 := b1.alloc b1.size (.cells #[.int .i64 y.s, .int .i64 y.c, .slice y.A y.f.length y.cap, .int .i64 y.p] 42)
  clear b1
  have hRx := SlcR.up hx b2 (Nat.le_refl _)
  have hRy := SlcR.up hy b2 (Nat.le_refl _)
  have HA : Hid (Ph.alike x y = (decide (x.s = y.s) && sameInts x.f y.f && decide (x.p = y.p))) := rfl
  have hlA := hx.big
  have hlB := hy.big
  by_cases h1 : x.s = y.s
  · have n1 : (x.s != y.s) = false := by simp [h1]
    have n1' : decide (x.s = y.s) = true := decide_eq_true h1
    have D1 := Lib.hid h1; clear h1
    by_cases h2 : x.p = y.p
    · have n2 : (x.p != y.p) = false := by simp [h2]
      have n2' : decide (x.p = y.p) = true := decide_eq_true h2
      have D2 := Lib.hid h2; clear h2
      by_cases h3 : x.f.length = y.f.length
      · have n3 : ((x.f.length : Int) != (y.f.length : Int)) = false := by simp [h3]
        have HE := Lib.hid h3; clear h3
        have hF : Hid (sameIntsFrom x.f y.f = sameInts x.f y.f) := sameIntsFrom_eq x.f y.f
        go_enter Try.func45, Try.ntmps45
        go_wp2
        generalize ((w.alloc (.cells #[.int .i64 x.s, .int .i64 x.c, .slice x.A x.f.length x.cap, .int .i64 x.p] 42)).alloc (.cells #[.int .i64 y.s, .int .i64 y.c, .slice y.A y.f.length y.cap, .int .i64 y.p] 42)) = W at L1 L2 b2 hRx hRy ⊢
        generalize w.heap.size = g at L1 L2 ⊢
        have k2 : ∀ p : Since W.heap.size W, p.val.cell? ⟨g, 2, none⟩ = some (.slice x.A x.f.length x.cap) := fun p => (p.cell L1.lt).trans (L1.cell 2)
        have j2 : ∀ p : Since W.heap.size W, p.val.cell? ⟨g + 1, 2, none⟩ = some (.slice y.A y.f.length y.cap) := fun p => (p.cell L2.lt).trans (L2.cell 2)
        have hrA := IntsR.ints hRx
        have hrB := IntsR.ints hRy
        clear L1 L2 hx hy hRx hRy
        go_loopw [5] (fun i wr => ∃ k : Nat, k ≤ x.f.length ∧ i = .int .i64 k ∧ (∃ q : Since W.heap.size W, wr = q.val) ∧ Hid (sameIntsFrom (x.f.drop k) (y.f.drop k) = sameInts x.f y.f)) (fun i _ => x.f.length - (intOf i).toNat)
        case atStart => exact ⟨0, Nat.zero_le _, rfl, ⟨Since.start _ _, rfl⟩, hF⟩
        case round =>
          obtain ⟨k, hk, rfl, ⟨q, rfl⟩, HR⟩ := hrel
          by_cases hlt : k < x.f.length
          · have hlt' : k < y.f.length := by have := HE.out; omega
            obtain ⟨b, off, hAx, hb, hcell⟩ := hrA (by omega)
            obtain ⟨b', off', hAy, hb', hcell'⟩ := hrB (by omega)
            have c0 := hcell k hlt
            have d0 := hcell' k hlt'
            have hstep : Hid (sameIntsFrom (x.f.drop k) (y.f.drop k) = (decide (x.f[k] = y.f[k]) && sameIntsFrom (x.f.drop (k + 1)) (y.f.drop (k + 1)))) := by
              rw [List.drop_eq_getElem_cons hlt, List.drop_eq_getElem_cons hlt']; rfl
            obtain ⟨u, hxe⟩ : ∃ u, u = x.f[k] := ⟨_, rfl⟩
            obtain ⟨v, hye⟩ : ∃ v, v = y.f[k] := ⟨_, rfl⟩
            rw [← hxe] at c0 hstep
            rw [← hye] at d0 hstep
            rw [hAx] at k2
            rw [hAy] at j2
            clear hxe hye hAx hAy
            clear hcell hcell' hrA hrB
            by_cases hxy : u = v
            · have hv : (u != v) = false := by simp [hxy]
              have HV : Hid (decide (u = v) = true) := decide_eq_true hxy
              clear hxy
              go_wp2
              refine wp_region_since _ (by kernel_rfl) (by kernel_rfl) ?_
              repeat (any_goals (first | go_big_quiet_step ((fail)) | (refine wpQuiet_step (fun K hK => ?_); go_simp; split <;> (refine hK _ ?_; clear hK K))))
              all_goals (refine wpQuiet_nil ?_; rintro _ ⟨q1, rfl⟩)
              go_wp2
              go_roundw
              case rel => exact ⟨k + 1, by omega, by go_num, ⟨q1, rfl⟩, by have h1 := HR.out; rw [hstep.out, HV.out] at h1; exact h1⟩
              case measure => simp [intOf]; omega
            · have hv : (u != v) = true := by simp [hxy]
              have HV : Hid (decide (u = v) = false) := decide_eq_false hxy
              clear hxy
              go_wp2
              refine wp_region_since _ (by kernel_rfl) (by kernel_rfl) ?_
              repeat (any_goals (first | go_big_quiet_step ((fail)) | (refine wpQuiet_step (fun K hK => ?_); go_simp; split <;> (refine hK _ ?_; clear hK K))))
              all_goals (refine wpQuiet_nil ?_; rintro _ ⟨q1, rfl⟩)
              go_wp2
              go_ret
              refine ⟨?_, b2.trans (q1.below.mono b2.size)⟩
              have hz : sameInts x.f y.f = false := by rw [← HR.out, hstep.out, HV.out]; rfl
              rw [HA.out, hz]; simp
          · have HK : Hid (sameInts x.f y.f = true) := by
              have h1 := HR.out
              rw [List.drop_eq_nil_of_le (by omega), List.drop_eq_nil_of_le (by have := HE.out; omega)] at h1; exact h1.symm
            clear hrA hrB
            go_wp2
            go_ret
            exact ⟨by rw [HA.out, HK.out, n1', n2']; rfl, b2.trans (q.below.mono b2.size)⟩
      · have n3 : ((x.f.length : Int) != (y.f.length : Int)) = true := by rw [bne_iff_ne]; omega
        have hF : Hid (sameInts x.f y.f = false) := by
          unfold sameInts; show decide (x.f = y.f) = false; rw [decide_eq_false_iff_not]; intro h; exact h3 (by rw [h])
        clear h3
        go_enter Try.func45, Try.ntmps45
        go_wp2
        go_ret
        exact ⟨by rw [HA.out, hF.out, n1']; rfl, b2⟩
    · have n2 : (x.p != y.p) = true := by simp [h2]
      have n2' : decide (x.p = y.p) = false := decide_eq_false h2
      clear h2
      go_enter Try.func45, Try.ntmps45
      go_wp2
      go_ret
      exact ⟨by rw [HA.out, n2']; simp, b2⟩
  · have n1 : (x.s != y.s) = true := by simp [h1]
    have n1' : decide (x.s = y.s) = false := decide_eq_false h1
    clear h1
    go_enter Try.func45, Try.ntmps45
    go_wp2
    go_ret
    exact ⟨by rw [HA.out, n1']; rfl, b2⟩
end Go.Proofs.Ytchkjiadnackaaa

/- Merging phrases that are alike: the plain law. -/
namespace Go.Proofs.Ytchkjiadnackaaa
open Go.RowKit

abbrev PhD := Int × Int × List Int × Int
def alikeD (a b : PhD) : Bool := decide (a.1 = b.1) && decide (a.2.2.1 = b.2.2.1) && decide (a.2.2.2 = b.2.2.2)
theorem Ph.alike_ph (x y : Ph) : Ph.alike x y = alikeD x.ph y.ph := by unfold Ph.alike alikeD Ph.ph sameInts; rfl
theorem alikeD_iff {a b : PhD} : alikeD a b = true ↔ a.1 = b.1 ∧ a.2.2.1 = b.2.2.1 ∧ a.2.2.2 = b.2.2.2 := by unfold alikeD; simp [Bool.and_eq_true, and_assoc]
theorem alikeD_symm (a b : PhD) : alikeD a b = alikeD b a := by
  rw [Bool.eq_iff_iff, alikeD_iff, alikeD_iff]
  constructor <;> (rintro ⟨h1, h2, h3⟩; exact ⟨h1.symm, h2.symm, h3.symm⟩)
theorem alikeD_trans {a b c : PhD} (h : alikeD a b = true) (h' : alikeD a c = true) : alikeD b c = true := by
  rw [alikeD_iff] at *
  exact ⟨h.1.symm.trans h'.1, h.2.1.symm.trans h'.2.1, h.2.2.symm.trans h'.2.2⟩

/-- The copies of the one at place i grow by c. -/
def addAt (c : Int) : Nat → List PhD → List PhD
  | _, [] => []
  | 0, q :: l => (q.1, q.2.1 + c, q.2.2) :: l
  | i + 1, q :: l => q :: addAt c i l
theorem addAt_len (c : Int) : ∀ (i : Nat) (l : List PhD), (addAt c i l).length = l.length
  | _, [] => by cases ‹Nat› <;> rfl
  | 0, _ :: _ => rfl
  | i + 1, _ :: l => by simp [addAt, addAt_len c i l]
/-- Step: p is put to the first one alike, or behind. -/
def putD (out : List PhD) (p : PhD) : List PhD := if idxFrom (alikeD p) 0 out < 0 then out ++ [p] else addAt p.2.1 (idxFrom (alikeD p) 0 out).toNat out
def mergeD (l : List PhD) : List PhD := l.foldl putD []

/-- No two are alike. -/
def Apart (l : List PhD) : Prop := l.Pairwise fun a b => alikeD a b = false
theorem addAt_keys {p : PhD → Prop} (hp : ∀ a b : PhD, alikeD a b = true → (p a ↔ p b)) (c : Int) : ∀ (i : Nat) (l : List PhD), (∀ x ∈ addAt c i l, p x) ↔ ∀ x ∈ l, p x
  | _, [] => by cases ‹Nat› <;> simp [addAt]
  | 0, q :: l => by
    have := hp q (q.1, q.2.1 + c, q.2.2) (alikeD_iff.2 ⟨rfl, rfl, rfl⟩)
    simp [addAt, this]
  | i + 1, q :: l => by
    simp only [addAt, List.mem_cons, forall_eq_or_imp]
    rw [addAt_keys hp c i l]
theorem alikeD_same {a b x : PhD} (h : alikeD a b = true) : alikeD x a = alikeD x b := by
  rw [Bool.eq_iff_iff]
  constructor
  · intro h'; exact alikeD_trans (alikeD_symm x a ▸ h') h
  · intro h'; exact alikeD_trans (alikeD_symm x b ▸ h') (alikeD_symm a b ▸ h)
theorem Apart.add {l : List PhD} (h : Apart l) (c : Int) : ∀ i, Apart (addAt c i l) := by
  induction l with
  | nil => intro i; cases i <;> exact h
  | cons q l ih =>
    unfold Apart at h
    rw [List.pairwise_cons] at h
    intro i
    cases i with
    | zero =>
      unfold Apart addAt
      rw [List.pairwise_cons]
      refine ⟨fun b hb => ?_, h.2⟩
      have := h.1 b hb
      rw [alikeD_symm] at this ⊢
      rw [← this]
      exact (alikeD_same (alikeD_iff.2 ⟨rfl, rfl, rfl⟩)).symm
    | succ i =>
      unfold Apart addAt
      rw [List.pairwise_cons]
      refine ⟨?_, ih h.2 i⟩
      exact (addAt_keys (p := fun b => alikeD q b = false) (fun a b hab => by rw [alikeD_same hab]) c i l).2 h.1
theorem idx_neg {α : Type} {f : α → Bool} : ∀ (l : List α) (k : Nat), idxFrom f k l < 0 → ∀ x ∈ l, f x = false
  | [], _, _, _, hx => by cases hx
  | y :: l, k, h, x, hx => by
    unfold idxFrom at h
    split at h
    · omega
    · rename_i hy
      rcases List.mem_cons.1 hx with rfl | hx'
      · simpa using hy
      · exact idx_neg l (k + 1) h x hx'
theorem Apart.put {l : List PhD} (h : Apart l) (p : PhD) : Apart (putD l p) := by
  unfold putD
  split
  · rename_i hn
    unfold Apart
    rw [List.pairwise_append]
    refine ⟨h, List.pairwise_singleton _ _, fun a ha b hb => ?_⟩
    rw [List.mem_singleton] at hb; subst hb
    rw [alikeD_symm]; exact idx_neg l 0 hn a ha
  · exact h.add _ _

/-- The last one alike among the first k. -/
def lastTo (p : PhD) (out : List PhD) : Nat → Int
  | 0 => -1
  | k + 1 => if h : k < out.length then (if alikeD out[k] p = true then (k : Int) else lastTo p out k) else lastTo p out k
theorem lastTo_bounds (p : PhD) (out : List PhD) : ∀ k, -1 ≤ lastTo p out k ∧ lastTo p out k < k ∧ lastTo p out k < (out.length : Int)
  | 0 => by simp [lastTo]; omega
  | k + 1 => by
    have := lastTo_bounds p out k
    unfold lastTo
    split
    · split <;> omega
    · omega
theorem lastTo_none {p : PhD} {out : List PhD} : ∀ k, (∀ x ∈ out, alikeD p x = false) → lastTo p out k = -1
  | 0, _ => rfl
  | k + 1, h => by
    unfold lastTo
    split
    · rename_i hk
      rw [alikeD_symm, h _ (List.getElem_mem hk)]
      simpa using lastTo_none k h
    · exact lastTo_none k h
theorem idx_spec {α : Type} {f : α → Bool} : ∀ (l : List α) (k : Nat), (idxFrom f k l = -1 ∧ ∀ x ∈ l, f x = false) ∨ ∃ i, ∃ h : i < l.length, idxFrom f k l = ((k + i : Nat) : Int) ∧ f l[i] = true
  | [], k => .inl ⟨rfl, by simp⟩
  | y :: l, k => by
    unfold idxFrom
    split
    · rename_i hy; exact .inr ⟨0, by simp, by simp, by simpa using hy⟩
    · rename_i hy
      rcases idx_spec (f := f) l (k + 1) with ⟨h1, h2⟩ | ⟨i, hi, h1, h2⟩
      · refine .inl ⟨h1, fun x hx => ?_⟩
        rcases List.mem_cons.1 hx with rfl | hx'
        · simpa using hy
        · exact h2 x hx'
      · exact .inr ⟨i + 1, by simpa using hi, by rw [h1]; congr 1; omega, by simpa using h2⟩
theorem lastTo_only {p : PhD} {out : List PhD} (h : Apart out) {i : Nat} (hi : i < out.length) (ha : alikeD p out[i] = true) : ∀ k, i < k → lastTo p out k = i
  | 0, hk => absurd hk (by omega)
  | k + 1, hk => by
    unfold lastTo
    by_cases hki : k = i
    · subst hki; rw [dif_pos hi, alikeD_symm, ha]; simp
    · have ih := lastTo_only h hi ha k (by omega)
      split
      · rename_i hkl
        have hne : alikeD out[k] p = false := by
          rcases hb : alikeD out[k] p with _ | _
          · rfl
          · exfalso
            rw [alikeD_symm] at hb
            have h1 := alikeD_trans ha hb
            have h2 := List.pairwise_iff_getElem.1 h i k hi hkl (by omega)
            rw [h1] at h2; cases h2
        rw [hne]; simpa using ih
      · exact ih
theorem lastTo_idx {p : PhD} {out : List PhD} (h : Apart out) : lastTo p out out.length = idxFrom (alikeD p) 0 out := by
  rcases idx_spec (f := alikeD p) out 0 with ⟨h1, h2⟩ | ⟨i, hi, h1, h2⟩
  · rw [h1]; exact lastTo_none _ h2
  · rw [h1, Nat.zero_add]; exact lastTo_only h hi h2 _ hi

/-- The phrases, and whether they are valid. -/
def okD (a : PhD) : Bool := inR a.1 1 3 && inR a.2.1 1 99 && rises 1 9 a.2.2.1 && inR a.2.2.2 0 999999
theorem ok_okD (x : Ph) : x.ok = okD x.ph := rfl
def goodD (l : List PhD) : Bool := decide (l.length ≤ 10) && l.all okD
theorem good_goodD (l : List Ph) : goodPhs l = goodD (l.map Ph.ph) := by
  unfold goodPhs goodD
  rw [List.length_map, List.all_map]; rfl
/-- What MergeAlike answers. -/
def mergeA (l : List PhD) : List PhD × Bool := if goodD l = true then (if goodD (mergeD l) = true then (mergeD l, true) else ([], false)) else ([], false)

theorem rises_len9 {lo hi : Int} : ∀ {l : List Int} {n : Nat} {p : Int}, riseFrom lo hi (n + 1) p l = true → lo ≤ p → (l.length : Int) ≤ hi - p ∨ l = []
  | [], _, _, _, _ => .inr rfl
  | x :: l, n, p, h, hp => by
    simp only [riseFrom, Bool.and_eq_true, inR_iff, Bool.or_eq_true, decide_eq_true_eq] at h
    obtain ⟨⟨⟨h1, h2⟩, h3⟩, h4⟩ := h
    have h5 : p < x := by omega
    left
    rcases rises_len9 h4 (by omega) with h6 | h6
    · simp only [List.length_cons]; omega
    · rw [h6]; simp; omega
theorem faults9 {l : List Int} (h : rises 1 9 l = true) : l.length ≤ 9 := by
  cases l with
  | nil => simp
  | cons x l =>
    unfold rises at h
    simp only [riseFrom, Bool.and_eq_true, inR_iff] at h
    rcases rises_len9 h.2 (by omega) with h1 | h1
    · simp only [List.length_cons]; omega
    · rw [h1]; simp
/-- Bounds while merging. -/
def Slim (n : Nat) (l : List PhD) : Prop := l.length ≤ n ∧ ∀ q ∈ l, 0 ≤ q.2.1 ∧ q.2.1 ≤ 99 * (n : Int) ∧ q.2.2.1.length ≤ 9
theorem slim_add {c : Int} {b : Int} (hc : 0 ≤ c ∧ c ≤ 99) : ∀ (i : Nat) (l : List PhD), (∀ q ∈ l, 0 ≤ q.2.1 ∧ q.2.1 ≤ b ∧ q.2.2.1.length ≤ 9) → ∀ q ∈ addAt c i l, 0 ≤ q.2.1 ∧ q.2.1 ≤ b + 99 ∧ q.2.2.1.length ≤ 9
  | i, [], _, q, hq => by cases i <;> simp [addAt] at hq
  | 0, x :: l, h, q, hq => by
    simp only [addAt, List.mem_cons] at hq
    rcases hq with rfl | hq
    · have := h x (List.mem_cons_self ..); simp only; omega
    · have := h q (List.mem_cons_of_mem _ hq); omega
  | i + 1, x :: l, h, q, hq => by
    simp only [addAt, List.mem_cons] at hq
    rcases hq with rfl | hq
    · have := h q (List.mem_cons_self ..); omega
    · exact slim_add hc i l (fun y hy => h y (List.mem_cons_of_mem _ hy)) q hq
theorem Slim.put {n : Nat} {l : List PhD} (h : Slim n l) {p : PhD} (hc : 0 ≤ p.2.1 ∧ p.2.1 ≤ 99) (hf : p.2.2.1.length ≤ 9) : Slim (n + 1) (putD l p) := by
  obtain ⟨h1, h2⟩ := h
  unfold putD
  split
  · refine ⟨by simp; omega, fun q hq => ?_⟩
    rcases List.mem_append.1 hq with hq | hq
    · have := h2 q hq; omega
    · rw [List.mem_singleton] at hq; subst hq; omega
  · refine ⟨by rw [addAt_len]; omega, fun q hq => ?_⟩
    have := slim_add hc _ l h2 q hq
    omega
theorem putD_new {out : List PhD} {p : PhD} (h : idxFrom (alikeD p) 0 out < 0) : putD out p = out ++ [p] := by unfold putD; rw [if_pos h]
theorem putD_old {out : List PhD} {p : PhD} {i : Nat} (h : idxFrom (alikeD p) 0 out = i) : putD out p = addAt p.2.1 i out := by unfold putD; rw [if_neg (by omega), h, Int.toNat_natCast]
theorem addAt_split {c : Int} : ∀ (i : Nat) (l : List PhD) (h : i < l.length), addAt c i l = l.take i ++ (l[i].1, l[i].2.1 + c, l[i].2.2) :: l.drop (i + 1)
  | 0, q :: l, _ => by simp [addAt]
  | i + 1, q :: l, h => by simp only [addAt, List.take_succ_cons, List.cons_append, List.getElem_cons_succ, List.drop_succ_cons]; rw [addAt_split i l (by simpa using h)]
theorem fsum_le9 : ∀ m : List Ph, (∀ x ∈ m, x.f.length ≤ 9) → fsum m ≤ 9 * m.length
  | [], _ => by simp [fsum]
  | x :: m, h => by
    have h1 := h x (List.mem_cons_self ..)
    have h2 := fsum_le9 m fun y hy => h y (List.mem_cons_of_mem _ hy)
    simp only [fsum, List.length_cons]; omega
theorem need_goodD {m : List Ph} {R : List PhD} (hm : m.map Ph.ph = R) (h : goodD R = true) : need m ≤ 1048576 := by
  subst hm
  unfold goodD at h
  simp only [Bool.and_eq_true, List.length_map] at h
  have h1 := of_decide_eq_true h.1
  have h2 := fsum_le9 m fun x hx => by
    have := List.all_eq_true.1 h.2 x.ph (List.mem_map.2 ⟨x, hx, rfl⟩)
    unfold okD at this
    simp only [Bool.and_eq_true] at this
    exact faults9 this.1.2
  unfold need; omega
theorem mergeA_good (l : List PhD) : goodD (mergeA l).1 = true := by
  unfold mergeA
  split
  · split
    · assumption
    · rfl
  · rfl
end Go.Proofs.Ytchkjiadnackaaa

/- Rows of phrases of the call's own. -/
namespace Go.Proofs.Ytchkjiadnackaaa
open Go.RowKit

theorem OwnS.big {w : World} {B : Nat} {t : TypeId} {k : Nat} {A : Option Addr} {n : Nat} {cs : List Value} (h : OwnS w B t k A n cs) : n ≤ 9223372036854775807 := h.2.1
theorem OwnS.below' {w w' : World} {B : Nat} {t : TypeId} {k : Nat} {A : Option Addr} {n : Nat} {cs : List Value} (h : OwnS w B t k A n cs) (hb : Below w.heap.size w w') : OwnS w' B t k A n cs := h.then hb
theorem ownsRow_below {w w' : World} {B : Nat} {e : TypeId} {k : Nat} {v : Value} {n : Nat} {xs : List Value} (h : w.ownsRow B e k v n xs) (hb : Below w.heap.size w w') : w'.ownsRow B e k v n xs := by
  obtain ⟨hl, h0 | ⟨g, cap, cur, hv, hg, hh, h1, h2, h3, h4⟩⟩ := h
  · exact ⟨hl, .inl h0⟩
  · have hlt : g < w.heap.size := by
      rcases Nat.lt_or_ge g w.heap.size with hlt | hge
      · exact hlt
      · rw [Array.getElem?_eq_none hge] at hh; cases hh
    exact ⟨hl, .inr ⟨g, cap, cur, hv, hg, (hb.block g hlt).trans hh, h1, h2, h3, h4⟩⟩
/-- Rows of other types lie elsewhere. -/
theorem ownsRow_far {w : World} {B : Nat} {e t : TypeId} {k : Nat} {v : Value} {n : Nat} {xs cs : List Value} (h : w.ownsRow B e k v n xs) {g : Nat} (hg : Lies w g t cs) (hne : e ≠ t) : some g ≠ v.ownBlock := by
  obtain ⟨_, ⟨rfl, _⟩ | ⟨g', cap, cur, rfl, _, hh, _⟩⟩ := h
  · simp [Value.ownBlock]
  · intro he
    simp only [Value.ownBlock, Option.some.injEq] at he
    subst he
    unfold Lies at hg
    rw [hg] at hh
    injection hh with hh; injection hh with _ h2; exact hne h2.symm
theorem OwnS.grown {w w' : World} {B : Nat} {t : TypeId} {k : Nat} {A : Option Addr} {n : Nat} {cs : List Value} (h : OwnS w B t k A n cs) {e : TypeId} {B' k' n' : Nat} {v : Value} {xs : List Value} (ho : w.ownsRow B' e k' v n' xs) (hne : e ≠ t) (hg : w.grownBy w' v.ownBlock) : OwnS w' B t k A n cs := by
  obtain ⟨hl, hn, h0 | ⟨g', rest, hA, hg', hh⟩⟩ := h
  · exact ⟨hl, hn, .inl h0⟩
  · exact ⟨hl, hn, .inr ⟨g', rest, hA, hg', hh.kept hg (ownsRow_far ho hh hne)⟩⟩
theorem OwnS.lt_ {w : World} {B : Nat} {t : TypeId} {k : Nat} {A : Option Addr} {n : Nat} {cs : List Value} (h : OwnS w B t k A n cs) {g : Addr} (hA : A = some g) : B ≤ g.block ∧ g.block < w.heap.size := by
  obtain ⟨_, _, ⟨h0, _⟩ | ⟨g', rest, hA', hg', hh⟩⟩ := h
  · rw [h0] at hA; cases hA
  · rw [hA'] at hA; injection hA with hA; subst hA; exact ⟨hg', hh.lt⟩

/-- A row of phrases of the call's own; the faults of each its own too. -/
structure RowPh (w : World) (B : Nat) (v : Value) (l : List Ph) : Prop where
  row : w.ownsRow B 42 4 v l.length (l.flatMap Ph.enc)
  fs : ∀ x ∈ l, OwnS w B 3 1 x.A x.f.length (encIs x.f)
  nd : l.Pairwise fun x y => x.A = none ∨ x.A ≠ y.A
theorem ne_types : 42 ≠ 3 := by decide
theorem RowPh.nil (w : World) (B : Nat) : RowPh w B (.slice none 0 0) [] := ⟨World.ownsRow_nil _ _ _ _, by simp, List.Pairwise.nil⟩
theorem RowPh.below {w w' : World} {B : Nat} {v : Value} {l : List Ph} (h : RowPh w B v l) (hb : Below w.heap.size w w') : RowPh w' B v l :=
  ⟨ownsRow_below h.row hb, fun x hx => (h.fs x hx).then hb, h.nd⟩
theorem ownsRow_lower {w : World} {B B' : Nat} {e : TypeId} {k : Nat} {v : Value} {n : Nat} {xs : List Value} (h : w.ownsRow B e k v n xs) (hB : B' ≤ B) : w.ownsRow B' e k v n xs := by
  obtain ⟨hl, h0 | ⟨g, cap, cur, hv, hg, hh⟩⟩ := h
  · exact ⟨hl, .inl h0⟩
  · exact ⟨hl, .inr ⟨g, cap, cur, hv, Nat.le_trans hB hg, hh⟩⟩
theorem RowPh.lower {w : World} {B B' : Nat} {v : Value} {l : List Ph} (h : RowPh w B v l) (hB : B' ≤ B) : RowPh w B' v l :=
  ⟨ownsRow_lower h.row hB, fun x hx => (h.fs x hx).lower hB, h.nd⟩
theorem RowPh.reads {w : World} {B : Nat} {A : Option Addr} {c : Nat} {l : List Ph} (h : RowPh w B (.slice A l.length c) l) : PhsR w w.heap.size A l :=
  ⟨(OwnS.of h.row).reads, fun x hx => (h.fs x hx).reads⟩
theorem RowPh.form {w : World} {B : Nat} {v : Value} {l : List Ph} (h : RowPh w B v l) : ∃ A c, v = .slice A l.length c := ownsRow_slice h.row
/-- One more, whose faults are new. -/
theorem RowPh.push {w w0 w' : World} {B : Nat} {v v' : Value} {l : List Ph} {x : Ph} (h : RowPh w B v l) (hb : Below w.heap.size w w0) (hx : OwnS w0 w.heap.size 3 1 x.A x.f.length (encIs x.f)) (hB : B ≤ w.heap.size)
    (ho : w'.ownsRow B 42 4 v' (l.length + 1) (l.flatMap Ph.enc ++ x.enc)) (hg : w0.grownBy w' v.ownBlock) : RowPh w' B v' (l ++ [x]) := by
  have hr := ownsRow_below h.row hb
  refine ⟨by simpa using ho, fun y hy => ?_, ?_⟩
  · rcases List.mem_append.1 hy with hy | hy
    · exact ((h.fs y hy).then hb).grown hr ne_types hg
    · rw [List.mem_singleton] at hy; subst hy
      exact (hx.lower hB).grown hr ne_types hg
  · rw [List.pairwise_append]
    refine ⟨h.nd, List.pairwise_singleton _ _, fun a ha b hb' => ?_⟩
    rw [List.mem_singleton] at hb'; subst hb'
    cases hA : a.A with
    | none => exact .inl rfl
    | some g =>
      refine .inr fun e => ?_
      have h1 := ((h.fs a ha).lt_ hA).2
      have h2 := (hx.lt_ e.symm).1
      omega
/-- The copies of the phrase at place i. -/
def setC (i : Nat) (c : Int) (l : List Ph) : List Ph := l.modify i fun x => { x with c := c }
theorem setC_len (i : Nat) (c : Int) (l : List Ph) : (setC i c l).length = l.length := by simp [setC]
theorem setC_split {i : Nat} {c : Int} {l : List Ph} (h : i < l.length) : setC i c l = l.take i ++ { l[i] with c := c } :: l.drop (i + 1) := by
  unfold setC; rw [List.modify_eq_take_cons_drop h]
theorem flat_set {i : Nat} {c : Int} {l : List Ph} (h : i < l.length) : (l.flatMap Ph.enc).set (i * 4 + 1) (.int .i64 c) = (setC i c l).flatMap Ph.enc := by
  have e1 : l = l.take i ++ l[i] :: l.drop (i + 1) := by rw [List.getElem_cons_drop, List.take_append_drop]
  rw [setC_split h]
  have e2 : l.flatMap Ph.enc = (l.take i).flatMap Ph.enc ++ (l[i].enc ++ (l.drop (i + 1)).flatMap Ph.enc) := by
    rw [show l.flatMap Ph.enc = (l.take i ++ l[i] :: l.drop (i + 1)).flatMap Ph.enc from congrArg _ e1, List.flatMap_append, List.flatMap_cons]
  have e3 : ((l.take i).flatMap Ph.enc).length = i * 4 := by rw [flat_len Ph.enc 4 Ph.enc_len, List.length_take, Nat.min_eq_left (by omega)]
  rw [e2, List.set_append, if_neg (by omega), e3]
  simp [Ph.enc]
theorem RowPh.bump {w : World} {B g cap : Nat} {l : List Ph} {i : Nat} {c : Int} (h : RowPh w B (.slice (some ⟨g, 0, none⟩) l.length cap) l) (hi : i < l.length) : RowPh (w.setCell ⟨g, i * 4 + 1, none⟩ (.int .i64 c)) B (.slice (some ⟨g, 0, none⟩) l.length cap) (setC i c l) := by
  obtain ⟨h1, h2⟩ := h.row.stored (i * 4 + 1) (.int .i64 c)
  have hmem : ∀ {y}, y ∈ setC i c l → ∃ x ∈ l, y.A = x.A ∧ y.f = x.f := by
    intro y hy
    rw [setC_split hi] at hy
    rcases List.mem_append.1 hy with hy | hy
    · exact ⟨y, List.mem_of_mem_take hy, rfl, rfl⟩
    · rcases List.mem_cons.1 hy with rfl | hy
      · exact ⟨l[i], List.getElem_mem hi, rfl, rfl⟩
      · exact ⟨y, List.mem_of_mem_drop hy, rfl, rfl⟩
  refine ⟨by rw [flat_set hi] at h1; rw [setC_len]; exact h1, fun y hy => ?_, ?_⟩
  · obtain ⟨x, hx, e1, e2⟩ := hmem hy
    rw [e1, e2]
    exact (h.fs x hx).grown h.row ne_types h2
  · have e : (setC i c l).map Ph.A = l.map Ph.A := by
      have e1 : l = l.take i ++ l[i] :: l.drop (i + 1) := by rw [List.getElem_cons_drop, List.take_append_drop]
      rw [setC_split hi, show l.map Ph.A = (l.take i ++ l[i] :: l.drop (i + 1)).map Ph.A from congrArg _ e1]
      simp only [List.map_append, List.map_cons]
    have hp : ∀ m : List Ph, (m.Pairwise fun x y => x.A = none ∨ x.A ≠ y.A) ↔ (m.map Ph.A).Pairwise fun a b => a = none ∨ a ≠ b := fun m => by rw [List.pairwise_map]
    rw [hp, e, ← hp]; exact h.nd
theorem setC_ph {i : Nat} {c : Int} {l : List Ph} (h : i < l.length) : (setC i c l).map Ph.ph = (l.map Ph.ph).take i ++ (l[i].s, c, l[i].f, l[i].p) :: (l.map Ph.ph).drop (i + 1) := by
  rw [setC_split h]; simp [Ph.ph, List.map_take, List.map_drop]
end Go.Proofs.Ytchkjiadnackaaa

/- SortPhrases: the plain law. -/
namespace Go.Proofs.Ytchkjiadnackaaa
open Go.RowKit

/-- A phrase comes before another one. -/
def beforeD (a b : PhD) : Bool :=
  if a.1 = b.1 then (if a.2.2.1.length = b.2.2.1.length then decide (b.2.2.2 < a.2.2.2) else decide (a.2.2.1.length < b.2.2.1.length)) else decide (a.1 < b.1)
/-- The place at which x is put, from the right. -/
def posD (x : PhD) (l : List PhD) : Nat → Nat
  | 0 => 0
  | k + 1 => if beforeD x (l.getD k x) = true then posD x l k else k + 1
theorem posD_le (x : PhD) (l : List PhD) : ∀ k, posD x l k ≤ k
  | 0 => Nat.le_refl _
  | k + 1 => by rw [posD]; split; have := posD_le x l k; omega; exact Nat.le_refl _
def insD (l : List PhD) (x : PhD) : List PhD := l.take (posD x l l.length) ++ x :: l.drop (posD x l l.length)
def sortD (l : List PhD) : List PhD := l.foldl insD []
def sortA (l : List PhD) : List PhD × Bool := if goodD l = true then (sortD l, true) else ([], false)
theorem sortD_step {l : List PhD} {k : Nat} (h : k < l.length) : sortD (l.take (k + 1)) = insD (sortD (l.take k)) l[k] := by
  unfold sortD; rw [List.take_succ_eq_append_getElem h, List.foldl_append]; rfl
theorem insD_len (l : List PhD) (x : PhD) : (insD l x).length = l.length + 1 := by
  unfold insD
  have := posD_le x l l.length
  rw [List.length_append, List.length_cons, List.length_take, List.length_drop]; omega
theorem sortD_len (l : List PhD) : (sortD l).length = l.length := by
  have : ∀ (l acc : List PhD), (l.foldl insD acc).length = acc.length + l.length := by
    intro l
    induction l with
    | nil => intro acc; rfl
    | cons x l ih => intro acc; rw [List.foldl_cons, ih, insD_len, List.length_cons]; omega
  have h := this l []
  rw [List.length_nil, Nat.zero_add] at h
  exact h
theorem insD_mem {l : List PhD} {x y : PhD} (h : y ∈ insD l x) : y = x ∨ y ∈ l := by
  unfold insD at h
  rcases List.mem_append.1 h with h | h
  · exact .inr (List.mem_of_mem_take h)
  · rcases List.mem_cons.1 h with h | h
    · exact .inl h
    · exact .inr (List.mem_of_mem_drop h)
theorem sortD_mem {l : List PhD} {y : PhD} (h : y ∈ sortD l) : y ∈ l := by
  have : ∀ (l acc : List PhD), y ∈ l.foldl insD acc → y ∈ acc ∨ y ∈ l := by
    intro l
    induction l with
    | nil => intro acc h; exact .inl h
    | cons x l ih =>
      intro acc h
      rcases ih _ h with h | h
      · rcases insD_mem h with h | h
        · exact .inr (h ▸ List.mem_cons_self ..)
        · exact .inl h
      · exact .inr (List.mem_cons_of_mem _ h)
  rcases this l [] h with h | h
  · cases h
  · exact h
theorem sortA_good (l : List PhD) : goodD (sortA l).1 = true := by
  unfold sortA
  split
  · rename_i h
    unfold goodD at h ⊢
    rw [Bool.and_eq_true, decide_eq_true_eq, List.all_eq_true] at h ⊢
    simp only
    rw [sortD_len]
    exact ⟨h.1, fun x hx => h.2 x (sortD_mem hx)⟩
  · rfl
/-- In place: x stands at place j of the row. -/
def rowAt (acc : List Ph) (x : Ph) (rest : List Ph) (j : Nat) : List Ph := acc.take j ++ x :: (acc.drop j ++ rest)
theorem rowAt_len {acc rest : List Ph} {x : Ph} {j : Nat} (h : j ≤ acc.length) : (rowAt acc x rest j).length = acc.length + 1 + rest.length := by
  unfold rowAt
  rw [List.length_append, List.length_cons, List.length_append, List.length_take, List.length_drop]; omega
theorem rowAt_split {acc rest : List Ph} {x : Ph} {j : Nat} (h : j < acc.length) : rowAt acc x rest (j + 1) = acc.take j ++ acc[j] :: x :: (acc.drop (j + 1) ++ rest) ∧ rowAt acc x rest j = acc.take j ++ x :: acc[j] :: (acc.drop (j + 1) ++ rest) := by
  unfold rowAt
  constructor
  · rw [List.take_succ_eq_append_getElem h, List.append_assoc]; rfl
  · rw [List.drop_eq_getElem_cons h]; rfl
theorem rowAt_x {acc rest : List Ph} {x : Ph} {j : Nat} (h : j ≤ acc.length) : (rowAt acc x rest j)[j]? = some x := by
  unfold rowAt
  have e : (acc.take j).length = j := by rw [List.length_take]; omega
  rw [List.getElem?_append_right (by omega), e, Nat.sub_self]; rfl
theorem rowAt_y {acc rest : List Ph} {x : Ph} {j : Nat} (h : j < acc.length) : (rowAt acc x rest (j + 1))[j]? = some acc[j] := by
  unfold rowAt
  rw [List.getElem?_append_left (by rw [List.length_take]; omega), List.getElem?_take, if_pos (by omega), List.getElem?_eq_getElem h]
theorem pos_step {acc : List Ph} {x : Ph} {j : Nat} (h : j < acc.length) : posD x.ph (acc.map Ph.ph) (j + 1) = if beforeD x.ph acc[j].ph = true then posD x.ph (acc.map Ph.ph) j else j + 1 := by
  rw [posD]
  have : (acc.map Ph.ph).getD j x.ph = acc[j].ph := by
    rw [List.getD_eq_getElem?_getD, List.getElem?_map, List.getElem?_eq_getElem h]; rfl
  rw [this]
/-- Two phrases of a row change places. -/
theorem RowPh.swapped {w w' : World} {B g cap n : Nat} {a b : List Ph} {x y : Ph} (h : RowPh w B (.slice (some ⟨g, 0, none⟩) n cap) (a ++ y :: x :: b)) (ho : w'.ownsRow B 42 4 (.slice (some ⟨g, 0, none⟩) n cap) (a ++ x :: y :: b).length ((a ++ x :: y :: b).flatMap Ph.enc)) (hg : w.grownBy w' (some g)) : RowPh w' B (.slice (some ⟨g, 0, none⟩) n cap) (a ++ x :: y :: b) := by
  have hp : ∀ z, z ∈ a ++ x :: y :: b → z ∈ a ++ y :: x :: b := fun z hz => by
    simp only [List.mem_append, List.mem_cons] at hz ⊢
    rcases hz with hz | hz | hz | hz
    · exact .inl hz
    · exact .inr (.inr (.inl hz))
    · exact .inr (.inl hz)
    · exact .inr (.inr (.inr hz))
  refine ⟨ho, fun z hz => (h.fs z (hp z hz)).grown h.row ne_types hg, ?_⟩
  have hn := h.nd
  rw [List.pairwise_append, List.pairwise_cons, List.pairwise_cons] at hn ⊢
  obtain ⟨n1, ⟨n2, n3, n4⟩, n5⟩ := hn
  have sym : ∀ {u v : Ph}, (u.A = none ∨ u.A ≠ v.A) → (v.A = none ∨ v.A ≠ u.A) := fun {u v} h => by
    rcases h with h | h
    · by_cases e : v.A = none
      · exact .inl e
      · exact .inr (by rw [h]; exact e)
    · exact .inr (Ne.symm h)
  refine ⟨n1, ⟨fun z hz => ?_, fun z hz => n2 z (List.mem_cons_of_mem _ hz), n4⟩, fun u hu v hv => n5 u hu v ?_⟩
  · rcases List.mem_cons.1 hz with rfl | hz
    · exact sym (n2 x (List.mem_cons_self ..))
    · exact n3 z hz
  · simp only [List.mem_cons] at hv ⊢
    rcases hv with hv | hv | hv
    · exact .inr (.inl hv)
    · exact .inl hv
    · exact .inr (.inr hv)
end Go.Proofs.Ytchkjiadnackaaa

/- A region whose order is drawn, by one fact on each operation: no orders are walked. -/
namespace Go.Proofs.Ytchkjiadnackaaa
open Go.RowKit

section
variable {P : Program} {ops : Array Oper} {Q : Exit → Act → World → Prop} {md : Region.Mode}

/-- The values vs in the temporaries of the operations. -/
def fillOps (vs : Nat → Value) : List Oper → Nat → Act → Act
  | [], _, a => a
  | o :: l, k, a => fillOps vs l (k + 1) (a.put o.dst (vs k))
def dstsApart : List Oper → Bool
  | [] => true
  | o :: l => l.all (fun p => match o.dst with | none => true | some d => p.dst != some d) && dstsApart l
def upd (vs : Nat → Value) (i : Nat) (v : Value) : Nat → Value := fun j => if j = i then v else vs j

theorem fillOps_put (vs : Nat → Value) {d : Option Tmp} {v : Value} : ∀ (l : List Oper) (k : Nat) (a : Act), (∀ p ∈ l, ∀ t, d = some t → p.dst ≠ some t) → (fillOps vs l k a).put d v = fillOps vs l k (a.put d v)
  | [], _, _, _ => rfl
  | o :: l, k, a, h => by
    unfold fillOps
    rw [fillOps_put vs l (k + 1) _ (fun p hp => h p (List.mem_cons_of_mem _ hp))]
    rw [Act.put_comm a (vs k) v (x := o.dst) (y := d) (fun t ht hd => h o (by simp) t hd ht)]
theorem fillOps_congr {vs vs' : Nat → Value} : ∀ (l : List Oper) (k : Nat) (a : Act), (∀ j, k ≤ j → vs j = vs' j) → fillOps vs l k a = fillOps vs' l k a
  | [], _, _, _ => rfl
  | o :: l, k, a, h => by
    unfold fillOps
    rw [h k (Nat.le_refl _), fillOps_congr l (k + 1) _ (fun j hj => h j (by omega))]
theorem Act.put_put (a : Act) (d : Option Tmp) (u v : Value) : (a.put d u).put d v = a.put d v := by
  cases d with
  | none => rfl
  | some d =>
    simp only [Act.put]
    congr 1
    apply Array.ext (by simp)
    intro i h1 h2
    simp
theorem fillOps_upd : ∀ (l : List Oper) (k : Nat) (a : Act) (vs : Nat → Value) (i : Nat) (o : Oper) (v : Value), dstsApart l = true → l[i]? = some o →
    (fillOps vs l k a).put o.dst v = fillOps (upd vs (k + i) v) l k a
  | [], _, _, _, _, _, _, _, h => by simp at h
  | p :: l, k, a, vs, 0, o, v, hd, h => by
    simp only [List.getElem?_cons_zero, Option.some.injEq] at h; subst h
    simp only [dstsApart, Bool.and_eq_true, List.all_eq_true] at hd
    unfold fillOps
    rw [fillOps_put vs l (k + 1) _ (fun q hq t ht => by
      have := hd.1 q hq; rw [ht] at this; simpa using this), Act.put_put]
    rw [fillOps_congr (vs := vs) (vs' := upd vs (k + 0) v) l (k + 1) _ (fun j hj => by unfold upd; rw [if_neg (by omega)])]
    congr 2
    simp [upd]
  | p :: l, k, a, vs, i + 1, o, v, hd, h => by
    simp only [dstsApart, Bool.and_eq_true] at hd
    unfold fillOps
    rw [fillOps_upd l (k + 1) _ vs i o v hd.2 (by simpa using h)]
    have : k + 1 + i = k + (i + 1) := by omega
    rw [this]
    congr 2
    unfold upd; rw [if_neg (by omega)]
theorem Act.put_self (a : Act) (t : Tmp) (u : Value) : a.put (some t) (a.tmps.getD t u) = a := by
  simp only [Act.put]
  obtain ⟨tmps, defers⟩ := a
  congr 1
  apply Array.ext_getElem?
  intro i
  by_cases e : t = i
  · subst e
    by_cases h2 : t < tmps.size
    · simp [h2]
    · simp [h2]
  · rw [Array.getElem?_setIfInBounds_ne e]
theorem fillOps_self (vs : Nat → Value) : ∀ (l : List Oper) (k : Nat) (a : Act), (∀ i o t, l[i]? = some o → o.dst = some t → vs (k + i) = a.tmps.getD t undef) → fillOps vs l k a = a
  | [], _, _, _ => rfl
  | o :: l, k, a, h => by
    unfold fillOps
    have e : a.put o.dst (vs k) = a := by
      cases hd : o.dst with
      | none => rfl
      | some t =>
        have h0 := h 0 o t (by simp) hd
        rw [Nat.add_zero] at h0
        rw [h0, Act.put_self]
    rw [e]
    exact fillOps_self vs l (k + 1) a (fun i o' t h1 h2 => by
      have := h (i + 1) o' t (by simpa using h1) h2
      rwa [show k + (i + 1) = k + 1 + i by omega] at this)

/-- j comes ahead of k, whatever order is drawn. -/
def ahead (md : Region.Mode) (ops : Array Oper) : Nat → Nat → Nat → Bool
  | 0, _, _ => false
  | fuel + 1, k, j => match ops[k]? with
    | none => false
    | some o => o.after.any fun e => Region.binds md e && (e.on == j || ahead md ops fuel e.on j)
def edgesDown (md : Region.Mode) (ops : Array Oper) : Bool :=
  (List.range ops.size).all fun k => match ops[k]? with
    | none => true
    | some o => o.after.all fun e => !Region.binds md e || decide (e.on < k)

def Closed (md : Region.Mode) (ops : Array Oper) (listed : Array Bool) : Prop :=
  ∀ j o, ops[j]? = some o → listed.getD j false = true → ∀ e ∈ o.after, Region.binds md e = true → listed.getD e.on false = true

theorem ahead_listed {listed : Array Bool} (hc : Closed md ops listed) : ∀ (fuel k j : Nat), (∀ o, ops[k]? = some o → ∀ e ∈ o.after, Region.binds md e = true → listed.getD e.on false = true) → ahead md ops fuel k j = true → listed.getD j false = true
  | 0, _, _, _, h => by simp [ahead] at h
  | fuel + 1, k, j, hk, h => by
    unfold ahead at h
    cases ho : ops[k]? with
    | none => simp [ho] at h
    | some o =>
      simp only [ho] at h
      obtain ⟨e, he, hb⟩ := Array.any_eq_true'.1 h
      simp only [Bool.and_eq_true, Bool.or_eq_true, beq_iff_eq] at hb
      have h1 := hk o ho e he hb.1
      rcases hb.2 with h2 | h2
      · rw [← h2]; exact h1
      · exact ahead_listed hc fuel e.on j (fun o' ho' => hc e.on o' ho' h1) h2

/-- The walk: a fact R on each operation's value; the facts of those that come ahead are at hand. -/
def wpFacts (P : Program) (ops : Array Oper) (Q : Exit → Act → World → Prop) (C : World → Prop) (T : World → World → Prop) (fr : (Nat → Value) → Act) : Nat → List Oper → List (Value → World → Prop) → Prop
  | _, [], Rs => ∀ vs w, C w → (∀ (j : Nat) (R : Value → World → Prop), Rs[j]? = some R → R (vs j) w) → Q .normal (fr vs) w
  | k, o :: l, Rs => ∃ R : Value → World → Prop, (∀ v w w', R v w → T w w' → R v w') ∧
    (∀ vs w, C w → (∀ (j : Nat) (R' : Value → World → Prop), ahead .any ops ops.size k j = true → Rs[j]? = some R' → R' (vs j) w) → ∀ K : Act → World → Prop, (∀ a' v w', a' = (fr vs).put o.dst v → R v w' → C w' → T w w' → K a' w') →
      if Region.wanted o (yielded ops (fr vs).tmps) = true then o.wp P (fr vs) w K Q else K ((fr vs).put o.dst undef) w) ∧
    wpFacts P ops Q C T fr (k + 1) l (Rs ++ [R])

/-- What the walk gives: the facts, one for each operation. -/
theorem wpFacts_all {C : World → Prop} {T : World → World → Prop} {fr : (Nat → Value) → Act} : ∀ (l : List Oper) (k : Nat) (Rs : List (Value → World → Prop)), (∀ i, l[i]? = ops[k + i]?) → Rs.length = k →
    (∀ (j : Nat) (R : Value → World → Prop), Rs[j]? = some R → ∀ v w w', R v w → T w w' → R v w') →
    (∀ (j : Nat) (o : Oper) (R : Value → World → Prop), j < k → ops[j]? = some o → Rs[j]? = some R → ∀ vs w, C w → (∀ (j' : Nat) (R' : Value → World → Prop), ahead .any ops ops.size j j' = true → j' < j → Rs[j']? = some R' → R' (vs j') w) → ∀ K : Act → World → Prop, (∀ a' v w', a' = (fr vs).put o.dst v → R v w' → C w' → T w w' → K a' w') →
      if Region.wanted o (yielded ops (fr vs).tmps) = true then o.wp P (fr vs) w K Q else K ((fr vs).put o.dst undef) w) →
    wpFacts P ops Q C T fr k l Rs →
    ∃ Rs' : List (Value → World → Prop), Rs'.length = k + l.length ∧ (∀ (j : Nat) (R : Value → World → Prop), Rs'[j]? = some R → ∀ v w w', R v w → T w w' → R v w') ∧
    (∀ (j : Nat) (o : Oper) (R : Value → World → Prop), ops[j]? = some o → Rs'[j]? = some R → ∀ vs w, C w → (∀ (j' : Nat) (R' : Value → World → Prop), ahead .any ops ops.size j j' = true → j' < j → Rs'[j']? = some R' → R' (vs j') w) → ∀ K : Act → World → Prop, (∀ a' v w', a' = (fr vs).put o.dst v → R v w' → C w' → T w w' → K a' w') →
      if Region.wanted o (yielded ops (fr vs).tmps) = true then o.wp P (fr vs) w K Q else K ((fr vs).put o.dst undef) w) ∧
    (∀ vs w, C w → (∀ (j : Nat) (R : Value → World → Prop), Rs'[j]? = some R → R (vs j) w) → Q .normal (fr vs) w)
  | [], k, Rs, hl, hlen, hst, hop, h => by
    refine ⟨Rs, by simpa using hlen, hst, fun j o R ho hR => hop j o R ?_ ho hR, h⟩
    rw [← hlen]; exact (List.getElem?_eq_some_iff.1 hR).1
  | o :: l, k, Rs, hl, hlen, hst, hop, h => by
    obtain ⟨R, hRs, hRo, hrest⟩ := h
    have ho : ops[k]? = some o := by simpa using (hl 0).symm
    have hold : ∀ j, j < k → (Rs ++ [R])[j]? = Rs[j]? := fun j hj => List.getElem?_append_left (by omega)
    have hnew : (Rs ++ [R])[k]? = some R := by rw [List.getElem?_append_right (by omega), hlen]; simp
    obtain ⟨Rs', h1, h2, h3, h4⟩ := wpFacts_all l (k + 1) (Rs ++ [R]) (fun i => by have := hl (i + 1); simpa [Nat.add_assoc, Nat.add_comm 1 i] using this) (by simp [hlen])
      (fun j R' hR' => by
        rcases Nat.lt_trichotomy j k with hj | hj | hj
        · rw [hold j hj] at hR'; exact hst j R' hR'
        · subst hj; rw [hnew] at hR'; cases hR'; exact hRs
        · rw [List.getElem?_eq_none (by simp [hlen]; omega)] at hR'; cases hR')
      (fun j o' R' hj ho' hR' vs w hC hB K hK => by
        rcases Nat.lt_or_ge j k with hjk | hjk
        · rw [hold j hjk] at hR'
          exact hop j o' R' hjk ho' hR' vs w hC (fun j' R'' ha hlt h'' => hB j' R'' ha hlt (by rw [hold j' (by omega)]; exact h'')) K hK
        · obtain rfl : j = k := by omega
          rw [ho] at ho'; cases ho'
          rw [hnew] at hR'; cases hR'
          refine hRo vs w hC (fun j' R'' ha h'' => ?_) K hK
          have hlt : j' < Rs.length := (List.getElem?_eq_some_iff.1 h'').1
          exact hB j' R'' ha (by omega) (by rw [hold j' (by omega)]; exact h''))
      hrest
    exact ⟨Rs', by rw [h1]; simp; omega, h2, h3, h4⟩

theorem listed_ready {listed : Array Bool} (hdn : edgesDown .any ops = true) (hsz : listed.size = ops.size) (hr : Region.ready .any ops listed = []) : ∀ j, j < ops.size → listed.getD j false = true := by
  intro j
  induction j using Nat.strongRecOn with
  | ind j ih =>
    intro hj
    rcases hb : listed.getD j false with _ | _
    · exfalso
      have hmem : j ∈ Region.ready .any ops listed := by
        rw [mem_ready]
        refine ⟨?_, ops[j], Array.getElem?_eq_getElem hj, fun e he hbd => ?_⟩
        · have : j < listed.size := by omega
          simp only [Array.getD, this, ↓reduceDIte] at hb ⊢
          exact hb
        · have h1 := List.all_eq_true.1 hdn j (List.mem_range.2 hj)
          rw [Array.getElem?_eq_getElem hj] at h1
          have h2 := Array.all_eq_true_iff_forall_mem.1 h1 e he
          simp only [hbd, Bool.not_true, Bool.false_or, decide_eq_true_eq] at h2
          exact ih e.on h2 (by omega)
      rw [hr] at hmem; cases hmem
    · rfl

/-- How many have not come up. -/
def unlisted (n : Nat) (listed : Array Bool) : Nat := ((List.range n).filter fun j => !listed.getD j false).length
theorem unlisted_set {n i : Nat} {listed : Array Bool} (hi : i < n) (hs : listed.size = n) (h : listed.getD i false = false) : unlisted n (listed.setIfInBounds i true) < unlisted n listed := by
  unfold unlisted
  have e : ∀ l : List Nat, (l.filter fun j => !(listed.setIfInBounds i true).getD j false) = (l.filter fun j => !listed.getD j false).filter (fun j => j != i) := by
    intro l
    rw [List.filter_filter]
    apply List.filter_congr
    intro j _
    by_cases hji : j = i
    · subst hji; have : j < listed.size := by omega
      simp [this]
    · rw [getD_set_ne false (Ne.symm hji)]; simp [hji]
  rw [e]
  have hm : i ∈ (List.range n).filter fun j => !listed.getD j false := List.mem_filter.2 ⟨List.mem_range.2 hi, by rw [h]; rfl⟩
  generalize (List.range n).filter (fun j => !listed.getD j false) = l at hm
  clear e
  induction l with
  | nil => cases hm
  | cons x l ih =>
    rw [List.filter_cons]
    split
    · rename_i hx
      rcases List.mem_cons.1 hm with h' | h'
      · simp [h'] at hx
      · simpa using ih h'
    · exact Nat.lt_succ_of_le (List.length_filter_le _ _)

theorem wpAny_facts {C : World → Prop} {T : World → World → Prop} {a₀ : Act} (hap : dstsApart ops.toList = true) (hdn : edgesDown .any ops = true) (Rs : List (Value → World → Prop)) (hlen : Rs.length = ops.size)
    (hst : ∀ (j : Nat) (R : Value → World → Prop), Rs[j]? = some R → ∀ v w w', R v w → T w w' → R v w')
    (hop : ∀ (j : Nat) (o : Oper) (R : Value → World → Prop), ops[j]? = some o → Rs[j]? = some R → ∀ vs w, C w → (∀ (j' : Nat) (R' : Value → World → Prop), ahead .any ops ops.size j j' = true → j' < j → Rs[j']? = some R' → R' (vs j') w) → ∀ K : Act → World → Prop, (∀ a' v w', a' = (fillOps vs ops.toList 0 a₀).put o.dst v → R v w' → C w' → T w w' → K a' w') →
      if Region.wanted o (yielded ops (fillOps vs ops.toList 0 a₀).tmps) = true then o.wp P (fillOps vs ops.toList 0 a₀) w K Q else K ((fillOps vs ops.toList 0 a₀).put o.dst undef) w)
    (hend : ∀ vs w, C w → (∀ (j : Nat) (R : Value → World → Prop), Rs[j]? = some R → R (vs j) w) → Q .normal (fillOps vs ops.toList 0 a₀) w) :
    ∀ (fuel : Nat) (listed : Array Bool) (vs : Nat → Value) (w : World), listed.size = ops.size → unlisted ops.size listed ≤ fuel → Closed .any ops listed → C w → (∀ (j : Nat) (R : Value → World → Prop), listed.getD j false = true → Rs[j]? = some R → R (vs j) w) →
      wpAny P .any ops Q fuel listed (fillOps vs ops.toList 0 a₀) w := by
  have hfin : ∀ (listed : Array Bool) (vs : Nat → Value) (w : World), listed.size = ops.size → C w → (∀ (j : Nat) (R : Value → World → Prop), listed.getD j false = true → Rs[j]? = some R → R (vs j) w) → Region.ready .any ops listed = [] → Q .normal (fillOps vs ops.toList 0 a₀) w :=
    fun listed vs w hs hC hR hr => hend vs w hC fun j R hj => hR j R (listed_ready hdn hs hr j (by rw [← hlen]; exact (List.getElem?_eq_some_iff.1 hj).1)) hj
  intro fuel
  induction fuel with
  | zero =>
    intro listed vs w hs hu hcl hC hR
    have hr : Region.ready .any ops listed = [] := by
      rw [List.eq_nil_iff_forall_not_mem]
      intro j hj
      obtain ⟨h0, o, ho, _⟩ := mem_ready.1 hj
      have hjs : j < ops.size := (Array.getElem?_eq_some_iff.1 ho).1
      have : unlisted ops.size (listed.setIfInBounds j true) < unlisted ops.size listed := unlisted_set hjs hs (by
        have : j < listed.size := by omega
        simp only [Array.getD, this, ↓reduceDIte] at h0 ⊢; exact h0)
      omega
    exact ⟨hr, hfin listed vs w hs hC hR hr⟩
  | succ fuel ih =>
    intro listed vs w hs hu hcl hC hR
    refine ⟨hfin listed vs w hs hC hR, fun i hi => ?_⟩
    obtain ⟨h0, o, ho, hall⟩ := mem_ready.1 hi
    have hisz : i < ops.size := (Array.getElem?_eq_some_iff.1 ho).1
    have hil : i < listed.size := by omega
    have h0' : listed.getD i false = false := by simp only [Array.getD, hil, ↓reduceDIte] at h0 ⊢; exact h0
    obtain ⟨R, hRi⟩ : ∃ R, Rs[i]? = some R := ⟨Rs[i]'(by omega), List.getElem?_eq_getElem (by omega)⟩
    have hstep := hop i o R ho hRi vs w hC (fun j' R' ha _ hR' => hR j' R' (ahead_listed hcl ops.size i j' (fun o' ho' => by rw [ho] at ho'; cases ho'; exact hall) ha) hR')
      (wpAny P .any ops Q fuel (listed.setIfInBounds i true)) (fun a' v w' ha hRv hC' hT => by
        rw [ha, fillOps_upd ops.toList 0 a₀ vs i o v hap (by simpa using ho), Nat.zero_add]
        refine ih _ _ _ (by simpa using hs) ?_ ?_ hC' ?_
        · have := unlisted_set hisz hs h0'; omega
        · intro j oj hoj hj e he hb
          by_cases hji : j = i
          · subst hji; rw [ho] at hoj; cases hoj; exact getD_set_true (hall e he hb)
          · rw [getD_set_ne false (Ne.symm hji)] at hj; exact getD_set_true (hcl j oj hoj hj e he hb)
        · intro j R' hj hR'
          by_cases hji : j = i
          · subst hji; rw [hRi] at hR'; cases hR'; simpa [upd] using hRv
          · rw [getD_set_ne false (Ne.symm hji)] at hj
            have := hst j R' hR' _ _ _ (hR j R' hj hR') hT
            simpa [upd, hji] using this)
    unfold wpOp
    simp only [ho]
    split
    · rename_i hw; rw [if_pos hw] at hstep; exact .inl hstep
    · rename_i hw; rw [if_neg hw] at hstep; exact hstep

/-- The region. -/
theorem wp_region_facts {id : Nat} {a : Act} {w : World} {l : List Oper} (C : World → Prop) (T : World → World → Prop) (hm : P.follows .mixedOrders = true) (hap : dstsApart l = true) (hdn : edgesDown .any l.toArray = true)
    (hC : C w.drew) (h : wpFacts P l.toArray Q C T (fun vs => fillOps vs l 0 a) 0 l []) : (Code.region id l.toArray true).wp P Q a w := by
  refine wp_region_any hm ?_
  obtain ⟨Rs, h1, h2, h3, h4⟩ := wpFacts_all (ops := l.toArray) l 0 [] (by simp) rfl (by simp) (by simp) h
  obtain ⟨vs, hvs⟩ : ∃ vs : Nat → Value, ∀ i o t, l[i]? = some o → o.dst = some t → vs (0 + i) = a.tmps.getD t undef :=
    ⟨fun i => match (l[i]?).bind (·.dst) with | some t => a.tmps.getD t undef | none => undef, fun i o t hi ht => by simp [hi, ht]⟩
  have := wpAny_facts (P := P) (Q := Q) (ops := l.toArray) (C := C) (T := T) (a₀ := a) hap hdn Rs (by simpa using h1) h2 h3 h4 l.toArray.size (Array.replicate l.toArray.size false) vs w.drew (by simp)
    (Nat.le_trans (List.length_filter_le _ _) (by simp)) (fun j o hj hl => by simp [Array.getD] at hl) hC (fun j R hl => by simp [Array.getD] at hl)
  rwa [fillOps_self vs _ 0 a (by simpa using hvs)] at this

theorem wpFacts_nil {C : World → Prop} {T : World → World → Prop} {fr : (Nat → Value) → Act} {k : Nat} {Rs : List (Value → World → Prop)} (h : ∀ vs w, C w → (∀ (j : Nat) (R : Value → World → Prop), Rs[j]? = some R → R (vs j) w) → Q .normal (fr vs) w) : wpFacts P ops Q C T fr k [] Rs := h
/-- An operation with one value. -/
theorem wpFacts_val {C : World → Prop} {T : World → World → Prop} {fr : (Nat → Value) → Act} {k : Nat} {o : Oper} {l : List Oper} {Rs : List (Value → World → Prop)} (V : Value)
    (h1 : ∀ vs w, C w → (∀ (j : Nat) (R' : Value → World → Prop), ahead .any ops ops.size k j = true → Rs[j]? = some R' → R' (vs j) w) → ∀ K : Act → World → Prop, (∀ a' w', a' = (fr vs).put o.dst V → C w' → T w w' → K a' w') →
      if Region.wanted o (yielded ops (fr vs).tmps) = true then o.wp P (fr vs) w K Q else K ((fr vs).put o.dst undef) w)
    (h2 : wpFacts P ops Q C T fr (k + 1) l (Rs ++ [fun v _ => v = V])) : wpFacts P ops Q C T fr k (o :: l) Rs :=
  ⟨fun v _ => v = V, fun _ _ _ h _ => h, fun vs w hC hB K hK => h1 vs w hC hB K fun a' w' ha hC' hT => hK a' V w' ha rfl hC' hT, h2⟩
/-- An operation whose value has a property. -/
theorem wpFacts_some {C : World → Prop} {T : World → World → Prop} {fr : (Nat → Value) → Act} {k : Nat} {o : Oper} {l : List Oper} {Rs : List (Value → World → Prop)} (R : Value → World → Prop) (hR : ∀ v w w', R v w → T w w' → R v w')
    (h1 : ∀ vs w, C w → (∀ (j : Nat) (R' : Value → World → Prop), ahead .any ops ops.size k j = true → Rs[j]? = some R' → R' (vs j) w) → ∀ K : Act → World → Prop, (∀ a' v w', a' = (fr vs).put o.dst v → R v w' → C w' → T w w' → K a' w') →
      if Region.wanted o (yielded ops (fr vs).tmps) = true then o.wp P (fr vs) w K Q else K ((fr vs).put o.dst undef) w)
    (h2 : wpFacts P ops Q C T fr (k + 1) l (Rs ++ [R])) : wpFacts P ops Q C T fr k (o :: l) Rs :=
  ⟨R, hR, h1, h2⟩
end
end Go.Proofs.Ytchkjiadnackaaa

/- A region whose order is drawn: one fact on each operation, which may also speak of one operation that comes ahead; each operation has its own way to turn the world (T k). -/
namespace Go.Proofs.Ytchkjiadnackaaa
open Go.RowKit

/-- A fact on an operation's value, and on the value of one that comes ahead of it. -/
structure FactN where
  D : Nat
  R : Value → Value → World → Prop
  Br : List Nat := []
def FactN.at (f : FactN) (vs : Nat → Value) (j : Nat) (w : World) : Prop := f.R (vs f.D) (vs j) w
/-- No other operation that may come behind it turns the fact. -/
def FactN.firm (ops : Array Oper) (T : Nat → World → World → Prop) (j : Nat) (f : FactN) : Prop := ∀ i, i ≠ j → i ∉ f.Br → ahead .any ops ops.size j i = false → ∀ u v w w', f.R u v w → T i w w' → f.R u v w'
/-- The fact still stands when operation k comes. -/
def FactN.live (ops : Array Oper) (k : Nat) (f : FactN) : Bool := f.Br.all fun i => i == k || ahead .any ops ops.size i k
def FactN.fine (ops : Array Oper) (j : Nat) (f : FactN) : Prop := (∀ u u' v w, f.R u v w → f.R u' v w) ∨ ahead .any ops ops.size j f.D = true
theorem FactN.eq {V : Value} {vs : Nat → Value} {j : Nat} {w : World} (h : FactN.at ⟨0, fun _ v _ => v = V, []⟩ vs j w) : vs j = V := h
/-- What has come up when operation k comes. -/
structure Gone (ops : Array Oper) (L : Nat → Bool) (k : Nat) : Prop where
  self : L k = false
  done : ∀ j, ahead .any ops ops.size k j = true → L j = true
  open_ : ∀ j, ahead .any ops ops.size j k = true → L j = false
def Listed.but (L : Nat → Bool) (k : Nat) : Nat → Bool := fun j => if j = k then true else L j
section
variable {P : Program} {ops : Array Oper} {Q : Exit → Act → World → Prop}

/-- The walk: a fact R on each operation's value; the facts of those that come ahead are at hand. -/
def wpFactsN (P : Program) (ops : Array Oper) (Q : Exit → Act → World → Prop) (C : (Nat → Bool) → World → Prop) (T : Nat → World → World → Prop) (fr : (Nat → Value) → Act) : Nat → List Oper → List FactN → Prop
  | _, [], Rs => ∀ vs L w, (∀ j, j < ops.size → L j = true) → C L w → (∀ (j : Nat) (R : FactN), R.Br = [] → Rs[j]? = some R → R.at vs j w) → Q .normal (fr vs) w
  | k, o :: l, Rs => ∃ R : FactN, R.fine ops k ∧ R.firm ops T k ∧
    (∀ vs L w, Gone ops L k → C L w → (∀ (j : Nat) (R' : FactN), ahead .any ops ops.size k j = true → R'.live ops k = true → Rs[j]? = some R' → R'.at vs j w) → ∀ K : Act → World → Prop, (∀ a' v w', a' = (fr vs).put o.dst v → R.R (vs R.D) v w' → C (Listed.but L k) w' → T k w w' → K a' w') →
      if Region.wanted o (yielded ops (fr vs).tmps) = true then o.wp P (fr vs) w K Q else K ((fr vs).put o.dst undef) w) ∧
    wpFactsN P ops Q C T fr (k + 1) l (Rs ++ [R])

/-- What the walk gives: the facts, one for each operation. -/
theorem wpFactsN_all {C : (Nat → Bool) → World → Prop} {T : Nat → World → World → Prop} {fr : (Nat → Value) → Act} : ∀ (l : List Oper) (k : Nat) (Rs : List FactN), (∀ i, l[i]? = ops[k + i]?) → Rs.length = k →
    (∀ (j : Nat) (R : FactN), Rs[j]? = some R → R.fine ops j ∧ R.firm ops T j) →
    (∀ (j : Nat) (o : Oper) (R : FactN), j < k → ops[j]? = some o → Rs[j]? = some R → ∀ vs L w, Gone ops L j → C L w → (∀ (j' : Nat) (R' : FactN), ahead .any ops ops.size j j' = true → R'.live ops j = true → j' < j → Rs[j']? = some R' → R'.at vs j' w) → ∀ K : Act → World → Prop, (∀ a' v w', a' = (fr vs).put o.dst v → R.R (vs R.D) v w' → C (Listed.but L j) w' → T j w w' → K a' w') →
      if Region.wanted o (yielded ops (fr vs).tmps) = true then o.wp P (fr vs) w K Q else K ((fr vs).put o.dst undef) w) →
    wpFactsN P ops Q C T fr k l Rs →
    ∃ Rs' : List FactN, Rs'.length = k + l.length ∧ (∀ (j : Nat) (R : FactN), Rs'[j]? = some R → R.fine ops j ∧ R.firm ops T j) ∧
    (∀ (j : Nat) (o : Oper) (R : FactN), ops[j]? = some o → Rs'[j]? = some R → ∀ vs L w, Gone ops L j → C L w → (∀ (j' : Nat) (R' : FactN), ahead .any ops ops.size j j' = true → R'.live ops j = true → j' < j → Rs'[j']? = some R' → R'.at vs j' w) → ∀ K : Act → World → Prop, (∀ a' v w', a' = (fr vs).put o.dst v → R.R (vs R.D) v w' → C (Listed.but L j) w' → T j w w' → K a' w') →
      if Region.wanted o (yielded ops (fr vs).tmps) = true then o.wp P (fr vs) w K Q else K ((fr vs).put o.dst undef) w) ∧
    (∀ vs L w, (∀ j, j < ops.size → L j = true) → C L w → (∀ (j : Nat) (R : FactN), R.Br = [] → Rs'[j]? = some R → R.at vs j w) → Q .normal (fr vs) w)
  | [], k, Rs, hl, hlen, hst, hop, h => by
    refine ⟨Rs, by simpa using hlen, hst, fun j o R ho hR => hop j o R ?_ ho hR, h⟩
    rw [← hlen]; exact (List.getElem?_eq_some_iff.1 hR).1
  | o :: l, k, Rs, hl, hlen, hst, hop, h => by
    obtain ⟨R, hRf, hRs, hRo, hrest⟩ := h
    have ho : ops[k]? = some o := by simpa using (hl 0).symm
    have hold : ∀ j, j < k → (Rs ++ [R])[j]? = Rs[j]? := fun j hj => List.getElem?_append_left (by omega)
    have hnew : (Rs ++ [R])[k]? = some R := by rw [List.getElem?_append_right (by omega), hlen]; simp
    obtain ⟨Rs', h1, h2, h3, h4⟩ := wpFactsN_all l (k + 1) (Rs ++ [R]) (fun i => by have := hl (i + 1); simpa [Nat.add_assoc, Nat.add_comm 1 i] using this) (by simp [hlen])
      (fun j R' hR' => by
        rcases Nat.lt_trichotomy j k with hj | hj | hj
        · rw [hold j hj] at hR'; exact hst j R' hR'
        · subst hj; rw [hnew] at hR'; cases hR'; exact ⟨hRf, hRs⟩
        · rw [List.getElem?_eq_none (by simp [hlen]; omega)] at hR'; cases hR')
      (fun j o' R' hj ho' hR' vs L w hG hC hB K hK => by
        rcases Nat.lt_or_ge j k with hjk | hjk
        · rw [hold j hjk] at hR'
          exact hop j o' R' hjk ho' hR' vs L w hG hC (fun j' R'' ha hv hlt h'' => hB j' R'' ha hv hlt (by rw [hold j' (by omega)]; exact h'')) K hK
        · obtain rfl : j = k := by omega
          rw [ho] at ho'; cases ho'
          rw [hnew] at hR'; cases hR'
          refine hRo vs L w hG hC (fun j' R'' ha hv h'' => ?_) K hK
          have hlt : j' < Rs.length := (List.getElem?_eq_some_iff.1 h'').1
          exact hB j' R'' ha hv (by omega) (by rw [hold j' (by omega)]; exact h''))
      hrest
    exact ⟨Rs', by rw [h1]; simp; omega, h2, h3, h4⟩

theorem getD_set_self {i : Nat} {listed : Array Bool} (h : i < listed.size) : (listed.setIfInBounds i true).getD i false = true := by simp [h]
theorem wpAny_factsN {C : (Nat → Bool) → World → Prop} {T : Nat → World → World → Prop} {a₀ : Act} (hap : dstsApart ops.toList = true) (hdn : edgesDown .any ops = true) (Rs : List FactN) (hlen : Rs.length = ops.size)
    (hst : ∀ (j : Nat) (R : FactN), Rs[j]? = some R → R.fine ops j ∧ R.firm ops T j)
    (hop : ∀ (j : Nat) (o : Oper) (R : FactN), ops[j]? = some o → Rs[j]? = some R → ∀ vs L w, Gone ops L j → C L w → (∀ (j' : Nat) (R' : FactN), ahead .any ops ops.size j j' = true → R'.live ops j = true → j' < j → Rs[j']? = some R' → R'.at vs j' w) → ∀ K : Act → World → Prop, (∀ a' v w', a' = (fillOps vs ops.toList 0 a₀).put o.dst v → R.R (vs R.D) v w' → C (Listed.but L j) w' → T j w w' → K a' w') →
      if Region.wanted o (yielded ops (fillOps vs ops.toList 0 a₀).tmps) = true then o.wp P (fillOps vs ops.toList 0 a₀) w K Q else K ((fillOps vs ops.toList 0 a₀).put o.dst undef) w)
    (hend : ∀ vs L w, (∀ j, j < ops.size → L j = true) → C L w → (∀ (j : Nat) (R : FactN), R.Br = [] → Rs[j]? = some R → R.at vs j w) → Q .normal (fillOps vs ops.toList 0 a₀) w) :
    ∀ (fuel : Nat) (listed : Array Bool) (vs : Nat → Value) (w : World), listed.size = ops.size → unlisted ops.size listed ≤ fuel → Closed .any ops listed → C (fun j => listed.getD j false) w → (∀ (j : Nat) (R : FactN), listed.getD j false = true → (∀ i ∈ R.Br, listed.getD i false = false) → Rs[j]? = some R → R.at vs j w) →
      wpAny P .any ops Q fuel listed (fillOps vs ops.toList 0 a₀) w := by
  have hfin : ∀ (listed : Array Bool) (vs : Nat → Value) (w : World), listed.size = ops.size → C (fun j => listed.getD j false) w → (∀ (j : Nat) (R : FactN), listed.getD j false = true → (∀ i ∈ R.Br, listed.getD i false = false) → Rs[j]? = some R → R.at vs j w) → Region.ready .any ops listed = [] → Q .normal (fillOps vs ops.toList 0 a₀) w :=
    fun listed vs w hs hC hR hr => hend vs _ w (fun j hj => listed_ready hdn hs hr j hj) hC fun j R hbr hj => hR j R (listed_ready hdn hs hr j (by rw [← hlen]; exact (List.getElem?_eq_some_iff.1 hj).1)) (by rw [hbr]; intro i hi; cases hi) hj
  intro fuel
  induction fuel with
  | zero =>
    intro listed vs w hs hu hcl hC hR
    have hr : Region.ready .any ops listed = [] := by
      rw [List.eq_nil_iff_forall_not_mem]
      intro j hj
      obtain ⟨h0, o, ho, _⟩ := mem_ready.1 hj
      have hjs : j < ops.size := (Array.getElem?_eq_some_iff.1 ho).1
      have : unlisted ops.size (listed.setIfInBounds j true) < unlisted ops.size listed := unlisted_set hjs hs (by
        have : j < listed.size := by omega
        simp only [Array.getD, this, ↓reduceDIte] at h0 ⊢; exact h0)
      omega
    exact ⟨hr, hfin listed vs w hs hC hR hr⟩
  | succ fuel ih =>
    intro listed vs w hs hu hcl hC hR
    refine ⟨hfin listed vs w hs hC hR, fun i hi => ?_⟩
    obtain ⟨h0, o, ho, hall⟩ := mem_ready.1 hi
    have hisz : i < ops.size := (Array.getElem?_eq_some_iff.1 ho).1
    have hil : i < listed.size := by omega
    have h0' : listed.getD i false = false := by simp only [Array.getD, hil, ↓reduceDIte] at h0 ⊢; exact h0
    obtain ⟨R, hRi⟩ : ∃ R, Rs[i]? = some R := ⟨Rs[i]'(by omega), List.getElem?_eq_getElem (by omega)⟩
    have hclo : ∀ j, ahead .any ops ops.size i j = true → listed.getD j false = true := fun j ha => ahead_listed hcl ops.size i j (fun o' ho' => by rw [ho] at ho'; cases ho'; exact hall) ha
    have hopn : ∀ j, ahead .any ops ops.size j i = true → listed.getD j false = false := fun j ha => by
      rcases hq : listed.getD j false with _ | _
      · rfl
      · have hl := ahead_listed hcl ops.size j i (fun o' ho' => hcl j o' ho' hq) ha
        rw [h0'] at hl; cases hl
    have hstep := hop i o R ho hRi vs (fun j => listed.getD j false) w ⟨h0', hclo, hopn⟩ hC (fun j' R' ha hv _ hR' => hR j' R' (ahead_listed hcl ops.size i j' (fun o' ho' => by rw [ho] at ho'; cases ho'; exact hall) ha) (fun i' hi' => by
        have hv' := List.all_eq_true.1 hv i' hi'
        simp only [Bool.or_eq_true, beq_iff_eq] at hv'
        rcases hv' with rfl | hv'
        · exact h0'
        · rcases hq : listed.getD i' false with _ | _
          · rfl
          · have hl := ahead_listed hcl ops.size i' i (fun o' ho' => hcl i' o' ho' hq) hv'
            rw [h0'] at hl; cases hl) hR')
      (wpAny P .any ops Q fuel (listed.setIfInBounds i true)) (fun a' v w' ha hRv hC' hT => by
        rw [ha, fillOps_upd ops.toList 0 a₀ vs i o v hap (by simpa using ho), Nat.zero_add]
        have hC9 : C (fun j => (listed.setIfInBounds i true).getD j false) w' := by
          have e : (fun j => (listed.setIfInBounds i true).getD j false) = Listed.but (fun j => listed.getD j false) i := by
            funext j
            unfold Listed.but
            by_cases e : j = i
            · subst e; rw [if_pos rfl]; exact getD_set_self hil
            · rw [if_neg e]; exact getD_set_ne false (Ne.symm e)
          rw [e]; exact hC'
        refine ih _ _ _ (by simpa using hs) ?_ ?_ hC9 ?_
        · have := unlisted_set hisz hs h0'; omega
        · intro j oj hoj hj e he hb
          by_cases hji : j = i
          · subst hji; rw [ho] at hoj; cases hoj; exact getD_set_true (hall e he hb)
          · rw [getD_set_ne false (Ne.symm hji)] at hj; exact getD_set_true (hcl j oj hoj hj e he hb)
        · intro j R' hj hbr hR'
          have key : ∀ (u' : Value), R'.R (vs R'.D) u' w' → R'.R (upd vs i v R'.D) u' w' := fun u' h => by
            by_cases hDi : R'.D = i
            · rcases (hst j R' hR').1 with hf | ha
              · exact hf _ _ _ _ h
              · exfalso
                have hl : listed.getD R'.D false = true := by
                  by_cases hji : j = i
                  · subst hji; exact ahead_listed hcl ops.size j _ (fun o' ho' => by rw [ho] at ho'; cases ho'; exact hall) ha
                  · rw [getD_set_ne false (Ne.symm hji)] at hj
                    exact ahead_listed hcl ops.size j _ (fun o' ho' => hcl j o' ho' hj) ha
                rw [hDi, h0'] at hl; cases hl
            · have : upd vs i v R'.D = vs R'.D := by unfold upd; rw [if_neg hDi]
              rw [this]; exact h
          unfold FactN.at
          by_cases hji : j = i
          · subst hji; rw [hRi] at hR'; cases hR'
            have : upd vs j v j = v := by unfold upd; rw [if_pos rfl]
            rw [this]
            exact key v hRv
          · rw [getD_set_ne false (Ne.symm hji)] at hj
            have hai : ahead .any ops ops.size j i = false := by
              rcases hq : ahead .any ops ops.size j i with _ | _
              · rfl
              · have hl := ahead_listed hcl ops.size j i (fun o' ho' => hcl j o' ho' hj) hq
                rw [h0'] at hl; cases hl
            have hib : i ∉ R'.Br := fun hm => by have h1 := hbr i hm; rw [getD_set_self hil] at h1; cases h1
            have hbr' : ∀ i' ∈ R'.Br, listed.getD i' false = false := fun i' hm => by
              have h1 := hbr i' hm
              by_cases e : i' = i
              · subst e; exact absurd hm hib
              · rwa [getD_set_ne false (Ne.symm e)] at h1
            have h3 := (hst j R' hR').2 i (Ne.symm hji) hib hai _ _ _ _ (hR j R' hj hbr' hR') hT
            have : upd vs i v j = vs j := by unfold upd; rw [if_neg hji]
            rw [this]
            refine key _ ?_
            exact h3)
    unfold wpOp
    simp only [ho]
    split
    · rename_i hw; rw [if_pos hw] at hstep; exact .inl hstep
    · rename_i hw; rw [if_neg hw] at hstep; exact hstep

/-- The region. -/
theorem wp_region_factsN {id : Nat} {a : Act} {w : World} {l : List Oper} (C : (Nat → Bool) → World → Prop) (T : Nat → World → World → Prop) (hm : P.follows .mixedOrders = true) (hap : dstsApart l = true) (hdn : edgesDown .any l.toArray = true)
    (hC : C (fun _ => false) w.drew) (h : wpFactsN P l.toArray Q C T (fun vs => fillOps vs l 0 a) 0 l []) : (Code.region id l.toArray true).wp P Q a w := by
  refine wp_region_any hm ?_
  obtain ⟨Rs, h1, h2, h3, h4⟩ := wpFactsN_all (ops := l.toArray) l 0 [] (by simp) rfl (by simp) (by simp) h
  obtain ⟨vs, hvs⟩ : ∃ vs : Nat → Value, ∀ i o t, l[i]? = some o → o.dst = some t → vs (0 + i) = a.tmps.getD t undef :=
    ⟨fun i => match (l[i]?).bind (·.dst) with | some t => a.tmps.getD t undef | none => undef, fun i o t hi ht => by simp [hi, ht]⟩
  have := wpAny_factsN (P := P) (Q := Q) (ops := l.toArray) (C := C) (T := T) (a₀ := a) hap hdn Rs (by simpa using h1) h2 h3 h4 l.toArray.size (Array.replicate l.toArray.size false) vs w.drew (by simp)
    (Nat.le_trans (List.length_filter_le _ _) (by simp)) (fun j o hj hl => by simp [Array.getD] at hl) (by
      have e : (fun j => (Array.replicate l.toArray.size false).getD j false) = fun _ => false := by funext j; simp [Array.getD]
      rw [e]; exact hC) (fun j R hl => by simp [Array.getD] at hl)
  rwa [fillOps_self vs _ 0 a (by simpa using hvs)] at this

theorem wpFactsN_nil {C : (Nat → Bool) → World → Prop} {T : Nat → World → World → Prop} {fr : (Nat → Value) → Act} {k : Nat} {Rs : List FactN} (h : ∀ vs L w, (∀ j, j < ops.size → L j = true) → C L w → (∀ (j : Nat) (R : FactN), R.Br = [] → Rs[j]? = some R → R.at vs j w) → Q .normal (fr vs) w) : wpFactsN P ops Q C T fr k [] Rs := h
/-- An operation with one value. -/
theorem wpFactsN_val {C : (Nat → Bool) → World → Prop} {T : Nat → World → World → Prop} {fr : (Nat → Value) → Act} {k : Nat} {o : Oper} {l : List Oper} {Rs : List FactN} (V : Value)
    (h1 : ∀ vs L w, Gone ops L k → C L w → (∀ (j : Nat) (R' : FactN), ahead .any ops ops.size k j = true → R'.live ops k = true → Rs[j]? = some R' → R'.at vs j w) → ∀ K : Act → World → Prop, (∀ a' w', a' = (fr vs).put o.dst V → C (Listed.but L k) w' → T k w w' → K a' w') →
      if Region.wanted o (yielded ops (fr vs).tmps) = true then o.wp P (fr vs) w K Q else K ((fr vs).put o.dst undef) w)
    (h2 : wpFactsN P ops Q C T fr (k + 1) l (Rs ++ [⟨0, fun _ v _ => v = V, []⟩])) : wpFactsN P ops Q C T fr k (o :: l) Rs :=
  ⟨⟨0, fun _ v _ => v = V, []⟩, .inl (fun _ _ _ _ h => h), fun _ _ _ _ _ _ _ _ h _ => h, fun vs L w hG hC hB K hK => h1 vs L w hG hC hB K fun a' w' ha hC' hT => hK a' V w' ha rfl hC' hT, h2⟩
/-- An operation whose value has a property. -/
theorem wpFactsN_some {C : (Nat → Bool) → World → Prop} {T : Nat → World → World → Prop} {fr : (Nat → Value) → Act} {k : Nat} {o : Oper} {l : List Oper} {Rs : List FactN} (Br : List Nat) (R : Value → World → Prop) (hR : ∀ i, i ≠ k → i ∉ Br → ahead .any ops ops.size k i = false → ∀ v w w', R v w → T i w w' → R v w')
    (h1 : ∀ vs L w, Gone ops L k → C L w → (∀ (j : Nat) (R' : FactN), ahead .any ops ops.size k j = true → R'.live ops k = true → Rs[j]? = some R' → R'.at vs j w) → ∀ K : Act → World → Prop, (∀ a' v w', a' = (fr vs).put o.dst v → R v w' → C (Listed.but L k) w' → T k w w' → K a' w') →
      if Region.wanted o (yielded ops (fr vs).tmps) = true then o.wp P (fr vs) w K Q else K ((fr vs).put o.dst undef) w)
    (h2 : wpFactsN P ops Q C T fr (k + 1) l (Rs ++ [⟨0, fun _ v w => R v w, Br⟩])) : wpFactsN P ops Q C T fr k (o :: l) Rs :=
  ⟨⟨0, fun _ v w => R v w, Br⟩, .inl (fun _ _ _ _ h => h), fun i hi hb ha _ v w w' h t => hR i hi hb ha v w w' h t, h1, h2⟩
/-- An operation whose value has a property that speaks of an operation ahead. -/
theorem wpFactsN_pair {C : (Nat → Bool) → World → Prop} {T : Nat → World → World → Prop} {fr : (Nat → Value) → Act} {k : Nat} {o : Oper} {l : List Oper} {Rs : List FactN} (Br : List Nat) (D : Nat) (R : Value → Value → World → Prop) (hD : ahead .any ops ops.size k D = true) (hR : ∀ i, i ≠ k → i ∉ Br → ahead .any ops ops.size k i = false → ∀ u v w w', R u v w → T i w w' → R u v w')
    (h1 : ∀ vs L w, Gone ops L k → C L w → (∀ (j : Nat) (R' : FactN), ahead .any ops ops.size k j = true → R'.live ops k = true → Rs[j]? = some R' → R'.at vs j w) → ∀ K : Act → World → Prop, (∀ a' v w', a' = (fr vs).put o.dst v → R (vs D) v w' → C (Listed.but L k) w' → T k w w' → K a' w') →
      if Region.wanted o (yielded ops (fr vs).tmps) = true then o.wp P (fr vs) w K Q else K ((fr vs).put o.dst undef) w)
    (h2 : wpFactsN P ops Q C T fr (k + 1) l (Rs ++ [⟨D, R, Br⟩])) : wpFactsN P ops Q C T fr k (o :: l) Rs :=
  ⟨⟨D, R, Br⟩, .inr hD, hR, h1, h2⟩
end
/-- One thing holds until operation s has been, another from then on. -/
def Sw (s : Nat) (C0 C1 : World → Prop) (L : Nat → Bool) (w : World) : Prop := if L s = true then C1 w else C0 w
section
variable {ops : Array Oper} {s k : Nat} {C0 C1 : World → Prop} {L : Nat → Bool} {w w' : World}
theorem Sw.start (h : C0 w) : Sw s C0 C1 (fun _ => false) w := by unfold Sw; rw [if_neg (by simp)]; exact h
theorem Sw.before (hG : Gone ops L k) (ha : ahead .any ops ops.size s k = true) (h : Sw s C0 C1 L w) : C0 w := by
  unfold Sw at h; rwa [if_neg (by rw [hG.open_ s ha]; simp)] at h
theorem Sw.stay (hG : Gone ops L k) (ha : ahead .any ops ops.size s k = true) (hne : s ≠ k) (h : C0 w) : Sw s C0 C1 (Listed.but L k) w := by
  unfold Sw Listed.but; rw [if_neg (by rw [if_neg hne, hG.open_ s ha]; simp)]; exact h
theorem Sw.here (hG : Gone ops L s) (h : Sw s C0 C1 L w) : C0 w := by unfold Sw at h; rwa [if_neg (by rw [hG.self]; simp)] at h
theorem Sw.turn (h : C1 w) : Sw s C0 C1 (Listed.but L s) w := by unfold Sw Listed.but; rw [if_pos (if_pos rfl)]; exact h
theorem Sw.after (hG : Gone ops L k) (ha : ahead .any ops ops.size k s = true) (h : Sw s C0 C1 L w) : C1 w := by unfold Sw at h; rwa [if_pos (hG.done s ha)] at h
theorem Sw.on (hG : Gone ops L k) (ha : ahead .any ops ops.size k s = true) (h : C1 w) : Sw s C0 C1 (Listed.but L k) w := by
  unfold Sw Listed.but; rw [if_pos (by rw [hG.done s ha]; simp)]; exact h
theorem Sw.both (hne : s ≠ k) (h0 : C0 w → C0 w') (h1 : C1 w → C1 w') (h : Sw s C0 C1 L w) : Sw s C0 C1 (Listed.but L k) w' := by
  unfold Sw Listed.but at *
  rw [if_neg hne]
  split at h
  · rename_i e; rw [if_pos e]; exact h1 h
  · rename_i e; rw [if_neg e]; exact h0 h
theorem Sw.done (hL : ∀ j, j < ops.size → L j = true) (hs : s < ops.size) (h : Sw s C0 C1 L w) : C1 w := by unfold Sw at h; rwa [if_pos (hL s hs)] at h
end
end Go.Proofs.Ytchkjiadnackaaa

/- The facts law with its facts the other way round: cheap look-ups. -/
namespace Go.Proofs.Ytchkjiadnackaaa
open Go.RowKit

section
variable {P : Program} {ops : Array Oper} {Q : Exit → Act → World → Prop}
/-- The same walk, the facts' list the other way round (its look-ups stay cheap). -/
def wpFactsR (P : Program) (ops : Array Oper) (Q : Exit → Act → World → Prop) (C : (Nat → Bool) → World → Prop) (T : Nat → World → World → Prop) (fr : (Nat → Value) → Act) : Nat → List Oper → List FactN → Prop
  | k, [], Rs => ∀ vs L w, (∀ j, j < ops.size → L j = true) → C L w → (∀ (j : Nat) (R : FactN), R.Br = [] → Rs[k - 1 - j]? = some R → j < k → R.at vs j w) → Q .normal (fr vs) w
  | k, o :: l, Rs => ∃ R : FactN, R.fine ops k ∧ R.firm ops T k ∧
    (∀ vs L w, Gone ops L k → C L w → (∀ (j : Nat) (R' : FactN), ahead .any ops ops.size k j = true → R'.live ops k = true → Rs[k - 1 - j]? = some R' → j < k → R'.at vs j w) → ∀ K : Act → World → Prop, (∀ a' v w', a' = (fr vs).put o.dst v → R.R (vs R.D) v w' → C (Listed.but L k) w' → T k w w' → K a' w') →
      if Region.wanted o (yielded ops (fr vs).tmps) = true then o.wp P (fr vs) w K Q else K ((fr vs).put o.dst undef) w) ∧
    wpFactsR P ops Q C T fr (k + 1) l (R :: Rs)
theorem rev_look {Rs : List FactN} {k j : Nat} {R : FactN} (hk : Rs.length = k) (h : Rs[k - 1 - j]? = some R) (hj : j < k) : Rs.reverse[j]? = some R := by
  rw [List.getElem?_reverse (by omega), hk]; exact h
theorem wpFactsR_N {C : (Nat → Bool) → World → Prop} {T : Nat → World → World → Prop} {fr : (Nat → Value) → Act} : ∀ (l : List Oper) (k : Nat) (Rs : List FactN), Rs.length = k → wpFactsR P ops Q C T fr k l Rs → wpFactsN P ops Q C T fr k l Rs.reverse
  | [], _, _, hk, h => fun vs L w hL hC hB => h vs L w hL hC fun j R hb hR hj => hB j R hb (rev_look hk hR hj)
  | _ :: l, k, Rs, hk, ⟨R, h1, h2, h3, h4⟩ => ⟨R, h1, h2, fun vs L w hG hC hB K hK => h3 vs L w hG hC (fun j R' ha hv hR hj => hB j R' ha hv (rev_look hk hR hj)) K hK, by
      have := wpFactsR_N l (k + 1) (R :: Rs) (by simp [hk]) h4
      rwa [List.reverse_cons] at this⟩
theorem wp_region_factsR {id : Nat} {a : Act} {w : World} {l : List Oper} (C : (Nat → Bool) → World → Prop) (T : Nat → World → World → Prop) (hm : P.follows .mixedOrders = true) (hap : dstsApart l = true) (hdn : edgesDown .any l.toArray = true)
    (hC : C (fun _ => false) w.drew) (h : wpFactsR P l.toArray Q C T (fun vs => fillOps vs l 0 a) 0 l []) : (Code.region id l.toArray true).wp P Q a w :=
  wp_region_factsN C T hm hap hdn hC (wpFactsR_N l 0 [] rfl h)
theorem wpFactsR_nil {C : (Nat → Bool) → World → Prop} {T : Nat → World → World → Prop} {fr : (Nat → Value) → Act} {k : Nat} {Rs : List FactN} (h : ∀ vs L w, (∀ j, j < ops.size → L j = true) → C L w → (∀ (j : Nat) (R : FactN), R.Br = [] → Rs[k - 1 - j]? = some R → j < k → R.at vs j w) → Q .normal (fr vs) w) : wpFactsR P ops Q C T fr k [] Rs := h
theorem wpFactsR_val {C : (Nat → Bool) → World → Prop} {T : Nat → World → World → Prop} {fr : (Nat → Value) → Act} {k : Nat} {o : Oper} {l : List Oper} {Rs : List FactN} (V : Value)
    (h1 : ∀ vs L w, Gone ops L k → C L w → (∀ (j : Nat) (R' : FactN), ahead .any ops ops.size k j = true → R'.live ops k = true → Rs[k - 1 - j]? = some R' → j < k → R'.at vs j w) → ∀ K : Act → World → Prop, (∀ a' w', a' = (fr vs).put o.dst V → C (Listed.but L k) w' → T k w w' → K a' w') →
      if Region.wanted o (yielded ops (fr vs).tmps) = true then o.wp P (fr vs) w K Q else K ((fr vs).put o.dst undef) w)
    (h2 : wpFactsR P ops Q C T fr (k + 1) l (⟨0, fun _ v _ => v = V, []⟩ :: Rs)) : wpFactsR P ops Q C T fr k (o :: l) Rs :=
  ⟨⟨0, fun _ v _ => v = V, []⟩, .inl (fun _ _ _ _ h => h), fun _ _ _ _ _ _ _ _ h _ => h, fun vs L w hG hC hB K hK => h1 vs L w hG hC hB K fun a' w' ha hC' hT => hK a' V w' ha rfl hC' hT, h2⟩
theorem wpFactsR_some {C : (Nat → Bool) → World → Prop} {T : Nat → World → World → Prop} {fr : (Nat → Value) → Act} {k : Nat} {o : Oper} {l : List Oper} {Rs : List FactN} (Br : List Nat) (R : Value → World → Prop) (hR : ∀ i, i ≠ k → i ∉ Br → ahead .any ops ops.size k i = false → ∀ v w w', R v w → T i w w' → R v w')
    (h1 : ∀ vs L w, Gone ops L k → C L w → (∀ (j : Nat) (R' : FactN), ahead .any ops ops.size k j = true → R'.live ops k = true → Rs[k - 1 - j]? = some R' → j < k → R'.at vs j w) → ∀ K : Act → World → Prop, (∀ a' v w', a' = (fr vs).put o.dst v → R v w' → C (Listed.but L k) w' → T k w w' → K a' w') →
      if Region.wanted o (yielded ops (fr vs).tmps) = true then o.wp P (fr vs) w K Q else K ((fr vs).put o.dst undef) w)
    (h2 : wpFactsR P ops Q C T fr (k + 1) l (⟨0, fun _ v w => R v w, Br⟩ :: Rs)) : wpFactsR P ops Q C T fr k (o :: l) Rs :=
  ⟨⟨0, fun _ v w => R v w, Br⟩, .inl (fun _ _ _ _ h => h), fun i hi hb ha _ v w w' h t => hR i hi hb ha v w w' h t, h1, h2⟩
theorem wpFactsR_pair {C : (Nat → Bool) → World → Prop} {T : Nat → World → World → Prop} {fr : (Nat → Value) → Act} {k : Nat} {o : Oper} {l : List Oper} {Rs : List FactN} (Br : List Nat) (D : Nat) (R : Value → Value → World → Prop) (hD : ahead .any ops ops.size k D = true) (hR : ∀ i, i ≠ k → i ∉ Br → ahead .any ops ops.size k i = false → ∀ u v w w', R u v w → T i w w' → R u v w')
    (h1 : ∀ vs L w, Gone ops L k → C L w → (∀ (j : Nat) (R' : FactN), ahead .any ops ops.size k j = true → R'.live ops k = true → Rs[k - 1 - j]? = some R' → j < k → R'.at vs j w) → ∀ K : Act → World → Prop, (∀ a' v w', a' = (fr vs).put o.dst v → R (vs D) v w' → C (Listed.but L k) w' → T k w w' → K a' w') →
      if Region.wanted o (yielded ops (fr vs).tmps) = true then o.wp P (fr vs) w K Q else K ((fr vs).put o.dst undef) w)
    (h2 : wpFactsR P ops Q C T fr (k + 1) l (⟨D, R, Br⟩ :: Rs)) : wpFactsR P ops Q C T fr k (o :: l) Rs :=
  ⟨⟨D, R, Br⟩, .inr hD, hR, h1, h2⟩
end
end Go.Proofs.Ytchkjiadnackaaa
