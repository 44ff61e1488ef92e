/- Fo03: the texts OffIn Own Cat Splice QTray QOuting OwnRow, joined into one file. -/
import Derived.OwnWalk
import Derived.Maps.AppendAt
import Derived.Lib.Overlaps
import Derived.Lib.SliceRun
import Derived.Laws.IdiomCopy
import Derived.Deep.RegionLaw
import Derived.Laws.Externs
import Derived.Lib.AppendZerosOnto
import Derived.StillTailTactics
import Derived.Laws.OwnMore
import Derived.Test.YtdiojhjkcholiaaFo01
import Derived.Test.YtdiojhjkcholiaaFo02

/- IsOffice, StampsIn, StampsOut, in the reference and in the program. -/
namespace Go.Proofs.Ytdiojhjkcholiaa
open Go.RowKit

theorem isOfficeValid_any (x : Off) (g : Nat) (w : World) (h : OffAt w w.heap.size g x) :
    Calls Try.prog 45 #[.pointer (some ⟨g, 0, none⟩)] w fun e w' => e = .returned (.bool (goodOff x)) ∧ Below w.heap.size w w' := by
  cases hv : (sizesOk x && numsOk x)
  · exact isOfficeValid_no x g w h hv
  · exact isOfficeValid_yes x g w h hv
/-- The box of an office that was handed over by value. -/
theorem box_at {x : Off} {w : World} (h : OffR w w.heap.size x) (t : TypeId) : OffAt (w.alloc (.cells #[.slice x.TA x.t.length x.tc, .slice x.OA x.o.length x.oc, .int .i64 x.got, .int .i64 x.sold, .int .i64 x.missed] t)) (w.alloc (.cells #[.slice x.TA x.t.length x.tc, .slice x.OA x.o.length x.oc, .int .i64 x.got, .int .i64 x.sold, .int .i64 x.missed] t)).heap.size w.heap.size x :=
  OffAt.of (x := x) (Lies.new w t #[.slice x.TA x.t.length x.tc, .slice x.OA x.o.length x.oc, .int .i64 x.got, .int .i64 x.sold, .int .i64 x.missed]) (h.up ((Below.refl w.heap.size w).alloc (Nat.le_refl _) _) (Nat.le_refl _))

theorem specIsOffice_any (x : Off) (w : World) (h : OffR w w.heap.size x) : Calls Try.prog 30 #[x.val] w fun e w' => e = .returned (.bool (goodOff x)) ∧ Below w.heap.size w w' := by
  have b1 := (Below.refl w.heap.size w).alloc (Nat.le_refl _) (.cells #[.slice x.TA x.t.length x.tc, .slice x.OA x.o.length x.oc, .int .i64 x.got, .int .i64 x.sold, .int .i64 x.missed] 25)
  go_enter Try.func30, Try.ntmps30
  go_wp2_with fail
  refine (l32Good_any x _ (h.up b1 (Nat.le_refl _))).mono ?_
  rintro e w1 ⟨rfl, hb⟩
  go_wp2
  go_ret
  exact ⟨rfl, bthen b1 hb⟩
theorem implIsOffice_any (x : Off) (w : World) (h : OffR w w.heap.size x) : Calls Try.prog 29 #[x.val] w fun e w' => e = .returned (.bool (goodOff x)) ∧ Below w.heap.size w w' := by
  have b1 := (Below.refl w.heap.size w).alloc (Nat.le_refl _) (.cells #[.slice x.TA x.t.length x.tc, .slice x.OA x.o.length x.oc, .int .i64 x.got, .int .i64 x.sold, .int .i64 x.missed] 25)
  have hA := box_at h 25
  go_enter Try.func29, Try.ntmps29
  go_wp2_with fail
  refine (isOfficeValid_any x _ _ hA).mono ?_
  rintro e w1 ⟨rfl, hb⟩
  go_wp2
  go_ret
  exact ⟨rfl, bthen b1 hb⟩
def okOf (g : Bool) (v : Int) : Int := if g then v else 0
theorem every2_all (o : Outing) (w : World) : Calls Try.prog 63 (#[o.val] ++ #[]) w fun e w' => e = .returned (.bool (every o)) ∧ Below w.heap.size w w' := by
  show Calls Try.prog 63 #[o.val] w _
  go_enter Try.func63, Try.ntmps63
  go_wp2
  go_ret
  exact ⟨rfl, (Below.refl _ _).alloc (Nat.le_refl _) _⟩


theorem implStampsIn_any (x : Off) (w : World) (h : OffR w w.heap.size x) : Calls Try.prog 31 #[x.val] w fun e w' => e = .returned (.tuple #[.int .i64 (okOf (goodOff x) (inSum x.t)), .bool (goodOff x)]) ∧ Below w.heap.size w w' := by
  have b1 := (Below.refl w.heap.size w).alloc (Nat.le_refl _) (.cells #[.slice x.TA x.t.length x.tc, .slice x.OA x.o.length x.oc, .int .i64 x.got, .int .i64 x.sold, .int .i64 x.missed] 25)
  have hA := box_at h 25
  have cG := fun W hW => isOfficeValid_any x w.heap.size W hW
  cases hg : goodOff x
  · rw [hg] at cG
    clear hg
    go_enter Try.func31, Try.ntmps31
    go_wp2_with fail
    generalize w.alloc (.cells #[.slice x.TA x.t.length x.tc, .slice x.OA x.o.length x.oc, .int .i64 x.got, .int .i64 x.sold, .int .i64 x.missed] 25) = W at b1 hA ⊢
    refine (cG _ hA).mono ?_
    rintro e w1 ⟨rfl, hb⟩
    go_wp2
    go_ret2
    exact ⟨rfl, bthen b1 hb⟩
  · rw [hg] at cG
    have G := good_iff.1 hg
    have cM := fun W hW => stampsIn_any x w.heap.size W hW G.tl G.tall
    clear hg G
    go_enter Try.func31, Try.ntmps31
    go_wp2_with fail
    generalize w.alloc (.cells #[.slice x.TA x.t.length x.tc, .slice x.OA x.o.length x.oc, .int .i64 x.got, .int .i64 x.sold, .int .i64 x.missed] 25) = W at b1 hA ⊢
    refine (calls_since0 (cG _ hA)).mono ?_
    rintro e w1 ⟨rfl, q1, rfl⟩
    go_wp2_with fail
    refine (calls_since (Nat.le_refl _) (cM _ (hA.at q1))).mono ?_
    rintro e w2 ⟨rfl, q2, rfl⟩
    go_wp2
    go_ret2
    exact ⟨rfl, b1.trans (q2.below.mono b1.size)⟩

theorem implStampsOut_any (x : Off) (w : World) (h : OffR w w.heap.size x) : Calls Try.prog 32 #[x.val] w fun e w' => e = .returned (.tuple #[.int .i64 (okOf (goodOff x) (outSum every x.o)), .bool (goodOff x)]) ∧ Below w.heap.size w w' := by
  have b1 := (Below.refl w.heap.size w).alloc (Nat.le_refl _) (.cells #[.slice x.TA x.t.length x.tc, .slice x.OA x.o.length x.oc, .int .i64 x.got, .int .i64 x.sold, .int .i64 x.missed] 25)
  have hA := box_at h 25
  have cG := fun W hW => isOfficeValid_any x w.heap.size W hW
  cases hg : goodOff x
  · rw [hg] at cG
    clear hg
    go_enter Try.func32, Try.ntmps32
    go_wp2_with fail
    generalize w.alloc (.cells #[.slice x.TA x.t.length x.tc, .slice x.OA x.o.length x.oc, .int .i64 x.got, .int .i64 x.sold, .int .i64 x.missed] 25) = W at b1 hA ⊢
    refine (cG _ hA).mono ?_
    rintro e w1 ⟨rfl, hb⟩
    go_wp2
    go_ret2
    exact ⟨rfl, bthen b1 hb⟩
  · rw [hg] at cG
    have G := good_iff.1 hg
    have cM := fun W hW => stampsOut_any every 63 #[] Try.call63 x w.heap.size W (fun o p => every2_all o p.val) hW G.ol G.oall
    clear hg G
    go_enter Try.func32, Try.ntmps32
    go_wp2_with fail
    generalize w.alloc (.cells #[.slice x.TA x.t.length x.tc, .slice x.OA x.o.length x.oc, .int .i64 x.got, .int .i64 x.sold, .int .i64 x.missed] 25) = W at b1 hA ⊢
    refine (calls_since0 (cG _ hA)).mono ?_
    rintro e w1 ⟨rfl, q1, rfl⟩
    go_wp2_with fail
    refine (calls_since (Nat.le_refl _) (cM _ (hA.at q1))).mono ?_
    rintro e w2 ⟨rfl, q2, rfl⟩
    go_wp2
    go_ret2
    exact ⟨rfl, b1.trans (q2.below.mono b1.size)⟩
end Go.Proofs.Ytdiojhjkcholiaa

/- Own slices that grow by one element (no program in sight). -/
namespace Go.Proofs.Ytdiojhjkcholiaa
open Go.RowKit

theorem cells_new (w : World) (vs : Array Value) (t : TypeId) : ∀ j u, vs.toList[j]? = some u → (w.alloc (.cells vs t)).cell? ((⟨w.heap.size, 0, none⟩ : Addr).add j) = some u := by
  intro j u hj
  have e : ((⟨w.heap.size, 0, none⟩ : Addr).add j) = ⟨w.heap.size, j, none⟩ := by unfold Addr.add; by_cases h : j = 0 <;> simp [h]
  rw [e, (Lies.new w t vs).cell]; exact hj

theorem ownsRow_heap {w w' : World} {B : Nat} {e : TypeId} {k : Nat} {v : Value} {n : Nat} {xs : List Value} (h : w'.heap = w.heap) (ho : w.ownsRow B e k v n xs) : w'.ownsRow B e k v n xs := by
  unfold World.ownsRow at *; rw [h]; exact ho

/-- 'append(s, x)': s the call's own, x one element of k cells. -/
theorem wpList_push {P : Program} {ops : Array Oper} {rest : List Oper} {o : Oper} {a : Act} {w0 wA : World} {Q : Exit → Act → World → Prop} (hgd : o.guard = none) (s x : Operand) (t : TypeId)
    (ho : o.op = .call { callee := .builtin .append, args := #[s, x], argTypes := #[t, t] })
    (e : TypeId) (z : Value) (k bytes : Nat) (ht : P.underlying t = some (.slice e)) (hinfo : (P.info? e).map (fun i => (i.zero, i.size, i.bytes)) = some (some z, k, bytes)) (hzs : z.cells.size = k) (hsz : 0 < k) (hby : bytes ≤ 1000)
    (B : Nat) (v : Value) (n : Nat) (xs : List Value) (hs : a.eval s = v) (hown : Hid (w0.ownsRow B e k v n xs))
    (vs : Array Value) (c g : Nat) (hx : a.eval x = .slice (some ⟨g, 0, none⟩) 1 c) (hg : w0.heap.size = g) (hvs : vs.size = k) (h1 : vs.all (·.oneCell') = true) (hn : n < 1000000000) (hbase : B ≤ w0.heap.size)
    (hheap : wA.heap = (w0.alloc (.cells vs e)).heap) (hos : wA.os = w0.os) (htape : wA.tape = w0.tape) (hout : wA.output = w0.output)
    (h : ∀ v' w', Hid (w'.ownsRow B e k v' (n + 1) (xs ++ vs.toList)) → w0.grownBy w' v.ownBlock → Below B w0 w' → wpList P ops Q rest (a.put o.dst v') w') : wpList P ops Q (o :: rest) a wA := by
  subst hg
  obtain ⟨i, hi, hz, hs', hb⟩ := info_parts hinfo
  have hown' := hown.out
  have hsize : wA.heap.size = w0.heap.size + 1 := by rw [hheap]; exact Array.size_push _
  have hblock : ∀ j, j < w0.heap.size → wA.heap[j]? = w0.heap[j]? := fun j hj => by rw [hheap]; exact Below.heap_alloc w0 _ j hj
  have h4 : w0.grownBy wA v.ownBlock := ⟨hos, htape, hout, by omega, fun j hj _ => hblock j hj⟩
  refine wpList_append_own (w := wA) hgd s x t ho B e i z k bytes ht hi hz hs' hb hzs hsz v n xs hs (ownsRow_heap hheap (hown'.alloc _)) ⟨w0.heap.size, 0, none⟩ 1 c vs.toList hx (by simp [hvs]) ?_ (fun u hu => (Array.all_eq_true_iff_forall_mem.1 h1) u (by simpa using hu)) (by unfold maxLen; omega) ?_ (by omega) fun v' w' h2 h3 _ => h v' w' h2 ?_ ?_
  · intro j u hj
    have := cells_new w0 vs e j u hj
    rw [← this]; exact World.cell?_of_block (by rw [hheap])
  · have := Nat.mul_le_mul (show n + 1 ≤ 1000000000 by omega) hby
    omega
  · exact ⟨h3.os.trans h4.os, h3.tape.trans h4.tape, h3.output.trans h4.output, Nat.le_trans h4.size h3.size, fun j hj hne => (h3.block j (Nat.lt_of_lt_of_le hj h4.size) hne).trans (h4.block j hj hne)⟩
  · exact ((Below.refl B w0).grown h4 hbase (fun j hj => (hown'.lt j hj).1)).grown h3 (by omega) (fun j hj => (hown'.lt j hj).1)

theorem ownsRow_slice {w : World} {B : Nat} {e : TypeId} {k : Nat} {v : Value} {n : Nat} {xs : List Value} (h : w.ownsRow B e k v n xs) : ∃ A c, v = .slice A n c := by
  obtain ⟨_, ⟨rfl, rfl⟩ | ⟨g, cap, _, rfl, _⟩⟩ := h
  · exact ⟨_, _, rfl⟩
  · exact ⟨_, _, rfl⟩
end Go.Proofs.Ytdiojhjkcholiaa

/- 'append(s, xs...)' onto a row of the call's own, the source nil, empty or not (no program in sight). -/
namespace Go.Proofs.Ytdiojhjkcholiaa
open Go.RowKit

/-- Nothing is appended: the nil slice. -/
theorem run_cat_nil {P : Program} (w : World) (base : Nat) (t ty e : TypeId) (i : TypeInfo) (size : Nat) (ht : P.underlying t = some (.slice e)) (hi : P.info? e = some i)
    (v : Value) (n : Nat) (xs : List Value) (hown : w.ownsRow base e size v n xs) (c : Nat) : (Builtin.append_ #[t, t] ty #[v, .slice none 0 c]).run P w = .ok v w := by
  obtain ⟨_, ⟨rfl, rfl⟩ | ⟨g, cap, cur, rfl, _, _, hcap, _⟩⟩ := hown
  · simp [Builtin.append_, run_underlying ht, sizeOf, typeInfo, hi, Builtin.lenOf, Builtin.firstCells]
  · simp [Builtin.append_, run_underlying ht, sizeOf, typeInfo, hi, Builtin.lenOf, Builtin.firstCells, hcap, storeCells]

theorem addr_add (b o j : Nat) : ((⟨b, o, none⟩ : Addr).add j) = ⟨b, o + j, none⟩ := by unfold Addr.add; by_cases h : j = 0 <;> simp [h]

theorem wp_cat {P : Program} {o : Oper} {a : Act} {w : World} {K : Act → World → Prop} {Q : Exit → Act → World → Prop} (s x : Operand) (t : TypeId)
    (ho : o.op = .call { callee := .builtin .append, args := #[s, x], argTypes := #[t, t] })
    (e : TypeId) (z : Value) (k bytes : Nat) (ht : P.underlying t = some (.slice e)) (hinfo : (P.info? e).map (fun i => (i.zero, i.size, i.bytes)) = some (some z, k, bytes)) (hzs : z.cells.size = k) (hsz : 0 < k) (hby : bytes ≤ 1000)
    (B : Nat) (v : Value) (n : Nat) (xs : List Value) (hs : a.eval s = v) (hown : Hid (w.ownsRow B e k v n xs))
    (S : Nat) (A : Option Addr) (m c : Nat) (cs : List Value) (hx : a.eval x = .slice A m c) (hr : Hid (SlcR w S k A m cs)) (h1 : ∀ u ∈ cs, u.oneCell' = true)
    (hn : n + m ≤ 1000000000) (hbase : B ≤ w.heap.size)
    (h : ∀ v' w', Hid (w'.ownsRow B e k v' (n + m) (xs ++ cs)) → w.grownBy w' v.ownBlock → Below B w w' → (v'.ownBlock = v.ownBlock ∨ v'.ownBlock = some w.heap.size) → K (a.put o.dst v') w') : o.wp P a w K Q := by
  obtain ⟨i, hi, hz, hs', hb⟩ := info_parts hinfo
  have hbytes : (n + m) * bytes ≤ 140737488355328 := by have := Nat.mul_le_mul hn hby; omega
  have fin : ∀ v' w', (Builtin.append_ #[t, t] o.type #[v, .slice A m c]).run P w = .ok v' w' → w'.ownsRow B e k v' (n + m) (xs ++ cs) → w.grownBy w' v.ownBlock → (v'.ownBlock = v.ownBlock ∨ v'.ownBlock = some w.heap.size) → o.wp P a w K Q := by
    intro v' w' hrun h2 h3 h4
    unfold Oper.wp execOp
    simp only [ho, resolve, invoke, builtin, Sem.run_bind, Sem.run_pure, Result.andThen_ok, List.map_toArray, List.map_cons, List.map_nil, hs, hx, hrun]
    exact h v' w' h2 h3 ((Below.refl B w).grown h3 hbase (fun j hj => (hown.out.lt j hj).1)) h4
  rcases Nat.eq_zero_or_pos m with h0 | h0
  · subst h0
    have hc0 : cs = [] := List.eq_nil_of_length_eq_zero (by simpa using hr.out.len)
    subst hc0
    rcases A with _ | ad
    · exact fin v w (run_cat_nil w B t o.type e i k ht hi v n xs hown.out c) (by simpa using hown.out) (World.grownBy.refl w _) (.inl rfl)
    · obtain ⟨v', w', hrun, h2, h3, _, h5⟩ := run_append_own_at (P := P) w B t o.type e i z k bytes ht hi hz hs' hb hzs hsz v n xs hown.out ad 0 c [] (by simp) (by simp) (by simp) (by unfold maxLen; omega) hbytes hbase
      exact fin v' w' hrun h2 h3 h5
  · obtain ⟨b, off, rfl, hlt, hcell⟩ := hr.out.at_ h0
    obtain ⟨v', w', hrun, h2, h3, _, h5⟩ := run_append_own_at (P := P) w B t o.type e i z k bytes ht hi hz hs' hb hzs hsz v n xs hown.out ⟨b, off, none⟩ m c cs hr.out.len (fun j u hu => by rw [addr_add]; exact hcell j u hu) h1 (by unfold maxLen; omega) hbytes hbase
    exact fin v' w' hrun h2 h3 h5

theorem wpList_cat {P : Program} {ops : Array Oper} {rest : List Oper} {o : Oper} {a : Act} {w : World} {Q : Exit → Act → World → Prop} (hgd : o.guard = none) (s x : Operand) (t : TypeId)
    (ho : o.op = .call { callee := .builtin .append, args := #[s, x], argTypes := #[t, t] })
    (e : TypeId) (z : Value) (k bytes : Nat) (ht : P.underlying t = some (.slice e)) (hinfo : (P.info? e).map (fun i => (i.zero, i.size, i.bytes)) = some (some z, k, bytes)) (hzs : z.cells.size = k) (hsz : 0 < k) (hby : bytes ≤ 1000)
    (B : Nat) (v : Value) (n : Nat) (xs : List Value) (hs : a.eval s = v) (hown : Hid (w.ownsRow B e k v n xs))
    (S : Nat) (A : Option Addr) (m c : Nat) (cs : List Value) (hx : a.eval x = .slice A m c) (hr : Hid (SlcR w S k A m cs)) (h1 : ∀ u ∈ cs, u.oneCell' = true)
    (hn : n + m ≤ 1000000000) (hbase : B ≤ w.heap.size)
    (h : ∀ v' w', Hid (w'.ownsRow B e k v' (n + m) (xs ++ cs)) → w.grownBy w' v.ownBlock → Below B w w' → (v'.ownBlock = v.ownBlock ∨ v'.ownBlock = some w.heap.size) → wpList P ops Q rest (a.put o.dst v') w') : wpList P ops Q (o :: rest) a w :=
  wpList_plain hgd fun _ hK => wp_cat s x t ho e z k bytes ht hinfo hzs hsz hby B v n xs hs hown S A m c cs hx hr h1 hn hbase fun v' w' h2 h3 h4 h5 => hK _ _ (h v' w' h2 h3 h4 h5)

/-- A slice made by the text itself, of no element. -/
theorem owns_empty {w : World} {B g : Nat} {e : TypeId} {k : Nat} (h : Lies w g e []) (hB : B ≤ g) : w.ownsRow B e k (.slice (some ⟨g, 0, none⟩) 0 0) 0 [] := h.own hB (by simp) (by unfold maxLen; omega)
theorem ints_one {l : List Int} : ∀ u ∈ (l.map (Value.int .i64)), u.oneCell' = true := by
  intro u hu; obtain ⟨n, _, rfl⟩ := List.mem_map.1 hu; rfl
end Go.Proofs.Ytdiojhjkcholiaa

/- Rows that are spliced: copy, clear, append in place, at elements of k cells (no program in sight). -/
namespace Go.Proofs.Ytdiojhjkcholiaa
open Go.RowKit

theorem Lies.setCells {g : Nat} {t : TypeId} : ∀ (vs : List Value) (o : Nat) (w : World) (cs : List Value), Lies w g t cs → o + vs.length ≤ cs.length → Lies (w.setCells g o vs) g t (splice cs o vs)
  | [], o, w, cs, h, _ => by simpa [World.setCells, splice] using h
  | v :: r, o, w, cs, h, hl => by
    rw [World.setCells]
    have h2 := Lies.setCells r (o + 1) (w.setCell ⟨g, o, none⟩ v) (cs.set o v) (h.set o v) (by simp at hl ⊢; omega)
    have e : splice (cs.set o v) (o + 1) r = splice cs o (v :: r) := by
      unfold splice
      have hlt : o < cs.length := by simp at hl; omega
      have e1 : (cs.set o v).take (o + 1) = cs.take o ++ [v] := by
        rw [List.take_set, List.take_succ_eq_append_getElem hlt, List.set_append_right _ _ (by rw [List.length_take]; omega)]
        rw [List.length_take, Nat.min_eq_left (by omega), Nat.sub_self]; rfl
      have e2 : (cs.set o v).drop (o + 1 + r.length) = cs.drop (o + (v :: r).length) := by
        rw [List.drop_set_of_lt (by omega)]; congr 1; simp; omega
      rw [e1, e2]; simp
    rw [e] at h2; exact h2
theorem grown_setCells {a : World} {g : Nat} : ∀ (vs : List Value) (o : Nat) (w : World), a.grownBy w (some g) → a.grownBy (w.setCells g o vs) (some g)
  | [], _, _, h => h
  | v :: r, o, w, h => by
    rw [World.setCells]
    have hs : a.grownBy (w.setCell ⟨g, o, none⟩ v) (some g) :=
      ⟨h.os, h.tape, h.output, by have := h.size; simpa [World.setCell] using this, fun k hk hne => (Below.heap_setCell w ⟨g, o, none⟩ v k (fun e => hne (by rw [e]))).trans (h.block k hk hne)⟩
    exact grown_setCells r (o + 1) _ hs
theorem Lies.drew {w : World} {g : Nat} {t : TypeId} {cs : List Value} (h : Lies w g t cs) : Lies w.drew g t cs := h

/-- copy at elements of k cells. -/
theorem run_copy_k {P : Program} (w : World) (dT sT ty elem : TypeId) (k b o dLen dCap : Nat) (a : Addr) (sLen sCap : Nat) (cs : List Value)
    (hu : P.underlying dT = some (.slice elem)) (hs : (P.info? elem).map (·.size) = some k) (hn : cs.length = Nat.min sLen dLen * k)
    (hsrc : ∀ j v, cs[j]? = some v → w.cell? (a.add j) = some v) (hc : ∀ j, j < cs.length → (w.cell? ⟨b, o + j, none⟩).isSome = true) (hf : ∀ j, j < cs.length → w.frozen? ⟨b, o + j, none⟩ = false) (h1 : ∀ v ∈ cs, v.oneCell' = true) :
    (Builtin.copy_ #[dT, sT] ty #[.slice (some ⟨b, o, none⟩) dLen dCap, .slice (some a) sLen sCap]).run P w = .ok (goInt (Nat.min sLen dLen)) (w.setCells b o cs) := by
  have hst := run_storeCells_cells (P := P) b o cs 0 w (by simpa using hc) (by simpa using hf) h1
  cases hq : P.info? elem with
  | none => simp [hq] at hs
  | some i =>
    have hi : i.size = k := by simpa [hq] using hs
    have hfc := run_firstCells_some (P := P) w k (Nat.min sLen dLen) a sLen sCap cs hn hsrc
    simp [Builtin.copy_, run_underlying hu, Builtin.lenOf, sizeOf, typeInfo, hq, hi, hfc, hst]
/-- copy into a block that is known whole. -/
theorem run_copy_own {P : Program} (w : World) (dT sT ty elem e : TypeId) (k b o dLen dCap : Nat) (a : Addr) (sLen sCap m : Nat) (cs cur : List Value)
    (hu : P.underlying dT = some (.slice elem)) (hs : (P.info? elem).map (·.size) = some k) (hm : Nat.min sLen dLen = m) (hn : cs.length = m * k)
    (hL : Lies w b e cur) (hfit : o + cs.length ≤ cur.length) (hsrc : ∀ j v, cs[j]? = some v → w.cell? (a.add j) = some v) (h1 : ∀ v ∈ cs, v.oneCell' = true) :
    (Builtin.copy_ #[dT, sT] ty #[.slice (some ⟨b, o, none⟩) dLen dCap, .slice (some a) sLen sCap]).run P w = .ok (goInt m) (w.setCells b o cs) := by
  subst hm
  exact run_copy_k w dT sT ty elem k b o dLen dCap a sLen sCap cs hu hs hn hsrc (fun j hj => by rw [hL.cell, List.getElem?_eq_getElem (by omega)]; rfl) (fun j hj => hL.frozen _) h1
/-- clear at elements of k cells. -/
theorem run_clear_k {P : Program} (w : World) (t e ty : TypeId) (z : Value) (zs : List Value) (ht : P.underlying t = some (.slice e)) (hv : ∀ w, (zeroValue e).run P w = .ok z w) (b o n c : Nat) (hn : 0 < n) (hz : (Builtin.zeroCells z.cells n).toList = zs) (h1 : ∀ v ∈ zs, v.oneCell' = true)
    (hc : ∀ j, j < zs.length → (w.cell? ⟨b, o + j, none⟩).isSome = true) (hf : ∀ j, j < zs.length → w.frozen? ⟨b, o + j, none⟩ = false) :
    (Builtin.clear_ #[t] ty #[.slice (some ⟨b, o, none⟩) n c]).run P w = .ok (.tuple #[]) (w.setCells b o zs) := by
  have hst := run_storeCells_cells (P := P) b o zs 0 w (by simpa using hc) (by simpa using hf) h1
  simp only [Nat.add_zero] at hst
  obtain ⟨m, rfl⟩ : ∃ m, n = m + 1 := ⟨n - 1, by omega⟩
  simp [Builtin.clear_, run_underlying ht, hv, hz, hst]

/-- What an insertion in place leaves. -/
theorem splice_insert (cur xs x : List Value) (i k n : Nat) (hx : x.length = k) (hxs : xs.length = n * k) (hi : i ≤ n) (hcur : cur.take (n * k) = xs) (hroom : (n + 1) * k ≤ cur.length) :
    (splice (splice cur (i * k + k) (xs.drop (i * k))) (i * k) x).take ((n + 1) * k) = xs.take (i * k) ++ x ++ xs.drop (i * k) := by
  have hik : i * k ≤ n * k := Nat.mul_le_mul_right k hi
  have hn1 : (n + 1) * k = n * k + k := Nat.succ_mul n k
  rw [hn1] at hroom ⊢
  have hl0 : n * k ≤ cur.length := by omega
  have et : (cur.take (i * k)) = xs.take (i * k) := by rw [← hcur, List.take_take, Nat.min_eq_left hik]
  have hd : (xs.drop (i * k)).length = n * k - i * k := by rw [List.length_drop, hxs]
  have e1 : splice cur (i * k + k) (xs.drop (i * k)) = cur.take (i * k + k) ++ xs.drop (i * k) ++ cur.drop (n * k + k) := by
    unfold splice; rw [hd]; congr 2; omega
  have l1 : (cur.take (i * k + k)).length = i * k + k := by rw [List.length_take]; omega
  rw [e1]
  unfold splice
  have e2 : (cur.take (i * k + k) ++ xs.drop (i * k) ++ cur.drop (n * k + k)).take (i * k) = xs.take (i * k) := by
    rw [List.append_assoc, List.take_append_of_le_length (by omega), List.take_take, Nat.min_eq_left (by omega), et]
  have e3 : (cur.take (i * k + k) ++ xs.drop (i * k) ++ cur.drop (n * k + k)).drop (i * k + x.length) = xs.drop (i * k) ++ cur.drop (n * k + k) := by
    rw [hx, List.append_assoc, List.drop_append_of_le_length (by omega), List.drop_of_length_le (by omega), List.nil_append]
  rw [e2, e3, ← List.append_assoc]
  have l2 : (xs.take (i * k) ++ x ++ xs.drop (i * k)).length = n * k + k := by
    rw [List.length_append, List.length_append, List.length_take, hd, hxs, hx]; omega
  rw [List.take_append_of_le_length (by omega), List.take_of_length_le (by omega)]
theorem splice_len (cs vs : List Value) (o : Nat) (h : o + vs.length ≤ cs.length) : (splice cs o vs).length = cs.length := by
  unfold splice; simp; omega
/-- What a deletion leaves. -/
theorem splice_delete (cur xs zs : List Value) (i k n : Nat) (hz : zs.length = k) (hxs : xs.length = n * k) (hi : i < n) (hcur : cur.take (n * k) = xs) (hl : n * k ≤ cur.length) :
    (splice (splice cur (i * k) (xs.drop (i * k + k))) ((n - 1) * k) zs).take ((n - 1) * k) = xs.take (i * k) ++ xs.drop (i * k + k) := by
  have hik : i * k + k ≤ n * k := by rw [← Nat.succ_mul]; exact Nat.mul_le_mul_right k hi
  have hn1 : (n - 1) * k + k = n * k := by rw [← Nat.succ_mul]; congr 1; omega
  have et : (cur.take (i * k)) = xs.take (i * k) := by rw [← hcur, List.take_take, Nat.min_eq_left (by omega)]
  have hd : (xs.drop (i * k + k)).length = n * k - (i * k + k) := by rw [List.length_drop, hxs]
  have l1 : (xs.take (i * k) ++ xs.drop (i * k + k)).length = (n - 1) * k := by rw [List.length_append, List.length_take, hd, hxs]; omega
  have e1 : (splice cur (i * k) (xs.drop (i * k + k))).take ((n - 1) * k) = xs.take (i * k) ++ xs.drop (i * k + k) := by
    unfold splice; rw [et, List.take_append_of_le_length (by omega), List.take_of_length_le (by omega)]
  have l2 : (splice cur (i * k) (xs.drop (i * k + k))).length = cur.length := splice_len _ _ _ (by rw [hd]; omega)
  have e2 : (splice (splice cur (i * k) (xs.drop (i * k + k))) ((n - 1) * k) zs) = (splice cur (i * k) (xs.drop (i * k + k))).take ((n - 1) * k) ++ (zs ++ (splice cur (i * k) (xs.drop (i * k + k))).drop ((n - 1) * k + zs.length)) := by
    rw [splice, List.append_assoc]
  rw [e2, List.take_append_of_le_length (by rw [List.length_take]; omega), List.take_take, Nat.min_self, e1]
/-- What an insertion into a new row leaves. -/
theorem splice_grow (xs x Z : List Value) (i k n : Nat) (hx : x.length = k) (hxs : xs.length = n * k) (hi : i ≤ n) (hZ : (n + 1) * k ≤ i * k + Z.length) :
    (splice (splice (xs.take (i * k) ++ Z) (i * k) x) ((i + 1) * k) (xs.drop (i * k))).take ((n + 1) * k) = xs.take (i * k) ++ x ++ xs.drop (i * k) := by
  have hik : i * k ≤ n * k := Nat.mul_le_mul_right k hi
  have hn1 : (n + 1) * k = n * k + k := Nat.succ_mul n k
  have hi1 : (i + 1) * k = i * k + k := Nat.succ_mul i k
  rw [hn1] at hZ ⊢
  rw [hi1]
  have lt : (xs.take (i * k)).length = i * k := by rw [List.length_take]; omega
  have ld : (xs.drop (i * k)).length = n * k - i * k := by rw [List.length_drop, hxs]
  have e1 : splice (xs.take (i * k) ++ Z) (i * k) x = xs.take (i * k) ++ x ++ Z.drop k := by
    unfold splice
    rw [List.take_append_of_le_length (by omega), List.take_of_length_le (by omega), List.drop_append, List.drop_eq_nil_of_le (by omega), lt, hx, List.nil_append]
    congr 2; omega
  have l1 : (xs.take (i * k) ++ x).length = i * k + k := by rw [List.length_append, lt, hx]
  rw [e1]
  unfold splice
  have e2 : (xs.take (i * k) ++ x ++ Z.drop k).take (i * k + k) = xs.take (i * k) ++ x := by
    rw [List.take_append_of_le_length (by omega), List.take_of_length_le (by omega)]
  rw [e2]
  have l2 : (xs.take (i * k) ++ x ++ xs.drop (i * k)).length = n * k + k := by rw [List.length_append, l1, ld]; omega
  rw [List.take_append_of_le_length (by omega), List.take_of_length_le (by omega)]
theorem Lies.shape {w : World} {g : Nat} {t : TypeId} {cs : List Value} (h : Lies w g t cs) : w.shape? g = some (t, cs.length) := by
  unfold Lies at h; simp [World.shape?, h]
/-- Two blocks of their own do not overlap. -/
theorem run_overlaps_own {P : Program} (w : World) (f : FuncId) (fn : Func) (tS tR e : TypeId) (hf : P.funcs[f]? = some fn) (hname : (fn.name == "runtime.NumGoroutine") = false) (hb : fn.body.isNone = true) (hnx : Extern.findNext fn = none) (he : Extern.find fn = some (Extern.SlicesOverlaps.overlaps #[tS, tS] #[tR]))
    (ht : P.underlying tS = some (.slice e)) (size : Nat) (hz : ∀ w, (Go.sizeOf e).run P w = .ok size w) (ga gb : Nat) (oa ob la ca lb cb : Nat) (hne : ga ≠ gb) (ta tb : TypeId) (xa xb : List Value) (hLa : Lies w ga ta xa) (hLb : Lies w gb tb xb) (hxb : xb.length ≠ 0) :
    (callFunc f #[.slice (some ⟨ga, oa, none⟩) la ca, .slice (some ⟨gb, ob, none⟩) lb cb]).run P w = .ok (.value (.bool false)) w := by
  rw [run_callFunc_extern hf hname hb hnx he, Lib.run_overlaps_apart w tS tR e ht size hz ⟨ga, oa, none⟩ ⟨gb, ob, none⟩ la ca lb cb hne ta tb _ _ hLa.shape hLb.shape hxb (hLa.frozen _) (hLa.frozen _)]
  rfl

/-- The operation copy, where its run is known. -/
theorem wp_copy_known {P : Program} (w : World) {o : Oper} {a : Act} {K : Act → World → Prop} {Q : Exit → Act → World → Prop} (d s : Operand) (t t' : TypeId)
    (ho : o.op = .call { callee := .builtin .copy, args := #[d, s], argTypes := #[t, t'] }) (v u : Value) (hd : a.eval d = v) (hs : a.eval s = u) {v' : Value} {w' : World}
    (hr : (Builtin.copy_ #[t, t'] o.type #[v, u]).run P w = .ok v' w') (h : K (a.put o.dst v') w') : o.wp P a w K Q := by
  unfold Oper.wp execOp
  simp only [ho, resolve, invoke, builtin, Sem.run_bind, Sem.run_pure, Result.andThen_ok, List.map_toArray, List.map_cons, List.map_nil, hd, hs, hr]
  exact h
theorem wp_copy_own {P : Program} {w : World} {o : Oper} {a : Act} {K : Act → World → Prop} {Q : Exit → Act → World → Prop} (d s : Operand) (t : TypeId)
    (ho : o.op = .call { callee := .builtin .copy, args := #[d, s], argTypes := #[t, t] }) (e elem : TypeId) (k b ofs dLen dCap : Nat) (A : Addr) (sLen sCap m : Nat) (cs cur : List Value)
    (hd : a.eval d = .slice (some ⟨b, ofs, none⟩) dLen dCap) (hs : a.eval s = .slice (some A) sLen sCap)
    (hu : P.underlying t = some (.slice elem)) (hi : (P.info? elem).map (·.size) = some k) (hm : Nat.min sLen dLen = m) (hn : cs.length = m * k)
    (hL : Hid (Lies w b e cur)) (hfit : Hid (ofs + cs.length ≤ cur.length)) (hsrc : Hid (∀ j v, cs[j]? = some v → w.cell? (A.add j) = some v)) (h1 : Hid (∀ v ∈ cs, v.oneCell' = true))
    (h : ∀ w', Hid (Lies w' b e (splice cur ofs cs)) → w.grownBy w' (some b) → K (a.put o.dst (goInt m)) w') : o.wp P a w K Q :=
  wp_copy_known w d s t t ho _ _ hd hs (run_copy_own w t t o.type elem e k b ofs dLen dCap A sLen sCap m cs cur hu hi hm hn hL.out hfit.out hsrc.out h1.out) (h _ (Lies.setCells cs ofs w cur hL.out hfit.out) (grown_setCells cs ofs w (World.grownBy.refl w _)))
theorem wpList_copy_own {P : Program} {w : World} {ops : Array Oper} {rest : List Oper} {o : Oper} {a : Act} {Q : Exit → Act → World → Prop} (hgd : o.guard = none) (d s : Operand) (t : TypeId)
    (ho : o.op = .call { callee := .builtin .copy, args := #[d, s], argTypes := #[t, t] }) (e elem : TypeId) (k b ofs dLen dCap : Nat) (A : Addr) (sLen sCap m : Nat) (cs cur : List Value)
    (hd : a.eval d = .slice (some ⟨b, ofs, none⟩) dLen dCap) (hs : a.eval s = .slice (some A) sLen sCap)
    (hu : P.underlying t = some (.slice elem)) (hi : (P.info? elem).map (·.size) = some k) (hm : Nat.min sLen dLen = m) (hn : cs.length = m * k)
    (hL : Hid (Lies w b e cur)) (hfit : Hid (ofs + cs.length ≤ cur.length)) (hsrc : Hid (∀ j v, cs[j]? = some v → w.cell? (A.add j) = some v)) (h1 : Hid (∀ v ∈ cs, v.oneCell' = true))
    (h : ∀ w', Hid (Lies w' b e (splice cur ofs cs)) → w.grownBy w' (some b) → wpList P ops Q rest (a.put o.dst (goInt m)) w') : wpList P ops Q (o :: rest) a w :=
  wpList_plain hgd fun _ hK => wp_copy_own d s t ho e elem k b ofs dLen dCap A sLen sCap m cs cur hd hs hu hi hm hn hL hfit hsrc h1 fun w' h2 h3 => hK _ _ (h w' h2 h3)
theorem step_copy_own {P : Program} {w : World} {ops : Array Oper} {o : Oper} {a : Act} {K : Act → World → Prop} {Q : Exit → Act → World → Prop} {E : Prop} (hgd : o.guard = none) (d s : Operand) (t : TypeId)
    (ho : o.op = .call { callee := .builtin .copy, args := #[d, s], argTypes := #[t, t] }) (e elem : TypeId) (k b ofs dLen dCap : Nat) (A : Addr) (sLen sCap m : Nat) (cs cur : List Value)
    (hd : a.eval d = .slice (some ⟨b, ofs, none⟩) dLen dCap) (hs : a.eval s = .slice (some A) sLen sCap)
    (hu : P.underlying t = some (.slice elem)) (hi : (P.info? elem).map (·.size) = some k) (hm : Nat.min sLen dLen = m) (hn : cs.length = m * k)
    (hL : Hid (Lies w b e cur)) (hfit : Hid (ofs + cs.length ≤ cur.length)) (hsrc : Hid (∀ j v, cs[j]? = some v → w.cell? (A.add j) = some v)) (h1 : Hid (∀ v ∈ cs, v.oneCell' = true))
    (h : ∀ w', Hid (Lies w' b e (splice cur ofs cs)) → w.grownBy w' (some b) → K (a.put o.dst (goInt m)) w') :
    if Region.wanted o (yielded ops a.tmps) = true then Oper.wp P o a w K Q else E := by
  have hw : Region.wanted o (yielded ops a.tmps) = true := by simp [Region.wanted, hgd]
  rw [if_pos hw]
  exact wp_copy_own d s t ho e elem k b ofs dLen dCap A sLen sCap m cs cur hd hs hu hi hm hn hL hfit hsrc h1 h
/-- The operation clear, into a block that is known whole. -/
theorem wpList_clear_own {P : Program} {w : World} {ops : Array Oper} {rest : List Oper} {o : Oper} {a : Act} {Q : Exit → Act → World → Prop} (hgd : o.guard = none) (d : Operand) (t : TypeId)
    (ho : o.op = .call { callee := .builtin .clear, args := #[d], argTypes := #[t] }) (e el : TypeId) (z : Value) (zs : List Value) (b ofs n c : Nat) (cur : List Value) (hd : a.eval d = .slice (some ⟨b, ofs, none⟩) n c)
    (ht : P.underlying t = some (.slice e)) (hv : ∀ w, (zeroValue e).run P w = .ok z w) (hn : 0 < n) (hz : (Builtin.zeroCells z.cells n).toList = zs) (h1 : ∀ v ∈ zs, v.oneCell' = true)
    (hL : Hid (Lies w b el cur)) (hfit : Hid (ofs + zs.length ≤ cur.length))
    (h : ∀ w', Hid (Lies w' b el (splice cur ofs zs)) → w.grownBy w' (some b) → wpList P ops Q rest (a.put o.dst (.tuple #[])) w') : wpList P ops Q (o :: rest) a w := by
  have hr := run_clear_k (P := P) w t e o.type z zs ht hv b ofs n c hn hz h1 (fun j hj => by rw [hL.out.cell, List.getElem?_eq_getElem (by have := hfit.out; omega)]; rfl) (fun j hj => hL.out.frozen _)
  refine wpList_plain hgd fun K hK => ?_
  unfold Oper.wp execOp
  simp only [ho, resolve, invoke, builtin, Sem.run_bind, Sem.run_pure, Result.andThen_ok, List.map_toArray, List.map_cons, List.map_nil, hd, hr]
  exact hK _ _ (h _ (Lies.setCells zs ofs w cur hL.out hfit.out) (grown_setCells zs ofs w (World.grownBy.refl w _)))
end Go.Proofs.Ytdiojhjkcholiaa

/- slices.BinarySearchFunc, Insert at impl.Tray (printed by gen_libq.py). -/
namespace Go.Proofs.Ytdiojhjkcholiaa
open Go.RowKit

set_option maxRecDepth 100000 in
set_option maxHeartbeats 2000000 in
/-- slices.BinarySearchFunc: the first b of the list come before the target, the others do not. -/
theorem bsTray_any (cf : Tray → Int) (tv : Value) (g : Nat) (lb : Array Value) (eg : ∀ args w, (callFunc g args).run Try.prog w = .ok (.enter g args) w) (A : Option Addr) (c : Nat) (l : List Tray) (w : World)
    (hf : ∀ (t : Tray) (p : Since w.heap.size w), Calls Try.prog g (#[t.val, tv] ++ lb) p.val fun e w' => e = .returned (.int .i64 (cf t)) ∧ Below p.val.heap.size p.val w') (h : TraysR w w.heap.size A l) (hl : l.length ≤ 1000000)
    (b : Nat) (hb : b ≤ l.length) (hlo : ∀ i (h : i < l.length), i < b → cf l[i] < 0) (hhi : ∀ i (h : i < l.length), b ≤ i → ¬ cf l[i] < 0) (fd : Bool) (hfd : ∀ h : b < l.length, fd = decide (cf l[b] = 0)) (hfd' : b = l.length → fd = false) :
    Calls Try.prog 80 #[.slice A l.length c, tv, .func (.func g) #[] lb] w fun e w' => e = .returned (.tuple #[.int .i64 b, .bool fd]) ∧ Below w.heap.size w w' := by
  have hrd := h.el
  have HC := Lib.hid hf; clear hf
  have HLO := Lib.hid hlo; clear hlo
  have HHI := Lib.hid hhi; clear hhi
  have HFD := Lib.hid hfd; clear hfd
  have HFD' := Lib.hid hfd'; clear hfd'
  go_enter Try.func80, Try.ntmps80
  go_wp2
  go_loopw [9, 10] (fun s9 s10 wr => ∃ lo hi : Nat, s9 = .int .i64 lo ∧ s10 = .int .i64 hi ∧ lo ≤ b ∧ b ≤ hi ∧ hi ≤ l.length ∧ (∃ q : Since w.heap.size w, wr = q.val)) (fun s9 s10 _ => (intOf s10).toNat - (intOf s9).toNat)
  case atStart => exact ⟨0, l.length, rfl, rfl, Nat.zero_le _, hb, Nat.le_refl _, Since.start _ _, rfl⟩
  case round =>
    obtain ⟨lo, hi, rfl, rfl, h1, h2, h3, ⟨q, rfl⟩⟩ := hrel
    by_cases hlt : lo < hi
    · have hm : (lo + hi) / 2 < l.length := by omega
      obtain ⟨bb, off, rfl, hbb, hcell⟩ := hrd (by omega)
      obtain ⟨c0, c1⟩ := hcell ((lo + hi) / 2) hm
      have k1 : cf l[(lo + hi) / 2] < 0 → (lo + hi) / 2 + 1 ≤ b := fun hv => by
        rcases Nat.lt_or_ge ((lo + hi) / 2) b with h | h
        · exact h
        · have := HHI.out _ hm h; omega
      have k2 : ¬ cf l[(lo + hi) / 2] < 0 → b ≤ (lo + hi) / 2 := fun hv => by
        rcases Nat.lt_or_ge ((lo + hi) / 2) b with h | h
        · have := HLO.out _ hm h; omega
        · exact h
      obtain ⟨x, hxe⟩ : ∃ x, x = l[(lo + hi) / 2] := ⟨_, rfl⟩
      rw [← hxe] at c0 c1 k1 k2
      have hcx := fun p => HC.out x p
      clear hxe hcell hrd
      by_cases hv : cf x < 0
      · have K := k1 hv
        clear k1 k2
        go_wp2_with fail
        refine (calls_since (Nat.le_refl _) (hcx _)).mono ?_
        rintro e w1 ⟨rfl, q1, rfl⟩
        go_wp2
        go_roundw
        case rel => exact ⟨(lo + hi) / 2 + 1, hi, by go_num, rfl, K, h2, h3, ⟨q1, rfl⟩⟩
        case measure => simp [intOf]; omega
      · have K := k2 hv
        clear k1 k2
        go_wp2_with fail
        refine (calls_since (Nat.le_refl _) (hcx _)).mono ?_
        rintro e w1 ⟨rfl, q1, rfl⟩
        go_wp2
        go_roundw
        case rel => exact ⟨lo, (lo + hi) / 2, rfl, by go_num, h1, K, by omega, ⟨q1, rfl⟩⟩
        case measure => simp [intOf]; omega
    · obtain rfl : hi = b := by omega
      obtain rfl : lo = hi := by omega
      by_cases hlb : lo < l.length
      · obtain ⟨bb, off, rfl, hbb, hcell⟩ := hrd (by omega)
        obtain ⟨c0, c1⟩ := hcell lo hlb
        have HE := Lib.hid (HFD.out hlb)
        obtain ⟨x, hxe⟩ : ∃ x, x = l[lo] := ⟨_, rfl⟩
        rw [← hxe] at c0 c1 HE
        have hcx := fun p => HC.out x p
        clear hxe hcell hrd
        by_cases hv : cf x = 0
        · have hv' : (cf x == 0) = true := by simp [hv]
          have HV : Hid (fd = true) := by unfold Hid; rw [HE.out, decide_eq_true hv]
          clear hv
          go_wp2_with fail
          refine (calls_since (Nat.le_refl _) (hcx _)).mono ?_
          rintro e w1 ⟨rfl, q1, rfl⟩
          go_wp2
          go_ret2
          exact ⟨by rw [HV.out]; rfl, q1.below⟩
        · have hv' : (cf x == 0) = false := by simp [hv]
          have HV : Hid (fd = false) := by unfold Hid; rw [HE.out, decide_eq_false hv]
          clear hv
          go_wp2_with fail
          refine (calls_since (Nat.le_refl _) (hcx _)).mono ?_
          rintro e w1 ⟨rfl, q1, rfl⟩
          go_wp2
          go_ret2
          exact ⟨by rw [HV.out]; rfl, q1.below⟩
      · have HV := Lib.hid (HFD'.out (by omega))
        clear hrd
        go_wp2
        go_ret2
        exact ⟨by rw [HV.out]; rfl, q.below⟩

theorem tray_cells {l : List Tray} : ∀ u ∈ l.flatMap Tray.enc, u.oneCell' = true := by
  intro u hu
  obtain ⟨r, _, hr⟩ := List.mem_flatMap.1 hu
  simp only [Tray.enc, List.mem_cons, List.not_mem_nil, or_false] at hr
  rcases hr with rfl | rfl <;> rfl
/-- slices.Clone. -/
theorem cloneTray_any (A : Option Addr) (c : Nat) (l : List Tray) (w : World) (h : TraysR w w.heap.size A l) (hn : l.length ≤ 1000000) :
    Calls Try.prog 88 #[.slice A l.length c] w fun e w' => ∃ A' c', e = .returned (.slice A' l.length c') ∧ w'.ownsRow w.heap.size 74 2 (.slice A' l.length c') l.length (l.flatMap Tray.enc) ∧ Below w.heap.size w w' := by
  rcases A with _ | ad
  · have h0 : l.length = 0 := by
      rcases Nat.eq_zero_or_pos l.length with h0 | h0
      · exact h0
      · obtain ⟨_, _, h1, _⟩ := h.at_ h0; cases h1
    obtain rfl : l = [] := List.eq_nil_of_length_eq_zero h0
    have hq := fun W => Lib.run_eql_slice_nil (P := Try.prog) W 22 74 none 0 c 0 0 Try.underlying22
    go_enter Try.func88, Try.ntmps88
    go_wp2_with fail
    go_ret
    exact ⟨none, 0, rfl, ⟨by simp, .inl ⟨rfl, rfl⟩⟩, Below.refl _ _⟩
  · have HO : Hid ((w.alloc (.cells #[] 74)).ownsRow w.heap.size 74 2 (.slice (some ⟨w.heap.size, 0, none⟩) 0 0) 0 []) := owns_empty (Lies.new w 74 #[]) (Nat.le_refl _)
    have b1 := (Below.refl w.heap.size w).alloc (Nat.le_refl _) (.cells #[] 74)
    have HR := Lib.hid (SlcR.below h b1)
    have hq := fun W => Lib.run_eql_slice_nil (P := Try.prog) W 22 74 (some ad) l.length c 0 0 Try.underlying22
    go_enter Try.func88, Try.ntmps88
    go_wp2_with (at_builtin; refine wpList_cat rfl _ _ 22 rfl 74 _ 2 16 Try.underlying22 infoTray rfl (by omega) (by omega) w.heap.size _ 0 [] rfl HO w.heap.size (some ad) l.length c (l.flatMap Tray.enc) rfl HR tray_cells (by omega) b1.size ?_; intro v' w1 hown _ hb2 _)
    go_ret
    have ho := hown.out
    rw [Nat.zero_add, List.nil_append] at ho
    obtain ⟨A', c', rfl⟩ := ownsRow_slice ho
    exact ⟨A', c', rfl, ho, b1.trans hb2⟩

set_option maxRecDepth 100000 in
set_option maxHeartbeats 4000000 in
/-- slices.Insert of one element at the end. -/
theorem insTray_end (B : Nat) (v : Value) (n : Nat) (xs : List Value) (w : World) (hown : w.ownsRow B 74 2 v n xs) (hn : n ≤ 1000000) (r : Tray) (gx cx : Nat) (hx : Lies w gx 74 r.enc) (hB : B ≤ w.heap.size) :
    Calls Try.prog 83 #[v, .int .i64 n, .slice (some ⟨gx, 0, none⟩) 1 cx] w fun e w' => ∃ v', e = .returned v' ∧ w'.ownsRow B 74 2 v' (n + 1) (xs ++ r.enc) ∧ w.grownBy w' v.ownBlock := by
  obtain ⟨i0, hi0, hz0, hzs, hzb⟩ := info_parts infoTray
  obtain ⟨v', w', hrun, h2, h3, _, _⟩ := run_append_own_at (P := Try.prog) w B 22 22 74 i0 _ 2 16 Try.underlying22 hi0 hz0 hzs hzb rfl (by omega) v n xs hown ⟨gx, 0, none⟩ 1 cx r.enc rfl (fun j u hj => by rw [addr_add, Nat.zero_add, hx.cell]; exact hj) (by simp [Tray.enc, Value.oneCell']) (by unfold maxLen; omega) (by omega) hB
  have HO := Lib.hid h2; clear h2
  have HG := Lib.hid h3; clear h3
  have HR := Lib.hid hrun; clear hrun
  obtain ⟨_, ⟨rfl, rfl⟩ | ⟨g, cap, cur, rfl, hg, hh, hc, hc', _, _⟩⟩ := hown
  · go_enter Try.func83, Try.ntmps83
    go_wp2_with (at_builtin; refine Lib.wpList_append_run _ rfl _ _ 22 22 rfl _ _ rfl rfl v' w' HR.out ?_)
    go_ret
    exact ⟨v', rfl, HO.out, HG.out⟩
  · have hc2 : cap ≤ 9223372036854775807 := by unfold maxLen at hc'; omega
    clear hc'
    by_cases hcn : cap = n
    all_goals
      go_enter Try.func83, Try.ntmps83
      go_wp2_with (at_builtin; refine Lib.wpList_append_run _ rfl _ _ 22 22 rfl _ _ rfl rfl v' w' HR.out ?_)
      go_ret
      exact ⟨v', rfl, HO.out, HG.out⟩

set_option maxRecDepth 100000 in
set_option maxHeartbeats 4000000 in
/-- slices.Insert of one element, no room: a new row. -/
theorem insTray_grow (B g n : Nat) (cur : Array Value) (xs : List Value) (w : World) (hL : Lies w g 74 cur.toList) (hcs : cur.size = n * 2) (hcur : cur.toList.take (n * 2) = xs) (i : Nat) (hi : i < n) (hn : n ≤ 1000000) (r : Tray) (gx cx : Nat) (hx : Lies w gx 74 r.enc) (hB : B ≤ w.heap.size) (h1 : ∀ u ∈ xs, u.oneCell' = true) :
    Calls Try.prog 83 #[.slice (some ⟨g, 0, none⟩) n n, .int .i64 i, .slice (some ⟨gx, 0, none⟩) 1 cx] w fun e w' => ∃ v', e = .returned v' ∧ w'.ownsRow B 74 2 v' (n + 1) (xs.take (i * 2) ++ r.enc ++ xs.drop (i * 2)) ∧ w.grownBy w' (some g) := by
  have mixed : Try.prog.follows .mixedOrders = true := by kernel_rfl
  obtain ⟨i0, hi0, hz0, hzs, hzb⟩ := info_parts infoTray
  have hxl : xs.length = n * 2 := by rw [← hcur, List.length_take, Array.length_toList, hcs, Nat.min_self]
  have hik : i * 2 ≤ n * 2 := Nat.mul_le_mul_right _ (by omega)
  have hsz : (Try.prog.info? 74).map (·.size) = some 2 := by rw [hi0]; simp [hzs]
  have hkk : (n : Int) + 1 - (i : Int) = ((n + 1 - i : Nat) : Int) := by omega
  have hik2 : i + (n + 1 - i) = n + 1 := by omega
  have hcell : ∀ j u, xs[j]? = some u → w.cell? ⟨g, j, none⟩ = some u := fun j u hu => by
    rw [hL.cell]
    rw [← hcur, List.getElem?_take] at hu
    split at hu
    · exact hu
    · cases hu
  have hold : (Builtin.firstCells i0.size i (.slice (some ⟨g, 0, none⟩) i n)).run Try.prog w.drew = .ok (xs.take (i * 2)).toArray w.drew := by
    rw [hzs]
    exact run_firstCells_some w.drew 2 i ⟨g, 0, none⟩ i n (xs.take (i * 2)) (by rw [List.length_take]; omega) (fun j u hj => by
      rw [addr_add, Nat.zero_add]
      rw [List.getElem?_take] at hj
      split at hj
      · exact hcell j u hj
      · cases hj)
  have hrz := Lib.run_append_grow_zeros (P := Try.prog) w 22 3 22 74 i0 _ .i64 .i64 Try.underlying22 Try.underlying3 hi0 hz0 (some ⟨g, 0, none⟩) i n (xs.take (i * 2)) hold (n + 1 - i) (by omega) (by omega) (by omega) (by omega) (by rw [hzb]; omega) (by rw [hzb, hik2]; exact growslice_fits (by omega) (by omega))
  rw [hik2, ← hkk] at hrz
  obtain ⟨G, hG⟩ : ∃ G, G = grownCap w (n + 1) n 74 := ⟨_, rfl⟩
  have hGn : n + 1 ≤ G := by rw [hG]; exact grownCap_ge w _ _ _
  have hG63 : G ≤ maxLen := by rw [hG]; exact grownCap_le_maxLen w (n + 1) n 74 (by unfold maxLen; omega)
  have hG64 : G ≤ 9223372036854775807 := by unfold maxLen at hG63; omega
  rw [← hG] at hrz
  obtain ⟨Z, hZ⟩ : ∃ Z : List Value, Z = (Builtin.zeroCells (Value.agg #[.int .i64 0, .int .i64 0]).cells (n + 1 - i) ++ Builtin.zeroCells (Value.agg #[.int .i64 0, .int .i64 0]).cells (G - (n + 1))).toList := ⟨_, rfl⟩
  have hZl : Z.length = (n + 1 - i) * 2 + (G - (n + 1)) * 2 := by rw [hZ, Array.length_toList, Array.size_append, size_zeroCells, size_zeroCells]; rfl
  obtain ⟨ROW, hROW⟩ : ∃ ROW : Array Value, ROW = (xs.take (i * 2)).toArray ++ Builtin.zeroCells (Value.agg #[.int .i64 0, .int .i64 0]).cells (n + 1 - i) ++ Builtin.zeroCells (Value.agg #[.int .i64 0, .int .i64 0]).cells (G - (n + 1)) := ⟨_, rfl⟩
  have hRl : ROW.toList = xs.take (i * 2) ++ Z := by rw [hROW, hZ]; simp
  rw [← hROW] at hrz
  clear hROW hZ hG hold hcs hcur
  obtain ⟨W1, hW1⟩ : ∃ W1, W1 = w.drew.alloc (.cells ROW 74) := ⟨_, rfl⟩
  rw [← hW1] at hrz
  have LN : Lies W1 w.heap.size 74 (xs.take (i * 2) ++ Z) := by rw [hW1, ← hRl]; exact Lies.new w.drew 74 ROW
  have hb1 : Below w.heap.size w W1 := by rw [hW1]; exact ((Below.refl w.heap.size w).drew).alloc (Nat.le_refl _) _
  have hLg : g < w.heap.size := hL.lt
  have hLx : gx < w.heap.size := hx.lt
  clear hW1 hRl ROW
  have hlen : (xs.take (i * 2) ++ Z).length = G * 2 := by
    rw [List.length_append, List.length_take, hZl, hxl, Nat.min_eq_left hik, ← Nat.add_mul, ← Nat.add_mul]; congr 1; omega
  have hGk : (n + 1) * 2 ≤ G * 2 := Nat.mul_le_mul_right _ hGn
  have hnk : (n + 1) * 2 = n * 2 + 2 := Nat.succ_mul n 2
  have HL0 := Lib.hid LN; clear LN
  have HF0 : Hid (i * 2 + r.enc.length ≤ (xs.take (i * 2) ++ Z).length) := by unfold Hid; rw [Tray.enc_len, hlen]; omega
  have HX1 : Hid (∀ j v, r.enc[j]? = some v → W1.cell? ((⟨gx, 0, none⟩ : Addr).add j) = some v) := fun j u hj => by rw [addr_add, Nat.zero_add, (hx.below hb1 hLx).cell]; exact hj
  have HE1 : Hid (∀ v ∈ r.enc, v.oneCell' = true) := by unfold Hid; simp [Tray.enc, Value.oneCell']
  have HE2 : Hid (∀ v ∈ xs.drop (i * 2), v.oneCell' = true) := fun v hv => h1 v (List.mem_of_mem_drop hv)
  have HC : Hid (∀ j u, xs[j]? = some u → W1.cell? ⟨g, j, none⟩ = some u) := fun j u hu => (hb1.cell hLg).trans (hcell j u hu)
  have HLn : Hid ((xs.take (i * 2) ++ Z).length = G * 2) := hlen
  have HXL := Lib.hid hxl
  have HDL : Hid ((xs.drop (i * 2)).length = (n - i) * 2) := by unfold Hid; rw [List.length_drop, hxl, Nat.sub_mul]
  have hGi : ¬ (G = i) := by omega
  have hGi1 : ¬ (G = i + 1) := by omega
  have hni : ¬ (n = i) := by omega
  have hz2 : ¬ ((i : Int) = (n : Int)) := by omega
  have hz3 : (n : Int) < (n : Int) + 1 := by omega
  have hmin1 : Nat.min 1 (n + 1 - i) = 1 := by simp only [Nat.min_def]; split <;> omega
  have hmin2 : Nat.min (n - i) (n - i) = n - i := Nat.min_self _
  have hw1 : IntKind.i64.wrap ((i : Int) + 1) = (i : Int) + 1 := by rw [IntKind.wrap_i64]; omega
  have hb1' : (0 : Int) ≤ (i : Int) + 1 := by omega
  have hin : i ≤ n := by omega
  have HR := hrz
  clear hrz hcell hL h1 hx hlen hxl hik2 hkk hsz
  go_enter Try.func83, Try.ntmps83
  go_wp2_with (first
    | (at_builtin; refine Lib.wpList_append_run _ rfl _ _ 22 3 rfl _ _ rfl rfl _ _ HR ?_)
    | (with_reducible show wpList _ _ _ (Oper.mk (some 45) _ _ _ _ _ :: _) _ _; refine wpList_copy_own rfl _ _ 22 rfl 74 74 2 w.heap.size (i * 2) (n + 1 - i) (G - i) ⟨gx, 0, none⟩ 1 cx 1 r.enc _ rfl rfl Try.underlying22 ?u1 ?u2 (by rw [Tray.enc_len]) HL0 HF0 HX1 HE1 ?_; rotate_right; intro W2 HL2 hg2))
  case u1 => rw [hi0]; simp [hzs]
  case u2 => exact hmin1
  have hWs : w.heap.size ≤ W1.heap.size := hb1.size
  have hW1g : w.heap.size < W1.heap.size := HL0.out.lt
  have LG2 : ∀ j u, xs[j]? = some u → W2.cell? ⟨g, j, none⟩ = some u := fun j u hu => (grown_cell hg2 ⟨g, j, none⟩ (by simp only; omega) (by simp only; intro e; injection e with e; omega)).trans (HC.out j u hu)
  have HL2' : Hid (Lies W2.drew w.heap.size 74 (splice (xs.take (i * 2) ++ Z) (i * 2) r.enc)) := HL2.out.drew
  have HF2 : Hid ((i + 1) * 2 + (xs.drop (i * 2)).length ≤ (splice (xs.take (i * 2) ++ Z) (i * 2) r.enc).length) := by
    unfold Hid
    rw [splice_len _ _ _ HF0.out, HLn.out, HDL.out, ← Nat.add_mul]
    exact Nat.mul_le_mul_right _ (by omega)
  have HX2 : Hid (∀ j v, (xs.drop (i * 2))[j]? = some v → W2.drew.cell? ((⟨g, i * 2, none⟩ : Addr).add j) = some v) := fun j u hj => by
    rw [addr_add]; exact LG2 _ u (by rwa [List.getElem?_drop] at hj)
  clear LG2 HX1
  go_still_tail 8, (by kernel_rfl)
  change wpList _ _ _ _ _ W2.drew
  go_wp2_with (with_reducible show wpList _ _ _ (Oper.mk (some 54) _ _ _ _ _ :: _) _ _; refine wpList_copy_own rfl _ _ 22 rfl 74 74 2 w.heap.size ((i + 1) * 2) (n - i) (G - (i + 1)) ⟨g, i * 2, none⟩ (n - i) (n - i) (n - i) (xs.drop (i * 2)) _ rfl rfl Try.underlying22 ?v3 hmin2 HDL.out HL2' HF2 HX2 HE2 ?_; rotate_right; intro W3 HL3 hg3)
  case v3 => rw [hi0]; simp [hzs]
  go_ret
  have hw3 : Below w.heap.size w W3 := ((hb1.grown hg2 hWs (by rintro _ ⟨⟩; exact Nat.le_refl _)).drew).grown hg3 (by have := hg2.size; simp; omega) (by rintro _ ⟨⟩; exact Nat.le_refl _)
  refine ⟨_, rfl, ⟨?_, .inr ⟨w.heap.size, G, (splice (splice (xs.take (i * 2) ++ Z) (i * 2) r.enc) ((i + 1) * 2) (xs.drop (i * 2))).toArray, rfl, hB, HL3.out, hGn, hG63, ?_, ?_⟩⟩, ⟨hw3.os, hw3.tape, hw3.output, hw3.size, fun j hj _ => hw3.block j hj⟩⟩
  · rw [List.length_append, List.length_append, List.length_take, Tray.enc_len, HDL.out, HXL.out, Nat.sub_mul]; omega
  · rw [List.size_toArray, splice_len _ _ _ HF2.out, splice_len _ _ _ HF0.out, HLn.out]
  · show List.take _ (splice _ _ _) = _
    exact splice_grow xs r.enc Z i 2 n (Tray.enc_len r) HXL.out hin (by rw [hZl, ← Nat.add_mul, ← Nat.add_mul]; exact Nat.mul_le_mul_right _ (by omega))

set_option maxRecDepth 100000 in
set_option maxHeartbeats 4000000 in
/-- slices.Insert of one element, with room: in place. -/
theorem insTray_room (B g n cap : Nat) (cur : Array Value) (xs : List Value) (w : World) (hL : Lies w g 74 cur.toList) (hcs : cur.size = cap * 2) (hroom : n + 1 ≤ cap) (hcm : cap ≤ maxLen) (hcur : cur.toList.take (n * 2) = xs) (i : Nat) (hi : i < n) (hn : n ≤ 1000000) (r : Tray) (gx cx : Nat) (hx : Lies w gx 74 r.enc) (hne : gx ≠ g) (hB : B ≤ g) (h1 : ∀ u ∈ xs, u.oneCell' = true) :
    Calls Try.prog 83 #[.slice (some ⟨g, 0, none⟩) n cap, .int .i64 i, .slice (some ⟨gx, 0, none⟩) 1 cx] w fun e w' => ∃ v', e = .returned v' ∧ w'.ownsRow B 74 2 v' (n + 1) (xs.take (i * 2) ++ r.enc ++ xs.drop (i * 2)) ∧ w.grownBy w' (some g) := by
  have mixed : Try.prog.follows .mixedOrders = true := by kernel_rfl
  obtain ⟨i0, hi0, hz0, hzs, hzb⟩ := info_parts infoTray
  have hnk : n * 2 ≤ cap * 2 := Nat.mul_le_mul_right _ (by omega)
  have hnk1 : (n + 1) * 2 ≤ cap * 2 := Nat.mul_le_mul_right _ hroom
  have hcl : cur.toList.length = cap * 2 := by rw [Array.length_toList, hcs]
  have hxl : xs.length = n * 2 := by rw [← hcur, List.length_take, hcl]; omega
  have hik : i * 2 ≤ n * 2 := Nat.mul_le_mul_right _ (by omega)
  have hcell : ∀ j u, xs[j]? = some u → w.cell? ⟨g, j, none⟩ = some u := fun j u hu => by
    rw [hL.cell]
    rw [← hcur, List.getElem?_take] at hu
    split at hu
    · exact hu
    · cases hu
  have hov : ∀ ob lb cb, (callFunc 100 #[.slice (some ⟨gx, 0, none⟩) 1 cx, .slice (some ⟨g, ob, none⟩) lb cb]).run Try.prog w = .ok (.value (.bool false)) w := fun ob lb cb =>
    run_overlaps_own w 100 Try.f100 22 4 74 (by kernel_rfl) (by kernel_rfl) (by kernel_rfl) (by kernel_rfl) (by kernel_rfl) Try.underlying22 2 Try.sizeOf74 gx g 0 ob 1 cx lb cb hne _ _ _ _ hx hL (by rw [hcl]; omega)
  have hc63 : cap ≤ 9223372036854775807 := by unfold maxLen at hcm; omega
  have HL0 := Lib.hid hL
  have HE1 : Hid (∀ v ∈ r.enc, v.oneCell' = true) := by unfold Hid; simp [Tray.enc, Value.oneCell']
  have HE2 : Hid (∀ v ∈ xs.drop (i * 2), v.oneCell' = true) := fun v hv => h1 v (List.mem_of_mem_drop hv)
  have HXL := Lib.hid hxl
  have HCL := Lib.hid hcl
  have HCU := Lib.hid hcur
  have HCM := Lib.hid hcm
  have HDL : Hid ((xs.drop (i * 2)).length = (n - i) * 2) := by unfold Hid; rw [List.length_drop, hxl, Nat.sub_mul]
  have HFA : Hid ((i + 1) * 2 + (xs.drop (i * 2)).length ≤ cur.toList.length) := by
    unfold Hid; rw [HDL.out, hcl, ← Nat.add_mul]; exact Nat.mul_le_mul_right _ (by omega)
  have HXA : Hid (∀ j v, (xs.drop (i * 2))[j]? = some v → w.drew.cell? ((⟨g, i * 2, none⟩ : Addr).add j) = some v) := fun j u hj => by
    rw [addr_add]; exact hcell _ u (by rwa [List.getElem?_drop] at hj)
  have HLA : Hid (Lies w.drew g 74 cur.toList) := hL.drew
  have hxlt : gx < w.heap.size := hx.lt
  have HX := Lib.hid hx
  have hz1 : ¬ ((i : Int) = (n : Int)) := by omega
  have hz2 : ¬ ((cap : Int) < (n : Int) + 1) := by omega
  have hci : ¬ (cap = i) := by omega
  have hci1 : ¬ (cap = i + 1) := by omega
  have hin : i ≤ n := by omega
  have hin1 : i ≤ n + 1 := by omega
  have hint : (i : Int) ≤ (n : Int) + 1 := by omega
  have hw1 : IntKind.i64.wrap ((i : Int) + 1) = (i : Int) + 1 := by rw [IntKind.wrap_i64]; omega
  have hb1' : (0 : Int) ≤ (i : Int) + 1 := by omega
  have hmin2 : Nat.min (n + 1 - i) (n - i) = n - i := by simp only [Nat.min_def]; split <;> omega
  have hmin1 : Nat.min 1 (n + 1 - i) = 1 := by simp only [Nat.min_def]; split <;> omega
  clear hcl hcur hcs hxl hL hx hcell h1 hcm
  go_enter Try.func83, Try.ntmps83
  go_wp2_with (simp only [hov])
  go_still_tail 8, (by kernel_rfl)
  change wpList _ _ _ _ _ w.drew
  go_wp2_with (first
    | (with_reducible show wpList _ _ _ (Oper.mk (some 77) _ _ _ _ _ :: _) _ _; refine wpList_copy_own rfl _ _ 22 rfl 74 74 2 g ((i + 1) * 2) (n - i) (cap - (i + 1)) ⟨g, i * 2, none⟩ (n + 1 - i) (cap - i) (n - i) (xs.drop (i * 2)) _ rfl rfl Try.underlying22 ?v3 hmin2 HDL.out HLA HFA HXA HE2 ?_; rotate_right; intro W2 HL2 hg2)
    | (with_reducible show wpList _ _ _ (Oper.mk (some 82) _ _ _ _ _ :: _) _ _; refine wpList_copy_own rfl _ _ 22 rfl 74 74 2 g (i * 2) (n + 1 - i) (cap - i) ⟨gx, 0, none⟩ 1 cx 1 r.enc _ rfl rfl Try.underlying22 ?v4 hmin1 ?v5 HL2 ?v6 ?v7 HE1 ?_; rotate_right; intro W3 HL3 hg3))
  case v3 => rw [hi0]; simp [hzs]
  case v4 => rw [hi0]; simp [hzs]
  case v5 => rw [Tray.enc_len]
  case v6 => unfold Hid; rw [splice_len _ _ _ HFA.out, HCL.out, Tray.enc_len]; omega
  case v7 => exact fun j u hj => by rw [addr_add, Nat.zero_add, (grown_cell hg2 ⟨gx, j, none⟩ hxlt (by simp only; intro e; injection e with e; exact hne e)), HX.out.drew.cell]; exact hj
  have HF6 : Hid (i * 2 + r.enc.length ≤ (splice cur.toList ((i + 1) * 2) (xs.drop (i * 2))).length) := by unfold Hid; rw [splice_len _ _ _ HFA.out, HCL.out, Tray.enc_len]; omega
  go_ret
  have e1 : (i + 1) * 2 = i * 2 + 2 := Nat.succ_mul i 2
  refine ⟨_, rfl, ⟨?_, .inr ⟨g, cap, (splice (splice cur.toList ((i + 1) * 2) (xs.drop (i * 2))) (i * 2) r.enc).toArray, rfl, hB, HL3.out, hroom, HCM.out, ?_, ?_⟩⟩, ?_⟩
  · rw [List.length_append, List.length_append, List.length_take, Tray.enc_len, HDL.out, HXL.out, Nat.sub_mul]; omega
  · rw [List.size_toArray, splice_len _ _ _ HF6.out, splice_len _ _ _ HFA.out, HCL.out]
  · show List.take _ (splice _ _ _) = _
    rw [e1]
    exact splice_insert cur.toList xs r.enc i 2 n (Tray.enc_len r) HXL.out hin HCU.out (by rw [HCL.out]; exact hnk1)
  · exact ⟨hg3.os.trans hg2.os, hg3.tape.trans hg2.tape, hg3.output.trans hg2.output, Nat.le_trans hg2.size hg3.size, fun j hj hq => (hg3.block j (Nat.lt_of_lt_of_le hj hg2.size) hq).trans (hg2.block j hj hq)⟩

/-- slices.Insert of one element, wherever. -/
theorem insTray_any (B : Nat) (v : Value) (n : Nat) (xs : List Value) (w : World) (hown : w.ownsRow B 74 2 v n xs) (hn : n ≤ 1000000) (i : Nat) (hi : i ≤ n) (r : Tray) (gx cx : Nat) (hx : Lies w gx 74 r.enc) (hne : v.ownBlock ≠ some gx) (hB : B ≤ w.heap.size) (h1 : ∀ u ∈ xs, u.oneCell' = true) :
    Calls Try.prog 83 #[v, .int .i64 i, .slice (some ⟨gx, 0, none⟩) 1 cx] w fun e w' => ∃ v', e = .returned v' ∧ w'.ownsRow B 74 2 v' (n + 1) (xs.take (i * 2) ++ r.enc ++ xs.drop (i * 2)) ∧ w.grownBy w' v.ownBlock := by
  rcases Nat.lt_or_ge i n with hlt | hge
  · obtain ⟨hl, ⟨rfl, rfl⟩ | ⟨g, cap, cur, rfl, hg, hh, hc, hc', hcs, hct⟩⟩ := hown
    · omega
    · by_cases hcn : cap = n
      · subst hcn
        exact insTray_grow B g cap cur xs w hh hcs hct i hlt hn r gx cx hx hB h1
      · exact insTray_room B g n cap cur xs w hh hcs (by omega) hc' hct i hlt hn r gx cx hx (fun e => hne (by rw [e]; rfl)) hg h1
  · have e : i = n := by omega
    subst e
    have hl := hown.1
    rw [List.take_of_length_le (by omega), List.drop_eq_nil_of_le (by omega), List.append_nil]
    exact insTray_end B v i xs w hown hn r gx cx hx hB

end Go.Proofs.Ytdiojhjkcholiaa

/- slices.BinarySearchFunc, Insert, Delete at impl.Outing (printed by gen_libq.py). -/
namespace Go.Proofs.Ytdiojhjkcholiaa
open Go.RowKit

set_option maxRecDepth 100000 in
set_option maxHeartbeats 2000000 in
/-- slices.BinarySearchFunc: the first b of the list come before the target, the others do not. -/
theorem bsOuting_any (cf : Outing → Int) (tg : Outing) (g : Nat) (lb : Array Value) (eg : ∀ args w, (callFunc g args).run Try.prog w = .ok (.enter g args) w) (A : Option Addr) (c : Nat) (l : List Outing) (w : World)
    (hf : ∀ (t : Outing) (p : Since w.heap.size w), Calls Try.prog g (#[t.val, tg.val] ++ lb) p.val fun e w' => e = .returned (.int .i64 (cf t)) ∧ Below p.val.heap.size p.val w') (h : OutingsR w w.heap.size A l) (hl : l.length ≤ 1000000)
    (b : Nat) (hb : b ≤ l.length) (hlo : ∀ i (h : i < l.length), i < b → cf l[i] < 0) (hhi : ∀ i (h : i < l.length), b ≤ i → ¬ cf l[i] < 0) (fd : Bool) (hfd : ∀ h : b < l.length, fd = decide (cf l[b] = 0)) (hfd' : b = l.length → fd = false) :
    Calls Try.prog 102 #[.slice A l.length c, tg.val, .func (.func g) #[] lb] w fun e w' => e = .returned (.tuple #[.int .i64 b, .bool fd]) ∧ Below w.heap.size w w' := by
  have b0 := (Below.refl w.heap.size w).alloc (Nat.le_refl _) (.cells #[.int .i64 tg.k, .int .i64 tg.p, .int .i64 tg.c] 100)
  have hL0 := Lies.new w 100 #[.int .i64 tg.k, .int .i64 tg.p, .int .i64 tg.c]
  have HC := Lib.hid hf; clear hf
  have HLO := Lib.hid hlo; clear hlo
  have HHI := Lib.hid hhi; clear hhi
  have HFD := Lib.hid hfd; clear hfd
  have HFD' := Lib.hid hfd'; clear hfd'
  go_enter Try.func102, Try.ntmps102
  go_wp2
  have h0 := SlcR.up h b0 (Nat.le_refl _)
  generalize w.alloc (.cells #[.int .i64 tg.k, .int .i64 tg.p, .int .i64 tg.c] 100) = W at b0 hL0 h0 ⊢
  have hrd := (show OutingsR W W.heap.size A l from h0).el
  obtain ⟨d0, d1, d2⟩ := OutingS.of (r := tg) hL0
  go_loopw [9, 10] (fun s9 s10 wr => ∃ lo hi : Nat, s9 = .int .i64 lo ∧ s10 = .int .i64 hi ∧ lo ≤ b ∧ b ≤ hi ∧ hi ≤ l.length ∧ (∃ q : Since W.heap.size W, wr = q.val)) (fun s9 s10 _ => (intOf s10).toNat - (intOf s9).toNat)
  case atStart => exact ⟨0, l.length, rfl, rfl, Nat.zero_le _, hb, Nat.le_refl _, Since.start _ _, rfl⟩
  case round =>
    obtain ⟨lo, hi, rfl, rfl, h1, h2, h3, ⟨q, rfl⟩⟩ := hrel
    by_cases hlt : lo < hi
    · have hm : (lo + hi) / 2 < l.length := by omega
      obtain ⟨bb, off, rfl, hbb, hcell⟩ := hrd (by omega)
      obtain ⟨c0, c1, c2⟩ := hcell ((lo + hi) / 2) hm
      have k1 : cf l[(lo + hi) / 2] < 0 → (lo + hi) / 2 + 1 ≤ b := fun hv => by
        rcases Nat.lt_or_ge ((lo + hi) / 2) b with h | h
        · exact h
        · have := HHI.out _ hm h; omega
      have k2 : ¬ cf l[(lo + hi) / 2] < 0 → b ≤ (lo + hi) / 2 := fun hv => by
        rcases Nat.lt_or_ge ((lo + hi) / 2) b with h | h
        · have := HLO.out _ hm h; omega
        · exact h
      obtain ⟨x, hxe⟩ : ∃ x, x = l[(lo + hi) / 2] := ⟨_, rfl⟩
      rw [← hxe] at c0 c1 c2 k1 k2
      have hcx := fun p : Since W.heap.size W => HC.out x ⟨p.val, b0.trans (p.below.mono b0.size)⟩
      obtain ⟨V, hV⟩ : ∃ V, cf x = V := ⟨_, rfl⟩
      have HVV : Hid (Value.int .i64 (cf x) = .int .i64 V) := by rw [hV]; rfl
      rw [hV] at k1 k2
      have hX := Lib.hid hV; clear hV
      clear hxe hcell hrd
      by_cases hv : V < 0
      · have K := k1 hv
        clear k1 k2
        go_wp2
        refine wp_region_since _ (by kernel_rfl) (by kernel_rfl) ?_
        repeat (any_goals (first | go_big_quiet_step ((with_reducible refine calls_sinceE HVV (Nat.le_refl _) (hcx _))) | (refine wpQuiet_step (fun K hK => ?_); go_simp; split <;> (refine hK _ ?_; clear hK K))))
        all_goals (refine wpQuiet_nil ?_; rintro _ ⟨q1, rfl⟩)
        all_goals go_wp2
        go_roundw
        case rel => exact ⟨(lo + hi) / 2 + 1, hi, by go_num, rfl, K, h2, h3, ⟨q1, rfl⟩⟩
        case measure => simp [intOf]; omega
      · have K := k2 hv
        clear k1 k2
        go_wp2
        refine wp_region_since _ (by kernel_rfl) (by kernel_rfl) ?_
        repeat (any_goals (first | go_big_quiet_step ((with_reducible refine calls_sinceE HVV (Nat.le_refl _) (hcx _))) | (refine wpQuiet_step (fun K hK => ?_); go_simp; split <;> (refine hK _ ?_; clear hK K))))
        all_goals (refine wpQuiet_nil ?_; rintro _ ⟨q1, rfl⟩)
        all_goals go_wp2
        go_roundw
        case rel => exact ⟨lo, (lo + hi) / 2, rfl, by go_num, h1, K, by omega, ⟨q1, rfl⟩⟩
        case measure => simp [intOf]; omega
    · obtain rfl : hi = b := by omega
      obtain rfl : lo = hi := by omega
      by_cases hlb : lo < l.length
      · obtain ⟨bb, off, rfl, hbb, hcell⟩ := hrd (by omega)
        obtain ⟨c0, c1, c2⟩ := hcell lo hlb
        have HE := Lib.hid (HFD.out hlb)
        obtain ⟨x, hxe⟩ : ∃ x, x = l[lo] := ⟨_, rfl⟩
        rw [← hxe] at c0 c1 c2 HE
        have hcx := fun p : Since W.heap.size W => HC.out x ⟨p.val, b0.trans (p.below.mono b0.size)⟩
        obtain ⟨V, hV⟩ : ∃ V, cf x = V := ⟨_, rfl⟩
        have HVV : Hid (Value.int .i64 (cf x) = .int .i64 V) := by rw [hV]; rfl
        rw [hV] at HE
        have hX := Lib.hid hV; clear hV
        clear hxe hcell hrd
        by_cases hv : V = 0
        · have hv' : (V == 0) = true := by simp [hv]
          have HV : Hid (fd = true) := by unfold Hid; rw [HE.out, decide_eq_true hv]
          clear hv
          go_wp2
          refine wp_region_since _ (by kernel_rfl) (by kernel_rfl) ?_
          repeat (any_goals (first | go_big_quiet_step ((with_reducible refine calls_sinceE HVV (Nat.le_refl _) (hcx _))) | (refine wpQuiet_step (fun K hK => ?_); go_simp; split <;> (refine hK _ ?_; clear hK K))))
          all_goals (refine wpQuiet_nil ?_; rintro _ ⟨q1, rfl⟩)
          all_goals go_wp2
          go_ret2
          exact ⟨by rw [HV.out]; rfl, b0.trans (q1.below.mono b0.size)⟩
        · have hv' : (V == 0) = false := by simp [hv]
          have HV : Hid (fd = false) := by unfold Hid; rw [HE.out, decide_eq_false hv]
          clear hv
          go_wp2
          refine wp_region_since _ (by kernel_rfl) (by kernel_rfl) ?_
          repeat (any_goals (first | go_big_quiet_step ((with_reducible refine calls_sinceE HVV (Nat.le_refl _) (hcx _))) | (refine wpQuiet_step (fun K hK => ?_); go_simp; split <;> (refine hK _ ?_; clear hK K))))
          all_goals (refine wpQuiet_nil ?_; rintro _ ⟨q1, rfl⟩)
          all_goals go_wp2
          go_ret2
          exact ⟨by rw [HV.out]; rfl, b0.trans (q1.below.mono b0.size)⟩
      · have HV := Lib.hid (HFD'.out (by omega))
        clear hrd
        have hd : decide (lo < l.length) = false := decide_eq_false hlb
        go_wp2
        refine wp_region_since _ (by kernel_rfl) (by kernel_rfl) ?_
        repeat (any_goals (first | go_big_quiet_step ((fail)) | (refine wpQuiet_step (fun K hK => ?_); go_simp; split <;> (refine hK _ ?_; clear hK K))))
        all_goals (refine wpQuiet_nil ?_; rintro _ ⟨q1, rfl⟩)
        all_goals go_wp2
        go_ret2
        exact ⟨by rw [HV.out]; rfl, b0.trans (q1.below.mono b0.size)⟩

theorem outing_cells {l : List Outing} : ∀ u ∈ l.flatMap Outing.enc, u.oneCell' = true := by
  intro u hu
  obtain ⟨r, _, hr⟩ := List.mem_flatMap.1 hu
  simp only [Outing.enc, List.mem_cons, List.not_mem_nil, or_false] at hr
  rcases hr with rfl | rfl | rfl <;> rfl
/-- slices.Clone. -/
theorem cloneOuting_any (A : Option Addr) (c : Nat) (l : List Outing) (w : World) (h : OutingsR w w.heap.size A l) (hn : l.length ≤ 1000000) :
    Calls Try.prog 89 #[.slice A l.length c] w fun e w' => ∃ A' c', e = .returned (.slice A' l.length c') ∧ w'.ownsRow w.heap.size 100 3 (.slice A' l.length c') l.length (l.flatMap Outing.enc) ∧ Below w.heap.size w w' := by
  rcases A with _ | ad
  · have h0 : l.length = 0 := by
      rcases Nat.eq_zero_or_pos l.length with h0 | h0
      · exact h0
      · obtain ⟨_, _, h1, _⟩ := h.at_ h0; cases h1
    obtain rfl : l = [] := List.eq_nil_of_length_eq_zero h0
    have hq := fun W => Lib.run_eql_slice_nil (P := Try.prog) W 23 100 none 0 c 0 0 Try.underlying23
    go_enter Try.func89, Try.ntmps89
    go_wp2_with fail
    go_ret
    exact ⟨none, 0, rfl, ⟨by simp, .inl ⟨rfl, rfl⟩⟩, Below.refl _ _⟩
  · have HO : Hid ((w.alloc (.cells #[] 100)).ownsRow w.heap.size 100 3 (.slice (some ⟨w.heap.size, 0, none⟩) 0 0) 0 []) := owns_empty (Lies.new w 100 #[]) (Nat.le_refl _)
    have b1 := (Below.refl w.heap.size w).alloc (Nat.le_refl _) (.cells #[] 100)
    have HR := Lib.hid (SlcR.below h b1)
    have hq := fun W => Lib.run_eql_slice_nil (P := Try.prog) W 23 100 (some ad) l.length c 0 0 Try.underlying23
    go_enter Try.func89, Try.ntmps89
    go_wp2_with (at_builtin; refine wpList_cat rfl _ _ 23 rfl 100 _ 3 24 Try.underlying23 infoOuting rfl (by omega) (by omega) w.heap.size _ 0 [] rfl HO w.heap.size (some ad) l.length c (l.flatMap Outing.enc) rfl HR outing_cells (by omega) b1.size ?_; intro v' w1 hown _ hb2 _)
    go_ret
    have ho := hown.out
    rw [Nat.zero_add, List.nil_append] at ho
    obtain ⟨A', c', rfl⟩ := ownsRow_slice ho
    exact ⟨A', c', rfl, ho, b1.trans hb2⟩

set_option maxRecDepth 100000 in
set_option maxHeartbeats 4000000 in
/-- slices.Insert of one element at the end. -/
theorem insOuting_end (B : Nat) (v : Value) (n : Nat) (xs : List Value) (w : World) (hown : w.ownsRow B 100 3 v n xs) (hn : n ≤ 1000000) (r : Outing) (gx cx : Nat) (hx : Lies w gx 100 r.enc) (hB : B ≤ w.heap.size) :
    Calls Try.prog 103 #[v, .int .i64 n, .slice (some ⟨gx, 0, none⟩) 1 cx] w fun e w' => ∃ v', e = .returned v' ∧ w'.ownsRow B 100 3 v' (n + 1) (xs ++ r.enc) ∧ w.grownBy w' v.ownBlock := by
  obtain ⟨i0, hi0, hz0, hzs, hzb⟩ := info_parts infoOuting
  obtain ⟨v', w', hrun, h2, h3, _, _⟩ := run_append_own_at (P := Try.prog) w B 23 23 100 i0 _ 3 24 Try.underlying23 hi0 hz0 hzs hzb rfl (by omega) v n xs hown ⟨gx, 0, none⟩ 1 cx r.enc rfl (fun j u hj => by rw [addr_add, Nat.zero_add, hx.cell]; exact hj) (by simp [Outing.enc, Value.oneCell']) (by unfold maxLen; omega) (by omega) hB
  have HO := Lib.hid h2; clear h2
  have HG := Lib.hid h3; clear h3
  have HR := Lib.hid hrun; clear hrun
  obtain ⟨_, ⟨rfl, rfl⟩ | ⟨g, cap, cur, rfl, hg, hh, hc, hc', _, _⟩⟩ := hown
  · go_enter Try.func103, Try.ntmps103
    go_wp2_with (at_builtin; refine Lib.wpList_append_run _ rfl _ _ 23 23 rfl _ _ rfl rfl v' w' HR.out ?_)
    go_ret
    exact ⟨v', rfl, HO.out, HG.out⟩
  · have hc2 : cap ≤ 9223372036854775807 := by unfold maxLen at hc'; omega
    clear hc'
    by_cases hcn : cap = n
    all_goals
      go_enter Try.func103, Try.ntmps103
      go_wp2_with (at_builtin; refine Lib.wpList_append_run _ rfl _ _ 23 23 rfl _ _ rfl rfl v' w' HR.out ?_)
      go_ret
      exact ⟨v', rfl, HO.out, HG.out⟩

set_option maxRecDepth 100000 in
set_option maxHeartbeats 4000000 in
/-- slices.Insert of one element, no room: a new row. -/
theorem insOuting_grow (B g n : Nat) (cur : Array Value) (xs : List Value) (w : World) (hL : Lies w g 100 cur.toList) (hcs : cur.size = n * 3) (hcur : cur.toList.take (n * 3) = xs) (i : Nat) (hi : i < n) (hn : n ≤ 1000000) (r : Outing) (gx cx : Nat) (hx : Lies w gx 100 r.enc) (hB : B ≤ w.heap.size) (h1 : ∀ u ∈ xs, u.oneCell' = true) :
    Calls Try.prog 103 #[.slice (some ⟨g, 0, none⟩) n n, .int .i64 i, .slice (some ⟨gx, 0, none⟩) 1 cx] w fun e w' => ∃ v', e = .returned v' ∧ w'.ownsRow B 100 3 v' (n + 1) (xs.take (i * 3) ++ r.enc ++ xs.drop (i * 3)) ∧ w.grownBy w' (some g) := by
  have mixed : Try.prog.follows .mixedOrders = true := by kernel_rfl
  obtain ⟨i0, hi0, hz0, hzs, hzb⟩ := info_parts infoOuting
  have hxl : xs.length = n * 3 := by rw [← hcur, List.length_take, Array.length_toList, hcs, Nat.min_self]
  have hik : i * 3 ≤ n * 3 := Nat.mul_le_mul_right _ (by omega)
  have hsz : (Try.prog.info? 100).map (·.size) = some 3 := by rw [hi0]; simp [hzs]
  have hkk : (n : Int) + 1 - (i : Int) = ((n + 1 - i : Nat) : Int) := by omega
  have hik2 : i + (n + 1 - i) = n + 1 := by omega
  have hcell : ∀ j u, xs[j]? = some u → w.cell? ⟨g, j, none⟩ = some u := fun j u hu => by
    rw [hL.cell]
    rw [← hcur, List.getElem?_take] at hu
    split at hu
    · exact hu
    · cases hu
  have hold : (Builtin.firstCells i0.size i (.slice (some ⟨g, 0, none⟩) i n)).run Try.prog w.drew = .ok (xs.take (i * 3)).toArray w.drew := by
    rw [hzs]
    exact run_firstCells_some w.drew 3 i ⟨g, 0, none⟩ i n (xs.take (i * 3)) (by rw [List.length_take]; omega) (fun j u hj => by
      rw [addr_add, Nat.zero_add]
      rw [List.getElem?_take] at hj
      split at hj
      · exact hcell j u hj
      · cases hj)
  have hrz := Lib.run_append_grow_zeros (P := Try.prog) w 23 3 23 100 i0 _ .i64 .i64 Try.underlying23 Try.underlying3 hi0 hz0 (some ⟨g, 0, none⟩) i n (xs.take (i * 3)) hold (n + 1 - i) (by omega) (by omega) (by omega) (by omega) (by rw [hzb]; omega) (by rw [hzb, hik2]; exact growslice_fits (by omega) (by omega))
  rw [hik2, ← hkk] at hrz
  obtain ⟨G, hG⟩ : ∃ G, G = grownCap w (n + 1) n 100 := ⟨_, rfl⟩
  have hGn : n + 1 ≤ G := by rw [hG]; exact grownCap_ge w _ _ _
  have hG63 : G ≤ maxLen := by rw [hG]; exact grownCap_le_maxLen w (n + 1) n 100 (by unfold maxLen; omega)
  have hG64 : G ≤ 9223372036854775807 := by unfold maxLen at hG63; omega
  rw [← hG] at hrz
  obtain ⟨Z, hZ⟩ : ∃ Z : List Value, Z = (Builtin.zeroCells (Value.agg #[.int .i64 0, .int .i64 0, .int .i64 0]).cells (n + 1 - i) ++ Builtin.zeroCells (Value.agg #[.int .i64 0, .int .i64 0, .int .i64 0]).cells (G - (n + 1))).toList := ⟨_, rfl⟩
  have hZl : Z.length = (n + 1 - i) * 3 + (G - (n + 1)) * 3 := by rw [hZ, Array.length_toList, Array.size_append, size_zeroCells, size_zeroCells]; rfl
  obtain ⟨ROW, hROW⟩ : ∃ ROW : Array Value, ROW = (xs.take (i * 3)).toArray ++ Builtin.zeroCells (Value.agg #[.int .i64 0, .int .i64 0, .int .i64 0]).cells (n + 1 - i) ++ Builtin.zeroCells (Value.agg #[.int .i64 0, .int .i64 0, .int .i64 0]).cells (G - (n + 1)) := ⟨_, rfl⟩
  have hRl : ROW.toList = xs.take (i * 3) ++ Z := by rw [hROW, hZ]; simp
  rw [← hROW] at hrz
  clear hROW hZ hG hold hcs hcur
  obtain ⟨W1, hW1⟩ : ∃ W1, W1 = w.drew.alloc (.cells ROW 100) := ⟨_, rfl⟩
  rw [← hW1] at hrz
  have LN : Lies W1 w.heap.size 100 (xs.take (i * 3) ++ Z) := by rw [hW1, ← hRl]; exact Lies.new w.drew 100 ROW
  have hb1 : Below w.heap.size w W1 := by rw [hW1]; exact ((Below.refl w.heap.size w).drew).alloc (Nat.le_refl _) _
  have hLg : g < w.heap.size := hL.lt
  have hLx : gx < w.heap.size := hx.lt
  clear hW1 hRl ROW
  have hlen : (xs.take (i * 3) ++ Z).length = G * 3 := by
    rw [List.length_append, List.length_take, hZl, hxl, Nat.min_eq_left hik, ← Nat.add_mul, ← Nat.add_mul]; congr 1; omega
  have hGk : (n + 1) * 3 ≤ G * 3 := Nat.mul_le_mul_right _ hGn
  have hnk : (n + 1) * 3 = n * 3 + 3 := Nat.succ_mul n 3
  have HL0 := Lib.hid LN; clear LN
  have HF0 : Hid (i * 3 + r.enc.length ≤ (xs.take (i * 3) ++ Z).length) := by unfold Hid; rw [Outing.enc_len, hlen]; omega
  have HX1 : Hid (∀ j v, r.enc[j]? = some v → W1.cell? ((⟨gx, 0, none⟩ : Addr).add j) = some v) := fun j u hj => by rw [addr_add, Nat.zero_add, (hx.below hb1 hLx).cell]; exact hj
  have HE1 : Hid (∀ v ∈ r.enc, v.oneCell' = true) := by unfold Hid; simp [Outing.enc, Value.oneCell']
  have HE2 : Hid (∀ v ∈ xs.drop (i * 3), v.oneCell' = true) := fun v hv => h1 v (List.mem_of_mem_drop hv)
  have HC : Hid (∀ j u, xs[j]? = some u → W1.cell? ⟨g, j, none⟩ = some u) := fun j u hu => (hb1.cell hLg).trans (hcell j u hu)
  have HLn : Hid ((xs.take (i * 3) ++ Z).length = G * 3) := hlen
  have HXL := Lib.hid hxl
  have HDL : Hid ((xs.drop (i * 3)).length = (n - i) * 3) := by unfold Hid; rw [List.length_drop, hxl, Nat.sub_mul]
  have hGi : ¬ (G = i) := by omega
  have hGi1 : ¬ (G = i + 1) := by omega
  have hni : ¬ (n = i) := by omega
  have hz2 : ¬ ((i : Int) = (n : Int)) := by omega
  have hz3 : (n : Int) < (n : Int) + 1 := by omega
  have hmin1 : Nat.min 1 (n + 1 - i) = 1 := by simp only [Nat.min_def]; split <;> omega
  have hmin2 : Nat.min (n - i) (n - i) = n - i := Nat.min_self _
  have hw1 : IntKind.i64.wrap ((i : Int) + 1) = (i : Int) + 1 := by rw [IntKind.wrap_i64]; omega
  have hb1' : (0 : Int) ≤ (i : Int) + 1 := by omega
  have hin : i ≤ n := by omega
  have HR := hrz
  clear hrz hcell hL h1 hx hlen hxl hik2 hkk hsz
  go_enter Try.func103, Try.ntmps103
  go_wp2_with (first
    | (at_builtin; refine Lib.wpList_append_run _ rfl _ _ 23 3 rfl _ _ rfl rfl _ _ HR ?_)
    | (with_reducible show wpList _ _ _ (Oper.mk (some 45) _ _ _ _ _ :: _) _ _; refine wpList_copy_own rfl _ _ 23 rfl 100 100 3 w.heap.size (i * 3) (n + 1 - i) (G - i) ⟨gx, 0, none⟩ 1 cx 1 r.enc _ rfl rfl Try.underlying23 ?u1 ?u2 (by rw [Outing.enc_len]) HL0 HF0 HX1 HE1 ?_; rotate_right; intro W2 HL2 hg2))
  case u1 => rw [hi0]; simp [hzs]
  case u2 => exact hmin1
  have hWs : w.heap.size ≤ W1.heap.size := hb1.size
  have hW1g : w.heap.size < W1.heap.size := HL0.out.lt
  have LG2 : ∀ j u, xs[j]? = some u → W2.cell? ⟨g, j, none⟩ = some u := fun j u hu => (grown_cell hg2 ⟨g, j, none⟩ (by simp only; omega) (by simp only; intro e; injection e with e; omega)).trans (HC.out j u hu)
  have HL2' : Hid (Lies W2.drew w.heap.size 100 (splice (xs.take (i * 3) ++ Z) (i * 3) r.enc)) := HL2.out.drew
  have HF2 : Hid ((i + 1) * 3 + (xs.drop (i * 3)).length ≤ (splice (xs.take (i * 3) ++ Z) (i * 3) r.enc).length) := by
    unfold Hid
    rw [splice_len _ _ _ HF0.out, HLn.out, HDL.out, ← Nat.add_mul]
    exact Nat.mul_le_mul_right _ (by omega)
  have HX2 : Hid (∀ j v, (xs.drop (i * 3))[j]? = some v → W2.drew.cell? ((⟨g, i * 3, none⟩ : Addr).add j) = some v) := fun j u hj => by
    rw [addr_add]; exact LG2 _ u (by rwa [List.getElem?_drop] at hj)
  clear LG2 HX1
  go_still_tail 8, (by kernel_rfl)
  change wpList _ _ _ _ _ W2.drew
  go_wp2_with (with_reducible show wpList _ _ _ (Oper.mk (some 54) _ _ _ _ _ :: _) _ _; refine wpList_copy_own rfl _ _ 23 rfl 100 100 3 w.heap.size ((i + 1) * 3) (n - i) (G - (i + 1)) ⟨g, i * 3, none⟩ (n - i) (n - i) (n - i) (xs.drop (i * 3)) _ rfl rfl Try.underlying23 ?v3 hmin2 HDL.out HL2' HF2 HX2 HE2 ?_; rotate_right; intro W3 HL3 hg3)
  case v3 => rw [hi0]; simp [hzs]
  go_ret
  have hw3 : Below w.heap.size w W3 := ((hb1.grown hg2 hWs (by rintro _ ⟨⟩; exact Nat.le_refl _)).drew).grown hg3 (by have := hg2.size; simp; omega) (by rintro _ ⟨⟩; exact Nat.le_refl _)
  refine ⟨_, rfl, ⟨?_, .inr ⟨w.heap.size, G, (splice (splice (xs.take (i * 3) ++ Z) (i * 3) r.enc) ((i + 1) * 3) (xs.drop (i * 3))).toArray, rfl, hB, HL3.out, hGn, hG63, ?_, ?_⟩⟩, ⟨hw3.os, hw3.tape, hw3.output, hw3.size, fun j hj _ => hw3.block j hj⟩⟩
  · rw [List.length_append, List.length_append, List.length_take, Outing.enc_len, HDL.out, HXL.out, Nat.sub_mul]; omega
  · rw [List.size_toArray, splice_len _ _ _ HF2.out, splice_len _ _ _ HF0.out, HLn.out]
  · show List.take _ (splice _ _ _) = _
    exact splice_grow xs r.enc Z i 3 n (Outing.enc_len r) HXL.out hin (by rw [hZl, ← Nat.add_mul, ← Nat.add_mul]; exact Nat.mul_le_mul_right _ (by omega))

set_option maxRecDepth 100000 in
set_option maxHeartbeats 4000000 in
/-- slices.Insert of one element, with room: in place. -/
theorem insOuting_room (B g n cap : Nat) (cur : Array Value) (xs : List Value) (w : World) (hL : Lies w g 100 cur.toList) (hcs : cur.size = cap * 3) (hroom : n + 1 ≤ cap) (hcm : cap ≤ maxLen) (hcur : cur.toList.take (n * 3) = xs) (i : Nat) (hi : i < n) (hn : n ≤ 1000000) (r : Outing) (gx cx : Nat) (hx : Lies w gx 100 r.enc) (hne : gx ≠ g) (hB : B ≤ g) (h1 : ∀ u ∈ xs, u.oneCell' = true) :
    Calls Try.prog 103 #[.slice (some ⟨g, 0, none⟩) n cap, .int .i64 i, .slice (some ⟨gx, 0, none⟩) 1 cx] w fun e w' => ∃ v', e = .returned v' ∧ w'.ownsRow B 100 3 v' (n + 1) (xs.take (i * 3) ++ r.enc ++ xs.drop (i * 3)) ∧ w.grownBy w' (some g) := by
  have mixed : Try.prog.follows .mixedOrders = true := by kernel_rfl
  obtain ⟨i0, hi0, hz0, hzs, hzb⟩ := info_parts infoOuting
  have hnk : n * 3 ≤ cap * 3 := Nat.mul_le_mul_right _ (by omega)
  have hnk1 : (n + 1) * 3 ≤ cap * 3 := Nat.mul_le_mul_right _ hroom
  have hcl : cur.toList.length = cap * 3 := by rw [Array.length_toList, hcs]
  have hxl : xs.length = n * 3 := by rw [← hcur, List.length_take, hcl]; omega
  have hik : i * 3 ≤ n * 3 := Nat.mul_le_mul_right _ (by omega)
  have hcell : ∀ j u, xs[j]? = some u → w.cell? ⟨g, j, none⟩ = some u := fun j u hu => by
    rw [hL.cell]
    rw [← hcur, List.getElem?_take] at hu
    split at hu
    · exact hu
    · cases hu
  have hov : ∀ ob lb cb, (callFunc 106 #[.slice (some ⟨gx, 0, none⟩) 1 cx, .slice (some ⟨g, ob, none⟩) lb cb]).run Try.prog w = .ok (.value (.bool false)) w := fun ob lb cb =>
    run_overlaps_own w 106 Try.f106 23 4 100 (by kernel_rfl) (by kernel_rfl) (by kernel_rfl) (by kernel_rfl) (by kernel_rfl) Try.underlying23 3 Try.sizeOf100 gx g 0 ob 1 cx lb cb hne _ _ _ _ hx hL (by rw [hcl]; omega)
  have hc63 : cap ≤ 9223372036854775807 := by unfold maxLen at hcm; omega
  have HL0 := Lib.hid hL
  have HE1 : Hid (∀ v ∈ r.enc, v.oneCell' = true) := by unfold Hid; simp [Outing.enc, Value.oneCell']
  have HE2 : Hid (∀ v ∈ xs.drop (i * 3), v.oneCell' = true) := fun v hv => h1 v (List.mem_of_mem_drop hv)
  have HXL := Lib.hid hxl
  have HCL := Lib.hid hcl
  have HCU := Lib.hid hcur
  have HCM := Lib.hid hcm
  have HDL : Hid ((xs.drop (i * 3)).length = (n - i) * 3) := by unfold Hid; rw [List.length_drop, hxl, Nat.sub_mul]
  have HFA : Hid ((i + 1) * 3 + (xs.drop (i * 3)).length ≤ cur.toList.length) := by
    unfold Hid; rw [HDL.out, hcl, ← Nat.add_mul]; exact Nat.mul_le_mul_right _ (by omega)
  have HXA : Hid (∀ j v, (xs.drop (i * 3))[j]? = some v → w.drew.cell? ((⟨g, i * 3, none⟩ : Addr).add j) = some v) := fun j u hj => by
    rw [addr_add]; exact hcell _ u (by rwa [List.getElem?_drop] at hj)
  have HLA : Hid (Lies w.drew g 100 cur.toList) := hL.drew
  have hxlt : gx < w.heap.size := hx.lt
  have HX := Lib.hid hx
  have hz1 : ¬ ((i : Int) = (n : Int)) := by omega
  have hz2 : ¬ ((cap : Int) < (n : Int) + 1) := by omega
  have hci : ¬ (cap = i) := by omega
  have hci1 : ¬ (cap = i + 1) := by omega
  have hin : i ≤ n := by omega
  have hin1 : i ≤ n + 1 := by omega
  have hint : (i : Int) ≤ (n : Int) + 1 := by omega
  have hw1 : IntKind.i64.wrap ((i : Int) + 1) = (i : Int) + 1 := by rw [IntKind.wrap_i64]; omega
  have hb1' : (0 : Int) ≤ (i : Int) + 1 := by omega
  have hmin2 : Nat.min (n + 1 - i) (n - i) = n - i := by simp only [Nat.min_def]; split <;> omega
  have hmin1 : Nat.min 1 (n + 1 - i) = 1 := by simp only [Nat.min_def]; split <;> omega
  clear hcl hcur hcs hxl hL hx hcell h1 hcm
  go_enter Try.func103, Try.ntmps103
  go_wp2_with (simp only [hov])
  go_still_tail 8, (by kernel_rfl)
  change wpList _ _ _ _ _ w.drew
  go_wp2_with (first
    | (with_reducible show wpList _ _ _ (Oper.mk (some 77) _ _ _ _ _ :: _) _ _; refine wpList_copy_own rfl _ _ 23 rfl 100 100 3 g ((i + 1) * 3) (n - i) (cap - (i + 1)) ⟨g, i * 3, none⟩ (n + 1 - i) (cap - i) (n - i) (xs.drop (i * 3)) _ rfl rfl Try.underlying23 ?v3 hmin2 HDL.out HLA HFA HXA HE2 ?_; rotate_right; intro W2 HL2 hg2)
    | (with_reducible show wpList _ _ _ (Oper.mk (some 82) _ _ _ _ _ :: _) _ _; refine wpList_copy_own rfl _ _ 23 rfl 100 100 3 g (i * 3) (n + 1 - i) (cap - i) ⟨gx, 0, none⟩ 1 cx 1 r.enc _ rfl rfl Try.underlying23 ?v4 hmin1 ?v5 HL2 ?v6 ?v7 HE1 ?_; rotate_right; intro W3 HL3 hg3))
  case v3 => rw [hi0]; simp [hzs]
  case v4 => rw [hi0]; simp [hzs]
  case v5 => rw [Outing.enc_len]
  case v6 => unfold Hid; rw [splice_len _ _ _ HFA.out, HCL.out, Outing.enc_len]; omega
  case v7 => exact fun j u hj => by rw [addr_add, Nat.zero_add, (grown_cell hg2 ⟨gx, j, none⟩ hxlt (by simp only; intro e; injection e with e; exact hne e)), HX.out.drew.cell]; exact hj
  have HF6 : Hid (i * 3 + r.enc.length ≤ (splice cur.toList ((i + 1) * 3) (xs.drop (i * 3))).length) := by unfold Hid; rw [splice_len _ _ _ HFA.out, HCL.out, Outing.enc_len]; omega
  go_ret
  have e1 : (i + 1) * 3 = i * 3 + 3 := Nat.succ_mul i 3
  refine ⟨_, rfl, ⟨?_, .inr ⟨g, cap, (splice (splice cur.toList ((i + 1) * 3) (xs.drop (i * 3))) (i * 3) r.enc).toArray, rfl, hB, HL3.out, hroom, HCM.out, ?_, ?_⟩⟩, ?_⟩
  · rw [List.length_append, List.length_append, List.length_take, Outing.enc_len, HDL.out, HXL.out, Nat.sub_mul]; omega
  · rw [List.size_toArray, splice_len _ _ _ HF6.out, splice_len _ _ _ HFA.out, HCL.out]
  · show List.take _ (splice _ _ _) = _
    rw [e1]
    exact splice_insert cur.toList xs r.enc i 3 n (Outing.enc_len r) HXL.out hin HCU.out (by rw [HCL.out]; exact hnk1)
  · exact ⟨hg3.os.trans hg2.os, hg3.tape.trans hg2.tape, hg3.output.trans hg2.output, Nat.le_trans hg2.size hg3.size, fun j hj hq => (hg3.block j (Nat.lt_of_lt_of_le hj hg2.size) hq).trans (hg2.block j hj hq)⟩

/-- slices.Insert of one element, wherever. -/
theorem insOuting_any (B : Nat) (v : Value) (n : Nat) (xs : List Value) (w : World) (hown : w.ownsRow B 100 3 v n xs) (hn : n ≤ 1000000) (i : Nat) (hi : i ≤ n) (r : Outing) (gx cx : Nat) (hx : Lies w gx 100 r.enc) (hne : v.ownBlock ≠ some gx) (hB : B ≤ w.heap.size) (h1 : ∀ u ∈ xs, u.oneCell' = true) :
    Calls Try.prog 103 #[v, .int .i64 i, .slice (some ⟨gx, 0, none⟩) 1 cx] w fun e w' => ∃ v', e = .returned v' ∧ w'.ownsRow B 100 3 v' (n + 1) (xs.take (i * 3) ++ r.enc ++ xs.drop (i * 3)) ∧ w.grownBy w' v.ownBlock := by
  rcases Nat.lt_or_ge i n with hlt | hge
  · obtain ⟨hl, ⟨rfl, rfl⟩ | ⟨g, cap, cur, rfl, hg, hh, hc, hc', hcs, hct⟩⟩ := hown
    · omega
    · by_cases hcn : cap = n
      · subst hcn
        exact insOuting_grow B g cap cur xs w hh hcs hct i hlt hn r gx cx hx hB h1
      · exact insOuting_room B g n cap cur xs w hh hcs (by omega) hc' hct i hlt hn r gx cx hx (fun e => hne (by rw [e]; rfl)) hg h1
  · have e : i = n := by omega
    subst e
    have hl := hown.1
    rw [List.take_of_length_le (by omega), List.drop_eq_nil_of_le (by omega), List.append_nil]
    exact insOuting_end B v i xs w hown hn r gx cx hx hB

set_option maxRecDepth 100000 in
set_option maxHeartbeats 4000000 in
/-- slices.Delete of one element. -/
theorem delOuting_any (B : Nat) (v : Value) (n : Nat) (xs : List Value) (w : World) (hown : w.ownsRow B 100 3 v n xs) (hn : n ≤ 1000000) (i : Nat) (hi : i < n) (h1 : ∀ u ∈ xs, u.oneCell' = true) :
    Calls Try.prog 104 #[v, .int .i64 i, .int .i64 ((i : Int) + 1)] w fun e w' => ∃ v', e = .returned v' ∧ w'.ownsRow B 100 3 v' (n - 1) (xs.take (i * 3) ++ xs.drop (i * 3 + 3)) ∧ w.grownBy w' v.ownBlock ∧ v'.ownBlock = v.ownBlock := by
  have mixed : Try.prog.follows .mixedOrders = true := by kernel_rfl
  obtain ⟨i0, hi0, hz0, hzs, hzb⟩ := info_parts infoOuting
  obtain ⟨hxl, ⟨rfl, rfl⟩ | ⟨g, cap, cur, rfl, hg, hh, hc, hcm, hcs, hcur⟩⟩ := hown
  · omega
  have hL : Lies w g 100 cur.toList := Lies.of hh
  have hcl : cur.toList.length = cap * 3 := by rw [Array.length_toList, hcs]
  have hnk : n * 3 ≤ cap * 3 := Nat.mul_le_mul_right _ hc
  have hi1 : (i + 1) * 3 = i * 3 + 3 := Nat.succ_mul i 3
  have hi2 : (i + 1) * 3 ≤ n * 3 := Nat.mul_le_mul_right _ (by omega)
  have hn1 : (n - 1) * 3 + 3 = n * 3 := by rw [← Nat.succ_mul]; congr 1; omega
  have hcell : ∀ j u, xs[j]? = some u → w.cell? ⟨g, j, none⟩ = some u := fun j u hu => by
    rw [hL.cell]
    rw [← hcur, List.getElem?_take] at hu
    split at hu
    · exact hu
    · cases hu
  have hdl : (xs.drop ((i + 1) * 3)).length = (n - (i + 1)) * 3 := by rw [List.length_drop, hxl, Nat.sub_mul]
  -- the source's address
  obtain ⟨A, hA, hsrc⟩ : ∃ A : Addr, (if cap = i + 1 then some (⟨g, 0, none⟩ : Addr) else some ⟨g, (i + 1) * 3, none⟩) = some A ∧ ∀ t u, (xs.drop ((i + 1) * 3))[t]? = some u → w.drew.cell? (A.add t) = some u := by
    by_cases h : cap = i + 1
    · refine ⟨⟨g, 0, none⟩, by simp [h], fun t u hu => ?_⟩
      have h0 : (xs.drop ((i + 1) * 3)) = [] := List.eq_nil_of_length_eq_zero (by rw [hdl, show n - (i + 1) = 0 by omega, Nat.zero_mul])
      rw [h0] at hu; cases hu
    · refine ⟨⟨g, (i + 1) * 3, none⟩, by simp [h], fun t u hu => ?_⟩
      rw [addr_add]; exact hcell _ u (by rwa [List.getElem?_drop] at hu)
  have hrun := run_append_room_cells (P := Try.prog) w.drew 23 23 100 i0 Try.underlying23 hi0 g 0 i cap A (n - (i + 1)) (cap - (i + 1)) (xs.drop ((i + 1) * 3)) (by rw [hzs]; exact hdl) hsrc (fun u hu => h1 u (List.mem_of_mem_drop hu)) (by omega)
    (fun j hj => by
      show (w.cell? _).isSome = true
      rw [hzs, Nat.zero_add, hL.cell, List.getElem?_eq_getElem (by rw [hcl]; rw [hdl, Nat.sub_mul] at hj; omega)]; rfl) (fun j hj => by show w.frozen? _ = false; exact hL.frozen _)
  rw [hzs, Nat.zero_add] at hrun
  have hF1 : i * 3 + (xs.drop ((i + 1) * 3)).length ≤ cur.toList.length := by rw [hdl, hcl, Nat.sub_mul]; omega
  have HL1 := Lib.hid (Lies.setCells (xs.drop ((i + 1) * 3)) (i * 3) w.drew cur.toList hL.drew hF1)
  have hg1 : w.grownBy (w.drew.setCells g (i * 3) (xs.drop ((i + 1) * 3))) (some g) := grown_setCells _ _ _ ⟨rfl, rfl, rfl, Nat.le_refl _, fun _ _ _ => rfl⟩
  obtain ⟨W1, hW1⟩ : ∃ W1, W1 = w.drew.setCells g (i * 3) (xs.drop ((i + 1) * 3)) := ⟨_, rfl⟩
  rw [← hW1] at hrun HL1 hg1
  have hlen' : i + (n - (i + 1)) = n - 1 := by omega
  rw [hlen'] at hrun
  have HR := hrun
  have hcm' : cap ≤ 9223372036854775807 := by unfold maxLen at hcm; omega
  have HCM := Lib.hid hcm
  have HCL := Lib.hid hcl
  have HCU := Lib.hid hcur
  have HXL := Lib.hid hxl
  have HDL := Lib.hid hdl
  have HF2 : Hid ((n - 1) * 3 + ([.int .i64 0, .int .i64 0, .int .i64 0] : List Value).length ≤ (splice cur.toList (i * 3) (xs.drop ((i + 1) * 3))).length) := by
    unfold Hid; rw [splice_len _ _ _ hF1, hcl]; simp; omega
  have HF1 := Lib.hid hF1
  have hz1 : ¬ ((i : Int) = (i : Int) + 1) := by omega
  have hbi : (i : Int) + 1 ≤ (n : Int) := by omega
  have hb0 : (0 : Int) ≤ (i : Int) + 1 := by omega
  have hin : i + 1 ≤ n := by omega
  have hcn1 : ¬ (cap = n - 1) := by omega
  have hnn : n - (n - 1) = 1 := by omega
  have hnle : n - 1 ≤ n := by omega
  have hnc : n ≤ cap := hc
  have hic : i ≤ cap := by omega
  have hic1 : i + 1 ≤ cap := by omega
  have hii : (i : Int) ≤ (cap : Int) := by omega
  have htn : ((i : Int) + 1).toNat = i + 1 := by omega
  have HA := Lib.hid hA
  clear hW1 hrun hcell hsrc hcs hcl hcur hxl hdl hF1 hh hL h1 hcm hi2 hn1 hA
  go_enter Try.func104, Try.ntmps104
  go_wp2
  go_still_tail 6, (by kernel_rfl)
  change wpList _ _ _ _ _ w.drew
  go_wp2_with (first
    | (at_builtin; refine Lib.wpList_append_run _ rfl _ _ 23 23 rfl _ _ rfl ?w1 _ _ HR ?_)
    | (with_reducible show wpList _ _ _ (Oper.mk none (Op.call _) _ _ _ _ :: _) _ _; refine wpList_clear_own rfl _ 23 rfl 100 100 _ [.int .i64 0, .int .i64 0, .int .i64 0] g ((n - 1) * 3) 1 (cap - (n - 1)) _ ?w2 Try.underlying23 Try.zeroValue100 (by omega) ?w3 ?w4 HL1 HF2 ?_; rotate_right; intro W2 HL2 hg2))
  case w1.inl =>
    have h := HA.out
    rw [if_pos (by assumption)] at h
    exact Option.some.inj h
  case w1.inr =>
    have h := HA.out
    rw [if_neg (by assumption)] at h
    rw [← Option.some.inj h, hi1]
  case w3 => kernel_rfl
  case w4 => simp [Value.oneCell']
  all_goals
    go_ret
    refine ⟨_, rfl, ⟨?_, .inr ⟨g, _, (splice (splice cur.toList (i * 3) (xs.drop ((i + 1) * 3))) ((n - 1) * 3) [.int .i64 0, .int .i64 0, .int .i64 0]).toArray, rfl, hg, HL2.out, by omega, by have := HCM.out; omega, ?_, ?_⟩⟩, ?_, rfl⟩
    · rw [List.length_append, List.length_take, List.length_drop, HXL.out, Nat.sub_mul]; omega
    · rw [List.size_toArray, splice_len _ _ _ HF2.out, splice_len _ _ _ HF1.out]; have := HCL.out; omega
    · show List.take _ (splice _ _ _) = _
      rw [hi1]
      exact splice_delete cur.toList xs [.int .i64 0, .int .i64 0, .int .i64 0] i 3 n rfl HXL.out hi HCU.out (by rw [HCL.out]; omega)
    · exact ⟨hg2.os.trans hg1.os, hg2.tape.trans hg1.tape, hg2.output.trans hg1.output, Nat.le_trans hg1.size hg2.size, fun j hj hq => (hg2.block j (Nat.lt_of_lt_of_le hj hg1.size) hq).trans (hg1.block j hj hq)⟩

end Go.Proofs.Ytdiojhjkcholiaa

/- Rows of the call's own: what becomes of them (no program's function in sight). -/
namespace Go.Proofs.Ytdiojhjkcholiaa
open Go.RowKit

theorem ownsRow_below {w w' : World} {B : Nat} {e : TypeId} {k : Nat} {v : Value} {n : Nat} {xs : List Value} (h : w.ownsRow B e k v n xs) (hb : Below w.heap.size w w') : w'.ownsRow B e k v n xs := by
  obtain ⟨hl, h0 | ⟨g, cap, cur, hv, hg, hh, h1, h2, h3, h4⟩⟩ := h
  · exact ⟨hl, .inl h0⟩
  · have hlt : g < w.heap.size := by
      rcases Nat.lt_or_ge g w.heap.size with hlt | hge
      · exact hlt
      · rw [Array.getElem?_eq_none hge] at hh; cases hh
    exact ⟨hl, .inr ⟨g, cap, cur, hv, hg, (hb.block g hlt).trans hh, h1, h2, h3, h4⟩⟩
theorem ownsRow_far {w : World} {B : Nat} {e t : TypeId} {k : Nat} {v : Value} {n : Nat} {xs cs : List Value} (h : w.ownsRow B e k v n xs) {g : Nat} (hg : Lies w g t cs) (hne : e ≠ t) : some g ≠ v.ownBlock := by
  obtain ⟨_, ⟨rfl, _⟩ | ⟨g', cap, cur, rfl, _, hh, _⟩⟩ := h
  · simp [Value.ownBlock]
  · intro he
    simp only [Value.ownBlock, Option.some.injEq] at he
    subst he
    unfold Lies at hg
    rw [hg] at hh
    injection hh with hh; injection hh with _ h2; exact hne h2.symm
theorem ownsRow_lower {w : World} {B B' : Nat} {e : TypeId} {k : Nat} {v : Value} {n : Nat} {xs : List Value} (h : w.ownsRow B e k v n xs) (hB : B' ≤ B) : w.ownsRow B' e k v n xs := by
  obtain ⟨hl, h0 | ⟨g, cap, cur, hv, hg, hh⟩⟩ := h
  · exact ⟨hl, .inl h0⟩
  · exact ⟨hl, .inr ⟨g, cap, cur, hv, Nat.le_trans hB hg, hh⟩⟩
/-- Two rows of different types: one grows, the other stays. -/
theorem ownsRow_two {w w' : World} {B B' : Nat} {e e' : TypeId} {k k' : Nat} {v v' : Value} {n n' : Nat} {xs xs' : List Value} (h : w.ownsRow B e k v n xs) (h' : w.ownsRow B' e' k' v' n' xs') (hne : e' ≠ e) (hg : w.grownBy w' v'.ownBlock) : w'.ownsRow B e k v n xs := by
  refine h.kept hg ?_
  obtain ⟨_, ⟨h1, _⟩ | ⟨g, cap, cur, h1, _, hh, _⟩⟩ := h
  · left; rw [h1]; rfl
  · right
    rw [h1]
    exact ownsRow_far h' (g := g) (t := e) (cs := cur.toList) (Lies.of hh) hne
/-- A cell of a block of another type is written. -/
theorem ownsRow_setOther {w : World} {B : Nat} {e t : TypeId} {k : Nat} {v : Value} {n : Nat} {xs cs : List Value} (h : w.ownsRow B e k v n xs) {g : Nat} (hg : Lies w g t cs) (hne : e ≠ t) (i : Nat) (u : Value) : (w.setCell ⟨g, i, none⟩ u).ownsRow B e k v n xs := by
  have hf := ownsRow_far h hg hne
  obtain ⟨hl, h0 | ⟨g', cap, cur, hv, hg', hh, h1⟩⟩ := h
  · exact ⟨hl, .inl h0⟩
  · refine ⟨hl, .inr ⟨g', cap, cur, hv, hg', (Below.heap_setCell w _ u g' ?_).trans hh, h1⟩⟩
    intro e'
    subst hv
    exact hf (by simp only [Value.ownBlock]; rw [e'])
/-- The row lies in memory. -/
theorem ownsRow_at {w : World} {B : Nat} {e : TypeId} {k : Nat} {v : Value} {n : Nat} {xs : List Value} (h : w.ownsRow B e k v n xs) (hn : 0 < n) : ∃ g cap rest, v = .slice (some ⟨g, 0, none⟩) n cap ∧ B ≤ g ∧ Lies w g e (xs ++ rest) ∧ n ≤ cap := by
  obtain ⟨hl, h0 | ⟨g, cap, cur, hv, hg, hh, h1, h2, h3, h4⟩⟩ := h
  · omega
  · refine ⟨g, cap, cur.toList.drop (n * k), hv, hg, ?_, h1⟩
    have : xs ++ cur.toList.drop (n * k) = cur.toList := by rw [← h4]; exact List.take_append_drop _ _
    rw [this]; exact Lies.of hh
/-- One cell of the row is written. -/
theorem ownsRow_set {w : World} {B g cap : Nat} {e : TypeId} {k n : Nat} {xs : List Value} (h : w.ownsRow B e k (.slice (some ⟨g, 0, none⟩) n cap) n xs) (j : Nat) (u : Value) (hj : j < n * k) : (w.setCell ⟨g, j, none⟩ u).ownsRow B e k (.slice (some ⟨g, 0, none⟩) n cap) n (xs.set j u) := by
  obtain ⟨hl, h0 | ⟨g', cap', cur, hv, hg, hh, h1, h2, h3, h4⟩⟩ := h
  · cases h0.1
  · injection hv with e1 e2 e3
    injection e1 with e1; injection e1 with e1; subst e1; subst e3
    have hL := (Lies.of hh).set j u
    exact ⟨by rw [List.length_set]; exact hl, .inr ⟨g, cap, (cur.toList.set j u).toArray, rfl, hg, hL, h1, h2, by simp [h3], by show List.take _ (cur.toList.set j u) = _; rw [List.take_set, h4]⟩⟩
theorem ownsRow_drew {w : World} {B : Nat} {e : TypeId} {k : Nat} {v : Value} {n : Nat} {xs : List Value} (h : w.ownsRow B e k v n xs) : w.drew.ownsRow B e k v n xs := h
theorem ownsRow_reads {w : World} {B : Nat} {e : TypeId} {k : Nat} {A : Option Addr} {n c : Nat} {xs : List Value} (h : w.ownsRow B e k (.slice A n c) n xs) : SlcR w w.heap.size k A n xs := by
  obtain ⟨hl, h0 | ⟨g, cap, cur, hv, hg, hh, h1, h2, h3, h4⟩⟩ := h
  · exact ⟨hl, by omega, fun hn => by omega⟩
  · injection hv with e1 _ _
    refine ⟨hl, by unfold maxLen at h2; omega, fun hn => ⟨g, 0, e1, (Lies.of hh).lt, fun j u hu => ?_⟩⟩
    rw [Nat.zero_add, (Lies.of hh).cell]
    rw [← h4, List.getElem?_take] at hu
    split at hu
    · exact hu
    · cases hu
/-- A block of another type turns. -/
theorem ownsRow_keptG {w w' : World} {B : Nat} {e t : TypeId} {k : Nat} {v : Value} {n : Nat} {xs cs : List Value} (h : w.ownsRow B e k v n xs) {g : Nat} (hL : Lies w g t cs) (hne : e ≠ t) (hg : w.grownBy w' (some g)) : w'.ownsRow B e k v n xs :=
  h.kept hg (.inr fun e' => ownsRow_far h hL hne e'.symm)
end Go.Proofs.Ytdiojhjkcholiaa
