/- Ph02: the texts Cat StepOps OwnR StepCat OwnInts DrawPut Rise More AnyI IntsTo Phr PhrTo PhrCopy Phrs PhrOwn OwnX, joined into one file. -/
import Derived.Laws.OwnMore
import Derived.Deep.RegionLawGrows
import Derived.Test.YtchkjiadnackaaaGreatDoorPh01

set_option linter.unusedVariables false

/- 'append(s, xs...)' onto a row of the call's own, the source nil, empty or not (no program in sight). -/
namespace Go.Proofs.YtchkjiadnackaaaGreatDoor
open Go.RowKit

/-- Nothing is appended: the nil slice. -/
theorem run_cat_nil {P : Program} (w : World) (base : Nat) (t ty e : TypeId) (i : TypeInfo) (size : Nat) (ht : P.underlying t = some (.slice e)) (hi : P.info? e = some i)
    (v : Value) (n : Nat) (xs : List Value) (hown : w.ownsRow base e size v n xs) (c : Nat) : (Builtin.append_ #[t, t] ty #[v, .slice none 0 c]).run P w = .ok v w := by
  obtain ⟨_, ⟨rfl, rfl⟩ | ⟨g, cap, cur, rfl, _, _, hcap, _⟩⟩ := hown
  · simp [Builtin.append_, run_underlying ht, sizeOf, typeInfo, hi, Builtin.lenOf, Builtin.firstCells]
  · simp [Builtin.append_, run_underlying ht, sizeOf, typeInfo, hi, Builtin.lenOf, Builtin.firstCells, hcap, storeCells]

theorem addr_add (b o j : Nat) : ((⟨b, o, none⟩ : Addr).add j) = ⟨b, o + j, none⟩ := by unfold Addr.add; by_cases h : j = 0 <;> simp [h]

theorem wp_cat {P : Program} {o : Oper} {a : Act} {w : World} {K : Act → World → Prop} {Q : Exit → Act → World → Prop} (s x : Operand) (t : TypeId)
    (ho : o.op = .call { callee := .builtin .append, args := #[s, x], argTypes := #[t, t] })
    (e : TypeId) (z : Value) (k bytes : Nat) (ht : P.underlying t = some (.slice e)) (hinfo : (P.info? e).map (fun i => (i.zero, i.size, i.bytes)) = some (some z, k, bytes)) (hzs : z.cells.size = k) (hsz : 0 < k) (hby : bytes ≤ 1000)
    (B : Nat) (v : Value) (n : Nat) (xs : List Value) (hs : a.eval s = v) (hown : Hid (w.ownsRow B e k v n xs))
    (S : Nat) (A : Option Addr) (m c : Nat) (cs : List Value) (hx : a.eval x = .slice A m c) (hr : Hid (SlcR w S k A m cs)) (h1 : ∀ u ∈ cs, u.oneCell' = true)
    (hn : n + m ≤ 1000000000) (hbase : B ≤ w.heap.size)
    (h : ∀ v' w', Hid (w'.ownsRow B e k v' (n + m) (xs ++ cs)) → w.grownBy w' v.ownBlock → Below B w w' → (v'.ownBlock = v.ownBlock ∨ v'.ownBlock = some w.heap.size) → K (a.put o.dst v') w') : o.wp P a w K Q := by
  obtain ⟨i, hi, hz, hs', hb⟩ := info_parts hinfo
  have hbytes : (n + m) * bytes ≤ 140737488355328 := by have := Nat.mul_le_mul hn hby; omega
  have fin : ∀ v' w', (Builtin.append_ #[t, t] o.type #[v, .slice A m c]).run P w = .ok v' w' → w'.ownsRow B e k v' (n + m) (xs ++ cs) → w.grownBy w' v.ownBlock → (v'.ownBlock = v.ownBlock ∨ v'.ownBlock = some w.heap.size) → o.wp P a w K Q := by
    intro v' w' hrun h2 h3 h4
    unfold Oper.wp execOp
    simp only [ho, resolve, invoke, builtin, Sem.run_bind, Sem.run_pure, Result.andThen_ok, List.map_toArray, List.map_cons, List.map_nil, hs, hx, hrun]
    exact h v' w' h2 h3 ((Below.refl B w).grown h3 hbase (fun j hj => (hown.out.lt j hj).1)) h4
  rcases Nat.eq_zero_or_pos m with h0 | h0
  · subst h0
    have hc0 : cs = [] := List.eq_nil_of_length_eq_zero (by simpa using hr.out.len)
    subst hc0
    rcases A with _ | ad
    · exact fin v w (run_cat_nil w B t o.type e i k ht hi v n xs hown.out c) (by simpa using hown.out) (World.grownBy.refl w _) (.inl rfl)
    · obtain ⟨v', w', hrun, h2, h3, _, h5⟩ := run_append_own_at (P := P) w B t o.type e i z k bytes ht hi hz hs' hb hzs hsz v n xs hown.out ad 0 c [] (by simp) (by simp) (by simp) (by unfold maxLen; omega) hbytes hbase
      exact fin v' w' hrun h2 h3 h5
  · obtain ⟨b, off, rfl, hlt, hcell⟩ := hr.out.at_ h0
    obtain ⟨v', w', hrun, h2, h3, _, h5⟩ := run_append_own_at (P := P) w B t o.type e i z k bytes ht hi hz hs' hb hzs hsz v n xs hown.out ⟨b, off, none⟩ m c cs hr.out.len (fun j u hu => by rw [addr_add]; exact hcell j u hu) h1 (by unfold maxLen; omega) hbytes hbase
    exact fin v' w' hrun h2 h3 h5

theorem wpList_cat {P : Program} {ops : Array Oper} {rest : List Oper} {o : Oper} {a : Act} {w : World} {Q : Exit → Act → World → Prop} (hgd : o.guard = none) (s x : Operand) (t : TypeId)
    (ho : o.op = .call { callee := .builtin .append, args := #[s, x], argTypes := #[t, t] })
    (e : TypeId) (z : Value) (k bytes : Nat) (ht : P.underlying t = some (.slice e)) (hinfo : (P.info? e).map (fun i => (i.zero, i.size, i.bytes)) = some (some z, k, bytes)) (hzs : z.cells.size = k) (hsz : 0 < k) (hby : bytes ≤ 1000)
    (B : Nat) (v : Value) (n : Nat) (xs : List Value) (hs : a.eval s = v) (hown : Hid (w.ownsRow B e k v n xs))
    (S : Nat) (A : Option Addr) (m c : Nat) (cs : List Value) (hx : a.eval x = .slice A m c) (hr : Hid (SlcR w S k A m cs)) (h1 : ∀ u ∈ cs, u.oneCell' = true)
    (hn : n + m ≤ 1000000000) (hbase : B ≤ w.heap.size)
    (h : ∀ v' w', Hid (w'.ownsRow B e k v' (n + m) (xs ++ cs)) → w.grownBy w' v.ownBlock → Below B w w' → (v'.ownBlock = v.ownBlock ∨ v'.ownBlock = some w.heap.size) → wpList P ops Q rest (a.put o.dst v') w') : wpList P ops Q (o :: rest) a w :=
  wpList_plain hgd fun _ hK => wp_cat s x t ho e z k bytes ht hinfo hzs hsz hby B v n xs hs hown S A m c cs hx hr h1 hn hbase fun v' w' h2 h3 h4 h5 => hK _ _ (h v' w' h2 h3 h4 h5)

/-- A slice made by the text itself, of no element. -/
theorem owns_empty {w : World} {B g : Nat} {e : TypeId} {k : Nat} (h : Lies w g e []) (hB : B ≤ g) : w.ownsRow B e k (.slice (some ⟨g, 0, none⟩) 0 0) 0 [] := h.own hB (by simp) (by unfold maxLen; omega)
theorem ints_one {l : List Int} : ∀ u ∈ (l.map (Value.int .i64)), u.oneCell' = true := by
  intro u hu; obtain ⟨n, _, rfl⟩ := List.mem_map.1 hu; rfl
end Go.Proofs.YtchkjiadnackaaaGreatDoor

/- Operations of a drawn region: slicing a slice; appending to a row of the call's own (no program in sight). -/
namespace Go.Proofs.YtchkjiadnackaaaGreatDoor
open Go.RowKit

section
variable {P : Program} {ops : Array Oper} {tm : Array Value} {o : Oper} {a : Act} {w : World} {K : Act → World → Prop} {Q : Exit → Act → World → Prop} {E : Prop}
theorem elem_of {t e : TypeId} (ht : P.underlying t = some (.slice e)) : P.underlying t = some (.slice (P.elem t)) ∧ P.elem t = e := by
  have : P.elem t = e := by simp [Program.elem, ht]
  exact ⟨by rw [this]; exact ht, this⟩
theorem SlcR.take {B k n : Nat} {A : Option Addr} {cs : List Value} (h : SlcR w B k A n cs) (i : Nat) (hi : i ≤ n) : SlcR w B k A i (cs.take (i * k)) := by
  have hm : i * k ≤ n * k := Nat.mul_le_mul_right k hi
  refine ⟨by rw [List.length_take, h.len]; omega, by have := h.big; omega, fun h0 => ?_⟩
  obtain ⟨b, off, e, hb, hc⟩ := h.at_ (by omega)
  exact ⟨b, off, e, hb, fun j u hu => hc j u (by rw [List.getElem?_take] at hu; split at hu; exact hu; cases hu)⟩
theorem SlcR.drop {B k n : Nat} {A A' : Option Addr} {cs : List Value} (h : SlcR w B k A n cs) (i : Nat) (hi : i ≤ n) (hA : i < n → A' = A.map fun p => p.add (i * k)) : SlcR w B k A' (n - i) (cs.drop (i * k)) := by
  refine ⟨by rw [List.length_drop, h.len, Nat.sub_mul], by have := h.big; omega, fun h0 => ?_⟩
  obtain ⟨b, off, e, hb, hc⟩ := h.at_ (by omega)
  refine ⟨b, off + i * k, ?_, hb, fun j u hu => ?_⟩
  · rw [hA (by omega), e]; simp only [Option.map_some, addr_add]
  · rw [List.getElem?_drop] at hu
    have := hc _ u hu
    rwa [Nat.add_assoc]
theorem info_size {e : TypeId} {s : Nat} (hs : (P.info? e).map (·.size) = some s) : ∃ inf, P.info? e = some inf ∧ inf.size = s := by
  cases hq : P.info? e with
  | none => simp [hq] at hs
  | some inf => exact ⟨inf, rfl, by simpa [hq] using hs⟩
theorem map_add0 (A : Option Addr) : A.map (fun p => p.add 0) = A := by cases A <;> simp [Addr.add]
theorem run_sliceTo {t e : TypeId} (ht : P.underlying t = some (.slice e)) {s : Nat} (hs : (P.info? e).map (·.size) = some s) (A : Option Addr) (n c i : Nat) (hi : i ≤ n) (hc : n ≤ c) (w : World) :
    (Instr.slice t (.slice A n c) none (some (.int .i64 (i : Int))) none).run P w = .ok (.slice A i c) w := by
  obtain ⟨h1, h2⟩ := elem_of ht
  obtain ⟨inf, hin, hsz⟩ := info_size hs
  rw [run_slice_h (P := P) (w := w) t A n c h1 .i64 (i : Int) (by omega) (by omega), h2]
  simp [sizeOf, typeInfo, hin, sliced, map_add0]
theorem run_sliceFrom {t e : TypeId} (ht : P.underlying t = some (.slice e)) {s : Nat} (hs : (P.info? e).map (·.size) = some s) (A : Option Addr) (n c i : Nat) (hi : i ≤ n) (w : World) :
    (Instr.slice t (.slice A n c) (some (.int .i64 (i : Int))) none none).run P w = .ok (.slice (if c = i then A else A.map (fun p => p.add (i * s))) (n - i) (c - i)) w := by
  obtain ⟨h1, h2⟩ := elem_of ht
  obtain ⟨inf, hin, hsz⟩ := info_size hs
  rw [run_slice_l (P := P) (w := w) t A n c h1 .i64 (i : Int) (by omega) (by omega), h2]
  simp [sizeOf, typeInfo, hin, sliced, hsz]
/-- 'xs[:i]'. -/
theorem step_sliceTo (hg : o.guard = none) (t e : TypeId) (x y : Operand) (ho : o.op = .slice t x none (some y) none) (ht : P.underlying t = some (.slice e)) (s : Nat) (hs : (P.info? e).map (·.size) = some s)
    (A : Option Addr) (n c i : Nat) (hx : a.eval x = .slice A n c) (hy : a.eval y = .int .i64 (i : Int)) (hi : i ≤ n) (hc : n ≤ c)
    (h : K (a.put o.dst (.slice A i c)) w) : if Region.wanted o (yielded ops tm) = true then o.wp P a w K Q else E := by
  have hw : ∀ tm : Array Value, Region.wanted o (yielded ops tm) = true := fun tm => by simp [Region.wanted, hg]
  rw [if_pos (hw _)]
  unfold Oper.wp execOp
  simp only [ho, hx, Option.map_some, Option.map_none, hy, run_sliceAt_slice (P := P) (w := w) t _ _ _ _ (elem_of ht).1, run_sliceTo ht hs A n c i hi hc w, Sem.run_bind, Sem.run_pure, Result.andThen_ok]
  exact h
/-- 'xs[i:]'. -/
theorem step_sliceFrom (hg : o.guard = none) (t e : TypeId) (x y : Operand) (ho : o.op = .slice t x (some y) none none) (ht : P.underlying t = some (.slice e)) (s : Nat) (hs : (P.info? e).map (·.size) = some s)
    (A : Option Addr) (n c i : Nat) (hx : a.eval x = .slice A n c) (hy : a.eval y = .int .i64 (i : Int)) (hi : i ≤ n) (hc : n ≤ c)
    (h : ∀ A', (∀ (W : World) (B : Nat) (cs : List Value), SlcR W B s A n cs → SlcR W B s A' (n - i) (cs.drop (i * s))) → K (a.put o.dst (.slice A' (n - i) (c - i))) w) : if Region.wanted o (yielded ops tm) = true then o.wp P a w K Q else E := by
  have hw : ∀ tm : Array Value, Region.wanted o (yielded ops tm) = true := fun tm => by simp [Region.wanted, hg]
  rw [if_pos (hw _)]
  unfold Oper.wp execOp
  simp only [ho, hx, Option.map_some, Option.map_none, hy, run_sliceAt_slice (P := P) (w := w) t _ _ _ _ (elem_of ht).1, run_sliceFrom ht hs A n c i hi w, Sem.run_bind, Sem.run_pure, Result.andThen_ok]
  exact h _ fun W B cs hr => hr.drop i hi fun hlt => by rw [if_neg (by omega)]
/-- 'append(s, xs...)', s the call's own. -/
theorem step_cat (hg : o.guard = none) (s x : Operand) (t : TypeId) (ho : o.op = .call { callee := .builtin .append, args := #[s, x], argTypes := #[t, t] })
    (e : TypeId) (z : Value) (k bytes : Nat) (ht : P.underlying t = some (.slice e)) (hinfo : (P.info? e).map (fun i => (i.zero, i.size, i.bytes)) = some (some z, k, bytes)) (hzs : z.cells.size = k) (hsz : 0 < k) (hby : bytes ≤ 1000)
    (B : Nat) (v : Value) (n : Nat) (xs : List Value) (hs : a.eval s = v) (hown : w.ownsRow B e k v n xs)
    (S : Nat) (A : Option Addr) (m c : Nat) (cs : List Value) (hx : a.eval x = .slice A m c) (hr : SlcR w S k A m cs) (h1 : ∀ u ∈ cs, u.oneCell' = true)
    (hn : n + m ≤ 1000000000) (hbase : B ≤ w.heap.size)
    (h : ∀ A' c' w', w'.ownsRow B e k (.slice A' (n + m) c') (n + m) (xs ++ cs) → w.grownBy w' v.ownBlock → Below B w w' → K (a.put o.dst (.slice A' (n + m) c')) w') : if Region.wanted o (yielded ops tm) = true then o.wp P a w K Q else E := by
  have hw : ∀ tm : Array Value, Region.wanted o (yielded ops tm) = true := fun tm => by simp [Region.wanted, hg]
  rw [if_pos (hw _)]
  refine wp_cat s x t ho e z k bytes ht hinfo hzs hsz hby B v n xs hs (Lib.hid hown) S A m c cs hx (Lib.hid hr) h1 hn hbase fun v' w' h2 h3 h4 _ => ?_
  obtain ⟨A', c', rfl⟩ := ownsRow_slice h2.out
  exact h A' c' w' h2.out h3 h4
theorem ownsRow_cap {B k n : Nat} {e : TypeId} {A : Option Addr} {c : Nat} {xs : List Value} (h : w.ownsRow B e k (.slice A n c) n xs) : n ≤ c := by
  obtain ⟨_, ⟨h0, h1⟩ | ⟨g, cap, cur, hv, _, _, hc, _⟩⟩ := h
  · injection h0 with _ h2 h3; omega
  · injection hv with _ _ h3; omega
end
end Go.Proofs.YtchkjiadnackaaaGreatDoor

/- Rows of the call's own, and slices that read (no program in sight). -/
namespace Go.Proofs.YtchkjiadnackaaaGreatDoor
open Go.RowKit

theorem ownsRow_below {w w' : World} {B : Nat} {e : TypeId} {k : Nat} {v : Value} {n : Nat} {xs : List Value} (h : w.ownsRow B e k v n xs) (hb : Below w.heap.size w w') : w'.ownsRow B e k v n xs := by
  obtain ⟨hl, h0 | ⟨g, cap, cur, hv, hg, hh, h1, h2, h3, h4⟩⟩ := h
  · exact ⟨hl, .inl h0⟩
  · have hlt : g < w.heap.size := by
      rcases Nat.lt_or_ge g w.heap.size with hlt | hge
      · exact hlt
      · rw [Array.getElem?_eq_none hge] at hh; cases hh
    exact ⟨hl, .inr ⟨g, cap, cur, hv, hg, (hb.block g hlt).trans hh, h1, h2, h3, h4⟩⟩
/-- Rows of other types lie elsewhere. -/
theorem ownsRow_far {w : World} {B : Nat} {e t : TypeId} {k : Nat} {v : Value} {n : Nat} {xs cs : List Value} (h : w.ownsRow B e k v n xs) {g : Nat} (hg : Lies w g t cs) (hne : e ≠ t) : some g ≠ v.ownBlock := by
  obtain ⟨_, ⟨rfl, _⟩ | ⟨g', cap, cur, rfl, _, hh, _⟩⟩ := h
  · simp [Value.ownBlock]
  · intro he
    simp only [Value.ownBlock, Option.some.injEq] at he
    subst he
    unfold Lies at hg
    rw [hg] at hh
    injection hh with hh; injection hh with _ h2; exact hne h2.symm
theorem ownsRow_lower {w : World} {B B' : Nat} {e : TypeId} {k : Nat} {v : Value} {n : Nat} {xs : List Value} (h : w.ownsRow B e k v n xs) (hB : B' ≤ B) : w.ownsRow B' e k v n xs := by
  obtain ⟨hl, h0 | ⟨g, cap, cur, hv, hg, hh⟩⟩ := h
  · exact ⟨hl, .inl h0⟩
  · exact ⟨hl, .inr ⟨g, cap, cur, hv, Nat.le_trans hB hg, hh⟩⟩
/-- Two rows of the call's own, of different types: one grows, the other stays. -/
theorem ownsRow_two {w w' : World} {B B' : Nat} {e e' : TypeId} {k k' : Nat} {v v' : Value} {n n' : Nat} {xs xs' : List Value} (h : w.ownsRow B e k v n xs) (h' : w.ownsRow B' e' k' v' n' xs') (hne : e' ≠ e) (hg : w.grownBy w' v'.ownBlock) : w'.ownsRow B e k v n xs := by
  refine h.kept hg ?_
  obtain ⟨_, ⟨h1, _⟩ | ⟨g, cap, cur, h1, _, hh, _⟩⟩ := h
  · left; rw [h1]; rfl
  · right
    rw [h1]
    exact ownsRow_far h' (g := g) (t := e) (cs := cur.toList) (Lies.of hh) hne
def lenOf : Value → Nat
  | .slice _ n _ => n
  | _ => 0
end Go.Proofs.YtchkjiadnackaaaGreatDoor

/- 'append([]T{}, xs...)' as one operation of a drawn region. -/
namespace Go.Proofs.YtchkjiadnackaaaGreatDoor
open Go.RowKit

/-- 'append([]T{}, xs...)' as one operation of a drawn region: no older block turns. -/
theorem stepCat {P : Program} {ops : Array Oper} {tm : Array Value} {o : Oper} {a : Act} {w : World} {K : Act → World → Prop} {Q : Exit → Act → World → Prop} {E : Prop}
    (hg : o.guard = none) (s x : Operand) (t : TypeId) (ho : o.op = .call { callee := .builtin .append, args := #[s, x], argTypes := #[t, t] })
    (e : TypeId) (z : Value) (k bytes : Nat) (ht : P.underlying t = some (.slice e)) (hinfo : (P.info? e).map (fun i => (i.zero, i.size, i.bytes)) = some (some z, k, bytes)) (hzs : z.cells.size = k) (hsz : 0 < k) (hby : bytes ≤ 1000)
    (B g : Nat) (hs : a.eval s = .slice (some ⟨g, 0, none⟩) 0 0) (hL : Lies w g e []) (hB : B ≤ g)
    (S : Nat) (A : Option Addr) (m c : Nat) (cs : List Value) (hx : a.eval x = .slice A m c) (hr : SlcR w S k A m cs) (h1 : ∀ u ∈ cs, u.oneCell' = true) (hm : m ≤ 1000000)
    (h : ∀ v' w', w'.ownsRow B e k v' m cs → Below w.heap.size w w' → K (a.put o.dst v') w') : if Region.wanted o (yielded ops tm) = true then o.wp P a w K Q else E := by
  have hw : ∀ tm : Array Value, Region.wanted o (yielded ops tm) = true := fun tm => by simp [Region.wanted, hg]
  rw [if_pos (hw _)]
  obtain ⟨i, hi, hz, hs', hb⟩ := info_parts hinfo
  have hbytes : (0 + m) * bytes ≤ 140737488355328 := by have := Nat.mul_le_mul (show 0 + m ≤ 1000000 by omega) hby; omega
  have hlt := hL.lt
  rcases Nat.eq_zero_or_pos m with h0 | h0
  · subst h0
    have hc0 : cs = [] := List.eq_nil_of_length_eq_zero (by simpa using hr.len)
    subst hc0
    have hown : w.ownsRow B e k (.slice (some ⟨g, 0, none⟩) 0 0) 0 [] := owns_empty hL hB
    have hrun : (Builtin.append_ #[t, t] o.type #[.slice (some ⟨g, 0, none⟩) 0 0, .slice A 0 c]).run P w = .ok (.slice (some ⟨g, 0, none⟩) 0 0) w := by
      rcases A with _ | ad
      · exact run_cat_nil w B t o.type e i k ht hi _ 0 [] hown c
      · simp [Builtin.append_, run_underlying ht, sizeOf, typeInfo, hi, Builtin.lenOf, Builtin.firstCells, loadCells, loadCellsFrom, storeCells]
    unfold Oper.wp execOp
    simp only [ho, resolve, invoke, builtin, Sem.run_bind, Sem.run_pure, Result.andThen_ok, List.map_toArray, List.map_cons, List.map_nil, hs, hx, hrun]
    exact h _ _ hown (Below.refl _ _)
  · obtain ⟨b, off, rfl, hlt', hcell⟩ := hr.at_ h0
    have key := step_append_grows (P := P) (ops := ops) (a := a) (w := w) (K := K) (Q := Q) (E := E) hg s x t ho e i z k bytes ht hi hz hs' hb hzs hsz (some ⟨g, 0, none⟩) 0 0 [] hs (by simp) (by simp) (by simp) ⟨b, off, none⟩ m c cs hx hr.len (fun j u hu => by rw [addr_add]; exact hcell j u hu) h1 (by omega) (by unfold maxLen; omega) hbytes (fun v' w' h2 h3 => by
      rw [Nat.zero_add, List.nil_append] at h2
      exact h v' w' (ownsRow_lower h2 (by omega)) ((Below.refl _ _).grown h3 (Nat.le_refl _) (fun j hj => by cases hj)))
    rw [if_pos (hw _)] at key
    exact key

end Go.Proofs.YtchkjiadnackaaaGreatDoor

/- Copies of slices of ints: the reference's l1Own, the library's slices.Clone. -/
namespace Go.Proofs.YtchkjiadnackaaaGreatDoor
open Go.RowKit

theorem infoI : (Tryz.prog.info? 3).map (fun i => (i.zero, i.size, i.bytes)) = some (some (.int .i64 0), 1, 8) := by kernel_rfl

/-- The result: a slice of the call's own that holds l. -/
def GivesInts (w : World) (l : List Int) (e : Ending) (w' : World) : Prop := ∃ A c, e = .returned (.slice A l.length c) ∧ OwnS w' w.heap.size 3 1 A l.length (encIs l) ∧ Below w.heap.size w w'
theorem GivesInts.mk {w w' : World} {l : List Int} {v : Value} (h : w'.ownsRow w.heap.size 3 1 v l.length (encIs l)) (hb : Below w.heap.size w w') : GivesInts w l (.returned v) w' := by
  obtain ⟨A, c, rfl⟩ := ownsRow_slice h
  exact ⟨A, c, rfl, OwnS.of h, hb⟩

end Go.Proofs.YtchkjiadnackaaaGreatDoor

/- The reference's l1Put gives some row of ints. (Printed by gen_dput.py) -/
namespace Go.Proofs.YtchkjiadnackaaaGreatDoor
open Go.RowKit

theorem infoI_size : (Tryz.prog.info? 3).map (·.size) = some 1 := by kernel_rfl
/-- A row of ints: the one that came, or a new one of at most one more. -/
def PutInts (w : World) (A : Option Addr) (l : List Int) (e : Ending) (w' : World) : Prop :=
  ∃ (A' : Option Addr) (c' : Nat) (l' : List Int), e = .returned (.slice A' l'.length c') ∧ l'.length ≤ l.length + 1 ∧ l'.length ≤ c' ∧ Below w.heap.size w w' ∧ ((A' = A ∧ l' = l) ∨ OwnS w' w.heap.size 3 1 A' l'.length (encIs l'))

set_option maxRecDepth 100000 in
set_option maxHeartbeats 8000000 in
set_option linter.unusedVariables false in
theorem l1Put_any (A0 : Option Addr) (cc : Nat) (l : List Int) (n : Int) (w : World) (hn : l.length ≤ 1000) (hcap : l.length ≤ cc) (h : IntsR w w.heap.size A0 l) :
    Calls Tryz.prog 54 #[.slice A0 l.length cc, .int .i64 n] w (PutInts w A0 l) := by
  have hl := h.big
  have hrd := h.ints
  go_enter Tryz.func54, Tryz.ntmps54
  go_wp2
  go_loopw [5] (fun i wr => ∃ k : Nat, k ≤ l.length ∧ i = .int .i64 k ∧ (∃ q : Since w.heap.size w, wr = q.val)) (fun i _ => l.length - (intOf i).toNat)
  case atStart => exact ⟨0, Nat.zero_le _, rfl, ⟨Since.start _ _, rfl⟩⟩
  case round =>
    obtain ⟨k, hj5, rfl, ⟨q, rfl⟩⟩ := hrel
    by_cases hlt : k < l.length
    · obtain ⟨b, off, rfl, hb, hcell⟩ := hrd (by omega)
      have c0 := hcell k hlt
      obtain ⟨x, hxe⟩ : ∃ x, l[k] = x := ⟨_, rfl⟩
      rw [hxe] at c0
      clear hcell hrd hxe
      by_cases hx : x < n
      · go_wp2
        go_roundw
        case rel => exact ⟨k + 1, by omega, by go_num, ⟨q, rfl⟩⟩
        case measure => simp [intOf]; omega
      · by_cases hx2 : x = n
        · subst hx2
          go_wp2
          go_ret
          exact ⟨_, cc, l, rfl, by omega, hcap, q.below, .inl ⟨rfl, rfl⟩⟩
        · have hbe : (x == n) = false := by rw [beq_eq_false_iff_ne]; exact hx2
          go_upto_region 6 with fail
          try rw [hbe]
          clear hx2 hx hbe
          obtain ⟨W5, hW5⟩ : ∃ W5, q.val = W5 := ⟨_, rfl⟩
          have b5 : Below w.heap.size w W5 := by rw [← hW5]; exact q.below
          have HSL : Hid (SlcR W5 W5.heap.size 1 (some ⟨b, off, none⟩) l.length (encIs l)) := (SlcR.below h b5).mono b5.size
          rw [hW5]
          clear hW5
          refine wp_region_factsR (fun _ => (fun W9 => Below W5.heap.size W5 W9)) (fun i w1 w2 => i ∉ [7, 11] → Below w1.heap.size w1 w2) (by kernel_rfl) (by kernel_rfl) (by kernel_rfl) (Below.refl _ _).drew ?_
          simp only [fillOps, Act.put, List.setIfInBounds_toArray, List.set_cons_zero, List.set_cons_succ, Nat.zero_add, Nat.reduceAdd]
          refine wpFactsR_some [7, 11] (fun v w9 => ∃ g, v = .slice (some ⟨g, 0, none⟩) 0 0 ∧ W5.heap.size ≤ g ∧ Lies w9 g 3 []) ?_ (fun vs L9 w9 hG9 hC9 hB K9 hK9 => ?_) ?_
          next =>
            intro i9 hi9 hb9 ha9 v w1 w2 hv hT9
            have hb := hT9 (fun hm => by
              simp only [List.mem_cons, List.not_mem_nil, or_false] at hm hb9
              rcases hm with rfl | rfl
              · exact hb9 (by simp)
              · exact hb9 (by simp))
            obtain ⟨g, e, hg, hl⟩ := hv
            exact ⟨g, e, hg, hl.below hb hl.lt⟩
          next =>
            simp only [Act.put, List.setIfInBounds_toArray, List.set_cons_zero, List.set_cons_succ] at hK9
            go_simp
            exact hK9 _ _ _ rfl ⟨_, rfl, hC9.size, Lies.new w9 3 #[]⟩ (hC9.alloc hC9.size _) (fun _ => (Below.refl _ _).alloc (Nat.le_refl _) _)
          apply wpFactsR_val
          case h1 =>
            intro vs L9 w9 hG9 hC9 hB K9 hK9
            simp only [Act.put, List.setIfInBounds_toArray, List.set_cons_zero, List.set_cons_succ] at hK9
            go_simp
            exact hK9 _ _ rfl hC9 (fun _ => Below.refl _ _)
          apply wpFactsR_val
          case h1 =>
            intro vs L9 w9 hG9 hC9 hB K9 hK9
            simp only [Act.put, List.setIfInBounds_toArray, List.set_cons_zero, List.set_cons_succ] at hK9
            go_simp
            exact hK9 _ _ rfl hC9 (fun _ => Below.refl _ _)
          apply wpFactsR_val
          case h1 =>
            intro vs L9 w9 hG9 hC9 hB K9 hK9
            have d1 := FactN.eq (hB 1 _ (by kernel_rfl) (by kernel_rfl) rfl (by decide))
            have d2 := FactN.eq (hB 2 _ (by kernel_rfl) (by kernel_rfl) rfl (by decide))
            simp only [d1, d2] at hK9 ⊢
            simp only [Act.put, List.setIfInBounds_toArray, List.set_cons_zero, List.set_cons_succ] at hK9
            refine step_sliceTo rfl 24 3 (.tmp 34) (.tmp 35) rfl Tryz.underlying24 1 infoI_size (some ⟨b, off, none⟩) l.length cc k (by rfl) (by rfl) hj5 hcap ?_
            exact hK9 _ _ rfl hC9 (fun _ => Below.refl _ _)
          refine wpFactsR_some [7, 11] (fun v w9 => ∃ A c, v = .slice A (k) c ∧ w9.ownsRow W5.heap.size 3 1 (.slice A (k) c) (k) ((encIs l).take (k * 1))) ?_ (fun vs L9 w9 hG9 hC9 hB K9 hK9 => ?_) ?_
          next =>
            intro i9 hi9 hb9 ha9 v w1 w2 hv hT9
            have hb := hT9 (fun hm => by
              simp only [List.mem_cons, List.not_mem_nil, or_false] at hm hb9
              rcases hm with rfl | rfl
              · exact hb9 (by simp)
              · exact hb9 (by simp))
            obtain ⟨A, c, e, ho⟩ := hv
            exact ⟨A, c, e, ownsRow_below ho hb⟩
          next =>
            have d3 := FactN.eq (hB 3 _ (by kernel_rfl) (by kernel_rfl) rfl (by decide))
            simp only [d3] at hK9 ⊢
            simp only [Act.put, List.setIfInBounds_toArray, List.set_cons_zero, List.set_cons_succ] at hK9
            obtain ⟨g, e0, hg, hl⟩ := hB 0 _ (by kernel_rfl) (by kernel_rfl) rfl (by decide)
            simp only [e0] at hK9 ⊢
            refine stepCat rfl (.tmp 33) (.tmp 36) 24 rfl 3 _ 1 8 Tryz.underlying24 infoI rfl (by omega) (by omega) W5.heap.size g (by rfl) hl hg W5.heap.size (some ⟨b, off, none⟩) (k) cc _ (by rfl) (SlcR.take (SlcR.below HSL.out hC9) (k) hj5) (fun u hu => ints_one u (List.mem_of_mem_take hu)) (by omega) ?_
            intro v' w' ho hb
            obtain ⟨A', c', rfl⟩ := ownsRow_slice ho
            exact hK9 _ _ _ rfl ⟨A', c', rfl, ho⟩ (hC9.trans (hb.mono hC9.size)) (fun _ => hb)
          apply wpFactsR_val
          case h1 =>
            intro vs L9 w9 hG9 hC9 hB K9 hK9
            simp only [Act.put, List.setIfInBounds_toArray, List.set_cons_zero, List.set_cons_succ] at hK9
            go_simp
            exact hK9 _ _ rfl hC9 (fun _ => Below.refl _ _)
          refine wpFactsR_some [7, 11] (fun v w9 => ∃ g c, v = .slice (some ⟨g, 0, none⟩) 1 c ∧ Lies w9 g 3 [.int .i64 n]) ?_ (fun vs L9 w9 hG9 hC9 hB K9 hK9 => ?_) ?_
          next =>
            intro i9 hi9 hb9 ha9 v w1 w2 hv hT9
            have hb := hT9 (fun hm => by
              simp only [List.mem_cons, List.not_mem_nil, or_false] at hm hb9
              rcases hm with rfl | rfl
              · exact hb9 (by simp)
              · exact hb9 (by simp))
            obtain ⟨g, c, e, hl⟩ := hv
            exact ⟨g, c, e, hl.below hb hl.lt⟩
          next =>
            have d5 := FactN.eq (hB 5 _ (by kernel_rfl) (by kernel_rfl) rfl (by decide))
            simp only [d5] at hK9 ⊢
            simp only [Act.put, List.setIfInBounds_toArray, List.set_cons_zero, List.set_cons_succ] at hK9
            go_simp
            exact hK9 _ _ _ rfl ⟨_, _, rfl, Lies.new w9 3 #[.int .i64 n]⟩ (hC9.alloc hC9.size _) (fun _ => (Below.refl _ _).alloc (Nat.le_refl _) _)
          refine wpFactsR_some [11] (fun v w9 => ∃ A c, v = .slice A (k + 1) c ∧ w9.ownsRow W5.heap.size 3 1 (.slice A (k + 1) c) (k + 1) ((encIs l).take (k * 1) ++ [.int .i64 n])) ?_ (fun vs L9 w9 hG9 hC9 hB K9 hK9 => ?_) ?_
          next =>
            intro i9 hi9 hb9 ha9 v w1 w2 hv hT9
            have hb := hT9 (fun hm => by
              simp only [List.mem_cons, List.not_mem_nil, or_false] at hm hb9
              rcases hm with rfl | rfl
              · exact hi9 rfl
              · exact hb9 (by simp))
            obtain ⟨A, c, e, ho⟩ := hv
            exact ⟨A, c, e, ownsRow_below ho hb⟩
          next =>
            simp only [Act.put, List.setIfInBounds_toArray, List.set_cons_zero, List.set_cons_succ] at hK9
            obtain ⟨A, c, e4, ho⟩ := hB 4 _ (by kernel_rfl) (by kernel_rfl) rfl (by decide)
            obtain ⟨g, c9, e6, hl⟩ := hB 6 _ (by kernel_rfl) (by kernel_rfl) rfl (by decide)
            simp only [e4, e6] at hK9 ⊢
            refine step_cat rfl (.tmp 37) (.tmp 39) 24 rfl 3 _ 1 8 Tryz.underlying24 infoI rfl (by omega) (by omega) W5.heap.size _ (k) _ (by rfl) ho w9.heap.size (some ⟨g, 0, none⟩) 1 c9 [.int .i64 n] (by rfl) (hl.reads rfl (by omega)) (by simp [Value.oneCell']) (by omega) hC9.size ?_
            intro A' c' w' ho' _ hb
            exact hK9 _ _ _ rfl ⟨A', c', rfl, ho'⟩ (hC9.trans hb) (fun hq => (hq (by decide)).elim)
          apply wpFactsR_val
          case h1 =>
            intro vs L9 w9 hG9 hC9 hB K9 hK9
            simp only [Act.put, List.setIfInBounds_toArray, List.set_cons_zero, List.set_cons_succ] at hK9
            go_simp
            exact hK9 _ _ rfl hC9 (fun _ => Below.refl _ _)
          apply wpFactsR_val
          case h1 =>
            intro vs L9 w9 hG9 hC9 hB K9 hK9
            simp only [Act.put, List.setIfInBounds_toArray, List.set_cons_zero, List.set_cons_succ] at hK9
            go_simp
            exact hK9 _ _ rfl hC9 (fun _ => Below.refl _ _)
          refine wpFactsR_some [] (fun v w9 => ∃ A, v = .slice A (l.length - k) (cc - k) ∧ ∀ W9, Below W5.heap.size W5 W9 → SlcR W9 W5.heap.size 1 A (l.length - k) ((encIs l).drop (k * 1))) ?_ (fun vs L9 w9 hG9 hC9 hB K9 hK9 => ?_) ?_
          next =>
            intro i9 hi9 hb9 ha9 v w1 w2 hv hT9
            exact hv
          next =>
            have d8 := FactN.eq (hB 8 _ (by kernel_rfl) (by kernel_rfl) rfl (by decide))
            have d9 := FactN.eq (hB 9 _ (by kernel_rfl) (by kernel_rfl) rfl (by decide))
            simp only [d8, d9] at hK9 ⊢
            simp only [Act.put, List.setIfInBounds_toArray, List.set_cons_zero, List.set_cons_succ] at hK9
            refine step_sliceFrom rfl 24 3 (.tmp 41) (.tmp 42) rfl Tryz.underlying24 1 infoI_size (some ⟨b, off, none⟩) l.length cc k (by rfl) (by rfl) hj5 hcap ?_
            intro A' hA9
            exact hK9 _ _ _ rfl ⟨A', rfl, fun W9 hW => hA9 _ _ _ (SlcR.below HSL.out hW)⟩ hC9 (fun _ => Below.refl _ _)
          refine wpFactsR_some [] (fun v w9 => ∃ A c, v = .slice A (k + 1 + (l.length - k)) c ∧ w9.ownsRow W5.heap.size 3 1 (.slice A (k + 1 + (l.length - k)) c) (k + 1 + (l.length - k)) (((encIs l).take (k * 1) ++ [.int .i64 n]) ++ (encIs l).drop (k * 1))) ?_ (fun vs L9 w9 hG9 hC9 hB K9 hK9 => ?_) ?_
          next =>
            intro i9 hi9 hb9 ha9 v w1 w2 hv hT9
            have hb := hT9 (fun hm => by
              simp only [List.mem_cons, List.not_mem_nil, or_false] at hm hb9
              rcases hm with rfl | rfl
              · exact absurd (ha9.symm.trans (show ahead .any _ _ _ _ = true by kernel_rfl)) (by decide)
              · exact hi9 rfl)
            obtain ⟨A, c, e, ho⟩ := hv
            exact ⟨A, c, e, ownsRow_below ho hb⟩
          next =>
            simp only [Act.put, List.setIfInBounds_toArray, List.set_cons_zero, List.set_cons_succ] at hK9
            obtain ⟨A, c, e7, ho⟩ := hB 7 _ (by kernel_rfl) (by kernel_rfl) rfl (by decide)
            obtain ⟨A10, e10, hr⟩ := hB 10 _ (by kernel_rfl) (by kernel_rfl) rfl (by decide)
            simp only [e7, e10] at hK9 ⊢
            refine step_cat rfl (.tmp 40) (.tmp 43) 24 rfl 3 _ 1 8 Tryz.underlying24 infoI rfl (by omega) (by omega) W5.heap.size _ (k + 1) _ (by rfl) ho W5.heap.size A10 (l.length - k) (cc - k) _ (by rfl) (hr w9 hC9) (fun u hu => ints_one u (List.mem_of_mem_drop hu)) (by omega) hC9.size ?_
            intro A' c' w' ho' _ hb
            exact hK9 _ _ _ rfl ⟨A', c', rfl, ho'⟩ (hC9.trans hb) (fun hq => (hq (by decide)).elim)
          refine wpFactsR_some [] (fun v w9 => ∃ A c, v = .slice A (k + 1 + (l.length - k)) c ∧ w9.ownsRow W5.heap.size 3 1 (.slice A (k + 1 + (l.length - k)) c) (k + 1 + (l.length - k)) (((encIs l).take (k * 1) ++ [.int .i64 n]) ++ (encIs l).drop (k * 1))) ?_ (fun vs L9 w9 hG9 hC9 hB K9 hK9 => ?_) ?_
          next =>
            intro i9 hi9 hb9 ha9 v w1 w2 hv hT9
            have hb := hT9 (fun hm => by
              simp only [List.mem_cons, List.not_mem_nil, or_false] at hm hb9
              rcases hm with rfl | rfl
              · exact absurd (ha9.symm.trans (show ahead .any _ _ _ _ = true by kernel_rfl)) (by decide)
              · exact absurd (ha9.symm.trans (show ahead .any _ _ _ _ = true by kernel_rfl)) (by decide))
            obtain ⟨A, c, e, ho⟩ := hv
            exact ⟨A, c, e, ownsRow_below ho hb⟩
          next =>
            simp only [Act.put, List.setIfInBounds_toArray, List.set_cons_zero, List.set_cons_succ] at hK9
            obtain ⟨A, c, e11, ho⟩ := hB 11 _ (by kernel_rfl) (by kernel_rfl) rfl (by decide)
            simp only [e11] at hK9 ⊢
            go_simp
            exact hK9 _ _ _ rfl ⟨A, c, rfl, ho⟩ hC9 (fun _ => Below.refl _ _)
          refine wpFactsR_nil fun vs Lq W7 hL9 hC7 hB => ?_
          obtain ⟨A7, c7, e12, ho7⟩ := hB 12 _ rfl rfl (by decide)
          simp only [e12]
          clear hB hL9 e12
          have hnl : k + 1 + (l.length - k) = (l.take (k) ++ n :: l.drop (k)).length := by simp; omega
          rw [hnl] at ho7 ⊢
          have hcs : ((encIs l).take (k * 1) ++ [.int .i64 n]) ++ (encIs l).drop (k * 1) = encIs (l.take (k) ++ n :: l.drop (k)) := by simp [List.map_take, List.map_drop]
          rw [hcs] at ho7
          have HB := Lib.hid (b5.trans (hC7.mono b5.size))
          have HO := Lib.hid (ownsRow_lower ho7 b5.size)
          have HNL := Lib.hid hnl
          clear ho7 hC7 hnl hcs HSL
          go_wp2_with fail
          go_ret
          exact ⟨A7, c7, _, rfl, by rw [← HNL.out]; omega, ownsRow_cap HO.out, HB.out, .inr (OwnS.of HO.out)⟩
    · clear hrd
      go_upto_region 6 with fail
      obtain ⟨W5, hW5⟩ : ∃ W5, q.val = W5 := ⟨_, rfl⟩
      have b5 : Below w.heap.size w W5 := by rw [← hW5]; exact q.below
      have HSL : Hid (SlcR W5 W5.heap.size 1 A0 l.length (encIs l)) := (SlcR.below h b5).mono b5.size
      rw [hW5]
      clear hW5
      refine wp_region_factsR (fun _ => (fun W9 => Below W5.heap.size W5 W9)) (fun i w1 w2 => i ∉ [7, 11] → Below w1.heap.size w1 w2) (by kernel_rfl) (by kernel_rfl) (by kernel_rfl) (Below.refl _ _).drew ?_
      simp only [fillOps, Act.put, List.setIfInBounds_toArray, List.set_cons_zero, List.set_cons_succ, Nat.zero_add, Nat.reduceAdd]
      refine wpFactsR_some [7, 11] (fun v w9 => ∃ g, v = .slice (some ⟨g, 0, none⟩) 0 0 ∧ W5.heap.size ≤ g ∧ Lies w9 g 3 []) ?_ (fun vs L9 w9 hG9 hC9 hB K9 hK9 => ?_) ?_
      next =>
        intro i9 hi9 hb9 ha9 v w1 w2 hv hT9
        have hb := hT9 (fun hm => by
          simp only [List.mem_cons, List.not_mem_nil, or_false] at hm hb9
          rcases hm with rfl | rfl
          · exact hb9 (by simp)
          · exact hb9 (by simp))
        obtain ⟨g, e, hg, hl⟩ := hv
        exact ⟨g, e, hg, hl.below hb hl.lt⟩
      next =>
        simp only [Act.put, List.setIfInBounds_toArray, List.set_cons_zero, List.set_cons_succ] at hK9
        go_simp
        exact hK9 _ _ _ rfl ⟨_, rfl, hC9.size, Lies.new w9 3 #[]⟩ (hC9.alloc hC9.size _) (fun _ => (Below.refl _ _).alloc (Nat.le_refl _) _)
      apply wpFactsR_val
      case h1 =>
        intro vs L9 w9 hG9 hC9 hB K9 hK9
        simp only [Act.put, List.setIfInBounds_toArray, List.set_cons_zero, List.set_cons_succ] at hK9
        go_simp
        exact hK9 _ _ rfl hC9 (fun _ => Below.refl _ _)
      apply wpFactsR_val
      case h1 =>
        intro vs L9 w9 hG9 hC9 hB K9 hK9
        simp only [Act.put, List.setIfInBounds_toArray, List.set_cons_zero, List.set_cons_succ] at hK9
        go_simp
        exact hK9 _ _ rfl hC9 (fun _ => Below.refl _ _)
      apply wpFactsR_val
      case h1 =>
        intro vs L9 w9 hG9 hC9 hB K9 hK9
        have d1 := FactN.eq (hB 1 _ (by kernel_rfl) (by kernel_rfl) rfl (by decide))
        have d2 := FactN.eq (hB 2 _ (by kernel_rfl) (by kernel_rfl) rfl (by decide))
        simp only [d1, d2] at hK9 ⊢
        simp only [Act.put, List.setIfInBounds_toArray, List.set_cons_zero, List.set_cons_succ] at hK9
        refine step_sliceTo rfl 24 3 (.tmp 34) (.tmp 35) rfl Tryz.underlying24 1 infoI_size A0 l.length cc k (by rfl) (by rfl) hj5 hcap ?_
        exact hK9 _ _ rfl hC9 (fun _ => Below.refl _ _)
      refine wpFactsR_some [7, 11] (fun v w9 => ∃ A c, v = .slice A (k) c ∧ w9.ownsRow W5.heap.size 3 1 (.slice A (k) c) (k) ((encIs l).take (k * 1))) ?_ (fun vs L9 w9 hG9 hC9 hB K9 hK9 => ?_) ?_
      next =>
        intro i9 hi9 hb9 ha9 v w1 w2 hv hT9
        have hb := hT9 (fun hm => by
          simp only [List.mem_cons, List.not_mem_nil, or_false] at hm hb9
          rcases hm with rfl | rfl
          · exact hb9 (by simp)
          · exact hb9 (by simp))
        obtain ⟨A, c, e, ho⟩ := hv
        exact ⟨A, c, e, ownsRow_below ho hb⟩
      next =>
        have d3 := FactN.eq (hB 3 _ (by kernel_rfl) (by kernel_rfl) rfl (by decide))
        simp only [d3] at hK9 ⊢
        simp only [Act.put, List.setIfInBounds_toArray, List.set_cons_zero, List.set_cons_succ] at hK9
        obtain ⟨g, e0, hg, hl⟩ := hB 0 _ (by kernel_rfl) (by kernel_rfl) rfl (by decide)
        simp only [e0] at hK9 ⊢
        refine stepCat rfl (.tmp 33) (.tmp 36) 24 rfl 3 _ 1 8 Tryz.underlying24 infoI rfl (by omega) (by omega) W5.heap.size g (by rfl) hl hg W5.heap.size A0 (k) cc _ (by rfl) (SlcR.take (SlcR.below HSL.out hC9) (k) hj5) (fun u hu => ints_one u (List.mem_of_mem_take hu)) (by omega) ?_
        intro v' w' ho hb
        obtain ⟨A', c', rfl⟩ := ownsRow_slice ho
        exact hK9 _ _ _ rfl ⟨A', c', rfl, ho⟩ (hC9.trans (hb.mono hC9.size)) (fun _ => hb)
      apply wpFactsR_val
      case h1 =>
        intro vs L9 w9 hG9 hC9 hB K9 hK9
        simp only [Act.put, List.setIfInBounds_toArray, List.set_cons_zero, List.set_cons_succ] at hK9
        go_simp
        exact hK9 _ _ rfl hC9 (fun _ => Below.refl _ _)
      refine wpFactsR_some [7, 11] (fun v w9 => ∃ g c, v = .slice (some ⟨g, 0, none⟩) 1 c ∧ Lies w9 g 3 [.int .i64 n]) ?_ (fun vs L9 w9 hG9 hC9 hB K9 hK9 => ?_) ?_
      next =>
        intro i9 hi9 hb9 ha9 v w1 w2 hv hT9
        have hb := hT9 (fun hm => by
          simp only [List.mem_cons, List.not_mem_nil, or_false] at hm hb9
          rcases hm with rfl | rfl
          · exact hb9 (by simp)
          · exact hb9 (by simp))
        obtain ⟨g, c, e, hl⟩ := hv
        exact ⟨g, c, e, hl.below hb hl.lt⟩
      next =>
        have d5 := FactN.eq (hB 5 _ (by kernel_rfl) (by kernel_rfl) rfl (by decide))
        simp only [d5] at hK9 ⊢
        simp only [Act.put, List.setIfInBounds_toArray, List.set_cons_zero, List.set_cons_succ] at hK9
        go_simp
        exact hK9 _ _ _ rfl ⟨_, _, rfl, Lies.new w9 3 #[.int .i64 n]⟩ (hC9.alloc hC9.size _) (fun _ => (Below.refl _ _).alloc (Nat.le_refl _) _)
      refine wpFactsR_some [11] (fun v w9 => ∃ A c, v = .slice A (k + 1) c ∧ w9.ownsRow W5.heap.size 3 1 (.slice A (k + 1) c) (k + 1) ((encIs l).take (k * 1) ++ [.int .i64 n])) ?_ (fun vs L9 w9 hG9 hC9 hB K9 hK9 => ?_) ?_
      next =>
        intro i9 hi9 hb9 ha9 v w1 w2 hv hT9
        have hb := hT9 (fun hm => by
          simp only [List.mem_cons, List.not_mem_nil, or_false] at hm hb9
          rcases hm with rfl | rfl
          · exact hi9 rfl
          · exact hb9 (by simp))
        obtain ⟨A, c, e, ho⟩ := hv
        exact ⟨A, c, e, ownsRow_below ho hb⟩
      next =>
        simp only [Act.put, List.setIfInBounds_toArray, List.set_cons_zero, List.set_cons_succ] at hK9
        obtain ⟨A, c, e4, ho⟩ := hB 4 _ (by kernel_rfl) (by kernel_rfl) rfl (by decide)
        obtain ⟨g, c9, e6, hl⟩ := hB 6 _ (by kernel_rfl) (by kernel_rfl) rfl (by decide)
        simp only [e4, e6] at hK9 ⊢
        refine step_cat rfl (.tmp 37) (.tmp 39) 24 rfl 3 _ 1 8 Tryz.underlying24 infoI rfl (by omega) (by omega) W5.heap.size _ (k) _ (by rfl) ho w9.heap.size (some ⟨g, 0, none⟩) 1 c9 [.int .i64 n] (by rfl) (hl.reads rfl (by omega)) (by simp [Value.oneCell']) (by omega) hC9.size ?_
        intro A' c' w' ho' _ hb
        exact hK9 _ _ _ rfl ⟨A', c', rfl, ho'⟩ (hC9.trans hb) (fun hq => (hq (by decide)).elim)
      apply wpFactsR_val
      case h1 =>
        intro vs L9 w9 hG9 hC9 hB K9 hK9
        simp only [Act.put, List.setIfInBounds_toArray, List.set_cons_zero, List.set_cons_succ] at hK9
        go_simp
        exact hK9 _ _ rfl hC9 (fun _ => Below.refl _ _)
      apply wpFactsR_val
      case h1 =>
        intro vs L9 w9 hG9 hC9 hB K9 hK9
        simp only [Act.put, List.setIfInBounds_toArray, List.set_cons_zero, List.set_cons_succ] at hK9
        go_simp
        exact hK9 _ _ rfl hC9 (fun _ => Below.refl _ _)
      refine wpFactsR_some [] (fun v w9 => ∃ A, v = .slice A (l.length - k) (cc - k) ∧ ∀ W9, Below W5.heap.size W5 W9 → SlcR W9 W5.heap.size 1 A (l.length - k) ((encIs l).drop (k * 1))) ?_ (fun vs L9 w9 hG9 hC9 hB K9 hK9 => ?_) ?_
      next =>
        intro i9 hi9 hb9 ha9 v w1 w2 hv hT9
        exact hv
      next =>
        have d8 := FactN.eq (hB 8 _ (by kernel_rfl) (by kernel_rfl) rfl (by decide))
        have d9 := FactN.eq (hB 9 _ (by kernel_rfl) (by kernel_rfl) rfl (by decide))
        simp only [d8, d9] at hK9 ⊢
        simp only [Act.put, List.setIfInBounds_toArray, List.set_cons_zero, List.set_cons_succ] at hK9
        refine step_sliceFrom rfl 24 3 (.tmp 41) (.tmp 42) rfl Tryz.underlying24 1 infoI_size A0 l.length cc k (by rfl) (by rfl) hj5 hcap ?_
        intro A' hA9
        exact hK9 _ _ _ rfl ⟨A', rfl, fun W9 hW => hA9 _ _ _ (SlcR.below HSL.out hW)⟩ hC9 (fun _ => Below.refl _ _)
      refine wpFactsR_some [] (fun v w9 => ∃ A c, v = .slice A (k + 1 + (l.length - k)) c ∧ w9.ownsRow W5.heap.size 3 1 (.slice A (k + 1 + (l.length - k)) c) (k + 1 + (l.length - k)) (((encIs l).take (k * 1) ++ [.int .i64 n]) ++ (encIs l).drop (k * 1))) ?_ (fun vs L9 w9 hG9 hC9 hB K9 hK9 => ?_) ?_
      next =>
        intro i9 hi9 hb9 ha9 v w1 w2 hv hT9
        have hb := hT9 (fun hm => by
          simp only [List.mem_cons, List.not_mem_nil, or_false] at hm hb9
          rcases hm with rfl | rfl
          · exact absurd (ha9.symm.trans (show ahead .any _ _ _ _ = true by kernel_rfl)) (by decide)
          · exact hi9 rfl)
        obtain ⟨A, c, e, ho⟩ := hv
        exact ⟨A, c, e, ownsRow_below ho hb⟩
      next =>
        simp only [Act.put, List.setIfInBounds_toArray, List.set_cons_zero, List.set_cons_succ] at hK9
        obtain ⟨A, c, e7, ho⟩ := hB 7 _ (by kernel_rfl) (by kernel_rfl) rfl (by decide)
        obtain ⟨A10, e10, hr⟩ := hB 10 _ (by kernel_rfl) (by kernel_rfl) rfl (by decide)
        simp only [e7, e10] at hK9 ⊢
        refine step_cat rfl (.tmp 40) (.tmp 43) 24 rfl 3 _ 1 8 Tryz.underlying24 infoI rfl (by omega) (by omega) W5.heap.size _ (k + 1) _ (by rfl) ho W5.heap.size A10 (l.length - k) (cc - k) _ (by rfl) (hr w9 hC9) (fun u hu => ints_one u (List.mem_of_mem_drop hu)) (by omega) hC9.size ?_
        intro A' c' w' ho' _ hb
        exact hK9 _ _ _ rfl ⟨A', c', rfl, ho'⟩ (hC9.trans hb) (fun hq => (hq (by decide)).elim)
      refine wpFactsR_some [] (fun v w9 => ∃ A c, v = .slice A (k + 1 + (l.length - k)) c ∧ w9.ownsRow W5.heap.size 3 1 (.slice A (k + 1 + (l.length - k)) c) (k + 1 + (l.length - k)) (((encIs l).take (k * 1) ++ [.int .i64 n]) ++ (encIs l).drop (k * 1))) ?_ (fun vs L9 w9 hG9 hC9 hB K9 hK9 => ?_) ?_
      next =>
        intro i9 hi9 hb9 ha9 v w1 w2 hv hT9
        have hb := hT9 (fun hm => by
          simp only [List.mem_cons, List.not_mem_nil, or_false] at hm hb9
          rcases hm with rfl | rfl
          · exact absurd (ha9.symm.trans (show ahead .any _ _ _ _ = true by kernel_rfl)) (by decide)
          · exact absurd (ha9.symm.trans (show ahead .any _ _ _ _ = true by kernel_rfl)) (by decide))
        obtain ⟨A, c, e, ho⟩ := hv
        exact ⟨A, c, e, ownsRow_below ho hb⟩
      next =>
        simp only [Act.put, List.setIfInBounds_toArray, List.set_cons_zero, List.set_cons_succ] at hK9
        obtain ⟨A, c, e11, ho⟩ := hB 11 _ (by kernel_rfl) (by kernel_rfl) rfl (by decide)
        simp only [e11] at hK9 ⊢
        go_simp
        exact hK9 _ _ _ rfl ⟨A, c, rfl, ho⟩ hC9 (fun _ => Below.refl _ _)
      refine wpFactsR_nil fun vs Lq W7 hL9 hC7 hB => ?_
      obtain ⟨A7, c7, e12, ho7⟩ := hB 12 _ rfl rfl (by decide)
      simp only [e12]
      clear hB hL9 e12
      have hnl : k + 1 + (l.length - k) = (l.take (k) ++ n :: l.drop (k)).length := by simp; omega
      rw [hnl] at ho7 ⊢
      have hcs : ((encIs l).take (k * 1) ++ [.int .i64 n]) ++ (encIs l).drop (k * 1) = encIs (l.take (k) ++ n :: l.drop (k)) := by simp [List.map_take, List.map_drop]
      rw [hcs] at ho7
      have HB := Lib.hid (b5.trans (hC7.mono b5.size))
      have HO := Lib.hid (ownsRow_lower ho7 b5.size)
      have HNL := Lib.hid hnl
      clear ho7 hC7 hnl hcs HSL
      go_wp2_with fail
      go_ret
      exact ⟨A7, c7, _, rfl, by rw [← HNL.out]; omega, ownsRow_cap HO.out, HB.out, .inr (OwnS.of HO.out)⟩
end Go.Proofs.YtchkjiadnackaaaGreatDoor

/- Lists of ints that ascend. -/
namespace Go.Proofs.YtchkjiadnackaaaGreatDoor
open Go.RowKit

def inR (n lo hi : Int) : Bool := decide (lo ≤ n) && decide (n ≤ hi)
theorem inR_iff {n lo hi : Int} : inR n lo hi = true ↔ lo ≤ n ∧ n ≤ hi := by simp [inR]
theorem l1In_any (n lo hi : Int) (w : World) : Calls Tryz.prog 46 #[.int .i64 n, .int .i64 lo, .int .i64 hi] w fun e w' => e = .returned (.bool (inR n lo hi)) ∧ w = w' := by
  go_enter Tryz.func46, Tryz.ntmps46
  go_wp2
  all_goals (go_ret; exact ⟨by simp [inR, *]; try omega, rfl⟩)
theorem inRange_any (n lo hi : Int) (w : World) : Calls Tryz.prog 42 #[.int .i64 n, .int .i64 lo, .int .i64 hi] w fun e w' => e = .returned (.bool (inR n lo hi)) ∧ w = w' := by
  go_enter Tryz.func42, Tryz.ntmps42
  go_wp2
  all_goals (go_ret; exact ⟨by simp [inR, *]; try omega, rfl⟩)

/-- The rest of a list ascends behind the number p. -/
def ascFrom : Int → List Int → Bool
  | _, [] => true
  | p, x :: l => decide (p < x) && ascFrom x l
def asc : List Int → Bool
  | [] => true
  | x :: l => ascFrom x l
def riseFrom (lo hi : Int) : Nat → Int → List Int → Bool
  | _, _, [] => true
  | n, p, x :: l => inR x lo hi && (decide (n = 0) || decide (p < x)) && riseFrom lo hi (n + 1) x l
def rises (lo hi : Int) (l : List Int) : Bool := riseFrom lo hi 0 0 l
theorem riseFrom_eq (lo hi : Int) : ∀ (l : List Int) (n : Nat) (p : Int), riseFrom lo hi (n + 1) p l = (ascFrom p l && l.all fun x => inR x lo hi)
  | [], _, _ => rfl
  | x :: l, n, p => by
    rw [riseFrom, riseFrom_eq lo hi l (n + 1) x, ascFrom, List.all_cons]
    cases inR x lo hi <;> cases decide (p < x) <;> simp
theorem rises_eq (lo hi : Int) : ∀ l : List Int, rises lo hi l = (asc l && l.all fun x => inR x lo hi)
  | [] => rfl
  | x :: l => by
    unfold rises
    rw [riseFrom, riseFrom_eq lo hi l 0 x, asc, List.all_cons]
    cases inR x lo hi <;> simp

set_option maxHeartbeats 1000000 in
theorem l1Rising_any (A : Option Addr) (c : Nat) (l : List Int) (lo hi : Int) (w : World) (h : IntsR w w.heap.size A l) :
    Calls Tryz.prog 47 #[.slice A l.length c, .int .i64 lo, .int .i64 hi] w fun e w' => e = .returned (.bool (rises lo hi l)) ∧ Below w.heap.size w w' := by
  have hl := h.big
  have hrd := h.ints
  go_enter Tryz.func47, Tryz.ntmps47
  go_wp2
  go_loopw [7] (fun i wr => ∃ (k : Nat) (prev : Int), k ≤ l.length ∧ i = .int .i64 k ∧ (∃ q : Since w.heap.size w, wr = q.val) ∧ Hid (riseFrom lo hi k prev (l.drop k) = rises lo hi l) ∧ Hid (∀ (_hk : 0 < k) (h' : k - 1 < l.length), prev = l[k - 1])) (fun i _ => l.length - (intOf i).toNat)
  case atStart => exact ⟨0, 0, Nat.zero_le _, rfl, ⟨Since.start _ _, rfl⟩, rfl, fun h => absurd h (by omega)⟩
  case round =>
    obtain ⟨k, prev, hk, rfl, ⟨q, rfl⟩, HR, HP⟩ := hrel
    by_cases hlt : k < l.length
    · obtain ⟨b, off, rfl, hb, hcell⟩ := hrd (by omega)
      have c0 := hcell k hlt
      have HC : Hid (0 < k → ∀ p : Since w.heap.size w, p.val.cell? ⟨b, off + (k - 1), none⟩ = some (.int .i64 prev)) := fun h p => by
        rw [HP.out h (by omega)]; exact hcell (k - 1) (by omega) p
      obtain ⟨x, hxe⟩ : ∃ x, x = l[k] := ⟨_, rfl⟩
      rw [← hxe] at c0
      have HX := Lib.hid hxe; clear hxe
      clear hcell hrd
      have hstep : Hid (riseFrom lo hi k prev (l.drop k) = (inR x lo hi && (decide (k = 0) || decide (prev < x)) && riseFrom lo hi (k + 1) x (l.drop (k + 1)))) := by
        rw [List.drop_eq_getElem_cons hlt, HX.out]; rfl
      have HN : Hid (∀ (_hk : 0 < k + 1) (h' : k + 1 - 1 < l.length), x = l[k + 1 - 1]) := fun _ h' => by rw [HX.out]; rfl
      obtain ⟨v, hv⟩ : ∃ v, inR x lo hi = v := ⟨_, rfl⟩
      have HV := Lib.hid hv; clear hv
      rcases Nat.eq_zero_or_pos k with h0 | h0
      · have hd : decide (0 < k) = false := decide_eq_false (by omega)
        have H0 := Lib.hid h0; clear h0
        cases v
        all_goals
          go_wp2
          refine wp_region_since _ (by kernel_rfl) (by kernel_rfl) ?_
          repeat (any_goals (first | go_big_quiet_step ((go_at_call 46; refine calls_sameB HV (l1In_any x _ _ _))) | (refine wpQuiet_step (fun K hK => ?_); go_simp; split <;> (refine hK _ ?_; clear hK K))))
          all_goals (refine wpQuiet_nil ?_; rintro _ ⟨q1, rfl⟩)
          all_goals go_wp2
        · go_ret
          refine ⟨?_, q1.below⟩
          rw [← HR.out, hstep.out, HV.out]; rfl
        · go_roundw
          case rel => exact ⟨k + 1, x, by omega, by go_num, ⟨q1, rfl⟩, by have h1 := HR.out; rw [hstep.out, HV.out, decide_eq_true H0.out] at h1; exact h1, HN⟩
          case measure => simp [intOf]; omega
      · have c5 := HC.out h0
        have h0' : (0 : Int) < (k : Int) := by omega
        cases v
        all_goals
          go_wp2
          refine wp_region_since _ (by kernel_rfl) (by kernel_rfl) ?_
          repeat (any_goals (first | go_big_quiet_step ((go_at_call 46; refine calls_sameB HV (l1In_any x _ _ _))) | (refine wpQuiet_step (fun K hK => ?_); go_simp; split <;> (refine hK _ ?_; clear hK K))))
          all_goals (refine wpQuiet_nil ?_; rintro _ ⟨q1, rfl⟩)
          all_goals go_wp2
        · go_ret
          refine ⟨?_, q1.below⟩
          rw [← HR.out, hstep.out, HV.out]; rfl
        · go_ret
          refine ⟨?_, q1.below⟩
          have hm : x ≤ prev := by assumption
          rw [← HR.out, hstep.out, HV.out, decide_eq_false (by omega : ¬ k = 0), decide_eq_false (by omega : ¬ prev < x)]; rfl
        · have hm : prev < x := by assumption
          go_roundw
          case rel => exact ⟨k + 1, x, by omega, by go_num, ⟨q1, rfl⟩, by have h1 := HR.out; rw [hstep.out, HV.out, decide_eq_true hm, Bool.or_true] at h1; exact h1, HN⟩
          case measure => simp [intOf]; omega
    · clear hrd
      go_wp2
      go_ret
      refine ⟨?_, q.below⟩
      rw [← HR.out, List.drop_eq_nil_of_le (by omega)]; rfl

set_option maxHeartbeats 1000000 in
theorem ascending_any (A : Option Addr) (c : Nat) (l : List Int) (w : World) (h : IntsR w w.heap.size A l) :
    Calls Tryz.prog 43 #[.slice A l.length c] w fun e w' => e = .returned (.bool (asc l)) ∧ Below w.heap.size w w' := by
  have hl := h.big
  have hrd := h.ints
  cases l with
  | nil =>
    go_enter Tryz.func43, Tryz.ntmps43
    go_wp2
    refine wp_loop_rounds 1 ?_
    rw [rounds_succ]
    go_wp2
    go_ret
    exact ⟨rfl, Below.refl _ _⟩
  | cons y l =>
    have hF : Hid (ascFrom y ((y :: l).drop 1) = asc (y :: l)) := rfl
    have hy : Hid (∀ h' : 1 - 1 < (y :: l).length, y = (y :: l)[1 - 1]) := fun _ => rfl
    have hpos : 0 < (y :: l).length := by simp
    revert hF hy hpos hl hrd h
    generalize hm : (y :: l) = m
    clear hm
    intro h hl hrd hF hy hpos
    go_enter Tryz.func43, Tryz.ntmps43
    go_wp2
    go_loopw [3] (fun i wr => ∃ (k : Nat) (prev : Int), 1 ≤ k ∧ k ≤ m.length ∧ i = .int .i64 k ∧ (∃ q : Since w.heap.size w, wr = q.val) ∧ Hid (ascFrom prev (m.drop k) = asc m) ∧ Hid (∀ h' : k - 1 < m.length, prev = m[k - 1])) (fun i _ => m.length - (intOf i).toNat)
    case atStart => exact ⟨1, y, by omega, hpos, rfl, ⟨Since.start _ _, rfl⟩, hF, hy⟩
    case round =>
      obtain ⟨k, prev, hk1, hk, rfl, ⟨q, rfl⟩, HR, HP⟩ := hrel
      by_cases hlt : k < m.length
      · obtain ⟨b, off, rfl, hb, hcell⟩ := hrd (by omega)
        have c0 := hcell k hlt
        have c5 : ∀ p : Since w.heap.size w, p.val.cell? ⟨b, off + (k - 1), none⟩ = some (.int .i64 prev) := fun p => by
          rw [HP.out (by omega)]; exact hcell (k - 1) (by omega) p
        have hstep : Hid (ascFrom prev (m.drop k) = (decide (prev < m[k]) && ascFrom m[k] (m.drop (k + 1)))) := by
          rw [List.drop_eq_getElem_cons hlt]; rfl
        obtain ⟨x, hxe⟩ : ∃ x, x = m[k] := ⟨_, rfl⟩
        have HN : Hid (∀ h' : k + 1 - 1 < m.length, x = m[k + 1 - 1]) := fun _ => by rw [hxe]; rfl
        rw [← hxe] at c0 hstep
        clear hxe hcell hrd
        by_cases hle : prev < x
        · have HV : Hid (decide (prev < x) = true) := decide_eq_true hle
          go_wp2
          refine wp_region_since _ (by kernel_rfl) (by kernel_rfl) ?_
          repeat (any_goals (first | go_big_quiet_step ((fail)) | (refine wpQuiet_step (fun K hK => ?_); go_simp; split <;> (refine hK _ ?_; clear hK K))))
          all_goals (refine wpQuiet_nil ?_; rintro _ ⟨q1, rfl⟩)
          go_wp2
          go_roundw
          case rel => exact ⟨k + 1, x, by omega, by omega, by go_num, ⟨q1, rfl⟩, by have h1 := HR.out; rw [hstep.out, HV.out] at h1; exact h1, HN⟩
          case measure => simp [intOf]; omega
        · have HV : Hid (decide (prev < x) = false) := decide_eq_false hle
          go_wp2
          refine wp_region_since _ (by kernel_rfl) (by kernel_rfl) ?_
          repeat (any_goals (first | go_big_quiet_step ((fail)) | (refine wpQuiet_step (fun K hK => ?_); go_simp; split <;> (refine hK _ ?_; clear hK K))))
          all_goals (refine wpQuiet_nil ?_; rintro _ ⟨q1, rfl⟩)
          go_wp2
          go_ret
          refine ⟨?_, q1.below⟩
          rw [← HR.out, hstep.out, HV.out]; rfl
      · clear hrd
        go_wp2
        go_ret
        refine ⟨?_, q.below⟩
        rw [← HR.out, List.drop_eq_nil_of_le (by omega)]; rfl
end Go.Proofs.YtchkjiadnackaaaGreatDoor

/- Two worlds that differ in some blocks alone; marks in a row; the place of the first (no program's own function in sight). -/
namespace Go.Proofs.YtchkjiadnackaaaGreatDoor
open Go.RowKit

/-- Between two worlds only blocks from lo on and below hi have turned; new ones may lie behind. -/
structure Mid (lo hi : Nat) (w w' : World) : Prop where
  os : w'.os = w.os
  tape : w'.tape = w.tape
  output : w'.output = w.output
  size : w.heap.size ≤ w'.heap.size
  block : ∀ k, k < w.heap.size → (k < lo ∨ hi ≤ k) → w'.heap[k]? = w.heap[k]?
theorem Mid.refl (lo hi : Nat) (w : World) : Mid lo hi w w := ⟨rfl, rfl, rfl, Nat.le_refl _, fun _ _ _ => rfl⟩
theorem Mid.trans {lo hi : Nat} {a b c : World} (h : Mid lo hi a b) (k : Mid lo hi b c) : Mid lo hi a c :=
  ⟨k.os.trans h.os, k.tape.trans h.tape, k.output.trans h.output, Nat.le_trans h.size k.size, fun i hi ho => (k.block i (Nat.lt_of_lt_of_le hi h.size) ho).trans (h.block i hi ho)⟩
theorem Mid.of {lo hi : Nat} {a b : World} {row : Option Nat} (h : a.grownBy b row) (hr : ∀ g, row = some g → lo ≤ g ∧ g < hi) : Mid lo hi a b :=
  ⟨h.os, h.tape, h.output, h.size, fun k hk ho => h.block k hk (fun e => by have := hr k e.symm; omega)⟩
theorem Mid.below {lo hi : Nat} {a b : World} (h : Mid lo hi a b) (hlo : lo ≤ a.heap.size) : Below lo a b :=
  ⟨h.os, h.tape, h.output, h.size, fun k hk => h.block k (by omega) (.inl hk)⟩
theorem Mid.lies {lo hi : Nat} {a b : World} (h : Mid lo hi a b) {g : Nat} {t : TypeId} {cs : List Value} (hL : Lies a g t cs) (ho : g < lo ∨ hi ≤ g) : Lies b g t cs := (h.block g hL.lt ho).trans hL
theorem Mid.own {lo hi : Nat} {a b : World} (h : Mid lo hi a b) {B : Nat} {t : TypeId} {k : Nat} {A : Option Addr} {n : Nat} {cs : List Value} (hO : OwnS a B t k A n cs) (hB : hi ≤ B) : OwnS b B t k A n cs := by
  obtain ⟨hl, hn, h0 | ⟨g', rest, hA, hg', hh⟩⟩ := hO
  · exact ⟨hl, hn, .inl h0⟩
  · exact ⟨hl, hn, .inr ⟨g', rest, hA, hg', h.lies hh (.inr (by omega))⟩⟩

theorem at_behind {α : Type} {a r : List α} {n : Nat} (h : a.length = n) (i : Nat) : (a ++ r)[n + i]? = r[i]? := by
  rw [List.getElem?_append_right (by omega), h, Nat.add_sub_cancel_left]
theorem set_behind {α : Type} {a r : List α} {n : Nat} (h : a.length = n) (i : Nat) (u : α) : (a ++ r).set (n + i) u = a ++ r.set i u := by
  subst h; rw [List.set_append_right _ _ (by omega), Nat.add_sub_cancel_left]

theorem split_2 {α : Type} {l : List α} (h : 2 ≤ l.length) : ∃ a0 a1 r, l = a0 :: a1 :: r := by
  match l, h with
  | a0 :: a1 :: r, _ => exact ⟨a0, a1, r, rfl⟩
theorem split_3 {α : Type} {l : List α} (h : 3 ≤ l.length) : ∃ a0 a1 a2 r, l = a0 :: a1 :: a2 :: r := by
  match l, h with
  | a0 :: a1 :: a2 :: r, _ => exact ⟨a0, a1, a2, r, rfl⟩
theorem split_4 {α : Type} {l : List α} (h : 4 ≤ l.length) : ∃ a0 a1 a2 a3 r, l = a0 :: a1 :: a2 :: a3 :: r := by
  match l, h with
  | a0 :: a1 :: a2 :: a3 :: r, _ => exact ⟨a0, a1, a2, a3, r, rfl⟩
theorem split_5 {α : Type} {l : List α} (h : 5 ≤ l.length) : ∃ a0 a1 a2 a3 a4 r, l = a0 :: a1 :: a2 :: a3 :: a4 :: r := by
  match l, h with
  | a0 :: a1 :: a2 :: a3 :: a4 :: r, _ => exact ⟨a0, a1, a2, a3, a4, r, rfl⟩
theorem enc_ramp_at {k0 : Int} {n i : Nat} (h : i < n) : (encIs (ramp k0 n))[i]? = some (.int .i64 (k0 + i)) := by
  unfold encIs
  rw [List.getElem?_map, List.getElem?_eq_getElem (by rw [ramp_len]; exact h), ramp_at]; rfl

/-- The place of the first that f takes, or -1. -/
def idxFrom {α : Type} (f : α → Bool) : Nat → List α → Int
  | _, [] => -1
  | k, x :: l => if f x then k else idxFrom f (k + 1) l
theorem idxFrom_any {α : Type} (f : α → Bool) : ∀ (l : List α) (k : Nat), decide (0 ≤ idxFrom f k l) = l.any f
  | [], _ => rfl
  | x :: l, k => by
    rw [idxFrom, List.any_cons, ← idxFrom_any f l (k + 1)]
    cases f x <;> simp
theorem idx_yes {α : Type} {f : α → Bool} {l : List α} {k : Nat} (h : k < l.length) (hf : f l[k] = true) : idxFrom f k (l.drop k) = k := by
  rw [List.drop_eq_getElem_cons h, idxFrom, hf]; rfl
theorem idx_no {α : Type} {f : α → Bool} {l : List α} {k : Nat} (h : k < l.length) (hf : f l[k] = false) : idxFrom f k (l.drop k) = idxFrom f (k + 1) (l.drop (k + 1)) := by
  rw [List.drop_eq_getElem_cons h, idxFrom, hf]; rfl
end Go.Proofs.YtchkjiadnackaaaGreatDoor

/- slices.ContainsFunc over ints. -/
namespace Go.Proofs.YtchkjiadnackaaaGreatDoor
open Go.RowKit

set_option maxHeartbeats 1000000 in
theorem idxI_any (f : Int → Bool) (hf : ∀ x W, Calls Tryz.prog 45 #[.int .i64 x] W fun e w' => e = .returned (.bool (f x)) ∧ Below W.heap.size W w') (A : Option Addr) (c : Nat) (l : List Int) (w : World) (h : IntsR w w.heap.size A l) :
    Calls Tryz.prog 63 #[.slice A l.length c, .func (.func 45) #[] #[]] w fun e w' => e = .returned (.int .i64 (idxFrom f 0 l)) ∧ Below w.heap.size w w' := by
  have hl := h.big
  have hrd := h.ints
  have HF : Hid (idxFrom f 0 (l.drop 0) = idxFrom f 0 l) := rfl
  go_enter Tryz.func63, Tryz.ntmps63
  go_wp2
  go_loopw [8] (fun i wr => ∃ (k : Nat), k ≤ l.length ∧ i = .int .i64 k ∧ (∃ q : Since w.heap.size w, wr = q.val) ∧ Hid (idxFrom f k (l.drop k) = idxFrom f 0 l)) (fun i _ => l.length - (intOf i).toNat)
  case atStart => exact ⟨0, Nat.zero_le _, rfl, ⟨Since.start _ _, rfl⟩, HF⟩
  case round =>
    obtain ⟨k, hk, rfl, ⟨q, rfl⟩, HR⟩ := hrel
    by_cases hlt : k < l.length
    · obtain ⟨b, off, rfl, hb, hcell⟩ := hrd (by omega)
      have c0 := hcell k hlt
      have hy := fun hv => idx_yes (f := f) hlt hv
      have hn := fun hv => idx_no (f := f) hlt hv
      obtain ⟨x, hxe⟩ : ∃ x, x = l[k] := ⟨_, rfl⟩
      rw [← hxe] at c0 hy hn
      clear hxe hcell hrd
      have hfx := fun W => hf x W
      cases hv : f x
      · have HE : Hid (idxFrom f (k + 1) (l.drop (k + 1)) = idxFrom f 0 l) := by rw [← hn hv]; exact HR.out
        rw [hv] at hfx
        clear hy hn hv hf
        go_wp2_with (go_at_call 45; refine (hfx _).mono ?_; rintro e w1 ⟨rfl, hb1⟩)
        go_roundw
        case rel => exact ⟨k + 1, by omega, by go_num, ⟨q.go (Nat.le_refl _) hb1, rfl⟩, HE⟩
        case measure => simp [intOf]; omega
      · have HE : Hid ((k : Int) = idxFrom f 0 l) := by rw [← hy hv]; exact HR.out
        rw [hv] at hfx
        clear hy hn hv hf
        go_wp2_with (go_at_call 45; refine (hfx _).mono ?_; rintro e w1 ⟨rfl, hb1⟩)
        go_ret
        exact ⟨by rw [← HE.out]; rfl, (q.go (Nat.le_refl _) hb1).below⟩
    · have HE : Hid (-1 = idxFrom f 0 l) := by
        have h1 := HR.out; rw [List.drop_eq_nil_of_le (by omega)] at h1; exact h1
      clear hrd
      go_wp2
      go_ret
      exact ⟨by rw [← HE.out]; rfl, q.below⟩

theorem anyI_any (f : Int → Bool) (hf : ∀ x W, Calls Tryz.prog 45 #[.int .i64 x] W fun e w' => e = .returned (.bool (f x)) ∧ Below W.heap.size W w') (A : Option Addr) (c : Nat) (l : List Int) (w : World) (h : IntsR w w.heap.size A l) :
    Calls Tryz.prog 44 #[.slice A l.length c, .func (.func 45) #[] #[]] w fun e w' => e = .returned (.bool (l.any f)) ∧ Below w.heap.size w w' := by
  have hi := idxI_any f hf A c l w h
  have HA : Hid (decide (0 ≤ idxFrom f 0 l) = l.any f) := idxFrom_any f l 0
  generalize idxFrom f 0 l = v at hi HA
  go_enter Tryz.func44, Tryz.ntmps44
  go_wp2_with fail
  refine hi.mono ?_
  rintro e w1 ⟨rfl, hb1⟩
  go_wp2
  go_ret
  exact ⟨by rw [← HA.out]; rfl, hb1⟩
end Go.Proofs.YtchkjiadnackaaaGreatDoor

/- Slices of ints: copies and sizes. -/
namespace Go.Proofs.YtchkjiadnackaaaGreatDoor
open Go.RowKit

def lessen (k : Int) (n : Nat) : Int := if (n : Int) ≤ k then k - n else -1
theorem infoInt : (Tryz.prog.info? 3).map (fun i => (i.zero, i.size, i.bytes)) = some (some (.int .i64 0), 1, 8) := by kernel_rfl

end Go.Proofs.YtchkjiadnackaaaGreatDoor

/- Phrases: the struct, validity of one. -/
namespace Go.Proofs.YtchkjiadnackaaaGreatDoor
open Go.RowKit

structure Ph where
  s : Int
  c : Int
  A : Option Addr
  f : List Int
  cap : Nat
  p : Int
def Ph.enc (x : Ph) : List Value := [.int .i64 x.s, .int .i64 x.c, .slice x.A x.f.length x.cap, .int .i64 x.p]
abbrev Ph.val (x : Ph) : Value := .agg #[.int .i64 x.s, .int .i64 x.c, .slice x.A x.f.length x.cap, .int .i64 x.p]
theorem Ph.enc_len (x : Ph) : x.enc.length = 4 := rfl
def Ph.ok (x : Ph) : Bool := inR x.s 1 3 && inR x.c 1 99 && rises 1 9 x.f && inR x.p 0 999999
theorem any_not (l : List Int) : (l.any fun y => !inR y 1 9) = !(l.all fun y => inR y 1 9) := by
  induction l with
  | nil => rfl
  | cons x l ih => rw [List.any_cons, List.all_cons, ih]; cases inR x 1 9 <;> simp

theorem notIn_any (x : Int) (w : World) : Calls Tryz.prog 45 #[.int .i64 x] w fun e w' => e = .returned (.bool (!inR x 1 9)) ∧ Below w.heap.size w w' := by
  have hc := fun W => inRange_any x 1 9 W
  cases hv : inR x 1 9
  all_goals
    rw [hv] at hc
    clear hv
    go_enter Tryz.func45, Tryz.ntmps45
    go_wp2_with fail
    refine (hc _).mono ?_
    rintro e w' ⟨rfl, rfl⟩
    go_wp2
    go_ret
    exact ⟨rfl, Below.refl _ _⟩

theorem l30One_any (x : Ph) (w : World) (h : IntsR w w.heap.size x.A x.f) : Calls Tryz.prog 25 #[x.val] w fun e w' => e = .returned (.bool x.ok) ∧ Below w.heap.size w w' := by
  have hb0 := (Below.refl w.heap.size w).alloc (Nat.le_refl _) (.cells #[.int .i64 x.s, .int .i64 x.c, .slice x.A x.f.length x.cap, .int .i64 x.p] 26)
  have h1 : IntsR (w.alloc (.cells #[.int .i64 x.s, .int .i64 x.c, .slice x.A x.f.length x.cap, .int .i64 x.p] 26)) (w.alloc (.cells #[.int .i64 x.s, .int .i64 x.c, .slice x.A x.f.length x.cap, .int .i64 x.p] 26)).heap.size x.A x.f := SlcR.up h hb0 (Nat.le_refl _)
  have hL := Lies.new w 26 #[.int .i64 x.s, .int .i64 x.c, .slice x.A x.f.length x.cap, .int .i64 x.p]
  go_enter Tryz.func25, Tryz.ntmps25
  go_wp2_with (first
    | (go_at_call 46; refine (l1In_any _ _ _ _).mono ?_; rintro e w' ⟨rfl, rfl⟩)
    | (go_at_call 47; refine (l1Rising_any x.A x.cap x.f 1 9 _ h1).mono ?_; rintro e w1 ⟨rfl, hb1⟩; have k3 := (hb1.cell hL.lt).trans (hL.cell 3); simp only [List.getElem?_cons_zero, List.getElem?_cons_succ] at k3))
  all_goals (go_ret; exact ⟨by simp [Ph.ok, *], by first | exact bthen hb0 hb1 | exact hb0⟩)

theorem isPhrase_any (x : Ph) (w : World) (h : IntsR w w.heap.size x.A x.f) : Calls Tryz.prog 23 #[x.val] w fun e w' => e = .returned (.bool x.ok) ∧ Below w.heap.size w w' := by
  have hb0 := (Below.refl w.heap.size w).alloc (Nat.le_refl _) (.cells #[.int .i64 x.s, .int .i64 x.c, .slice x.A x.f.length x.cap, .int .i64 x.p] 26)
  have h1 : IntsR (w.alloc (.cells #[.int .i64 x.s, .int .i64 x.c, .slice x.A x.f.length x.cap, .int .i64 x.p] 26)) (w.alloc (.cells #[.int .i64 x.s, .int .i64 x.c, .slice x.A x.f.length x.cap, .int .i64 x.p] 26)).heap.size x.A x.f := SlcR.up h hb0 (Nat.le_refl _)
  have hL := Lies.new w 26 #[.int .i64 x.s, .int .i64 x.c, .slice x.A x.f.length x.cap, .int .i64 x.p]
  have HR : Hid (rises 1 9 x.f = (asc x.f && !(x.f.any fun y => !inR y 1 9))) := by
    unfold Hid; rw [rises_eq, any_not, Bool.not_not]
  go_enter Tryz.func23, Tryz.ntmps23
  go_wp2_with (first
    | (go_at_call 42; refine (inRange_any _ _ _ _).mono ?_; rintro e w' ⟨rfl, rfl⟩)
    | (go_at_call 43; refine (ascending_any x.A x.cap x.f _ h1).mono ?_; rintro e w1 ⟨rfl, hb1⟩; have k2 := (hb1.cell hL.lt).trans (hL.cell 2); simp only [List.getElem?_cons_zero, List.getElem?_cons_succ] at k2)
    | (go_at_call 44; refine (anyI_any (fun y => !inR y 1 9) notIn_any x.A x.cap x.f _ (h1.then hb1)).mono ?_; rintro e w2 ⟨rfl, hb2⟩; have k3 := ((bthen hb1 hb2).cell hL.lt).trans (hL.cell 3); simp only [List.getElem?_cons_zero, List.getElem?_cons_succ] at k3))
  all_goals (go_ret; exact ⟨by rw [Ph.ok, HR.out]; simp [*], by first | exact bthen hb0 (bthen hb1 hb2) | exact bthen hb0 hb1 | exact hb0⟩)
end Go.Proofs.YtchkjiadnackaaaGreatDoor

/- Phrases: size, copy, equality; the law FnExactIsPhrase. -/
namespace Go.Proofs.YtchkjiadnackaaaGreatDoor
open Go.RowKit

theorem Lies.new1 (w : World) (o : Obj) (t : TypeId) (cs : Array Value) : Lies ((w.alloc o).alloc (.cells cs t)) (w.heap.size + 1) t cs.toList := by
  have h := Lies.new (w.alloc o) t cs
  rwa [show (w.alloc o).heap.size = w.heap.size + 1 from Array.size_push _] at h
theorem Lies.new2 (w : World) (o o' : Obj) (t : TypeId) (cs : Array Value) : Lies (((w.alloc o).alloc o').alloc (.cells cs t)) (w.heap.size + 1 + 1) t cs.toList := by
  have h := Lies.new1 (w.alloc o) o' t cs
  rwa [show (w.alloc o).heap.size = w.heap.size + 1 from Array.size_push _] at h

def Ph.same (x y : Ph) : Bool := decide (x.s = y.s) && decide (x.c = y.c) && sameInts x.f y.f && decide (x.p = y.p)
theorem Ph.same_self (x : Ph) (A : Option Addr) (c : Nat) : Ph.same x { x with A := A, cap := c } = true := by simp [Ph.same, sameInts]

end Go.Proofs.YtchkjiadnackaaaGreatDoor

/- copyPhrase: a phrase with its own faults. -/
namespace Go.Proofs.YtchkjiadnackaaaGreatDoor
open Go.RowKit

theorem OwnS.lower {w : World} {B B' : Nat} {t : TypeId} {k : Nat} {A : Option Addr} {n : Nat} {cs : List Value} (h : OwnS w B t k A n cs) (hB : B' ≤ B) : OwnS w B' t k A n cs := by
  obtain ⟨hl, hn, h0 | ⟨g, rest, hA, hg, hh⟩⟩ := h
  · exact ⟨hl, hn, .inl h0⟩
  · exact ⟨hl, hn, .inr ⟨g, rest, hA, Nat.le_trans hB hg, hh⟩⟩

/-- A phrase like x whose faults are the call's own. -/
def GivesPh (w : World) (x : Ph) (e : Ending) (w' : World) : Prop := ∃ A c, e = .returned (Ph.val { x with A := A, cap := c }) ∧ OwnS w' w.heap.size 3 1 A x.f.length (encIs x.f) ∧ Below w.heap.size w w'

end Go.Proofs.YtchkjiadnackaaaGreatDoor

/- Lists of phrases: how they read; size, copy, equality. -/
namespace Go.Proofs.YtchkjiadnackaaaGreatDoor
open Go.RowKit

/-- A phrase lies at a place, in every world since. -/
structure PhS (B : Nat) (w : World) (b o : Nat) (x : Ph) : Prop where
  c0 : ∀ p : Since B w, p.val.cell? ⟨b, o, none⟩ = some (.int .i64 x.s)
  c1 : ∀ p : Since B w, p.val.cell? ⟨b, o + 1, none⟩ = some (.int .i64 x.c)
  c2 : ∀ p : Since B w, p.val.cell? ⟨b, o + 2, none⟩ = some (.slice x.A x.f.length x.cap)
  c3 : ∀ p : Since B w, p.val.cell? ⟨b, o + 3, none⟩ = some (.int .i64 x.p)
theorem PhS.of {W : World} {g : Nat} {t : TypeId} {x : Ph} (h : Lies W g t x.enc) : PhS W.heap.size W g 0 x :=
  ⟨fun p => (p.cell h.lt).trans (h.cell 0), fun p => (p.cell h.lt).trans (h.cell 1), fun p => (p.cell h.lt).trans (h.cell 2), fun p => (p.cell h.lt).trans (h.cell 3)⟩
/-- A slice of phrases reads, and so do their faults. -/
structure PhsR (w : World) (B : Nat) (A : Option Addr) (l : List Ph) : Prop where
  slc : SlcR w B 4 A l.length (l.flatMap Ph.enc)
  fs : ∀ x ∈ l, IntsR w B x.A x.f
section
variable {w w' : World} {B : Nat} {A : Option Addr} {l : List Ph}
theorem PhsR.keep (h : PhsR w B A l) (hk : ∀ p : Addr, p.block < B → w'.cell? p = w.cell? p) : PhsR w' B A l := ⟨h.slc.keep hk, fun x hx => (h.fs x hx).keep hk⟩
theorem PhsR.mono {B' : Nat} (h : PhsR w B A l) (hB : B ≤ B') : PhsR w B' A l := ⟨h.slc.mono hB, fun x hx => (h.fs x hx).mono hB⟩
theorem PhsR.below (h : PhsR w B A l) (hb : Below B w w') : PhsR w' B A l := h.keep fun _ hp => hb.cell hp
theorem PhsR.then (h : PhsR w w.heap.size A l) (hb : Below w.heap.size w w') : PhsR w' w'.heap.size A l := (h.below hb).mono hb.size
theorem PhsR.ph (h : PhsR w B A l) (hne : 0 < l.length) : ∃ b off, A = some ⟨b, off, none⟩ ∧ b < B ∧ ∀ i (hi : i < l.length), PhS B w b (off + i * 4) l[i] := by
  obtain ⟨b, off, e, hb, hc⟩ := h.slc.at_ hne
  refine ⟨b, off, e, hb, fun i hi => ?_⟩
  have key : ∀ j, j < 4 → ∀ u, (l[i].enc)[j]? = some u → ∀ p : Since B w, p.val.cell? ⟨b, off + i * 4 + j, none⟩ = some u := fun j hj u hu p => by
    rw [p.cell hb, Nat.add_assoc]
    exact hc _ u (by rw [flat_at Ph.enc 4 Ph.enc_len l i hi j hj]; exact hu)
  exact ⟨key 0 (by omega) _ rfl, key 1 (by omega) _ rfl, key 2 (by omega) _ rfl, key 3 (by omega) _ rfl⟩
theorem PhsR.f (h : PhsR w B A l) {i : Nat} (hi : i < l.length) : IntsR w B l[i].A l[i].f := h.fs _ (List.getElem_mem hi)
end

/-- What a phrase holds. -/
def Ph.ph (x : Ph) : Int × Int × List Int × Int := (x.s, x.c, x.f, x.p)
theorem Ph.same_ph (x y : Ph) : Ph.same x y = decide (x.ph = y.ph) := by
  unfold Ph.same Ph.ph sameInts
  simp only [Prod.mk.injEq, Bool.decide_and]
  cases decide (x.s = y.s) <;> cases decide (x.c = y.c) <;> cases decide (x.f = y.f) <;> simp
def samePhs (a b : List Ph) : Bool := decide (a.map Ph.ph = b.map Ph.ph)
def samePhsFrom : List Ph → List Ph → Bool
  | [], [] => true
  | x :: a, y :: b => Ph.same x y && samePhsFrom a b
  | _, _ => false
theorem samePhsFrom_eq : ∀ a b : List Ph, samePhsFrom a b = samePhs a b
  | [], [] => by simp [samePhsFrom, samePhs]
  | [], _ :: _ => by simp [samePhsFrom, samePhs]
  | _ :: _, [] => by simp [samePhsFrom, samePhs]
  | x :: a, y :: b => by simp [samePhsFrom, samePhs, samePhsFrom_eq a b, Ph.same_ph, Bool.decide_and]

/-! ### Sizes -/
def fsum : List Ph → Nat
  | [] => 0
  | x :: l => x.f.length + fsum l
def need (l : List Ph) : Nat := l.length + fsum l
theorem fsum_step {l : List Ph} {k : Nat} (h : k < l.length) : fsum (l.drop k) = l[k].f.length + fsum (l.drop (k + 1)) := by
  rw [List.drop_eq_getElem_cons h]; rfl
theorem lessen_no {k : Int} {a b : Nat} (h : k < a) : lessen k (a + b) = -1 := by unfold lessen; rw [if_neg (by omega)]
theorem lessen_yes {k : Int} {a b : Nat} (_h : (a : Int) ≤ k) : lessen k (a + b) = lessen (k - a) b := by
  unfold lessen
  by_cases h : ((a + b : Nat) : Int) ≤ k
  · rw [if_pos h, if_pos (by omega)]; omega
  · rw [if_neg h, if_neg (by omega)]

theorem splice_end (a rest vs : List Value) : splice (a ++ rest) a.length vs = a ++ vs ++ rest.drop vs.length := by
  unfold splice
  rw [List.take_left, List.drop_append, List.drop_eq_nil_of_le (by omega), List.nil_append, Nat.add_sub_cancel_left]

theorem infoPh : (Tryz.prog.info? 26).map (fun i => (i.zero, i.size, i.bytes)) = some (some (.agg #[.int .i64 0, .int .i64 0, .slice none 0 0, .int .i64 0]), 4, 48) := by kernel_rfl

/-- Phrases of the call's own at block G, whose faults lie in blocks of their own behind it, in ascending order. -/
structure OwnPhs (w : World) (G : Nat) (l : List Ph) (rest : List Value) : Prop where
  lies : Lies w G 26 (l.flatMap Ph.enc ++ rest)
  fs : ∀ x ∈ l, ∃ g, x.A = some ⟨g, 0, none⟩ ∧ G < g ∧ Lies w g 3 (encIs x.f)
  nd : l.Pairwise fun x y => x.A ≠ y.A
theorem OwnPhs.reads {w : World} {G : Nat} {l : List Ph} {rest : List Value} (h : OwnPhs w G l rest) (hn : l.length ≤ 9223372036854775807) (hf : ∀ x ∈ l, x.f.length ≤ 9223372036854775807) : PhsR w w.heap.size (some ⟨G, 0, none⟩) l :=
  ⟨⟨flat_len Ph.enc 4 Ph.enc_len l, hn, fun _ => ⟨G, 0, rfl, h.lies.lt, fun j u hu => by
      rw [Nat.zero_add, h.lies.cell, List.getElem?_append_left (List.getElem?_eq_some_iff.1 hu).1]; exact hu⟩⟩,
   fun x hx => by
    obtain ⟨g, hA, _, hL⟩ := h.fs x hx
    rw [hA]; exact hL.reads (encIs_len _) (hf x hx)⟩
theorem OwnPhs.below {w w' : World} {G : Nat} {l : List Ph} {rest : List Value} (h : OwnPhs w G l rest) (hb : Below w.heap.size w w') : OwnPhs w' G l rest :=
  ⟨h.lies.below hb h.lies.lt, fun x hx => by
    obtain ⟨g, hA, hG, hL⟩ := h.fs x hx
    exact ⟨g, hA, hG, hL.below hb hL.lt⟩, h.nd⟩

theorem len_of_ph {a b : List Ph} (h : a.map Ph.ph = b.map Ph.ph) : a.length = b.length := by simpa using congrArg List.length h

end Go.Proofs.YtchkjiadnackaaaGreatDoor

/- Rows of phrases of the call's own. -/
namespace Go.Proofs.YtchkjiadnackaaaGreatDoor
open Go.RowKit

theorem OwnS.big {w : World} {B : Nat} {t : TypeId} {k : Nat} {A : Option Addr} {n : Nat} {cs : List Value} (h : OwnS w B t k A n cs) : n ≤ 9223372036854775807 := h.2.1
theorem OwnS.below' {w w' : World} {B : Nat} {t : TypeId} {k : Nat} {A : Option Addr} {n : Nat} {cs : List Value} (h : OwnS w B t k A n cs) (hb : Below w.heap.size w w') : OwnS w' B t k A n cs := h.then hb
theorem OwnS.grown {w w' : World} {B : Nat} {t : TypeId} {k : Nat} {A : Option Addr} {n : Nat} {cs : List Value} (h : OwnS w B t k A n cs) {e : TypeId} {B' k' n' : Nat} {v : Value} {xs : List Value} (ho : w.ownsRow B' e k' v n' xs) (hne : e ≠ t) (hg : w.grownBy w' v.ownBlock) : OwnS w' B t k A n cs := by
  obtain ⟨hl, hn, h0 | ⟨g', rest, hA, hg', hh⟩⟩ := h
  · exact ⟨hl, hn, .inl h0⟩
  · exact ⟨hl, hn, .inr ⟨g', rest, hA, hg', hh.kept hg (ownsRow_far ho hh hne)⟩⟩
theorem OwnS.lt_ {w : World} {B : Nat} {t : TypeId} {k : Nat} {A : Option Addr} {n : Nat} {cs : List Value} (h : OwnS w B t k A n cs) {g : Addr} (hA : A = some g) : B ≤ g.block ∧ g.block < w.heap.size := by
  obtain ⟨_, _, ⟨h0, _⟩ | ⟨g', rest, hA', hg', hh⟩⟩ := h
  · rw [h0] at hA; cases hA
  · rw [hA'] at hA; injection hA with hA; subst hA; exact ⟨hg', hh.lt⟩

/-- A row of phrases of the call's own; the faults of each its own too. -/
structure RowPh (w : World) (B : Nat) (v : Value) (l : List Ph) : Prop where
  row : w.ownsRow B 26 4 v l.length (l.flatMap Ph.enc)
  fs : ∀ x ∈ l, OwnS w B 3 1 x.A x.f.length (encIs x.f)
  nd : l.Pairwise fun x y => x.A = none ∨ x.A ≠ y.A
theorem ne_types : 26 ≠ 3 := by decide
theorem ne_int_ph : 3 ≠ 26 := by decide
theorem RowPh.nil (w : World) (B : Nat) : RowPh w B (.slice none 0 0) [] := ⟨World.ownsRow_nil _ _ _ _, by simp, List.Pairwise.nil⟩
theorem RowPh.below {w w' : World} {B : Nat} {v : Value} {l : List Ph} (h : RowPh w B v l) (hb : Below w.heap.size w w') : RowPh w' B v l :=
  ⟨ownsRow_below h.row hb, fun x hx => (h.fs x hx).then hb, h.nd⟩
theorem RowPh.lower {w : World} {B B' : Nat} {v : Value} {l : List Ph} (h : RowPh w B v l) (hB : B' ≤ B) : RowPh w B' v l :=
  ⟨ownsRow_lower h.row hB, fun x hx => (h.fs x hx).lower hB, h.nd⟩
theorem RowPh.reads {w : World} {B : Nat} {A : Option Addr} {c : Nat} {l : List Ph} (h : RowPh w B (.slice A l.length c) l) : PhsR w w.heap.size A l :=
  ⟨(OwnS.of h.row).reads, fun x hx => (h.fs x hx).reads⟩
theorem RowPh.form {w : World} {B : Nat} {v : Value} {l : List Ph} (h : RowPh w B v l) : ∃ A c, v = .slice A l.length c := ownsRow_slice h.row
/-- One more, whose faults are new. -/
theorem RowPh.push {w w0 w' : World} {B : Nat} {v v' : Value} {l : List Ph} {x : Ph} (h : RowPh w B v l) (hb : Below w.heap.size w w0) (hx : OwnS w0 w.heap.size 3 1 x.A x.f.length (encIs x.f)) (hB : B ≤ w.heap.size)
    (ho : w'.ownsRow B 26 4 v' (l.length + 1) (l.flatMap Ph.enc ++ x.enc)) (hg : w0.grownBy w' v.ownBlock) : RowPh w' B v' (l ++ [x]) := by
  have hr := ownsRow_below h.row hb
  refine ⟨by simpa using ho, fun y hy => ?_, ?_⟩
  · rcases List.mem_append.1 hy with hy | hy
    · exact ((h.fs y hy).then hb).grown hr ne_types hg
    · rw [List.mem_singleton] at hy; subst hy
      exact (hx.lower hB).grown hr ne_types hg
  · rw [List.pairwise_append]
    refine ⟨h.nd, List.pairwise_singleton _ _, fun a ha b hb' => ?_⟩
    rw [List.mem_singleton] at hb'; subst hb'
    cases hA : a.A with
    | none => exact .inl rfl
    | some g =>
      refine .inr fun e => ?_
      have h1 := ((h.fs a ha).lt_ hA).2
      have h2 := (hx.lt_ e.symm).1
      omega
/-- The copies of the phrase at place i. -/
def setC (i : Nat) (c : Int) (l : List Ph) : List Ph := l.modify i fun x => { x with c := c }
theorem setC_len (i : Nat) (c : Int) (l : List Ph) : (setC i c l).length = l.length := by simp [setC]
theorem setC_split {i : Nat} {c : Int} {l : List Ph} (h : i < l.length) : setC i c l = l.take i ++ { l[i] with c := c } :: l.drop (i + 1) := by
  unfold setC; rw [List.modify_eq_take_cons_drop h]
theorem flat_set {i : Nat} {c : Int} {l : List Ph} (h : i < l.length) : (l.flatMap Ph.enc).set (i * 4 + 1) (.int .i64 c) = (setC i c l).flatMap Ph.enc := by
  have e1 : l = l.take i ++ l[i] :: l.drop (i + 1) := by rw [List.getElem_cons_drop, List.take_append_drop]
  rw [setC_split h]
  have e2 : l.flatMap Ph.enc = (l.take i).flatMap Ph.enc ++ (l[i].enc ++ (l.drop (i + 1)).flatMap Ph.enc) := by
    rw [show l.flatMap Ph.enc = (l.take i ++ l[i] :: l.drop (i + 1)).flatMap Ph.enc from congrArg _ e1, List.flatMap_append, List.flatMap_cons]
  have e3 : ((l.take i).flatMap Ph.enc).length = i * 4 := by rw [flat_len Ph.enc 4 Ph.enc_len, List.length_take, Nat.min_eq_left (by omega)]
  rw [e2, List.set_append, if_neg (by omega), e3]
  simp [Ph.enc]
theorem RowPh.bump {w : World} {B g cap : Nat} {l : List Ph} {i : Nat} {c : Int} (h : RowPh w B (.slice (some ⟨g, 0, none⟩) l.length cap) l) (hi : i < l.length) : RowPh (w.setCell ⟨g, i * 4 + 1, none⟩ (.int .i64 c)) B (.slice (some ⟨g, 0, none⟩) l.length cap) (setC i c l) := by
  obtain ⟨h1, h2⟩ := h.row.stored (i * 4 + 1) (.int .i64 c)
  have hmem : ∀ {y}, y ∈ setC i c l → ∃ x ∈ l, y.A = x.A ∧ y.f = x.f := by
    intro y hy
    rw [setC_split hi] at hy
    rcases List.mem_append.1 hy with hy | hy
    · exact ⟨y, List.mem_of_mem_take hy, rfl, rfl⟩
    · rcases List.mem_cons.1 hy with rfl | hy
      · exact ⟨l[i], List.getElem_mem hi, rfl, rfl⟩
      · exact ⟨y, List.mem_of_mem_drop hy, rfl, rfl⟩
  refine ⟨by rw [flat_set hi] at h1; rw [setC_len]; exact h1, fun y hy => ?_, ?_⟩
  · obtain ⟨x, hx, e1, e2⟩ := hmem hy
    rw [e1, e2]
    exact (h.fs x hx).grown h.row ne_types h2
  · have e : (setC i c l).map Ph.A = l.map Ph.A := by
      have e1 : l = l.take i ++ l[i] :: l.drop (i + 1) := by rw [List.getElem_cons_drop, List.take_append_drop]
      rw [setC_split hi, show l.map Ph.A = (l.take i ++ l[i] :: l.drop (i + 1)).map Ph.A from congrArg _ e1]
      simp only [List.map_append, List.map_cons]
    have hp : ∀ m : List Ph, (m.Pairwise fun x y => x.A = none ∨ x.A ≠ y.A) ↔ (m.map Ph.A).Pairwise fun a b => a = none ∨ a ≠ b := fun m => by rw [List.pairwise_map]
    rw [hp, e, ← hp]; exact h.nd
theorem setC_ph {i : Nat} {c : Int} {l : List Ph} (h : i < l.length) : (setC i c l).map Ph.ph = (l.map Ph.ph).take i ++ (l[i].s, c, l[i].f, l[i].p) :: (l.map Ph.ph).drop (i + 1) := by
  rw [setC_split h]; simp [Ph.ph, List.map_take, List.map_drop]
end Go.Proofs.YtchkjiadnackaaaGreatDoor

/- Rows of the call's own, kept where others are written (no program in sight). -/
namespace Go.Proofs.YtchkjiadnackaaaGreatDoor
open Go.RowKit

theorem OwnS.ne {w w' : World} {B : Nat} {t : TypeId} {k : Nat} {A : Option Addr} {n g : Nat} {cs : List Value} (h : OwnS w B t k A n cs) (hg : w.grownBy w' (some g)) (hne : ∀ b, A.map (·.block) = some b → b ≠ g) : OwnS w' B t k A n cs := by
  obtain ⟨hl, hn, h0 | ⟨q, rest, hA, hq, hh⟩⟩ := h
  · exact ⟨hl, hn, .inl h0⟩
  · exact ⟨hl, hn, .inr ⟨q, rest, hA, hq, hh.kept hg (by intro e; injection e with e; exact hne q (by rw [hA]; rfl) e)⟩⟩
theorem OwnS.ge {w : World} {B : Nat} {t : TypeId} {k : Nat} {A : Option Addr} {n : Nat} {cs : List Value} (h : OwnS w B t k A n cs) : ∀ b, A.map (·.block) = some b → B ≤ b := by
  obtain ⟨hl, hn, ⟨h0, _⟩ | ⟨q, rest, hA, hq, hh⟩⟩ := h
  · subst h0; intro b e; cases e
  · subst hA; intro b e; injection e with e; subst e; exact hq
theorem OwnS.gr {w w' : World} {B : Nat} {t : TypeId} {k : Nat} {A : Option Addr} {n g : Nat} {cs : List Value} (h : OwnS w B t k A n cs) (hg : w.grownBy w' (some g)) (hB : g < B) : OwnS w' B t k A n cs :=
  h.ne hg fun b e => by have := h.ge b e; omega
/-- A row of another type stands elsewhere. -/
theorem OwnS.off {w : World} {B : Nat} {t t' : TypeId} {k : Nat} {A : Option Addr} {n g : Nat} {cs cs' : List Value} (h : OwnS w B t k A n cs) (hL : Lies w g t' cs') (hne : t ≠ t') : ∀ b, A.map (·.block) = some b → b ≠ g := by
  obtain ⟨hl, hn, ⟨h0, _⟩ | ⟨q, rest, hA, hq, hh⟩⟩ := h
  · subst h0; intro b e; cases e
  · subst hA; intro b e; injection e with e; subst e
    intro e; subst e
    have h1 := hh.symm.trans hL
    injection h1 with h1; injection h1 with h1 h2
    exact hne h2
end Go.Proofs.YtchkjiadnackaaaGreatDoor
