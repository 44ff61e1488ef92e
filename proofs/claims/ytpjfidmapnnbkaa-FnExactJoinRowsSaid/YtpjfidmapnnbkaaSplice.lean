/- Rows that are spliced: copy, clear, append in place, at elements of k cells (no program in sight). -/
import Derived.Test.YtpjfidmapnnbkaaCat
import Derived.Lib.Overlaps
import Derived.Lib.SliceRun
import Derived.Laws.IdiomCopy
import Derived.Deep.RegionLaw
import Derived.Laws.Externs
import Derived.Lib.AppendZerosOnto
namespace Go.Proofs.Ytpjfidmapnnbkaa
open Go.RowKit

theorem Lies.setCells {g : Nat} {t : TypeId} : ∀ (vs : List Value) (o : Nat) (w : World) (cs : List Value), Lies w g t cs → o + vs.length ≤ cs.length → Lies (w.setCells g o vs) g t (splice cs o vs)
  | [], o, w, cs, h, _ => by simpa [World.setCells, splice] using h
  | v :: r, o, w, cs, h, hl => by
    rw [World.setCells]
    have h2 := Lies.setCells r (o + 1) (w.setCell ⟨g, o, none⟩ v) (cs.set o v) (h.set o v) (by simp at hl ⊢; omega)
    have e : splice (cs.set o v) (o + 1) r = splice cs o (v :: r) := by
      unfold splice
      have hlt : o < cs.length := by simp at hl; omega
      have e1 : (cs.set o v).take (o + 1) = cs.take o ++ [v] := by
        rw [List.take_set, List.take_succ_eq_append_getElem hlt, List.set_append_right _ _ (by rw [List.length_take]; omega)]
        rw [List.length_take, Nat.min_eq_left (by omega), Nat.sub_self]; rfl
      have e2 : (cs.set o v).drop (o + 1 + r.length) = cs.drop (o + (v :: r).length) := by
        rw [List.drop_set_of_lt (by omega)]; congr 1; simp; omega
      rw [e1, e2]; simp
    rw [e] at h2; exact h2
theorem grown_setCells {a : World} {g : Nat} : ∀ (vs : List Value) (o : Nat) (w : World), a.grownBy w (some g) → a.grownBy (w.setCells g o vs) (some g)
  | [], _, _, h => h
  | v :: r, o, w, h => by
    rw [World.setCells]
    have hs : a.grownBy (w.setCell ⟨g, o, none⟩ v) (some g) :=
      ⟨h.os, h.tape, h.output, by have := h.size; simpa [World.setCell] using this, fun k hk hne => (Below.heap_setCell w ⟨g, o, none⟩ v k (fun e => hne (by rw [e]))).trans (h.block k hk hne)⟩
    exact grown_setCells r (o + 1) _ hs
theorem Lies.drew {w : World} {g : Nat} {t : TypeId} {cs : List Value} (h : Lies w g t cs) : Lies w.drew g t cs := h

/-- copy at elements of k cells. -/
theorem run_copy_k {P : Program} (w : World) (dT sT ty elem : TypeId) (k b o dLen dCap : Nat) (a : Addr) (sLen sCap : Nat) (cs : List Value)
    (hu : P.underlying dT = some (.slice elem)) (hs : (P.info? elem).map (·.size) = some k) (hn : cs.length = Nat.min sLen dLen * k)
    (hsrc : ∀ j v, cs[j]? = some v → w.cell? (a.add j) = some v) (hc : ∀ j, j < cs.length → (w.cell? ⟨b, o + j, none⟩).isSome = true) (hf : ∀ j, j < cs.length → w.frozen? ⟨b, o + j, none⟩ = false) (h1 : ∀ v ∈ cs, v.oneCell' = true) :
    (Builtin.copy_ #[dT, sT] ty #[.slice (some ⟨b, o, none⟩) dLen dCap, .slice (some a) sLen sCap]).run P w = .ok (goInt (Nat.min sLen dLen)) (w.setCells b o cs) := by
  have hst := run_storeCells_cells (P := P) b o cs 0 w (by simpa using hc) (by simpa using hf) h1
  cases hq : P.info? elem with
  | none => simp [hq] at hs
  | some i =>
    have hi : i.size = k := by simpa [hq] using hs
    have hfc := run_firstCells_some (P := P) w k (Nat.min sLen dLen) a sLen sCap cs hn hsrc
    simp [Builtin.copy_, run_underlying hu, Builtin.lenOf, sizeOf, typeInfo, hq, hi, hfc, hst]
/-- copy into a block that is known whole. -/
theorem run_copy_own {P : Program} (w : World) (dT sT ty elem e : TypeId) (k b o dLen dCap : Nat) (a : Addr) (sLen sCap m : Nat) (cs cur : List Value)
    (hu : P.underlying dT = some (.slice elem)) (hs : (P.info? elem).map (·.size) = some k) (hm : Nat.min sLen dLen = m) (hn : cs.length = m * k)
    (hL : Lies w b e cur) (hfit : o + cs.length ≤ cur.length) (hsrc : ∀ j v, cs[j]? = some v → w.cell? (a.add j) = some v) (h1 : ∀ v ∈ cs, v.oneCell' = true) :
    (Builtin.copy_ #[dT, sT] ty #[.slice (some ⟨b, o, none⟩) dLen dCap, .slice (some a) sLen sCap]).run P w = .ok (goInt m) (w.setCells b o cs) := by
  subst hm
  exact run_copy_k w dT sT ty elem k b o dLen dCap a sLen sCap cs hu hs hn hsrc (fun j hj => by rw [hL.cell, List.getElem?_eq_getElem (by omega)]; rfl) (fun j hj => hL.frozen _) h1
/-- clear at elements of k cells. -/
theorem run_clear_k {P : Program} (w : World) (t e ty : TypeId) (z : Value) (zs : List Value) (ht : P.underlying t = some (.slice e)) (hv : ∀ w, (zeroValue e).run P w = .ok z w) (b o n c : Nat) (hn : 0 < n) (hz : (Builtin.zeroCells z.cells n).toList = zs) (h1 : ∀ v ∈ zs, v.oneCell' = true)
    (hc : ∀ j, j < zs.length → (w.cell? ⟨b, o + j, none⟩).isSome = true) (hf : ∀ j, j < zs.length → w.frozen? ⟨b, o + j, none⟩ = false) :
    (Builtin.clear_ #[t] ty #[.slice (some ⟨b, o, none⟩) n c]).run P w = .ok (.tuple #[]) (w.setCells b o zs) := by
  have hst := run_storeCells_cells (P := P) b o zs 0 w (by simpa using hc) (by simpa using hf) h1
  simp only [Nat.add_zero] at hst
  obtain ⟨m, rfl⟩ : ∃ m, n = m + 1 := ⟨n - 1, by omega⟩
  simp [Builtin.clear_, run_underlying ht, hv, hz, hst]

/-- What an insertion in place leaves. -/
theorem splice_insert (cur xs x : List Value) (i k n : Nat) (hx : x.length = k) (hxs : xs.length = n * k) (hi : i ≤ n) (hcur : cur.take (n * k) = xs) (hroom : (n + 1) * k ≤ cur.length) :
    (splice (splice cur (i * k + k) (xs.drop (i * k))) (i * k) x).take ((n + 1) * k) = xs.take (i * k) ++ x ++ xs.drop (i * k) := by
  have hik : i * k ≤ n * k := Nat.mul_le_mul_right k hi
  have hn1 : (n + 1) * k = n * k + k := Nat.succ_mul n k
  rw [hn1] at hroom ⊢
  have hl0 : n * k ≤ cur.length := by omega
  have et : (cur.take (i * k)) = xs.take (i * k) := by rw [← hcur, List.take_take, Nat.min_eq_left hik]
  have hd : (xs.drop (i * k)).length = n * k - i * k := by rw [List.length_drop, hxs]
  have e1 : splice cur (i * k + k) (xs.drop (i * k)) = cur.take (i * k + k) ++ xs.drop (i * k) ++ cur.drop (n * k + k) := by
    unfold splice; rw [hd]; congr 2; omega
  have l1 : (cur.take (i * k + k)).length = i * k + k := by rw [List.length_take]; omega
  rw [e1]
  unfold splice
  have e2 : (cur.take (i * k + k) ++ xs.drop (i * k) ++ cur.drop (n * k + k)).take (i * k) = xs.take (i * k) := by
    rw [List.append_assoc, List.take_append_of_le_length (by omega), List.take_take, Nat.min_eq_left (by omega), et]
  have e3 : (cur.take (i * k + k) ++ xs.drop (i * k) ++ cur.drop (n * k + k)).drop (i * k + x.length) = xs.drop (i * k) ++ cur.drop (n * k + k) := by
    rw [hx, List.append_assoc, List.drop_append_of_le_length (by omega), List.drop_of_length_le (by omega), List.nil_append]
  rw [e2, e3, ← List.append_assoc]
  have l2 : (xs.take (i * k) ++ x ++ xs.drop (i * k)).length = n * k + k := by
    rw [List.length_append, List.length_append, List.length_take, hd, hxs, hx]; omega
  rw [List.take_append_of_le_length (by omega), List.take_of_length_le (by omega)]
theorem splice_len (cs vs : List Value) (o : Nat) (h : o + vs.length ≤ cs.length) : (splice cs o vs).length = cs.length := by
  unfold splice; simp; omega
/-- What a deletion leaves. -/
theorem splice_delete (cur xs zs : List Value) (i k n : Nat) (hz : zs.length = k) (hxs : xs.length = n * k) (hi : i < n) (hcur : cur.take (n * k) = xs) (hl : n * k ≤ cur.length) :
    (splice (splice cur (i * k) (xs.drop (i * k + k))) ((n - 1) * k) zs).take ((n - 1) * k) = xs.take (i * k) ++ xs.drop (i * k + k) := by
  have hik : i * k + k ≤ n * k := by rw [← Nat.succ_mul]; exact Nat.mul_le_mul_right k hi
  have hn1 : (n - 1) * k + k = n * k := by rw [← Nat.succ_mul]; congr 1; omega
  have et : (cur.take (i * k)) = xs.take (i * k) := by rw [← hcur, List.take_take, Nat.min_eq_left (by omega)]
  have hd : (xs.drop (i * k + k)).length = n * k - (i * k + k) := by rw [List.length_drop, hxs]
  have l1 : (xs.take (i * k) ++ xs.drop (i * k + k)).length = (n - 1) * k := by rw [List.length_append, List.length_take, hd, hxs]; omega
  have e1 : (splice cur (i * k) (xs.drop (i * k + k))).take ((n - 1) * k) = xs.take (i * k) ++ xs.drop (i * k + k) := by
    unfold splice; rw [et, List.take_append_of_le_length (by omega), List.take_of_length_le (by omega)]
  have l2 : (splice cur (i * k) (xs.drop (i * k + k))).length = cur.length := splice_len _ _ _ (by rw [hd]; omega)
  have e2 : (splice (splice cur (i * k) (xs.drop (i * k + k))) ((n - 1) * k) zs) = (splice cur (i * k) (xs.drop (i * k + k))).take ((n - 1) * k) ++ (zs ++ (splice cur (i * k) (xs.drop (i * k + k))).drop ((n - 1) * k + zs.length)) := by
    rw [splice, List.append_assoc]
  rw [e2, List.take_append_of_le_length (by rw [List.length_take]; omega), List.take_take, Nat.min_self, e1]
/-- What an insertion into a new row leaves. -/
theorem splice_grow (xs x Z : List Value) (i k n : Nat) (hx : x.length = k) (hxs : xs.length = n * k) (hi : i ≤ n) (hZ : (n + 1) * k ≤ i * k + Z.length) :
    (splice (splice (xs.take (i * k) ++ Z) (i * k) x) ((i + 1) * k) (xs.drop (i * k))).take ((n + 1) * k) = xs.take (i * k) ++ x ++ xs.drop (i * k) := by
  have hik : i * k ≤ n * k := Nat.mul_le_mul_right k hi
  have hn1 : (n + 1) * k = n * k + k := Nat.succ_mul n k
  have hi1 : (i + 1) * k = i * k + k := Nat.succ_mul i k
  rw [hn1] at hZ ⊢
  rw [hi1]
  have lt : (xs.take (i * k)).length = i * k := by rw [List.length_take]; omega
  have ld : (xs.drop (i * k)).length = n * k - i * k := by rw [List.length_drop, hxs]
  have e1 : splice (xs.take (i * k) ++ Z) (i * k) x = xs.take (i * k) ++ x ++ Z.drop k := by
    unfold splice
    rw [List.take_append_of_le_length (by omega), List.take_of_length_le (by omega), List.drop_append, List.drop_eq_nil_of_le (by omega), lt, hx, List.nil_append]
    congr 2; omega
  have l1 : (xs.take (i * k) ++ x).length = i * k + k := by rw [List.length_append, lt, hx]
  rw [e1]
  unfold splice
  have e2 : (xs.take (i * k) ++ x ++ Z.drop k).take (i * k + k) = xs.take (i * k) ++ x := by
    rw [List.take_append_of_le_length (by omega), List.take_of_length_le (by omega)]
  rw [e2]
  have l2 : (xs.take (i * k) ++ x ++ xs.drop (i * k)).length = n * k + k := by rw [List.length_append, l1, ld]; omega
  rw [List.take_append_of_le_length (by omega), List.take_of_length_le (by omega)]
theorem Lies.shape {w : World} {g : Nat} {t : TypeId} {cs : List Value} (h : Lies w g t cs) : w.shape? g = some (t, cs.length) := by
  unfold Lies at h; simp [World.shape?, h]
/-- Two blocks of their own do not overlap. -/
theorem run_overlaps_own {P : Program} (w : World) (f : FuncId) (fn : Func) (tS tR e : TypeId) (hf : P.funcs[f]? = some fn) (hname : (fn.name == "runtime.NumGoroutine") = false) (hb : fn.body.isNone = true) (hnx : Extern.findNext fn = none) (he : Extern.find fn = some (Extern.SlicesOverlaps.overlaps #[tS, tS] #[tR]))
    (ht : P.underlying tS = some (.slice e)) (size : Nat) (hz : ∀ w, (Go.sizeOf e).run P w = .ok size w) (ga gb : Nat) (oa ob la ca lb cb : Nat) (hne : ga ≠ gb) (ta tb : TypeId) (xa xb : List Value) (hLa : Lies w ga ta xa) (hLb : Lies w gb tb xb) (hxb : xb.length ≠ 0) :
    (callFunc f #[.slice (some ⟨ga, oa, none⟩) la ca, .slice (some ⟨gb, ob, none⟩) lb cb]).run P w = .ok (.value (.bool false)) w := by
  rw [run_callFunc_extern hf hname hb hnx he, Lib.run_overlaps_apart w tS tR e ht size hz ⟨ga, oa, none⟩ ⟨gb, ob, none⟩ la ca lb cb hne ta tb _ _ hLa.shape hLb.shape hxb (hLa.frozen _) (hLa.frozen _)]
  rfl

/-- The operation copy, where its run is known. -/
theorem wp_copy_known {P : Program} (w : World) {o : Oper} {a : Act} {K : Act → World → Prop} {Q : Exit → Act → World → Prop} (d s : Operand) (t t' : TypeId)
    (ho : o.op = .call { callee := .builtin .copy, args := #[d, s], argTypes := #[t, t'] }) (v u : Value) (hd : a.eval d = v) (hs : a.eval s = u) {v' : Value} {w' : World}
    (hr : (Builtin.copy_ #[t, t'] o.type #[v, u]).run P w = .ok v' w') (h : K (a.put o.dst v') w') : o.wp P a w K Q := by
  unfold Oper.wp execOp
  simp only [ho, resolve, invoke, builtin, Sem.run_bind, Sem.run_pure, Result.andThen_ok, List.map_toArray, List.map_cons, List.map_nil, hd, hs, hr]
  exact h
theorem wp_copy_own {P : Program} {w : World} {o : Oper} {a : Act} {K : Act → World → Prop} {Q : Exit → Act → World → Prop} (d s : Operand) (t : TypeId)
    (ho : o.op = .call { callee := .builtin .copy, args := #[d, s], argTypes := #[t, t] }) (e elem : TypeId) (k b ofs dLen dCap : Nat) (A : Addr) (sLen sCap m : Nat) (cs cur : List Value)
    (hd : a.eval d = .slice (some ⟨b, ofs, none⟩) dLen dCap) (hs : a.eval s = .slice (some A) sLen sCap)
    (hu : P.underlying t = some (.slice elem)) (hi : (P.info? elem).map (·.size) = some k) (hm : Nat.min sLen dLen = m) (hn : cs.length = m * k)
    (hL : Hid (Lies w b e cur)) (hfit : Hid (ofs + cs.length ≤ cur.length)) (hsrc : Hid (∀ j v, cs[j]? = some v → w.cell? (A.add j) = some v)) (h1 : Hid (∀ v ∈ cs, v.oneCell' = true))
    (h : ∀ w', Hid (Lies w' b e (splice cur ofs cs)) → w.grownBy w' (some b) → K (a.put o.dst (goInt m)) w') : o.wp P a w K Q :=
  wp_copy_known w d s t t ho _ _ hd hs (run_copy_own w t t o.type elem e k b ofs dLen dCap A sLen sCap m cs cur hu hi hm hn hL.out hfit.out hsrc.out h1.out) (h _ (Lies.setCells cs ofs w cur hL.out hfit.out) (grown_setCells cs ofs w (World.grownBy.refl w _)))
theorem wpList_copy_own {P : Program} {w : World} {ops : Array Oper} {rest : List Oper} {o : Oper} {a : Act} {Q : Exit → Act → World → Prop} (hgd : o.guard = none) (d s : Operand) (t : TypeId)
    (ho : o.op = .call { callee := .builtin .copy, args := #[d, s], argTypes := #[t, t] }) (e elem : TypeId) (k b ofs dLen dCap : Nat) (A : Addr) (sLen sCap m : Nat) (cs cur : List Value)
    (hd : a.eval d = .slice (some ⟨b, ofs, none⟩) dLen dCap) (hs : a.eval s = .slice (some A) sLen sCap)
    (hu : P.underlying t = some (.slice elem)) (hi : (P.info? elem).map (·.size) = some k) (hm : Nat.min sLen dLen = m) (hn : cs.length = m * k)
    (hL : Hid (Lies w b e cur)) (hfit : Hid (ofs + cs.length ≤ cur.length)) (hsrc : Hid (∀ j v, cs[j]? = some v → w.cell? (A.add j) = some v)) (h1 : Hid (∀ v ∈ cs, v.oneCell' = true))
    (h : ∀ w', Hid (Lies w' b e (splice cur ofs cs)) → w.grownBy w' (some b) → wpList P ops Q rest (a.put o.dst (goInt m)) w') : wpList P ops Q (o :: rest) a w :=
  wpList_plain hgd fun _ hK => wp_copy_own d s t ho e elem k b ofs dLen dCap A sLen sCap m cs cur hd hs hu hi hm hn hL hfit hsrc h1 fun w' h2 h3 => hK _ _ (h w' h2 h3)
theorem step_copy_own {P : Program} {w : World} {ops : Array Oper} {o : Oper} {a : Act} {K : Act → World → Prop} {Q : Exit → Act → World → Prop} {E : Prop} (hgd : o.guard = none) (d s : Operand) (t : TypeId)
    (ho : o.op = .call { callee := .builtin .copy, args := #[d, s], argTypes := #[t, t] }) (e elem : TypeId) (k b ofs dLen dCap : Nat) (A : Addr) (sLen sCap m : Nat) (cs cur : List Value)
    (hd : a.eval d = .slice (some ⟨b, ofs, none⟩) dLen dCap) (hs : a.eval s = .slice (some A) sLen sCap)
    (hu : P.underlying t = some (.slice elem)) (hi : (P.info? elem).map (·.size) = some k) (hm : Nat.min sLen dLen = m) (hn : cs.length = m * k)
    (hL : Hid (Lies w b e cur)) (hfit : Hid (ofs + cs.length ≤ cur.length)) (hsrc : Hid (∀ j v, cs[j]? = some v → w.cell? (A.add j) = some v)) (h1 : Hid (∀ v ∈ cs, v.oneCell' = true))
    (h : ∀ w', Hid (Lies w' b e (splice cur ofs cs)) → w.grownBy w' (some b) → K (a.put o.dst (goInt m)) w') :
    if Region.wanted o (yielded ops a.tmps) = true then Oper.wp P o a w K Q else E := by
  have hw : Region.wanted o (yielded ops a.tmps) = true := by simp [Region.wanted, hgd]
  rw [if_pos hw]
  exact wp_copy_own d s t ho e elem k b ofs dLen dCap A sLen sCap m cs cur hd hs hu hi hm hn hL hfit hsrc h1 h
/-- The operation clear, into a block that is known whole. -/
theorem wpList_clear_own {P : Program} {w : World} {ops : Array Oper} {rest : List Oper} {o : Oper} {a : Act} {Q : Exit → Act → World → Prop} (hgd : o.guard = none) (d : Operand) (t : TypeId)
    (ho : o.op = .call { callee := .builtin .clear, args := #[d], argTypes := #[t] }) (e el : TypeId) (z : Value) (zs : List Value) (b ofs n c : Nat) (cur : List Value) (hd : a.eval d = .slice (some ⟨b, ofs, none⟩) n c)
    (ht : P.underlying t = some (.slice e)) (hv : ∀ w, (zeroValue e).run P w = .ok z w) (hn : 0 < n) (hz : (Builtin.zeroCells z.cells n).toList = zs) (h1 : ∀ v ∈ zs, v.oneCell' = true)
    (hL : Hid (Lies w b el cur)) (hfit : Hid (ofs + zs.length ≤ cur.length))
    (h : ∀ w', Hid (Lies w' b el (splice cur ofs zs)) → w.grownBy w' (some b) → wpList P ops Q rest (a.put o.dst (.tuple #[])) w') : wpList P ops Q (o :: rest) a w := by
  have hr := run_clear_k (P := P) w t e o.type z zs ht hv b ofs n c hn hz h1 (fun j hj => by rw [hL.out.cell, List.getElem?_eq_getElem (by have := hfit.out; omega)]; rfl) (fun j hj => hL.out.frozen _)
  refine wpList_plain hgd fun K hK => ?_
  unfold Oper.wp execOp
  simp only [ho, resolve, invoke, builtin, Sem.run_bind, Sem.run_pure, Result.andThen_ok, List.map_toArray, List.map_cons, List.map_nil, hd, hr]
  exact hK _ _ (h _ (Lies.setCells zs ofs w cur hL.out hfit.out) (grown_setCells zs ofs w (World.grownBy.refl w _)))
end Go.Proofs.Ytpjfidmapnnbkaa
