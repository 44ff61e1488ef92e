/- A region whose order is drawn and whose last operation comes behind all others (a store): by one fact on each operation. -/
import Derived.Test.YtkjhjmehppgmcaaDoorFacts
namespace Go.Proofs.YtkjhjmehppgmcaaDoor
open Go.RowKit

section
variable {P : Program} {ops : Array Oper} {Q : Exit → Act → World → Prop}

/-- The walk: a fact on each operation's value, and the last operation from all the facts. -/
def wpFactsT (P : Program) (ops : Array Oper) (Q : Exit → Act → World → Prop) (C : World → Prop) (T : World → World → Prop) (fr : (Nat → Value) → Act) : Nat → List Oper → List (Value → World → Prop) → Prop
  | _, [], _ => False
  | k, o :: l, Rs => (l = [] ∧ ∀ vs w, C w → (∀ (j : Nat) (R : Value → World → Prop), Rs[j]? = some R → R (vs j) w) → ∀ K : Act → World → Prop, (∀ a' w', Q .normal a' w' → K a' w') →
      if Region.wanted o (yielded ops (fr vs).tmps) = true then o.wp P (fr vs) w K Q else K ((fr vs).put o.dst undef) w) ∨
    (∃ R : Value → World → Prop, (∀ v w w', R v w → T w w' → R v w') ∧
    (∀ vs w, C w → (∀ (j : Nat) (R' : Value → World → Prop), ahead .any ops ops.size k j = true → Rs[j]? = some R' → R' (vs j) w) → ∀ K : Act → World → Prop, (∀ a' v w', a' = (fr vs).put o.dst v → R v w' → C w' → T w w' → K a' w') →
      if Region.wanted o (yielded ops (fr vs).tmps) = true then o.wp P (fr vs) w K Q else K ((fr vs).put o.dst undef) w) ∧
    wpFactsT P ops Q C T fr (k + 1) l (Rs ++ [R]))

theorem wpFactsT_all {C : World → Prop} {T : World → World → Prop} {fr : (Nat → Value) → Act} : ∀ (l : List Oper) (k : Nat) (Rs : List (Value → World → Prop)), (∀ i, l[i]? = ops[k + i]?) → Rs.length = k →
    (∀ (j : Nat) (R : Value → World → Prop), Rs[j]? = some R → ∀ v w w', R v w → T w w' → R v w') →
    (∀ (j : Nat) (o : Oper) (R : Value → World → Prop), j < k → ops[j]? = some o → Rs[j]? = some R → ∀ vs w, C w → (∀ (j' : Nat) (R' : Value → World → Prop), ahead .any ops ops.size j j' = true → j' < j → Rs[j']? = some R' → R' (vs j') w) → ∀ K : Act → World → Prop, (∀ a' v w', a' = (fr vs).put o.dst v → R v w' → C w' → T w w' → K a' w') →
      if Region.wanted o (yielded ops (fr vs).tmps) = true then o.wp P (fr vs) w K Q else K ((fr vs).put o.dst undef) w) →
    wpFactsT P ops Q C T fr k l Rs →
    ∃ Rs' : List (Value → World → Prop), Rs'.length + 1 = ops.size ∧ (∀ (j : Nat) (R : Value → World → Prop), Rs'[j]? = some R → ∀ v w w', R v w → T w w' → R v w') ∧
    (∀ (j : Nat) (o : Oper) (R : Value → World → Prop), ops[j]? = some o → Rs'[j]? = some R → ∀ vs w, C w → (∀ (j' : Nat) (R' : Value → World → Prop), ahead .any ops ops.size j j' = true → j' < j → Rs'[j']? = some R' → R' (vs j') w) → ∀ K : Act → World → Prop, (∀ a' v w', a' = (fr vs).put o.dst v → R v w' → C w' → T w w' → K a' w') →
      if Region.wanted o (yielded ops (fr vs).tmps) = true then o.wp P (fr vs) w K Q else K ((fr vs).put o.dst undef) w) ∧
    (∀ o, ops[Rs'.length]? = some o → ∀ vs w, C w → (∀ (j : Nat) (R : Value → World → Prop), Rs'[j]? = some R → R (vs j) w) → ∀ K : Act → World → Prop, (∀ a' w', Q .normal a' w' → K a' w') →
      if Region.wanted o (yielded ops (fr vs).tmps) = true then o.wp P (fr vs) w K Q else K ((fr vs).put o.dst undef) w)
  | [], k, Rs, _, _, _, _, h => h.elim
  | o :: l, k, Rs, hl, hlen, hst, hop, h => by
    have ho : ops[k]? = some o := by simpa using (hl 0).symm
    rcases h with ⟨rfl, hlast⟩ | ⟨R, hRs, hRo, hrest⟩
    · have h1 : ops[k + 1]? = none := by have := hl 1; simpa using this.symm
      have hk : k < ops.size := (Array.getElem?_eq_some_iff.1 ho).1
      have hk1 : ¬ k + 1 < ops.size := fun hh => by rw [Array.getElem?_eq_getElem hh] at h1; cases h1
      refine ⟨Rs, by omega, hst, fun j o R ho hR => hop j o R ?_ ho hR, fun o' ho' => ?_⟩
      · rw [← hlen]; exact (List.getElem?_eq_some_iff.1 hR).1
      · rw [hlen, ho] at ho'; cases ho'; exact hlast
    · have hold : ∀ j, j < k → (Rs ++ [R])[j]? = Rs[j]? := fun j hj => List.getElem?_append_left (by omega)
      have hnew : (Rs ++ [R])[k]? = some R := by rw [List.getElem?_append_right (by omega), hlen]; simp
      exact wpFactsT_all l (k + 1) (Rs ++ [R]) (fun i => by have := hl (i + 1); simpa [Nat.add_assoc, Nat.add_comm 1 i] using this) (by simp [hlen])
        (fun j R' hR' => by
          rcases Nat.lt_trichotomy j k with hj | hj | hj
          · rw [hold j hj] at hR'; exact hst j R' hR'
          · subst hj; rw [hnew] at hR'; cases hR'; exact hRs
          · rw [List.getElem?_eq_none (by simp [hlen]; omega)] at hR'; cases hR')
        (fun j o' R' hj ho' hR' vs w hC hB K hK => by
          rcases Nat.lt_or_ge j k with hjk | hjk
          · rw [hold j hjk] at hR'
            exact hop j o' R' hjk ho' hR' vs w hC (fun j' R'' ha hlt h'' => hB j' R'' ha hlt (by rw [hold j' (by omega)]; exact h'')) K hK
          · obtain rfl : j = k := by omega
            rw [ho] at ho'; cases ho'
            rw [hnew] at hR'; cases hR'
            refine hRo vs w hC (fun j' R'' ha h'' => ?_) K hK
            have hlt : j' < Rs.length := (List.getElem?_eq_some_iff.1 h'').1
            exact hB j' R'' ha (by omega) (by rw [hold j' (by omega)]; exact h''))
        hrest

def allAhead (ops : Array Oper) (n : Nat) : Bool := (List.range n).all fun j => ahead .any ops ops.size n j

theorem wpAny_factsT {C : World → Prop} {T : World → World → Prop} {a₀ : Act} (hap : dstsApart ops.toList = true) (hdn : edgesDown .any ops = true) (Rs : List (Value → World → Prop)) (hlen : Rs.length + 1 = ops.size) (hah : allAhead ops Rs.length = true)
    (hst : ∀ (j : Nat) (R : Value → World → Prop), Rs[j]? = some R → ∀ v w w', R v w → T w w' → R v w')
    (hop : ∀ (j : Nat) (o : Oper) (R : Value → World → Prop), ops[j]? = some o → Rs[j]? = some R → ∀ vs w, C w → (∀ (j' : Nat) (R' : Value → World → Prop), ahead .any ops ops.size j j' = true → j' < j → Rs[j']? = some R' → R' (vs j') w) → ∀ K : Act → World → Prop, (∀ a' v w', a' = (fillOps vs ops.toList 0 a₀).put o.dst v → R v w' → C w' → T w w' → K a' w') →
      if Region.wanted o (yielded ops (fillOps vs ops.toList 0 a₀).tmps) = true then o.wp P (fillOps vs ops.toList 0 a₀) w K Q else K ((fillOps vs ops.toList 0 a₀).put o.dst undef) w)
    (hlast : ∀ o, ops[Rs.length]? = some o → ∀ vs w, C w → (∀ (j : Nat) (R : Value → World → Prop), Rs[j]? = some R → R (vs j) w) → ∀ K : Act → World → Prop, (∀ a' w', Q .normal a' w' → K a' w') →
      if Region.wanted o (yielded ops (fillOps vs ops.toList 0 a₀).tmps) = true then o.wp P (fillOps vs ops.toList 0 a₀) w K Q else K ((fillOps vs ops.toList 0 a₀).put o.dst undef) w) :
    ∀ (fuel : Nat) (listed : Array Bool) (vs : Nat → Value) (w : World), listed.size = ops.size → unlisted ops.size listed ≤ fuel → Closed .any ops listed → listed.getD Rs.length false = false → C w → (∀ (j : Nat) (R : Value → World → Prop), listed.getD j false = true → Rs[j]? = some R → R (vs j) w) →
      wpAny P .any ops Q fuel listed (fillOps vs ops.toList 0 a₀) w := by
  intro fuel
  induction fuel with
  | zero =>
    intro listed vs w hs hu hcl hn hC hR
    have : unlisted ops.size (listed.setIfInBounds Rs.length true) < unlisted ops.size listed := unlisted_set (by omega) hs hn
    omega
  | succ fuel ih =>
    intro listed vs w hs hu hcl hn hC hR
    refine ⟨fun hr => ?_, fun i hi => ?_⟩
    · have := listed_ready hdn hs hr Rs.length (by omega)
      rw [hn] at this; cases this
    obtain ⟨h0, o, ho, hall⟩ := mem_ready.1 hi
    have hisz : i < ops.size := (Array.getElem?_eq_some_iff.1 ho).1
    have hil : i < listed.size := by omega
    have h0' : listed.getD i false = false := by simp only [Array.getD, hil, ↓reduceDIte] at h0 ⊢; exact h0
    by_cases hin : i = Rs.length
    · have hall' : ∀ j, j < Rs.length → listed.getD j false = true := fun j hj => by
        refine ahead_listed hcl ops.size i j (fun o' ho' => by rw [ho] at ho'; cases ho'; exact hall) ?_
        rw [hin]; exact List.all_eq_true.1 hah j (List.mem_range.2 hj)
      have hstep := hlast o (by rw [← hin]; exact ho) vs w hC (fun j R hj => hR j R (hall' j (List.getElem?_eq_some_iff.1 hj).1) hj)
        (wpAny P .any ops Q fuel (listed.setIfInBounds i true)) (fun a' w' hq => by
          have hfull : ∀ j, j ∉ Region.ready .any ops (listed.setIfInBounds i true) := fun j hj => by
            obtain ⟨g0, o', ho', _⟩ := mem_ready.1 hj
            have hjs : j < ops.size := (Array.getElem?_eq_some_iff.1 ho').1
            have hjl : j < (listed.setIfInBounds i true).size := by simp; omega
            have g0' : (listed.setIfInBounds i true).getD j false = false := by simp only [Array.getD, hjl, ↓reduceDIte] at g0 ⊢; exact g0
            by_cases hji : j = i
            · subst hji; simp [hil] at g0'
            · rw [getD_set_ne false (Ne.symm hji), hall' j (by omega)] at g0'; cases g0'
          have hnil : Region.ready .any ops (listed.setIfInBounds i true) = [] := List.eq_nil_iff_forall_not_mem.2 hfull
          cases fuel with
          | zero => exact ⟨hnil, hq⟩
          | succ fuel => exact ⟨fun _ => hq, fun j hj => absurd hj (hfull j)⟩)
      unfold wpOp
      simp only [ho]
      split
      · rename_i hw; rw [if_pos hw] at hstep; exact .inl hstep
      · rename_i hw; rw [if_neg hw] at hstep; exact hstep
    obtain ⟨R, hRi⟩ : ∃ R, Rs[i]? = some R := ⟨Rs[i]'(by omega), List.getElem?_eq_getElem (by omega)⟩
    have hstep := hop i o R ho hRi vs w hC (fun j' R' ha _ hR' => hR j' R' (ahead_listed hcl ops.size i j' (fun o' ho' => by rw [ho] at ho'; cases ho'; exact hall) ha) hR')
      (wpAny P .any ops Q fuel (listed.setIfInBounds i true)) (fun a' v w' ha hRv hC' hT => by
        rw [ha, fillOps_upd ops.toList 0 a₀ vs i o v hap (by simpa using ho), Nat.zero_add]
        refine ih _ _ _ (by simpa using hs) ?_ ?_ ?_ hC' ?_
        · have := unlisted_set hisz hs h0'; omega
        · intro j oj hoj hj e he hb
          by_cases hji : j = i
          · subst hji; rw [ho] at hoj; cases hoj; exact getD_set_true (hall e he hb)
          · rw [getD_set_ne false (Ne.symm hji)] at hj; exact getD_set_true (hcl j oj hoj hj e he hb)
        · rw [getD_set_ne false (fun h => hin h)]; exact hn
        · intro j R' hj hR'
          by_cases hji : j = i
          · subst hji; rw [hRi] at hR'; cases hR'; simpa [upd] using hRv
          · rw [getD_set_ne false (Ne.symm hji)] at hj
            have := hst j R' hR' _ _ _ (hR j R' hj hR') hT
            simpa [upd, hji] using this)
    unfold wpOp
    simp only [ho]
    split
    · rename_i hw; rw [if_pos hw] at hstep; exact .inl hstep
    · rename_i hw; rw [if_neg hw] at hstep; exact hstep

/-- The region. -/
theorem wp_region_factsT {id : Nat} {a : Act} {w : World} {l : List Oper} (C : World → Prop) (T : World → World → Prop) (hm : P.follows .mixedOrders = true) (hap : dstsApart l = true) (hdn : edgesDown .any l.toArray = true) (hah : allAhead l.toArray (l.length - 1) = true)
    (hC : C w.drew) (h : wpFactsT P l.toArray Q C T (fun vs => fillOps vs l 0 a) 0 l []) : (Code.region id l.toArray true).wp P Q a w := by
  refine wp_region_any hm ?_
  obtain ⟨Rs, h1, h2, h3, h4⟩ := wpFactsT_all (ops := l.toArray) l 0 [] (by simp) rfl (by simp) (by simp) h
  obtain ⟨vs, hvs⟩ : ∃ vs : Nat → Value, ∀ i o t, l[i]? = some o → o.dst = some t → vs (0 + i) = a.tmps.getD t undef :=
    ⟨fun i => match (l[i]?).bind (·.dst) with | some t => a.tmps.getD t undef | none => undef, fun i o t hi ht => by simp [hi, ht]⟩
  have hl1 : Rs.length = l.length - 1 := by have h1' : Rs.length + 1 = l.length := by simpa using h1
                                            omega
  have := wpAny_factsT (P := P) (Q := Q) (ops := l.toArray) (C := C) (T := T) (a₀ := a) hap hdn Rs h1 (by rw [hl1]; exact hah) h2 h3 h4 l.toArray.size (Array.replicate l.toArray.size false) vs w.drew (by simp)
    (Nat.le_trans (List.length_filter_le _ _) (by simp)) (fun j o hj hl => by simp [Array.getD] at hl) (by simp [Array.getD]) hC (fun j R hl => by simp [Array.getD] at hl)
  rwa [fillOps_self vs _ 0 a (by simpa using hvs)] at this

theorem wpFactsT_last {C : World → Prop} {T : World → World → Prop} {fr : (Nat → Value) → Act} {k : Nat} {o : Oper} {Rs : List (Value → World → Prop)} (h : ∀ vs w, C w → (∀ (j : Nat) (R : Value → World → Prop), Rs[j]? = some R → R (vs j) w) → ∀ K : Act → World → Prop, (∀ a' w', Q .normal a' w' → K a' w') →
      if Region.wanted o (yielded ops (fr vs).tmps) = true then o.wp P (fr vs) w K Q else K ((fr vs).put o.dst undef) w) : wpFactsT P ops Q C T fr k [o] Rs := .inl ⟨rfl, h⟩
/-- An operation with one value. -/
theorem wpFactsT_val {C : World → Prop} {T : World → World → Prop} {fr : (Nat → Value) → Act} {k : Nat} {o : Oper} {l : List Oper} {Rs : List (Value → World → Prop)} (V : Value)
    (h1 : ∀ vs w, C w → (∀ (j : Nat) (R' : Value → World → Prop), ahead .any ops ops.size k j = true → Rs[j]? = some R' → R' (vs j) w) → ∀ K : Act → World → Prop, (∀ a' w', a' = (fr vs).put o.dst V → C w' → T w w' → K a' w') →
      if Region.wanted o (yielded ops (fr vs).tmps) = true then o.wp P (fr vs) w K Q else K ((fr vs).put o.dst undef) w)
    (h2 : wpFactsT P ops Q C T fr (k + 1) l (Rs ++ [fun v _ => v = V])) : wpFactsT P ops Q C T fr k (o :: l) Rs :=
  .inr ⟨fun v _ => v = V, fun _ _ _ h _ => h, fun vs w hC hB K hK => h1 vs w hC hB K fun a' w' ha hC' hT => hK a' V w' ha rfl hC' hT, h2⟩
/-- An operation whose value has a property. -/
theorem wpFactsT_some {C : World → Prop} {T : World → World → Prop} {fr : (Nat → Value) → Act} {k : Nat} {o : Oper} {l : List Oper} {Rs : List (Value → World → Prop)} (R : Value → World → Prop) (hR : ∀ v w w', R v w → T w w' → R v w')
    (h1 : ∀ vs w, C w → (∀ (j : Nat) (R' : Value → World → Prop), ahead .any ops ops.size k j = true → Rs[j]? = some R' → R' (vs j) w) → ∀ K : Act → World → Prop, (∀ a' v w', a' = (fr vs).put o.dst v → R v w' → C w' → T w w' → K a' w') →
      if Region.wanted o (yielded ops (fr vs).tmps) = true then o.wp P (fr vs) w K Q else K ((fr vs).put o.dst undef) w)
    (h2 : wpFactsT P ops Q C T fr (k + 1) l (Rs ++ [R])) : wpFactsT P ops Q C T fr k (o :: l) Rs :=
  .inr ⟨R, hR, h1, h2⟩
end
end Go.Proofs.YtkjhjmehppgmcaaDoor
